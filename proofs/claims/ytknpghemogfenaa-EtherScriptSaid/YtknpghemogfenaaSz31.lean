/- Chapter 31: acts of both ethers. -/
import Derived.Test.YtknpghemogfenaaSx31
namespace Go.Proofs.Ytknpghemogfenaa
open Go.Conc Go.RowKit
set_option linter.unusedVariables false
/-- Both ethers as one, as far as the law goes. -/
def SL (w0 w : World) (X E : Nat) (s : ES) (N : Nat) : Prop := ∃ Fx Fr, SC w0 w X E s s N Fx Fr
/-- What an act leaves. -/
def SLto (w0 w' : World) (X E i q : Nat) : Prop := ∃ s' N', SL w0 w' X E s' N' ∧ BD s' N' i q
theorem SV.sl {w0 wz w : World} {X E N : Nat} {s : ES} {Z : Nat → Prop} (h : SV w0 wz w X E s s N Z) : SL w0 w X E s N := by
  obtain ⟨Fx, Fr, h1, _⟩ := h; exact ⟨Fx, Fr, h1⟩
theorem SL.below {w0 w w' : World} {X E N : Nat} {s : ES} (h : SL w0 w X E s N) (hb : Below w.heap.size w w') : SL w0 w' X E s N := by
  obtain ⟨Fx, Fr, h1⟩ := h; exact ⟨Fx, Fr, h1.below hb⟩
theorem SL.b {w0 w : World} {X E N : Nat} {s : ES} (h : SL w0 w X E s N) : Below w0.heap.size w0 w := by obtain ⟨Fx, Fr, h1⟩ := h; exact h1.b
/-- Old blocks and new ones stay. -/
theorem SL.sv {w0 w w' : World} {X E N : Nat} {s : ES} (h : SL w0 w X E s N) (hb : Below w.heap.size w w') : SV w0 w' w' X E s s N (fun k => k < w0.heap.size ∨ (w.heap.size ≤ k ∧ k < w'.heap.size)) := by
  obtain ⟨Fx, Fr, h1⟩ := h
  refine SV.start (h1.below hb) fun k hk => ?_
  have hz := hb.size
  have hz0 := h1.b.size
  rcases hk with hk | hk
  · exact ⟨(h1.old hk).1, (h1.old hk).2, by omega⟩
  · exact ⟨fun hf => by have := (h1.lx.2.1 k hf).2; omega, fun hf => by have := (h1.lr.fb k hf).2; omega, hk.2⟩
theorem SV.mut {w0 wz w : World} {X E N : Nat} {sx sr : ES} {Z : Nat → Prop} (h : SV w0 wz w X E sx sr N Z) {A : Option Addr} {n g off : Nat} {xs : List Value} (hm : Mut wz A n g off xs) (hg : Z g) : Mut w A n g off xs := by
  obtain ⟨Fx, Fr, _, _, h3⟩ := h
  refine ⟨hm.1, fun hn => ?_⟩
  obtain ⟨h1, t, cur, h2, h4⟩ := hm.2 hn
  exact ⟨h1, t, cur, h3.bk h2 fun hh => hh hg, h4⟩
theorem SV.over {w0 wz w w' : World} {X E N : Nat} {s : ES} {Z : Nat → Prop} (h : SV w0 wz w X E s s N Z) {g : Nat} (hc : Chg (fun k => k = g) w w') (hg : Z g) (h0 : w0.heap.size ≤ g) : SL w0 w' X E s N := by
  obtain ⟨Fx, Fr, h1, h2, h3⟩ := h
  exact ⟨Fx, Fr, h1.other hc fun k _ e => by subst e; exact ⟨(h2 k hg).1, (h2 k hg).2.1, h0⟩⟩
set_option maxRecDepth 100000 in
set_option maxHeartbeats 6400000 in
theorem does01_any {w0 w : World} {X E N n c i q : Nat} {s : ES} {A : Option Addr} {x : List UInt8} {kd d many : Int} (h : SL w0 w X E s N) (hbd : BD s N i q) (hi : i ≤ 60) (hq : q ≤ 3) (hr : Rd w A n (bys x)) (ha : 0 < n → ∀ a, A = some a → a.block < w0.heap.size) (hn : n ≤ 140737488351232) (hk : kd = 0 ∨ kd = 1) :
    Calls Try.prog 27 #[.pointer (some ⟨X, 0, none⟩), .pointer (some ⟨E, 0, none⟩), .agg #[.int .i64 kd, .int .i64 d, .int .i64 many, .slice A n c]] w fun e w' => e = .returned (.bool true) ∧ SLto w0 w' X E (i + 1) q := by
  obtain ⟨er, her⟩ : ∃ er, sendE d n = er := ⟨_, rfl⟩
  have H := Lib.hid (And.intro h (And.intro hbd (And.intro (hbd.big (by omega) hq) (And.intro hr (And.intro ha (And.intro hn her))))))
  have x1 : (er == er) = true := by simp
  have HI := Lib.hid (And.intro (show i + 1 ≤ 61 by omega) hq)
  clear h hbd hi hq hr ha hn her
  rcases hk with rfl | rfl
  all_goals go_enter Try.func27, Try.ntmps27
  all_goals go_wp2_with fail
  all_goals refine (lent_any (H.out.2.2.2.1.alloc _) H.out.2.2.2.2.2.1).mono ?_
  all_goals rintro _ w2 ⟨A2, c2, rfl, hc2, ho2, hb2⟩
  all_goals
    obtain ⟨g2, cur2, hA2, _⟩ := own_formN ho2 (by omega)
    subst hA2
    have k1 : w2.cell? ⟨w.heap.size, 1, none⟩ = some (.int .i64 d) := cell_below hb2 ((Bk.newA w _ _).cell 1)
    have k3 : w2.cell? ⟨w.heap.size, 3, none⟩ = some (.slice A n c) := cell_below hb2 ((Bk.newA w _ _).cell 3)
    have hbw2 := below_base ((Below.refl w.heap.size w).alloc (Nat.le_refl _) (.cells #[_, .int .i64 d, .int .i64 many, .slice A n c] 34)) hb2 (by rw [World.size_alloc]; omega)
    have hsv := H.out.1.sv hbw2
    have hg2 := own_ty ho2 (g := g2) rfl
    rw [World.size_alloc] at hg2
    obtain ⟨⟨cs2, hbk2⟩, hg2b⟩ := hg2
    have hlt2 := hbk2.lt
    have HZ := Lib.hid (And.intro (show w.heap.size < w2.heap.size by omega) (And.intro (show w.heap.size ≤ g2 ∧ g2 < w2.heap.size by omega) (And.intro hc2 (And.intro ho2 (And.intro hbw2 (H.out.2.2.2.1.below hbw2))))))
    have H2 := Lib.hid hsv
    clear hc2 ho2 hb2 hsv hbk2 hg2b hlt2 hbw2
    have hrd2 : Rd w2 (some ⟨g2, 0, none⟩) (n + 4) (bys (x ++ spare)) := Rd.of_own HZ.out.2.2.2.1
    have hxl : x.length = n := by have := H.out.2.2.2.1.1; simpa [bys_length] using this
    have hrd3 : Rd w2 (some ⟨g2, 0, none⟩) n (bys x) := by
      have := hrd2.take_ (k := n) (by omega)
      rw [bys_take, List.take_append_of_le_length (by omega), List.take_of_length_le (by omega)] at this
      exact this
    have HR := Lib.hid (And.intro hrd2 (And.intro hrd3 HZ.out.2.2.2.2.2))
    have hz2 : 0 < n → ∀ a, some (⟨g2, 0, none⟩ : Addr) = some a → (a.block < w0.heap.size ∨ (w.heap.size ≤ a.block ∧ a.block < w2.heap.size)) := fun _ a e => by injection e with e; rw [← e]; exact .inr ⟨HZ.out.2.1.1, HZ.out.2.1.2⟩
    have hzA : 0 < n → ∀ a, A = some a → (a.block < w0.heap.size ∨ (w.heap.size ≤ a.block ∧ a.block < w2.heap.size)) := fun h0 a e => .inl (H.out.2.2.2.2.1 h0 a e)
    have HP := Lib.hid (And.intro hz2 hzA)
    have ck : w2.cell? ⟨w.heap.size, 1, none⟩ = some (.int .i64 d) ∧ w2.cell? ⟨w.heap.size, 3, none⟩ = some (.slice A n c) := ⟨k1, k3⟩
    have HCK := Lib.hid (show ∀ wy sa sb N', SV w0 w2 wy X E sa sb N' (fun k => k < w0.heap.size ∨ (w.heap.size ≤ k ∧ k < w2.heap.size)) → (wy.cell? ⟨w.heap.size, 1, none⟩ = some (.int .i64 d) ∧ wy.cell? ⟨w.heap.size, 3, none⟩ = some (.slice A n c)) from fun wy sa sb N' hs => ⟨hs.cell k1 (.inr ⟨Nat.le_refl _, HZ.out.1⟩), hs.cell k3 (.inr ⟨Nat.le_refl _, HZ.out.1⟩)⟩)
    clear hrd2 hxl hrd3 hz2 hzA k1 k3
    obtain ⟨k1, k3⟩ := ck
    go_wp2_with fail
    go_region_held3 (fun w' => w'.cell? ⟨w.heap.size, 1, none⟩ = some (.int .i64 d) ∧ w'.cell? ⟨w.heap.size, 3, none⟩ = some (.slice A n c)) (first | exact HCK.out _ _ _ _ HK.out | exact HCK.out _ _ _ _ HXR.out | exact HCK.out _ _ _ _ HX1.out | exact HCK.out _ _ _ _ HR1.out | go_keep)
      (first
        | (go_at_call 13; refine (sv_sendX HR1.out HR.out.2.1 HP.out.1 H.out.2.2.2.2.2.1 (BD.big (N := N + 1) (H.out.2.1.mono (i' := i + 1) (by omega) (Nat.le_refl _) (by have := H.out.2.1.n; omega)) HI.out.1 HI.out.2)).mono ?_; rw [H.out.2.2.2.2.2.2]; rintro _ w5 ⟨rfl, h5⟩; have HXR := Lib.hid h5; clear h5)
        | (go_at_call 13; refine (sv_sendX (H2.out.below (below_dN (Below.refl _ _) 1)) HR.out.2.1 HP.out.1 H.out.2.2.2.2.2.1 H.out.2.2.1).mono ?_; rw [H.out.2.2.2.2.2.2]; rintro _ w5 ⟨rfl, h5⟩; have HX1 := Lib.hid h5; clear h5)
        | (go_at_call 43; refine (sv_sendR HX1.out H2.out.ok HR.out.2.2 HP.out.2 H.out.2.2.1).mono ?_; rw [H.out.2.2.2.2.2.2]; rintro _ w5 ⟨rfl, h5⟩; have HXR := Lib.hid h5; clear h5)
        | (go_at_call 43; refine (sv_sendR (H2.out.below (below_dN (Below.refl _ _) 1)) H2.out.ok HR.out.2.2 HP.out.2 H.out.2.2.1).mono ?_; rw [H.out.2.2.2.2.2.2]; rintro _ w5 ⟨rfl, h5⟩; have HR1 := Lib.hid h5; clear h5)
        | (go_at_call 44; refine (kept_any (HXR.out.rd HR.out.1 (fun _ a e => by injection e with e; rw [← e]; exact .inr ⟨HZ.out.2.1.1, HZ.out.2.1.2⟩)) (HXR.out.rd HR.out.2.2 HP.out.2) H.out.2.2.2.2.2.1 HZ.out.2.2.1).mono ?_; rintro _ w6 ⟨rfl, h6⟩; have HK := Lib.hid (HXR.out.below h6); clear h6))
    have hmu := HK.out.mut (g := g2) (off := 0) (Mut.pre (n := n) (m := 4) (xs := bys (x ++ spare)) (by obtain ⟨gq, hmq, _⟩ := Mut.of_own HZ.out.2.2.2.1; have he := (hmq.2 (by omega)).1; injection he with he; injection he with he1 he2; subst he1; exact hmq)) (.inr ⟨HZ.out.2.1.1, HZ.out.2.1.2⟩)
    have HM := Lib.hid hmu
    clear hmu k1 k3
    go_wp2_with fail
    refine (over_any (l := x) (by have := HM.out; rw [bys_take, List.take_left' (by have := H.out.2.2.2.1.1; simpa [bys_length] using this)] at this; exact this) H.out.2.2.2.2.2.1).mono ?_
    rintro _ w7 ⟨rfl, h7⟩
    have H7 := Lib.hid (HK.out.over (upd_chg h7) (.inr ⟨HZ.out.2.1.1, HZ.out.2.1.2⟩) (Nat.le_trans H.out.1.b.size HZ.out.2.1.1))
    clear h7
    go_wp2_with fail
    go_ret
    exact ⟨rfl, _, _, H7.out, H.out.2.1.sendP d n x⟩
theorem px_mut {w : World} {b n c : Nat} {A : Option Addr} {x : List UInt8} (h : PX w b A n c x) : ∃ g, Mut w A n g 0 (bys x) ∧ ((∃ a, A = some a ∧ a.block = g) ∨ g = w.heap.size) := by
  rcases Nat.eq_zero_or_pos n with h0 | h0
  · subst h0
    exact ⟨w.heap.size, ⟨h.rd.1, fun h => absurd h (by omega)⟩, .inr rfl⟩
  · obtain ⟨g, hm, _⟩ := Mut.of_own h.1
    exact ⟨g, hm, .inl ⟨_, (hm.2 h0).1, rfl⟩⟩
set_option maxRecDepth 100000 in
set_option maxHeartbeats 6400000 in
theorem does2_any {w0 w : World} {X E N n c i q : Nat} {s : ES} {A : Option Addr} {d many : Int} (h : SL w0 w X E s N) (hbd : BD s N i q) (hi : i ≤ 60) (hq : q ≤ 3) :
    Calls Try.prog 27 #[.pointer (some ⟨X, 0, none⟩), .pointer (some ⟨E, 0, none⟩), .agg #[.int .i64 2, .int .i64 d, .int .i64 many, .slice A n c]] w fun e w' => e = .returned (.bool true) ∧ SLto w0 w' X E (i + 1) q := by
  have H := Lib.hid (And.intro h (And.intro hbd (And.intro (hbd.big (by omega) hq) (And.intro hi hq))))
  clear h hbd hi hq
  go_enter Try.func27, Try.ntmps27
  go_wp2_with fail
  refine (ticks_any (H.out.1.sv ((Below.refl _ _).alloc (Nat.le_refl _) _)) H.out.2.2.1).mono ?_
  rintro _ w5 ⟨rfl, h5⟩
  have H5 := Lib.hid h5.sl
  clear h5
  go_wp2_with fail
  go_ret
  exact ⟨rfl, _, _, H5.out, H.out.2.1.tick (by have := H.out.2.2.2.1; omega) H.out.2.2.2.2⟩
set_option maxRecDepth 100000 in
set_option maxHeartbeats 6400000 in
theorem doesX_any {w0 w : World} {X E N n c i q : Nat} {s : ES} {A : Option Addr} {kd d many : Int} (h : SL w0 w X E s N) (hbd : BD s N i q) (hk : kd < 0 ∨ 5 < kd) :
    Calls Try.prog 27 #[.pointer (some ⟨X, 0, none⟩), .pointer (some ⟨E, 0, none⟩), .agg #[.int .i64 kd, .int .i64 d, .int .i64 many, .slice A n c]] w fun e w' => e = .returned (.bool true) ∧ SLto w0 w' X E (i + 1) q := by
  have H := Lib.hid (And.intro h hbd)
  have k0 : (kd == 0) = false := by simp; omega
  have k1 : (kd == 1) = false := by simp; omega
  have k2 : (kd == 2) = false := by simp; omega
  have k3 : (kd == 3) = false := by simp; omega
  have k4 : (kd == 4) = false := by simp; omega
  have k5 : (kd == 5) = false := by simp; omega
  clear h hbd hk
  go_enter Try.func27, Try.ntmps27
  go_wp2_with fail
  go_ret
  exact ⟨rfl, _, _, H.out.1.below ((Below.refl _ _).alloc (Nat.le_refl _) _), H.out.2.mono (by omega) (Nat.le_refl _) (by have := H.out.2.n; omega)⟩
theorem xget_bad {w0 w : World} {E : Nat} {s : ES} {F : Nat → Prop} (h : Lf w0 w E s F) {d : Int} (hd : isEnd d = false) :
    Calls Try.prog 20 #[.pointer (some ⟨E, 0, none⟩), .int .i64 d] w fun e w' => e = .returned (.tuple #[.slice none 0 0, .int .i64 2]) ∧ w' = w := by
  obtain ⟨⟨base, m, m1, _⟩, _⟩ := h
  exact eget_bad m1 hd
theorem mut_nil (w : World) : Mut w none 0 w.heap.size 0 (bys []) := ⟨rfl, fun h => absurd h (by omega)⟩
theorem SC.far {w0 w w' : World} {X E N : Nat} {s : ES} {Fx Fr : Nat → Prop} (h : SC w0 w X E s s N Fx Fr) {off : Nat} {new : List Value} (hu : Upd w w' w.heap.size off new) : SC w0 w' X E s s N Fx Fr :=
  h.other (upd_chg hu) fun k hk e => by omega
set_option maxRecDepth 100000 in
set_option maxHeartbeats 6400000 in
theorem does34_any {w0 w : World} {X E N n c i q : Nat} {s : ES} {A : Option Addr} {kd d many : Int} (h : SL w0 w X E s N) (hbd : BD s N i q) (hk : kd = 3 ∨ kd = 4) :
    Calls Try.prog 27 #[.pointer (some ⟨X, 0, none⟩), .pointer (some ⟨E, 0, none⟩), .agg #[.int .i64 kd, .int .i64 d, .int .i64 many, .slice A n c]] w fun e w' => e = .returned (.bool true) ∧ SLto w0 w' X E (i + 1) q := by
  obtain ⟨Fx, Fr, h⟩ := h
  have H := Lib.hid (And.intro h hbd)
  have hz0 := h.b.size
  have hFx : ∀ k, Fx k → k < w.heap.size := fun k hk => (h.lx.2.1 k hk).2
  have hFr : ∀ k, Fr k → k < w.heap.size := fun k hk => (h.lr.fb k hk).2
  have HF := Lib.hid (And.intro hFx (And.intro hFr hz0))
  have HB := Lib.hid (hbd.mono (i' := i + 1) (q' := q) (N' := N) (by omega) (Nat.le_refl _) (by have := hbd.n; omega))
  have k0 : (kd == 0) = false := by simp; omega
  have k1 : (kd == 1) = false := by simp; omega
  have k2 : (kd == 2) = false := by simp; omega
  have hks : ((kd == 3) = true) ∨ ((kd == 3) = false ∧ (kd == 4) = true) := by rcases hk with rfl | rfl <;> decide
  clear h hbd hFx hFr hz0 hk
  cases hd : isEnd d with
  | false =>
    have HD := Lib.hid hd
    clear hd
    rcases hks with k3 | ⟨k3, k4⟩
    all_goals go_enter Try.func27, Try.ntmps27
    all_goals go_wp2_with fail
    all_goals
      refine (xget_bad (H.out.1.lx.below ((Below.refl _ _).alloc (Nat.le_refl _) _)) HD.out).mono ?_
      rintro e w1 ⟨rfl, rfl⟩
      go_wp2_with fail
      refine (rget_bad HD.out).mono ?_
      rintro e w1 ⟨rfl, rfl⟩
      go_wp2_with fail
      refine (same_true (l := []) (Rd.nil _ _) (Rd.nil _ _)).mono ?_
      rintro e w2 ⟨rfl, hw2⟩
      have hs2 := H.out.1.below ((Below.refl w.heap.size w).alloc (Nat.le_refl _) (.cells #[.int .i64 kd, .int .i64 d, .int .i64 many, .slice A n c] 34))
      rw [hw2] at hs2
      have HS2 := Lib.hid hs2
      subst hw2
      clear hs2
      go_wp2_with fail
      refine (over_any (l := []) (mut_nil _) (by decide)).mono ?_
      rintro _ w7 ⟨rfl, h7⟩
      have H7 := Lib.hid (HS2.out.far h7)
      clear h7
      go_wp2_with fail
      go_ret
      exact ⟨rfl, _, _, ⟨_, _, H7.out⟩, HB.out⟩
  | true =>
    obtain ⟨k, o, hkd, hko⟩ : ∃ k o : Nat, d = (k : Int) ∧ ((k = 0 ∧ o = 6) ∨ (k = 1 ∧ o = 7)) := by
      rcases isEnd_iff hd with h | h
      · exact ⟨0, 6, h, .inl ⟨rfl, rfl⟩⟩
      · exact ⟨1, 7, h, .inr ⟨rfl, rfl⟩⟩
    subst hkd
    have HK := Lib.hid (And.intro hko (isEnd_iff hd))
    clear hd hko
    cases hbx : s.box (k : Int) with
    | nil =>
      have HX := Lib.hid hbx
      clear hbx
      rcases hks with k3 | ⟨k3, k4⟩
      all_goals go_enter Try.func27, Try.ntmps27
      all_goals go_wp2_with fail
      all_goals
        refine (lf_get_none (H.out.1.lx.below ((Below.refl _ _).alloc (Nat.le_refl _) _)) HK.out.2 HX.out).mono ?_
        rintro e w1 ⟨rfl, rfl⟩
        go_wp2_with fail
        refine (rget_none (H.out.1.lr.below ((Below.refl _ _).alloc (Nat.le_refl _) _)) HK.out.1 HX.out).mono ?_
        rintro e w1 ⟨rfl, rfl⟩
        go_wp2_with fail
        refine (same_true (l := []) (Rd.nil _ _) (Rd.nil _ _)).mono ?_
        rintro e w2 ⟨rfl, hw2⟩
        have hs2 := H.out.1.below ((Below.refl w.heap.size w).alloc (Nat.le_refl _) (.cells #[.int .i64 kd, .int .i64 (k : Int), .int .i64 many, .slice A n c] 34))
        rw [hw2] at hs2
        have HS2 := Lib.hid hs2
        subst hw2
        clear hs2
        go_wp2_with fail
        refine (over_any (l := []) (mut_nil _) (by decide)).mono ?_
        rintro _ w7 ⟨rfl, h7⟩
        have H7 := Lib.hid (HS2.out.far h7)
        clear h7
        go_wp2_with fail
        go_ret
        exact ⟨rfl, _, _, ⟨_, _, H7.out⟩, HB.out⟩
    | cons x r =>
      have HX := Lib.hid hbx
      clear hbx
      rcases hks with k3 | ⟨k3, k4⟩
      all_goals go_enter Try.func27, Try.ntmps27
      all_goals go_wp2_with fail
      all_goals
        have hal := (Below.refl w.heap.size w).alloc (Nat.le_refl _) (.cells #[.int .i64 kd, .int .i64 (k : Int), .int .i64 many, .slice A n c] 34)
        have k9 : (w.alloc (.cells #[.int .i64 kd, .int .i64 (k : Int), .int .i64 many, .slice A n c] 34)).cell? ⟨w.heap.size, 1, none⟩ = some (.int .i64 (k : Int)) := (Bk.newA w _ _).cell 1
        have hz9 : w.heap.size < (w.alloc (.cells #[.int .i64 kd, .int .i64 (k : Int), .int .i64 many, .slice A n c] 34)).heap.size := by rw [World.size_alloc]; omega
        have hs9 := H.out.1.below hal
        generalize w.alloc (.cells #[.int .i64 kd, .int .i64 (k : Int), .int .i64 many, .slice A n c] 34) = w9 at hal k9 hs9 hz9 ⊢
        refine (xget_some hs9.lx HK.out.2 HX.out).mono ?_
        rintro e w1 ⟨A1, n1, c1, b1, rfl, hp1, hA1, F1, g1, g2, g3, hc1⟩
        have hs1 := hs9.chgX g1 (fun k hk => .inl (g2 k hk)) hc1
        have k8 := hc1.cell' k9 (fun hf => absurd (show w.heap.size < w.heap.size from HF.out.1 _ hf) (Nat.lt_irrefl _))
        have HS1 := Lib.hid (And.intro hs1 (And.intro hp1 (And.intro hA1 (And.intro g3 (And.intro hs9.xr (show ∀ k, Fx k → k < w1.heap.size from fun k hk => by have := HF.out.1 k hk; have := hc1.size; have := hal.size; omega))))))
        clear hal k9 hz9 hs9 hp1 hA1 g1 g2 g3 hc1 hs1
        go_wp2_with fail
        refine (rget_some HS1.out.1.lr HK.out.1 HX.out).mono ?_
        rintro e w2 ⟨A2, n2, c2, rfl, hr2, hn2, hA2, hRT⟩
        obtain ⟨F2, hs2, hF2⟩ := HS1.out.1.deedR hRT
        obtain ⟨_, _, _, hc2⟩ := hRT
        have hp2 := HS1.out.2.1.chg hc2 fun a ha hf => HS1.out.2.2.2.2.1 _ (HS1.out.2.2.1 a ha) hf
        have hfar : ∀ a, A1 = some a → ¬ F1 a.block ∧ ¬ F2 a.block ∧ w0.heap.size ≤ a.block := fun a ha => ⟨HS1.out.2.2.2.1 a ha, fun hf => by
          rcases hF2 _ hf with e | e
          · exact HS1.out.2.2.2.2.1 _ (HS1.out.2.2.1 a ha) e
          · have := HS1.out.2.2.2.2.2 _ (HS1.out.2.2.1 a ha); omega, (H.out.1.lx.2.1 _ (HS1.out.2.2.1 a ha)).1⟩
        have HS2 := Lib.hid (And.intro hs2 (And.intro hp2 (And.intro hr2 hfar)))
        clear hr2 hn2 hA2 hs2 hF2 hc2 hp2 hfar k8
        go_wp2_with fail
        refine (same_true HS2.out.2.1.rd HS2.out.2.2.1).mono ?_
        rintro e w3 ⟨rfl, rfl⟩
        go_wp2_with fail
        obtain ⟨g, hmu, hg⟩ := px_mut HS2.out.2.1
        refine (over_any hmu (by have := HS2.out.2.1.2; omega)).mono ?_
        rintro _ w7 ⟨rfl, h7⟩
        have H7 := Lib.hid (HS2.out.1.other (upd_chg h7) fun k hk e => by
          subst e
          rcases hg with ⟨a, ha, e⟩ | e
          · subst e; exact HS2.out.2.2.2 a ha
          · omega)
        clear h7 hmu hg
        go_wp2_with fail
        go_ret
        exact ⟨rfl, _, _, ⟨_, _, H7.out⟩, H.out.2.got (k : Int)⟩
end Go.Proofs.Ytknpghemogfenaa
