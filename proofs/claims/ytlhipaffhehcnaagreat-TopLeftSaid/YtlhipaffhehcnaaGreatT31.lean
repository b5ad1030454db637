/- TopLeft: ripple.first. TopLeft: the laws of a range over a function whose body writes some blocks of T (printed by gen_Su27.py). -/
import Derived.Test.YtlhipaffhehcnaaGreatT30
namespace Go.Proofs.YtlhipaffhehcnaaGreat
open Go.RowKit Go.Shelf
set_option linter.unusedVariables false
attribute [local go_sem] Oper.semAt_some
/-- first's grid, so far. -/
def frO (p : Q) (n : Nat) : Nat → Option (List Q)
  | 0 => some (List.replicate ((n + 1) * (n + 1)) ⟨0, 1⟩)
  | r + 1 => (frO p n r).bind fun l => (shareO p (lackQ p) n r).map fun q => l.set ((n - r) * (n + 1) + r) q
def firstO (t : List Nat) (k n : Nat) : Option (List Q) := (inO t k k 1).bind fun p => frO p n (n + 1)
theorem frO_pre {p : Q} {n : Nat} {N : Nat} {l : List Q} (h : frO p n N = some l) : ∀ i, i ≤ N → ∃ a, frO p n i = some a := by
  induction N generalizing l with
  | zero => intro i hi; obtain rfl : i = 0 := by omega
            exact ⟨_, h⟩
  | succ N ih =>
    intro i hi
    unfold frO at h
    obtain ⟨a, ha, _⟩ := Option.bind_eq_some_iff.1 h
    by_cases e : i = N + 1
    · subst e
      exact ⟨_, by unfold frO; exact h⟩
    · exact ih ha i (by omega)
theorem frO_step {p : Q} {n N : Nat} {l : List Q} (h : frO p n N = some l) {i : Nat} (hi : i < N) : ∃ a q, frO p n i = some a ∧ shareO p (lackQ p) n i = some q ∧ frO p n (i + 1) = some (a.set ((n - i) * (n + 1) + i) q) := by
  obtain ⟨b, hb⟩ := frO_pre h (i + 1) (by omega)
  have hb2 := hb
  unfold frO at hb2
  obtain ⟨a, ha, hm⟩ := Option.bind_eq_some_iff.1 hb2
  obtain ⟨q, hq, e⟩ := Option.map_eq_some_iff.1 hm
  exact ⟨a, q, ha, hq, by rw [e]; exact hb⟩
theorem frO_len {p : Q} {n : Nat} : ∀ {N : Nat} {l : List Q}, frO p n N = some l → l.length = (n + 1) * (n + 1)
  | 0, l, h => by
    unfold frO at h
    obtain rfl := Option.some.inj h
    simp
  | N + 1, l, h => by
    obtain ⟨a, q, ha, _, h2⟩ := frO_step h (i := N) (by omega)
    rw [h] at h2
    obtain rfl := Option.some.inj h2
    rw [List.length_set]
    exact frO_len ha
theorem at_bd {n d i : Nat} (hd : d ≤ n) (hi : i < n + 1) : d * (n + 1) + i < (n + 1) * (n + 1) := by
  have h1 : d * (n + 1) ≤ n * (n + 1) := Nat.mul_le_mul hd (Nat.le_refl _)
  have h2 : (n + 1) * (n + 1) = n * (n + 1) + (n + 1) := Nat.succ_mul _ _
  omega
theorem whole0 : qlow ((0 : Nat) : Int) 1 = ⟨0, 1⟩ := rfl
/-- first, so far. -/
structure FrS (w W : World) (m n L G g6 g7 b1 b3 b5 b6 : Nat) (r1 r3 : R3) (a b : Rw) (p : Q) (l : List Q) : Prop where
  k6 : Bk W g6 60 [.int .i64 0, .slice none 0 0]
  k7 : Bk W g7 60 [.int .i64 (n : Nat), .slice (some ⟨G, 0, none⟩) L L]
  gb : GB W G [] l
  s : ShS W b1 b3 b5 b6 r1 r3 a b p (lackQ p)
  l : Below w.heap.size w W
  f : ∀ k, foot b1 b3 b5 b6 a b k → m ≤ k
  h : g6 < m ∧ g7 < m ∧ G < m ∧ w.heap.size ≤ G ∧ w.heap.size ≤ m ∧ g6 ≠ G ∧ g7 ≠ G ∧ m ≤ W.heap.size
/-- After a call of a shares closure, its blocks lie where they lay. -/
theorem foot_next {W : World} {b1 b3 b5 b6 m : Nat} {a b a' b' : Rw} (h : ∀ k, foot b1 b3 b5 b6 a b k → m ≤ k) (hm : m ≤ W.heap.size) (ha : a'.g = a.g ∨ W.heap.size ≤ a'.g) (hb : b'.g = b.g ∨ W.heap.size ≤ b'.g) : ∀ k, foot b1 b3 b5 b6 a' b' k → m ≤ k := by
  have h5 := h _ (.inl (.inl rfl))
  have hA := h _ (.inl (.inr (.inl rfl)))
  have hB := h _ (.inl (.inr (.inr rfl)))
  have h1 := h _ (.inr (.inl rfl))
  have h3 := h _ (.inr (.inr (.inl rfl)))
  have h6 := h _ (.inr (.inr (.inr rfl)))
  rintro k ((e | e | e) | e | e | e) <;> omega
theorem FrS.share {w W W' : World} {m n L G g6 g7 b1 b3 b5 b6 : Nat} {r1 r3 : R3} {a b a' b' : Rw} {p : Q} {l : List Q} (h : FrS w W m n L G g6 g7 b1 b3 b5 b6 r1 r3 a b p l) (hs : ShS W' b1 b3 b5 b6 r1 r3 a' b' p (lackQ p)) (ha : a'.g = a.g ∨ W.heap.size ≤ a'.g) (hb : b'.g = b.g ∨ W.heap.size ≤ b'.g) (hc : Chg (own b5 a b) W W') : FrS w W' m n L G g6 g7 b1 b3 b5 b6 r1 r3 a' b' p l := by
  have hk := Kq.of_chg w.heap.size hc h.s.ps.num
  have hh := h.h
  have hf : ∀ k, own b5 a b k → m ≤ k := fun k e => h.f k (.inl e)
  have hsz := hc.size
  exact ⟨hk.bk h.k6 (fun e => by have := hf _ e; omega), hk.bk h.k7 (fun e => by have := hf _ e; omega), h.gb.kq hk (fun e => by have := hf _ e; omega), hs, hk.below h.l (Nat.le_refl _) (Nat.le_refl _) (fun k e => by have := hf _ e; omega), foot_next h.f hh.2.2.2.2.2.2.2 ha hb, by omega⟩
theorem FrS.below {w W W' : World} {m n L G g6 g7 b1 b3 b5 b6 : Nat} {r1 r3 : R3} {a b : Rw} {p : Q} {l : List Q} (h : FrS w W m n L G g6 g7 b1 b3 b5 b6 r1 r3 a b p l) (hb : Below W.heap.size W W') : FrS w W' m n L G g6 g7 b1 b3 b5 b6 r1 r3 a b p l := by
  have hh := h.h
  have hsz := hb.size
  exact ⟨h.k6.belowS hb, h.k7.belowS hb, h.gb.below hb, h.s.below hb, bl_next h.l hb, h.f, by omega⟩
theorem FrS.put {w W : World} {m n L G g6 g7 b1 b3 b5 b6 i : Nat} {r1 r3 r : R3} {a b : Rw} {p q : Q} {l : List Q} (h : FrS w W m n L G g6 g7 b1 b3 b5 b6 r1 r3 a b p l) (hi : i < l.length) (hq : QV W r.v q) : FrS w (s3 W G (i * 3) r) m n L G g6 g7 b1 b3 b5 b6 r1 r3 a b p (l.set i q) := by
  obtain ⟨hgb, hk⟩ := h.gb.put (fun i x => by simp) hi hq
  have hh := h.h
  have hsz := (hk 0).size
  exact ⟨(hk 0).bk h.k6 (by omega), (hk 0).bk h.k7 (by omega), hgb, h.s.kq (hk 0) (fun k hf e => by have := h.f k hf; omega), (hk w.heap.size).below h.l (Nat.le_refl _) (Nat.le_refl _) (fun k e => by omega), h.f, by omega⟩
set_option maxRecDepth 100000 in
set_option maxHeartbeats 4000000 in
/-- ripple.first -/
theorem first_any {w : World} {A : Option Addr} {nt c k n L : Nat} {t : List Nat} {qs : List Q} (h : Tb w A nt t) (hk : k ≤ 8) (hk1 : 1 ≤ k) (ht : tOk t k = true) (hn : n ≤ 8) (hL : (n + 1) * (n + 1) = L) (hq : firstO t k n = some qs) : Calls Tryz.prog 45 #[.slice A nt c, .int .i64 (k : Nat), .int .i64 (n : Nat)] w fun e w' => ∃ G, e = .returned (gridV n G L) ∧ GB w' G [] qs ∧ w.heap.size ≤ G ∧ Below w.heap.size w w' := by
  unfold firstO at hq
  obtain ⟨p, hp, hfr⟩ := Option.bind_eq_some_iff.1 hq
  have hpk : p.ok = true := accO_ok hp
  obtain ⟨g6, hg6⟩ : ∃ g6, w.heap.size = g6 := ⟨_, rfl⟩
  obtain ⟨w1, hw1⟩ : ∃ w1, w.alloc (.cells #[.int .i64 0, .slice none 0 0] 60) = w1 := ⟨_, rfl⟩
  have hb1 : Below w.heap.size w w1 := by rw [← hw1]; exact bl_allocd (Below.refl _ _) _
  have k6 : Bk w1 g6 60 [.int .i64 0, .slice none 0 0] := by rw [← hw1, ← hg6]; exact Bk.newA w 60 #[.int .i64 0, .slice none 0 0]
  have HP := Lib.hid (And.intro (h.below hb1) (And.intro hk (And.intro hk1 (And.intro ht (And.intro hn (And.intro hL (And.intro hp (And.intro hfr (And.intro hpk hg6)))))))))
  have H1 := Lib.hid (And.intro hb1 k6)
  have hnI : (n : Int) ≤ 8 := by omega
  clear h hk hk1 ht hn hL hq hp hfr hpk hb1 k6
  go_enter Tryz.func45, Tryz.ntmps45
  go_wp2_with fail
  refine (whole_any (n := 0) (by decide)).mono ?_
  rintro e w2 ⟨v2, rfl, hv2, hb2⟩
  rw [whole0] at hv2
  have H2 := Lib.hid (And.intro hv2 (And.intro (bl_next H1.out.1 hb2) ((H1.out.2.belowS hb2))))
  have HT := Lib.hid (HP.out.1.below hb2)
  clear hv2 hb2
  go_wp2_with fail
  refine (made_any H2.out.1 HP.out.2.2.2.2.1 HP.out.2.2.2.2.2.1).mono ?_
  rintro e w3 ⟨G, rfl, hgb, hG, hb3⟩
  obtain ⟨o7, ho7⟩ : ∃ o7 : Obj, o7 = .cells #[.int .i64 (n : Nat), .slice (some ⟨G, 0, none⟩) L L] 60 := ⟨_, rfl⟩
  obtain ⟨g7, hg7⟩ : ∃ g7, w3.heap.size = g7 := ⟨_, rfl⟩
  obtain ⟨w4, hw4⟩ : ∃ w4, w3.alloc o7 = w4 := ⟨_, rfl⟩
  have hb4 : Below w3.heap.size w3 w4 := by rw [← hw4]; exact bl_allocd (Below.refl _ _) _
  have k7 : Bk w4 g7 60 [.int .i64 (n : Nat), .slice (some ⟨G, 0, none⟩) L L] := by rw [← hw4, ← hg7, ho7]; exact Bk.newA w3 60 #[.int .i64 (n : Nat), .slice (some ⟨G, 0, none⟩) L L]
  have H4 := Lib.hid (And.intro k7 (And.intro (hgb.below hb4) (And.intro hG (And.intro ((H2.out.2.2.belowS hb3).belowS hb4) (And.intro (bl_next (bl_next H2.out.2.1 hb3) hb4) (And.intro ((HT.out.below hb3).below hb4) (by have := hgb.lt; have := H2.out.2.2.lt; have := hb3.size; omega : G < g7 ∧ g6 < G)))))))
  clear hgb hG hb3 k7 hb4
  unfold gridV
  go_wp2_with fail
  rw [← ho7, hw4]
  clear ho7 hw4
  refine (cIn_any (j := 1) H4.out.2.2.2.2.2.1 HP.out.2.1 (Nat.le_refl _) HP.out.2.2.1 HP.out.2.2.2.1 HP.out.2.2.2.2.2.2.1).mono ?_
  rintro e w5 ⟨v5, rfl, hv5, hb5⟩
  obtain ⟨r5, rfl⟩ := hv5.r3
  obtain ⟨o8, ho8⟩ : ∃ o8 : Obj, o8 = .cells #[.bool r5.s, .slice r5.A r5.m r5.c, .slice r5.B r5.n r5.d] 40 := ⟨_, rfl⟩
  obtain ⟨g8, hg8⟩ : ∃ g8, w5.heap.size = g8 := ⟨_, rfl⟩
  obtain ⟨w6, hw6⟩ : ∃ w6, w5.alloc o8 = w6 := ⟨_, rfl⟩
  have hb6 : Below w5.heap.size w5 w6 := by rw [← hw6]; exact bl_allocd (Below.refl _ _) _
  have k8 : Bk w6 g8 40 r5.cells := by rw [← hw6, ← hg8, ho8]; exact Bk.newA w5 40 #[.bool r5.s, .slice r5.A r5.m r5.c, .slice r5.B r5.n r5.d]
  have H6 := Lib.hid (And.intro (hv5.below hb6) (bl_next hb5 hb6))
  obtain ⟨c0, c1, c2, _, _, _⟩ := cells_rat k8
  clear hv5 hb5 hb6 k8
  unfold R3.v
  go_wp2_with fail
  rw [← ho8, hw6]
  clear ho8 hw6
  refine (shares_any H6.out.1 HP.out.2.2.2.2.2.2.2.2.1).mono ?_
  rintro e w7 ⟨b1, b3, b5, b6, s1, s3, a, b, rfl, hS, hF, hb7⟩
  have H7 := Lib.hid (And.intro hS (And.intro hF (bl_next H6.out.2 hb7)))
  clear hS hF hb7 c0 c1 c2
  go_wp2_with fail
  obtain ⟨m, hm⟩ : ∃ m, w6.heap.size = m := ⟨_, rfl⟩
  have hm1 : m ≤ w7.heap.size := by
    have e1 := H7.out.1.k1.lt
    have e2 := H7.out.2.1 _ (.inr (.inl rfl))
    omega
  have hm2 : g7 < m ∧ G < m ∧ g6 < m ∧ g6 ≠ G ∧ g7 ≠ G ∧ w.heap.size ≤ G ∧ w.heap.size ≤ m := by
    have e1 := H6.out.2.size
    have e2 := H4.out.1.lt
    have e3 := H4.out.2.2.2.2.2.2
    have e4 := H4.out.2.2.2.2.1.size
    have e5 := H2.out.2.1.size
    have e6 := H4.out.2.2.1
    omega
  have HM := Lib.hid (And.intro hm (And.intro hm1 hm2))
  clear hm1 hm2
  go_loopw [26] (fun s wr => ∃ i : Nat, i ≤ n + 1 ∧ s = .int .i64 (i : Nat) ∧ ∃ a b l, frO p n i = some l ∧ FrS w wr m n L G g6 g7 b1 b3 b5 b6 s1 s3 a b p l) (fun s _ => n + 1 - (intOf s).toNat)
  case atStart =>
    refine ⟨0, Nat.zero_le _, rfl, a, b, _, rfl, ?_⟩
    obtain ⟨q1, q2, q3, q4, q5, q6, q7, q8, q9⟩ := HM.out
    have hb47 := H7.out.2.2
    have hgb := H4.out.2.1.below hb47
    rw [HP.out.2.2.2.2.2.1]
    exact ⟨H4.out.2.2.2.1.belowS hb47, H4.out.1.belowS hb47, hgb, H7.out.1, bl_next H4.out.2.2.2.2.1 hb47, fun k hk => by have := H7.out.2.1 k hk; omega, by omega⟩
  case round =>
    obtain ⟨i, hi, rfl, a', b', l, hl, hF⟩ := hrel
    have HF := Lib.hid hF
    have hw1 : IntKind.i64.wrap ((n : Int) + 1) = (n : Int) + 1 := by rw [IntKind.wrap_i64]; omega
    by_cases hlt : i < n + 1
    · have hltI : (i : Int) < (n : Int) + 1 := by omega
      obtain ⟨c0, c1, _, _⟩ := cells2 hF.k7
      obtain ⟨d, hd⟩ : ∃ d, n - i = d := ⟨_, rfl⟩
      have hwd : IntKind.i64.wrap ((n : Int) - (i : Int)) = (d : Int) := by rw [IntKind.wrap_i64]; omega
      have hwdd : IntKind.i64.wrap (d : Int) = (d : Int) := by rw [IntKind.wrap_i64]; omega
      obtain ⟨la, q, e1, hq, e3⟩ := frO_step HP.out.2.2.2.2.2.2.2.1 hlt
      obtain rfl := Option.some.inj (hl.symm.trans e1)
      have HQ := Lib.hid (And.intro hq (And.intro e3 (And.intro hlt (And.intro hl hd))))
      clear hF hq e3 e1 hl hd
      go_wp2_with fail
      have hbd : d * (n + 1) + i < L := by
        rw [← HP.out.2.2.2.2.2.1]
        exact at_bd (by have := HQ.out.2.2.2.2; omega) HQ.out.2.2.1
      refine (at_any HP.out.2.2.2.2.1 HP.out.2.2.2.2.2.1 hbd).mono ?_
      rintro e w8 ⟨rfl, hb8⟩
      have H8 := Lib.hid (And.intro (HF.out.below hb8) hbd)
      clear hb8 hbd
      go_wp2_with fail
      refine (share_any H8.out.1.s HP.out.2.2.2.2.1 (Nat.lt_succ_iff.1 HQ.out.2.2.1) HQ.out.1).mono ?_
      rintro e w9 ⟨u, rfl, hu, a2, b2, hs2, hn2, hn3, hc2⟩
      obtain ⟨ru, rfl⟩ := hu.r3
      have hF9 := H8.out.1.share hs2 hn2 hn3 hc2
      have HU := Lib.hid (And.intro hu hF9)
      have hll : l.length = L := by rw [frO_len HQ.out.2.2.2.1, HP.out.2.2.2.2.2.1]
      obtain ⟨x, hx, x0, x1, x2, f0, f1, f2⟩ := hF9.gb.form (i := d * (n + 1) + i) (by rw [hll]; exact H8.out.2)
      have HL := Lib.hid hll
      clear hu hs2 hn2 hn3 hc2 hF9 hx hll
      unfold R3.v
      go_wp2_with fail
      go_roundw
      case rel =>
        have hdi := HQ.out.2.2.2.2
        have hl3 := HQ.out.2.1
        rw [hdi] at hl3
        exact ⟨i + 1, by omega, by go_num, a2, b2, _, hl3, HU.out.2.put (by rw [HL.out]; exact H8.out.2) HU.out.1⟩
      case measure => simp [intOf]; omega
    · obtain rfl : i = n + 1 := by omega
      obtain ⟨e0, e1, _, _⟩ := cells2 hF.k7
      obtain ⟨_, _, s0, s1⟩ := cells2 hF.k6
      have hirr : ¬ ((n : Int) + 1 < (n : Int) + 1) := by omega
      clear hF
      go_wp2_with fail
      have hc := (Chg.refl (fun k => k = g6) wr).set_ (g := g6) (show (fun k => k = g6) g6 from rfl) 0 (.int .i64 (n : Nat))
      have hc2 := hc.set_ (g := g6) (show (fun k => k = g6) g6 from rfl) 1 (.slice (some ⟨G, 0, none⟩) L L)
      have hk := Kq.of_chg w.heap.size hc2 (num_of_bk HF.out.k6 (fun i x => by rcases i with _ | _ | i <;> simp))
      have hh := HF.out.h
      have hg6' := HP.out.2.2.2.2.2.2.2.2.2
      refine bodyPost_ret (ret_grid rfl rfl ((HF.out.k6.set_ 0 (.int .i64 (n : Nat))).set_ 1 (.slice (some ⟨G, 0, none⟩) L L))) rfl ?_
      obtain rfl := Option.some.inj (hl.symm.trans HP.out.2.2.2.2.2.2.2.1)
      have hbz := hk.below HF.out.l (Nat.le_refl _) (Nat.le_refl _) (fun k e => by omega)
      rw [hg6] at hbz
      exact ⟨G, rfl, HF.out.gb.kq hk (by omega), by omega, hbz⟩
end Go.Proofs.YtlhipaffhehcnaaGreat
namespace Go.Proofs.YtlhipaffhehcnaaGreat
open Go.RowKit Go.Shelf
set_option linter.unusedVariables false
/-- Some blocks of T are written. -/
def Kx (B : Nat) (T : Nat → Prop) (W W' : World) : Prop := ∃ S, Kq B S W W' ∧ ∀ k, S k → T k
section
variable {B : Nat} {S T : Nat → Prop} {W W1 W' : World}
theorem Kq.x (h : Kq B S W W') (hS : ∀ k, S k → T k) : Kx B T W W' := ⟨S, h, hS⟩
theorem Kx.both (h : Kx B T W W1) (h' : Kx B T W1 W') : Kx B T W W' := by
  obtain ⟨S1, h1, k1⟩ := h
  obtain ⟨S2, h2, k2⟩ := h'
  exact ⟨_, h1.trans h2, fun k e => e.elim (k1 k) (k2 k)⟩
theorem Kx.after (h : Kx B T W1 W') (h' : Kq B Nq W W1) : Kx B T W W' := by
  obtain ⟨S1, h1, k1⟩ := h
  exact ⟨_, h'.left h1, k1⟩
theorem Kx.right (h : Kx B T W W1) (h' : Kq B Nq W1 W') : Kx B T W W' := by
  obtain ⟨S1, h1, k1⟩ := h
  exact ⟨_, h1.right h', k1⟩
theorem Kx.none (h : Kq B Nq W W') : Kx B T W W' := ⟨_, h, fun _ e => e.elim⟩
theorem Kx.bk {g : Nat} {t : TypeId} {cs : List Value} (h : Kx B T W W') (hb : Bk W g t cs) (hg : ¬ T g) : Bk W' g t cs := by
  obtain ⟨S1, h1, k1⟩ := h
  exact h1.bk hb (fun e => hg (k1 _ e))
theorem Kx.qv {v : Value} {q : Q} (h : Kx B T W W') (hv : QV W v q) : QV W' v q := by
  obtain ⟨S1, h1, k1⟩ := h
  exact h1.qv hv
theorem GB.kx {g : Nat} {tl : List Value} {qs : List Q} (hb : GB W g tl qs) (h : Kx B T W W') (hg : ¬ T g) : GB W' g tl qs := by
  obtain ⟨S1, h1, k1⟩ := h
  exact hb.kq h1 (fun e => hg (k1 _ e))
end
/-- What an iterator promises: it yields N times, the i-th time what Ok says. -/
def IterX (F : Fence) (n : Nat) (P : Program) (gf : Nat) (lb : Array Value) (B : Nat) (S T : Nat → Prop) (Ok : Nat → Array Value → World → Prop) (N : Nat) (w : World) : Prop :=
  ∀ (l : Nat) (J : Nat → World → Prop) (Jx : World → Prop) (W : World), Kq B Nq w W →
    (∀ i W W', J i W → Kq B S W W' → KeepsFrom B W W' → J i W') → (∀ W W', Jx W → Kq B S W W' → KeepsFrom B W W' → Jx W') →
    (∀ i x W1, i < N → J i W1 → Ok i x W1 → YieldAt F (n - 1) P l x W1 fun e W' => Kx B T W1 W' ∧ ((e = .returned (.bool true) ∧ J (i + 1) W') ∨ (e = .returned (.bool false) ∧ Jx W'))) →
    J 0 W → CallsIn F n P gf (#[.func (.yield l) #[] #[]] ++ lb) W fun e W' => (∃ v, e = .returned v) ∧ (J N W' ∨ Jx W')
/-- What a body of a round must leave. -/
def stPostX (B : Nat) (T : Nat → Prop) (R : World → Prop) (Ix : Code → World → Prop) (W : World) : Exit → Act → World → Prop
  | .normal, _, W' => KeepsFrom B W W' ∧ Kx B T W W' ∧ R W'
  | .ret, _, W' => KeepsFrom B W W' ∧ Kx B T W W' ∧ Ix .ret W'
  | .exit id, _, W' => KeepsFrom B W W' ∧ Kx B T W W' ∧ Ix (.exit id) W'
  | _, _, _ => False
section
variable {F : Fence} {n : Nat} {P : Program}
theorem range_stX {g : Operand} {ps : Array Tmp} {assign body : Code} {Q : Exit → Act → World → Prop} {a : Act} {w : World} (S T : Nat → Prop)
    (hro : F.round = none) (h1 : 1 ≤ n) {gf : Nat} {lb : Array Value} (hg : a.eval g = .func (.func gf) #[] lb) (hFg : F.fn gf) (eg : ∀ args w, (callFunc gf args).run P w = .ok (.enter gf args) w)
    (I : Nat → World → Prop) (Ok : Nat → Array Value → World → Prop) (N : Nat) (Ix : Code → World → Prop)
    (hps : ∀ i x W, Ok i x W → x.size = ps.size)
    (hI : ∀ i W W', I i W → Kq w.heap.size S W W' → I i W') (hI0 : ∀ i W W', I i W → Kq w.heap.size Nq W W' → I i W') (hIx : ∀ c W W', Ix c W → Kq w.heap.size S W W' → Ix c W') (hIx0 : ∀ c W W', Ix c W → Kq w.heap.size Nq W W' → Ix c W')
    (h0 : I 0 w) (hseq : IterX F (n - 1) P gf lb w.heap.size S T Ok N w)
    (Ax : Nat → Array Value → Act → World → Prop) (hAx : ∀ i x a' W W', Ax i x a' W → Kq w.heap.size Nq W W' → Ax i x a' W')
    (hassign : ∀ (l i : Nat) (x : Array Value) (W : World) (K : Act → World → Prop), I i W → Ok i x W → (∀ a' W', KeepsFrom w.heap.size W W' → Kx w.heap.size T W W' → I i W' → Ax i x a' W' → K a' W') →
      assign.wpIn (F.inRound l) (n - 1 - 1) P (Exit.then K (fun _ _ _ => False)) { tmps := (ps.zip x).foldl (fun t (p, v) => t.setIfInBounds p v) a.tmps, defers := [] } W)
    (hbody : ∀ (l i : Nat) (x : Array Value) (a' : Act) (W : World), w.heap.size ≤ l → (∃ r, W.heap[l]? = some (.loop r)) → i < N → I i W → Ax i x a' W → body.wpIn (F.inRound l) (n - 1 - 1) P (stPostX w.heap.size T (I (i + 1)) Ix W) a' W)
    (hdone : ∀ (D : Nat) (W : World), w.heap.size ≤ D → I N W → W.heap[D]? = some (.deferred (some [])) → Q .normal { a with defers := { target := .collected D, args := #[] } :: a.defers } W)
    (hstop : ∀ (D : Nat) (c : Code) (W : World), w.heap.size ≤ D → Ix c W → W.heap[D]? = some (.deferred (some [])) → c.wpIn F n P Q { a with defers := { target := .collected D, args := #[] } :: a.defers } W) :
    (Code.rangeFunc g ps assign body).wpIn F n P Q a w := by
  refine wpIn_rangeFunc ?_
  intro fn hfn
  rw [hro]
  obtain ⟨rec, hrec⟩ : ∃ rec : LoopState → Option Code → Loop, rec = fun st pe => { state := st, pending := pe, fn, tmps := a.tmps, params := ps, assign, body, defers := w.heap.size } := ⟨_, rfl⟩
  obtain ⟨W1, hW1⟩ : ∃ W1, (w.alloc (.deferred (some []))).alloc (.loop (rec .ready none)) = W1 := ⟨_, rfl⟩
  have hL1 : W1.heap[w.heap.size + 1]? = some (.loop (rec .ready none)) := by
    rw [← hW1]; have := World.alloc_heap_new (w.alloc (.deferred (some []))) (.loop (rec .ready none)); rwa [World.size_alloc] at this
  have hK1 : W1.heap[w.heap.size]? = some (.deferred (some [])) := by
    rw [← hW1]; exact (Below.heap_alloc _ _ _ (by simp)).trans (World.alloc_heap_new w _)
  have hkc1 : Kq w.heap.size Nq w W1 := by
    rw [← hW1]; exact Kq.of_below _ (((Below.refl _ w).alloc (Nat.le_refl _) _).alloc (by simp) _)
  have hI1 : I 0 W1 := hI0 _ _ _ h0 hkc1
  refine ⟨w.heap.size + 1, [{ target := .collected w.heap.size, args := #[] }], W1, { target := .fn (.func gf) lb, args := #[.func (.yield (w.heap.size + 1)) #[] #[]] }, W1, gf,
    #[.func (.yield (w.heap.size + 1)) #[] #[]] ++ lb, W1, ?_, ?_, ?_, ?_, fun _ => h1, ?_⟩
  · rw [← hW1, hrec]; exact run_enterLoop_outer _ _ _ _ _
  · simp only [resolve, hg]
    simp [go_sem]
  · intro f' hf'; simp [Target.leads] at hf'; subst hf'; exact hFg
  · simp [invoke, go_sem, eg]
  · refine (hseq (w.heap.size + 1)
      (fun i W => I i W ∧ W.heap[w.heap.size + 1]? = some (.loop (rec .ready none)) ∧ W.heap[w.heap.size]? = some (.deferred (some [])))
      (fun W => ∃ c, Ix c W ∧ W.heap[w.heap.size + 1]? = some (.loop (rec .done (some c))) ∧ W.heap[w.heap.size]? = some (.deferred (some [])))
      W1 hkc1
      (fun i A B h hkc hkf => ⟨hI i A B h.1 hkc, hkf.same _ _ (by omega) h.2.1 rfl, hkf.same _ _ (Nat.le_refl _) h.2.2 rfl⟩)
      (fun A B h hkc hkf => by
        obtain ⟨c, hc, hl, hk⟩ := h
        exact ⟨c, hIx c A B hc hkc, hkf.same _ _ (by omega) hl rfl, hkf.same _ _ (Nat.le_refl _) hk rfl⟩)
      ?_ ⟨hI1, hL1, hK1⟩).mono ?_
    · rintro i x W hiN ⟨hi, hl, hk⟩ hok
      have hlt : w.heap.size + 1 < W.heap.size := (Array.getElem?_eq_some_iff.1 hl).1
      have hy := run_yield (P := P) (args := x) hl (by rw [hrec]; exact hps i x W hok)
      rw [hrec] at hy
      refine ⟨fn, _, assign, body, hy, roundIn_of_wpIn hfn (hassign _ i x W _ hi hok ?_)⟩
      clear hy
      intro a' Wa hkfa hkca hia hax
      replace hl := hkfa.same _ _ (by omega) hl rfl
      replace hk := hkfa.same _ _ (Nat.le_refl _) hk rfl
      replace hlt : w.heap.size + 1 < Wa.heap.size := (Array.getElem?_eq_some_iff.1 hl).1
      refine ⟨_, run_beginRound hl (by rw [hrec]), ?_⟩
      have hl2 : (Wa.putObj (w.heap.size + 1) (.loop { rec .ready none with state := .busy })).heap[w.heap.size + 1]? = some (.loop { rec .ready none with state := .busy }) := World.putObj_heap_same hlt
      have hk2 : (Wa.putObj (w.heap.size + 1) (.loop { rec .ready none with state := .busy })).heap[w.heap.size]? = some (.deferred (some [])) := (World.putObj_heap_other (by omega)).trans hk
      have hw2 : Kq w.heap.size Nq Wa (Wa.putObj (w.heap.size + 1) (.loop { rec .ready none with state := .busy })) := Kq.put (by omega) hl rfl
      refine wpIn_mono (hbody _ i x a' _ (by omega) ⟨_, hl2⟩ hiN (hI0 _ _ _ hia hw2) (hAx _ _ _ _ _ hax hw2)) ?_
      have fin : ∀ (jump : Option Code) (W3 : World), KeepsFrom w.heap.size (Wa.putObj (w.heap.size + 1) (.loop { rec .ready none with state := .busy })) W3 →
          (Instr.endRound (w.heap.size + 1) jump).run P W3 = .ok (.bool jump.isNone) (W3.putObj (w.heap.size + 1) (.loop (rec (if jump.isNone then .ready else .done) jump))) ∧
          W3.heap[w.heap.size + 1]? = some (.loop { rec .ready none with state := .busy }) ∧
          (W3.putObj (w.heap.size + 1) (.loop (rec (if jump.isNone then .ready else .done) jump))).heap[w.heap.size + 1]? = some (.loop (rec (if jump.isNone then .ready else .done) jump)) ∧
          (W3.putObj (w.heap.size + 1) (.loop (rec (if jump.isNone then .ready else .done) jump))).heap[w.heap.size]? = some (.deferred (some [])) := fun jump W3 hk3 => by
        have hl3 := hk3.same _ _ (by omega) hl2 rfl
        have := run_endRound (P := P) jump hl3
        rw [hrec] at this ⊢
        exact ⟨this, by rw [hrec] at hl3; exact hl3, World.putObj_heap_same (Array.getElem?_eq_some_iff.1 hl3).1, (World.putObj_heap_other (by omega)).trans (hk3.same _ _ (Nat.le_refl _) hk2 rfl)⟩
      rintro e a3 W3 hp
      cases e with
      | normal =>
        obtain ⟨hk3, hkp3, hi3⟩ := hp
        obtain ⟨hr, hl3, hl4, hk4⟩ := fin none W3 hk3
        exact ⟨_, _, hr, (hkca.both (hkp3.after hw2)).right (Kq.put (by omega) hl3 rfl), .inl ⟨rfl, hI0 _ _ _ hi3 (Kq.put (by omega) hl3 rfl), hl4, hk4⟩⟩
      | ret =>
        obtain ⟨hk3, hkp3, hi3⟩ := hp
        obtain ⟨hr, hl3, hl4, hk4⟩ := fin (some .ret) W3 hk3
        exact ⟨_, _, hr, (hkca.both (hkp3.after hw2)).right (Kq.put (by omega) hl3 rfl), .inr ⟨rfl, .ret, hIx0 _ _ _ hi3 (Kq.put (by omega) hl3 rfl), hl4, hk4⟩⟩
      | exit id =>
        obtain ⟨hk3, hkp3, hi3⟩ := hp
        obtain ⟨hr, hl3, hl4, hk4⟩ := fin (some (.exit id)) W3 hk3
        exact ⟨_, _, hr, (hkca.both (hkp3.after hw2)).right (Kq.put (by omega) hl3 rfl), .inr ⟨rfl, .exit id, hIx0 _ _ _ hi3 (Kq.put (by omega) hl3 rfl), hl4, hk4⟩⟩
      | goto t => exact hp.elim
      | panic ch => exact hp.elim
      | outgrown => exact hp.elim
    · rintro e W2 ⟨⟨v, rfl⟩, (⟨hi, hl, hk⟩ | ⟨c, hi, hl, hk⟩)⟩
      · exact ⟨none, _, by have := run_endLoop (P := P) hl (by rw [hrec]; simp); rw [hrec] at this; exact this, hdone _ _ (Nat.le_refl _) (hI0 _ _ _ hi (Kq.put (by omega) hl rfl)) ((World.putObj_heap_other (by omega)).trans hk)⟩
      · exact ⟨some c, _, by have := run_endLoop (P := P) hl (by rw [hrec]; simp); rw [hrec] at this; exact this, hstop _ c _ (Nat.le_refl _) (hIx0 _ _ _ hi (Kq.put (by omega) hl rfl)) ((World.putObj_heap_other (by omega)).trans hk)⟩
/-- A range over a function within a round of another. -/
theorem range_inX {g : Operand} {ps : Array Tmp} {assign body : Code} {Q : Exit → Act → World → Prop} {a : Act} {w : World} (S T : Nat → Prop)
    {l₀ : Nat} {r₀ : Loop} (hro : F.round = some l₀) (hl₀ : w.heap[l₀]? = some (.loop r₀)) (h1 : 1 ≤ n) {gf : Nat} {lb : Array Value} (hg : a.eval g = .func (.func gf) #[] lb) (hFg : F.fn gf) (eg : ∀ args w, (callFunc gf args).run P w = .ok (.enter gf args) w)
    (I : Nat → World → Prop) (Ok : Nat → Array Value → World → Prop) (N : Nat) (Ix : Code → World → Prop)
    (hps : ∀ i x W, Ok i x W → x.size = ps.size)
    (hI : ∀ i W W', I i W → Kq w.heap.size S W W' → I i W') (hI0 : ∀ i W W', I i W → Kq w.heap.size Nq W W' → I i W') (hIx : ∀ c W W', Ix c W → Kq w.heap.size S W W' → Ix c W') (hIx0 : ∀ c W W', Ix c W → Kq w.heap.size Nq W W' → Ix c W')
    (h0 : I 0 w) (hseq : IterX F (n - 1) P gf lb w.heap.size S T Ok N w)
    (Ax : Nat → Array Value → Act → World → Prop) (hAx : ∀ i x a' W W', Ax i x a' W → Kq w.heap.size Nq W W' → Ax i x a' W')
    (hassign : ∀ (l i : Nat) (x : Array Value) (W : World) (K : Act → World → Prop), I i W → Ok i x W → (∀ a' W', KeepsFrom w.heap.size W W' → Kx w.heap.size T W W' → I i W' → Ax i x a' W' → K a' W') →
      assign.wpIn (F.inRound l) (n - 1 - 1) P (Exit.then K (fun _ _ _ => False)) { tmps := (ps.zip x).foldl (fun t (p, v) => t.setIfInBounds p v) a.tmps, defers := [] } W)
    (hbody : ∀ (l i : Nat) (x : Array Value) (a' : Act) (W : World), w.heap.size ≤ l → (∃ r, W.heap[l]? = some (.loop r)) → i < N → I i W → Ax i x a' W → body.wpIn (F.inRound l) (n - 1 - 1) P (stPostX w.heap.size T (I (i + 1)) Ix W) a' W)
    (hdone : ∀ (W : World), I N W → Q .normal a W)
    (hstop : ∀ (c : Code) (W : World), Ix c W → c.wpIn F n P Q a W) :
    (Code.rangeFunc g ps assign body).wpIn F n P Q a w := by
  refine wpIn_rangeFunc ?_
  intro fn hfn
  rw [hro]
  obtain ⟨rec, hrec⟩ : ∃ rec : LoopState → Option Code → Loop, rec = fun st pe => { state := st, pending := pe, fn, tmps := a.tmps, params := ps, assign, body, defers := r₀.defers } := ⟨_, rfl⟩
  obtain ⟨W1, hW1⟩ : ∃ W1, w.alloc (.loop (rec .ready none)) = W1 := ⟨_, rfl⟩
  have hL1 : W1.heap[w.heap.size]? = some (.loop (rec .ready none)) := by rw [← hW1]; exact World.alloc_heap_new w _
  have hkc1 : Kq w.heap.size Nq w W1 := by
    rw [← hW1]; exact Kq.of_below _ ((Below.refl _ w).alloc (Nat.le_refl _) _)
  have hI1 : I 0 W1 := hI0 _ _ _ h0 hkc1
  refine ⟨w.heap.size, [], W1, { target := .fn (.func gf) lb, args := #[.func (.yield w.heap.size) #[] #[]] }, W1, gf,
    #[.func (.yield w.heap.size) #[] #[]] ++ lb, W1, ?_, ?_, ?_, ?_, fun _ => h1, ?_⟩
  · rw [← hW1, hrec]; exact run_enterLoop_inner hl₀ _ _ _ _ _
  · simp only [resolve, hg]
    simp [go_sem]
  · intro f' hf'; simp [Target.leads] at hf'; subst hf'; exact hFg
  · simp [invoke, go_sem, eg]
  · refine (hseq w.heap.size
      (fun i W => I i W ∧ W.heap[w.heap.size]? = some (.loop (rec .ready none)))
      (fun W => ∃ c, Ix c W ∧ W.heap[w.heap.size]? = some (.loop (rec .done (some c))))
      W1 hkc1
      (fun i A B h hkc hkf => ⟨hI i A B h.1 hkc, hkf.same _ _ (Nat.le_refl _) h.2 rfl⟩)
      (fun A B h hkc hkf => by
        obtain ⟨c, hc, hl⟩ := h
        exact ⟨c, hIx c A B hc hkc, hkf.same _ _ (Nat.le_refl _) hl rfl⟩)
      ?_ ⟨hI1, hL1⟩).mono ?_
    · rintro i x W hiN ⟨hi, hl⟩ hok
      have hlt : w.heap.size < W.heap.size := (Array.getElem?_eq_some_iff.1 hl).1
      have hy := run_yield (P := P) (args := x) hl (by rw [hrec]; exact hps i x W hok)
      rw [hrec] at hy
      refine ⟨fn, _, assign, body, hy, roundIn_of_wpIn hfn (hassign _ i x W _ hi hok ?_)⟩
      clear hy
      intro a' Wa hkfa hkca hia hax
      replace hl := hkfa.same _ _ (Nat.le_refl _) hl rfl
      replace hlt : w.heap.size < Wa.heap.size := (Array.getElem?_eq_some_iff.1 hl).1
      refine ⟨_, run_beginRound hl (by rw [hrec]), ?_⟩
      have hl2 : (Wa.putObj w.heap.size (.loop { rec .ready none with state := .busy })).heap[w.heap.size]? = some (.loop { rec .ready none with state := .busy }) := World.putObj_heap_same hlt
      have hw2 : Kq w.heap.size Nq Wa (Wa.putObj w.heap.size (.loop { rec .ready none with state := .busy })) := Kq.put (Nat.le_refl _) hl rfl
      refine wpIn_mono (hbody _ i x a' _ (Nat.le_refl _) ⟨_, hl2⟩ hiN (hI0 _ _ _ hia hw2) (hAx _ _ _ _ _ hax hw2)) ?_
      have fin : ∀ (jump : Option Code) (W3 : World), KeepsFrom w.heap.size (Wa.putObj w.heap.size (.loop { rec .ready none with state := .busy })) W3 →
          (Instr.endRound w.heap.size jump).run P W3 = .ok (.bool jump.isNone) (W3.putObj w.heap.size (.loop (rec (if jump.isNone then .ready else .done) jump))) ∧
          W3.heap[w.heap.size]? = some (.loop { rec .ready none with state := .busy }) ∧
          (W3.putObj w.heap.size (.loop (rec (if jump.isNone then .ready else .done) jump))).heap[w.heap.size]? = some (.loop (rec (if jump.isNone then .ready else .done) jump)) := fun jump W3 hk3 => by
        have hl3 := hk3.same _ _ (Nat.le_refl _) hl2 rfl
        have := run_endRound (P := P) jump hl3
        rw [hrec] at this ⊢
        exact ⟨this, by rw [hrec] at hl3; exact hl3, World.putObj_heap_same (Array.getElem?_eq_some_iff.1 hl3).1⟩
      rintro e a3 W3 hp
      cases e with
      | normal =>
        obtain ⟨hk3, hkp3, hi3⟩ := hp
        obtain ⟨hr, hl3, hl4⟩ := fin none W3 hk3
        exact ⟨_, _, hr, (hkca.both (hkp3.after hw2)).right (Kq.put (Nat.le_refl _) hl3 rfl), .inl ⟨rfl, hI0 _ _ _ hi3 (Kq.put (Nat.le_refl _) hl3 rfl), hl4⟩⟩
      | ret =>
        obtain ⟨hk3, hkp3, hi3⟩ := hp
        obtain ⟨hr, hl3, hl4⟩ := fin (some .ret) W3 hk3
        exact ⟨_, _, hr, (hkca.both (hkp3.after hw2)).right (Kq.put (Nat.le_refl _) hl3 rfl), .inr ⟨rfl, .ret, hIx0 _ _ _ hi3 (Kq.put (Nat.le_refl _) hl3 rfl), hl4⟩⟩
      | exit id =>
        obtain ⟨hk3, hkp3, hi3⟩ := hp
        obtain ⟨hr, hl3, hl4⟩ := fin (some (.exit id)) W3 hk3
        exact ⟨_, _, hr, (hkca.both (hkp3.after hw2)).right (Kq.put (Nat.le_refl _) hl3 rfl), .inr ⟨rfl, .exit id, hIx0 _ _ _ hi3 (Kq.put (Nat.le_refl _) hl3 rfl), hl4⟩⟩
      | goto t => exact hp.elim
      | panic ch => exact hp.elim
      | outgrown => exact hp.elim
    · rintro e W2 ⟨⟨v, rfl⟩, (⟨hi, hl⟩ | ⟨c, hi, hl⟩)⟩
      · exact ⟨none, _, by have := run_endLoop (P := P) hl (by rw [hrec]; simp); rw [hrec] at this; exact this, hdone _ (hI0 _ _ _ hi (Kq.put (Nat.le_refl _) hl rfl))⟩
      · exact ⟨some c, _, by have := run_endLoop (P := P) hl (by rw [hrec]; simp); rw [hrec] at this; exact this, hstop c _ (hIx0 _ _ _ hi (Kq.put (Nat.le_refl _) hl rfl))⟩
end
attribute [local go_sem] Oper.semAt_some
set_option maxRecDepth 100000 in
set_option maxHeartbeats 4000000 in
/-- What places hands on. -/
theorem places_iterX {w : World} {B m : Nat} {T : Nat → Prop} {n G L b1 : Nat} {tl : List Value} {qs : List Q} (hm : 2 ≤ m) (hb1 : Bk w b1 60 [.int .i64 (n : Nat), .slice (some ⟨G, 0, none⟩) L L]) (hg : GB w G tl qs) (hn : n ≤ 8) (hq : qs.length = L) (hL : L ≤ 81) (hT : ¬ T b1 ∧ ¬ T G) :
    IterX Fence.wide m Tryz.prog 47 #[.pointer (some ⟨b1, 0, none⟩)] B Nq T (OkP n qs) L w := by
  intro l J Jx W hkw hJ hJx hY h0
  have hW1 := hkw.bk hb1 (fun e => e)
  have hW2 := hg.kq hkw (fun e => e)
  have HH := Lib.hid (And.intro hJ (And.intro hJx (And.intro hY (And.intro hq (And.intro hL hT)))))
  have HW := Lib.hid (And.intro hW1 (And.intro hW2 h0))
  have c1 := hW1.cell 1
  simp at c1
  have hnI : (n : Int) ≤ 8 := by omega
  have hLI : (L : Int) ≤ 81 := by omega
  clear hb1 hg hkw hJ hJx hY h0 hq hL hT hW1 hW2
  refine callsIn_of_wp Tryz.func47 rfl trivial ?_ rfl
  simp only [Tryz.ntmps47, List.size_toArray, List.length_cons, List.length_nil, Nat.reduceAdd, Nat.reduceSub, Array.replicate_succ, Array.replicate_zero, List.push_toArray, List.append_toArray, List.nil_append, List.cons_append]
  gi_wp2
  clear c1
  gi_loopw [8] (fun s wr => ∃ i : Nat, i ≤ L ∧ s = .int .i64 (i : Nat) ∧ Bk wr b1 60 [.int .i64 (n : Nat), .slice (some ⟨G, 0, none⟩) L L] ∧ GB wr G tl qs ∧ J i wr) (fun s _ => L - (intOf s).toNat)
  case atStart => exact ⟨0, Nat.zero_le _, rfl, HW.out⟩
  case round =>
    obtain ⟨i, hi, rfl, hk1, hgb, hJi⟩ := hrel
    have HI := Lib.hid (And.intro hk1 (And.intro hgb hJi))
    by_cases hlt : i < L
    · obtain ⟨x, hx, c0, c1, c2, _, _, _⟩ := hgb.form (i := i) (by have := HH.out.2.2.2.1; omega)
      have HX := Lib.hid hx
      obtain ⟨e0, e1, _, _⟩ := cells2 hk1
      clear hk1 hgb hJi hx e1
      gi_wp2
      obtain ⟨o, ho⟩ : ∃ o : Obj, o = .cells #[.bool x.s, .slice x.A x.m x.c, .slice x.B x.n x.d] 40 := ⟨_, rfl⟩
      have hbl : Below wr.heap.size wr (wr.alloc o) := bl_allocd (Below.refl _ _) o
      have kx : Bk (wr.alloc o) wr.heap.size 40 x.cells := by rw [ho]; exact Bk.newA wr 40 #[.bool x.s, .slice x.A x.m x.c, .slice x.B x.n x.d]
      have H1 := Lib.hid (And.intro (HI.out.1.belowS hbl) (And.intro (HI.out.2.1.below hbl) (And.intro (HX.out.below hbl) (HH.out.1 _ _ _ HI.out.2.2 (Kq.of_below _ hbl) (keepsFrom_below hbl)))))
      obtain ⟨g4, hg4⟩ : ∃ g4, wr.heap.size = g4 := ⟨_, rfl⟩
      rw [hg4] at kx
      rw [← ho]
      have q0 := (H1.out.1).cell 0
      obtain ⟨x0, x1, x2, _, _, _⟩ := cells_rat kx
      have H2 := Lib.hid (And.intro hbl kx)
      rw [hg4]
      clear hbl kx c0 c1 c2 e0 ho hg4
      generalize wr.alloc o = W1 at *
      obtain ⟨c, hc⟩ : ∃ c, i / (n + 1) = c := ⟨_, rfl⟩
      obtain ⟨d, hd⟩ : ∃ d, i % (n + 1) = d := ⟨_, rfl⟩
      have hw1 : IntKind.i64.wrap ((n : Int) + 1) = (n : Int) + 1 := by rw [IntKind.wrap_i64]; omega
      have hne : ¬ ((n : Int) + 1 = 0) := by omega
      have hne2 : (((n : Int) + 1) == 0) = false := by simp; omega
      have hq1 : (i : Int).tdiv ((n : Int) + 1) = (c : Int) := by rw [← hc, Int.tdiv_eq_ediv_of_nonneg (by omega)]; norm_cast
      have hr1 : (i : Int).tmod ((n : Int) + 1) = (d : Int) := by rw [← hd, Int.tmod_eq_emod_of_nonneg (by omega)]; norm_cast
      have hc81 : (c : Int) ≤ 81 := by have := Nat.div_le_self i (n + 1); omega
      have hd81 : (d : Int) ≤ 81 := by have := Nat.mod_le i (n + 1); omega
      have hwc : IntKind.i64.wrap (c : Int) = (c : Int) := by rw [IntKind.wrap_i64]; omega
      have hwd : IntKind.i64.wrap (d : Int) = (d : Int) := by rw [IntKind.wrap_i64]; omega
      have HC := Lib.hid (And.intro hc hd)
      obtain ⟨q, hq⟩ : ∃ q, qs[i]? = some q := ⟨_, List.getElem?_eq_getElem (by have := HH.out.2.2.2.1; omega)⟩
      obtain ⟨fn, tmps, assign, body, hy, hR⟩ := HH.out.2.2.1 i #[.agg #[.int .i64 (c : Nat), .int .i64 (d : Nat)], x.v] W1.drew hlt (HH.out.1 _ _ _ H1.out.2.2.2 (Kq.of_below _ (Below.refl _ _).drew) (keepsFrom_below (Below.refl _ _).drew)) ⟨x, _, by rw [← hc, ← hd], List.getElem?_eq_getElem (by have := HH.out.2.2.2.1; omega), H1.out.2.2.1.below (Below.refl _ _).drew⟩
      unfold R3.v at hy
      clear hc hd hq
      gi_region_with (first
        | (refine ⟨fun _ => by omega, hR.mono ?_⟩; intro e W3 h3; obtain ⟨hk3, h4⟩ := h3; obtain ⟨qb, rfl, hqb⟩ := yes_no h4; clear h4))
      all_goals (have HQ := Lib.hid (And.intro hqb (And.intro hk3 (And.intro (hk3.bk (H1.out.1.belowS (Below.refl _ _).drew) HH.out.2.2.2.2.2.1) ((H1.out.2.1.below (Below.refl _ _).drew).kx hk3 HH.out.2.2.2.2.2.2)))); clear hqb hk3)
      all_goals gi_wp2
      all_goals (rename_i hqq)
      all_goals (rcases HQ.out.1 with ⟨hq, hJ3⟩ | ⟨hq, hJ3⟩)
      all_goals (first | (exfalso; rw [hq] at hqq; cases hqq; done) | skip)
      all_goals (first
        | (refine bodyPost_ret (results_none rfl _ _ _) rfl ?_; exact ⟨⟨_, rfl⟩, .inr hJ3⟩)
        | exact ⟨⟨i + 1, by omega, by go_num, HQ.out.2.2.1, HQ.out.2.2.2, hJ3⟩, by simp [intOf]; omega⟩)
    · obtain rfl : L = i := by omega
      have HB := Lib.hid hJi
      clear hlt hi hk1 hgb hJi
      gi_wp2
      go_end0
      exact ⟨⟨_, rfl⟩, .inl HB.out⟩
end Go.Proofs.YtlhipaffhehcnaaGreat
