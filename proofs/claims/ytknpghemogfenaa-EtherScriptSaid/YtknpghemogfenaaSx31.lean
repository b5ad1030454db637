/- Chapter 31: the program's ether and the document's, side by side; a tick of both. -/
import Derived.Test.YtknpghemogfenaaRn31
namespace Go.Proofs.Ytknpghemogfenaa
open Go.Conc Go.RowKit
set_option linter.unusedVariables false
def sendE (d : Int) (n : Nat) : Int := if isEnd d then (if n ≤ 70000 then 0 else 4) else 2
def ES.sendP (s : ES) (d : Int) (n : Nat) (x : List UInt8) : ES := if isEnd d && decide (n ≤ 70000) then s.send d x else s
theorem Lf.self {w0 w w' : World} {E : Nat} {s : ES} {F : Nat → Prop} (h : Lf w0 w E s F) (hb : Below w.heap.size w w') : Deed w0 E F s w w' :=
  ⟨F, h.below hb, fun k hk => .inl hk, Chg.of_below (S := F) hb⟩
theorem xsend_any {w0 w : World} {E n c : Nat} {s : ES} {F : Nat → Prop} {A : Option Addr} {x : List UInt8} {d : Int} (h : Lf w0 w E s F) (hr : Rd w A n (bys x)) (hra : 0 < n → ∀ a, A = some a → ¬ F a.block) (hn : n ≤ 140737488351232) (hnow : s.now ≤ 1000000) (hnb : s.number ≤ 800000) (hl : s.sky.length ≤ 800000) (hls : s.lost ≤ 800000000) :
    Calls Try.prog 13 #[.pointer (some ⟨E, 0, none⟩), .int .i64 d, .slice A n c] w fun e w' => e = .returned (.int .i64 (sendE d n)) ∧ Deed w0 E F (s.sendP d n x) w w' := by
  have hL := h
  obtain ⟨⟨base, h1⟩, h2, h3⟩ := h
  unfold sendE ES.sendP
  cases hd : isEnd d with
  | false => exact (send_bad h1 hd).mono fun e w' ⟨e1, e2⟩ => ⟨e1, hL.self e2⟩
  | true =>
    by_cases hn7 : n ≤ 70000
    · rw [decide_eq_true hn7]
      simp only [if_true, Bool.true_and, if_pos hn7]
      exact (send_any h1 hr (fun a ha h0 => hra h0 a ha) hn7 (isEnd_iff hd) hnow (by omega) (by omega) (by omega)).mono fun e w' ⟨e1, e2⟩ => ⟨e1, Lf.eto h2 h3 e2⟩
    · rw [decide_eq_false hn7]
      simp only [if_true, Bool.true_and, if_neg hn7, Bool.false_eq_true, if_false]
      exact (send_long h1 hd (by omega) hn).mono fun e w' ⟨e1, e2⟩ => ⟨e1, hL.self e2⟩
theorem rsendP_any {w : World} {base E N n c : Nat} {s : ES} {F : Nat → Prop} {A : Option Addr} {x : List UInt8} {d : Int} (h : Rw w base E s N F) (hok : s.ok) (hr : Rd w A n (bys x)) (hra : 0 < n → ∀ a, A = some a → ¬ F a.block) (hnow : s.now ≤ 1000000) (hnb : s.number ≤ 800000) (hl : s.sky.length ≤ 800000) (hls : s.lost ≤ 800000000) (hN : N ≤ 900000) :
    Calls Try.prog 43 #[.pointer (some ⟨E, 0, none⟩), .int .i64 d, .slice A n c] w fun e w' => e = .returned (.int .i64 (sendE d n)) ∧ RTo base E (s.sendP d n x) (N + 1) F w w' := by
  have hself : ∀ {s' : ES}, s' = s → RTo base E s' (N + 1) F w w := fun e => by
    subst e
    obtain ⟨m, h1, h2, h3⟩ := h
    exact ⟨F, ⟨m, h1, h2, by omega⟩, fun k hk => .inl hk, Chg.refl _ _⟩
  unfold sendE ES.sendP
  cases hd : isEnd d with
  | false => exact (rsend_bad hd).mono fun e w' ⟨e1, e2⟩ => ⟨e1, by rw [e2]; exact hself rfl⟩
  | true =>
    by_cases hn7 : n ≤ 70000
    · rw [decide_eq_true hn7]
      simp only [if_true, Bool.true_and, if_pos hn7]
      exact rsend_any h hok hr hra hn7 (isEnd_iff hd) hnow (by omega) hl (by omega) hN
    · rw [decide_eq_false hn7]
      simp only [if_true, Bool.true_and, if_neg hn7, Bool.false_eq_true, if_false]
      exact (rsend_long hd (by omega)).mono fun e w' ⟨e1, e2⟩ => ⟨e1, by rw [e2]; exact hself rfl⟩
theorem sendP_ok {s : ES} (h : s.ok) (d : Int) (n : Nat) (x : List UInt8) : (s.sendP d n x).ok := by
  unfold ES.sendP
  split
  · rename_i hc
    simp only [Bool.and_eq_true] at hc
    exact h.send (isEnd_iff hc.1) x
  · exact h
theorem upd_chg {w w' : World} {g off : Nat} {new : List Value} (h : Upd w w' g off new) : Chg (fun k => k = g) w w' := Chg.of_grown h.1 fun k hk => by injection hk with hk; exact hk.symm
/-- Both ethers, beside the law's own memory. -/
structure SC (w0 w : World) (X E : Nat) (sx sr : ES) (N : Nat) (Fx Fr : Nat → Prop) : Prop where
  lx : Lf w0 w X sx Fx
  lr : Rw w w0.heap.size E sr N Fr
  xr : ∀ k, Fx k → ¬ Fr k
  b : Below w0.heap.size w0 w
section
variable {w0 w w' : World} {X E N N' : Nat} {sx sr s' : ES} {Fx Fr F' S : Nat → Prop}
theorem SC.chgX (h : SC w0 w X E sx sr N Fx Fr) (g1 : Lf w0 w' X s' F') (g2 : ∀ k, F' k → Fx k ∨ w.heap.size ≤ k) (hc : Chg Fx w w') : SC w0 w' X E s' sr N F' Fr where
  lx := g1
  lr := h.lr.other hc fun k hr hx => h.xr k hx hr
  xr := fun k hk hr => by
    rcases g2 k hk with e | e
    · exact h.xr k e hr
    · have := (h.lr.fb k hr).2; omega
  b := hc.below h.b (fun k _ hk => (h.lx.2.1 k hk).1) h.lx.2.2
theorem SC.deedX (h : SC w0 w X E sx sr N Fx Fr) (hd : Deed w0 X Fx s' w w') : ∃ F', SC w0 w' X E s' sr N F' Fr ∧ ∀ k, F' k → Fx k ∨ w.heap.size ≤ k := by
  obtain ⟨F', g1, g2, hc⟩ := hd
  exact ⟨F', h.chgX g1 g2 hc, g2⟩
theorem SC.deedR (h : SC w0 w X E sx sr N Fx Fr) (hd : RTo w0.heap.size E s' N' Fr w w') : ∃ F', SC w0 w' X E sx s' N' Fx F' ∧ ∀ k, F' k → Fr k ∨ w.heap.size ≤ k := by
  obtain ⟨F', g1, g2, hc⟩ := hd
  refine ⟨F', ⟨h.lx.other hc fun k hx hr => h.xr k hx hr, g1, fun k hk hf => ?_, hc.below h.b (fun k _ hk => (h.lr.fb k hk).1) h.lx.2.2⟩, g2⟩
  rcases g2 k hf with e | e
  · exact h.xr k hk e
  · have := (h.lx.2.1 k hk).2; omega
theorem SC.other (h : SC w0 w X E sx sr N Fx Fr) (hc : Chg S w w') (hS : ∀ k, k < w.heap.size → S k → ¬ Fx k ∧ ¬ Fr k ∧ w0.heap.size ≤ k) : SC w0 w' X E sx sr N Fx Fr where
  lx := h.lx.other hc fun k hk hs => (hS k (h.lx.2.1 k hk).2 hs).1 hk
  lr := h.lr.other hc fun k hk hs => (hS k (h.lr.fb k hk).2 hs).2.1 hk
  xr := h.xr
  b := hc.below h.b (fun k hk hs => (hS k hk hs).2.2) h.lx.2.2
theorem SC.below (h : SC w0 w X E sx sr N Fx Fr) (hb : Below w.heap.size w w') : SC w0 w' X E sx sr N Fx Fr :=
  h.other (S := fun _ => False) (Chg.of_below hb) fun _ _ e => e.elim
theorem SC.old (h : SC w0 w X E sx sr N Fx Fr) {k : Nat} (hk : k < w0.heap.size) : ¬ Fx k ∧ ¬ Fr k := ⟨fun hf => by have := (h.lx.2.1 k hf).1; omega, fun hf => by have := (h.lr.fb k hf).1; omega⟩
end
/-- x.Get, with the row that is told as one that may be written. -/
theorem xget_some {w0 w : World} {E : Nat} {s : ES} {F : Nat → Prop} (h : Lf w0 w E s F) {d : Int} (hd : d = 0 ∨ d = 1) {x : List UInt8} {r : List (List UInt8)} (hbx : s.box d = x :: r) :
    Calls Try.prog 20 #[.pointer (some ⟨E, 0, none⟩), .int .i64 d] w fun e w' => ∃ A n c b, e = .returned (.tuple #[.slice A n c, .int .i64 0]) ∧ PX w' b A n c x ∧ (∀ a, A = some a → F a.block) ∧ ∃ F', Lf w0 w' E (s.got d) F' ∧ (∀ k, F' k → F k) ∧ (∀ a, A = some a → ¬ F' a.block) ∧ Chg F w w' := by
  obtain ⟨⟨base, h1⟩, h2, h3⟩ := h
  refine (get_some h1 hd hbx).mono ?_
  rintro e w' ⟨A, n, c, rfl, hp, ⟨F', g1, g2, g3⟩, hc⟩
  have hz := hc.size
  exact ⟨A, n, c, base, rfl, hp, fun a ha => (g3 _ (mem_blk.2 ⟨a, ha, rfl⟩)).2, F', ⟨⟨base, g1⟩, fun k hk => by have := h2 k (g2 k hk); omega, by omega⟩, g2, fun a ha => (g3 _ (mem_blk.2 ⟨a, ha, rfl⟩)).1, hc⟩
/-- What grows, and how much. -/
structure BD (s : ES) (N i q : Nat) : Prop where
  now : s.now ≤ i
  nb : s.number ≤ 2 * (i + 1101 * q)
  sky : s.sky.length ≤ 2 * (i + 1101 * q)
  lost : s.lost ≤ 20000 * i + 1101 * q
  n : N ≤ i + 1101 * q
  st : s.strays.length ≤ 20
theorem ot_len (s : ES) (t : Int) : (s.ot t).length ≤ s.sky.length := List.length_filter_le _ _
theorem st_len (s : ES) (t : Int) : (s.st t).length ≤ s.strays.length := by unfold ES.st; rw [List.length_map]; exact List.length_filter_le _ _
theorem tick_lost (s : ES) : s.tick.lost ≤ s.lost + s.strays.length + s.sky.length := by
  have h1 := comeAll_lost (s.st (s.now + 1)) ({ s with now := s.now + 1, sky := s.ot (s.now + 1) } : ES)
  have h2 := comeAll_lost ((s.ar (s.now + 1)).map GR.p) (({ s with now := s.now + 1, sky := s.ot (s.now + 1) } : ES).comeAll (s.st (s.now + 1)))
  have h3 := st_len s (s.now + 1)
  have h4 := ar_len s (s.now + 1)
  rw [List.length_map] at h2
  have e : s.tick.lost = ((({ s with now := s.now + 1, sky := s.ot (s.now + 1) } : ES).comeAll (s.st (s.now + 1))).comeAll ((s.ar (s.now + 1)).map GR.p)).lost := rfl
  have e2 : ({ s with now := s.now + 1, sky := s.ot (s.now + 1) } : ES).lost = s.lost := rfl
  omega
section
variable {s : ES} {N i q : Nat}
theorem BD.new {fl : List FT} {sl : List SY} (h : sl.length ≤ 20) : BD (ES.new fl sl) 0 0 0 := ⟨Int.le_refl _, by show (0 : Int) ≤ _; omega, Nat.zero_le _, by show (0 : Int) ≤ _; omega, Nat.zero_le _, by show (sl.map SY.t).length ≤ 20; rw [List.length_map]; exact h⟩
theorem BD.big (h : BD s N i q) (hi : i ≤ 61) (hq : q ≤ 3) : s.now ≤ 1000000 ∧ s.number ≤ 800000 ∧ s.sky.length ≤ 800000 ∧ s.lost ≤ 800000000 ∧ N ≤ 900000 ∧ s.strays.length ≤ 100000 := by
  have h1 := h.now; have h2 := h.nb; have h3 := h.sky; have h4 := h.lost; have h5 := h.n; have h6 := h.st
  refine ⟨by omega, by omega, by omega, by omega, by omega, by omega⟩
theorem BD.mono (h : BD s N i q) {i' q' N' : Nat} (hi : i ≤ i') (hq : q ≤ q') (hN : N' ≤ i' + 1101 * q') : BD s N' i' q' := by
  have h1 := h.now; have h2 := h.nb; have h3 := h.sky; have h4 := h.lost
  exact ⟨by omega, by omega, by omega, by omega, hN, h.st⟩
theorem BD.sendP (h : BD s N i q) (d : Int) (n : Nat) (x : List UInt8) : BD (s.sendP d n x) (N + 1) (i + 1) q := by
  have h1 := h.now; have h2 := h.nb; have h3 := h.sky; have h4 := h.lost; have h5 := h.n; have h6 := h.st
  unfold ES.sendP
  split
  · obtain ⟨_, z1, z2, z3, z4, z5⟩ := send_same s d x
    exact ⟨by rw [z2]; omega, by omega, by omega, by omega, by omega, by rw [z1]; exact h6⟩
  · exact h.mono (by omega) (Nat.le_refl _) (by omega)
theorem BD.tick (h : BD s N i q) (hi : i ≤ 61) (hq : q ≤ 3) : BD s.tick N (i + 1) q := by
  have h1 := h.now; have h2 := h.nb; have h3 := h.sky; have h4 := h.lost; have h5 := h.n; have h6 := h.st
  obtain ⟨_, z1, z2, z3, z4⟩ := tick_same s
  have h7 := tick_lost s
  have h8 := ot_len s (s.now + 1)
  exact ⟨by rw [z2]; omega, by rw [z3]; omega, by rw [z4]; omega, by omega, by omega, by rw [z1]; exact h6⟩
theorem BD.got (h : BD s N i q) (d : Int) : BD (s.got d) N (i + 1) q := by
  have h1 := h.now; have h2 := h.nb; have h3 := h.sky; have h4 := h.lost; have h5 := h.n; have h6 := h.st
  obtain ⟨_, z1, z2, z3, z4⟩ := got_same s d
  have z5 : (s.got d).lost = s.lost := by unfold ES.got; split <;> rfl
  exact ⟨by rw [z2]; omega, by rw [z3]; omega, by rw [z4]; omega, by rw [z5]; omega, by omega, by rw [z1]; exact h6⟩
end
/-- j sends of one kind. -/
def ES.sends (s : ES) (d : Int) (n : Nat) (x : List UInt8) : Nat → ES
  | 0 => s
  | j + 1 => (s.sends d n x j).sendP d n x
theorem sends_ok {s : ES} (h : s.ok) (d : Int) (n : Nat) (x : List UInt8) : ∀ j, (s.sends d n x j).ok
  | 0 => h
  | j + 1 => sendP_ok (sends_ok h d n x j) d n x
/-- While a great deed goes on. -/
structure BS (s : ES) (N i q j : Nat) : Prop where
  now : s.now ≤ i
  nb : s.number ≤ 2 * (i + 1101 * q) + 2 * j
  sky : s.sky.length ≤ 2 * (i + 1101 * q) + 2 * j
  lost : s.lost ≤ 20000 * i + 1101 * q + j
  n : N ≤ i + 1101 * q + j
  st : s.strays.length ≤ 20
theorem BS.start {s : ES} {N i q : Nat} (h : BD s N i q) : BS s N i q 0 := ⟨h.now, by have := h.nb; omega, by have := h.sky; omega, by have := h.lost; omega, by have := h.n; omega, h.st⟩
theorem BS.next {s : ES} {N i q j : Nat} (h : BS s N i q j) (d : Int) (n : Nat) (x : List UInt8) : BS (s.sendP d n x) (N + 1) i q (j + 1) := by
  have h1 := h.now; have h2 := h.nb; have h3 := h.sky; have h4 := h.lost; have h5 := h.n; have h6 := h.st
  unfold ES.sendP
  split
  · obtain ⟨_, z1, z2, z3, z4, z5⟩ := send_same s d x
    exact ⟨by rw [z2]; omega, by omega, by omega, by omega, by omega, by rw [z1]; exact h6⟩
  · exact ⟨by omega, by omega, by omega, by omega, by omega, h6⟩
theorem BS.big {s : ES} {N i q j : Nat} (h : BS s N i q j) (hi : i ≤ 61) (hq : q ≤ 3) (hj : j ≤ 1101) : s.now ≤ 1000000 ∧ s.number ≤ 800000 ∧ s.sky.length ≤ 800000 ∧ s.lost ≤ 800000000 ∧ N ≤ 900000 ∧ s.strays.length ≤ 100000 := by
  have h1 := h.now; have h2 := h.nb; have h3 := h.sky; have h4 := h.lost; have h5 := h.n; have h6 := h.st
  refine ⟨by omega, by omega, by omega, by omega, by omega, by omega⟩
theorem BS.done {s : ES} {N i q j : Nat} (h : BS s N i q j) (hj : j ≤ 1101) : BD s N i (q + 1) := by
  have h1 := h.now; have h2 := h.nb; have h3 := h.sky; have h4 := h.lost; have h5 := h.n; have h6 := h.st
  exact ⟨h1, by omega, by omega, by omega, by omega, h6⟩
set_option maxRecDepth 100000 in
set_option maxHeartbeats 3200000 in
theorem alike_any {w0 w : World} {X E N : Nat} {s : ES} {Fx Fr : Nat → Prop} (h : SC w0 w X E s s N Fx Fr) :
    Calls Try.prog 28 #[.pointer (some ⟨X, 0, none⟩), .pointer (some ⟨E, 0, none⟩)] w fun e w' => e = .returned (.bool true) ∧ Below w.heap.size w w' := by
  obtain ⟨c2, c8, A, c, c5⟩ := h.lr.cells
  obtain ⟨nw, hnw⟩ : ∃ k, s.now = k := ⟨_, rfl⟩
  obtain ⟨ls, hls⟩ : ∃ k, s.lost = k := ⟨_, rfl⟩
  obtain ⟨nl, hnl⟩ : ∃ k, s.sky.length = k := ⟨_, rfl⟩
  rw [hnw] at c2
  rw [hls] at c8
  rw [hnl] at c5
  have H := Lib.hid (And.intro h (And.intro hnw (And.intro hls hnl)))
  have x1 : (nw == nw) = true := by simp
  have x2 : ((nl : Int) == (nl : Int)) = true := by simp
  have x3 : (ls == ls) = true := by simp
  have x4 : (((s.wait 0 : Nat) : Int) == ((s.wait 0 : Nat) : Int)) = true := by simp
  have x5 : (((s.wait 1 : Nat) : Int) == ((s.wait 1 : Nat) : Int)) = true := by simp
  have x6 : (((s.wait 2 : Nat) : Int) == 0) = true := rfl
  clear h hnw hls hnl
  go_enter Try.func28, Try.ntmps28
  go_wp2_with fail
  go_quiet ((first
    | (go_at_call 23; refine Calls.quiet_of_same (v := .int .i64 nw) ((lf_now (H.out.1.lx.below (below_dN (Below.refl _ _) _))).mono ?_); rintro e w' ⟨rfl, rfl⟩; exact ⟨by rw [H.out.2.1], rfl⟩)
    | (go_at_call 15; refine Calls.quiet_of_same (v := .int .i64 (nl : Nat)) ((lf_flying (H.out.1.lx.below (below_dN (Below.refl _ _) _))).mono ?_); rintro e w' ⟨rfl, rfl⟩; exact ⟨by rw [H.out.2.2.2], rfl⟩)
    | (go_at_call 17; refine Calls.quiet_of_same (v := .int .i64 ls) ((lf_lost (H.out.1.lx.below (below_dN (Below.refl _ _) _))).mono ?_); rintro e w' ⟨rfl, rfl⟩; exact ⟨by rw [H.out.2.2.1], rfl⟩)
    | (go_at_call 29; refine Calls.quiet_of_same (v := .int .i64 (s.wait _ : Nat)) (lf_waiting (H.out.1.lx.below (below_dN (Below.refl _ _) _)) _))
    | (go_at_call 47; refine Calls.quiet_of_same (v := .int .i64 (s.wait _ : Nat)) (rwaiting_any (H.out.1.lr.below (below_dN (Below.refl _ _) _)) _))))
  go_wp2_with fail
  go_ret
  exact ⟨rfl, below_dN (Below.refl _ _) _⟩
/-- Both ethers; what lies in Z is as it was at wz. -/
def SV (w0 wz w : World) (X E : Nat) (sx sr : ES) (N : Nat) (Z : Nat → Prop) : Prop := ∃ Fx Fr, SC w0 w X E sx sr N Fx Fr ∧ (∀ k, Z k → ¬ Fx k ∧ ¬ Fr k ∧ k < wz.heap.size) ∧ Chg (fun k => ¬ Z k) wz w
section
variable {w0 wz w w' : World} {X E N : Nat} {s sx sr : ES} {Z Z' : Nat → Prop}
theorem SV.start {Fx Fr : Nat → Prop} (h : SC w0 w X E sx sr N Fx Fr) (hZ : ∀ k, Z k → ¬ Fx k ∧ ¬ Fr k ∧ k < w.heap.size) : SV w0 w w X E sx sr N Z := ⟨Fx, Fr, h, hZ, Chg.refl _ _⟩
theorem SV.below (h : SV w0 wz w X E sx sr N Z) (hb : Below w.heap.size w w') : SV w0 wz w' X E sx sr N Z := by
  obtain ⟨Fx, Fr, h1, h2, h3⟩ := h
  exact ⟨Fx, Fr, h1.below hb, h2, h3.trans (Chg.of_below (S := fun k => ¬ Z k) hb) fun _ _ e => e⟩
theorem SV.ok (h : SV w0 wz w X E sx sr N Z) : sx.ok := by obtain ⟨Fx, Fr, h1, _⟩ := h; exact h1.lx.ok
theorem SV.cell (h : SV w0 wz w X E sx sr N Z) {p : Addr} {v : Value} (hc : wz.cell? p = some v) (hp : Z p.block) : w.cell? p = some v := by
  obtain ⟨Fx, Fr, _, _, h3⟩ := h
  exact h3.cell' hc fun hn => hn hp
theorem SV.rd (h : SV w0 wz w X E sx sr N Z) {A : Option Addr} {n : Nat} {xs : List Value} (hr : Rd wz A n xs) (hp : 0 < n → ∀ a, A = some a → Z a.block) : Rd w A n xs := by
  obtain ⟨Fx, Fr, _, _, h3⟩ := h
  exact h3.rd0 hr fun a ha h0 hn => hn (hp h0 a ha)
theorem SV.b (h : SV w0 wz w X E sx sr N Z) : Below w0.heap.size w0 w := by obtain ⟨Fx, Fr, h1, _⟩ := h; exact h1.b
theorem sv_sendX (h : SV w0 wz w X E sx sr N Z) {A : Option Addr} {n c : Nat} {x : List UInt8} {d : Int} (hr : Rd wz A n (bys x)) (hp : 0 < n → ∀ a, A = some a → Z a.block) (hn : n ≤ 140737488351232) (hb : sx.now ≤ 1000000 ∧ sx.number ≤ 800000 ∧ sx.sky.length ≤ 800000 ∧ sx.lost ≤ 800000000 ∧ N ≤ 900000 ∧ sx.strays.length ≤ 100000) :
    Calls Try.prog 13 #[.pointer (some ⟨X, 0, none⟩), .int .i64 d, .slice A n c] w fun e w' => e = .returned (.int .i64 (sendE d n)) ∧ SV w0 wz w' X E (sx.sendP d n x) sr N Z := by
  have hr' := h.rd hr hp
  obtain ⟨Fx, Fr, h1, h2, h3⟩ := h
  refine (xsend_any h1.lx hr' (fun h0 a ha => (h2 _ (hp h0 a ha)).1) hn hb.1 hb.2.1 hb.2.2.1 hb.2.2.2.1).mono fun e w' ⟨e1, e2⟩ => ⟨e1, ?_⟩
  have hch := e2
  obtain ⟨_, _, _, hch⟩ := hch
  obtain ⟨F', g1, g2⟩ := h1.deedX e2
  refine ⟨F', Fr, g1, fun k hk => ⟨fun hf => ?_, (h2 k hk).2.1, (h2 k hk).2.2⟩, h3.trans hch fun k _ hf hz => (h2 k hz).1 hf⟩
  rcases g2 k hf with e | e
  · exact (h2 k hk).1 e
  · have := (h2 k hk).2.2; have := h3.size; omega
theorem sv_sendR (h : SV w0 wz w X E sx sr N Z) (hok : sr.ok) {A : Option Addr} {n c : Nat} {x : List UInt8} {d : Int} (hr : Rd wz A n (bys x)) (hp : 0 < n → ∀ a, A = some a → Z a.block) (hb : sr.now ≤ 1000000 ∧ sr.number ≤ 800000 ∧ sr.sky.length ≤ 800000 ∧ sr.lost ≤ 800000000 ∧ N ≤ 900000 ∧ sr.strays.length ≤ 100000) :
    Calls Try.prog 43 #[.pointer (some ⟨E, 0, none⟩), .int .i64 d, .slice A n c] w fun e w' => e = .returned (.int .i64 (sendE d n)) ∧ SV w0 wz w' X E sx (sr.sendP d n x) (N + 1) Z := by
  have hr' := h.rd hr hp
  obtain ⟨Fx, Fr, h1, h2, h3⟩ := h
  refine (rsendP_any h1.lr hok hr' (fun h0 a ha => (h2 _ (hp h0 a ha)).2.1) hb.1 hb.2.1 hb.2.2.1 hb.2.2.2.1 hb.2.2.2.2.1).mono fun e w' ⟨e1, e2⟩ => ⟨e1, ?_⟩
  have hch := e2
  obtain ⟨_, _, _, hch⟩ := hch
  obtain ⟨F', g1, g2⟩ := h1.deedR e2
  refine ⟨Fx, F', g1, fun k hk => ⟨(h2 k hk).1, fun hf => ?_, (h2 k hk).2.2⟩, h3.trans hch fun k _ hf hz => (h2 k hz).2.1 hf⟩
  rcases g2 k hf with e | e
  · exact (h2 k hk).2.1 e
  · have := (h2 k hk).2.2; have := h3.size; omega
theorem sv_tickX (h : SV w0 wz w X E sx sr N Z) (hb : sx.now ≤ 1000000 ∧ sx.number ≤ 800000 ∧ sx.sky.length ≤ 800000 ∧ sx.lost ≤ 800000000 ∧ N ≤ 900000 ∧ sx.strays.length ≤ 100000) :
    Calls Try.prog 19 #[.pointer (some ⟨X, 0, none⟩)] w fun e w' => e = .returned (.tuple #[.int .i64 (sx.tickN : Nat), .int .i64 0]) ∧ SV w0 wz w' X E sx.tick sr N Z := by
  obtain ⟨Fx, Fr, h1, h2, h3⟩ := h
  refine (lf_tick h1.lx hb.1 (by omega) (by omega)).mono fun e w' ⟨e1, e2⟩ => ⟨e1, ?_⟩
  have hch := e2
  obtain ⟨_, _, _, hch⟩ := hch
  obtain ⟨F', g1, g2⟩ := h1.deedX e2
  refine ⟨F', Fr, g1, fun k hk => ⟨fun hf => ?_, (h2 k hk).2.1, (h2 k hk).2.2⟩, h3.trans hch fun k _ hf hz => (h2 k hz).1 hf⟩
  rcases g2 k hf with e | e
  · exact (h2 k hk).1 e
  · have := (h2 k hk).2.2; have := h3.size; omega
theorem sv_tickR (h : SV w0 wz w X E sx sr N Z) (hok : sr.ok) (hb : sr.now ≤ 1000000 ∧ sr.number ≤ 800000 ∧ sr.sky.length ≤ 800000 ∧ sr.lost ≤ 800000000 ∧ N ≤ 900000 ∧ sr.strays.length ≤ 100000) :
    Calls Try.prog 51 #[.pointer (some ⟨E, 0, none⟩)] w fun e w' => e = .returned (.tuple #[.int .i64 (sr.tickN : Nat), .int .i64 0]) ∧ SV w0 wz w' X E sx sr.tick N Z := by
  obtain ⟨Fx, Fr, h1, h2, h3⟩ := h
  refine (rtick_any h1.lr hok hb.1 (by omega) (by omega) (by omega)).mono fun e w' ⟨e1, e2⟩ => ⟨e1, ?_⟩
  have hch := e2
  obtain ⟨_, _, _, hch⟩ := hch
  obtain ⟨F', g1, g2⟩ := h1.deedR e2
  refine ⟨Fx, F', g1, fun k hk => ⟨(h2 k hk).1, fun hf => ?_, (h2 k hk).2.2⟩, h3.trans hch fun k _ hf hz => (h2 k hz).2.1 hf⟩
  rcases g2 k hf with e | e
  · exact (h2 k hk).2.1 e
  · have := (h2 k hk).2.2; have := h3.size; omega
end
theorem ticks_any {w0 wz w : World} {X E N : Nat} {s : ES} {Z : Nat → Prop} (h : SV w0 wz w X E s s N Z) (hb : s.now ≤ 1000000 ∧ s.number ≤ 800000 ∧ s.sky.length ≤ 800000 ∧ s.lost ≤ 800000000 ∧ N ≤ 900000 ∧ s.strays.length ≤ 100000) :
    Calls Try.prog 45 #[.pointer (some ⟨X, 0, none⟩), .pointer (some ⟨E, 0, none⟩)] w fun e w' => e = .returned (.bool true) ∧ SV w0 wz w' X E s.tick s.tick N Z := by
  have H := Lib.hid (And.intro h (And.intro hb h.ok))
  obtain ⟨k, hk⟩ : ∃ k, s.tickN = k := ⟨_, rfl⟩
  have HK := Lib.hid hk
  have x1 : ((k : Int) == (k : Int)) = true := by simp
  clear h hb hk
  go_enter Try.func45, Try.ntmps45
  go_wp2_with fail
  refine (sv_tickX H.out.1 H.out.2.1).mono ?_
  rw [HK.out]
  rintro _ w2 ⟨rfl, h2⟩
  have H2 := Lib.hid h2
  clear h2
  go_wp2_with fail
  refine (sv_tickR H2.out H.out.2.2 H.out.2.1).mono ?_
  rw [HK.out]
  rintro _ w3 ⟨rfl, h3⟩
  have H3 := Lib.hid h3
  clear h3
  go_wp2_with fail
  go_ret
  exact ⟨rfl, H3.out⟩
theorem Mut.pre {w : World} {A : Option Addr} {n m g off : Nat} {xs : List Value} (h : Mut w A (n + m) g off xs) : Mut w A n g off (xs.take n) := by
  refine ⟨by rw [List.length_take, h.1]; omega, fun hn => ?_⟩
  obtain ⟨h1, t, cur, h2, h3, h4⟩ := h.2 (by omega)
  exact ⟨h1, t, cur, h2, by omega, by rw [← h4, List.take_take, Nat.min_eq_left (by omega)]⟩
end Go.Proofs.Ytknpghemogfenaa
