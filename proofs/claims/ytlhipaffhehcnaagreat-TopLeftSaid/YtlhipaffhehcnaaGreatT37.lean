/- TopLeft: curve: refuses, points. TopLeft: curve.Least. TopLeft: plan: owned, same; clones. TopLeft: mass.of. -/
import Derived.Test.YtlhipaffhehcnaaGreatT32
import Derived.Test.YtlhipaffhehcnaaGreatT36
import Derived.Deep.RegionLaw
import Derived.Test.YtlhipaffhehcnaaGreatT04
import Derived.Test.YtlhipaffhehcnaaGreatT33
namespace Go.Proofs.YtlhipaffhehcnaaGreat
open Go.RowKit Go.Shelf
set_option linter.unusedVariables false
set_option linter.unusedSimpArgs false
attribute [local go_sem] Oper.semAt_some
set_option maxRecDepth 100000 in
/-- curve.refuses, of what is fine -/
theorem vrefuses_any {w : World} {A : Option Addr} {n c k u : Nat} {t : List Nat} (h : Tb w A n t) (hk : k ≤ 8) (hu : u ≤ 4096) (ht : tOk t k = true) : Calls Tryz.prog 64 #[.slice A n c, .int .i64 (k : Nat), .int .i64 (u : Nat)] w fun e w' => e = .returned (.int .i64 0) ∧ w = w' := by
  obtain ⟨h1, _, _⟩ := tOk_len ht
  have HC := Lib.hid (solCheck_any (c := c) h (show k ≤ 65536 by omega))
  rw [chkN_yes ht] at HC
  have d1 : decide ((k : Int) < 1) = false := decide_eq_false (by omega)
  have d2 : decide ((k : Int) > 1024) = false := decide_eq_false (by omega)
  have d2' : decide (1024 < (k : Int)) = false := decide_eq_false (by omega)
  have d3 : decide ((u : Int) < 0) = false := decide_eq_false (by omega)
  have d4 : decide ((u : Int) > 4096) = false := decide_eq_false (by omega)
  have d4' : decide (4096 < (u : Int)) = false := decide_eq_false (by omega)
  clear h hk hu ht h1
  go_enter Tryz.func64, Tryz.ntmps64
  go_wp2_with fail
  refine HC.out.mono ?_
  rintro e w1 ⟨rfl, rfl⟩
  go_wp2_with fail
  go_ret
  exact ⟨rfl, rfl⟩
set_option maxRecDepth 100000 in
/-- curve.points -/
theorem points_any {w : World} {A : Option Addr} {nt c k n : Nat} {t : List Nat} (h : Tb w A nt t) : Calls Tryz.prog 67 #[.slice A nt c, .int .i64 (k : Nat), .int .i64 (n : Nat)] w fun e w' => e = .returned (.func (.func 102) #[] #[.pointer (some ⟨w.heap.size + 1 + 1, 0, none⟩), .pointer (some ⟨w.heap.size, 0, none⟩), .pointer (some ⟨w.heap.size + 1, 0, none⟩)]) ∧
      RwF A nt c t k n (w.heap.size + 1 + 1) w.heap.size (w.heap.size + 1) w' ∧ Below w.heap.size w w' := by
  have hmf : ∀ (fn : Fn) (first cap : Array Value) (w : World), (Instr.makeFunc fn first cap).run Tryz.prog w = .ok (.func fn first cap) w := fun _ _ _ _ => rfl
  obtain ⟨w1, hw1⟩ : ∃ w1, ((w.alloc (.cells #[.slice A nt c] 22)).alloc (.cells #[.int .i64 (k : Nat)] 3)).alloc (.cells #[.int .i64 (n : Nat)] 3) = w1 := ⟨_, rfl⟩
  have hb1 : Below w.heap.size w w1 := by rw [← hw1]; exact bl_allocd (bl_allocd (bl_allocd (Below.refl _ _) _) _) _
  have k4 : Bk w1 w.heap.size 22 [.slice A nt c] := by rw [← hw1]; exact ((Bk.newA w 22 #[.slice A nt c]).alloc _).alloc _
  have k5 : Bk w1 (w.heap.size + 1) 3 [.int .i64 (k : Nat)] := by
    have := (Bk.newA (w.alloc (.cells #[.slice A nt c] 22)) 3 #[.int .i64 (k : Nat)]).alloc (.cells #[.int .i64 (n : Nat)] 3)
    rw [World.size_alloc] at this
    rw [← hw1]; exact this
  have k6 : Bk w1 (w.heap.size + 1 + 1) 3 [.int .i64 (n : Nat)] := by
    have := Bk.newA ((w.alloc (.cells #[.slice A nt c] 22)).alloc (.cells #[.int .i64 (k : Nat)] 3)) 3 #[.int .i64 (n : Nat)]
    rw [World.size_alloc, World.size_alloc] at this
    rw [← hw1]; exact this
  have HF := Lib.hid (And.intro (show RwF A nt c t k n (w.heap.size + 1 + 1) w.heap.size (w.heap.size + 1) w1 from ⟨k4, k5, k6, h.below hb1⟩) hb1)
  clear h hb1 k4 k5 k6
  go_enter Tryz.func67, Tryz.ntmps67
  go_wp2_with fail
  go_ret
  exact ⟨rfl, HF.out⟩
/-- What points yields. -/
def OkF (t : List Nat) (k i : Nat) (x : Array Value) (W : World) : Prop := ∃ r q, x = #[.int .i64 (i : Nat), R3.v r] ∧ failO t k i = some q ∧ QV W r.v q
set_option maxRecDepth 100000 in
set_option maxHeartbeats 4000000 in
/-- What points hand on. -/
theorem points_iter {w : World} {B m M : Nat} {T : Nat → Prop} {A : Option Addr} {nt c : Nat} {t : List Nat} {k e b0 b1 b2 : Nat} (hm : 2 ≤ m) (h : RwF A nt c t k e b2 b0 b1 w) (hk : k ≤ 8) (hk1 : 1 ≤ k) (ht : tOk t k = true) (hM : M ≤ 8) (he : M < e) (he2 : e ≤ 100000)
    (hT : ∀ g, T g → g ≠ b0 ∧ g ≠ b1 ∧ g ≠ b2 ∧ ∀ a, A = some a → a.block ≠ g) (hq : ∀ i, i ≤ M → ∃ q, failO t k i = some q) :
    IterZ Fence.wide m Tryz.prog 102 #[.pointer (some ⟨b2, 0, none⟩), .pointer (some ⟨b0, 0, none⟩), .pointer (some ⟨b1, 0, none⟩)] B Nq T (OkF t k) e M w := by
  intro l J Jx W hkw hJM hJ hJx hY h0
  have hW := h.kq hkw ⟨fun e => e, fun e => e, fun e => e, fun _ _ e => e⟩
  have HH := Lib.hid (And.intro hJ (And.intro hJx (And.intro hY (And.intro hk (And.intro hk1 (And.intro ht (And.intro hM (And.intro hJM hq))))))))
  have HW := Lib.hid (And.intro hW h0)
  have HTb := Lib.hid (show ¬ T b2 ∧ ¬ T b0 ∧ ¬ T b1 ∧ (∀ a, A = some a → ¬ T a.block) from ⟨fun e => (hT _ e).2.2.1 rfl, fun e => (hT _ e).1 rfl, fun e => (hT _ e).2.1 rfl, fun a ha e => (hT _ e).2.2.2 a ha rfl⟩)
  have HE := Lib.hid (And.intro he he2)
  have c2 := hW.hu.cell 0
  have hk8 : (k : Int) ≤ 8 := by omega
  have heI : (e : Int) ≤ 100000 := by omega
  clear h hkw hJ hJx hY h0 hk hk1 ht hM hT hq hW hJM he he2
  refine callsIn_of_wp Tryz.func102 rfl trivial ?_ rfl
  simp only [Tryz.ntmps102, List.size_toArray, List.length_cons, List.length_nil, Nat.reduceAdd, Nat.reduceSub, Array.replicate_succ, Array.replicate_zero, List.push_toArray, List.append_toArray, List.nil_append, List.cons_append]
  refine wpIn_wide.2 ?_
  go_wp2_with fail
  clear c2
  go_loopg [9] (M + 1) (fun q s wr => ∃ i : Nat, q + i = M + 1 ∧ s = .int .i64 (i : Nat) ∧ RwF A nt c t k e b2 b0 b1 wr ∧ J i wr)
  case atStart => exact ⟨0, rfl, rfl, HW.out.1, HW.out.2⟩
  case round =>
    obtain ⟨i, hi, rfl, hF, hJi⟩ := hrel
    have hiM := HH.out.2.2.2.2.2.2.2.1 i wr hJi
    have hM8 := HH.out.2.2.2.2.2.2.1
    have hie : i < e := by have := HE.out.1; omega
    have d1 : decide ((i : Int) < (e : Int)) = true := decide_eq_true (by omega)
    have d2 : decide (i < e) = true := decide_eq_true hie
    have hiI : (i : Int) ≤ 8 := by omega
    obtain ⟨q, hq⟩ := HH.out.2.2.2.2.2.2.2.2 i hiM
    have HC := Lib.hid (And.intro (fail_any (nc := c) hF.tb HH.out.2.2.2.1 HH.out.2.2.2.2.1 HH.out.2.2.2.2.2.1 (by omega) hq) (And.intro hq (And.intro hi hie)))
    have HI := Lib.hid (And.intro hF hJi)
    have ct := hF.ht.cell 0
    have ck := hF.hk.cell 0
    clear hi hF hJi hiM hM8 hie hq
    refine (wpIn_wide (n := m)).1 ?_
    gi_wp2
    refine ⟨trivial, fun _ => by omega, ((callsIn_wide).2 HC.out.1).mono ?_⟩
    rintro e w2 ⟨v2, rfl, hv2, hb2⟩
    obtain ⟨r, rfl⟩ := hv2.r3
    have hb3 := bl_next hb2 (bl_allocd (Below.refl w2.heap.size w2) (.cells #[.bool r.s, .slice r.A r.m r.c, .slice r.B r.n r.d] 40))
    obtain ⟨fn, tmps, assign, body, hy, hR⟩ := HH.out.2.2.1 i #[.int .i64 (i : Nat), r.v] (w2.alloc (.cells #[.bool r.s, .slice r.A r.m r.c, .slice r.B r.n r.d] 40)) HC.out.2.2.2 (HH.out.1 _ _ _ HI.out.2 (Kx.none (Kq.of_below _ hb3)) (keepsFrom_below hb3)) ⟨r, q, rfl, HC.out.2.1, hv2.allocd _⟩
    have HF3 := Lib.hid (HI.out.1.below hb3)
    clear hv2 hb2 hb3 ct ck
    unfold R3.v at hy ⊢
    gi_wp2
    refine ⟨fun _ => by omega, hR.mono ?_⟩
    rintro e W3 ⟨hk3, (⟨rfl, hJ3⟩ | ⟨rfl, hJx3⟩)⟩
    · have hF4 := HF3.out.kx hk3 HTb.out
      have H4 := Lib.hid (And.intro hF4 hJ3)
      have hi1 := HH.out.2.2.2.2.2.2.2.1 _ _ hJ3
      have HI1 := Lib.hid hi1
      clear hF4 hJ3 hk3 hR hy hi1
      gi_wp2
      go_roundg (gk - 1)
      case measure => have := HC.out.2.2.1; have := HI1.out; omega
      case rel => exact ⟨i + 1, by have := HC.out.2.2.1; have := HI1.out; omega, by go_num, H4.out.1, H4.out.2⟩
    · have H4 := Lib.hid hJx3
      clear hk3 hJx3 hR hy
      gi_wp2
      refine bodyPost_ret (results_none rfl _ _ _) rfl ?_
      exact ⟨⟨_, rfl⟩, .inr H4.out⟩
end Go.Proofs.YtlhipaffhehcnaaGreat
namespace Go.Proofs.YtlhipaffhehcnaaGreat
open Go.RowKit Go.Shelf
set_option linter.unusedVariables false
set_option linter.unusedSimpArgs false
attribute [local go_sem] Oper.semAt_some
theorem failO_ok {t : List Nat} {k n : Nat} {q : Q} (h : failO t k n = some q) : q.ok = true := by
  unfold failO at h
  obtain ⟨l, _, h⟩ := Option.bind_eq_some_iff.1 h
  exact addO_ok h
theorem lv_int {w : World} {g : Nat} {x : Int} (h : Bk w g 3 [.int .i64 x]) : (loadVar 3 ⟨g, 0, none⟩).run Tryz.prog w = .ok (.int .i64 x) w := by
  have c := h.cell 0
  simp at c
  simp [loadVar, go_sem, c]
theorem lv_errno {w : World} {g : Nat} {x : Int} (h : Bk w g 25 [.int .i64 x]) : (loadVar 25 ⟨g, 0, none⟩).run Tryz.prog w = .ok (.int .i64 x) w := by
  have c := h.cell 0
  simp at c
  simp [loadVar, go_sem, c]
theorem ret_least {fn : Func} {p q r : Tmp} {tmps : Array Value} {w : World} {g h i : Nat} {m x : Int} {b u t : Value} (hr : fn.results = #[.cell p 3, .cell q 40, .cell r 25]) (hp : tmps.getD p undef = .pointer (some ⟨g, 0, none⟩)) (hq : tmps.getD q undef = .pointer (some ⟨h, 0, none⟩)) (hs : tmps.getD r undef = .pointer (some ⟨i, 0, none⟩))
    (h1 : Bk w g 3 [.int .i64 m]) (h2 : Bk w h 40 [b, u, t]) (h3 : Bk w i 25 [.int .i64 x]) : (results fn tmps).run Tryz.prog w = .ok (.tuple #[.int .i64 m, .agg #[b, u, t], .int .i64 x]) w := by
  have e2 := run_loadVar_row (P := Tryz.prog) w h 40 40 #[b, u, t] (0, 0) _ h2 Tryz.underlying40 rfl (by kernel_rfl)
  rw [Array.getD_eq_getD_getElem?] at hp hq hs
  simp only [results, hr]
  simp [Sem.run_bind, Result.andThen, hp, hq, hs, asAddr, lv_int h1, lv_errno h3, e2]
/-- What Least's range keeps. -/
structure LsI (w : World) (g b M : Nat) (re : R3) (eps : Q) (i : Nat) (W : World) : Prop where
  k6 : Bk W g 40 re.cells
  k8 : Bk W (g + 1) 3 [.int .i64 0]
  k9 : Bk W (g + 1 + 1) 40 R3.zero.cells
  k10 : Bk W (g + 1 + 1 + 1) 25 [.int .i64 0]
  q : QV W re.v eps
  l : Below w.heap.size w W
  i : i ≤ M
  n : b < W.heap.size
theorem LsI.kq {w W W' : World} {g b M i B : Nat} {re : R3} {eps : Q} (h : LsI w g b M re eps i W) (hk : Kq B Nq W W') (hB : w.heap.size ≤ B) : LsI w g b M re eps i W' :=
  ⟨hk.bk h.k6 id, hk.bk h.k8 id, hk.bk h.k9 id, hk.bk h.k10 id, hk.qv h.q, hk.below h.l (Nat.le_refl _) hB (fun k e => e.elim), h.i, Nat.lt_of_lt_of_le h.n hk.size⟩
theorem LsI.below {w W W' : World} {g b M i : Nat} {re : R3} {eps : Q} (h : LsI w g b M re eps i W) (hb : Below W.heap.size W W') : LsI w g b M re eps i W' :=
  ⟨h.k6.belowS hb, h.k8.belowS hb, h.k9.belowS hb, h.k10.belowS hb, h.q.below hb, bl_next h.l hb, h.i, Nat.lt_of_lt_of_le h.n hb.size⟩
/-- What Least leaves where it stops. -/
def LsX (w : World) (g M : Nat) (qM : Q) (c : Code) (W : World) : Prop := c = .ret ∧ Bk W (g + 1) 3 [.int .i64 (M : Nat)] ∧ (∃ r, Bk W (g + 1 + 1) 40 (R3.cells r) ∧ QV W r.v qM) ∧ Bk W (g + 1 + 1 + 1) 25 [.int .i64 0] ∧ Below w.heap.size w W
theorem LsX.kq {w W W' : World} {g M B : Nat} {qM : Q} {c : Code} (h : LsX w g M qM c W) (hk : Kq B Nq W W') (hB : w.heap.size ≤ B) : LsX w g M qM c W' := by
  obtain ⟨h1, h2, ⟨r, h3, h4⟩, h5, h6⟩ := h
  exact ⟨h1, hk.bk h2 id, ⟨r, hk.bk h3 id, hk.qv h4⟩, hk.bk h5 id, hk.below h6 (Nat.le_refl _) hB (fun k e => e.elim)⟩
def LsT (g x : Nat) : Prop := x = g + 1 ∨ x = g + 1 + 1 ∨ x = g + 1 + 1 + 1
def lsW (W : World) (g m : Nat) (r : R3) : World := (set3 (W.setCell ⟨g + 1, 0, none⟩ (.int .i64 (m : Nat))) (g + 1 + 1) r).setCell ⟨g + 1 + 1 + 1, 0, none⟩ (.int .i64 0)
theorem LsI.fin {w W W9 : World} {g b M i B : Nat} {re r : R3} {eps qM : Q} (h0 : LsI w g b M re eps i W) (hb : Below W.heap.size W W9) (h : LsI w g b M re eps i W9) (hq : QV W9 r.v qM) (hg : g = w.heap.size) : KeepsFrom B W (lsW W9 g M r) ∧ Kx B (LsT g) W (lsW W9 g M r) ∧ LsX w g M qM .ret (lsW W9 g M r) := by
  have c1 := chg_set1 W9 (g + 1) (.int .i64 (M : Nat))
  have c2 := chg_set3 (W9.setCell ⟨g + 1, 0, none⟩ (.int .i64 (M : Nat))) (g + 1 + 1) r
  have c3 := chg_set1 (set3 (W9.setCell ⟨g + 1, 0, none⟩ (.int .i64 (M : Nat))) (g + 1 + 1) r) (g + 1 + 1 + 1) (.int .i64 0)
  have hc9 : Chg (LsT g) W9 (lsW W9 g M r) := ((c1.mono (T := LsT g) (fun k _ e => .inl e)).trans c2 (fun k _ e => .inr (.inl e))).trans c3 (fun k _ e => .inr (.inr e))
  have hc : Chg (LsT g) W (lsW W9 g M r) := (Chg.of_below (S := LsT g) hb).trans hc9 (fun k _ e => e)
  have hn : ∀ (W : World), LsI w g b M re eps i W → ∀ (k : Nat) (c : Array Value) (t : TypeId) (z : Nat × Nat), LsT g k → W.heap[k]? = some (.cells c t z) → ∀ (i : Nat) (x : Int), c[i]? ≠ some (.int .u64 x) := by
    intro W h k c t z e
    rcases e with e | e | e
    · exact num_of_bk h.k8 (no_u64_int _) k c t z e
    · exact num_of_bk h.k9 (fun i x => R3.no_int _ i _ x) k c t z e
    · exact num_of_bk h.k10 (no_u64_int _) k c t z e
  have hk9 := Kq.of_chg 0 hc9 (hn W9 h)
  refine ⟨keepsFrom_chg hc ?_, (Kq.of_chg B hc (hn W h0)).x (fun _ e => e), rfl, ?_, ⟨r, ?_, hk9.qv hq⟩, ?_, ?_⟩
  · intro k o e _ ho
    rcases e with e | e | e <;> subst e
    · exact bk_cells h0.k8 ho
    · exact bk_cells h0.k9 ho
    · exact bk_cells h0.k10 ho
  · exact c3.bk (c2.bk (h.k8.set_ 0 _) (by omega)) (by omega)
  · exact c3.bk (Bk.set3 (c1.bk h.k9 (by omega)) r) (by omega)
  · exact (c2.bk (c1.bk h.k10 (by omega)) (by omega)).set_ 0 _
  · exact hc9.below h.l (fun k _ e => by rcases e with e | e | e <;> omega) h.l.size
set_option maxRecDepth 100000 in
set_option maxHeartbeats 4000000 in
/-- curve.Least -/
theorem least_any {w : World} {A : Option Addr} {nt nc k M : Nat} {t : List Nat} {v : Value} {eps qM : Q} (h : Tb w A nt t) (hv : QV w v eps) (hok : eps.ok = true) (hc : qcmp eps ⟨1, 1⟩ < 0) (hs : 0 < sgn eps.z) (hk : k ≤ 8) (hk1 : 1 ≤ k) (ht : tOk t k = true) (hM : M ≤ 8)
    (hf : ∀ i, i < M → ∃ q, failO t k i = some q ∧ 0 < qcmp q eps) (hfM : failO t k M = some qM) (hcM : qcmp qM eps ≤ 0) :
    Calls Tryz.prog 30 #[.slice A nt nc, .int .i64 (k : Nat), v, .int .i64 4096] w fun e w' => ∃ u, e = .returned (.tuple #[.int .i64 (M : Nat), u, .int .i64 0]) ∧ QV w' u qM ∧ Below w.heap.size w w' := by
  obtain ⟨re, rfl⟩ := hv.r3
  obtain ⟨g, hg⟩ : ∃ g, w.heap.size = g := ⟨_, rfl⟩
  obtain ⟨w1, hw1⟩ : ∃ w1, (((w.alloc (.cells #[.bool re.s, .slice re.A re.m re.c, .slice re.B re.n re.d] 40)).alloc (.cells #[.int .i64 0] 3)).alloc (.cells #[.bool false, .slice none 0 0, .slice none 0 0] 40)).alloc (.cells #[.int .i64 0] 25) = w1 := ⟨_, rfl⟩
  have hb1 : Below w.heap.size w w1 := by rw [← hw1]; exact bl_allocd (bl_allocd (bl_allocd (bl_allocd (Below.refl _ _) _) _) _) _
  have k6 : Bk w1 g 40 re.cells := by rw [← hw1, ← hg]; exact (((Bk.newA w 40 #[.bool re.s, .slice re.A re.m re.c, .slice re.B re.n re.d]).alloc _).alloc _).alloc _
  have k8 : Bk w1 (g + 1) 3 [.int .i64 0] := by
    have := ((Bk.newA (w.alloc (.cells #[.bool re.s, .slice re.A re.m re.c, .slice re.B re.n re.d] 40)) 3 #[.int .i64 0]).alloc (.cells #[.bool false, .slice none 0 0, .slice none 0 0] 40)).alloc (.cells #[.int .i64 0] 25)
    rw [World.size_alloc, hg] at this
    rw [← hw1]; exact this
  have k9 : Bk w1 (g + 1 + 1) 40 R3.zero.cells := by
    have := (Bk.newA ((w.alloc (.cells #[.bool re.s, .slice re.A re.m re.c, .slice re.B re.n re.d] 40)).alloc (.cells #[.int .i64 0] 3)) 40 #[.bool false, .slice none 0 0, .slice none 0 0]).alloc (.cells #[.int .i64 0] 25)
    rw [World.size_alloc, World.size_alloc, hg] at this
    rw [← hw1]; exact this
  have k10 : Bk w1 (g + 1 + 1 + 1) 25 [.int .i64 0] := by
    have := Bk.newA (((w.alloc (.cells #[.bool re.s, .slice re.A re.m re.c, .slice re.B re.n re.d] 40)).alloc (.cells #[.int .i64 0] 3)).alloc (.cells #[.bool false, .slice none 0 0, .slice none 0 0] 40)) 25 #[.int .i64 0]
    rw [World.size_alloc, World.size_alloc, World.size_alloc, hg] at this
    rw [← hw1]; exact this
  have H1 := Lib.hid (And.intro (And.intro k6 (And.intro k8 (And.intro k9 k10))) (And.intro (hv.below hb1) (And.intro (h.below hb1) hb1)))
  have HP := Lib.hid (And.intro h (And.intro hok (And.intro hk (And.intro hk1 (And.intro ht (And.intro hM (And.intro hf (And.intro hfM (And.intro hcM hg)))))))))
  have e1 : ((1 : Nat) : Int) = 1 := rfl
  obtain ⟨c, hcc⟩ : ∃ c, qcmp eps ⟨1, 1⟩ = c := ⟨_, rfl⟩
  obtain ⟨s, hss⟩ : ∃ s, sgn eps.z = s := ⟨_, rfl⟩
  have HX := Lib.hid (And.intro hcc hss)
  rw [hcc] at hc
  rw [hss] at hs
  have dc1 : decide (c ≥ 0) = false := decide_eq_false (by omega)
  have dc2 : decide ((0 : Int) ≤ c) = false := decide_eq_false (by omega)
  have ds1 : decide (s ≤ 0) = false := decide_eq_false (by omega)
  have c6 := bk3 k6
  clear h hv hok hk hk1 ht hM hf hfM hcM hb1 k6 k8 k9 k10 hcc hss hc hs e1
  refine (callsIn_wide (n := 10)).1 ?_
  unfold R3.v
  refine callsIn_of_wp_marks Tryz.func30 rfl trivial ?_ rfl
  simp only [Tryz.ntmps30, List.size_toArray, List.length_cons, List.length_nil, Nat.reduceAdd, Nat.reduceSub, Array.replicate_succ, Array.replicate_zero, List.push_toArray, List.append_toArray, List.nil_append, List.cons_append]
  refine wpIn_wide.2 ?_
  go_wp2_with fail
  have HG := Lib.hid hg
  clear hw1 hg
  refine (vrefuses_any (u := 4096) H1.out.2.2.1 HP.out.2.2.1 (by decide) HP.out.2.2.2.2.1).mono ?_
  rintro e w2 ⟨rfl, rfl⟩
  go_wp2_with fail
  refine (check_q H1.out.2.1 HP.out.2.1).mono ?_
  rintro e w3 ⟨rfl, hb3⟩
  have c6' := bk3 (H1.out.1.1.belowS hb3)
  have H3 := Lib.hid (And.intro (And.intro (H1.out.1.1.belowS hb3) (And.intro (H1.out.1.2.1.belowS hb3) (And.intro (H1.out.1.2.2.1.belowS hb3) (H1.out.1.2.2.2.belowS hb3)))) (And.intro (H1.out.2.1.below hb3) (And.intro (H1.out.2.2.1.below hb3) (bl_next H1.out.2.2.2 hb3))))
  clear hb3 c6
  go_wp2_with fail
  refine (pair_q (n := 1) (d := 1) (by decide) (by decide) (by decide)).mono ?_
  rintro e w4 ⟨v4, rfl, hv4, hb4⟩
  rw [whole1] at hv4
  obtain ⟨r4, rfl⟩ := hv4.r3
  obtain ⟨o12, ho12⟩ : ∃ o12 : Obj, o12 = .cells #[.bool r4.s, .slice r4.A r4.m r4.c, .slice r4.B r4.n r4.d] 40 := ⟨_, rfl⟩
  obtain ⟨b12, hb12⟩ : ∃ b12, w4.heap.size = b12 := ⟨_, rfl⟩
  obtain ⟨w5, hw5⟩ : ∃ w5, w4.alloc o12 = w5 := ⟨_, rfl⟩
  have hb5 : Below w4.heap.size w4 w5 := by rw [← hw5]; exact bl_allocd (Below.refl _ _) _
  have hb35 := bl_next hb4 hb5
  have c12 : w5.cell? ⟨b12, 0, none⟩ = some (.bool r4.s) ∧ w5.cell? ⟨b12, 1, none⟩ = some (.slice r4.A r4.m r4.c) ∧ w5.cell? ⟨b12, 2, none⟩ = some (.slice r4.B r4.n r4.d) := by
    rw [← hw5, ← hb12, ho12]; exact bk3 (Bk.newA w4 40 #[.bool r4.s, .slice r4.A r4.m r4.c, .slice r4.B r4.n r4.d])
  have H5 := Lib.hid (And.intro (And.intro (H3.out.1.1.belowS hb35) (And.intro (H3.out.1.2.1.belowS hb35) (And.intro (H3.out.1.2.2.1.belowS hb35) (H3.out.1.2.2.2.belowS hb35)))) (And.intro (H3.out.2.1.below hb35) (And.intro (H3.out.2.2.1.below hb35) (And.intro (bl_next H3.out.2.2.2 hb35) (hv4.below hb5)))))
  have c6w := bk3 ((H3.out.1.1.belowS hb4).alloc (.cells #[.bool r4.s, .slice r4.A r4.m r4.c, .slice r4.B r4.n r4.d] 40))
  have hg4 : g < w4.heap.size := (H3.out.1.1.belowS hb4).lt
  clear hv4 hb4 hb5 hb35 c6'
  unfold R3.v
  go_wp2_with fail
  rw [← ho12, hw5]
  clear ho12 hw5 hb12 c6w hg4
  refine (cmp_q (va := re.v) (vb := r4.v) (a := eps) (b := ⟨1, 1⟩) H5.out.2.1 H5.out.2.2.2.2 HP.out.2.1 rfl).mono ?_
  rintro e w6 ⟨rfl, hb6⟩
  rw [HX.out.1]
  have c6 := bk3 (H5.out.1.1.belowS hb6)
  have H6 := Lib.hid (And.intro (And.intro (H5.out.1.1.belowS hb6) (And.intro (H5.out.1.2.1.belowS hb6) (And.intro (H5.out.1.2.2.1.belowS hb6) (H5.out.1.2.2.2.belowS hb6)))) (And.intro (H5.out.2.1.below hb6) (And.intro (H5.out.2.2.1.below hb6) (bl_next H5.out.2.2.2.1 hb6))))
  clear hb6 c12
  go_wp2_with fail
  refine (sign_any (RV.un H6.out.2.1).1).mono ?_
  rintro e w7 ⟨rfl, hb7⟩
  rw [HX.out.2]
  have H7 := Lib.hid (And.intro (And.intro (H6.out.1.1.belowS hb7) (And.intro (H6.out.1.2.1.belowS hb7) (And.intro (H6.out.1.2.2.1.belowS hb7) (H6.out.1.2.2.2.belowS hb7)))) (And.intro (H6.out.2.1.below hb7) (And.intro (H6.out.2.2.1.below hb7) (bl_next H6.out.2.2.2 hb7))))
  clear hb7 c6
  go_wp2_with fail
  refine (points_any (n := 4097) H7.out.2.2.1).mono ?_
  rintro e w8 ⟨rfl, hF8, hb8⟩
  obtain ⟨b, hbb⟩ : ∃ b, w7.heap.size = b := ⟨_, rfl⟩
  rw [hbb] at hF8 ⊢
  have H8 := Lib.hid (And.intro (And.intro (H7.out.1.1.belowS hb8) (And.intro (H7.out.1.2.1.belowS hb8) (And.intro (H7.out.1.2.2.1.belowS hb8) (H7.out.1.2.2.2.belowS hb8)))) (And.intro (H7.out.2.1.below hb8) (And.intro hF8 (And.intro (bl_next H7.out.2.2.2 hb8) (by have := H7.out.1.2.2.2.lt; omega : g + 1 + 1 + 1 < b)))))
  clear hb8 hF8 hbb
  go_wp2_with fail
  have hAl : ∀ a, A = some a → a.block < g := fun a ha => by
    subst ha
    rw [← HG.out]
    exact HP.out.1.1.lt (by have := (tOk_len HP.out.2.2.2.2.1).2.1; have := HP.out.1.2.1; omega) a rfl
  have hgb : g + 1 + 1 + 1 < b ∧ g = w.heap.size ∧ b < w8.heap.size := ⟨H8.out.2.2.2.2, HG.out.symm, H8.out.2.2.1.ht.lt⟩
  have HA := Lib.hid (And.intro hAl hgb)
  clear hAl hgb
  refine (wpIn_wide (n := 9)).1 ?_
  refine range_stZ Nq (LsT g) rfl (by decide) (gf := 102) (lb := #[.pointer (some ⟨b + 1 + 1, 0, none⟩), .pointer (some ⟨b, 0, none⟩), .pointer (some ⟨b + 1, 0, none⟩)]) rfl trivial (enters_of Tryz.func102 (by kernel_rfl) rfl)
    (fun i W => LsI w g b M re eps i W) (OkF t k) 4097 (LsX w g M qM) ?hps ?hI ?hI0 ?hIx ?hIx0 M ?hIM ?h0 ?hseq
    (fun i x' a' W => ∃ g17 r q, x' = #[.int .i64 (i : Nat), R3.v r] ∧ failO t k i = some q ∧ QV W r.v q ∧ Bk W g17 40 r.cells ∧ b < g17 ∧ a' = { tmps := List.toArray (.slice A nt nc :: .int .i64 (k : Nat) :: .agg #[.bool re.s, .slice re.A re.m re.c, .slice re.B re.n re.d] :: .int .i64 4096 :: undef :: undef :: .pointer (some ⟨g, 0, none⟩) :: undef :: .pointer (some ⟨g + 1, 0, none⟩) :: .pointer (some ⟨g + 1 + 1, 0, none⟩) :: .pointer (some ⟨g + 1 + 1 + 1, 0, none⟩) :: .int .i64 0 :: .pointer (some ⟨b12, 0, none⟩) :: .int .i64 0 :: .int .i64 c :: .int .i64 0 :: .int .i64 (i : Nat) :: .pointer (some ⟨g17, 0, none⟩) :: undef :: undef :: .slice A nt nc :: .int .i64 (k : Nat) :: .int .i64 4096 :: .int .i64 0 :: .int .i64 0 :: .bool false :: undef :: undef :: .agg #[.bool re.s, .slice re.A re.m re.c, .slice re.B re.n re.d] :: .int .i64 0 :: .bool false :: undef :: .tuple #[.agg #[.bool r4.s, .slice r4.A r4.m r4.c, .slice r4.B r4.n r4.d], .int .i64 0] :: .tuple #[.agg #[.bool r4.s, .slice r4.A r4.m r4.c, .slice r4.B r4.n r4.d], .int .i64 0] :: .agg #[.bool r4.s, .slice r4.A r4.m r4.c, .slice r4.B r4.n r4.d] :: .int .i64 0 :: .tuple #[.int .i64 c, .int .i64 0] :: .agg #[.bool re.s, .slice re.A re.m re.c, .slice re.B re.n re.d] :: .agg #[.bool r4.s, .slice r4.A r4.m r4.c, .slice r4.B r4.n r4.d] :: .tuple #[.int .i64 c, .int .i64 0] :: .int .i64 c :: .int .i64 0 :: .int .i64 c :: .bool false :: .bool false :: .pointer (some ⟨g, 0, none⟩) :: .agg #[.bool re.s, .slice re.A re.m re.c] :: .int .i64 s :: .bool false :: .bool false :: undef :: .slice A nt nc :: .int .i64 (k : Nat) :: .int .i64 4096 :: .int .i64 4097 :: .func (.func 102) #[] #[.pointer (some ⟨b + 1 + 1, 0, none⟩), .pointer (some ⟨b, 0, none⟩), .pointer (some ⟨b + 1, 0, none⟩)] :: .int .i64 (i : Nat) :: .agg #[.bool r.s, .slice r.A r.m r.c, .slice r.B r.n r.d] :: undef :: undef :: undef :: undef :: undef :: undef :: undef :: undef :: undef :: undef :: undef :: []), defers := [] }) ?hAx ?hassign ?hbody ?hdone ?hstop
  case hps =>
    rintro i x W ⟨r, q, rfl, _⟩
    rfl
  case hI =>
    rintro i W W' h ⟨S, hk, hS⟩
    exact h.kq (hk.mono (fun x => ⟨fun e => hS x e, fun e => e.elim⟩)) H8.out.2.2.2.1.size
  case hI0 => exact fun i W W' h hk => h.kq hk H8.out.2.2.2.1.size
  case hIx =>
    rintro c W W' h ⟨S, hk, hS⟩
    exact h.kq (hk.mono (fun x => ⟨fun e => hS x e, fun e => e.elim⟩)) H8.out.2.2.2.1.size
  case hIx0 => exact fun c W W' h hk => h.kq hk H8.out.2.2.2.1.size
  case hIM => exact fun i W h => h.i
  case h0 => exact ⟨H8.out.1.1, H8.out.1.2.1, H8.out.1.2.2.1, H8.out.1.2.2.2, H8.out.2.1, H8.out.2.2.2.1, Nat.zero_le _, HA.out.2.2.2⟩
  case hseq =>
    exact points_iter (m := 8) (by decide) H8.out.2.2.1 HP.out.2.2.1 HP.out.2.2.2.1 HP.out.2.2.2.2.1 HP.out.2.2.2.2.2.1 (by have := HP.out.2.2.2.2.2.1; omega) (by decide) (fun x e => by
      have h1 := HA.out
      rcases e with e | e | e
      · exact ⟨by omega, by omega, by omega, fun a ha => by have := h1.1 a ha; omega⟩
      · exact ⟨by omega, by omega, by omega, fun a ha => by have := h1.1 a ha; omega⟩
      · exact ⟨by omega, by omega, by omega, fun a ha => by have := h1.1 a ha; omega⟩) (fun i hi => by
      rcases Nat.lt_or_ge i M with h | h
      · obtain ⟨q, hq, _⟩ := HP.out.2.2.2.2.2.2.1 i h
        exact ⟨q, hq⟩
      · obtain rfl : i = M := by omega
        exact ⟨_, HP.out.2.2.2.2.2.2.2.1⟩)
  case hAx =>
    rintro i x' a' W W' ⟨g17, r, q, h1, h2, h3, h4, h5, h6⟩ hk
    exact ⟨g17, r, q, h1, h2, hk.qv h3, hk.bk h4 id, h5, h6⟩
  case hassign =>
    intro l₀ i x' W K hIW hok hK
    obtain ⟨r, q, rfl, hq, hqv⟩ := hok
    have HK := Lib.hid hK
    have HI := Lib.hid (And.intro hIW (And.intro hq hqv))
    clear hK hIW hq hqv
    unfold R3.v
    gi_wp2
    have hbl : Below W.heap.size W (W.alloc (.cells #[.bool r.s, .slice r.A r.m r.c, .slice r.B r.n r.d] 40)) := bl_allocd (Below.refl _ _) _
    refine HK.out _ _ (keepsFrom_below hbl) (Kx.none (Kq.of_below _ hbl)) (HI.out.1.below hbl) ⟨W.heap.size, r, q, rfl, HI.out.2.1, HI.out.2.2.below hbl, Bk.newA W 40 #[.bool r.s, .slice r.A r.m r.c, .slice r.B r.n r.d], HI.out.1.n, rfl⟩
  case hbody =>
    rintro l₀ i x' a' W hl hr hiN hI ⟨g17, r, q, rfl, hq, hqv, k17, h17, rfl⟩
    have HI := Lib.hid (And.intro hI (And.intro hqv (And.intro k17 (And.intro h17 hq))))
    have c17 := bk3 k17
    have c6 := bk3 hI.k6
    clear hl hr hiN hI hq hqv k17 h17
    gi_wp2
    refine ⟨trivial, (CallsIn.inRound l₀ ((callsIn_wide).2 (cmp_q (va := r.v) (vb := re.v) (a := q) (b := eps) HI.out.2.1 HI.out.1.q (failO_ok HI.out.2.2.2.2) HP.out.2.1))).mono ?_⟩
    rintro e w9 ⟨rfl, hb9⟩
    obtain ⟨c9, hc9⟩ : ∃ c9, qcmp q eps = c9 := ⟨_, rfl⟩
    rw [hc9]
    have H9 := Lib.hid (And.intro (HI.out.1.below hb9) (And.intro (HI.out.2.2.1.belowS hb9) (And.intro (HI.out.2.1.below hb9) hb9)))
    have HC := Lib.hid hc9
    clear hb9 hc9 c17 c6
    by_cases hiM : i < M
    · have hc' : 0 < c9 := by
        obtain ⟨q', hq', hc'⟩ := HP.out.2.2.2.2.2.2.1 i hiM
        obtain rfl := Option.some.inj (HI.out.2.2.2.2.symm.trans hq')
        rw [HC.out] at hc'
        exact hc'
      have dd : decide (c9 ≤ 0) = false := decide_eq_false (by omega)
      have HM := Lib.hid hiM
      clear hc' hiM
      gi_wp2
      have h9 := H9.out
      exact ⟨keepsFrom_below h9.2.2.2, Kx.none (Kq.of_below _ h9.2.2.2), ⟨h9.1.k6, h9.1.k8, h9.1.k9, h9.1.k10, h9.1.q, h9.1.l, HM.out, h9.1.n⟩⟩
    · have him : i = M := by have := HI.out.1.i; omega
      subst him
      obtain rfl := Option.some.inj (HI.out.2.2.2.2.symm.trans HP.out.2.2.2.2.2.2.2.1)
      have hc' := HP.out.2.2.2.2.2.2.2.2.1
      rw [HC.out] at hc'
      have dd : decide (c9 ≤ 0) = true := decide_eq_true hc'
      have hid := HA.out.2
      have HD := Lib.hid (And.intro (H9.out.1.below (Below.refl _ _).drew) (H9.out.2.1.belowS (Below.refl _ _).drew))
      have A17 := Lib.hid ((chg_set1 w9.drew (g + 1) (.int .i64 (i : Nat))).bk HD.out.2 (by have := HI.out.2.2.2.1; omega))
      have B17 := Lib.hid ((chg_set3 (w9.drew.setCell ⟨g + 1, 0, none⟩ (.int .i64 (i : Nat))) (g + 1 + 1) r).bk A17.out (by have := HI.out.2.2.2.1; omega))
      have D17 := Lib.hid ((chg_set1 (set3 (w9.drew.setCell ⟨g + 1, 0, none⟩ (.int .i64 (i : Nat))) (g + 1 + 1) r) (g + 1 + 1 + 1) (.int .i64 0)).bk B17.out (by have := HI.out.2.2.2.1; omega))
      have a17 := bk3 A17.out
      have b17 := bk3 B17.out
      have d17 := bk3 D17.out
      simp only [set3, World.setCell_drew] at a17 b17 d17
      have A17b := Lib.hid a17
      have B17b := Lib.hid b17
      have D17b := Lib.hid d17
      clear hc' hiM hid a17 b17 d17
      gi_wp2
      refine region_round (S := fun w' => w'.cell? ⟨g17, 0, none⟩ = some (.bool r.s) ∧ w'.cell? ⟨g17, 1, none⟩ = some (.slice r.A r.m r.c) ∧ w'.cell? ⟨g17, 2, none⟩ = some (.slice r.B r.n r.d)) (by kernel_rfl) (by kernel_rfl) (bk3 HD.out.2) (fun hS => ?_)
      refine wpAnyH_take (i := 0) (v := _) rfl (by kernel_rfl) (by kernel_rfl) (by kernel_rfl) (fun _ _ _ h => h) (Or.inl ⟨by rfl, fun w' hw' => by ((try dsimp only at hw'); go_split_ands; first | (go_simp; done) | (go_simp; with_reducible rfl))⟩) hS ?_
      (try simp only [Act.put, List.getElem_toArray, List.getElem_cons_zero, List.getElem_cons_succ, List.setIfInBounds_toArray, List.set_cons_zero, List.set_cons_succ])
      refine wpAnyH_take (i := 1) (v := _) rfl (by kernel_rfl) (by kernel_rfl) (by kernel_rfl) (fun _ _ _ h => h) (Or.inl ⟨by rfl, fun w' hw' => by ((try dsimp only at hw'); go_split_ands; first | (go_simp; done) | (go_simp; with_reducible rfl))⟩) hS ?_
      (try simp only [Act.put, List.getElem_toArray, List.getElem_cons_zero, List.getElem_cons_succ, List.setIfInBounds_toArray, List.set_cons_zero, List.set_cons_succ])
      obtain ⟨s8, f8, _⟩ := cells1 HD.out.1.k8
      refine wpAnyH_ready (rs := [2]) (by kernel_rfl) (by simp) ?_
      refine AllReadyH.cons rfl (fun K hK => ?_) AllReadyH.nil
      simp only [List.getElem_toArray, List.getElem_cons_zero, List.getElem_cons_succ]
      go_simp
      refine hK.out _ _ ?_ (fun hS1 => ?_)
      · exact A17b.out
      clear hK K
      (try simp only [Act.put, List.setIfInBounds_toArray, List.set_cons_zero, List.set_cons_succ])
      clear s8 f8
      obtain ⟨y0, y1, y2, f0, f1, f2⟩ := cells_rat H9.out.1.k9
      refine wpAnyH_ready (rs := [3]) (by kernel_rfl) (by simp) ?_
      refine AllReadyH.cons rfl (fun K hK => ?_) AllReadyH.nil
      simp only [List.getElem_toArray, List.getElem_cons_zero, List.getElem_cons_succ]
      go_simp
      refine hK.out _ _ ?_ (fun hS2 => ?_)
      · exact B17b.out
      clear hK K
      (try simp only [Act.put, List.setIfInBounds_toArray, List.set_cons_zero, List.set_cons_succ])
      clear y0 y1 y2 f0 f1 f2
      obtain ⟨y3, f3, _⟩ := cells1 H9.out.1.k10
      refine wpAnyH_ready (rs := [4]) (by kernel_rfl) (by simp) ?_
      refine AllReadyH.cons rfl (fun K hK => ?_) AllReadyH.nil
      simp only [List.getElem_toArray, List.getElem_cons_zero, List.getElem_cons_succ]
      go_simp
      refine hK.out _ _ ?_ (fun hS3 => ?_)
      · exact D17b.out
      clear hK K
      (try simp only [Act.put, List.setIfInBounds_toArray, List.set_cons_zero, List.set_cons_succ])
      clear y3 f3
      refine wpAnyH_done (by kernel_rfl) ?_ _
      simp only [NormR, Exit.then]
      gi_wp2
      have hfin := HI.out.1.fin (B := w8.heap.size) (bl_next H9.out.2.2.2 (Below.refl _ _).drew) HD.out.1 (H9.out.2.2.1.below (Below.refl _ _).drew) HA.out.2.2.1
      simp only [lsW, set3, World.setCell_drew] at hfin
      exact hfin
  case hdone =>
    intro D W _ h
    have := h.i
    have := HP.out.2.2.2.2.2.1
    omega
  case hstop =>
    rintro D c W hD ⟨rfl, h1, ⟨r, h2, h3⟩, h4, h5⟩ hKD
    have HW := Lib.hid (And.intro h1 (And.intro h2 (And.intro h3 (And.intro h4 (And.intro h5 (And.intro hKD hD))))))
    clear h1 h2 h3 h4 h5 hKD hD
    gi_wp2
    obtain ⟨h1, h2, h3, h4, h5, hKD, hD⟩ := HW.out
    have hkq : Kq w8.heap.size Nq W (W.putObj D (.deferred none)) := Kq.put hD hKD rfl
    refine ⟨by simp, .inl ⟨_, _, rfl, run_takeDeferred hKD, ?_⟩⟩
    exact ⟨_, ret_least rfl rfl rfl rfl (hkq.bk h1 id) (hkq.bk h2 id) (hkq.bk h4 id), _, rfl, hkq.qv h3, hkq.below h5 (Nat.le_refl _) H8.out.2.2.2.1.size (fun k e => e.elim)⟩
end Go.Proofs.YtlhipaffhehcnaaGreat
namespace Go.Proofs.YtlhipaffhehcnaaGreat
open Go.RowKit Go.Shelf
set_option linter.unusedVariables false
set_option linter.unusedSimpArgs false
theorem cloneV_any {w : World} {v : Value} {n : Nat} (h : NV w v n) : Calls Tryz.prog 68 #[v] w fun e w' => ∃ v, e = .returned v ∧ NV w' v n ∧ Below w.heap.size w w' := by
  obtain ⟨A, c, rfl, h1, h2⟩ := h
  exact cloneN_any h2 h1
theorem wts_nums (t : List Nat) : wts t = nums (t.map fun x : Nat => (x : Int)) := by simp [wts, nums]
theorem cloneT_any {w : World} {A : Option Addr} {n c : Nat} {t : List Nat} (h : Tb w A n t) : Calls Tryz.prog 31 #[.slice A n c] w fun e w' => ∃ A' c', e = .returned (.slice A' n c') ∧ Tb w' A' n t ∧ (0 < n → ∀ a, A' = some a → w.heap.size ≤ a.block) ∧ Below w.heap.size w w' := by
  have h1 := h.1
  rw [wts_nums] at h1
  refine (cloneI_any h1 (by have := h.2.2.1; omega)).mono ?_
  rintro e w' ⟨v, rfl, ho, hb⟩
  obtain ⟨A', c', rfl, _, _, _, hf⟩ := own_form ho
  refine ⟨A', c', rfl, ⟨by rw [wts_nums]; exact Rd.of_own ho, h.2⟩, fun hn a ha => ?_, hb⟩
  obtain ⟨g, _, e, hg, _⟩ := hf hn
  rw [e] at ha
  injection ha with ha
  subst ha
  exact hg
theorem QV.parts {w : World} {r : R3} {q : Q} (h : QV w r.v q) : r.s = decide (q.z < 0) ∧ NV w (.slice r.A r.m r.c) q.z.natAbs ∧ NV w (.slice r.B r.n r.d) q.d := by
  obtain ⟨u, t, e, h1, h2⟩ := h
  unfold R3.v at e
  injection e with e
  have e1 := congrArg Array.toList e
  simp at e1
  obtain ⟨e1, rfl, rfl⟩ := e1
  exact ⟨e1, h1, h2⟩
set_option maxRecDepth 100000 in
set_option maxHeartbeats 1000000 in
/-- plan.owned -/
theorem owned_any {w : World} {v : Value} {q : Q} (h : QV w v q) : Calls Tryz.prog 32 #[v] w fun e w' => ∃ u, e = .returned u ∧ QV w' u q ∧ Below w.heap.size w w' := by
  obtain ⟨r, rfl⟩ := h.r3
  obtain ⟨g, hg⟩ : ∃ g, w.heap.size = g := ⟨_, rfl⟩
  obtain ⟨w1, hw1⟩ : ∃ w1, (w.alloc (.cells #[.bool r.s, .slice r.A r.m r.c, .slice r.B r.n r.d] 40)).alloc (.cells #[.bool false, .slice none 0 0, .slice none 0 0] 40) = w1 := ⟨_, rfl⟩
  have hb1 : Below w.heap.size w w1 := by rw [← hw1]; exact bl_allocd (bl_allocd (Below.refl _ _) _) _
  have k1 : Bk w1 g 40 r.cells := by rw [← hw1, ← hg]; exact (Bk.newA w 40 #[.bool r.s, .slice r.A r.m r.c, .slice r.B r.n r.d]).alloc _
  have k2 : Bk w1 (g + 1) 40 R3.zero.cells := by rw [← hw1, ← hg]; exact Bk.new2 w _ 40 #[.bool false, .slice none 0 0, .slice none 0 0]
  obtain ⟨es, n1, n2⟩ := (h.below hb1).parts
  have H1 := Lib.hid (And.intro (k1.belowS (Below.refl _ _).drew) (And.intro (k2.belowS (Below.refl _ _).drew) (And.intro (hb1.drew) (And.intro es hg))))
  have Q0 := Lib.hid (n1.below (Below.refl _ _).drew)
  have Q1 := Lib.hid (n2.below (Below.refl _ _).drew)
  have c1 := bk3 (k1.belowS (Below.refl _ _).drew)
  clear h hb1 k1 k2 es n1 n2
  unfold R3.v
  go_enter Tryz.func32, Tryz.ntmps32
  go_wp2_with fail
  clear hg
  go_region_law (first
    | (go_simp; go_at_call 68; refine (cloneV_any (n := q.z.natAbs) Q0.out).mono ?_; rintro e wa ⟨u, rfl, hu, hb⟩; obtain ⟨A1, c3, rfl, u1, u2⟩ := hu; have HA := Lib.hid (And.intro u1 (And.intro u2 hb)); have Q2 := Lib.hid (Q1.out.below hb); have ca := bk3 (H1.out.1.belowS hb); clear Q0 Q1 u1 u2 hb)
    | (go_simp; go_at_call 68; refine (cloneV_any (n := q.d) Q2.out).mono ?_; rintro e wb ⟨u, rfl, hu, hb⟩; obtain ⟨A2, c4, rfl, u1, u2⟩ := hu; have HB := Lib.hid (And.intro u1 (And.intro u2 hb)); have cb := cells_rat ((H1.out.1.belowS HA.out.2.2).belowS hb); obtain ⟨cb0, cb1, cb2, _, fb1, fb2⟩ := cb; obtain ⟨e0, e1, e2, s0, s1, s2⟩ := cells_rat ((H1.out.2.1.belowS HA.out.2.2).belowS hb); clear Q2 u1 u2 hb))
  all_goals go_wp2_with fail
  all_goals
    have hbb := HB.out.2.2
    have haa := HA.out.2.2
    have kg := (H1.out.1.belowS haa).belowS hbb
    have kh := (H1.out.2.1.belowS haa).belowS hbb
    have hg := H1.out.2.2.2.2
    have hc : Chg (fun k => k = g ∨ k = g + 1) wb (set3 ((wb.setCell ⟨g, 1, none⟩ (.slice A1 (ln q.z.natAbs) c3)).setCell ⟨g, 2, none⟩ (.slice A2 (ln q.d) c4)) (g + 1) ⟨r.s, A1, ln q.z.natAbs, c3, A2, ln q.d, c4⟩) :=
      ((((Chg.refl (fun k => k = g ∨ k = g + 1) wb).set_ (g := g) (.inl rfl) 1 (.slice A1 (ln q.z.natAbs) c3)).set_ (g := g) (.inl rfl) 2 (.slice A2 (ln q.d) c4))).trans (chg_set3 _ (g + 1) _) (fun k _ e => .inr e)
    have hk := Kq.of_chg 0 hc (fun k c t z e ho => by
      rcases e with e | e
      · exact num_of_bk kg (fun i x => R3.no_int _ i _ x) k c t z e ho
      · exact num_of_bk kh (fun i x => R3.no_int _ i _ x) k c t z e ho)
    have kz := Bk.set3 ((((Chg.refl (fun k => k = g) wb).set_ (g := g) (show (fun k => k = g) g from rfl) 1 (.slice A1 (ln q.z.natAbs) c3)).set_ (g := g) (show (fun k => k = g) g from rfl) 2 (.slice A2 (ln q.d) c4)).bk kh (by omega)) ⟨r.s, A1, ln q.z.natAbs, c3, A2, ln q.d, c4⟩
    have hbl := hc.below (bl_next (bl_next H1.out.2.2.1 haa) hbb) (fun k _ e => by omega) (bl_next (bl_next H1.out.2.2.1 haa) hbb).size
    refine bodyPost_ret (ret_rat27 rfl rfl kz) rfl ?_
    refine ⟨_, rfl, ⟨_, _, by rw [H1.out.2.2.2.1], ?_, ?_⟩, hbl⟩
    · exact hk.nv (NV.below ⟨A1, c3, rfl, HA.out.1, HA.out.2.1⟩ hbb)
    · exact hk.nv ⟨A2, c4, rfl, HB.out.1, HB.out.2.1⟩
end Go.Proofs.YtlhipaffhehcnaaGreat
namespace Go.Proofs.YtlhipaffhehcnaaGreat
open Go.RowKit Go.Shelf
set_option linter.unusedVariables false
set_option linter.unusedSimpArgs false
attribute [local go_sem] Oper.semAt_some
/-- All sets of d symbols from fr on, behind sm. -/
def ofS (k : Nat) : Nat → Nat → List Nat → List (List Nat)
  | 0, _, sm => [sm]
  | d + 1, fr, sm => (List.range (k + 1 - (d + 1) - fr)).flatMap fun j => ofS k d (fr + j + 1) (sm ++ [fr + j])
set_option maxRecDepth 100000 in
/-- slices.Clip -/
theorem clipI_any {w : World} {A : Option Addr} {n c : Nat} (hn : n ≤ c) (hc : n ≤ 1000) : Calls Tryz.prog 43 #[.slice A n c] w fun e w' => e = .returned (.slice A n n) ∧ w = w' := by
  have h1 : (n : Int) ≤ (c : Int) := by omega
  have h2 : (n : Int) ≤ 1000 := by omega
  clear hc
  go_enter Tryz.func43, Tryz.ntmps43
  go_wp2_with fail
  go_ret
  exact ⟨by simp, rfl⟩
/-- What of's iterator reads. -/
structure OfF (A : Option Addr) (n c : Nat) (sm : List Nat) (k fr d bd bs bf bk : Nat) (W : World) : Prop where
  kd : Bk W bd 3 [.int .i64 (d : Nat)]
  ks : Bk W bs 22 [.slice A n c]
  kf : Bk W bf 3 [.int .i64 (fr : Nat)]
  kk : Bk W bk 3 [.int .i64 (k : Nat)]
  r : Rd W A n (wts sm)
  nc : n ≤ c
  z : n = 0 → A = none
section
variable {A : Option Addr} {n c : Nat} {sm : List Nat} {k fr d bd bs bf bk : Nat} {W W' : World}
theorem OfF.below (h : OfF A n c sm k fr d bd bs bf bk W) (hb : Below W.heap.size W W') : OfF A n c sm k fr d bd bs bf bk W' :=
  ⟨h.kd.belowS hb, h.ks.belowS hb, h.kf.belowS hb, h.kk.belowS hb, h.r.below hb, h.nc, h.z⟩
theorem OfF.kx {B : Nat} {T : Nat → Prop} (h : OfF A n c sm k fr d bd bs bf bk W) (hk : Kx B T W W') (hT : ¬ T bd ∧ ¬ T bs ∧ ¬ T bf ∧ ¬ T bk ∧ (∀ a, A = some a → ¬ T a.block)) : OfF A n c sm k fr d bd bs bf bk W' := by
  obtain ⟨S, h1, k1⟩ := hk
  exact ⟨h1.bk h.kd (fun e => hT.1 (k1 _ e)), h1.bk h.ks (fun e => hT.2.1 (k1 _ e)), h1.bk h.kf (fun e => hT.2.2.1 (k1 _ e)), h1.bk h.kk (fun e => hT.2.2.2.1 (k1 _ e)), h1.rd h.r (fun a ha e => hT.2.2.2.2 a ha (k1 _ e)), h.nc, h.z⟩
theorem OfF.kq {B : Nat} (h : OfF A n c sm k fr d bd bs bf bk W) (hk : Kq B Nq W W') : OfF A n c sm k fr d bd bs bf bk W' :=
  h.kx (T := Nq) (hk.x (fun _ e => e)) ⟨id, id, id, id, fun _ _ e => e⟩
end
set_option maxRecDepth 100000 in
/-- mass.of -/
theorem mof_any {w : World} {A : Option Addr} {n c k fr d : Nat} {sm : List Nat} (h : Rd w A n (wts sm)) (hn : n ≤ c) (hz : n = 0 → A = none) : Calls Tryz.prog 17 #[.int .i64 (k : Nat), .int .i64 (fr : Nat), .int .i64 (d : Nat), .slice A n c] w fun e w' => e = .returned (.func (.func 42) #[] #[.pointer (some ⟨w.heap.size + 1 + 1, 0, none⟩), .pointer (some ⟨w.heap.size + 1 + 1 + 1, 0, none⟩), .pointer (some ⟨w.heap.size + 1, 0, none⟩), .pointer (some ⟨w.heap.size, 0, none⟩)]) ∧
      OfF A n c sm k fr d (w.heap.size + 1 + 1) (w.heap.size + 1 + 1 + 1) (w.heap.size + 1) w.heap.size w' ∧ Below w.heap.size w w' := by
  have hmf : ∀ (fn : Fn) (first cap : Array Value) (w : World), (Instr.makeFunc fn first cap).run Tryz.prog w = .ok (.func fn first cap) w := fun _ _ _ _ => rfl
  obtain ⟨w1, hw1⟩ : ∃ w1, (((w.alloc (.cells #[.int .i64 (k : Nat)] 3)).alloc (.cells #[.int .i64 (fr : Nat)] 3)).alloc (.cells #[.int .i64 (d : Nat)] 3)).alloc (.cells #[.slice A n c] 22) = w1 := ⟨_, rfl⟩
  have hb1 : Below w.heap.size w w1 := by rw [← hw1]; exact bl_allocd (bl_allocd (bl_allocd (bl_allocd (Below.refl _ _) _) _) _) _
  have k4 : Bk w1 w.heap.size 3 [.int .i64 (k : Nat)] := by rw [← hw1]; exact (((Bk.newA w 3 #[.int .i64 (k : Nat)]).alloc _).alloc _).alloc _
  have k5 : Bk w1 (w.heap.size + 1) 3 [.int .i64 (fr : Nat)] := by
    have := ((Bk.newA (w.alloc (.cells #[.int .i64 (k : Nat)] 3)) 3 #[.int .i64 (fr : Nat)]).alloc (.cells #[.int .i64 (d : Nat)] 3)).alloc (.cells #[.slice A n c] 22)
    rw [World.size_alloc] at this
    rw [← hw1]; exact this
  have k6 : Bk w1 (w.heap.size + 1 + 1) 3 [.int .i64 (d : Nat)] := by
    have := (Bk.newA ((w.alloc (.cells #[.int .i64 (k : Nat)] 3)).alloc (.cells #[.int .i64 (fr : Nat)] 3)) 3 #[.int .i64 (d : Nat)]).alloc (.cells #[.slice A n c] 22)
    rw [World.size_alloc, World.size_alloc] at this
    rw [← hw1]; exact this
  have k7 : Bk w1 (w.heap.size + 1 + 1 + 1) 22 [.slice A n c] := by
    have := Bk.newA (((w.alloc (.cells #[.int .i64 (k : Nat)] 3)).alloc (.cells #[.int .i64 (fr : Nat)] 3)).alloc (.cells #[.int .i64 (d : Nat)] 3)) 22 #[.slice A n c]
    rw [World.size_alloc, World.size_alloc, World.size_alloc] at this
    rw [← hw1]; exact this
  have HF := Lib.hid (And.intro (show OfF A n c sm k fr d (w.heap.size + 1 + 1) (w.heap.size + 1 + 1 + 1) (w.heap.size + 1) w.heap.size w1 from ⟨k6, k7, k5, k4, h.below hb1, hn, hz⟩) hb1)
  clear h hb1 k4 k5 k6 k7 hn hz
  go_enter Tryz.func17, Tryz.ntmps17
  go_wp2_with fail
  go_ret
  exact ⟨rfl, HF.out⟩
end Go.Proofs.YtlhipaffhehcnaaGreat
