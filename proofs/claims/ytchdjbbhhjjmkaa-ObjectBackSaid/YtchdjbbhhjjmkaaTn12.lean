/- Chapter 12: ten, CopyManifest, SameManifest, long, lies, begins. -/
import Derived.Test.YtchdjbbhhjjmkaaMe12
namespace Go.Proofs.Ytchdjbbhhjjmkaa
open Go.RowKit
set_option linter.unusedVariables false
def tenM : MF := ⟨10, 2, 2, 7, [1, 1]⟩
def MF.same (a b : MF) : Bool := a.z == b.z && (a.s == b.s && (a.k == b.k && (a.d == b.d && a.t == b.t)))
theorem same_iff {a b : MF} : a.same b = true ↔ a = b := by
  obtain ⟨z, s, k, d, t⟩ := a
  obtain ⟨z', s', k', d', t'⟩ := b
  simp [MF.same]
theorem same_refl (a : MF) : a.same a = true := same_iff.2 rfl
section
variable {w : World} {A A' : Option Addr} {n n' c c' : Nat} {m m' : MF}
set_option maxRecDepth 100000 in
theorem copyM_any (h : MA w A n c m) :
    Calls Try.prog 12 #[m.v A n c] w fun e w' => ∃ A' c', e = .returned (m.v A' n c') ∧ w'.ownsRow w.heap.size 3 1 (.slice A' n c') n (nums m.t) ∧ Below w.heap.size w w' := by
  obtain ⟨z, s, k, d, t⟩ := m
  have hb1 := (Below.refl w.heap.size w).alloc (Nat.le_refl _) (.cells #[.int .i64 z, .int .i64 s, .int .i64 k, .int .i64 d, .slice A n c] 24)
  have hz := Bk.newA w 24 #[.int .i64 z, .int .i64 s, .int .i64 k, .int .i64 d, .slice A n c]
  obtain ⟨w1, hw1⟩ : ∃ w1, w1 = w.alloc (.cells #[.int .i64 z, .int .i64 s, .int .i64 k, .int .i64 d, .slice A n c] 24) := ⟨_, rfl⟩
  have hs1 : w1.heap.size = w.heap.size + 1 := by rw [hw1, World.size_alloc]
  rw [← hw1] at hb1 hz
  have hm1 := h.below (below_base (Below.refl _ _) (by rw [hw1]; exact (Below.refl _ _).alloc (Nat.le_refl _) _) (Nat.le_refl _) : Below w.heap.size w w1)
  have hb2 := hb1.alloc hb1.size (.cells #[.int .i64 0, .int .i64 0, .int .i64 0, .int .i64 0, .slice none 0 0] 24)
  have hz2 := hz.alloc (.cells #[.int .i64 0, .int .i64 0, .int .i64 0, .int .i64 0, .slice none 0 0] 24)
  have hM := Bk.newA w1 24 #[.int .i64 0, .int .i64 0, .int .i64 0, .int .i64 0, .slice none 0 0]
  have hm2 := hm1.below ((Below.refl _ _).alloc (Nat.le_refl _) (.cells #[.int .i64 0, .int .i64 0, .int .i64 0, .int .i64 0, .slice none 0 0] 24))
  have hne : w.heap.size ≠ w.heap.size + 1 := by omega
  have hne2 : w.heap.size + 1 ≠ w.heap.size := by omega
  rw [hs1] at hM
  obtain ⟨w2, hw2⟩ : ∃ w2, w2 = w1.alloc (.cells #[.int .i64 0, .int .i64 0, .int .i64 0, .int .i64 0, .slice none 0 0] 24) := ⟨_, rfl⟩
  rw [← hw2] at hb2 hz2 hM hm2
  have hs2 : w2.heap.size = w.heap.size + 2 := by rw [hw2, World.size_alloc, hs1]
  have H := Lib.hid (And.intro hb2 (And.intro hz2 (And.intro hM (And.intro hm2 hs2))))
  obtain ⟨c0, c1, c2, c3, c4⟩ := cells5 hz2
  clear h hb1 hz hm1 hb2 hz2 hM hm2 hs2
  have HW := Lib.hid (And.intro hw1 hs1)
  show Calls Try.prog 12 #[.agg #[.int .i64 z, .int .i64 s, .int .i64 k, .int .i64 d, .slice A n c]] w _
  go_enter Try.func12, Try.ntmps12
  go_wp2_with fail
  rw [← hw1, ← hw2]
  clear hw1 hw2 hs1
  refine (copyInts_any H.out.2.2.2.1.1 H.out.2.2.2.1.2.2.1).mono ?_
  rintro e w3 ⟨v, rfl, ho, hb3⟩
  obtain ⟨A1, d1, rfl, hd⟩ := own_form ho
  clear hd c0 c1 c2 c3 c4
  have hk := H.out.2.1.belowS hb3
  have hk2 := H.out.2.2.1.belowS hb3
  have h4 := hk.set_ 4 (.slice A1 n d1)
  have hc1 : Chg (fun k => k = w.heap.size) w3 (w3.setCell ⟨w.heap.size, 4, none⟩ (.slice A1 n d1)) := (Chg.refl (fun k => k = w.heap.size) w3).set_ (show w.heap.size = w.heap.size from rfl) _ _
  have c4 := hk.cell 4
  have f4 := hk.frozen 4
  obtain ⟨e0, e1, e2, e3, e4⟩ := cells5 h4
  have h5 := hc1.bk hk2 (by show ¬ w.heap.size + 1 = w.heap.size; omega)
  have g0 := h5.frozen 0
  have g1 := h5.frozen 1
  have g2 := h5.frozen 2
  have g3 := h5.frozen 3
  have g4 := h5.frozen 4
  obtain ⟨m0, m1, m2, m3, m4⟩ := cells5 h5
  have hb5 := (below_base H.out.1 hb3 H.out.1.size).setCell (Nat.le_refl w.heap.size) (p := ⟨w.heap.size, 4, none⟩) (.slice A1 n d1)
  have HX := Lib.hid (And.intro h5 (And.intro hb5 (hc1.own ho (fun a ha e => by have := (own_ge ho a ha).1; have := H.out.2.2.2.2; omega))))
  clear h4 hk hk2 hc1 h5 ho hb3 hb5
  go_wp2_with fail
  have hS : ∃ wz, wz = (((((w3.setCell ⟨w.heap.size, 4, none⟩ (.slice A1 n d1)).setCell ⟨w.heap.size + 1, 0, none⟩ (.int .i64 z)).setCell ⟨w.heap.size + 1, 1, none⟩ (.int .i64 s)).setCell ⟨w.heap.size + 1, 2, none⟩ (.int .i64 k)).setCell ⟨w.heap.size + 1, 3, none⟩ (.int .i64 d)).setCell ⟨w.heap.size + 1, 4, none⟩ (.slice A1 n d1) := ⟨_, rfl⟩
  have h6 := ((((HX.out.1.set_ 0 (.int .i64 z)).set_ 1 (.int .i64 s)).set_ 2 (.int .i64 k)).set_ 3 (.int .i64 d)).set_ 4 (.slice A1 n d1)
  have hc6 := (((((Chg.refl (fun j => j = w.heap.size + 1) (w3.setCell ⟨w.heap.size, 4, none⟩ (.slice A1 n d1))).set_ (g := w.heap.size + 1) rfl 0 (.int .i64 z)).set_ (g := w.heap.size + 1) rfl 1 (.int .i64 s)).set_ (g := w.heap.size + 1) rfl 2 (.int .i64 k)).set_ (g := w.heap.size + 1) rfl 3 (.int .i64 d)).set_ (g := w.heap.size + 1) rfl 4 (.slice A1 n d1)
  refine ret_mf rfl rfl rfl h6 ⟨A1, d1, rfl, own_mono (hc6.own HX.out.2.2 (fun a ha e => by have := (own_ge HX.out.2.2 a ha).1; have := H.out.2.2.2.2; omega)) (by have := H.out.2.2.2.2; omega), ?_⟩
  exact hc6.below HX.out.2.1 (fun j _ e => by subst e; exact Nat.le_succ _) HX.out.2.1.size
set_option maxRecDepth 100000 in
theorem sameM_any (h : MA w A n c m) (h' : MA w A' n' c' m') :
    Calls Try.prog 20 #[m.v A n c, m'.v A' n' c'] w fun e w' => e = .returned (.bool (m.same m')) ∧ Below w.heap.size w w' := by
  obtain ⟨z, s, k, d, t⟩ := m
  obtain ⟨z', s', k', d', t'⟩ := m'
  obtain ⟨w1, hw1⟩ : ∃ w1, w1 = w.alloc (.cells #[.int .i64 z, .int .i64 s, .int .i64 k, .int .i64 d, .slice A n c] 24) := ⟨_, rfl⟩
  have hb1 : Below w.heap.size w w1 := by rw [hw1]; exact (Below.refl _ _).alloc (Nat.le_refl _) _
  have hz1 : Bk w1 w.heap.size 24 [.int .i64 z, .int .i64 s, .int .i64 k, .int .i64 d, .slice A n c] := by rw [hw1]; exact Bk.newA w _ _
  have hs1 : w1.heap.size = w.heap.size + 1 := by rw [hw1, World.size_alloc]
  obtain ⟨w2, hw2⟩ : ∃ w2, w2 = w1.alloc (.cells #[.int .i64 z', .int .i64 s', .int .i64 k', .int .i64 d', .slice A' n' c'] 24) := ⟨_, rfl⟩
  have hb2 : Below w1.heap.size w1 w2 := by rw [hw2]; exact (Below.refl _ _).alloc (Nat.le_refl _) _
  have hz2 : Bk w2 (w.heap.size + 1) 24 [.int .i64 z', .int .i64 s', .int .i64 k', .int .i64 d', .slice A' n' c'] := by rw [hw2, ← hs1]; exact Bk.newA w1 _ _
  obtain ⟨c0, c1, c2, c3, c4⟩ := cells5 (hz1.belowS hb2)
  obtain ⟨e0, e1, e2, e3, e4⟩ := cells5 hz2
  have hB := below_base hb1 hb2 hb1.size
  have H := Lib.hid (And.intro (h.below hB) (And.intro (h'.below hB) hB))
  clear h h' hb1 hz1 hb2 hz2 hB
  show Calls Try.prog 20 #[.agg #[.int .i64 z, .int .i64 s, .int .i64 k, .int .i64 d, .slice A n c], .agg #[.int .i64 z', .int .i64 s', .int .i64 k', .int .i64 d', .slice A' n' c']] w _
  cases x0 : (z == z') with
  | true =>
    cases x1 : (s == s') with
    | true =>
      cases x2 : (k == k') with
      | true =>
        cases x3 : (d == d') with
        | true =>
          go_enter Try.func20, Try.ntmps20
          go_wp2_with fail
          rw [← hw1, ← hw2]
          clear hw1 hw2 hs1
          go_wp2_with fail
          refine (sameInts_any H.out.1.1 H.out.2.1.1 (by have := H.out.1.2.2.1; omega)).mono ?_
          rintro e w3 ⟨rfl, hb3⟩
          have H3 := Lib.hid (below_base H.out.2.2 hb3 H.out.2.2.size)
          clear hb3
          go_wp2
          go_ret
          exact ⟨ret_bool (by simp [MF.same, x0, x1, x2, x3]), H3.out⟩
        | false =>
          go_enter Try.func20, Try.ntmps20
          go_wp2_with fail
          rw [← hw1, ← hw2]
          clear hw1 hw2 hs1
          go_wp2_with fail
          go_ret
          exact ⟨ret_bool (by simp [MF.same, x0, x1, x2, x3]), H.out.2.2⟩
      | false =>
        go_enter Try.func20, Try.ntmps20
        go_wp2_with fail
        rw [← hw1, ← hw2]
        clear hw1 hw2 hs1
        go_wp2_with fail
        go_ret
        exact ⟨ret_bool (by simp [MF.same, x0, x1, x2]), H.out.2.2⟩
    | false =>
      go_enter Try.func20, Try.ntmps20
      go_wp2_with fail
      rw [← hw1, ← hw2]
      clear hw1 hw2 hs1
      go_wp2_with fail
      go_ret
      exact ⟨ret_bool (by simp [MF.same, x0, x1]), H.out.2.2⟩
  | false =>
    go_enter Try.func20, Try.ntmps20
    go_wp2_with fail
    rw [← hw1, ← hw2]
    clear hw1 hw2 hs1
    go_wp2_with fail
    go_ret
    exact ⟨ret_bool (by simp [MF.same, x0]), H.out.2.2⟩
end
end Go.Proofs.Ytchdjbbhhjjmkaa
