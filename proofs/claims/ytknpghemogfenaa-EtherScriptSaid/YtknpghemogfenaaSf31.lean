/- Chapter 31: (*Ether).Send refuses. -/
import Derived.Test.YtknpghemogfenaaSe31
namespace Go.Proofs.Ytknpghemogfenaa
open Go.Conc Go.RowKit
set_option linter.unusedVariables false
theorem box3 {w w3 : World} {v0 v1 v2 : Value} (hw3 : w3 = ((w.alloc (.cells #[v0] 25)).alloc (.cells #[v1] 3)).alloc (.cells #[v2] 32)) :
    Below w.heap.size w w3 ∧ w3.cell? ⟨w.heap.size, 0, none⟩ = some v0 ∧ w3.cell? ⟨w.heap.size + 1, 0, none⟩ = some v1 ∧ w3.cell? ⟨w.heap.size + 2, 0, none⟩ = some v2 := by
  have hb3 : Below w.heap.size w w3 := by rw [hw3]; exact (((Below.refl _ _).alloc (Nat.le_refl _) _).alloc (by simp) _).alloc (by simp; omega) _
  have q1 : Bk w3 w.heap.size 25 [v0] := by rw [hw3]; exact ((Bk.newA w _ #[v0]).alloc _).alloc _
  have q2 : Bk w3 (w.heap.size + 1) 3 [v1] := by rw [hw3]; exact (Bk.new2 w _ _ #[v1]).alloc _
  have q3 : Bk w3 (w.heap.size + 2) 32 [v2] := by
    rw [hw3]
    have := Bk.newA ((w.alloc (.cells #[v0] 25)).alloc (.cells #[v1] 3)) 32 #[v2]
    simpa using this
  exact ⟨hb3, q1.cell 0, q2.cell 0, q3.cell 0⟩
set_option maxRecDepth 100000 in
set_option maxHeartbeats 1600000 in
theorem send_bad {w : World} {base E : Nat} {s : ES} {F : Nat → Prop} (h : Ew w base E s F) {A : Option Addr} {n c : Nat} {d : Int} (hd : isEnd d = false) :
    Calls Try.prog 13 #[.pointer (some ⟨E, 0, none⟩), .int .i64 d, .slice A n c] w fun e w' => e = .returned (.int .i64 2) ∧ Below w.heap.size w w' := by
  obtain ⟨m, h1, h2, h3, h4⟩ := h
  obtain ⟨w3, hw3⟩ : ∃ w3, w3 = ((w.alloc (.cells #[.pointer (some ⟨E, 0, none⟩)] 25)).alloc (.cells #[.int .i64 d] 3)).alloc (.cells #[.slice A n c] 32) := ⟨_, rfl⟩
  obtain ⟨hb3, k1, k2, k3⟩ := box3 hw3
  have H3 := Lib.hid (And.intro (h1.below hb3) (And.intro hb3 hd))
  clear h1 h2 h3 h4 hb3 hd
  go_enter Try.func13, Try.ntmps13
  go_upto_region 1 with fail
  rw [← hw3]
  clear hw3
  go_wp2_with fail
  refine (enone_em H3.out.1).mono ?_
  rintro e w3 ⟨rfl, rfl⟩
  go_wp2_with fail
  refine (end_any d).mono ?_
  rintro e w3 ⟨rfl, rfl⟩
  rw [H3.out.2.2]
  go_wp2
  go_ret
  exact ⟨rfl, H3.out.2.1⟩
set_option maxRecDepth 100000 in
set_option maxHeartbeats 1600000 in
theorem send_long {w : World} {base E : Nat} {s : ES} {F : Nat → Prop} (h : Ew w base E s F) {A : Option Addr} {n c : Nat} {d : Int} (hd : isEnd d = true) (hn : 70000 < n) (hn2 : n ≤ 140737488351232) :
    Calls Try.prog 13 #[.pointer (some ⟨E, 0, none⟩), .int .i64 d, .slice A n c] w fun e w' => e = .returned (.int .i64 4) ∧ Below w.heap.size w w' := by
  obtain ⟨m, h1, h2, h3, h4⟩ := h
  obtain ⟨w3, hw3⟩ : ∃ w3, w3 = ((w.alloc (.cells #[.pointer (some ⟨E, 0, none⟩)] 25)).alloc (.cells #[.int .i64 d] 3)).alloc (.cells #[.slice A n c] 32) := ⟨_, rfl⟩
  obtain ⟨hb3, k1, k2, k3⟩ := box3 hw3
  have H3 := Lib.hid (And.intro (h1.below hb3) (And.intro hb3 hd))
  have d1 : decide ((n : Int) > 70000) = true := by simp; omega
  have d2 : decide (70000 < (n : Int)) = true := by simp; omega
  have d3 : decide (70000 < n) = true := by simpa using hn
  have hn' : (n : Int) ≤ 140737488351232 := by omega
  clear h1 h2 h3 h4 hb3 hd hn hn2
  go_enter Try.func13, Try.ntmps13
  go_upto_region 1 with fail
  rw [← hw3]
  clear hw3
  go_wp2_with fail
  refine (enone_em H3.out.1).mono ?_
  rintro e w3 ⟨rfl, rfl⟩
  go_wp2_with fail
  refine (end_any d).mono ?_
  rintro e w3 ⟨rfl, rfl⟩
  rw [H3.out.2.2]
  go_wp2
  go_ret
  exact ⟨rfl, H3.out.2.1⟩
set_option maxRecDepth 100000 in
set_option maxHeartbeats 1600000 in
theorem send_nil {w : World} {A : Option Addr} {n c : Nat} {d : Int} :
    Calls Try.prog 13 #[.pointer none, .int .i64 d, .slice A n c] w fun e w' => e = .returned (.int .i64 1) ∧ Below w.heap.size w w' := by
  obtain ⟨w3, hw3⟩ : ∃ w3, w3 = ((w.alloc (.cells #[.pointer none] 25)).alloc (.cells #[.int .i64 d] 3)).alloc (.cells #[.slice A n c] 32) := ⟨_, rfl⟩
  obtain ⟨hb3, k1, k2, k3⟩ := box3 hw3
  have H3 := Lib.hid hb3
  clear hb3
  go_enter Try.func13, Try.ntmps13
  go_upto_region 1 with fail
  rw [← hw3]
  clear hw3
  go_wp2_with fail
  refine enone_nil.mono ?_
  rintro e w3 ⟨rfl, rfl⟩
  go_wp2
  go_ret
  exact ⟨rfl, H3.out⟩
set_option maxRecDepth 100000 in
set_option maxHeartbeats 1600000 in
theorem send_zero {w : World} {E : Nat} (hc : w.cell? ⟨E, 5, none⟩ = some (.chan none)) {A : Option Addr} {n c : Nat} {d : Int} :
    Calls Try.prog 13 #[.pointer (some ⟨E, 0, none⟩), .int .i64 d, .slice A n c] w fun e w' => e = .returned (.int .i64 1) ∧ Below w.heap.size w w' := by
  obtain ⟨w3, hw3⟩ : ∃ w3, w3 = ((w.alloc (.cells #[.pointer (some ⟨E, 0, none⟩)] 25)).alloc (.cells #[.int .i64 d] 3)).alloc (.cells #[.slice A n c] 32) := ⟨_, rfl⟩
  obtain ⟨hb3, k1, k2, k3⟩ := box3 hw3
  have H3 := Lib.hid (And.intro hb3 (cell_below hb3 hc))
  clear hb3 hc
  go_enter Try.func13, Try.ntmps13
  go_upto_region 1 with fail
  rw [← hw3]
  clear hw3
  go_wp2_with fail
  refine (enone_zero H3.out.2).mono ?_
  rintro e w3 ⟨rfl, rfl⟩
  go_wp2
  go_ret
  exact ⟨rfl, H3.out.1⟩
end Go.Proofs.Ytknpghemogfenaa
