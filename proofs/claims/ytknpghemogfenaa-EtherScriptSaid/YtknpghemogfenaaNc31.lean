/- Chapter 31: rows of fates and of strays are cloned. -/
import Derived.Test.YtknpghemogfenaaTw31
namespace Go.Proofs.Ytknpghemogfenaa
open Go.Conc Go.RowKit
set_option linter.unusedVariables false
theorem own_newS (w : World) (e : TypeId) (base size : Nat) (hb : base ≤ w.heap.size) : (w.alloc (.cells #[] e)).ownsRow base e size (.slice (some ⟨w.heap.size, 0, none⟩) 0 0) 0 [] :=
  World.ownsRow_made w #[] 0 hb (by simp [maxLen]) (by simp)
theorem fate_info2 : (Try.prog.info? 53).map (fun i => (i.zero, i.size, i.bytes)) = some (some (.agg #[.bool false, .int .i64 0, .bool false, .int .i64 0]), 4, 32) := by kernel_rfl
theorem stray_info2 : (Try.prog.info? 45).map (fun i => (i.zero, i.size, i.bytes)) = some (some (.agg #[.int .i64 0, .int .i64 0, .slice none 0 0]), 3, 40) := by kernel_rfl
theorem fcs_one (l : List FT) : ∀ u ∈ fcs l, u.oneCell' = true := by
  intro u hu
  obtain ⟨f, hf, hu⟩ := List.mem_flatMap.1 hu
  simp only [FT.cells, List.mem_cons, List.not_mem_nil, or_false] at hu
  rcases hu with rfl | rfl | rfl | rfl <;> rfl
theorem ycs_one (l : List SY) : ∀ u ∈ ycs l, u.oneCell' = true := by
  intro u hu
  obtain ⟨f, hf, hu⟩ := List.mem_flatMap.1 hu
  simp only [SY.cells, List.mem_cons, List.not_mem_nil, or_false] at hu
  rcases hu with rfl | rfl | rfl <;> rfl
theorem clonef_any {w : World} {A : Option Addr} {n c : Nat} {l : List FT} (h : Rd w A (n * 4) (fcs l)) (hn : n ≤ 1000000) :
    Calls Try.prog 31 #[.slice A n c] w fun e w' => ∃ v, e = .returned v ∧ w'.ownsRow w.heap.size 53 4 v n (fcs l) ∧ Below w.heap.size w w' := by
  obtain ⟨i0, hi0, hz0, hz1, hz2⟩ := info_parts fate_info2
  have hnil := Lib.run_eql_slice_nil (P := Try.prog) w 40 53 A n c 0 0 Try.underlying40
  rcases A with _ | a
  · have h0 : n = 0 := by
      rcases Nat.eq_zero_or_pos n with h0 | h0
      · exact h0
      · obtain ⟨b, off, e, _⟩ := h.form (by omega); cases e
    subst h0
    have hl : l = [] := List.eq_nil_of_length_eq_zero (by have := h.1; rw [fcs_length] at this; omega)
    subst hl
    go_enter Try.func31, Try.ntmps31
    go_wp2
    go_ret
    exact ⟨_, rfl, World.ownsRow_nil _ _ _ _, Below.refl _ _⟩
  · go_enter Try.func31, Try.ntmps31
    go_wp2_with (at_builtin; refine wpList_append_rd _ rfl (.tmp 5) (.tmp 6) _ rfl w.heap.size 53 i0 _ 4 32 Try.underlying40 hi0 hz0 hz1 hz2 rfl (by omega) _ 0 [] rfl (own_newS w _ _ _ (Nat.le_refl _)) (some a) n c (fcs l) rfl (by simpa using h.alloc _) (fcs_one l) (by simp only [maxLen]; omega) (by omega) (by simp) ?_; intro v1 w1 hown1 hg1 hat1)
    go_ret
    exact ⟨v1, rfl, by simpa using hown1, ((Below.refl _ _).alloc (Nat.le_refl _) _).grown hg1 (by simp) (fun k hk => ((own_newS w 53 _ 4 (Nat.le_refl _)).lt k hk).1)⟩
theorem clones_any {w : World} {A : Option Addr} {n c : Nat} {l : List SY} (h : Rd w A (n * 3) (ycs l)) (hn : n ≤ 1000000) :
    Calls Try.prog 32 #[.slice A n c] w fun e w' => ∃ v, e = .returned v ∧ w'.ownsRow w.heap.size 45 3 v n (ycs l) ∧ Below w.heap.size w w' := by
  obtain ⟨i0, hi0, hz0, hz1, hz2⟩ := info_parts stray_info2
  have hnil := Lib.run_eql_slice_nil (P := Try.prog) w 41 45 A n c 0 0 Try.underlying41
  rcases A with _ | a
  · have h0 : n = 0 := by
      rcases Nat.eq_zero_or_pos n with h0 | h0
      · exact h0
      · obtain ⟨b, off, e, _⟩ := h.form (by omega); cases e
    subst h0
    have hl : l = [] := List.eq_nil_of_length_eq_zero (by have := h.1; rw [ycs_length] at this; omega)
    subst hl
    go_enter Try.func32, Try.ntmps32
    go_wp2
    go_ret
    exact ⟨_, rfl, World.ownsRow_nil _ _ _ _, Below.refl _ _⟩
  · go_enter Try.func32, Try.ntmps32
    go_wp2_with (at_builtin; refine wpList_append_rd _ rfl (.tmp 5) (.tmp 6) _ rfl w.heap.size 45 i0 _ 3 40 Try.underlying41 hi0 hz0 hz1 hz2 rfl (by omega) _ 0 [] rfl (own_newS w _ _ _ (Nat.le_refl _)) (some a) n c (ycs l) rfl (by simpa using h.alloc _) (ycs_one l) (by simp only [maxLen]; omega) (by omega) (by simp) ?_; intro v1 w1 hown1 hg1 hat1)
    go_ret
    exact ⟨v1, rfl, by simpa using hown1, ((Below.refl _ _).alloc (Nat.le_refl _) _).grown hg1 (by simp) (fun k hk => ((own_newS w 45 _ 3 (Nat.le_refl _)).lt k hk).1)⟩
end Go.Proofs.Ytknpghemogfenaa
