/- BlockSums: the plain law. -/
import Derived.Test.YtdpmkijkniobpaaCn18
namespace Go.Proofs.Ytdpmkijkniobpaa
open Go.RowKit
set_option linter.unusedVariables false
theorem bks_ge (n : Int) : ∀ (l : List Int) (x : Int), (∀ y ∈ l, x < y ∧ y < n) → l.Pairwise (· < ·) → bkS n x l = true := by
  intro l
  induction l with
  | nil => intro x _ _; rfl
  | cons a l ih =>
    intro x h hp
    have := h a (by simp)
    rw [bkS_cons, if_neg (by omega)]
    rw [List.pairwise_cons] at hp
    exact ih a (fun y hy => ⟨hp.1 y hy, (h y (by simp [hy])).2⟩) hp.2
theorem chs_mem {k b : Nat} {y : Int} (h : y ∈ chs k b) : ∃ i : Nat, y = i ∧ i < k := by
  unfold chs at h
  obtain ⟨i, hi, rfl⟩ := List.mem_map.1 h
  exact ⟨i, rfl, List.mem_range.1 (List.mem_filter.1 hi).1⟩
theorem chs_bks (k b : Nat) : bkS (k : Int) (-1) (chs k b) = true := by
  refine bks_ge _ _ _ (fun y hy => ?_) ?_
  · obtain ⟨i, rfl, hi⟩ := chs_mem hy
    omega
  · unfold chs
    rw [List.pairwise_map]
    exact (List.Pairwise.filter _ List.pairwise_lt_range).imp (fun h => by omega)
section
variable {xss : List (List UInt8)}
theorem sm_chs (h : bkB xss = true) (b : Nat) : smE xss (chs xss.length b) = (if chs xss.length b = [] then 3 else 0) := by
  unfold smE
  rw [if_pos h]
  by_cases h0 : chs xss.length b = []
  · rw [if_pos (.inl h0), if_pos h0]
  · rw [if_neg h0, if_neg]
    rintro (h1 | h1)
    · exact h0 h1
    · rw [chs_bks] at h1; simp at h1
theorem sm_one (h : bkB xss = true) {i : Nat} (hi : i < xss.length) : smE xss [(i : Int)] = 0 ∧ smV xss [(i : Int)] = xss.getD i [] := by
  have e : smE xss [(i : Int)] = 0 := by
    unfold smE
    rw [if_pos h, if_neg]
    rintro (h1 | h1)
    · simp at h1
    · rw [bks_ge _ _ _ (fun y hy => by simp at hy; omega) (by simp)] at h1; simp at h1
  refine ⟨e, ?_⟩
  unfold smV
  rw [if_pos e]
  unfold smL sumL
  have hl := (bkB_iff.1 h).2 (xss.getD i []) (by rw [getD_at hi]; exact List.getElem_mem _)
  simp only [List.map_cons, List.map_nil, List.foldl_cons, List.foldl_nil, Int.toNat_natCast]
  rw [xorL_comm, xorL_zero _ _ hl]
/-- The sum of the chosen ones. -/
def cS (xss : List (List UInt8)) (k b : Nat) : List UInt8 := sumL (xss.getD 0 []).length ((chs k b).map fun i => xss.getD i.toNat [])
theorem cS_zero (b : Nat) : cS xss 0 b = List.replicate (xss.getD 0 []).length 0 := rfl
theorem cS_succ (k b : Nat) : cS xss (k + 1) b = if b.testBit k = true then xorL (cS xss k b) (xss.getD k []) else cS xss k b := by
  unfold cS
  rw [chs_succ]
  by_cases h : b.testBit k = true
  · rw [if_pos h, if_pos h]
    unfold sumL
    rw [List.map_append, List.foldl_append]
    simp
  · rw [if_neg h, if_neg h, List.append_nil]
theorem cS_len (h : bkB xss = true) (b : Nat) : ∀ k : Nat, k ≤ xss.length → (cS xss k b).length = (xss.getD 0 []).length := by
  intro k
  induction k with
  | zero => intro _; rw [cS_zero]; simp
  | succ k ih =>
    intro hk
    have hl := (bkB_iff.1 h).2 (xss.getD k []) (by rw [getD_at (by omega)]; exact List.getElem_mem _)
    rw [cS_succ]
    split
    · rw [xorL_length _ _ (by rw [ih (by omega), hl]), ih (by omega)]
    · exact ih (by omega)
theorem cS_xor (h : bkB xss = true) (a b : Nat) : ∀ k : Nat, k ≤ xss.length → cS xss k (a ^^^ b) = xorL (cS xss k a) (cS xss k b) := by
  intro k
  induction k with
  | zero => intro _; rw [cS_zero, cS_zero, cS_zero, xorL_self]; simp
  | succ k ih =>
    intro hk
    have ih := ih (by omega)
    have hl := (bkB_iff.1 h).2 (xss.getD k []) (by rw [getD_at (by omega)]; exact List.getElem_mem _)
    have la := cS_len h a k (by omega)
    have lb := cS_len h b k (by omega)
    rw [cS_succ, cS_succ, cS_succ, ih, Nat.testBit_xor]
    generalize xss.getD k [] = x at hl
    generalize cS xss k a = A at *
    generalize cS xss k b = B at *
    have hxx : xorL x x = List.replicate (xss.getD 0 []).length 0 := by rw [xorL_self, hl]
    cases a.testBit k <;> cases b.testBit k <;> simp only [Bool.false_xor, Bool.true_xor, Bool.not_true, Bool.not_false, if_true, Bool.false_eq_true, if_false]
    · exact xorL_assoc _ _ _
    · rw [xorL_assoc A x B, xorL_comm x B, ← xorL_assoc]
    · rw [xorL_assoc A x (xorL B x), xorL_comm B x, ← xorL_assoc x x B, hxx, xorL_comm (List.replicate _ 0) B, xorL_zero B _ lb]
theorem sm_xor (h : bkB xss = true) (a b : Nat) (ha : chs xss.length a ≠ []) (hb : chs xss.length b ≠ []) (hab : chs xss.length (a ^^^ b) ≠ []) :
    smV xss (chs xss.length (a ^^^ b)) = xorL (smV xss (chs xss.length a)) (smV xss (chs xss.length b)) := by
  have e : ∀ c, chs xss.length c ≠ [] → smV xss (chs xss.length c) = cS xss xss.length c := fun c hc => by
    unfold smV
    rw [sm_chs h, if_neg hc, if_pos rfl]; rfl
  rw [e _ ha, e _ hb, e _ hab]
  exact cS_xor h a b _ (Nat.le_refl _)
theorem sm_len (h : bkB xss = true) (a : Nat) (ha : chs xss.length a ≠ []) : (smV xss (chs xss.length a)).length = (xss.getD 0 []).length := by
  unfold smV
  rw [sm_chs h, if_neg ha, if_pos rfl]
  exact cS_len h a _ (Nat.le_refl _)
theorem chs_none (k a b : Nat) (hab : chs k (a ^^^ b) = []) : chs k a = chs k b := by
  unfold chs at *
  rw [List.map_eq_nil_iff, List.filter_eq_nil_iff] at hab
  congr 1
  apply List.filter_congr
  intro i hi
  have := hab i hi
  rw [Nat.testBit_xor] at this
  cases ha : a.testBit i <;> cases hb : b.testBit i <;> rw [ha, hb] at this <;> simp at this <;> rfl
end
end Go.Proofs.Ytdpmkijkniobpaa
