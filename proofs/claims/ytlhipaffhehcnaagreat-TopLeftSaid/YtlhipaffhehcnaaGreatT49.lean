/- TopLeft: the plain law, of all tables. -/
import Derived.Test.YtlhipaffhehcnaaGreatT44
import Derived.Test.YtlhipaffhehcnaaGreatT45
import Derived.Test.YtlhipaffhehcnaaGreatT46
import Derived.Test.YtlhipaffhehcnaaGreatT47
import Derived.Test.YtlhipaffhehcnaaGreatT48
namespace Go.Proofs.YtlhipaffhehcnaaGreat
open Go.RowKit
set_option linter.unusedVariables false
set_option linter.unusedSimpArgs false
theorem pl_at {k n : Nat} {t : List Nat} {l : List (List Nat)} (h : l.all (fun t => (List.range 4).all fun n => topB t k n) = true) (hn : n ≤ 3) (hm : t ∈ l) : topB t k n = true :=
  List.all_eq_true.1 (List.all_eq_true.1 h t hm) n (List.mem_range.2 (by omega))
theorem tb_1_1 {a n : Nat} (ha : a ≤ 3) (hn : n ≤ 3) (ht : tOk [a] 1 = true) : topB [a] 1 n = true := by
  refine pl_at pl_1_1 hn ?_
  revert ht
  rcases (by omega : a = 0 ∨ a = 1 ∨ a = 2 ∨ a = 3) with rfl | rfl | rfl | rfl <;> decide
theorem tb_2_1 {a n : Nat} (ha : a ≤ 3) (hn : n ≤ 3) (ht : tOk [a] 2 = true) : topB [a] 2 n = true := by
  refine pl_at pl_2_1 hn ?_
  revert ht
  rcases (by omega : a = 0 ∨ a = 1 ∨ a = 2 ∨ a = 3) with rfl | rfl | rfl | rfl <;> decide
theorem tb_2_2 {a b n : Nat} (ha : a ≤ 3) (hb : b ≤ 3) (hn : n ≤ 3) (ht : tOk [a, b] 2 = true) : topB [a, b] 2 n = true := by
  rcases (by omega : a = 0 ∨ a = 1 ∨ a = 2 ∨ a = 3) with rfl | rfl | rfl | rfl
  · refine pl_at pl_2_2_0 hn ?_
    revert ht
    rcases (by omega : b = 0 ∨ b = 1 ∨ b = 2 ∨ b = 3) with rfl | rfl | rfl | rfl <;> decide
  · refine pl_at pl_2_2_1 hn ?_
    revert ht
    rcases (by omega : b = 0 ∨ b = 1 ∨ b = 2 ∨ b = 3) with rfl | rfl | rfl | rfl <;> decide
  · refine pl_at pl_2_2_2 hn ?_
    revert ht
    rcases (by omega : b = 0 ∨ b = 1 ∨ b = 2 ∨ b = 3) with rfl | rfl | rfl | rfl <;> decide
  · refine pl_at pl_2_2_3 hn ?_
    revert ht
    rcases (by omega : b = 0 ∨ b = 1 ∨ b = 2 ∨ b = 3) with rfl | rfl | rfl | rfl <;> decide
theorem tb_3_1 {a n : Nat} (ha : a ≤ 3) (hn : n ≤ 3) (ht : tOk [a] 3 = true) : topB [a] 3 n = true := by
  refine pl_at pl_3_1 hn ?_
  revert ht
  rcases (by omega : a = 0 ∨ a = 1 ∨ a = 2 ∨ a = 3) with rfl | rfl | rfl | rfl <;> decide
theorem tb_3_2 {a b n : Nat} (ha : a ≤ 3) (hb : b ≤ 3) (hn : n ≤ 3) (ht : tOk [a, b] 3 = true) : topB [a, b] 3 n = true := by
  rcases (by omega : a = 0 ∨ a = 1 ∨ a = 2 ∨ a = 3) with rfl | rfl | rfl | rfl
  · refine pl_at pl_3_2_0 hn ?_
    revert ht
    rcases (by omega : b = 0 ∨ b = 1 ∨ b = 2 ∨ b = 3) with rfl | rfl | rfl | rfl <;> decide
  · refine pl_at pl_3_2_1 hn ?_
    revert ht
    rcases (by omega : b = 0 ∨ b = 1 ∨ b = 2 ∨ b = 3) with rfl | rfl | rfl | rfl <;> decide
  · refine pl_at pl_3_2_2 hn ?_
    revert ht
    rcases (by omega : b = 0 ∨ b = 1 ∨ b = 2 ∨ b = 3) with rfl | rfl | rfl | rfl <;> decide
  · refine pl_at pl_3_2_3 hn ?_
    revert ht
    rcases (by omega : b = 0 ∨ b = 1 ∨ b = 2 ∨ b = 3) with rfl | rfl | rfl | rfl <;> decide
theorem tb_3_3 {a b c n : Nat} (ha : a ≤ 3) (hb : b ≤ 3) (hc : c ≤ 3) (hn : n ≤ 3) (ht : tOk [a, b, c] 3 = true) : topB [a, b, c] 3 n = true := by
  rcases (by omega : a = 0 ∨ a = 1 ∨ a = 2 ∨ a = 3) with rfl | rfl | rfl | rfl <;> rcases (by omega : b = 0 ∨ b = 1 ∨ b = 2 ∨ b = 3) with rfl | rfl | rfl | rfl
  · refine pl_at pl_3_3_0_0 hn ?_
    revert ht
    rcases (by omega : c = 0 ∨ c = 1 ∨ c = 2 ∨ c = 3) with rfl | rfl | rfl | rfl <;> decide
  · refine pl_at pl_3_3_0_1 hn ?_
    revert ht
    rcases (by omega : c = 0 ∨ c = 1 ∨ c = 2 ∨ c = 3) with rfl | rfl | rfl | rfl <;> decide
  · refine pl_at pl_3_3_0_2 hn ?_
    revert ht
    rcases (by omega : c = 0 ∨ c = 1 ∨ c = 2 ∨ c = 3) with rfl | rfl | rfl | rfl <;> decide
  · refine pl_at pl_3_3_0_3 hn ?_
    revert ht
    rcases (by omega : c = 0 ∨ c = 1 ∨ c = 2 ∨ c = 3) with rfl | rfl | rfl | rfl <;> decide
  · refine pl_at pl_3_3_1_0 hn ?_
    revert ht
    rcases (by omega : c = 0 ∨ c = 1 ∨ c = 2 ∨ c = 3) with rfl | rfl | rfl | rfl <;> decide
  · refine pl_at pl_3_3_1_1 hn ?_
    revert ht
    rcases (by omega : c = 0 ∨ c = 1 ∨ c = 2 ∨ c = 3) with rfl | rfl | rfl | rfl <;> decide
  · refine pl_at pl_3_3_1_2 hn ?_
    revert ht
    rcases (by omega : c = 0 ∨ c = 1 ∨ c = 2 ∨ c = 3) with rfl | rfl | rfl | rfl <;> decide
  · refine pl_at pl_3_3_1_3 hn ?_
    revert ht
    rcases (by omega : c = 0 ∨ c = 1 ∨ c = 2 ∨ c = 3) with rfl | rfl | rfl | rfl <;> decide
  · refine pl_at pl_3_3_2_0 hn ?_
    revert ht
    rcases (by omega : c = 0 ∨ c = 1 ∨ c = 2 ∨ c = 3) with rfl | rfl | rfl | rfl <;> decide
  · refine pl_at pl_3_3_2_1 hn ?_
    revert ht
    rcases (by omega : c = 0 ∨ c = 1 ∨ c = 2 ∨ c = 3) with rfl | rfl | rfl | rfl <;> decide
  · refine pl_at pl_3_3_2_2 hn ?_
    revert ht
    rcases (by omega : c = 0 ∨ c = 1 ∨ c = 2 ∨ c = 3) with rfl | rfl | rfl | rfl <;> decide
  · refine pl_at pl_3_3_2_3 hn ?_
    revert ht
    rcases (by omega : c = 0 ∨ c = 1 ∨ c = 2 ∨ c = 3) with rfl | rfl | rfl | rfl <;> decide
  · refine pl_at pl_3_3_3_0 hn ?_
    revert ht
    rcases (by omega : c = 0 ∨ c = 1 ∨ c = 2 ∨ c = 3) with rfl | rfl | rfl | rfl <;> decide
  · refine pl_at pl_3_3_3_1 hn ?_
    revert ht
    rcases (by omega : c = 0 ∨ c = 1 ∨ c = 2 ∨ c = 3) with rfl | rfl | rfl | rfl <;> decide
  · refine pl_at pl_3_3_3_2 hn ?_
    revert ht
    rcases (by omega : c = 0 ∨ c = 1 ∨ c = 2 ∨ c = 3) with rfl | rfl | rfl | rfl <;> decide
  · refine pl_at pl_3_3_3_3 hn ?_
    revert ht
    rcases (by omega : c = 0 ∨ c = 1 ∨ c = 2 ∨ c = 3) with rfl | rfl | rfl | rfl <;> decide
theorem topB_all {t : List Nat} {k n : Nat} (ht : tOk t k = true) (hk : k ≤ 3) (h3 : ∀ x ∈ t, x ≤ 3) (hn : n ≤ 3) : topB t k n = true := by
  obtain ⟨k1, l1, l2⟩ := tOk_len ht
  match t, h3, ht, l1, l2 with
  | [], _, _, l1, _ => simp at l1
  | [a], h3, ht, _, _ =>
    have ha := h3 a (by simp)
    rcases (by omega : k = 1 ∨ k = 2 ∨ k = 3) with rfl | rfl | rfl
    · exact tb_1_1 ha hn ht
    · exact tb_2_1 ha hn ht
    · exact tb_3_1 ha hn ht
  | [a, b], h3, ht, _, l2 =>
    have ha := h3 a (by simp)
    have hb := h3 b (by simp)
    simp at l2
    rcases (by omega : k = 2 ∨ k = 3) with rfl | rfl
    · exact tb_2_2 ha hb hn ht
    · exact tb_3_2 ha hb hn ht
  | [a, b, c], h3, ht, _, l2 =>
    have ha := h3 a (by simp)
    have hb := h3 b (by simp)
    have hc := h3 c (by simp)
    simp at l2
    obtain rfl : k = 3 := by omega
    exact tb_3_3 ha hb hc hn ht
  | a :: b :: c :: d :: l, _, _, _, l2 => simp at l2; omega
end Go.Proofs.YtlhipaffhehcnaaGreat
