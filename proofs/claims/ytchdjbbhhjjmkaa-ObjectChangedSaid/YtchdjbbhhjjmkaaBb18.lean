/- BlockBack: the plain law. -/
import Derived.Test.YtchdjbbhhjjmkaaJo18
namespace Go.Proofs.Ytchdjbbhhjjmkaa
open Go.RowKit
set_option linter.unusedVariables false
theorem evenL_add (data : List UInt8) (s t : Nat) : evenL data (t + s) = evenL data t ++ evenL ((data.drop t).take s) s := by
  unfold evenL
  rcases Nat.le_total data.length t with h | h
  · rw [List.drop_eq_nil_of_le h, List.take_of_length_le (by omega), List.take_of_length_le h]
    simp only [List.take_nil, List.length_nil, List.nil_append, Nat.sub_zero]
    rw [List.append_assoc, List.replicate_append_replicate, show t - data.length + s = t + s - data.length by omega]
  · rw [show t - data.length = 0 by omega, List.replicate_zero, List.append_nil, List.length_take, List.length_drop, List.take_take, Nat.min_self, ← List.append_assoc, ← List.take_add, show t + s - data.length = s - min s (data.length - t) by omega]
theorem cutL_flat (data : List UInt8) (s : Nat) : ∀ k : Nat, (cutL data k s).flatten = evenL data (k * s) := by
  intro k
  induction k with
  | zero => simp [cutL, evenL]
  | succ k ih =>
    rw [cutL_succ, List.flatten_append, ih, show (k + 1) * s = k * s + s by rw [Nat.add_mul, Nat.one_mul], evenL_add]
    simp [cutR]
section
variable {data : List UInt8} {K Z : Nat}
theorem cutL_row : ∀ x ∈ cutL data K Z, x.length = Z := fun x hx => by
  unfold cutL at hx
  obtain ⟨i, _, rfl⟩ := List.mem_map.1 hx
  exact evenL_length _ _
theorem cutL_get0 (h : 1 ≤ K) : ((cutL data K Z).getD 0 []).length = Z := by
  have hl := cutL_len data K Z
  rw [List.getD_eq_getElem?_getD, List.getElem?_eq_getElem (by omega)]
  exact cutL_row _ (List.getElem_mem _)
theorem cutL_bk (hK : 1 ≤ K) (hK2 : K ≤ 65536) (hZ : 1 ≤ Z) (hZ2 : Z ≤ 65535) : bkB (cutL data K Z) = true := by
  rw [bkB_iff, cutL_get0 hK, cutL_len]
  exact ⟨⟨hK, hK2, hZ, hZ2⟩, cutL_row⟩
theorem cut_ok (hK : 1 ≤ K) (hK2 : K ≤ 65536) (hZ : 1 ≤ Z) (hZ2 : Z ≤ 65535) (hd : data.length ≤ K * Z) : cutE data (K : Int) (Z : Int) = 0 ∧ cutV data (K : Int) (Z : Int) = cutL data K Z := by
  have h : cutE data (K : Int) (Z : Int) = 0 := by
    unfold cutE
    rw [if_pos (by omega), if_neg]
    rw [← Int.natCast_mul]; omega
  exact ⟨h, by unfold cutV; rw [if_pos h]; simp⟩
theorem cut_big (hK : 1 ≤ K) (hK2 : K ≤ 65536) (hZ : 1 ≤ Z) (hZ2 : Z ≤ 65535) (hd : K * Z < data.length) : cutE data (K : Int) (Z : Int) = 4 ∧ cutV data (K : Int) (Z : Int) = [] := by
  have h : cutE data (K : Int) (Z : Int) = 4 := by
    unfold cutE
    rw [if_pos (by omega), if_pos]
    rw [← Int.natCast_mul]; omega
  exact ⟨h, by unfold cutV; rw [if_neg (by rw [h]; decide)]⟩
theorem jn_cut (hK : 1 ≤ K) (hK2 : K ≤ 65536) (hZ : 1 ≤ Z) (hZ2 : Z ≤ 65535) {m : Nat} (hm : m ≤ K * Z) : jnE (cutL data K Z) (m : Int) = 0 ∧ jnV (cutL data K Z) (m : Int) = (evenL data (K * Z)).take m := by
  have h : jnE (cutL data K Z) (m : Int) = 0 := by
    unfold jnE
    rw [if_pos (cutL_bk hK hK2 hZ hZ2), if_neg (by omega), if_neg]
    rw [cutL_len, cutL_get0 hK]; omega
  exact ⟨h, by unfold jnV; rw [if_pos h, cutL_flat]; simp⟩
theorem jn_cut_n (hK : 1 ≤ K) (hK2 : K ≤ 65536) (hZ : 1 ≤ Z) (hZ2 : Z ≤ 65535) (hd : data.length ≤ K * Z) : jnE (cutL data K Z) (data.length : Int) = 0 ∧ jnV (cutL data K Z) (data.length : Int) = data := by
  obtain ⟨h1, h2⟩ := jn_cut (data := data) hK hK2 hZ hZ2 hd
  exact ⟨h1, by rw [h2]; unfold evenL; rw [List.take_of_length_le hd]; simp⟩
theorem jn_cut_all (hK : 1 ≤ K) (hK2 : K ≤ 65536) (hZ : 1 ≤ Z) (hZ2 : Z ≤ 65535) (hd : data.length ≤ K * Z) : jnE (cutL data K Z) ((K * Z : Nat) : Int) = 0 ∧ jnV (cutL data K Z) ((K * Z : Nat) : Int) = data ++ List.replicate (K * Z - data.length) 0 := by
  obtain ⟨h1, h2⟩ := jn_cut (data := data) hK hK2 hZ hZ2 (Nat.le_refl _)
  exact ⟨h1, by rw [h2, List.take_of_length_le (by rw [evenL_length]; omega)]; unfold evenL; rw [List.take_of_length_le hd]⟩
theorem jn_cut_more (hK : 1 ≤ K) (hK2 : K ≤ 65536) (hZ : 1 ≤ Z) (hZ2 : Z ≤ 65535) : jnE (cutL data K Z) ((K * Z : Nat) + 1 : Int) = 4 ∧ jnV (cutL data K Z) ((K * Z : Nat) + 1 : Int) = [] := by
  have h : jnE (cutL data K Z) ((K * Z : Nat) + 1 : Int) = 4 := by
    unfold jnE
    rw [if_pos (cutL_bk hK hK2 hZ hZ2), if_neg (by omega), if_pos]
    rw [cutL_len, cutL_get0 hK]; omega
  exact ⟨h, jn_no h (by decide)⟩
end
end Go.Proofs.Ytchdjbbhhjjmkaa
