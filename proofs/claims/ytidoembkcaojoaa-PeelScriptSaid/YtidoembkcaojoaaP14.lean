/- The plain words of chapter 14: heaps of numbers. -/
import Derived.Test.YtidoembkcaojoaaBase
namespace Go.Proofs.Ytidoembkcaojoaa
open Go.RowKit
set_option linter.unusedVariables false
/-- A list's number at a place. -/
def gi (l : List Int) (i : Nat) : Int := l.getD i 0
theorem gi_get {l : List Int} {i : Nat} (h : i < l.length) : gi l i = l[i] := by simp [gi, List.getD_eq_getElem?_getD, h]
theorem gi_set {l : List Int} {i : Nat} (h : i < l.length) (x : Int) (j : Nat) : gi (l.set i x) j = if i = j then x else gi l j := by
  simp only [gi, List.getD_eq_getElem?_getD, List.getElem?_set]
  by_cases e : i = j
  · subst e; simp [h]
  · simp [e]
theorem gi_take {l : List Int} {n j : Nat} (h : j < n) : gi (l.take n) j = gi l j := by
  simp only [gi, List.getD_eq_getElem?_getD, List.getElem?_take, if_pos h]
theorem gi_mem {l : List Int} {i : Nat} (h : i < l.length) : gi l i ∈ l := by rw [gi_get h]; exact List.getElem_mem h
theorem mem_gi {l : List Int} {x : Int} (h : x ∈ l) : ∃ i, i < l.length ∧ x = gi l i := by
  obtain ⟨i, hi, e⟩ := List.mem_iff_getElem.1 h
  exact ⟨i, hi, by rw [gi_get hi, e]⟩
/-- Two places exchanged. -/
def swp (l : List Int) (i j : Nat) : List Int := (l.set i (gi l j)).set j (gi l i)
theorem swp_length (l : List Int) (i j : Nat) : (swp l i j).length = l.length := by simp [swp]
theorem swp_perm {l : List Int} {i j : Nat} (hi : i < l.length) (hj : j < l.length) : (swp l i j).Perm l := by
  unfold swp; rw [gi_get hi, gi_get hj]; exact List.set_set_perm hi hj
theorem gi_swp {l : List Int} {i j : Nat} (hi : i < l.length) (hj : j < l.length) (m : Nat) : gi (swp l i j) m = if j = m then gi l i else if i = m then gi l j else gi l m := by
  unfold swp
  rw [gi_set (by simpa using hj), gi_set hi]
/-- A heap; a heap but for one place that may be too small; but for one that may be too great. -/
def Hp (l : List Int) : Prop := ∀ j, 0 < j → j < l.length → gi l ((j - 1) / 2) ≤ gi l j
def Up (l : List Int) (i : Nat) : Prop :=
  (∀ j, 0 < j → j < l.length → j ≠ i → gi l ((j - 1) / 2) ≤ gi l j) ∧ (∀ j, 0 < j → j < l.length → (j - 1) / 2 = i → 0 < i → gi l ((i - 1) / 2) ≤ gi l j)
def Dn (l : List Int) (i : Nat) : Prop :=
  (∀ j, 0 < j → j < l.length → (j - 1) / 2 ≠ i → gi l ((j - 1) / 2) ≤ gi l j) ∧ (∀ j, 0 < j → j < l.length → (j - 1) / 2 = i → 0 < i → gi l ((i - 1) / 2) ≤ gi l j)
theorem Hp.nil : Hp [] := fun j _ h => by simp at h
theorem gi_snoc {l : List Int} {j : Nat} (h : j < l.length) (x : Int) : gi (l ++ [x]) j = gi l j := by
  simp [gi, List.getD_eq_getElem?_getD, List.getElem?_append_left h]
theorem Up.snoc {l : List Int} (h : Hp l) (x : Int) : Up (l ++ [x]) l.length := by
  refine ⟨fun j h0 hl hne => ?_, fun j h0 hl hp => ?_⟩
  · have hj : j < l.length := by simp at hl; omega
    rw [gi_snoc hj, gi_snoc (by omega)]
    exact h j h0 hj
  · simp at hl; omega
theorem Up.stop {l : List Int} {i : Nat} (h : Up l i) (hs : i = 0 ∨ gi l ((i - 1) / 2) ≤ gi l i) : Hp l := by
  intro j h0 hl
  by_cases e : j = i
  · subst e; rcases hs with hs | hs
    · omega
    · exact hs
  · exact h.1 j h0 hl e
theorem Up.step {l : List Int} {i : Nat} (h : Up l i) (h0 : 0 < i) (hi : i < l.length) (hg : gi l i < gi l ((i - 1) / 2)) : Up (swp l ((i - 1) / 2) i) ((i - 1) / 2) := by
  have hu : (i - 1) / 2 < l.length := by omega
  refine ⟨fun j k0 hl hne => ?_, fun j k0 hl hp hq => ?_⟩
  · rw [swp_length] at hl
    rw [gi_swp hu hi, gi_swp hu hi]
    by_cases e1 : i = j
    · subst e1
      rw [if_pos rfl, if_neg (by omega), if_pos rfl]; omega
    · by_cases e2 : i = (j - 1) / 2
      · rw [if_pos e2, if_neg e1, if_neg (by omega)]
        exact h.2 j k0 hl e2.symm h0
      · have := h.1 j k0 hl (Ne.symm e1)
        rw [if_neg e2, if_neg e1, if_neg (Ne.symm hne)]
        by_cases e3 : (i - 1) / 2 = (j - 1) / 2
        · rw [if_pos e3]; rw [← e3] at this; omega
        · rw [if_neg e3]; exact this
  · rw [swp_length] at hl
    rw [gi_swp hu hi, gi_swp hu hi]
    have hpp := h.1 ((i - 1) / 2) hq hu (by omega)
    rw [if_neg (by omega), if_neg (by omega)]
    by_cases e1 : i = j
    · subst e1
      rw [if_pos rfl]; exact hpp
    · rw [if_neg e1, if_neg (by omega)]
      have := h.1 j k0 hl (Ne.symm e1)
      rw [hp] at this
      omega
theorem Dn.start {l : List Int} (h : Hp l) (x : Int) (n : Nat) : Dn ((l.set 0 x).take n) 0 := by
  refine ⟨fun j h0 hl hne => ?_, fun j h0 hl hp hq => by omega⟩
  simp at hl
  rw [gi_take (by omega), gi_take (by omega), gi_set (by omega), gi_set (by omega), if_neg (by omega), if_neg (by omega)]
  exact h j h0 (by omega)
theorem Dn.stop {l : List Int} {i : Nat} (h : Dn l i) (h1 : 2 * i + 1 < l.length → gi l i ≤ gi l (2 * i + 1)) (h2 : 2 * i + 2 < l.length → gi l i ≤ gi l (2 * i + 2)) : Hp l := by
  intro j h0 hl
  by_cases e : (j - 1) / 2 = i
  · rcases (show j = 2 * i + 1 ∨ j = 2 * i + 2 from by omega) with hj | hj
    · rw [e, hj]; exact h1 (by omega)
    · rw [e, hj]; exact h2 (by omega)
  · exact h.1 j h0 hl e
theorem Dn.step {l : List Int} {i k : Nat} (h : Dn l i) (hk : k < l.length) (hc : k = 2 * i + 1 ∨ k = 2 * i + 2) (hg : gi l k < gi l i)
    (h1 : 2 * i + 1 < l.length → gi l k ≤ gi l (2 * i + 1)) (h2 : 2 * i + 2 < l.length → gi l k ≤ gi l (2 * i + 2)) : Dn (swp l i k) k := by
  have hi : i < l.length := by omega
  refine ⟨fun j k0 hl hne => ?_, fun j k0 hl hp hq => ?_⟩
  · rw [swp_length] at hl
    rw [gi_swp hi hk, gi_swp hi hk, if_neg (Ne.symm hne)]
    by_cases e1 : k = j
    · subst e1
      rw [if_pos rfl, if_pos (by omega)]; omega
    · rw [if_neg e1]
      by_cases e2 : i = (j - 1) / 2
      · rw [if_pos e2, if_neg (by omega)]
        rcases (show j = 2 * i + 1 ∨ j = 2 * i + 2 from by omega) with hj | hj
        · rw [hj]; exact h1 (by omega)
        · rw [hj]; exact h2 (by omega)
      · rw [if_neg e2]
        by_cases e3 : i = j
        · subst e3
          rw [if_pos rfl]
          rcases Nat.eq_zero_or_pos i with z | z
          · omega
          · exact h.2 k (by omega) hk (by omega) z
        · rw [if_neg e3]; exact h.1 j k0 hl (Ne.symm e2)
  · rw [swp_length] at hl
    rw [gi_swp hi hk, gi_swp hi hk, if_neg (by omega), if_pos (by omega), if_neg (by omega), if_neg (by omega)]
    have := h.1 j k0 hl (by omega)
    rw [hp] at this
    exact this
/-- The least of a place and the first k places below it. -/
def lst (l : List Int) (i : Nat) : Nat → Nat
  | 0 => i
  | k + 1 => if 2 * i + 1 + k < l.length ∧ gi l (2 * i + 1 + k) < gi l (lst l i k) then 2 * i + 1 + k else lst l i k
theorem lst_lt {l : List Int} {i : Nat} (h : i < l.length) : ∀ k, lst l i k < l.length
  | 0 => h
  | k + 1 => by unfold lst; split; · omega
                · exact lst_lt h k
theorem lst_two {l : List Int} {i : Nat} : (lst l i 2 = i ∧ (2 * i + 1 < l.length → gi l i ≤ gi l (2 * i + 1)) ∧ (2 * i + 2 < l.length → gi l i ≤ gi l (2 * i + 2))) ∨
    ((lst l i 2 = 2 * i + 1 ∨ lst l i 2 = 2 * i + 2) ∧ lst l i 2 < l.length ∧ gi l (lst l i 2) < gi l i ∧ (2 * i + 1 < l.length → gi l (lst l i 2) ≤ gi l (2 * i + 1)) ∧ (2 * i + 2 < l.length → gi l (lst l i 2) ≤ gi l (2 * i + 2))) := by
  have e1 : lst l i 1 = if 2 * i + 1 < l.length ∧ gi l (2 * i + 1) < gi l i then 2 * i + 1 else i := rfl
  have e2 : lst l i 2 = if 2 * i + 2 < l.length ∧ gi l (2 * i + 2) < gi l (lst l i 1) then 2 * i + 2 else lst l i 1 := rfl
  by_cases c1 : 2 * i + 1 < l.length ∧ gi l (2 * i + 1) < gi l i
  · rw [if_pos c1] at e1
    rw [e1] at e2
    by_cases c2 : 2 * i + 2 < l.length ∧ gi l (2 * i + 2) < gi l (2 * i + 1)
    · rw [if_pos c2] at e2; rw [e2]; exact .inr ⟨.inr rfl, c2.1, by omega, fun _ => by omega, fun _ => by omega⟩
    · rw [if_neg c2] at e2; rw [e2]; exact .inr ⟨.inl rfl, c1.1, c1.2, fun _ => by omega, fun h => by rcases Decidable.not_and_iff_or_not.1 c2 with x | x <;> omega⟩
  · rw [if_neg c1] at e1
    rw [e1] at e2
    have n1 : 2 * i + 1 < l.length → gi l i ≤ gi l (2 * i + 1) := fun h => by rcases Decidable.not_and_iff_or_not.1 c1 with x | x <;> omega
    by_cases c2 : 2 * i + 2 < l.length ∧ gi l (2 * i + 2) < gi l i
    · rw [if_pos c2] at e2; rw [e2]; exact .inr ⟨.inr rfl, c2.1, c2.2, fun h => by have := n1 h; omega, fun _ => by omega⟩
    · rw [if_neg c2] at e2; rw [e2]; exact .inl ⟨rfl, n1, fun h => by rcases Decidable.not_and_iff_or_not.1 c2 with x | x <;> omega⟩
theorem Hp.min {l : List Int} (h : Hp l) : ∀ (j : Nat), j < l.length → gi l 0 ≤ gi l j := by
  intro j
  induction j using Nat.strongRecOn with
  | ind j ih =>
    intro hj
    rcases Nat.eq_zero_or_pos j with h0 | h0
    · subst h0; exact Int.le_refl _
    · have a := ih ((j - 1) / 2) (by omega) (by omega)
      have b := h j h0 hj
      omega
theorem pop_perm {l : List Int} (h : 0 < l.length) : (gi l 0 :: (l.set 0 (gi l (l.length - 1))).take (l.length - 1)).Perm l := by
  cases l with
  | nil => simp at h
  | cons x r =>
    rcases List.eq_nil_or_concat r with e | ⟨s, y, e⟩
    · subst e; simp [gi]
    · subst e
      have e1 : gi (x :: (s ++ [y])) ((x :: (s ++ [y])).length - 1) = y := by simp [gi]
      have e2 : gi (x :: (s ++ [y])) 0 = x := rfl
      rw [List.concat_eq_append, e1, e2]
      have e3 : ((x :: (s ++ [y])).set 0 y).take ((x :: (s ++ [y])).length - 1) = y :: s := by simp
      rw [e3]
      exact List.Perm.cons x (List.perm_append_comm (l₁ := [y]) (l₂ := s))
end Go.Proofs.Ytidoembkcaojoaa
