/- BlockJoins: its walk. -/
import Derived.Test.YtchdjbbhhjjmkaaRc18
namespace Go.Proofs.Ytchdjbbhhjjmkaa
open Go.RowKit
set_option linter.unusedVariables false
theorem overOwnB {w1 w : World} {base n c : Nat} {A : Option Addr} {l : List UInt8} (h : w1.ownsRow base 5 1 (.slice A n c) n (bys l)) (hb : Below w1.heap.size w1 w) (hbase : base ≤ w.heap.size) (hn : n ≤ 140737488351232) :
    Calls Try.prog 19 #[.slice A n c] w fun e w' => e = .returned (.tuple #[]) ∧ Chg (fun k => base ≤ k ∧ (k < w1.heap.size ∨ w.heap.size ≤ k)) w w' := by
  obtain ⟨g, hm, hg, hg2⟩ := Mut.of_own_below h hb hbase
  refine (over_any hm hn).mono fun e w' ⟨he, hu⟩ => ⟨he, ⟨⟨hu.1.os, hu.1.tape, hu.1.output, hu.1.size, fun k hk => absurd hk (Nat.not_lt_zero _)⟩, fun k hk hS => hu.1.block k hk fun e => ?_⟩⟩
  cases e
  exact hS ⟨hg, by omega⟩
theorem foldl_xor_le (l : List (List UInt8)) : ∀ a : List UInt8, (l.foldl xorL a).length ≤ a.length := by
  induction l with
  | nil => intro a; exact Nat.le_refl _
  | cons x l ih => intro a; rw [List.foldl_cons]; exact Nat.le_trans (ih _) (by simp only [xorL, List.length_zipWith]; omega)
theorem sumL_le (n : Nat) (l : List (List UInt8)) : (sumL n l).length ≤ n := by
  unfold sumL
  exact Nat.le_trans (foldl_xor_le _ _) (by simp)
theorem smV_le {xss : List (List UInt8)} {set : List Int} {b : Nat} (hx : ∀ x ∈ xss, x.length ≤ b) : (smV xss set).length ≤ b := by
  unfold smV
  split
  · refine Nat.le_trans (sumL_le _ _) ?_
    rcases xss with _ | ⟨x, xss⟩
    · simp
    · exact hx x (by simp)
  · simp
theorem jnV_le {xss : List (List UInt8)} {z : Int} {b : Nat} (hx : ∀ x ∈ xss, x.length ≤ b) : (jnV xss z).length ≤ xss.length * b := by
  unfold jnV
  split
  · have := flat_le hx xss.length
    rw [List.take_of_length_le (Nat.le_refl _)] at this
    rw [List.length_take]
    omega
  · simp
end Go.Proofs.Ytchdjbbhhjjmkaa
