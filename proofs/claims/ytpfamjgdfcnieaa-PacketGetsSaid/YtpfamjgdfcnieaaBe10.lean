/- Numbers as bytes, and back (plain). -/
import Derived.Test.YtpfamjgdfcnieaaPa10
namespace Go.Proofs.Ytpfamjgdfcnieaa
open Go.RowKit
set_option linter.unusedVariables false
theorem byt_succ (n : Int) (i : Nat) : byt n (i + 1) = byt (n / 256) i := by
  unfold byt
  rw [Int.ediv_ediv_of_nonneg (by omega), show (256 : Int) * 2 ^ (8 * i) = 2 ^ (8 * (i + 1)) from by rw [show 8 * (i + 1) = 8 * i + 8 from by omega, Int.pow_add]; omega]
theorem bebs_snoc (wd : Nat) (n : Int) : bebs (wd + 1) n = bebs wd (n / 256) ++ [byt n 0] := by
  unfold bebs
  rw [List.range_succ, List.map_append]
  congr 1
  · refine List.map_congr_left fun j hj => ?_
    have hj' : j < wd := List.mem_range.1 hj
    rw [← byt_succ]
    congr 1
    omega
  · simp
theorem byt_zero (a : Nat) (b : UInt8) : byt ((256 * a + b.toNat : Nat) : Int) 0 = b := by
  have hb := b.toNat_lt
  apply UInt8.toNat_inj.1
  have := byt_toNat ((256 * a + b.toNat : Nat) : Int) 0
  simp only [Nat.mul_zero, Int.pow_zero, Int.ediv_one] at this
  omega
theorem bebs_be : ∀ {wd : Nat} {l : List UInt8}, l.length = wd → bebs wd (be l : Int) = l
  | 0, l, h => by
    have : l = [] := List.eq_nil_of_length_eq_zero h
    subst this; rfl
  | wd + 1, l, h => by
    obtain ⟨l', b, rfl⟩ : ∃ l' b, l = l' ++ [b] := by
      have hne : l ≠ [] := by intro e; subst e; simp at h
      exact ⟨l.dropLast, l.getLast hne, (List.dropLast_concat_getLast hne).symm⟩
    have h' : l'.length = wd := by simpa using h
    have hb := b.toNat_lt
    rw [bebs_snoc, be_snoc, byt_zero, show ((256 * be l' + b.toNat : Nat) : Int) / 256 = (be l' : Int) from by omega, bebs_be h']
theorem be_bebs12 : ∀ {wd : Nat} {n : Int}, 0 ≤ n → n < 256 ^ wd → (be (bebs wd n) : Int) = n
  | 0, n, h0, h1 => by
    have : n = 0 := by simp at h1; omega
    subst this; rfl
  | wd + 1, n, h0, h1 => by
    have ih := be_bebs12 (wd := wd) (n := n / 256) (by omega) (by
      rw [Int.pow_succ] at h1
      omega)
    have hz := byt_toNat n 0
    simp only [Nat.mul_zero, Int.pow_zero, Int.ediv_one] at hz
    rw [bebs_snoc, be_snoc]
    omega
theorem cutl {α : Type} (A B C : List α) {n m : Nat} (hA : A.length = n) (hB : B.length = m) : ((A ++ (B ++ C)).drop n).take m = B := by
  rw [List.drop_left' hA, List.take_left' hB]
end Go.Proofs.Ytpfamjgdfcnieaa
