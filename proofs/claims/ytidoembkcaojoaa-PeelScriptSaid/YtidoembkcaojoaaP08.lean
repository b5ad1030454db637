/- The plain words of chapter 8: the sum of two symbols, of several, padding. -/
import Derived.Test.YtidoembkcaojoaaBase
namespace Go.Proofs.Ytidoembkcaojoaa
open Go.RowKit
set_option linter.unusedVariables false

def xorL (a b : List UInt8) : List UInt8 := List.zipWith (· ^^^ ·) a b
theorem xorL_length (a b : List UInt8) (h : a.length = b.length) : (xorL a b).length = a.length := by simp [xorL, h]
theorem xorL_nil (b : List UInt8) : xorL [] b = [] := rfl
theorem xorL_take (a b : List UInt8) (n : Nat) : (xorL a b).take n = xorL (a.take n) (b.take n) := by simp [xorL, List.take_zipWith]
theorem xorL_take_succ {a b : List UInt8} {k : Nat} (h : k < a.length) (h' : k < b.length) : xorL (a.take (k + 1)) (b.take (k + 1)) = xorL (a.take k) (b.take k) ++ [a[k] ^^^ b[k]] := by
  rw [← xorL_take, ← xorL_take, List.take_succ_eq_append_getElem (by simp [xorL]; omega)]
  congr 2
  simp [xorL]
theorem xor_cell (x y : UInt8) : ((x.toNat ^^^ y.toNat : Nat) : Int) = ((x ^^^ y).toNat : Int) := by rw [UInt8.toNat_xor]
theorem byte_lt (x : UInt8) : (x.toNat : Int) < 256 := by have := x.toNat_lt; omega
/-- What Xor, All and Pad tell, and which error. -/
def xorE (a b : List UInt8) : Int := if a.length = b.length then 0 else 2
def xorV (a b : List UInt8) : List UInt8 := if a.length = b.length then xorL a b else []
def sumL (n : Nat) (l : List (List UInt8)) : List UInt8 := l.foldl xorL (List.replicate n 0)
def allE (n : Int) (l : List (List UInt8)) : Int := if 0 ≤ n ∧ n ≤ 65535 then (if l.all (·.length == n.toNat) then 0 else 2) else 3
def allV (n : Int) (l : List (List UInt8)) : List UInt8 := if 0 ≤ n ∧ n ≤ 65535 then (if l.all (·.length == n.toNat) then sumL n.toNat l else []) else []
def padE (b : List UInt8) (n : Int) : Int := if 0 ≤ n ∧ n ≤ 65535 then (if b.length ≤ n then 0 else 4) else 3
def padV (b : List UInt8) (n : Int) : List UInt8 := if 0 ≤ n ∧ n ≤ 65535 then (if b.length ≤ n then b ++ List.replicate (n.toNat - b.length) 0 else []) else []
theorem sumL_length {n : Nat} {l : List (List UInt8)} (h : l.all (·.length == n) = true) : (sumL n l).length = n := by
  unfold sumL
  have : ∀ (l : List (List UInt8)) (a : List UInt8), a.length = n → l.all (·.length == n) = true → (l.foldl xorL a).length = n := by
    intro l
    induction l with
    | nil => intro a ha _; exact ha
    | cons x l ih =>
      intro a ha h
      simp only [List.all_cons, Bool.and_eq_true, beq_iff_eq] at h
      exact ih _ (by rw [xorL_length _ _ (by omega)]; exact ha) h.2
  exact this l _ (by simp) h
theorem sumL_take_succ {n k : Nat} {l : List (List UInt8)} (hk : k < l.length) : sumL n (l.take (k + 1)) = xorL (sumL n (l.take k)) l[k] := by
  unfold sumL
  rw [List.take_succ_eq_append_getElem hk, List.foldl_append]; rfl
theorem all_take_succ {α : Type} {l : List α} {k : Nat} (hk : k < l.length) (p : α → Bool) : (l.take (k + 1)).all p = ((l.take k).all p && p l[k]) := by
  rw [List.take_succ_eq_append_getElem hk, List.all_append]; simp
theorem all_of_take {α : Type} {l : List α} {k : Nat} (hk : k < l.length) (p : α → Bool) (h : p l[k] = false) : l.all p = false := by
  rw [List.all_eq_false]; exact ⟨l[k], List.getElem_mem _, by simp [h]⟩
theorem xorL_comm (a b : List UInt8) : xorL a b = xorL b a := by
  unfold xorL; rw [List.zipWith_comm]; congr 1; funext x y; exact UInt8.xor_comm y x
theorem xorL_assoc : ∀ (a b c : List UInt8), xorL (xorL a b) c = xorL a (xorL b c)
  | [], b, c => by simp [xorL]
  | x :: a, [], c => by simp [xorL]
  | x :: a, y :: b, [] => by simp [xorL]
  | x :: a, y :: b, z :: c => by
    have := xorL_assoc a b c
    simp only [xorL, List.zipWith_cons_cons] at this ⊢
    rw [this, UInt8.xor_assoc]
theorem xorL_zero : ∀ (a : List UInt8) (n : Nat), a.length = n → xorL a (List.replicate n 0) = a
  | [], n, h => by simp [xorL]
  | x :: a, n, h => by
    obtain ⟨m, rfl⟩ : ∃ m, n = m + 1 := ⟨n - 1, by simp at h; omega⟩
    have := xorL_zero a m (by simpa using h)
    simp only [xorL] at this ⊢
    rw [List.replicate_succ, List.zipWith_cons_cons, this, UInt8.xor_zero]
theorem xorL_self : ∀ (a : List UInt8), xorL a a = List.replicate a.length 0
  | [] => rfl
  | x :: a => by
    have := xorL_self a
    simp only [xorL] at this ⊢
    rw [List.zipWith_cons_cons, this, UInt8.xor_self]; rfl
theorem xorL_back (a b : List UInt8) (h : a.length = b.length) : xorL (xorL a b) b = a := by
  rw [xorL_assoc, xorL_self, xorL_zero _ _ h]
theorem xorL_zero_iff : ∀ (a b : List UInt8), a.length = b.length → (!(xorL a b).any (· != 0)) = (a == b)
  | [], [], _ => rfl
  | x :: a, y :: b, h => by
    have := xorL_zero_iff a b (by simpa using h)
    simp only [xorL] at this ⊢
    rw [List.zipWith_cons_cons, List.any_cons, Bool.not_or, this, List.cons_beq_cons]
    congr 1
    rw [Bool.eq_iff_iff]
    simp
end Go.Proofs.Ytidoembkcaojoaa
