/- The check sum is linear. -/
import Derived.Test.YtpfamjgdfcnieaaP09
namespace Go.Proofs.Ytpfamjgdfcnieaa
open Go.RowKit
set_option linter.unusedVariables false
theorem xor_div (x y k : Nat) : (x ^^^ y) / 2 ^ k = x / 2 ^ k ^^^ y / 2 ^ k := by
  apply Nat.eq_of_testBit_eq; intro i; simp [Nat.testBit_div_two_pow, Nat.testBit_xor]
theorem xor_mod (x y k : Nat) : (x ^^^ y) % 2 ^ k = x % 2 ^ k ^^^ y % 2 ^ k := by
  apply Nat.eq_of_testBit_eq; intro i; simp only [Nat.testBit_mod_two_pow, Nat.testBit_xor]
  cases decide (i < k) <;> simp
theorem xor_swap (a b c d : Nat) : (a ^^^ b) ^^^ (c ^^^ d) = (a ^^^ c) ^^^ (b ^^^ d) := by
  rw [Nat.xor_assoc, ← Nat.xor_assoc b c d, Nat.xor_comm b c, Nat.xor_assoc c b d, ← Nat.xor_assoc]
theorem sh1_xor (x y : Nat) : sh1 (x ^^^ y) = sh1 x ^^^ sh1 y := by
  unfold sh1
  have h1 := xor_div x y 1
  have h2 := xor_mod x y 1
  rw [Nat.pow_one] at h1 h2
  rw [h1, h2, xor_swap]
  congr 1
  rcases (by omega : x % 2 = 0 ∨ x % 2 = 1) with hx | hx <;> rcases (by omega : y % 2 = 0 ∨ y % 2 = 1) with hy | hy <;> rw [hx, hy] <;> decide
theorem shN_xor : ∀ (k x y : Nat), shN k (x ^^^ y) = shN k x ^^^ shN k y
  | 0, x, y => rfl
  | k + 1, x, y => by show sh1 (shN k (x ^^^ y)) = _; rw [shN_xor k x y, sh1_xor]; rfl
/-- One step, of the table: as eight shifts. -/
theorem step_table (x : Nat) (c : UInt8) : crcStep tableL x c = x / 256 ^^^ shN 8 (x % 256 ^^^ c.toNat) := by
  unfold crcStep
  rw [List.getD_eq_getElem?_getD, tableL_get _ (idx_lt x c)]; rfl
theorem step_xor (x y : Nat) (c d : UInt8) : crcStep tableL (x ^^^ y) (c ^^^ d) = crcStep tableL x c ^^^ crcStep tableL y d := by
  rw [step_table, step_table, step_table, UInt8.toNat_xor]
  have h1 := xor_div x y 8
  have h2 := xor_mod x y 8
  rw [show (2 : Nat) ^ 8 = 256 from rfl] at h1 h2
  rw [h1, h2, xor_swap (x % 256) (y % 256), shN_xor, xor_swap]
def xor2 (a b : List UInt8) : List UInt8 := List.zipWith (· ^^^ ·) a b
theorem fold_xor : ∀ (a b : List UInt8) (x y : Nat), a.length = b.length → (xor2 a b).foldl (crcStep tableL) (x ^^^ y) = a.foldl (crcStep tableL) x ^^^ b.foldl (crcStep tableL) y
  | [], [], x, y, _ => rfl
  | c :: a, d :: b, x, y, h => by
    show (xor2 a b).foldl (crcStep tableL) (crcStep tableL (x ^^^ y) (c ^^^ d)) = _
    rw [step_xor, fold_xor a b _ _ (by simpa using h)]; rfl
  | [], _ :: _, _, _, h => by simp at h
  | _ :: _, [], _, _, h => by simp at h
theorem xor2_length {a b : List UInt8} (h : a.length = b.length) : (xor2 a b).length = a.length := by simp [xor2, h]
theorem sum_linear {a b c : List UInt8} (h1 : a.length = b.length) (h2 : a.length = c.length) :
    crcSum tableL (xor2 (xor2 a b) c) = crcSum tableL a ^^^ crcSum tableL b ^^^ crcSum tableL c := by
  unfold crcSum crcReg
  have h := fold_xor (xor2 a b) c (4294967295 ^^^ 4294967295) 4294967295 (by rw [xor2_length h1, h2])
  rw [fold_xor a b _ _ h1] at h
  rw [show (4294967295 ^^^ 4294967295 : Nat) ^^^ 4294967295 = 4294967295 from by decide] at h
  rw [h, xor_swap 4294967295 _ 4294967295, xor_swap (4294967295 ^^^ 4294967295) _ 4294967295, show (4294967295 ^^^ 4294967295 : Nat) ^^^ 4294967295 = 4294967295 from by decide]
end Go.Proofs.Ytpfamjgdfcnieaa
