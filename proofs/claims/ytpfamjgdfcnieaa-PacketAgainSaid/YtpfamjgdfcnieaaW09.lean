/- What is sealed has one sum; a burst of at most 32 bits is seen. -/
import Derived.Test.YtpfamjgdfcnieaaQ09
namespace Go.Proofs.Ytpfamjgdfcnieaa
open Go.RowKit
set_option linter.unusedVariables false
theorem sh1_twice (x : Nat) : sh1 (2 * x) = x := by
  unfold sh1
  rw [Nat.mul_div_cancel_left _ (by omega), Nat.mul_mod_right, Nat.mul_zero, Nat.xor_zero]
theorem shN_out : ∀ (k x : Nat), shN (k + 1) x = shN k (sh1 x)
  | 0, x => rfl
  | k + 1, x => by show sh1 (shN (k + 1) x) = sh1 (shN k (sh1 x)); rw [shN_out k x]
theorem shN_add : ∀ (j k x : Nat), shN (j + k) x = shN j (shN k x)
  | 0, k, x => by rw [Nat.zero_add]; rfl
  | j + 1, k, x => by rw [show j + 1 + k = (j + k) + 1 from by omega]; show sh1 (shN (j + k) x) = sh1 (shN j (shN k x)); rw [shN_add j k x]
theorem shN_pow : ∀ (k x : Nat), shN k (2 ^ k * x) = x
  | 0, x => by rw [Nat.pow_zero, Nat.one_mul]; rfl
  | k + 1, x => by
    rw [shN_out, show 2 ^ (k + 1) * x = 2 * (2 ^ k * x) from by rw [Nat.pow_succ, Nat.mul_comm (2 ^ k) 2, Nat.mul_assoc], sh1_twice]
    exact shN_pow k x
theorem shN_256 (x : Nat) : shN 8 (256 * x) = x := shN_pow 8 x
theorem sh1_zero {y : Nat} (hy : y < 4294967296) (h : sh1 y = 0) : y = 0 := by
  unfold sh1 at h
  rcases (by omega : y % 2 = 0 ∨ y % 2 = 1) with he | he
  · rw [he, Nat.mul_zero, Nat.xor_zero] at h; omega
  · rw [he, Nat.mul_one] at h
    have e : y / 2 = 3988292384 := by
      have h2 := congrArg (· ^^^ 3988292384) h
      simp only [Nat.xor_assoc, Nat.xor_self, Nat.xor_zero, Nat.zero_xor] at h2
      exact h2
    omega
theorem shN_zero : ∀ (k : Nat) {y : Nat}, y < 4294967296 → shN k y = 0 → y = 0
  | 0, y, _, h => h
  | k + 1, y, hy, h => shN_zero k hy (sh1_zero (shN_lt k y hy) h)
theorem low_xor (x : Nat) : x = 256 * (x / 256) ^^^ (x % 256) := by
  apply Nat.eq_of_testBit_eq; intro i
  rw [show 256 = 2 ^ 8 from rfl, Nat.testBit_xor, Nat.testBit_mod_two_pow, Nat.testBit_two_pow_mul, Nat.testBit_div_two_pow]
  by_cases h : i < 8
  · simp [h, Nat.not_le.2 h]
  · simp [h, Nat.not_lt.1 h, show i - 8 + 8 = i from by omega]
/-- A step is eight shifts. -/
theorem step_shN (x : Nat) (c : UInt8) : crcStep tableL x c = shN 8 (x ^^^ c.toNat) := by
  rw [step_table]
  conv => rhs; rw [low_xor x]
  rw [Nat.xor_assoc, shN_xor 8 (256 * _), shN_256]
def word : List UInt8 → Nat
  | [] => 0
  | c :: l => c.toNat ^^^ (256 * word l)
theorem fold_shN : ∀ (l : List UInt8) (x : Nat), l.foldl (crcStep tableL) x = shN (8 * l.length) (x ^^^ word l)
  | [], x => by show x = shN 0 (x ^^^ 0); rw [Nat.xor_zero]; rfl
  | c :: l, x => by
    show l.foldl (crcStep tableL) (crcStep tableL x c) = _
    rw [fold_shN l, step_shN, List.length_cons, Nat.mul_add, Nat.mul_one, shN_add]
    show _ = shN (8 * l.length) (shN 8 (x ^^^ (c.toNat ^^^ (256 * word l))))
    rw [← Nat.xor_assoc, shN_xor 8 (x ^^^ c.toNat), shN_256]
theorem word_set : ∀ (l : List UInt8) (j : Nat) (h : j < l.length) (m : UInt8), word (l.set j (l[j] ^^^ m)) = word l ^^^ (2 ^ (8 * j) * m.toNat)
  | c :: l, 0, _, m => by
    show (c ^^^ m).toNat ^^^ (256 * word l) = (c.toNat ^^^ (256 * word l)) ^^^ (2 ^ 0 * m.toNat)
    rw [UInt8.toNat_xor, Nat.pow_zero, Nat.one_mul, Nat.xor_assoc, Nat.xor_comm m.toNat, Nat.xor_assoc]
  | c :: l, j + 1, h, m => by
    have ih := word_set l j (by simpa using h) m
    show c.toNat ^^^ (256 * word (l.set j (l[j]'(by simpa using h) ^^^ m))) = (c.toNat ^^^ (256 * word l)) ^^^ _
    rw [ih, Nat.xor_assoc]
    congr 1
    have hx : ∀ a b : Nat, 256 * (a ^^^ b) = (256 * a) ^^^ (256 * b) := fun a b => by
      apply Nat.eq_of_testBit_eq; intro i
      rw [show 256 = 2 ^ 8 from rfl]
      simp only [Nat.testBit_xor, Nat.testBit_two_pow_mul]
      cases decide (i ≥ 8) <;> simp
    rw [hx, ← Nat.mul_assoc, show 8 * (j + 1) = 8 + 8 * j from by omega, Nat.pow_add]
/-- The sum of what is sealed. -/
theorem le4_len (s : Nat) : (le4 s).length = 4 := rfl
theorem le4_word (s : Nat) (hs : s < 4294967296) : word (le4 s) = s := by
  show (UInt8.ofNat s).toNat ^^^ (256 * ((UInt8.ofNat (s / 256)).toNat ^^^ (256 * ((UInt8.ofNat (s / 65536)).toNat ^^^ (256 * ((UInt8.ofNat (s / 16777216)).toNat ^^^ (256 * 0))))))) = s
  have e : ∀ m, (UInt8.ofNat m).toNat = m % 256 := fun m => by simp
  rw [e, e, e, e, Nat.mul_zero, Nat.xor_zero]
  have h4 : s / 16777216 % 256 = s / 16777216 := by omega
  have k3 := low_xor (s / 65536)
  rw [Nat.div_div_eq_div_mul, Nat.xor_comm] at k3
  have k2 := low_xor (s / 256)
  rw [Nat.div_div_eq_div_mul, Nat.xor_comm] at k2
  have k1 := low_xor s
  rw [Nat.xor_comm] at k1
  rw [h4, ← k3, ← k2, ← k1]
theorem reg_seal (b : List UInt8) : crcReg tableL (crcSeal tableL b) = 3736805603 := by
  unfold crcSeal crcReg
  rw [List.foldl_append, fold_shN (le4 _), le4_word _ (by unfold crcSum; exact xor_lt (k := 32) (by omega) (reg_lt _ tableL_lt _ _ (by omega)))]
  unfold crcSum crcReg
  rw [Nat.xor_comm 4294967295, ← Nat.xor_assoc, Nat.xor_self, Nat.zero_xor, le4_len]
  decide +kernel
theorem sum_seal (b : List UInt8) : crcSum tableL (crcSeal tableL b) = 558161692 := by
  unfold crcSum; rw [reg_seal]; decide
/-- Not more than 32 bits turned: another sum. -/
theorem burst {s s' : List UInt8} {from_ mask : Nat} (hl : s'.length = s.length) (hw : word s' = word s ^^^ (2 ^ from_ * mask)) (h0 : mask ≠ 0) (hm : mask < 4294967296) (hf : from_ ≤ 8 * s.length) :
    crcReg tableL s' ≠ crcReg tableL s := by
  unfold crcReg
  rw [fold_shN, fold_shN, hl, hw, ← Nat.xor_assoc, shN_xor (8 * s.length) (_ ^^^ _)]
  intro h
  have hz : shN (8 * s.length) (2 ^ from_ * mask) = 0 := by
    have h2 := congrArg (fun z => shN (8 * s.length) (4294967295 ^^^ word s) ^^^ z) h
    simp only [← Nat.xor_assoc, Nat.xor_self, Nat.zero_xor] at h2
    exact h2
  rw [show 8 * s.length = (8 * s.length - from_) + from_ from by omega, shN_add, shN_pow] at hz
  exact h0 (shN_zero _ hm hz)
theorem mask_low (m i : Nat) : m % 2 ^ (i + 1) = m % 2 ^ i ^^^ (2 ^ i * (m / 2 ^ i % 2)) := by
  apply Nat.eq_of_testBit_eq; intro j
  have hb : (m / 2 ^ i % 2) = (m.testBit i).toNat := by
    rw [Nat.testBit_eq_decide_div_mod_eq]
    rcases (by omega : m / 2 ^ i % 2 = 0 ∨ m / 2 ^ i % 2 = 1) with h | h <;> simp [h]
  rw [hb, Nat.testBit_xor, Nat.testBit_mod_two_pow, Nat.testBit_mod_two_pow, Nat.testBit_two_pow_mul]
  rcases Nat.lt_trichotomy j i with h | h | h
  · simp [h, show j < i + 1 from by omega, Nat.not_le.2 h]
  · subst h; cases m.testBit j <;> simp
  · have : ¬ j < i := by omega
    have : ¬ j < i + 1 := by omega
    have hk : ∃ k, j - i = k + 1 := ⟨j - i - 1, by omega⟩
    obtain ⟨k, hk⟩ := hk
    cases m.testBit i <;> simp [*, Nat.testBit_succ]
end Go.Proofs.Ytpfamjgdfcnieaa
