/- CrcSealed: its walk. -/
import Derived.Test.YtpfamjgdfcnieaaH09
import Derived.Test.YtpfamjgdfcnieaaW09
import Derived.BigRegion
namespace Go.Proofs.Ytpfamjgdfcnieaa
open Go.RowKit
set_option linter.unusedVariables false
theorem openE_seal (b : List UInt8) : openE tableL (crcSeal tableL b) = 0 := openE_ok (m := b.length) (by rw [seal_length]) (by
  rw [show (crcSeal tableL b).take b.length = b from by unfold crcSeal; simp]; simp)
theorem openB_seal (b : List UInt8) : openB tableL (crcSeal tableL b) = b := by
  rw [openB_ok (m := b.length) (by rw [seal_length]) (openE_seal b)]
  unfold crcSeal; simp
/-- Another register than that of what is sealed: not to be opened. -/
theorem openE_reg {s : List UInt8} (hl : 4 ≤ s.length) (h : crcReg tableL s ≠ 3736805603) : openE tableL s = 8 := by
  refine openE_bad (m := s.length - 4) (by omega) ?_
  simp only [beq_eq_false_iff_ne]
  intro e
  apply h
  rw [← e]
  exact reg_seal _
theorem Mut.set_ {w : World} {A : Option Addr} {n g : Nat} {xs : List Value} (h : Mut w A n g 0 xs) (j : Nat) (hj : j < n) (v : Value) : Mut (w.setCell ⟨g, j, none⟩ v) A n g 0 (xs.set j v) := by
  refine ⟨by rw [List.length_set]; exact h.1, fun hn => ?_⟩
  obtain ⟨hA, t, cur, hb, hf, hx⟩ := h.2 hn
  refine ⟨hA, t, cur.set j v, hb.set_ j v, by rw [List.length_set]; exact hf, ?_⟩
  rw [List.drop_zero] at hx ⊢
  rw [← hx, List.take_set]
theorem bys_setv (l : List UInt8) (k : Nat) (x : UInt8) : (bys l).set k (.int .u8 (x.toNat : Int)) = bys (l.set k x) := by simp [bys, List.map_set]
theorem pow_mul_xor (k a b : Nat) : 2 ^ k * (a ^^^ b) = (2 ^ k * a) ^^^ (2 ^ k * b) := by
  apply Nat.eq_of_testBit_eq; intro i
  simp only [Nat.testBit_xor, Nat.testBit_two_pow_mul]
  cases decide (i ≥ k) <;> simp
theorem flip_step {w wr : World} {A : Option Addr} {n g f k m j r q W : Nat} {s : List UInt8} {M : UInt8} {v : Int}
    (hl : s.length = n + 4) (hw : word s = W ^^^ (2 ^ f * (m % 2 ^ k))) (hm : Mut wr A (n + 4) g 0 (bys s)) (hb : Below w.heap.size w wr) (hg : w.heap.size ≤ g)
    (hq : q = m / 2 ^ k) (hq1 : q % 2 = 1) (hj : j < s.length) (hp : f + k = 8 * j + r) (hM : M.toNat = 2 ^ r) (hv : v = (M.toNat : Int)) :
    ∃ s', s'.length = n + 4 ∧ word s' = W ^^^ (2 ^ f * (m % 2 ^ (k + 1))) ∧ Mut (wr.setCell ⟨g, j, none⟩ (.int .u8 (bits .xor .u8 (s[j].toNat : Int) v))).drew A (n + 4) g 0 (bys s') ∧
      Below w.heap.size w (wr.setCell ⟨g, j, none⟩ (.int .u8 (bits .xor .u8 (s[j].toNat : Int) v))).drew := by
  have e : bits .xor .u8 (s[j].toNat : Int) v = ((s[j] ^^^ M).toNat : Int) := by
    rw [hv, UInt8.toNat_xor]; exact u8_xor_nat s[j].toNat M.toNat s[j].toNat_lt M.toNat_lt
  refine ⟨s.set j (s[j] ^^^ M), by rw [List.length_set]; exact hl, ?_, ?_, below_dN (hb.setCell hg _) 1⟩
  · rw [word_set s j hj M, hw, mask_low m k, ← hq, hq1, Nat.mul_one, pow_mul_xor, hM, ← Nat.pow_add, ← Nat.pow_add, ← hp, Nat.xor_assoc]
  · rw [e, ← bys_setv]
    exact (hm.set_ j (by omega) _).drewN 1
end Go.Proofs.Ytpfamjgdfcnieaa
