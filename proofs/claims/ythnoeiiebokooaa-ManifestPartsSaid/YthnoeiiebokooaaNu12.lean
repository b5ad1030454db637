/- Chapter 12: the document's number. -/
import Derived.Test.YthnoeiiebokooaaGw12
namespace Go.Proofs.Ythnoeiiebokooaa
open Go.RowKit
set_option linter.unusedVariables false
theorem be_join64 (a : Nat) (b : UInt8) (h : a < 72057594037927936) : bits .or .i64 (IntKind.i64.wrap ((a : Int) * 256)) (b.toNat : Int) = IntKind.i64.wrap ((256 * a + b.toNat : Nat) : Int) := by
  have hb := b.toNat_lt
  show IntKind.i64.wrap ((BitVec.ofInt 64 (IntKind.i64.wrap ((a : Int) * 256)) ||| BitVec.ofInt 64 (b.toNat : Int)).toNat : Int) = _
  have h1 : (BitVec.ofInt 64 (IntKind.i64.wrap ((a : Int) * 256))).toNat = 256 * a := by
    rw [BitVec.toNat_ofInt, IntKind.wrap_i64]; omega
  rw [BitVec.toNat_or, h1, ofInt_u64 b.toNat (by omega), nat_join 8 (256 * a) b.toNat (by omega) (by omega)]
def nb (l : List UInt8) : Int := IntKind.i64.wrap (be l : Int)
set_option maxRecDepth 100000 in
/-- number -/
theorem number_any {w : World} {A : Option Addr} {n c : Nat} {l : List UInt8} (h : Rd w A n (bys l)) (hn : n ≤ 8) :
    Calls Try.prog 34 #[.slice A n c] w fun e w' => e = .returned (.int .i64 (nb l)) ∧ w = w' := by
  have hl : l.length = n := by have := h.1; simpa [bys_length] using this
  have H := Lib.hid (And.intro h hl)
  clear h hl
  go_enter Try.func34, Try.ntmps34
  go_wp2
  go_loopw [3, 4] (fun v i wr => ∃ k : Nat, k ≤ n ∧ i = .int .i64 k ∧ v = .int .i64 (nb (l.take k)) ∧ wr = w) (fun v i wr => n - (intOf i).toNat)
  case atStart => exact ⟨0, by omega, rfl, rfl, rfl⟩
  case round =>
    obtain ⟨k, hk, rfl, rfl, rfl⟩ := hrel
    by_cases hlt : k < n
    · obtain ⟨b, off, rfl, hbl, hc⟩ := H.out.1.form (by omega)
      have hkl : k < l.length := by rw [H.out.2]; exact hlt
      have cx := hc k _ (bys_get l k hkl)
      have km : (k : Int) < (n : Int) := by omega
      have ha : be (l.take k) < 72057594037927936 := by
        have h1 := be_lt k (l.take k) (by rw [List.length_take]; omega)
        have h2 : 256 ^ k ≤ 256 ^ 7 := Nat.pow_le_pow_right (by omega) (by omega)
        omega
      have hs : nb (l.take (k + 1)) = bits .or .i64 (IntKind.i64.wrap ((be (l.take k) : Int) * 256)) (l[k].toNat : Int) := by
        rw [be_join64 _ _ ha]; unfold nb; rw [be_take_succ hkl]
      have hw : nb (l.take k) = (be (l.take k) : Int) := by unfold nb; rw [IntKind.wrap_i64]; omega
      rw [hw]
      obtain ⟨a, hae⟩ : ∃ a, be (l.take k) = a := ⟨_, rfl⟩
      rw [hae] at ha hs ⊢
      have HS := Lib.hid (And.intro hs hlt)
      clear hc hbl hs hw hae hlt
      go_wp2_with fail
      refine ⟨⟨k + 1, by have := HS.out.2; omega, by go_num, ?_, trivial⟩, by have := HS.out.2; simp [intOf]; omega⟩
      have hb := l[k].toNat_lt
      rw [HS.out.1, show wrap64 (l[k].toNat : Int) = (l[k].toNat : Int) from by unfold wrap64; omega, show wrap64 ((a : Int) * 256) = IntKind.i64.wrap ((a : Int) * 256) from by rw [IntKind.wrap_i64]; unfold wrap64; omega]
    · have hqe : k = n := by omega
      subst hqe
      have km : ¬ (k : Int) < (k : Int) := by omega
      go_wp2
      go_ret
      rw [List.take_of_length_le (by rw [H.out.2]; exact Nat.le_refl _)]
      exact ⟨rfl, rfl⟩
end Go.Proofs.Ythnoeiiebokooaa
