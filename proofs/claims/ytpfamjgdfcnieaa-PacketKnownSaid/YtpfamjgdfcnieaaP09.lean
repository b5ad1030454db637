/- The plain words of chapter 9: the check sum. -/
import Derived.Test.YtpfamjgdfcnieaaBase
namespace Go.Proofs.Ytpfamjgdfcnieaa
open Go.RowKit
set_option linter.unusedVariables false
/-- One shift; so many shifts; the table. -/
def sh1 (x : Nat) : Nat := x / 2 ^^^ (3988292384 * (x % 2))
def shN : Nat → Nat → Nat
  | 0, x => x
  | k + 1, x => sh1 (shN k x)
def tableL : List Nat := (List.range 256).map (shN 8)
def u32s (l : List Nat) : List Value := l.map fun n : Nat => .int .u32 (n : Int)
def crcStep (t : List Nat) (x : Nat) (c : UInt8) : Nat := x / 256 ^^^ t.getD (x % 256 ^^^ c.toNat) 0
def crcReg (t : List Nat) (b : List UInt8) : Nat := b.foldl (crcStep t) 4294967295
def crcSum (t : List Nat) (b : List UInt8) : Nat := 4294967295 ^^^ crcReg t b
def le4 (s : Nat) : List UInt8 := [UInt8.ofNat s, UInt8.ofNat (s / 256), UInt8.ofNat (s / 65536), UInt8.ofNat (s / 16777216)]
def crcSeal (t : List Nat) (b : List UInt8) : List UInt8 := b ++ le4 (crcSum t b)
theorem xor_lt {a b k : Nat} (ha : a < 2 ^ k) (hb : b < 2 ^ k) : a ^^^ b < 2 ^ k := Nat.xor_lt_two_pow ha hb
theorem sh1_lt (x : Nat) (h : x < 4294967296) : sh1 x < 4294967296 := by
  unfold sh1
  exact xor_lt (k := 32) (by omega) (by have : x % 2 < 2 := Nat.mod_lt _ (by omega); omega)
theorem shN_lt : ∀ (k x : Nat), x < 4294967296 → shN k x < 4294967296
  | 0, x, h => h
  | k + 1, x, h => sh1_lt _ (shN_lt k x h)
theorem tableL_length : tableL.length = 256 := by simp [tableL]
theorem tableL_get (i : Nat) (h : i < 256) : tableL[i]? = some (shN 8 i) := by simp [tableL, h]
theorem tableL_lt : ∀ n ∈ tableL, n < 4294967296 := by
  intro n hn
  obtain ⟨i, hi, rfl⟩ := List.mem_map.1 hn
  exact shN_lt 8 i (by have := List.mem_range.1 hi; omega)
theorem u32s_length (l : List Nat) : (u32s l).length = l.length := by simp [u32s]
theorem u32s_get {l : List Nat} {i x : Nat} (h : l[i]? = some x) : (u32s l)[i]? = some (.int .u32 (x : Int)) := by simp [u32s, h]
theorem u32s_one (l : List Nat) : ∀ u ∈ u32s l, u.oneCell' = true := by
  intro u hu; obtain ⟨_, _, rfl⟩ := List.mem_map.1 hu; rfl
theorem u32s_set (l : List Nat) (i x : Nat) : (u32s l).set i (.int .u32 (x : Int)) = u32s (l.set i x) := by simp [u32s, List.map_set]
theorem step_lt (t : List Nat) (ht : ∀ n ∈ t, n < 4294967296) (x : Nat) (c : UInt8) (hx : x < 4294967296) : crcStep t x c < 4294967296 := by
  unfold crcStep
  refine xor_lt (k := 32) (by omega) ?_
  rw [List.getD_eq_getElem?_getD]
  cases h : t[x % 256 ^^^ c.toNat]? with
  | none => simp
  | some y => exact ht y (List.mem_of_getElem? h)
theorem reg_lt (t : List Nat) (ht : ∀ n ∈ t, n < 4294967296) : ∀ (b : List UInt8) (x : Nat), x < 4294967296 → b.foldl (crcStep t) x < 4294967296
  | [], x, h => h
  | c :: b, x, h => reg_lt t ht b _ (step_lt t ht x c h)
theorem idx_lt (x : Nat) (c : UInt8) : x % 256 ^^^ c.toNat < 256 := xor_lt (k := 8) (by omega) c.toNat_lt
theorem fold_take_succ {α β : Type} (f : β → α → β) (z : β) {l : List α} {k : Nat} (h : k < l.length) : (l.take (k + 1)).foldl f z = f ((l.take k).foldl f z) l[k] := by
  rw [List.take_succ_eq_append_getElem h, List.foldl_append]; rfl
end Go.Proofs.Ytpfamjgdfcnieaa
