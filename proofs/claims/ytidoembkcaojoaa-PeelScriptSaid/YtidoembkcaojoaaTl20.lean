/- Chapter 20: Take, where it is refused; Rest. -/
import Derived.Test.YtidoembkcaojoaaTk20
namespace Go.Proofs.Ytidoembkcaojoaa
open Go.RowKit
set_option linter.unusedVariables false
set_option maxRecDepth 100000 in
set_option maxHeartbeats 1600000 in
theorem take_range {w : World} {base G : Nat} {tag : Nat → Option Nat} {L : GL} {s : GM} (h : Gm w base G tag L s) {x : Int} (hx : ¬ (0 ≤ x ∧ x < s.known.length)) :
    Calls Try.prog 65 #[.pointer (some ⟨G, 0, none⟩), .int .i64 x] w fun e w' => e = .returned (.tuple #[.slice none 0 0, .int .i64 3]) ∧ w = w' := by
  have H := Lib.hid h
  have c0 := h.g.cell 0
  have hkz := h.kz
  obtain ⟨k, hk⟩ : ∃ k, s.known.length = k := ⟨_, rfl⟩
  rw [hk] at c0 hkz hx
  clear h hk
  by_cases h0 : x < 0
  · have d1 : decide (x < 0) = true := by simpa using h0
    clear hx h0
    go_enter Try.func65, Try.ntmps65
    go_wp2_with fail
    refine (none_made H.out).mono ?_
    rintro e w1 ⟨rfl, rfl⟩
    go_wp2
    go_ret2
    exact ⟨rfl, rfl⟩
  · have d1 : decide (x < 0) = false := by simpa using h0
    have d2 : decide (x ≥ (k : Int)) = true := by simp; omega
    have d3 : decide ((k : Int) ≤ x) = true := by simp; omega
    clear hx h0
    go_enter Try.func65, Try.ntmps65
    go_wp2_with fail
    refine (none_made H.out).mono ?_
    rintro e w1 ⟨rfl, rfl⟩
    go_wp2
    go_ret2
    exact ⟨rfl, rfl⟩
set_option maxRecDepth 100000 in
set_option maxHeartbeats 1600000 in
theorem take_known {w : World} {base G : Nat} {tag : Nat → Option Nat} {L : GL} {s : GM} (h : Gm w base G tag L s) {i : Nat} (hi : i < s.known.length) (hk : s.known[i]? = some true) :
    Calls Try.prog 65 #[.pointer (some ⟨G, 0, none⟩), .int .i64 i] w fun e w' => e = .returned (.tuple #[.slice none 0 0, .int .i64 11]) ∧ w = w' := by
  have H := Lib.hid h
  have c0 := h.g.cell 0
  have c1 := h.g.cell 1
  have hkz := h.kz
  have ck := h.kn.cell i
  rw [show (bools s.known)[i]? = some (.bool true) from by simp [bools, hk]] at ck
  obtain ⟨k, hkk⟩ : ∃ k, s.known.length = k := ⟨_, rfl⟩
  rw [hkk] at c0 c1 hkz hi
  have hi' : (i : Int) < (k : Int) := by omega
  have d1 : decide ((i : Int) < 0) = false := by simp
  have d2 : decide ((i : Int) ≥ (k : Int)) = false := by simp; omega
  have d3 : decide ((k : Int) ≤ (i : Int)) = false := by simp; omega
  have d4 : decide (k ≤ i) = false := by simp; omega
  clear hkk hk h
  go_enter Try.func65, Try.ntmps65
  go_wp2_with fail
  refine (none_made H.out).mono ?_
  rintro e w1 ⟨rfl, rfl⟩
  go_wp2
  go_ret2
  exact ⟨rfl, rfl⟩
end Go.Proofs.Ytidoembkcaojoaa
