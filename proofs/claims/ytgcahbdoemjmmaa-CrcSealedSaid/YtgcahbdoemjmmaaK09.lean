/- CrcKnown. -/
import Derived.Test.YtgcahbdoemjmmaaI09
namespace Go.Proofs.Ytgcahbdoemjmmaa
open Go.RowKit
set_option linter.unusedVariables false
theorem known_nil : crcSum tableL [] = 0 := by decide +kernel
theorem known_short : openE tableL [] = 7 := by decide +kernel
theorem known_bad : openE tableL [1, 2, 3, 4] = 8 := by decide +kernel
theorem known_zero : openE tableL [0, 0, 0, 0] = 0 := by decide +kernel
theorem known_none (h : openE tableL [] = 7) : openB tableL [] = [] := openB_no (by rw [h]; decide)
theorem known_bad_none : openB tableL [1, 2, 3, 4] = [] := openB_no (by rw [known_bad]; decide)
theorem known_zero_none : openB tableL [0, 0, 0, 0] = [] := by rw [openB_ok (m := 0) rfl known_zero]; rfl
set_option maxRecDepth 100000 in
theorem known_walk (w : World) :
    Calls Try.prog 5 #[] w fun e w' => e = .returned (.bool true) ∧ Below w.heap.size w w' := by
  go_enter Try.func5, Try.ntmps5
  have kc := fun (w : World) (C : Array Value) (n c : Nat) => Lib.run_convert_bytes_const (P := Try.prog) w 22 5 C n c Try.underlying22 Try.underlying5
  go_wp2_with fail
  refine awake_any.mono ?_
  rintro e w1 ⟨rfl, hb1⟩
  have H1 := Lib.hid hb1
  have hs1 := hb1.size
  clear hb1
  go_wp2_with fail
  refine (crcSum_any (b := []) (.inl ⟨rfl, rfl⟩) (Rd.nil w1 none) (by omega)).mono ?_
  rintro e w2 ⟨rfl, hb2⟩
  have hs2 := hb2.size
  have H2 := Lib.hid (below_base H1.out hb2 hs1)
  clear hb2
  rw [known_nil]
  go_wp2_with fail
  refine (crcSum_any (n := 9) (b := [49, 50, 51, 52, 53, 54, 55, 56, 57]) (.inl ⟨rfl, rfl⟩) (Rd.litM _ _ _ _ _ rfl 9 rfl _ rfl) (by omega)).mono ?_
  rintro e w3 ⟨rfl, hb3⟩
  have bA := H2.out.alloc H2.out.size (Obj.cells #[.int .u8 49, .int .u8 50, .int .u8 51, .int .u8 52, .int .u8 53, .int .u8 54, .int .u8 55, .int .u8 56, .int .u8 57] 5 (9, 10))
  have H3 := Lib.hid (below_base bA hb3 bA.size)
  clear hb3 bA
  rw [known_sum]
  go_wp2_with fail
  refine (opened_any (b := []) (l := []) (Rd.nil w3 none) (Rd.nil w3 none) (by omega) (Nat.le_refl _)).mono ?_
  rintro e w4 ⟨rfl, hb4⟩
  have H4 := Lib.hid (below_base H3.out hb4 H3.out.size)
  clear hb4
  rw [known_short, known_none known_short]
  go_wp2_with fail
  refine (opened_any (n := 4) (b := [1, 2, 3, 4]) (l := []) (Rd.lit _ _ _ _ rfl _ rfl _ rfl) (Rd.nil _ none) (by omega) (Nat.le_refl _)).mono ?_
  rintro e w5 ⟨rfl, hb5⟩
  have bB := H4.out.alloc H4.out.size (Obj.cells #[.int .u8 1, .int .u8 2, .int .u8 3, .int .u8 4] 5)
  have H5 := Lib.hid (below_base bB hb5 bB.size)
  clear hb5 bB
  rw [known_bad, known_bad_none]
  go_wp2_with fail
  refine (opened_any (n := 4) (b := [0, 0, 0, 0]) (l := []) (Rd.lit _ _ _ _ rfl _ rfl _ rfl) (Rd.nil _ none) (by omega) (Nat.le_refl _)).mono ?_
  rintro e w6 ⟨rfl, hb6⟩
  have bC := H5.out.alloc H5.out.size (Obj.cells #[.int .u8 0, .int .u8 0, .int .u8 0, .int .u8 0] 5)
  have H6 := Lib.hid (below_base bC hb6 bC.size)
  clear hb6 bC
  rw [known_zero, known_zero_none]
  go_wp2_with fail
  go_ret
  exact ⟨rfl, H6.out⟩
end Go.Proofs.Ytgcahbdoemjmmaa
