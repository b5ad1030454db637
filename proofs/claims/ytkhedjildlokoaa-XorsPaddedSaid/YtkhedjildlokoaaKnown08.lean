/- XorsKnown: the chapter's examples. -/
import Derived.Test.YtkhedjildlokoaaSums08
namespace Go.Proofs.Ytkhedjildlokoaa
open Go.RowKit
set_option linter.unusedVariables false
set_option maxRecDepth 100000 in
set_option maxHeartbeats 2000000 in
theorem known_any (w : World) : Calls Try.prog 5 #[] w fun e w' => e = .returned (.bool true) ∧ Below w.heap.size w w' := by
  have H0 := Lib.hid (Below.refl w.heap.size w)
  go_enter Try.func5, Try.ntmps5
  go_wp2_with fail
  refine (xor_any (xs := [1]) (ys := [1, 2]) (by repeat (first | exact Rd.lit _ _ _ _ (by simp) _ rfl _ rfl | refine Rd.alloc ?_ _)) (by repeat (first | exact Rd.lit _ _ _ _ (by simp) _ rfl _ rfl | refine Rd.alloc ?_ _)) (by omega) (by omega)).mono ?_
  rintro e w1 ⟨v1, rfl, ho1, hb1⟩
  rw [show xorE [1] [1, 2] = 2 from by decide]
  have b_ : Below w.heap.size w w1 := below_base (by repeat (first | exact (H0).out | refine Below.alloc ?_ (by have := (H0).out.size; (try simp only [World.size_alloc]); omega) _)) hb1 (by have := (H0).out.size; (try simp only [World.size_alloc]); omega)
  have H1 := Lib.hid b_
  clear b_
  clear ho1 hb1
  go_wp2_with fail
  refine (all_any (xss := [[1, 2]]) (by repeat (first | exact Rd.lit _ _ _ _ (by simp) _ rfl _ rfl | refine Rd.alloc ?_ _)) (by exact Rows_.cons (by repeat (first | exact Rd.lit _ _ _ _ (by simp) _ rfl _ rfl | refine Rd.alloc ?_ _)) (by omega) (by omega) (Rows_.nil _)) (by omega)).mono ?_
  rintro e w2 ⟨v2, rfl, ho2, hb2⟩
  rw [show allE 1 [[1, 2]] = 2 from by decide]
  have b_ : Below w.heap.size w w2 := below_base (by repeat (first | exact (H1).out | refine Below.alloc ?_ (by have := (H1).out.size; (try simp only [World.size_alloc]); omega) _)) hb2 (by have := (H1).out.size; (try simp only [World.size_alloc]); omega)
  have H2 := Lib.hid b_
  clear b_
  clear ho2 hb2
  go_wp2_with fail
  refine (all_any (xss := []) (Rd.nil _ _) (Rows_.nil _) (by omega)).mono ?_
  rintro e w3 ⟨v3, rfl, ho3, hb3⟩
  rw [show allE 65536 [] = 3 from by decide]
  have b_ : Below w.heap.size w w3 := below_base (by repeat (first | exact (H2).out | refine Below.alloc ?_ (by have := (H2).out.size; (try simp only [World.size_alloc]); omega) _)) hb3 (by have := (H2).out.size; (try simp only [World.size_alloc]); omega)
  have H3 := Lib.hid b_
  clear b_
  clear ho3 hb3
  go_wp2_with fail
  refine (pad_any (l := [7]) (by repeat (first | exact Rd.lit _ _ _ _ (by simp) _ rfl _ rfl | refine Rd.alloc ?_ _)) (by omega) 3).mono ?_
  rintro e w4 ⟨v4, rfl, ho4, hb4⟩
  rw [show padE [7] 3 = 0 from by decide]
  rw [show padV [7] 3 = [7, 0, 0] from by decide] at ho4
  have b_ : Below w.heap.size w w4 := below_base (by repeat (first | exact (H3).out | refine Below.alloc ?_ (by have := (H3).out.size; (try simp only [World.size_alloc]); omega) _)) hb4 (by have := (H3).out.size; (try simp only [World.size_alloc]); omega)
  have H4 := Lib.hid b_
  clear b_
  obtain ⟨A4, c4, rfl, hc4, _, _, _⟩ := own_form ho4
  have G4 := Lib.hid (Rd.of_own ho4)
  clear ho4 hb4
  go_wp2_with fail
  refine (pad_any (l := [7, 8]) (by repeat (first | exact Rd.lit _ _ _ _ (by simp) _ rfl _ rfl | refine Rd.alloc ?_ _)) (by omega) 1).mono ?_
  rintro e w5 ⟨v5, rfl, ho5, hb5⟩
  rw [show padE [7, 8] 1 = 4 from by decide]
  have b_ : Below w.heap.size w w5 := below_base (by repeat (first | exact (H4).out | refine Below.alloc ?_ (by have := (H4).out.size; (try simp only [World.size_alloc]); omega) _)) hb5 (by have := (H4).out.size; (try simp only [World.size_alloc]); omega)
  have H5 := Lib.hid b_
  clear b_
  have G5 := Lib.hid (((by repeat (first | exact G4.out | refine Rd.alloc ?_ _)) : Rd (w4.alloc (.cells #[.int .u8 7, .int .u8 8] 5)) A4 3 (bys [7, 0, 0])).below hb5)
  clear ho5 hb5
  go_wp2_with fail
  refine (awake_any _).mono ?_
  rintro e w6 ⟨rfl, hb6⟩
  have b_ : Below w.heap.size w w6 := below_base (by repeat (first | exact (H5).out | refine Below.alloc ?_ (by have := (H5).out.size; (try simp only [World.size_alloc]); omega) _)) hb6 (by have := (H5).out.size; (try simp only [World.size_alloc]); omega)
  have H6 := Lib.hid b_
  clear b_
  have G6 := Lib.hid (G5.out.below hb6)
  clear hb6
  go_wp2_with fail
  refine (sums_any (want := [0, 0, 0]) (xss := []) (Rd.nil _ _) (Rows_.nil _) (by omega) (by repeat (first | exact Rd.lit _ _ _ _ (by simp) _ rfl _ rfl | refine Rd.alloc ?_ _)) (by decide)).mono ?_
  rintro e w7 ⟨rfl, hb7⟩
  rw [show (allV 3 [] == [0, 0, 0]) = true from by decide]
  have b_ : Below w.heap.size w w7 := below_base (by repeat (first | exact (H6).out | refine Below.alloc ?_ (by have := (H6).out.size; (try simp only [World.size_alloc]); omega) _)) hb7 (by have := (H6).out.size; (try simp only [World.size_alloc]); omega)
  have H7 := Lib.hid b_
  clear b_
  have G7 := Lib.hid (((by repeat (first | exact G6.out | refine Rd.alloc ?_ _)) : Rd (w6.alloc (.cells #[.int .u8 0, .int .u8 0, .int .u8 0] 5)) A4 3 (bys [7, 0, 0])).below hb7)
  clear hb7
  go_wp2_with fail
  refine (same_true (l := [7, 0, 0]) (by repeat (first | exact G7.out | refine Rd.alloc ?_ _)) (by repeat (first | exact Rd.lit _ _ _ _ (by simp) _ rfl _ rfl | refine Rd.alloc ?_ _))).mono ?_
  rintro e w8 ⟨rfl, rfl⟩
  go_wp2_with fail
  refine (zero_any (l := [0, 0]) (by repeat (first | exact Rd.lit _ _ _ _ (by simp) _ rfl _ rfl | refine Rd.alloc ?_ _)) (by omega)).mono ?_
  rintro e w8 ⟨rfl, rfl⟩
  rw [show (!([0, 0] : List UInt8).any (· != 0)) = true from by decide]
  go_wp2_with fail
  refine (zero_any (l := [0, 1]) (by repeat (first | exact Rd.lit _ _ _ _ (by simp) _ rfl _ rfl | refine Rd.alloc ?_ _)) (by omega)).mono ?_
  rintro e w8 ⟨rfl, rfl⟩
  rw [show (!([0, 1] : List UInt8).any (· != 0)) = false from by decide]
  go_wp2_with fail
  refine (zero_any (l := []) (Rd.nil _ _) (by omega)).mono ?_
  rintro e w8 ⟨rfl, rfl⟩
  rw [show (!([] : List UInt8).any (· != 0)) = true from by decide]
  go_wp2
  go_ret
  exact ⟨rfl, by repeat (first | exact H7.out | refine Below.alloc ?_ (by have := H7.out.size; (try simp only [World.size_alloc]); omega) _)⟩
end Go.Proofs.Ytkhedjildlokoaa
