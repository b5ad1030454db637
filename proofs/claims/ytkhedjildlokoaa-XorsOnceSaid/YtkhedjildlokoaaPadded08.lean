/- XorsPadded: what is padded begins as it was, and ends in noughts; the sum of two that are padded is their sum, padded. -/
import Derived.Test.YtkhedjildlokoaaGroup08
namespace Go.Proofs.Ytkhedjildlokoaa
open Go.RowKit
set_option linter.unusedVariables false
theorem xorL_even (a b : List UInt8) (n N : Nat) (ha : a.length = n) (hb : b.length = n) (hN : n ≤ N) : xorL (evenL a N) (evenL b N) = evenL (xorL a b) N := by
  have hx : (xorL a b).length = n := by rw [xorL_length _ _ (by omega), ha]
  unfold evenL
  rw [List.take_of_length_le (by omega), List.take_of_length_le (by omega), List.take_of_length_le (by omega), ha, hb, hx]
  unfold xorL
  rw [List.zipWith_append (by omega)]
  congr 1
  simp
theorem evenL_take (a : List UInt8) (n N : Nat) (ha : a.length = n) (hN : n ≤ N) : (evenL a N).take n = a := by
  unfold evenL
  rw [List.take_of_length_le (l := a) (by omega), ← ha, List.take_left]
theorem evenL_drop (a : List UInt8) (n r : Nat) (ha : a.length = n) : (evenL a (n + r)).drop n = List.replicate r 0 := by
  unfold evenL
  rw [List.take_of_length_le (l := a) (by omega), ← ha, List.drop_left]
  congr 1; omega
theorem pad_ok {w : World} {A : Option Addr} {n c r : Nat} {l : List UInt8} (h : Rd w A n (bys l)) (N : Int) (hN : N = ((n + r : Nat) : Int)) (hr : n + r ≤ 65535) :
    Calls Try.prog 13 #[.slice A n c, .int .i64 N] w fun e w' => ∃ A1 c1, e = .returned (.tuple #[.slice A1 (n + r) c1, .int .i64 0]) ∧ n + r ≤ c1 ∧ Rd w' A1 (n + r) (bys (evenL l (n + r))) ∧ Below w.heap.size w w' := by
  subst hN
  have hl : l.length = n := by have := h.1; simpa [bys_length] using this
  refine (pad_any h (by omega) _).mono fun e w' ⟨v, he, ho, hb⟩ => ?_
  have hs : 0 ≤ ((n + r : Nat) : Int) ∧ ((n + r : Nat) : Int) ≤ 65535 := by omega
  have hE : padE l ((n + r : Nat) : Int) = 0 := by unfold padE; rw [if_pos hs, if_pos (by omega)]
  have hV : padV l ((n + r : Nat) : Int) = evenL l (n + r) := by
    unfold padV evenL; rw [if_pos hs, if_pos (by omega), List.take_of_length_le (by omega)]; rfl
  rw [hE] at he
  rw [hV, evenL_length] at ho
  obtain ⟨A1, c1, rfl, hc1, _, _, _⟩ := own_form ho
  exact ⟨A1, c1, he, hc1, Rd.of_own ho, hb⟩
theorem any_zero (r : Nat) : (!(List.replicate r (0 : UInt8)).any (· != 0)) = true := by
  rw [Bool.not_eq_true', List.any_eq_false]
  intro x hx; rw [List.eq_of_mem_replicate hx]; simp
set_option maxRecDepth 100000 in
set_option maxHeartbeats 2000000 in
theorem padded_walk {w : World} {A B : Option Addr} {n m ca cb : Nat} {xs ys : List UInt8} {more : Int} (hx : Rd w A n (bys xs)) (hy : Rd w B m (bys ys)) (hn : n ≤ 140737488351232) (hca : n ≤ ca) (hmw : (Lit.int .i64 more).wf = true) :
    Calls Try.prog 8 #[.slice A n ca, .slice B m cb, .int .i64 more] w fun e w' => e = .returned (.bool true) ∧ Below w.heap.size w w' := by
  have hlx : xs.length = n := by have := hx.1; simpa [bys_length] using this
  have HX := Lib.hid hlx
  have R0 := Lib.hid (((Rds.nil w).snoc hx).snoc hy)
  clear hx hy hlx
  obtain ⟨i0, hi0, hz0, hz1, hz2⟩ := info_parts u8_info
  obtain ⟨r, hr⟩ := Int.eq_ofNat_of_zero_le (Int.emod_nonneg more (show (201 : Int) ≠ 0 by omega))
  have hr2 : r ≤ 200 := by have := Int.emod_lt_of_pos more (show (0 : Int) < 201 by omega); omega
  have HR := Lib.hid hr
  have HW := Lib.hid hmw
  clear hr hmw
  go_enter Try.func8, Try.ntmps8
  go_wp2_with fail
  refine (awake_any _).mono ?_
  rintro e w1 ⟨rfl, hb1⟩
  have R1 := Lib.hid (R0.out.below hb1)
  have H1 := Lib.hid hb1
  clear hb1
  by_cases h3 : 100 < n
  · have hd : decide ((100 : Int) < (n : Int)) = true := by simp; omega
    go_wp2
    go_ret
    exact ⟨rfl, H1.out⟩
  have hd : decide ((100 : Int) < (n : Int)) = false := by simp; omega
  go_wp2_with fail
  refine (even_ok (R1.out.get 1 rfl) n hn).mono ?_
  rintro e w2 ⟨B2, c2, rfl, hc2, hr2', hb2⟩
  have R2 := Lib.hid (R1.out.step hb2 hr2')
  have b_ : Below w.heap.size w w2 := below_base (by repeat (first | exact (H1).out | refine Below.alloc ?_ (by have := (H1).out.size; (try simp only [World.size_alloc]); omega) _)) hb2 (by have := (H1).out.size; (try simp only [World.size_alloc]); omega)
  have H2 := Lib.hid b_
  clear b_
  clear hb2 hr2'
  go_wp2_with fail
  refine (pick_any more 201 HW.out (by omega) (by omega)).mono ?_
  rintro e w' ⟨rfl, rfl⟩
  rw [HR.out]
  go_wp2_with fail
  refine (pad_ok (r := r) (R2.out.get 0 rfl) _ (by omega) (by omega)).mono ?_
  rintro e w3 ⟨A3, c3, rfl, hc3, hr3, hb3⟩
  have R3 := Lib.hid (R2.out.step hb3 hr3)
  have b_ : Below w.heap.size w w3 := below_base (by repeat (first | exact (H2).out | refine Below.alloc ?_ (by have := (H2).out.size; (try simp only [World.size_alloc]); omega) _)) hb3 (by have := (H2).out.size; (try simp only [World.size_alloc]); omega)
  have H3 := Lib.hid b_
  clear b_
  clear hb3 hr3
  go_wp2_with fail
  refine (pad_ok (r := r) (R3.out.get 2 rfl) _ (by omega) (by omega)).mono ?_
  rintro e w4 ⟨A4, c4, rfl, hc4, hr4, hb4⟩
  have R4 := Lib.hid (R3.out.step hb4 hr4)
  have b_ : Below w.heap.size w w4 := below_base (by repeat (first | exact (H3).out | refine Below.alloc ?_ (by have := (H3).out.size; (try simp only [World.size_alloc]); omega) _)) hb4 (by have := (H3).out.size; (try simp only [World.size_alloc]); omega)
  have H4 := Lib.hid b_
  clear b_
  clear hb4 hr4
  obtain ⟨A9, hA9, fA9⟩ := run_cut Try.underlying23 hi0 hz1 A3 (n + r) c3 n n rfl .i64 (by omega) hc3
  rw [Nat.add_sub_cancel_left] at hA9
  have hn3 : (n : Int) ≤ (c3 : Int) := by omega
  have hp1 := (R4.out.get 3 rfl).take_ (k := n) (by omega)
  rw [bys_take, evenL_take _ _ _ HX.out (by omega)] at hp1
  have hp2 := (R4.out.get 3 rfl).cut_at (k := n) (A' := A9) (by omega) (fun h => by
    obtain ⟨b, o, e, _, _⟩ := (R4.out.get 3 rfl).form (by omega)
    rw [fA9 h, e, map_add])
  rw [bys_drop, evenL_drop _ _ _ HX.out, Nat.add_sub_cancel_left] at hp2
  have HP := Lib.hid (And.intro hp1 hp2)
  clear hp1 hp2 fA9
  go_wp2_with fail
  refine (same_true HP.out.1 (R4.out.get 0 rfl)).mono ?_
  rintro e w' ⟨rfl, rfl⟩
  go_wp2_with fail
  refine (zero_any HP.out.2 (by omega)).mono ?_
  rintro e w' ⟨rfl, rfl⟩
  rw [any_zero]
  go_wp2_with fail
  refine (xor_ok (R4.out.get 0 rfl) (R4.out.get 2 rfl) hn hc2).mono ?_
  rintro e w5 ⟨A5, c5, rfl, hc5, hr5, hb5⟩
  have R5 := Lib.hid (R4.out.step hb5 hr5)
  have b_ : Below w.heap.size w w5 := below_base (by repeat (first | exact (H4).out | refine Below.alloc ?_ (by have := (H4).out.size; (try simp only [World.size_alloc]); omega) _)) hb5 (by have := (H4).out.size; (try simp only [World.size_alloc]); omega)
  have H5 := Lib.hid b_
  clear b_
  clear hb5 hr5
  go_wp2_with fail
  refine (xor_ok (R5.out.get 3 rfl) (R5.out.get 4 rfl) (by omega) hc4).mono ?_
  rintro e w6 ⟨A6, c6, rfl, hc6, hr6, hb6⟩
  have R6 := Lib.hid (R5.out.step hb6 hr6)
  have b_ : Below w.heap.size w w6 := below_base (by repeat (first | exact (H5).out | refine Below.alloc ?_ (by have := (H5).out.size; (try simp only [World.size_alloc]); omega) _)) hb6 (by have := (H5).out.size; (try simp only [World.size_alloc]); omega)
  have H6 := Lib.hid b_
  clear b_
  clear hb6 hr6
  go_wp2_with fail
  refine (pad_ok (r := r) (R6.out.get 5 rfl) _ (by omega) (by omega)).mono ?_
  rintro e w7 ⟨A7, c7, rfl, hc7, hr7, hb7⟩
  have R7 := Lib.hid (R6.out.step hb7 hr7)
  have b_ : Below w.heap.size w w7 := below_base (by repeat (first | exact (H6).out | refine Below.alloc ?_ (by have := (H6).out.size; (try simp only [World.size_alloc]); omega) _)) hb7 (by have := (H6).out.size; (try simp only [World.size_alloc]); omega)
  have H7 := Lib.hid b_
  clear b_
  clear hb7 hr7
  have q6 := R7.out.get 6 rfl
  rw [xorL_even _ _ n _ HX.out (evenL_length _ _) (by omega)] at q6
  have Q := Lib.hid q6
  clear q6
  go_wp2_with fail
  refine (same_true Q.out (R7.out.get 7 rfl)).mono ?_
  rintro e w' ⟨rfl, rfl⟩
  go_wp2
  go_ret
  exact ⟨rfl, H7.out⟩
theorem padded_stmt {w : World} {A B : Option Addr} {n m ca cb : Nat} {xs ys : List UInt8} {more : Int} (h1 : Rd w A n (bys xs) ∧ n ≤ ca ∧ n ≤ 140737488351232) (h2 : Rd w B m (bys ys) ∧ m ≤ cb ∧ m ≤ 140737488351232) (h3 : (Lit.int .i64 more).wf = true) :
    Calls Try.prog 8 #[.slice A n ca, .slice B m cb, .int .i64 more] w fun e w' => e = .returned (.bool true) ∧ Below w.heap.size w w' :=
  padded_walk h1.1 h2.1 h1.2.2 h1.2.1 h3
end Go.Proofs.Ytkhedjildlokoaa
