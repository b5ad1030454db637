/- XorsGroup: sums are those of a group in which each is its own opposite. -/
import Derived.Test.YtkhedjildlokoaaKnown08
namespace Go.Proofs.Ytkhedjildlokoaa
open Go.RowKit
set_option linter.unusedVariables false
theorem xor_ok {w : World} {n c c' : Nat} {A A' : Option Addr} {xs ys : List UInt8} (hx : Rd w A n (bys xs)) (hy : Rd w A' n (bys ys)) (hn : n ≤ 140737488351232) (hc' : n ≤ c') :
    Calls Try.prog 17 #[.slice A n c, .slice A' n c'] w fun e w' => ∃ A1 c1, e = .returned (.tuple #[.slice A1 n c1, .int .i64 0]) ∧ n ≤ c1 ∧ Rd w' A1 n (bys (xorL xs ys)) ∧ Below w.heap.size w w' := by
  have hlx : xs.length = n := by have := hx.1; simpa [bys_length] using this
  have hly : ys.length = n := by have := hy.1; simpa [bys_length] using this
  refine (xor_any hx hy hn hc').mono fun e w' ⟨v, he, ho, hb⟩ => ?_
  have hE : xorE xs ys = 0 := by unfold xorE; rw [if_pos (by omega)]
  have hV : xorV xs ys = xorL xs ys := by unfold xorV; rw [if_pos (by omega)]
  rw [hE] at he
  rw [hV, xorL_length _ _ (by omega), hlx] at ho
  obtain ⟨A1, c1, rfl, hc1, _, _, _⟩ := own_form ho
  exact ⟨A1, c1, he, hc1, Rd.of_own ho, hb⟩
theorem even_ok {w : World} {A : Option Addr} {n c : Nat} {l : List UInt8} (h : Rd w A n (bys l)) (N : Nat) (hN : N ≤ 140737488351232) :
    Calls Try.prog 23 #[.slice A n c, .int .i64 N] w fun e w' => ∃ A1 c1, e = .returned (.slice A1 N c1) ∧ N ≤ c1 ∧ Rd w' A1 N (bys (evenL l N)) ∧ Below w.heap.size w w' := by
  refine (even_any h N hN).mono fun e w' ⟨v, he, ho, hb⟩ => ?_
  obtain ⟨A1, c1, rfl, hc1, _, _, _⟩ := own_form ho
  exact ⟨A1, c1, he, hc1, Rd.of_own ho, hb⟩
set_option maxRecDepth 100000 in
set_option maxHeartbeats 2000000 in
theorem group_walk {w : World} {A B C : Option Addr} {n m k ca cb cc : Nat} {xs ys zs : List UInt8} (hx : Rd w A n (bys xs)) (hy : Rd w B m (bys ys)) (hz : Rd w C k (bys zs)) (hn : n ≤ 140737488351232) (hca : n ≤ ca) :
    Calls Try.prog 6 #[.slice A n ca, .slice B m cb, .slice C k cc] w fun e w' => e = .returned (.bool true) ∧ Below w.heap.size w w' := by
  have hlx : xs.length = n := by have := hx.1; simpa [bys_length] using this
  have HX := Lib.hid hlx
  have R0 := Lib.hid ((((Rds.nil w).snoc hx).snoc hy).snoc hz)
  clear hx hy hz hlx
  obtain ⟨i0, hi0, hz0, hz1, hz2⟩ := info_parts u8_info
  go_enter Try.func6, Try.ntmps6
  go_wp2_with fail
  refine (known_any _).mono ?_
  rintro e w1 ⟨rfl, hb1⟩
  have R1 := Lib.hid (R0.out.below hb1)
  have H1 := Lib.hid hb1
  clear hb1
  by_cases h3 : 300 < n
  · have hd : decide ((300 : Int) < (n : Int)) = true := by simp; omega
    go_wp2
    go_ret
    exact ⟨rfl, H1.out⟩
  have hd : decide ((300 : Int) < (n : Int)) = false := by simp; omega
  go_wp2_with fail
  refine (even_ok (R1.out.get 1 rfl) n hn).mono ?_
  rintro e w2 ⟨B2, c2, rfl, hc2, hr2, hb2⟩
  have R2 := Lib.hid (R1.out.step hb2 hr2)
  have b_ : Below w.heap.size w w2 := below_base (by repeat (first | exact (H1).out | refine Below.alloc ?_ (by have := (H1).out.size; (try simp only [World.size_alloc]); omega) _)) hb2 (by have := (H1).out.size; (try simp only [World.size_alloc]); omega)
  have H2 := Lib.hid b_
  clear b_
  clear hb2 hr2
  go_wp2_with fail
  refine (even_ok (R2.out.get 2 rfl) n hn).mono ?_
  rintro e w3 ⟨C3, c3, rfl, hc3, hr3, hb3⟩
  have R3 := Lib.hid (R2.out.step hb3 hr3)
  have b_ : Below w.heap.size w w3 := below_base (by repeat (first | exact (H2).out | refine Below.alloc ?_ (by have := (H2).out.size; (try simp only [World.size_alloc]); omega) _)) hb3 (by have := (H2).out.size; (try simp only [World.size_alloc]); omega)
  have H3 := Lib.hid b_
  clear b_
  clear hb3 hr3
  go_wp2_with fail
  refine (xor_ok (R3.out.get 0 rfl) (R3.out.get 3 rfl) hn hc2).mono ?_
  rintro e w4 ⟨A4, c4, rfl, hc4, hr4, hb4⟩
  have R4 := Lib.hid (R3.out.step hb4 hr4)
  have b_ : Below w.heap.size w w4 := below_base (by repeat (first | exact (H3).out | refine Below.alloc ?_ (by have := (H3).out.size; (try simp only [World.size_alloc]); omega) _)) hb4 (by have := (H3).out.size; (try simp only [World.size_alloc]); omega)
  have H4 := Lib.hid b_
  clear b_
  clear hb4 hr4
  go_wp2_with fail
  refine (xor_ok (R4.out.get 3 rfl) (R4.out.get 0 rfl) hn hca).mono ?_
  rintro e w5 ⟨A5, c5, rfl, hc5, hr5, hb5⟩
  have R5 := Lib.hid (R4.out.step hb5 hr5)
  have b_ : Below w.heap.size w w5 := below_base (by repeat (first | exact (H4).out | refine Below.alloc ?_ (by have := (H4).out.size; (try simp only [World.size_alloc]); omega) _)) hb5 (by have := (H4).out.size; (try simp only [World.size_alloc]); omega)
  have H5 := Lib.hid b_
  clear b_
  clear hb5 hr5
  go_wp2_with fail
  refine (xor_ok (R5.out.get 5 rfl) (R5.out.get 4 rfl) hn hc3).mono ?_
  rintro e w6 ⟨A6, c6, rfl, hc6, hr6, hb6⟩
  have R6 := Lib.hid (R5.out.step hb6 hr6)
  have b_ : Below w.heap.size w w6 := below_base (by repeat (first | exact (H5).out | refine Below.alloc ?_ (by have := (H5).out.size; (try simp only [World.size_alloc]); omega) _)) hb6 (by have := (H5).out.size; (try simp only [World.size_alloc]); omega)
  have H6 := Lib.hid b_
  clear b_
  clear hb6 hr6
  go_wp2_with fail
  refine (xor_ok (R6.out.get 3 rfl) (R6.out.get 4 rfl) hn hc3).mono ?_
  rintro e w7 ⟨A7, c7, rfl, hc7, hr7, hb7⟩
  have R7 := Lib.hid (R6.out.step hb7 hr7)
  have b_ : Below w.heap.size w w7 := below_base (by repeat (first | exact (H6).out | refine Below.alloc ?_ (by have := (H6).out.size; (try simp only [World.size_alloc]); omega) _)) hb7 (by have := (H6).out.size; (try simp only [World.size_alloc]); omega)
  have H7 := Lib.hid b_
  clear b_
  clear hb7 hr7
  go_wp2_with fail
  refine (xor_ok (R7.out.get 0 rfl) (R7.out.get 8 rfl) hn hc7).mono ?_
  rintro e w8 ⟨A8, c8, rfl, hc8, hr8, hb8⟩
  have R8 := Lib.hid (R7.out.step hb8 hr8)
  have b_ : Below w.heap.size w w8 := below_base (by repeat (first | exact (H7).out | refine Below.alloc ?_ (by have := (H7).out.size; (try simp only [World.size_alloc]); omega) _)) hb8 (by have := (H7).out.size; (try simp only [World.size_alloc]); omega)
  have H8 := Lib.hid b_
  clear b_
  clear hb8 hr8
  go_wp2_with fail
  refine (xor_ok (R8.out.get 5 rfl) (R8.out.get 3 rfl) hn hc2).mono ?_
  rintro e w9 ⟨A9, c9, rfl, hc9, hr9, hb9⟩
  have R9 := Lib.hid (R8.out.step hb9 hr9)
  have b_ : Below w.heap.size w w9 := below_base (by repeat (first | exact (H8).out | refine Below.alloc ?_ (by have := (H8).out.size; (try simp only [World.size_alloc]); omega) _)) hb9 (by have := (H8).out.size; (try simp only [World.size_alloc]); omega)
  have H9 := Lib.hid b_
  clear b_
  clear hb9 hr9
  go_wp2_with (at_make; refine wpList_make_full _ rfl _ _ 23 rfl w9.heap.size 5 i0 (.int .u8 0) 1 Try.underlying23 hi0 hz0 hz1 .i64 .i64 _ _ n rfl rfl rfl rfl (by rw [hz2]; omega) (by simp only [maxLen]; omega) (Nat.le_refl _) ?_; intro w10 hown hg; rw [zeros_bys] at hown; have HB := Lib.hid (And.intro hown (below_of_grownN hg)); clear hown hg)
  have R10 := Lib.hid (R9.out.step HB.out.2 (Rd.of_own HB.out.1))
  have hb10 := HB.out.2
  have b_ : Below w.heap.size w w10 := below_base (by repeat (first | exact (H9).out | refine Below.alloc ?_ (by have := (H9).out.size; (try simp only [World.size_alloc]); omega) _)) hb10 (by have := (H9).out.size; (try simp only [World.size_alloc]); omega)
  have H10 := Lib.hid b_
  clear b_
  clear hb10
  refine (xor_ok (R10.out.get 0 rfl) (R10.out.get 11 rfl) hn (Nat.le_refl _)).mono ?_
  rintro e w11 ⟨A11, c11, rfl, hc11, hr11, hb11⟩
  have R11 := Lib.hid (R10.out.step hb11 hr11)
  have b_ : Below w.heap.size w w11 := below_base (by repeat (first | exact (H10).out | refine Below.alloc ?_ (by have := (H10).out.size; (try simp only [World.size_alloc]); omega) _)) hb11 (by have := (H10).out.size; (try simp only [World.size_alloc]); omega)
  have H11 := Lib.hid b_
  clear b_
  clear hb11 hr11
  go_wp2_with fail
  have hle : (evenL ys n).length = n := evenL_length _ _
  have E1 : xorL (evenL ys n) xs = xorL xs (evenL ys n) := xorL_comm _ _
  have E2 := xorL_assoc xs (evenL ys n) (evenL zs n)
  have E3 : xorL (xorL xs (evenL ys n)) (evenL ys n) = xs := xorL_back _ _ (by rw [HX.out, hle])
  have E4 : xorL xs (List.replicate n 0) = xs := xorL_zero _ _ HX.out
  have E5 : (!(xorL xs (evenL ys n)).any (· != 0)) = (xs == evenL ys n) := xorL_zero_iff _ _ (by rw [HX.out, hle])
  have r6 := R11.out.get 6 rfl
  rw [E1] at r6
  have r7 := R11.out.get 7 rfl
  rw [E2] at r7
  have r10 := R11.out.get 10 rfl
  rw [E3] at r10
  have r12 := R11.out.get 12 rfl
  rw [E4] at r12
  have Q := Lib.hid (And.intro r6 (And.intro r7 (And.intro r10 (And.intro r12 E5))))
  clear r6 r7 r10 r12 E1 E2 E3 E4 E5 hle
  refine (same_true (R11.out.get 5 rfl) Q.out.1).mono ?_
  rintro e w' ⟨rfl, rfl⟩
  go_wp2_with fail
  refine (same_true Q.out.2.1 (R11.out.get 9 rfl)).mono ?_
  rintro e w' ⟨rfl, rfl⟩
  go_wp2_with fail
  refine (same_true Q.out.2.2.1 (R11.out.get 0 rfl)).mono ?_
  rintro e w' ⟨rfl, rfl⟩
  go_wp2_with fail
  refine (same_true Q.out.2.2.2.1 (R11.out.get 0 rfl)).mono ?_
  rintro e w' ⟨rfl, rfl⟩
  go_wp2_with fail
  refine (zero_any (R11.out.get 5 rfl) hn).mono ?_
  rintro e w' ⟨rfl, rfl⟩
  rw [Q.out.2.2.2.2]
  go_wp2_with fail
  refine (same_any (R11.out.get 0 rfl) (R11.out.get 3 rfl)).mono ?_
  rintro e w' ⟨rfl, rfl⟩
  have hq : ((xs == evenL ys n) == (xs == evenL ys n)) = true := by simp
  go_wp2
  go_ret
  exact ⟨rfl, H11.out⟩
theorem group_stmt {w : World} {A B C : Option Addr} {n m k ca cb cc : Nat} {xs ys zs : List UInt8} (h1 : Rd w A n (bys xs) ∧ n ≤ ca ∧ n ≤ 140737488351232) (h2 : Rd w B m (bys ys) ∧ m ≤ cb ∧ m ≤ 140737488351232) (h3 : Rd w C k (bys zs) ∧ k ≤ cc ∧ k ≤ 140737488351232) :
    Calls Try.prog 6 #[.slice A n ca, .slice B m cb, .slice C k cc] w fun e w' => e = .returned (.bool true) ∧ Below w.heap.size w w' :=
  group_walk h1.1 h2.1 h3.1 h1.2.2 h1.2.1
end Go.Proofs.Ytkhedjildlokoaa
