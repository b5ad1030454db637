/- Chapter 18: joins, sums, awake, BlockKnown. -/
import Derived.Test.YtdpmkijkniobpaaRc18
namespace Go.Proofs.Ytdpmkijkniobpaa
open Go.RowKit
set_option linter.unusedVariables false
theorem joins_any {w : World} {A B : Option Addr} {n c m d : Nat} {xss : List (List UInt8)} {want : List UInt8} (h : Syms w A n xss) (hn : n ≤ 5864062014634) (z : Int) (hw : Rd w B m (bys want)) (err : Int) :
    Calls Try.prog 26 #[.slice A n c, .int .i64 z, .slice B m d, .int .i64 err] w fun e w' => e = .returned (.bool (jnV xss z == want && jnE xss z == err)) ∧ Below w.heap.size w w' := by
  have H := Lib.hid (And.intro (join_any (c := c) h hn z) hw)
  clear h hw
  go_enter Try.func26, Try.ntmps26
  go_wp2_with fail
  refine H.out.1.mono ?_
  rintro e w1 ⟨v, rfl, ho, hb⟩
  obtain ⟨A1, c1, rfl, _⟩ := own_form ho
  have H1 := Lib.hid (And.intro (Rd.of_own ho) (And.intro (H.out.2.below hb) hb))
  clear ho hb
  go_wp2_with fail
  refine (same_any H1.out.1 H1.out.2.1).mono ?_
  rintro e w2 ⟨rfl, rfl⟩
  cases hq : (jnV xss z == want) with
  | true =>
    have HQ := Lib.hid hq
    clear hq
    go_wp2
    go_ret
    exact ⟨ret_bool (by rw [HQ.out]; rfl), H1.out.2.2⟩
  | false =>
    have HQ := Lib.hid hq
    clear hq
    go_wp2
    go_ret
    exact ⟨ret_bool (by rw [HQ.out]; rfl), H1.out.2.2⟩
theorem sums_any {w : World} {A B C : Option Addr} {n c m d q r : Nat} {xss : List (List UInt8)} {want : List UInt8} {set : List Int} (h : Syms w A n xss) (hn : n ≤ 5864062014634) (hw : Rd w B m (bys want)) (err : Int) (hs : Rd w C q (nums set)) (hq : q ≤ 1000000) :
    Calls Try.prog 27 #[.slice A n c, .slice B m d, .int .i64 err, .slice C q r] w fun e w' => e = .returned (.bool (smV xss set == want && smE xss set == err)) ∧ Below w.heap.size w w' := by
  have H := Lib.hid (And.intro (sum_any (c := c) (d := r) h hn hs hq) hw)
  clear h hw hs
  go_enter Try.func27, Try.ntmps27
  go_wp2_with fail
  refine H.out.1.mono ?_
  rintro e w1 ⟨v, rfl, ho, hb⟩
  obtain ⟨A1, c1, rfl, _⟩ := own_form ho
  have H1 := Lib.hid (And.intro (Rd.of_own ho) (And.intro (H.out.2.below hb) hb))
  clear ho hb
  go_wp2_with fail
  refine (same_any H1.out.1 H1.out.2.1).mono ?_
  rintro e w2 ⟨rfl, rfl⟩
  cases hq' : (smV xss set == want) with
  | true =>
    have HQ := Lib.hid hq'
    clear hq'
    go_wp2
    go_ret
    exact ⟨ret_bool (by rw [HQ.out]; rfl), H1.out.2.2⟩
  | false =>
    have HQ := Lib.hid hq'
    clear hq'
    go_wp2
    go_ret
    exact ⟨ret_bool (by rw [HQ.out]; rfl), H1.out.2.2⟩
theorem joins_yes {w : World} {A B : Option Addr} {n c m d : Nat} (xss : List (List UInt8)) (want : List UInt8) {z err : Int} (h : Syms w A n xss) (hn : n ≤ 5864062014634) (hw : Rd w B m (bys want)) (e1 : (jnV xss z == want && jnE xss z == err) = true) :
    Calls Try.prog 26 #[.slice A n c, .int .i64 z, .slice B m d, .int .i64 err] w fun e w' => e = .returned (.bool true) ∧ Below w.heap.size w w' :=
  (joins_any h hn z hw err).mono fun e w' ⟨h1, h2⟩ => ⟨by rw [h1, e1], h2⟩
theorem sums_yes {w : World} {A B C : Option Addr} {n c m d q r : Nat} (xss : List (List UInt8)) (want : List UInt8) (set : List Int) {err : Int} (h : Syms w A n xss) (hn : n ≤ 5864062014634) (hw : Rd w B m (bys want)) (hs : Rd w C q (nums set)) (hq : q ≤ 1000000) (e1 : (smV xss set == want && smE xss set == err) = true) :
    Calls Try.prog 27 #[.slice A n c, .slice B m d, .int .i64 err, .slice C q r] w fun e w' => e = .returned (.bool true) ∧ Below w.heap.size w w' :=
  (sums_any h hn hw err hs hq).mono fun e w' ⟨h1, h2⟩ => ⟨by rw [h1, e1], h2⟩
theorem same_yes {w : World} {A A' : Option Addr} {n n' c c' : Nat} (xss yss : List (List UInt8)) (h : Syms w A n xss) (h' : Syms w A' n' yss) (hn : n ≤ 5864062014634) (e1 : (xss == yss) = true) :
    Calls Try.prog 12 #[.slice A n c, .slice A' n' c'] w fun e w' => e = .returned (.bool true) ∧ Below w.heap.size w w' :=
  (sameSymbols_any h h' hn).mono fun e w' ⟨h1, h2⟩ => ⟨by rw [h1, e1], h2⟩
theorem ToldL.syms {w w' : World} {V : List (List UInt8)} {v : Value} {vs : List Value} (ho : w'.ownsRow w.heap.size 22 1 v V.length vs) (hr : ORows w' w.heap.size vs V) : ∃ A c, v = .slice A V.length c ∧ Syms w' A V.length V := by
  obtain ⟨A, c, rfl, _⟩ := own_form ho
  exact ⟨A, c, rfl, vs, Rd.of_own ho, hr.rows⟩
set_option maxRecDepth 100000 in
set_option maxHeartbeats 1600000 in
theorem awake_any {w : World} : Calls Try.prog 8 #[] w fun e w' => e = .returned (.bool true) ∧ Below w.heap.size w w' := by
  have H0 := Lib.hid (Below.refl w.heap.size w)
  go_enter Try.func8, Try.ntmps8
  go_wp2_with fail
  refine (cut_any (data := [1, 2, 3]) (by repeat (first | exact Rd.lit _ _ _ _ (by simp) _ rfl _ rfl | refine Rd.alloc ?_ _)) (by decide) (by decide) 2 2 (by decide) (by decide)).mono ?_
  rintro e w1 ⟨v1, vs1, rfl, ho1, hr1, hb1⟩
  have S1 := Lib.hid ((show Syms _ (some ⟨w.heap.size + 1 + 1, 0, none⟩) 2 [[1, 2], [3, 0]] from ⟨_, (by repeat (first | exact Rd.lit _ _ _ _ (by simp) _ rfl _ rfl | refine Rd.alloc ?_ _)), Rows_.cons (by repeat (first | exact Rd.lit _ _ _ _ (by simp) _ rfl _ rfl | refine Rd.alloc ?_ _)) (by decide) (by decide) (Rows_.cons (by repeat (first | exact Rd.lit _ _ _ _ (by simp) _ rfl _ rfl | refine Rd.alloc ?_ _)) (by decide) (by decide) (Rows_.nil _))⟩).below hb1)
  have b_ : Below w.heap.size w w1 := below_base (by repeat (first | exact (H0).out | refine Below.alloc ?_ (by have := (H0).out.size; (try simp only [World.size_alloc]); omega) _)) hb1 (by have := (H0).out.size; (try simp only [World.size_alloc]); omega)
  have H1 := Lib.hid b_
  clear b_
  obtain ⟨A1, c1, rfl, hs1⟩ := ToldL.syms ho1 hr1
  have T1 := Lib.hid hs1
  clear ho1 hr1 hb1 hs1
  rw [show cutE [1, 2, 3] 2 2 = 0 from by decide]
  go_wp2_with fail
  refine (same_yes _ [[1, 2], [3, 0]] T1.out S1.out (by decide) (by decide)).mono ?_
  rintro e w2 ⟨rfl, hb2⟩
  have S2 := Lib.hid (S1.out.below hb2)
  have b_ : Below w.heap.size w w2 := below_base (by repeat (first | exact (H1).out | refine Below.alloc ?_ (by have := (H1).out.size; (try simp only [World.size_alloc]); omega) _)) hb2 (by have := (H1).out.size; (try simp only [World.size_alloc]); omega)
  have H2 := Lib.hid b_
  clear b_
  clear hb2
  go_wp2_with fail
  refine (joins_yes [[1, 2], [3, 0]] [1, 2, 3] (S2.out.below ((Below.refl _ _).alloc (Nat.le_refl _) _)) (by decide) (by repeat (first | exact Rd.lit _ _ _ _ (by simp) _ rfl _ rfl | refine Rd.alloc ?_ _)) (by decide)).mono ?_
  rintro e w3 ⟨rfl, hb3⟩
  have b_ : Below w.heap.size w w3 := below_base (by repeat (first | exact (H2).out | refine Below.alloc ?_ (by have := (H2).out.size; (try simp only [World.size_alloc]); omega) _)) hb3 (by have := (H2).out.size; (try simp only [World.size_alloc]); omega)
  have H3 := Lib.hid b_
  clear b_
  clear hb3
  go_wp2_with fail
  refine (sums_yes [[1, 2], [3, 0], [4, 4]] [5, 6] [0, 2] ⟨_, (by repeat (first | exact Rd.lit _ _ _ _ (by simp) _ rfl _ rfl | refine Rd.alloc ?_ _)), Rows_.cons (by repeat (first | exact Rd.lit _ _ _ _ (by simp) _ rfl _ rfl | refine Rd.alloc ?_ _)) (by decide) (by decide) (Rows_.cons (by repeat (first | exact Rd.lit _ _ _ _ (by simp) _ rfl _ rfl | refine Rd.alloc ?_ _)) (by decide) (by decide) (Rows_.cons (by repeat (first | exact Rd.lit _ _ _ _ (by simp) _ rfl _ rfl | refine Rd.alloc ?_ _)) (by decide) (by decide) (Rows_.nil _)))⟩ (by decide) (by repeat (first | exact Rd.lit _ _ _ _ (by simp) _ rfl _ rfl | refine Rd.alloc ?_ _)) (by repeat (first | exact Rd.lit _ _ _ _ (by simp) _ rfl _ rfl | refine Rd.alloc ?_ _)) (by decide) (by decide)).mono ?_
  rintro e w4 ⟨rfl, hb4⟩
  have b_ : Below w.heap.size w w4 := below_base (by repeat (first | exact (H3).out | refine Below.alloc ?_ (by have := (H3).out.size; (try simp only [World.size_alloc]); omega) _)) hb4 (by have := (H3).out.size; (try simp only [World.size_alloc]); omega)
  have H4 := Lib.hid b_
  clear b_
  clear hb4
  go_wp2
  go_ret
  exact ⟨rfl, H4.out⟩
set_option maxRecDepth 100000 in
set_option maxHeartbeats 3200000 in
/-- artesianlaw18.BlockKnown -/
theorem blockKnown_any {w : World} : Calls Try.prog 5 #[] w fun e w' => e = .returned (.bool true) ∧ Below w.heap.size w w' := by
  have H0 := Lib.hid (Below.refl w.heap.size w)
  go_enter Try.func5, Try.ntmps5
  go_wp2_with fail
  refine (cut_any (data := []) (Rd.nil _ _) (by decide) (by decide) 2 1 (by decide) (by decide)).mono ?_
  rintro e w1 ⟨v1, vs1, rfl, ho1, hr1, hb1⟩
  have b_ : Below w.heap.size w w1 := below_base (by repeat (first | exact (H0).out | refine Below.alloc ?_ (by have := (H0).out.size; (try simp only [World.size_alloc]); omega) _)) hb1 (by have := (H0).out.size; (try simp only [World.size_alloc]); omega)
  have H1 := Lib.hid b_
  clear b_
  obtain ⟨A1, c1, rfl, hs1⟩ := ToldL.syms ho1 hr1
  have T1 := Lib.hid hs1
  clear ho1 hr1 hb1 hs1
  rw [show cutE [] 2 1 = 0 from by decide]
  go_wp2_with fail
  refine (cut_any (data := [1, 2, 3]) (by repeat (first | exact Rd.lit _ _ _ _ (by simp) _ rfl _ rfl | refine Rd.alloc ?_ _)) (by decide) (by decide) 1 2 (by decide) (by decide)).mono ?_
  rintro e w2 ⟨v2, vs2, rfl, _, _, hb2⟩
  have T2 := Lib.hid ((T1.out.below ((Below.refl _ _).alloc (Nat.le_refl _) _)).below hb2)
  have b_ : Below w.heap.size w w2 := below_base (by repeat (first | exact (H1).out | refine Below.alloc ?_ (by have := (H1).out.size; (try simp only [World.size_alloc]); omega) _)) hb2 (by have := (H1).out.size; (try simp only [World.size_alloc]); omega)
  have H2 := Lib.hid b_
  clear b_
  clear hb2
  rw [show cutE [1, 2, 3] 1 2 = 4 from by decide]
  go_wp2_with fail
  refine (cut_any (data := [1]) (by repeat (first | exact Rd.lit _ _ _ _ (by simp) _ rfl _ rfl | refine Rd.alloc ?_ _)) (by decide) (by decide) 0 1 (by decide) (by decide)).mono ?_
  rintro e w3 ⟨v3, vs3, rfl, _, _, hb3⟩
  have T3 := Lib.hid ((T2.out.below ((Below.refl _ _).alloc (Nat.le_refl _) _)).below hb3)
  have b_ : Below w.heap.size w w3 := below_base (by repeat (first | exact (H2).out | refine Below.alloc ?_ (by have := (H2).out.size; (try simp only [World.size_alloc]); omega) _)) hb3 (by have := (H2).out.size; (try simp only [World.size_alloc]); omega)
  have H3 := Lib.hid b_
  clear b_
  clear hb3
  rw [show cutE [1] 0 1 = 3 from by decide]
  go_wp2_with fail
  refine (same_yes _ [[0], [0]] (T3.out.below ((((((Below.refl _ _).alloc (Nat.le_refl _) _).alloc (by simp only [World.size_alloc]; omega) _).alloc (by simp only [World.size_alloc]; omega) _).alloc (by simp only [World.size_alloc]; omega) _).alloc (by simp only [World.size_alloc]; omega) _)) ⟨_, (by repeat (first | exact Rd.lit _ _ _ _ (by simp) _ rfl _ rfl | refine Rd.alloc ?_ _)), Rows_.cons (Rd.alloc (Rd.alloc (Rd.lit _ _ _ _ (by simp) _ rfl _ rfl) _) _) (by decide) (by decide) (Rows_.cons (Rd.alloc (Rd.lit _ _ _ _ (by simp) _ rfl _ rfl) _) (by decide) (by decide) (Rows_.nil _))⟩ (by decide) (by decide)).mono ?_
  rintro e w4 ⟨rfl, hb4⟩
  have O4 := Lib.hid ((show Syms _ (some ⟨w3.heap.size + 1, 0, none⟩) 1 [[1, 2]] from ⟨_, (by repeat (first | exact Rd.lit _ _ _ _ (by simp) _ rfl _ rfl | refine Rd.alloc ?_ _)), Rows_.cons (by repeat (first | exact Rd.lit _ _ _ _ (by simp) _ rfl _ rfl | refine Rd.alloc ?_ _)) (by decide) (by decide) (Rows_.nil _)⟩).below hb4)
  have b_ : Below w.heap.size w w4 := below_base (by repeat (first | exact (H3).out | refine Below.alloc ?_ (by have := (H3).out.size; (try simp only [World.size_alloc]); omega) _)) hb4 (by have := (H3).out.size; (try simp only [World.size_alloc]); omega)
  have H4 := Lib.hid b_
  clear b_
  clear hb4
  go_wp2_with fail
  refine (joins_yes [[1, 2], [3, 0]] [] ⟨_, (by repeat (first | exact Rd.lit _ _ _ _ (by simp) _ rfl _ rfl | refine Rd.alloc ?_ _)), Rows_.cons (by repeat (first | exact Rd.lit _ _ _ _ (by simp) _ rfl _ rfl | refine Rd.alloc ?_ _)) (by decide) (by decide) (Rows_.cons (by repeat (first | exact Rd.lit _ _ _ _ (by simp) _ rfl _ rfl | refine Rd.alloc ?_ _)) (by decide) (by decide) (Rows_.nil _))⟩ (by decide) (Rd.nil _ _) (by decide)).mono ?_
  rintro e w5 ⟨rfl, hb5⟩
  have O5 := Lib.hid ((O4.out.below ((((Below.refl _ _).alloc (Nat.le_refl _) _).alloc (by simp only [World.size_alloc]; omega) _).alloc (by simp only [World.size_alloc]; omega) _)).below hb5)
  have b_ : Below w.heap.size w w5 := below_base (by repeat (first | exact (H4).out | refine Below.alloc ?_ (by have := (H4).out.size; (try simp only [World.size_alloc]); omega) _)) hb5 (by have := (H4).out.size; (try simp only [World.size_alloc]); omega)
  have H5 := Lib.hid b_
  clear b_
  clear hb5
  go_wp2_with fail
  refine (joins_yes [[1, 2], [3]] [] ⟨_, (by repeat (first | exact Rd.lit _ _ _ _ (by simp) _ rfl _ rfl | refine Rd.alloc ?_ _)), Rows_.cons (by repeat (first | exact Rd.lit _ _ _ _ (by simp) _ rfl _ rfl | refine Rd.alloc ?_ _)) (by decide) (by decide) (Rows_.cons (by repeat (first | exact Rd.lit _ _ _ _ (by simp) _ rfl _ rfl | refine Rd.alloc ?_ _)) (by decide) (by decide) (Rows_.nil _))⟩ (by decide) (Rd.nil _ _) (by decide)).mono ?_
  rintro e w6 ⟨rfl, hb6⟩
  have O6 := Lib.hid ((O5.out.below ((((Below.refl _ _).alloc (Nat.le_refl _) _).alloc (by simp only [World.size_alloc]; omega) _).alloc (by simp only [World.size_alloc]; omega) _)).below hb6)
  have b_ : Below w.heap.size w w6 := below_base (by repeat (first | exact (H5).out | refine Below.alloc ?_ (by have := (H5).out.size; (try simp only [World.size_alloc]); omega) _)) hb6 (by have := (H5).out.size; (try simp only [World.size_alloc]); omega)
  have H6 := Lib.hid b_
  clear b_
  clear hb6
  go_wp2_with fail
  refine (joins_yes [] [] ⟨[], Rd.nil _ _, Rows_.nil _⟩ (by decide) (Rd.nil _ _) (by decide)).mono ?_
  rintro e w7 ⟨rfl, hb7⟩
  have O7 := Lib.hid (O6.out.below hb7)
  have b_ : Below w.heap.size w w7 := below_base (by repeat (first | exact (H6).out | refine Below.alloc ?_ (by have := (H6).out.size; (try simp only [World.size_alloc]); omega) _)) hb7 (by have := (H6).out.size; (try simp only [World.size_alloc]); omega)
  have H7 := Lib.hid b_
  clear b_
  clear hb7
  go_wp2_with fail
  refine awake_any.mono ?_
  rintro e w8 ⟨rfl, hb8⟩
  have O8 := Lib.hid (O7.out.below hb8)
  have b_ : Below w.heap.size w w8 := below_base (by repeat (first | exact (H7).out | refine Below.alloc ?_ (by have := (H7).out.size; (try simp only [World.size_alloc]); omega) _)) hb8 (by have := (H7).out.size; (try simp only [World.size_alloc]); omega)
  have H8 := Lib.hid b_
  clear b_
  clear hb8
  go_wp2_with fail
  refine (sums_yes [[1, 2]] [] [0, 0] (O8.out.below ((Below.refl _ _).alloc (Nat.le_refl _) _)) (by decide) (Rd.nil _ _) (by repeat (first | exact Rd.lit _ _ _ _ (by simp) _ rfl _ rfl | refine Rd.alloc ?_ _)) (by decide) (by decide)).mono ?_
  rintro e w9 ⟨rfl, hb9⟩
  have O9 := Lib.hid ((O8.out.below ((Below.refl _ _).alloc (Nat.le_refl _) _)).below hb9)
  have b_ : Below w.heap.size w w9 := below_base (by repeat (first | exact (H8).out | refine Below.alloc ?_ (by have := (H8).out.size; (try simp only [World.size_alloc]); omega) _)) hb9 (by have := (H8).out.size; (try simp only [World.size_alloc]); omega)
  have H9 := Lib.hid b_
  clear b_
  clear hb9
  go_wp2_with fail
  refine (sums_yes [[1, 2]] [] [1] (O9.out.below ((Below.refl _ _).alloc (Nat.le_refl _) _)) (by decide) (Rd.nil _ _) (by repeat (first | exact Rd.lit _ _ _ _ (by simp) _ rfl _ rfl | refine Rd.alloc ?_ _)) (by decide) (by decide)).mono ?_
  rintro e w10 ⟨rfl, hb10⟩
  have O10 := Lib.hid ((O9.out.below ((Below.refl _ _).alloc (Nat.le_refl _) _)).below hb10)
  have b_ : Below w.heap.size w w10 := below_base (by repeat (first | exact (H9).out | refine Below.alloc ?_ (by have := (H9).out.size; (try simp only [World.size_alloc]); omega) _)) hb10 (by have := (H9).out.size; (try simp only [World.size_alloc]); omega)
  have H10 := Lib.hid b_
  clear b_
  clear hb10
  go_wp2_with fail
  refine (sums_yes [[1, 2]] [] [] O10.out (by decide) (Rd.nil _ _) (Rd.nil _ _) (by decide) (by decide)).mono ?_
  rintro e w11 ⟨rfl, hb11⟩
  have b_ : Below w.heap.size w w11 := below_base (by repeat (first | exact (H10).out | refine Below.alloc ?_ (by have := (H10).out.size; (try simp only [World.size_alloc]); omega) _)) hb11 (by have := (H10).out.size; (try simp only [World.size_alloc]); omega)
  have H11 := Lib.hid b_
  clear b_
  clear hb11
  go_wp2
  go_ret
  exact ⟨rfl, H11.out⟩
theorem blockKnown_walk (w : World) : Calls Try.prog 5 #[] w fun e w' => e = .returned (.bool true) ∧ Below w.heap.size w w' := blockKnown_any
end Go.Proofs.Ytdpmkijkniobpaa
