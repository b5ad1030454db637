/- GraphKnown: its walk. -/
import Derived.Test.YtcgcbajgclkmkaaAk20
namespace Go.Proofs.Ytcgcbajgclkmkaa
open Go.RowKit
set_option linter.unusedVariables false
section
variable {w0 w w1 w' : World} {base G : Nat} {kn : List Bool} {sets : List (List Int)} {most : Int}
theorem adds_yes (h : GE w0 w1 G kn sets most) (hb : Below w1.heap.size w1 w) {A : Option Addr} {n c : Nat} (l : List Int) {x y z : Int} (sets' : List (List Int)) (hr : Rd w A n (nums l)) (hA : ∀ a, A = some a → w1.heap.size ≤ a.block) (hn : n ≤ 1000000) (hs : sets.length < 100000) (e1 : adR kn sets most l = (x, y, z)) (e2 : adS kn sets most l = sets') :
    Calls Try.prog 9 #[.pointer (some ⟨G, 0, none⟩), .int .i64 x, .int .i64 y, .int .i64 z, .slice A n c] w fun e w' => e = .returned (.bool true) ∧ GE w0 w' G kn sets' most := by
  refine (adds_any h hb hr hA hn hs x y z).mono ?_
  rintro e w' ⟨rfl, h1, _⟩
  rw [e2] at h1
  exact ⟨ret_bool (by rw [e1]; simp), h1⟩
theorem takes_yes (h : GE w0 w1 G kn sets most) (hb : Below w1.heap.size w1 w) {A : Option Addr} {n c : Nat} (l : List Int) {x z : Int} (kn' : List Bool) (hr : Rd w A n (nums l)) (hA : ∀ a, A = some a → w1.heap.size ≤ a.block) (hn : n ≤ 1000000) (e1 : tkE kn x = z) (e2 : tkL kn sets x = l) (e3 : tkK kn x = kn') :
    Calls Try.prog 10 #[.pointer (some ⟨G, 0, none⟩), .int .i64 x, .int .i64 z, .slice A n c] w fun e w' => e = .returned (.bool true) ∧ GE w0 w' G kn' sets most := by
  refine (takes_any h hb hr hA hn x z).mono ?_
  rintro e w' ⟨rfl, h1, _⟩
  rw [e3] at h1
  exact ⟨ret_bool (by rw [e1, e2]; simp), h1⟩
theorem rests_yes (h : GE w0 w G kn sets most) {A : Option Addr} {n c : Nat} (l : List Int) {x z : Int} (hr : Rd w A n (nums l)) (hn : n ≤ 1000000) (e1 : rsE sets x = z) (e2 : rsL kn sets x = l) :
    Calls Try.prog 13 #[.pointer (some ⟨G, 0, none⟩), .int .i64 x, .int .i64 z, .slice A n c] w fun e w' => e = .returned (.bool true) ∧ GE w0 w' G kn sets most := by
  refine (rests_any h hr hn x z).mono ?_
  rintro e w' ⟨rfl, h1, _⟩
  exact ⟨ret_bool (by rw [e1, e2]; simp), h1⟩
theorem waits_yes (h : GE w0 w G kn sets most) {A : Option Addr} {n c : Nat} (l : List Int) {x : Int} (hr : Rd w A n (nums l)) (hn : n ≤ 1000000) (e1 : owE kn x = 0) (e2 : owL kn sets x = l) :
    Calls Try.prog 31 #[.pointer (some ⟨G, 0, none⟩), .int .i64 x, .slice A n c] w fun e w' => e = .returned (.bool true) ∧ GE w0 w' G kn sets most := by
  refine (waits_any h hr hn x).mono ?_
  rintro e w' ⟨rfl, h1, _⟩
  exact ⟨ret_bool (by rw [e1, e2]; simp), h1⟩
theorem edges_ge (h : GE w0 w G kn sets most) : Calls Try.prog 11 #[.pointer (some ⟨G, 0, none⟩)] w fun e w' => e = .returned (.int .i64 (edg kn sets : Nat)) ∧ w = w' := by
  obtain ⟨tag, L, h1, _⟩ := h; exact edges_gr h1
theorem unknown_ge (h : GE w0 w G kn sets most) : Calls Try.prog 12 #[.pointer (some ⟨G, 0, none⟩)] w fun e w' => e = .returned (.int .i64 (unk kn : Nat)) ∧ w = w' := by
  obtain ⟨tag, L, h1, _⟩ := h; exact unknown_gr h1
theorem packets_ge (h : GE w0 w G kn sets most) : Calls Try.prog 27 #[.pointer (some ⟨G, 0, none⟩)] w fun e w' => e = .returned (.int .i64 (sets.length : Nat)) ∧ w = w' := by
  obtain ⟨tag, L, h1, _⟩ := h; exact packets_gr h1
end
theorem al1 (w : World) (o : Obj) : Below w.heap.size w (w.alloc o) := (Below.refl _ _).alloc (Nat.le_refl _) o
theorem at_new {w : World} : ∀ a, some (⟨w.heap.size, 0, none⟩ : Addr) = some a → w.heap.size ≤ a.block := fun a ha => by injection ha with ha; subst ha; exact Nat.le_refl _
theorem at_nil {w : World} : ∀ a, (none : Option Addr) = some a → w.heap.size ≤ a.block := fun a ha => by cases ha
def k3 : List Bool := [false, false, false]
theorem new_ok {w : World} {k : Nat} {most : Int} (h : ¬ bad k most) (kn : List Bool) (hk : List.replicate k false = kn) : Calls Try.prog 14 #[.int .i64 k, .int .i64 most] w fun e w' => ∃ G, e = .returned (.tuple #[.pointer (some ⟨G, 0, none⟩), .int .i64 0]) ∧ GE w w' G kn [] most := by
  refine (new_gr k most).mono ?_
  intro e w' h1
  unfold NgrPost at h1
  rw [if_neg h, Int.toNat_natCast, hk] at h1
  obtain ⟨G, tag, L, rfl, h1, h2⟩ := h1
  exact ⟨G, rfl, GE.new h2 h1⟩
theorem new_no {w : World} {k most : Int} (h : bad k most) : Calls Try.prog 14 #[.int .i64 k, .int .i64 most] w fun e w' => e = .returned (.tuple #[.pointer none, .int .i64 3]) ∧ w' = w := by
  refine (new_gr k most).mono ?_
  intro e w' h1
  unfold NgrPost at h1
  rw [if_pos h] at h1
  exact h1
set_option maxRecDepth 100000 in
set_option maxHeartbeats 1600000 in
theorem three_any {w : World} : Calls Try.prog 8 #[] w fun e w' => ∃ G, e = .returned (.pointer (some ⟨G, 0, none⟩)) ∧ GE w w' G k3 [[0, 1], [1, 2], [2]] 9 := by
  go_enter Try.func8, Try.ntmps8
  go_wp2_with fail
  refine (new_ok (k := 3) (most := 9) (by decide) k3 rfl).mono ?_
  rintro e w1 ⟨G, rfl, h1⟩
  have H1 := Lib.hid h1
  clear h1
  go_wp2_with fail
  refine (adds_yes H1.out (al1 _ _) [0, 1] [[0, 1]] (Rd.lit _ _ _ _ rfl 2 rfl _ rfl) at_new (by omega) (by decide) (by decide) (by decide)).mono ?_
  rintro e w2 ⟨rfl, h2⟩
  have H2 := Lib.hid h2
  clear h2 H1
  go_wp2_with fail
  refine (adds_yes H2.out (al1 _ _) [1, 2] [[0, 1], [1, 2]] (Rd.lit _ _ _ _ rfl 2 rfl _ rfl) at_new (by omega) (by decide) (by decide) (by decide)).mono ?_
  rintro e w3 ⟨rfl, h3⟩
  have H3 := Lib.hid h3
  clear h3 H2
  go_wp2_with fail
  refine (adds_yes H3.out (al1 _ _) [2] [[0, 1], [1, 2], [2]] (Rd.lit _ _ _ _ rfl 1 rfl _ rfl) at_new (by omega) (by decide) (by decide) (by decide)).mono ?_
  rintro e w4 ⟨rfl, h4⟩
  have H4 := Lib.hid h4
  clear h4 H3
  go_wp2
  go_ret
  exact ⟨G, rfl, H4.out⟩
set_option maxRecDepth 100000 in
set_option maxHeartbeats 1600000 in
theorem awake_any {w : World} : Calls Try.prog 15 #[] w fun e w' => e = .returned (.bool true) ∧ Below w.heap.size w w' := by
  go_enter Try.func15, Try.ntmps15
  go_wp2_with fail
  refine three_any.mono ?_
  rintro e w1 ⟨G, rfl, h1⟩
  have H1 := Lib.hid h1
  clear h1
  go_wp2_with fail
  refine (takes_yes H1.out (al1 _ _) [1] [false, false, true] (Rd.lit _ _ _ _ rfl 1 rfl _ rfl) at_new (by omega) (by decide) (by decide) (by decide)).mono ?_
  rintro e w2 ⟨rfl, h2⟩
  have H2 := Lib.hid h2
  clear h2 H1
  go_wp2_with fail
  refine (rests_yes (H2.out.below (al1 _ _)) [1] (Rd.lit _ _ _ _ rfl 1 rfl _ rfl) (by omega) (by decide) (by decide)).mono ?_
  rintro e w3 ⟨rfl, h3⟩
  have H3 := Lib.hid h3
  clear h3 H2
  go_wp2_with fail
  refine (rests_yes H3.out [] (Rd.nil _ _) (by omega) (by decide) (by decide)).mono ?_
  rintro e w4 ⟨rfl, h4⟩
  have H4 := Lib.hid h4
  clear h4 H3
  go_wp2_with fail
  refine (waits_yes (H4.out.below (al1 _ _)) [0, 1] (Rd.lit _ _ _ _ rfl 2 rfl _ rfl) (by omega) (by decide) (by decide)).mono ?_
  rintro e w5 ⟨rfl, h5⟩
  have H5 := Lib.hid h5
  clear h5 H4
  go_wp2
  go_ret
  exact ⟨rfl, H5.out.b⟩
set_option maxRecDepth 100000 in
set_option maxHeartbeats 4000000 in
theorem graphKnown_any {w : World} : Calls Try.prog 3 #[] w fun e w' => e = .returned (.bool true) ∧ Below w.heap.size w w' := by
  go_enter Try.func3, Try.ntmps3
  go_wp2_with fail
  refine three_any.mono ?_
  rintro e w1 ⟨G, rfl, h1⟩
  have H1 := Lib.hid h1
  clear h1
  go_wp2_with fail
  refine (adds_yes H1.out (Below.refl _ _) [] [[0, 1], [1, 2], [2]] (Rd.nil _ _) at_nil (by omega) (by decide) (by decide) (by decide)).mono ?_
  rintro e w2 ⟨rfl, h2⟩
  have H2 := Lib.hid h2
  clear h2 H1
  go_wp2_with fail
  refine (adds_yes H2.out (al1 _ _) [1, 1] [[0, 1], [1, 2], [2]] (Rd.lit _ _ _ _ rfl 2 rfl _ rfl) at_new (by omega) (by decide) (by decide) (by decide)).mono ?_
  rintro e w3 ⟨rfl, h3⟩
  have H3 := Lib.hid h3
  clear h3 H2
  go_wp2_with fail
  refine (adds_yes H3.out (al1 _ _) [3] [[0, 1], [1, 2], [2]] (Rd.lit _ _ _ _ rfl 1 rfl _ rfl) at_new (by omega) (by decide) (by decide) (by decide)).mono ?_
  rintro e w4 ⟨rfl, h4⟩
  have H4 := Lib.hid h4
  clear h4 H3
  go_wp2_with fail
  refine (takes_yes H4.out (al1 _ _) [1] [false, false, true] (Rd.lit _ _ _ _ rfl 1 rfl _ rfl) at_new (by omega) (by decide) (by decide) (by decide)).mono ?_
  rintro e w5 ⟨rfl, h5⟩
  have H5 := Lib.hid h5
  clear h5 H4
  go_wp2_with fail
  refine (takes_yes H5.out (Below.refl _ _) [] [false, false, true] (Rd.nil _ _) at_nil (by omega) (by decide) (by decide) (by decide)).mono ?_
  rintro e w6 ⟨rfl, h6⟩
  have H6 := Lib.hid h6
  clear h6 H5
  go_wp2_with fail
  refine (takes_yes H6.out (al1 _ _) [0] [false, true, true] (Rd.lit _ _ _ _ rfl 1 rfl _ rfl) at_new (by omega) (by decide) (by decide) (by decide)).mono ?_
  rintro e w7 ⟨rfl, h7⟩
  have H7 := Lib.hid h7
  clear h7 H6
  go_wp2_with fail
  refine (edges_ge H7.out).mono ?_
  rintro e w8 ⟨rfl, rfl⟩
  rw [show edg [false, true, true] [[0, 1], [1, 2], [2]] = 1 from by decide]
  go_wp2_with fail
  refine (unknown_ge H7.out).mono ?_
  rintro e w8 ⟨rfl, rfl⟩
  rw [show unk [false, true, true] = 1 from by decide]
  go_wp2_with fail
  refine (takes_yes H7.out (Below.refl _ _) [] [false, true, true] (Rd.nil _ _) at_nil (by omega) (by decide) (by decide) (by decide)).mono ?_
  rintro e w8 ⟨rfl, h8⟩
  have H8 := Lib.hid h8
  clear h8 H7
  go_wp2_with fail
  refine (rests_yes H8.out [] (Rd.nil _ _) (by omega) (by decide) (by decide)).mono ?_
  rintro e w9 ⟨rfl, h9⟩
  have H9 := Lib.hid h9.b
  clear h9 H8
  go_wp2_with fail
  refine (new_no (k := 0) (most := 1) (by decide)).mono ?_
  rintro e w10 ⟨rfl, hw⟩
  subst w10
  go_wp2_with fail
  refine (new_no (k := 1) (most := 0) (by decide)).mono ?_
  rintro e w10 ⟨rfl, hw⟩
  subst w10
  go_wp2_with fail
  refine (new_ok (k := 1) (most := 1) (by decide) [false] rfl).mono ?_
  rintro e w10 ⟨X, rfl, h10⟩
  have H10 := Lib.hid h10
  clear h10
  go_wp2_with fail
  refine awake_any.mono ?_
  rintro e w11 ⟨rfl, hb11⟩
  have H11 := Lib.hid (H10.out.below hb11)
  clear hb11 H10
  go_wp2_with fail
  refine (adds_yes H11.out (al1 _ _) [0] [[0]] (Rd.lit _ _ _ _ rfl 1 rfl _ rfl) at_new (by omega) (by decide) (by decide) (by decide)).mono ?_
  rintro e w12 ⟨rfl, h12⟩
  have H12 := Lib.hid h12
  clear h12 H11
  go_wp2_with fail
  refine (adds_yes H12.out (al1 _ _) [0] [[0]] (Rd.lit _ _ _ _ rfl 1 rfl _ rfl) at_new (by omega) (by decide) (by decide) (by decide)).mono ?_
  rintro e w13 ⟨rfl, h13⟩
  have H13 := Lib.hid (below_base H9.out h13.b H9.out.size)
  clear h13 H12
  go_wp2
  go_ret
  exact ⟨rfl, H13.out⟩
theorem graphKnown_walk (w : World) : Calls Try.prog 3 #[] w fun e w' => e = .returned (.bool true) ∧ Below w.heap.size w w' := graphKnown_any
end Go.Proofs.Ytcgcbajgclkmkaa
