/- GraphDeeds: alike. -/
import Derived.Test.YtcgcbajgclkmkaaGe20
namespace Go.Proofs.Ytcgcbajgclkmkaa
open Go.RowKit
set_option linter.unusedVariables false
/-- Two graphs, and four lists that were told. -/
def AkS (w0 : World) (G W KB : Nat) (A : Option Addr) (pc : Nat) (vs : List Value) (tag R : Nat → Option Nat) (L : GL) (kn : List Bool) (S : List (List Int)) (most : Int) (base : Nat) (a b c d : Value) (la lc : List Int) (w : World) : Prop :=
  Two w0 w G W KB A pc vs tag R L kn S most ∧ w.ownsRow base 3 1 a la.length (nums la) ∧ w.ownsRow base 3 1 b la.length (nums la) ∧ w.ownsRow base 3 1 c lc.length (nums lc) ∧ w.ownsRow base 3 1 d lc.length (nums lc)
section
variable {w0 w w' : World} {G W KB : Nat} {A : Option Addr} {pc : Nat} {vs : List Value} {tag R : Nat → Option Nat} {L : GL} {kn : List Bool} {S : List (List Int)} {most : Int} {base : Nat} {a b c d : Value} {la lc : List Int}
theorem AkS.below (h : AkS w0 G W KB A pc vs tag R L kn S most base a b c d la lc w) (hb : Below w.heap.size w w') : AkS w0 G W KB A pc vs tag R L kn S most base a b c d la lc w' :=
  ⟨h.1.below hb, own_below h.2.1 hb, own_below h.2.2.1 hb, own_below h.2.2.2.1 hb, own_below h.2.2.2.2 hb⟩
theorem AkS.drew (h : AkS w0 G W KB A pc vs tag R L kn S most base a b c d la lc w) : AkS w0 G W KB A pc vs tag R L kn S most base a b c d la lc w.drew := h.below (Below.refl _ _).drew
theorem AkS.cells (h : AkS w0 G W KB A pc vs tag R L kn S most base a b c d la lc w) : w.cell? ⟨W, 2, none⟩ = some (.slice A S.length pc) ∧ AkS w0 G W KB A pc vs tag R L kn S most base a b c d la lc w := ⟨h.1.rg.g.cell 2, h⟩
theorem rsL_le (h : Gr w base G tag L kn S most) (x : Int) : (rsL kn S x).length ≤ 65536 := by
  unfold rsL
  split
  · exact Nat.le_trans (List.length_filter_le _ _) (Nat.le_trans (h.ss _ (getD_mem (by omega))).len h.kz)
  · exact Nat.zero_le _
theorem owL_le (kn : List Bool) (S : List (List Int)) (x : Int) : (owL kn S x).length ≤ S.length := by
  unfold owL; split
  · exact wts_le _ _ _
  · exact Nat.zero_le _
set_option maxRecDepth 100000 in
set_option maxHeartbeats 6400000 in
theorem alike_any (h : Two w0 w G W KB A pc vs tag R L kn S most) (x y : Int) :
    Calls Try.prog 23 #[.pointer (some ⟨G, 0, none⟩), .pointer (some ⟨W, 0, none⟩), .int .i64 x, .int .i64 y] w fun e w' => e = .returned (.bool true) ∧ Two w0 w' G W KB A pc vs tag R L kn S most := by
  have H := Lib.hid h
  clear h
  go_enter Try.func23, Try.ntmps23
  go_wp2_with fail
  refine (of_gr H.out.gr x).mono ?_
  rintro e w1 ⟨v1, rfl, o1, b1⟩
  have H1 := Lib.hid (And.intro (H.out.below b1) (And.intro o1 b1))
  clear o1 b1
  go_wp2_with fail
  refine (rOf_any H1.out.1.rg x).mono ?_
  rintro e w2 ⟨v2, rfl, o2, b2⟩
  have H2 := Lib.hid (And.intro (H1.out.1.below b2) (And.intro (own_below H1.out.2.1 b2) (And.intro (own_mono o2 H1.out.2.2.size) (below_base H1.out.2.2 b2 H1.out.2.2.size))))
  clear o2 b2
  go_wp2_with fail
  refine (rest_gr H2.out.1.gr y).mono ?_
  rintro e w3 ⟨v3, rfl, o3, b3⟩
  have H3 := Lib.hid (And.intro (H2.out.1.below b3) (And.intro (own_below H2.out.2.1 b3) (And.intro (own_below H2.out.2.2.1 b3) (And.intro (own_mono o3 H2.out.2.2.2.size) (below_base H2.out.2.2.2 b3 H2.out.2.2.2.size)))))
  have hne := Lib.hid (show ∀ b, v1.ownBlock = some b → v3.ownBlock ≠ some b from fun b h1 h3 => by have := (H2.out.2.1.lt b h1).2; have := (o3.lt b h3).1; omega)
  clear o3 b3
  go_wp2_with fail
  refine (rRest_any H3.out.1.rg y).mono ?_
  rintro e w4 ⟨v4, rfl, o4, b4⟩
  have hAk : AkS w0 G W KB A pc vs tag R L kn S most w.heap.size v1 v2 v3 v4 (owL kn S x) (rsL kn S y) w4 :=
    ⟨H3.out.1.below b4, own_below H3.out.2.1 b4, own_below H3.out.2.2.1 b4, own_below H3.out.2.2.2.1 b4, own_mono o4 H3.out.2.2.2.2.size⟩
  have hla : (owL kn S x).length ≤ 100000 := Nat.le_trans (owL_le _ _ _) H.out.rg.sz
  have hlc : (rsL kn S y).length ≤ 100000 := Nat.le_trans (rsL_le H.out.gr y) (by omega)
  obtain ⟨la, hla'⟩ : ∃ l, owL kn S x = l := ⟨_, rfl⟩
  obtain ⟨lc, hlc'⟩ : ∃ l, rsL kn S y = l := ⟨_, rfl⟩
  obtain ⟨ea, hea⟩ : ∃ l, owE kn x = l := ⟨_, rfl⟩
  obtain ⟨ec, hec⟩ : ∃ l, rsE S y = l := ⟨_, rfl⟩
  rw [hla'] at hAk hla
  rw [hlc'] at hAk hlc
  rw [hea, hec]
  obtain ⟨a1, d1, rfl, _⟩ := own_slice hAk.2.1
  obtain ⟨a2, d2, rfl, _⟩ := own_slice hAk.2.2.1
  obtain ⟨a3, d3, rfl, _⟩ := own_slice hAk.2.2.2.1
  obtain ⟨a4, d4, rfl, _⟩ := own_slice hAk.2.2.2.2
  have H4 := Lib.hid hAk
  clear hAk o4 b4 hla' hlc' hea hec H1 H2 H3
  obtain ⟨c2, _⟩ := H4.out.cells
  go_wp2_with fail
  go_cut [17] (fun s wx => s = .bool true ∧ AkS w0 G W KB A pc vs tag R L kn S most w.heap.size (.slice a1 la.length d1) (.slice a2 la.length d2) (.slice a3 lc.length d3) (.slice a4 lc.length d4) la lc wx)
  case first =>
    go_region_held3 (fun w' => w'.cell? ⟨W, 2, none⟩ = some (.slice A S.length pc) ∧ AkS w0 G W KB A pc vs tag R L kn S most w.heap.size (.slice a1 la.length d1) (.slice a2 la.length d2) (.slice a3 lc.length d3) (.slice a4 lc.length d4) la lc w')
      (first | exact S1.out.cells | exact H4.out.cells | exact H4.out.drew.cells)
      ((first
        | (go_at_call_of 29 (Value.slice a1 la.length d1); refine (sameInts_any (xs := la) (ys := la) (A := a1) (A' := a2) (Rd.of_own (AkS.cells (by first | exact S1.out | exact H4.out | exact H4.out.drew)).2.2.1) (Rd.of_own (AkS.cells (by first | exact S1.out | exact H4.out | exact H4.out.drew)).2.2.2.1) (by omega)).mono ?_; rintro e w8 ⟨rfl, hb⟩; rw [show (la == la) = true from by simp]; have S1 := Lib.hid (AkS.below (by first | exact S1.out | exact H4.out | exact H4.out.drew) hb); clear hb)
        | (go_at_call_of 29 (Value.slice a3 lc.length d3); refine (sameInts_any (xs := lc) (ys := lc) (A := a3) (A' := a4) (Rd.of_own (AkS.cells (by first | exact S1.out | exact H4.out | exact H4.out.drew)).2.2.2.2.1) (Rd.of_own (AkS.cells (by first | exact S1.out | exact H4.out | exact H4.out.drew)).2.2.2.2.2) (by omega)).mono ?_; rintro e w8 ⟨rfl, hb⟩; rw [show (lc == lc) = true from by simp]; have S1 := Lib.hid (AkS.below (by first | exact S1.out | exact H4.out | exact H4.out.drew) hb); clear hb)
        | (go_at_call 12; refine (unknown_gr (AkS.cells (by first | exact S1.out | exact H4.out | exact H4.out.drew)).2.1.gr).mono ?_; rintro e w8 ⟨rfl, rfl⟩)
        | (go_at_call 39; refine (runknown_any (AkS.cells (by first | exact S1.out | exact H4.out | exact H4.out.drew)).2.1.rg).mono ?_; rintro e w8 ⟨rfl, rfl⟩)
        | (go_at_call 27; refine (packets_gr (AkS.cells (by first | exact S1.out | exact H4.out | exact H4.out.drew)).2.1.gr).mono ?_; rintro e w8 ⟨rfl, rfl⟩)
        | (go_at_call 11; refine (edges_gr (AkS.cells (by first | exact S1.out | exact H4.out | exact H4.out.drew)).2.1.gr).mono ?_; rintro e w8 ⟨rfl, rfl⟩)
        | (go_at_call 40; refine (redges_any (AkS.cells (by first | exact S1.out | exact H4.out | exact H4.out.drew)).2.1.rg).mono ?_; rintro e w8 ⟨rfl, hb⟩; have S1 := Lib.hid (AkS.below (by first | exact S1.out | exact H4.out | exact H4.out.drew) hb); clear hb)))
    all_goals go_wp2_with fail
    all_goals go_meet
    all_goals exact ⟨by simp, S1.out⟩
  case rest =>
    obtain ⟨rfl, hAk⟩ := hcut
    have H5 := Lib.hid hAk
    clear hAk c2
    go_wp2_with fail
    refine (overOwn H5.out.2.1 (by omega)).mono ?_
    rintro e w6 ⟨rfl, c6⟩
    have hf1 : ∀ b, (Value.slice a1 la.length d1).ownBlock = some b → tag b = none ∧ R b = none ∧ w0.heap.size ≤ b := fun b hb => H.out.new (H5.out.2.1.lt b hb).1
    have H6 := Lib.hid (H5.out.1.other c6 hf1)
    have o6 := own_chgv H5.out.2.2.2.1 c6 (fun b hb e => hne.out b e hb)
    clear c6
    go_wp2_with fail
    refine (overOwn o6 (by omega)).mono ?_
    rintro e w7 ⟨rfl, c7⟩
    have hf2 : ∀ b, (Value.slice a3 lc.length d3).ownBlock = some b → tag b = none ∧ R b = none ∧ w0.heap.size ≤ b := fun b hb => H.out.new (H5.out.2.2.2.1.lt b hb).1
    have H7 := Lib.hid (H6.out.other c7 hf2)
    clear c7 o6 hf1 hf2
    go_wp2
    go_ret
    exact ⟨rfl, H7.out⟩
end
end Go.Proofs.Ytcgcbajgclkmkaa
