/- BlockJoins: its walk. -/
import Derived.Test.YtdpmkijkniobpaaBu18
namespace Go.Proofs.Ytdpmkijkniobpaa
open Go.RowKit
set_option linter.unusedVariables false
theorem overOwnB {w1 w : World} {base n c : Nat} {A : Option Addr} {l : List UInt8} (h : w1.ownsRow base 5 1 (.slice A n c) n (bys l)) (hb : Below w1.heap.size w1 w) (hbase : base ≤ w.heap.size) (hn : n ≤ 140737488351232) :
    Calls Try.prog 24 #[.slice A n c] w fun e w' => e = .returned (.tuple #[]) ∧ Chg (fun k => base ≤ k ∧ (k < w1.heap.size ∨ w.heap.size ≤ k)) w w' := by
  obtain ⟨g, hm, hg, hg2⟩ := Mut.of_own_below h hb hbase
  refine (over_any hm hn).mono fun e w' ⟨he, hu⟩ => ⟨he, ⟨⟨hu.1.os, hu.1.tape, hu.1.output, hu.1.size, fun k hk => absurd hk (Nat.not_lt_zero _)⟩, fun k hk hS => hu.1.block k hk fun e => ?_⟩⟩
  cases e
  exact hS ⟨hg, by omega⟩
theorem foldl_xor_le (l : List (List UInt8)) : ∀ a : List UInt8, (l.foldl xorL a).length ≤ a.length := by
  induction l with
  | nil => intro a; exact Nat.le_refl _
  | cons x l ih => intro a; rw [List.foldl_cons]; exact Nat.le_trans (ih _) (by simp only [xorL, List.length_zipWith]; omega)
theorem sumL_le (n : Nat) (l : List (List UInt8)) : (sumL n l).length ≤ n := by
  unfold sumL
  exact Nat.le_trans (foldl_xor_le _ _) (by simp)
theorem smV_le {xss : List (List UInt8)} {set : List Int} {b : Nat} (hx : ∀ x ∈ xss, x.length ≤ b) : (smV xss set).length ≤ b := by
  unfold smV
  split
  · refine Nat.le_trans (sumL_le _ _) ?_
    rcases xss with _ | ⟨x, xss⟩
    · simp
    · exact hx x (by simp)
  · simp
theorem jnV_le {xss : List (List UInt8)} {z : Int} {b : Nat} (hx : ∀ x ∈ xss, x.length ≤ b) : (jnV xss z).length ≤ xss.length * b := by
  unfold jnV
  split
  · have := flat_le hx xss.length
    rw [List.take_of_length_le (Nat.le_refl _)] at this
    rw [List.length_take]
    omega
  · simp
set_option maxRecDepth 100000 in
set_option maxHeartbeats 6400000 in
/-- artesianlaw18.BlockJoins -/
theorem blockJoins_walk {w : World} {A B : Option Addr} {n c m d : Nat} {vs : List Value} {xss : List (List UInt8)} {z : Int} {set : List Int} (h : Rd w A n vs ∧ Rows_ w vs xss ∧ n ≤ c ∧ n ≤ 5864062014634 ∧ ∀ x ∈ xss, x.length ≤ 140737488351232) (hz : (Lit.int .i64 z).wf = true) (h2 : Rd w B m (nums set) ∧ m ≤ d ∧ m ≤ 17592186043904 ∧ ∀ x ∈ set, -9223372036854775808 ≤ x ∧ x ≤ 9223372036854775807) :
    Calls Try.prog 4 #[.slice A n c, .int .i64 z, .slice B m d] w fun e w' => e = .returned (.bool true) ∧ Below w.heap.size w w' := by
  have hs : Syms w A n xss := ⟨vs, h.1, h.2.1⟩
  have hn := h.2.2.2.1
  have hx := h.2.2.2.2
  have hr := h2.1
  have hm' : (m : Int) ≤ 17592186043904 := by have := h2.2.2.1; omega
  have hl := hs.len
  have H := Lib.hid (And.intro hs (And.intro hn (And.intro hx hr)))
  clear h h2 hs hx hr
  go_enter Try.func4, Try.ntmps4
  go_wp2_with fail
  refine (longSymbols_any (many := 40) (bytes := 60) H.out.1 H.out.2.1 (by decide) (by decide) H.out.2.2.1).mono ?_
  rintro e w0 ⟨rfl, rfl⟩
  cases hq : longS 40 60 xss with
  | true =>
    clear hq
    go_wp2_with fail
    refine awake_any.mono ?_
    rintro e w2 ⟨rfl, hb⟩
    have HB := Lib.hid hb
    clear hb
    go_wp2
    go_ret
    exact ⟨rfl, HB.out⟩
  | false =>
    have hno := longS_no hq
    clear hq
    by_cases h60 : 60 < m
    · have d1 : decide ((m : Int) > 60) = true := by simp; omega
      have d2 : decide ((60 : Int) < (m : Int)) = true := by simp; omega
      have d3 : decide (60 < m) = true := by simpa using h60
      clear h60 hno
      go_wp2_with fail
      refine awake_any.mono ?_
      rintro e w2 ⟨rfl, hb⟩
      have HB := Lib.hid hb
      clear hb
      go_wp2
      go_ret
      exact ⟨rfl, HB.out⟩
    · have d1 : decide ((m : Int) > 60) = false := by simp; omega
      have d2 : decide ((60 : Int) < (m : Int)) = false := by simp; omega
      have d3 : decide (60 < m) = false := by simpa using h60
      have hm3 : m ≤ 60 := by omega
      have hn4 : n ≤ 40 := by omega
      have HX := Lib.hid hno.2
      clear h60 hno hm'
      go_wp2_with fail
      refine (copySymbols_any H.out.1 (by omega) H.out.2.2.1).mono ?_
      rintro e w1 ⟨v1, vs1, rfl, ho1, hr1, hb1⟩
      obtain ⟨A1, c1, rfl, _⟩ := own_form ho1
      have hs1 : Syms w1 A1 n xss := ⟨vs1, Rd.of_own ho1, hr1.rows⟩
      have H1 := Lib.hid (And.intro hs1 (And.intro (H.out.1.below hb1) (And.intro (H.out.2.2.2.below hb1) hb1)))
      clear ho1 hr1 hs1 hb1
      go_wp2_with fail
      refine (copyInts_any H1.out.2.2.1 (by omega)).mono ?_
      rintro e w2 ⟨v2, rfl, ho2, hb2⟩
      obtain ⟨B2, c2, rfl, _⟩ := own_form ho2
      have H2 := Lib.hid (And.intro (H1.out.1.below hb2) (And.intro (H1.out.2.1.below hb2) (And.intro (H1.out.2.2.1.below hb2) (And.intro (Rd.of_own ho2) (below_base H1.out.2.2.2 hb2 H1.out.2.2.2.size)))))
      clear ho2 hb2
      go_wp2_with fail
      refine (join_any H2.out.1 (by omega) z).mono ?_
      rintro e w3 ⟨v3, rfl, ho3, hb3⟩
      obtain ⟨A3, c3, rfl, _⟩ := own_form ho3
      have H3 := Lib.hid (And.intro ho3 hb3)
      clear ho3 hb3
      go_wp2_with fail
      refine (rjoin_any (H2.out.2.1.below H3.out.2) (by omega) z).mono ?_
      rintro e w4 ⟨v4, rfl, ho4, hb4⟩
      obtain ⟨A4, c4, rfl, _⟩ := own_form ho4
      have H4 := Lib.hid (And.intro (Rd.of_own ho4) (And.intro hb4 (below_base H3.out.2 hb4 H3.out.2.size)))
      clear ho4 hb4
      go_wp2_with fail
      refine (sum_any (H2.out.1.below H4.out.2.2) (by omega) (H2.out.2.2.2.1.below H4.out.2.2) (by omega)).mono ?_
      rintro e w5 ⟨v5, rfl, ho5, hb5⟩
      obtain ⟨A5, c5, rfl, _⟩ := own_form ho5
      have H5 := Lib.hid (And.intro ho5 (And.intro hb5 (below_base H4.out.2.2 hb5 H4.out.2.2.size)))
      clear ho5 hb5
      go_wp2_with fail
      refine (rsum_any (H2.out.2.1.below H5.out.2.2) (by omega) (H2.out.2.2.1.below H5.out.2.2) (by omega)).mono ?_
      rintro e w6 ⟨v6, rfl, ho6, hb6⟩
      obtain ⟨A6, c6, rfl, _⟩ := own_form ho6
      have H6 := Lib.hid (And.intro (Rd.of_own ho6) (And.intro (H5.out.1) (And.intro hb6 (below_base H5.out.2.2 hb6 H5.out.2.2.size))))
      clear ho6 hb6
      go_wp2_with fail
      have B36 : Below w3.heap.size w3 w6 := below_base (below_base H4.out.2.1 H5.out.2.1 H4.out.2.1.size) H6.out.2.2.1 (by have := H4.out.2.1.size; have := H5.out.2.1.size; omega)
      have B46 : Below w4.heap.size w4 w6 := below_base H5.out.2.1 H6.out.2.2.1 H5.out.2.1.size
      have HB := Lib.hid (And.intro B36 B46)
      clear B36 B46
      refine (same_true ((Rd.of_own H3.out.1).below HB.out.1) (H4.out.1.below HB.out.2)).mono ?_
      rintro e w7 ⟨rfl, rfl⟩
      go_wp2_with fail
      refine (same_true ((Rd.of_own H5.out.1).below H6.out.2.2.1) H6.out.1).mono ?_
      rintro e w7 ⟨rfl, rfl⟩
      go_wp2_with fail
      refine (check_any (H2.out.1.below H6.out.2.2.2) (by omega)).mono ?_
      rintro e w7 ⟨rfl, hb7⟩
      have H7 := Lib.hid (And.intro hb7 (below_base H6.out.2.2.2 hb7 H6.out.2.2.2.size))
      clear hb7
      go_wp2_with fail
      refine (rcheck_any (H2.out.2.1.below H7.out.2) (by omega)).mono ?_
      rintro e w8 ⟨rfl, hb8⟩
      have H8 := Lib.hid (And.intro (below_base H7.out.1 hb8 H7.out.1.size) (below_base H7.out.2 hb8 H7.out.2.size))
      clear hb8
      go_wp2_with fail
      refine (overOwnB H3.out.1 (below_base HB.out.1 H8.out.1 HB.out.1.size) H8.out.2.size (by have := jnV_le (z := z) HX.out; omega)).mono ?_
      rintro e w9 ⟨rfl, hc9⟩
      have k34 := H4.out.2.1.size
      have k45 := H5.out.2.1.size
      have k56 := H6.out.2.2.1.size
      have k68 := H8.out.1.size
      have k23 := H3.out.2.size
      have ho5 := own_chgS (own_below (own_below H5.out.1 H6.out.2.2.1) (H8.out.1)) hc9 (fun g hg hS => by
        obtain ⟨a, ha, ha'⟩ := ownB hg
        have := own_ge H5.out.1 a ha
        omega)
      have H9 := Lib.hid (And.intro (hc9.below H8.out.2 (fun _ _ h => h.1) H8.out.2.size) ho5)
      have k89 := hc9.size
      clear hc9 ho5
      go_wp2_with fail
      refine (overOwnB H9.out.2 (Below.refl _ _) (by omega) (by have := smV_le (set := set) HX.out; omega)).mono ?_
      rintro e w10 ⟨rfl, hc10⟩
      have H10 := Lib.hid (hc10.below H9.out.1 (fun _ _ h => by omega) H9.out.1.size)
      clear hc10 k34 k45 k56 k68 k23 k89
      go_wp2_with fail
      refine (sameSymbols_any (H2.out.1.below H10.out) (H2.out.2.1.below H10.out) (by omega)).mono ?_
      rintro e w11 ⟨rfl, hb11⟩
      have H11 := Lib.hid (below_base H10.out hb11 H10.out.size)
      clear hb11
      rw [show (xss == xss) = true from by simp]
      go_wp2_with fail
      refine (sameInts_any (H2.out.2.2.2.1.below H11.out) (H2.out.2.2.1.below H11.out) (by omega)).mono ?_
      rintro e w12 ⟨rfl, hb12⟩
      have H12 := Lib.hid (below_base H11.out hb12 H11.out.size)
      clear hb12
      rw [show (set == set) = true from by simp]
      go_wp2_with fail
      refine awake_any.mono ?_
      rintro e w13 ⟨rfl, hb13⟩
      have H13 := Lib.hid hb13
      clear hb13
      go_wp2
      go_ret
      exact ⟨rfl, below_base (below_base H2.out.2.2.2.2 H12.out H2.out.2.2.2.2.size) H13.out (by have := H2.out.2.2.2.2.size; have := H12.out.size; omega)⟩
end Go.Proofs.Ytdpmkijkniobpaa
