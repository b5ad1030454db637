/- Chapter 12: awake. -/
import Derived.Test.YthnoeiiebokooaaTn12
namespace Go.Proofs.Ythnoeiiebokooaa
open Go.RowKit
set_option linter.unusedVariables false
def wantB : List UInt8 := [0, 0, 0, 10, 0, 2, 0, 0, 0, 2, 0, 0, 0, 0, 0, 0, 0, 7, 0, 2, 0, 0, 0, 1, 0, 0, 0, 1]
theorem ten_ok : mfB tenM = true := by decide
theorem ten_e : mfE tenM = 0 := by decide
theorem ten_p : ptV tenM = wantB := by decide
theorem ten_n : mfN tenM = 3 := by decide
theorem want_b : rgB wantB = true := by decide
theorem want_m : gtM wantB = tenM := by rw [(gt_rt wantB).1]; unfold rtM; rw [want_b, if_pos rfl]; exact same_iff.1 (by decide)
theorem want_e : gtE wantB = 0 := by rw [(gt_rt wantB).2]; unfold rtE; rw [want_b, if_pos rfl]
theorem want_a : (bys wantB).toArray = #[.int .u8 0, .int .u8 0, .int .u8 0, .int .u8 10, .int .u8 0, .int .u8 2, .int .u8 0, .int .u8 0, .int .u8 0, .int .u8 2, .int .u8 0, .int .u8 0, .int .u8 0, .int .u8 0, .int .u8 0, .int .u8 0, .int .u8 0, .int .u8 7, .int .u8 0, .int .u8 2, .int .u8 0, .int .u8 0, .int .u8 0, .int .u8 1, .int .u8 0, .int .u8 0, .int .u8 0, .int .u8 1] := rfl
theorem get_want {w : World} {A : Option Addr} {c : Nat} (h : Rd w A 28 (bys wantB)) : Calls Try.prog 10 #[.slice A 28 c] w fun e w' => ∃ A' c', e = .returned (.tuple #[.agg #[.int .i64 10, .int .i64 2, .int .i64 2, .int .i64 7, .slice A' 2 c'], .int .i64 0]) ∧ MA w' A' 2 c' tenM ∧ Below w.heap.size w w' := by
  refine (getM_any h (by omega)).mono ?_
  rintro e w' ⟨A', c', rfl, ho, hb⟩
  rw [want_m] at ho ⊢
  rw [want_e]
  refine ⟨A', c', rfl, ⟨Rd.of_own ho, by obtain ⟨_, _, ev, hle, _⟩ := own_form ho; injection ev with _ _ e3; subst e3; exact hle, by omega, rfl, by constructor <;> decide, by constructor <;> decide, by constructor <;> decide, by constructor <;> decide, fun x hx => ?_⟩, hb⟩
  have : x = 1 := by
    have hx' : x ∈ [(1 : Int), 1] := hx
    simpa using hx'
  subst this
  constructor <;> decide
set_option maxRecDepth 100000 in
set_option maxHeartbeats 1600000 in
theorem awake_any {w : World} : Calls Try.prog 8 #[] w fun e w' => e = .returned (.bool true) ∧ Below w.heap.size w w' := by
  go_enter Try.func8, Try.ntmps8
  go_wp2_with fail
  refine ten_any.mono ?_
  rintro e w1 ⟨A1, rfl, hm1, hb1⟩
  have H1 := Lib.hid (And.intro hm1 hb1)
  clear hm1 hb1
  go_wp2_with fail
  refine (putM_any H1.out.1).mono ?_
  rintro e w2 ⟨v, rfl, ho2, hb2⟩
  rw [ten_p] at ho2
  rw [ten_e]
  obtain ⟨A2, d2, rfl, _⟩ := own_form ho2
  have hr : Rd (w2.alloc (.cells (bys wantB).toArray 5)) (some ⟨w2.heap.size, 0, none⟩) 28 (bys wantB) := Rd.lit _ _ _ _ rfl 28 rfl _ rfl
  have hb3 := (below_base H1.out.2 hb2 H1.out.2.size).alloc (below_base H1.out.2 hb2 H1.out.2.size).size (.cells (bys wantB).toArray 5)
  have hq2 := (Rd.of_own ho2).alloc (.cells (bys wantB).toArray 5)
  rw [want_a] at hr hb3 hq2
  have hs3 : w2.heap.size < (w2.alloc (.cells #[.int .u8 0, .int .u8 0, .int .u8 0, .int .u8 10, .int .u8 0, .int .u8 2, .int .u8 0, .int .u8 0, .int .u8 0, .int .u8 2, .int .u8 0, .int .u8 0, .int .u8 0, .int .u8 0, .int .u8 0, .int .u8 0, .int .u8 0, .int .u8 7, .int .u8 0, .int .u8 2, .int .u8 0, .int .u8 0, .int .u8 0, .int .u8 1, .int .u8 0, .int .u8 0, .int .u8 0, .int .u8 1] 5)).heap.size := by rw [World.size_alloc]; exact Nat.lt_succ_self _
  have H2 := Lib.hid (And.intro hr (And.intro hb3 hq2))
  clear hr hb3 hq2 ho2 hb2
  go_wp2_with fail
  generalize w2.alloc (.cells #[.int .u8 0, .int .u8 0, .int .u8 0, .int .u8 10, .int .u8 0, .int .u8 2, .int .u8 0, .int .u8 0, .int .u8 0, .int .u8 2, .int .u8 0, .int .u8 0, .int .u8 0, .int .u8 0, .int .u8 0, .int .u8 0, .int .u8 0, .int .u8 7, .int .u8 0, .int .u8 2, .int .u8 0, .int .u8 0, .int .u8 0, .int .u8 1, .int .u8 0, .int .u8 0, .int .u8 0, .int .u8 1] 5) = w3 at H2 hs3 ⊢
  refine (get_want H2.out.1).mono ?_
  rintro e w4 ⟨A4, d4, rfl, hm4, hb4⟩
  have hb5 := (Below.refl w4.heap.size w4).alloc (Nat.le_refl _) (.cells #[.int .i64 10, .int .i64 2, .int .i64 2, .int .i64 7, .slice A4 2 d4] 27)
  have hb6 := below_base hb4 hb5 hb4.size
  have H5 := Lib.hid (And.intro (H2.out.1.below hb6) (And.intro (H2.out.2.2.below hb6) (And.intro (hm4.below hb5) (And.intro (below_base H2.out.2.1 hb6 H2.out.2.1.size) (Bk.newA w4 27 #[.int .i64 10, .int .i64 2, .int .i64 2, .int .i64 7, .slice A4 2 d4])))))
  clear hm4 hb4 hb5 hb6
  go_wp2_with fail
  generalize w4.alloc (.cells #[.int .i64 10, .int .i64 2, .int .i64 2, .int .i64 7, .slice A4 2 d4] 27) = w5 at H5 ⊢
  obtain ⟨c0, c1, c2, c3, c4⟩ := cells5 H5.out.2.2.2.2
  generalize w4.heap.size = G at H5 c0 c1 c2 c3 c4 ⊢
  go_region_held3 (fun w' => w'.cell? ⟨G, 0, none⟩ = some (.int .i64 10) ∧ w'.cell? ⟨G, 1, none⟩ = some (.int .i64 2) ∧ w'.cell? ⟨G, 2, none⟩ = some (.int .i64 2) ∧ w'.cell? ⟨G, 3, none⟩ = some (.int .i64 7) ∧ w'.cell? ⟨G, 4, none⟩ = some (.slice A4 2 d4))
    (first | go_keep | exact cells5 K4.out.1 | exact cells5 K3.out.1 | exact cells5 K2.out.1 | exact cells5 K1.out.1)
    (first
      | (go_at_call 14; refine (same_true (H5.out.2.1.below (Below.refl w5.heap.size w5).drew) (H5.out.1.below (Below.refl w5.heap.size w5).drew)).mono ?_; rintro e wq ⟨rfl, rfl⟩)
      | (go_at_call 26; first
        | (have K2' := K2.out; refine ten_any.mono ?_; rintro e wq ⟨A7, rfl, hm7, hb7⟩; have K3 := Lib.hid (And.intro (K2'.1.belowS hb7) (And.intro (below_base K2'.2 hb7 K2'.2.size) hm7)); clear hm7 hb7 K2')
        | (refine ten_any.mono ?_; rintro e wq ⟨A6, rfl, hm6, hb6⟩; have K1 := Lib.hid (And.intro (H5.out.2.2.2.2.belowS (below_undrew hb6)) (And.intro (below_base H5.out.2.2.2.1 (below_undrew hb6) H5.out.2.2.2.1.size) (And.intro hm6 (H5.out.2.2.1.below (below_undrew hb6))))); clear hm6 hb6))
      | (go_at_call 12; refine (sameM_any K1.out.2.2.2 K1.out.2.2.1).mono ?_; rintro e wq ⟨rfl, hb8⟩; rw [same_refl]; have K2 := Lib.hid (And.intro (K1.out.1.belowS hb8) (below_base K1.out.2.1 hb8 K1.out.2.1.size)); clear hb8)
      | (go_at_call 23; refine (blocks_any K3.out.2.2).mono ?_; rintro e wq ⟨rfl, hb9⟩; rw [ten_n]; have K4 := Lib.hid (And.intro (K3.out.1.belowS hb9) (below_base K3.out.2.1 hb9 K3.out.2.1.size)); clear hb9))
  all_goals go_wp2
  all_goals go_ret
  all_goals exact ⟨rfl, K4.out.2⟩
end Go.Proofs.Ythnoeiiebokooaa
