/- Chapter 12: ManifestParts' walk. -/
import Derived.Test.YthnoeiiebokooaaBa12
namespace Go.Proofs.Ythnoeiiebokooaa
open Go.RowKit
set_option linter.unusedVariables false
theorem mfN_of {m : MF} (h : mfB m = true) : mfN m = (m.z + m.k * m.s - 1) / (m.k * m.s) := by unfold mfN; rw [if_pos h]
/-- What a part is, told by sums. -/
theorem part_is {m : MF} (h : mfB m = true) {q : Nat} (hq : (q : Int) < mfN m) :
    prE m q = 0 ∧ prF m q = min ((q : Int) * (m.k * m.s)) m.z ∧ 1 ≤ prS m q ∧ prS m q ≤ m.k * m.s ∧ ((q : Int) < mfN m - 1 → prS m q = m.k * m.s) ∧ prF m q + prS m q = min (((q + 1 : Nat) : Int) * (m.k * m.s)) m.z ∧ prF m q + prS m q ≤ m.z := by
  have hf := mf_full h
  have hr := prF_range h (b := (q : Int)) ⟨by omega, hq⟩
  have hE : prE m q = 0 := by unfold prE; rw [if_pos h, if_pos ⟨by omega, hq⟩]
  have hF : prF m q = (q : Int) * (m.k * m.s) := by unfold prF; rw [if_pos hE]
  have hS : prS m q = min (m.k * m.s) (m.z - (q : Int) * (m.k * m.s)) := by unfold prS; rw [if_pos hE]
  have hsucc : ((q + 1 : Nat) : Int) * (m.k * m.s) = (q : Int) * (m.k * m.s) + m.k * m.s := by
    rw [Int.natCast_add, Int.add_mul]; simp
  refine ⟨hE, by omega, by omega, by omega, fun hl => ?_, by omega, by omega⟩
  have hr2 := prF_range h (b := ((q + 1 : Nat) : Int)) ⟨by omega, by omega⟩
  omega
theorem parts_end {m : MF} (h : mfB m = true) {N : Nat} (hN : mfN m = N) : min ((N : Int) * (m.k * m.s)) m.z = m.z := by
  have hf := mf_full h
  have hz := (mfB_iff.1 h).1
  have h1 := mfN_of h
  rw [hN] at h1
  have h2 : m.z + m.k * m.s - 1 < ((N : Int) + 1) * (m.k * m.s) := (Int.ediv_lt_iff_lt_mul (by omega)).1 (by omega)
  rw [Int.add_mul, Int.one_mul] at h2
  omega
theorem parts_out {m : MF} (h : mfB m = true) {b : Int} (hb : ¬ (0 ≤ b ∧ b < mfN m)) : (prF m b == 0 && (prS m b == 0 && prE m b == 3)) = true := by
  have hE : prE m b = 3 := by unfold prE; rw [if_pos h, if_neg hb]
  have hF : prF m b = 0 := by unfold prF; rw [if_neg (by omega)]
  have hS : prS m b = 0 := by unfold prS; rw [if_neg (by omega)]
  rw [hE, hF, hS]; rfl
def PS (w w' : World) (A : Option Addr) (n c : Nat) (z s k d : Int) (t : List Int) : Prop := LM w' w.heap.size A n c z s k d t ∧ Below w.heap.size w w'
theorem PS.below {w w' w'' : World} {A : Option Addr} {n c : Nat} {z s k d : Int} {t : List Int} (h : PS w w' A n c z s k d t) (hb : Below w'.heap.size w' w'') : PS w w'' A n c z s k d t := ⟨h.1.below hb, below_base h.2 hb h.2.size⟩
set_option maxRecDepth 100000 in
set_option maxHeartbeats 3200000 in
theorem parts_any {w : World} {A : Option Addr} {n c : Nat} {m : MF} (h : MA w A n c m) :
    Calls Try.prog 7 #[m.v A n c] w fun e w' => e = .returned (.bool true) ∧ Below w.heap.size w w' := by
  obtain ⟨z, s, k, d, t⟩ := m
  have hb1 := (Below.refl w.heap.size w).alloc (Nat.le_refl _) (.cells #[.int .i64 z, .int .i64 s, .int .i64 k, .int .i64 d, .slice A n c] 27)
  have HS := Lib.hid (show PS w (w.alloc (.cells #[.int .i64 z, .int .i64 s, .int .i64 k, .int .i64 d, .slice A n c] 27)) A n c z s k d t from ⟨⟨Bk.newA w _ _, h.below hb1⟩, hb1⟩)
  clear hb1 h
  show Calls Try.prog 7 #[.agg #[.int .i64 z, .int .i64 s, .int .i64 k, .int .i64 d, .slice A n c]] w _
  cases hl1 : (decide (100 < n) && decide (n ≤ 10000)) with
  | true =>
    have HL1 := Lib.hid hl1
    clear hl1
    go_enter Try.func7, Try.ntmps7
    go_wp2_with fail
    generalize w.alloc (.cells #[.int .i64 z, .int .i64 s, .int .i64 k, .int .i64 d, .slice A n c] 27) = w1 at HS ⊢
    refine known_any.mono ?_
    rintro e w2 ⟨rfl, hb2⟩
    have H2 := Lib.hid (HS.out.below hb2)
    clear hb2
    obtain ⟨c0, c1, c2, c3, c4⟩ := cells5 H2.out.1.1
    go_wp2_with fail
    refine (longM_any (m := ⟨z, s, k, d, t⟩)).mono ?_
    rintro e w3 ⟨rfl, hb3⟩
    rw [HL1.out]
    have H3 := Lib.hid (H2.out.below hb3)
    clear hb3 c0 c1 c2 c3 c4
    go_wp2
    go_ret
    exact ⟨rfl, H3.out.2⟩
  | false =>
    have HL1 := Lib.hid hl1
    clear hl1
    cases hq : mfB ⟨z, s, k, d, t⟩ with
    | false =>
      have HE := Lib.hid (show mfE ⟨z, s, k, d, t⟩ = 2 from by unfold mfE; rw [hq]; rfl)
      clear hq
      go_enter Try.func7, Try.ntmps7
      go_wp2_with fail
      generalize w.alloc (.cells #[.int .i64 z, .int .i64 s, .int .i64 k, .int .i64 d, .slice A n c] 27) = w1 at HS ⊢
      refine known_any.mono ?_
      rintro e w2 ⟨rfl, hb2⟩
      have H2 := Lib.hid (HS.out.below hb2)
      clear hb2
      obtain ⟨c0, c1, c2, c3, c4⟩ := cells5 H2.out.1.1
      go_wp2_with fail
      refine (longM_any (m := ⟨z, s, k, d, t⟩)).mono ?_
      rintro e w3 ⟨rfl, hb3⟩
      rw [HL1.out]
      have H3 := Lib.hid (H2.out.below hb3)
      clear hb3 c0 c1 c2 c3 c4
      obtain ⟨c0, c1, c2, c3, c4⟩ := cells5 H3.out.1.1
      go_wp2_with fail
      refine (check_any (m := ⟨z, s, k, d, t⟩) H3.out.1.2).mono ?_
      rintro e w4 ⟨rfl, hb4⟩
      rw [HE.out]
      have H4 := Lib.hid (H3.out.below hb4)
      clear hb4 c0 c1 c2 c3 c4
      go_wp2
      go_ret
      exact ⟨rfl, H4.out.2⟩
    | true =>
      have HE := Lib.hid (show mfE ⟨z, s, k, d, t⟩ = 0 from by unfold mfE; rw [hq]; rfl)
      have HQ := Lib.hid hq
      obtain ⟨N, hN⟩ : ∃ N : Nat, mfN ⟨z, s, k, d, t⟩ = N := ⟨(mfN ⟨z, s, k, d, t⟩).toNat, by have := mfN_range (m := ⟨z, s, k, d, t⟩); omega⟩
      have HN := Lib.hid hN
      clear hN hq
      by_cases h2 : 200 < N
      · have g1 : decide ((N : Int) > 200) = true := by simp; omega
        have g2 : decide (200 < N) = true := by simp; omega
        clear h2
        go_enter Try.func7, Try.ntmps7
        go_wp2_with fail
        generalize w.alloc (.cells #[.int .i64 z, .int .i64 s, .int .i64 k, .int .i64 d, .slice A n c] 27) = w1 at HS ⊢
        refine known_any.mono ?_
        rintro e w2 ⟨rfl, hb2⟩
        have H2 := Lib.hid (HS.out.below hb2)
        clear hb2
        obtain ⟨c0, c1, c2, c3, c4⟩ := cells5 H2.out.1.1
        go_wp2_with fail
        refine (longM_any (m := ⟨z, s, k, d, t⟩)).mono ?_
        rintro e w3 ⟨rfl, hb3⟩
        rw [HL1.out]
        have H3 := Lib.hid (H2.out.below hb3)
        clear hb3 c0 c1 c2 c3 c4
        obtain ⟨c0, c1, c2, c3, c4⟩ := cells5 H3.out.1.1
        go_wp2_with fail
        refine (check_any (m := ⟨z, s, k, d, t⟩) H3.out.1.2).mono ?_
        rintro e w4 ⟨rfl, hb4⟩
        rw [HE.out]
        have H4 := Lib.hid (H3.out.below hb4)
        clear hb4 c0 c1 c2 c3 c4
        obtain ⟨c0, c1, c2, c3, c4⟩ := cells5 H4.out.1.1
        go_wp2_with fail
        refine (blocks_any (m := ⟨z, s, k, d, t⟩) H4.out.1.2).mono ?_
        rintro e w5 ⟨rfl, hb5⟩
        rw [HN.out]
        have H5 := Lib.hid (H4.out.below hb5)
        clear hb5 c0 c1 c2 c3 c4
        go_wp2
        go_ret
        exact ⟨rfl, H5.out.2⟩
      · have g1 : decide ((N : Int) > 200) = false := by simp; omega
        have g2 : decide (200 < N) = false := by simp; omega
        have hN2 : N ≤ 200 := by omega
        clear h2
        go_enter Try.func7, Try.ntmps7
        go_wp2_with fail
        generalize w.alloc (.cells #[.int .i64 z, .int .i64 s, .int .i64 k, .int .i64 d, .slice A n c] 27) = w1 at HS ⊢
        refine known_any.mono ?_
        rintro e w2 ⟨rfl, hb2⟩
        have H2 := Lib.hid (HS.out.below hb2)
        clear hb2
        obtain ⟨c0, c1, c2, c3, c4⟩ := cells5 H2.out.1.1
        go_wp2_with fail
        refine (longM_any (m := ⟨z, s, k, d, t⟩)).mono ?_
        rintro e w3 ⟨rfl, hb3⟩
        rw [HL1.out]
        have H3 := Lib.hid (H2.out.below hb3)
        clear hb3 c0 c1 c2 c3 c4
        obtain ⟨c0, c1, c2, c3, c4⟩ := cells5 H3.out.1.1
        go_wp2_with fail
        refine (check_any (m := ⟨z, s, k, d, t⟩) H3.out.1.2).mono ?_
        rintro e w4 ⟨rfl, hb4⟩
        rw [HE.out]
        have H4 := Lib.hid (H3.out.below hb4)
        clear hb4 c0 c1 c2 c3 c4
        obtain ⟨c0, c1, c2, c3, c4⟩ := cells5 H4.out.1.1
        go_wp2_with fail
        refine (blocks_any (m := ⟨z, s, k, d, t⟩) H4.out.1.2).mono ?_
        rintro e w5 ⟨rfl, hb5⟩
        rw [HN.out]
        have H5 := Lib.hid (H4.out.below hb5)
        clear hb5 c0 c1 c2 c3 c4
        obtain ⟨c0, c1, c2, c3, c4⟩ := cells5 H5.out.1.1
        go_wp2_with fail
        refine (blocks_any (m := ⟨z, s, k, d, t⟩) H5.out.1.2).mono ?_
        rintro e w5 ⟨rfl, hb5⟩
        rw [HN.out]
        have H6 := Lib.hid (H5.out.below hb5)
        clear hb5 c0 c1 c2 c3 c4
        have hf := mf_full HQ.out
        simp only at hf
        obtain ⟨F, hF⟩ : ∃ F, k * s = F := ⟨_, rfl⟩
        have hw : IntKind.i64.wrap (k * s) = F := by rw [IntKind.wrap_i64]; omega
        rw [hF] at hf
        have hz := (mfB_iff.1 HQ.out).1
        simp only at hz
        have HF := Lib.hid hF
        have hwN : IntKind.i64.wrap ((N : Int) - 1) = (N : Int) - 1 := by rw [IntKind.wrap_i64]; omega
        clear g1 g2 hF
        go_wp2_with fail
        go_loopw [5, 6] (fun v i wr => ∃ q : Nat, q ≤ N ∧ i = .int .i64 q ∧ v = .int .i64 (min ((q : Int) * F) z) ∧ PS w wr A n c z s k d t) (fun v i wr => N - (intOf i).toNat)
        case atStart => exact ⟨0, by omega, rfl, by congr 1; simp; omega, H6.out⟩
        case round =>
          obtain ⟨q, hqN, rfl, rfl, hK⟩ := hrel
          have HK := Lib.hid hK
          clear hK
          by_cases hlt : q < N
          · have km : (q : Int) < (N : Int) := by omega
            obtain ⟨p1, p2, p3, p4, p5, p6, p7⟩ := part_is HQ.out (q := q) (by rw [HN.out]; omega)
            simp only at p2 p4 p5 p6 p7
            rw [HF.out] at p2 p4 p5 p6
            rw [HN.out] at p5
            obtain ⟨X, hX⟩ : ∃ X, min ((q : Int) * F) z = X := ⟨_, rfl⟩
            obtain ⟨Y, hY⟩ : ∃ Y, prS ⟨z, s, k, d, t⟩ q = Y := ⟨_, rfl⟩
            rw [hX] at p2 ⊢
            rw [p2] at p6 p7
            rw [hY] at p3 p4 p5 p6 p7
            have hX0 : 0 ≤ X := by rw [← hX]; have : 0 ≤ (q : Int) * F := Int.mul_nonneg (by omega) (by omega); omega
            have d1 : decide (Y < 1) = false := by simp; omega
            have d2 : decide (Y > F) = false := by simp; omega
            have d3 : decide (F < Y) = false := by simp; omega
            have hwXY : IntKind.i64.wrap (X + Y) = X + Y := by rw [IntKind.wrap_i64]; omega
            have HP := Lib.hid (And.intro p1 (And.intro p2 (And.intro hY (And.intro p6 hlt))))
            clear hX p1 p2 hY p6 p7 hlt hqN hX0
            obtain ⟨c0, c1, c2, c3, c4⟩ := cells5 HK.out.1.1
            go_wp2_with fail
            refine (part_any (m := ⟨z, s, k, d, t⟩) HK.out.1.2 (b := (q : Int)) ⟨by omega, by omega⟩).mono ?_
            rw [HP.out.1, HP.out.2.1, HP.out.2.2.1]
            rintro e w7 ⟨rfl, hb7⟩
            have H7 := Lib.hid (HK.out.below hb7)
            clear hb7 c0 c1 c2 c3 c4
            obtain ⟨c0, c1, c2, c3, c4⟩ := cells5 H7.out.1.1
            by_cases hl : (q : Int) < (N : Int) - 1
            · have d4 : decide ((q : Int) < (N : Int) - 1) = true := by simpa using hl
              obtain rfl : Y = F := p5 hl
              clear hl p5
              go_wp2_with fail
              refine ⟨⟨q + 1, by have := HP.out.2.2.2.2; omega, by go_num, ?_, H7.out⟩, by have := HP.out.2.2.2.2; simp [intOf]; omega⟩
              rw [← HP.out.2.2.2.1]
            · have d4 : decide ((q : Int) < (N : Int) - 1) = false := by simpa using hl
              clear hl p5
              go_wp2_with fail
              refine ⟨⟨q + 1, by have := HP.out.2.2.2.2; omega, by go_num, ?_, H7.out⟩, by have := HP.out.2.2.2.2; simp [intOf]; omega⟩
              rw [← HP.out.2.2.2.1]
          · obtain rfl : q = N := by omega
            have km : ¬ (q : Int) < (q : Int) := by omega
            have he := parts_end HQ.out HN.out
            simp only at he
            rw [HF.out] at he
            rw [he]
            clear he hlt hqN
            obtain ⟨c0, c1, c2, c3, c4⟩ := cells5 HK.out.1.1
            go_wp2_with fail
            refine (lies_any (m := ⟨z, s, k, d, t⟩) (b := (q : Int)) HK.out.1.2 ⟨by omega, by omega⟩).mono ?_
            rintro e w7 ⟨rfl, hb7⟩
            rw [parts_out HQ.out (by rw [HN.out]; omega)]
            have H7 := Lib.hid (HK.out.below hb7)
            clear hb7 c0 c1 c2 c3 c4
            obtain ⟨c0, c1, c2, c3, c4⟩ := cells5 H7.out.1.1
            go_wp2_with fail
            refine (lies_any (m := ⟨z, s, k, d, t⟩) (b := -1) H7.out.1.2 ⟨by omega, by omega⟩).mono ?_
            rintro e w8 ⟨rfl, hb8⟩
            rw [parts_out HQ.out (by omega)]
            have H8 := Lib.hid (H7.out.below hb8)
            clear hb8 c0 c1 c2 c3 c4
            go_wp2
            go_ret
            exact ⟨rfl, H8.out.2⟩
end Go.Proofs.Ythnoeiiebokooaa
