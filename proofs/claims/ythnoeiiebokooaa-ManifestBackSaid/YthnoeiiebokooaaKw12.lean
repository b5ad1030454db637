/- Chapter 12: ManifestKnown's walk. -/
import Derived.Test.YthnoeiiebokooaaRd12
import Derived.Test.YthnoeiiebokooaaBq12
namespace Go.Proofs.Ythnoeiiebokooaa
open Go.RowKit
set_option linter.unusedVariables false
theorem ten_agg (A : Option Addr) (n c : Nat) : tenM.v A n c = .agg #[.int .i64 10, .int .i64 2, .int .i64 2, .int .i64 7, .slice A n c] := rfl
theorem w27_b : rgB (wantB.take 27) = false := by decide
theorem w29_b : rgB (wantB ++ [0]) = false := by decide
theorem gt_no {b : List UInt8} (h : rgB b = false) : gtM b = ⟨0, 0, 0, 0, []⟩ ∧ gtE b = 6 := by
  rw [(gt_rt b).1, (gt_rt b).2]
  unfold rtM rtE
  rw [h]
  exact ⟨rfl, rfl⟩
theorem get_no {w : World} {A : Option Addr} {n c : Nat} {b : List UInt8} (h : Rd w A n (bys b)) (hn : n ≤ 17592186043904) (hb : rgB b = false) : Calls Try.prog 10 #[.slice A n c] w fun e w' => ∃ A' c', e = .returned (.tuple #[.agg #[.int .i64 0, .int .i64 0, .int .i64 0, .int .i64 0, .slice A' 0 c'], .int .i64 6]) ∧ Below w.heap.size w w' := by
  refine (getM_lit h hn (gt_no hb).1 rfl).mono ?_
  rintro e w' ⟨A', c', rfl, _, _, hbl⟩
  exact ⟨A', c', by rw [(gt_no hb).2]; rfl, hbl⟩
theorem app_zero (l : List UInt8) : bys l ++ [Value.int .u8 0] = bys (l ++ [0]) := by rw [bys_append]; rfl
/-- A manifest in a block. -/
def LM (w : World) (g : Nat) (A : Option Addr) (n c : Nat) (z s k d : Int) (t : List Int) : Prop :=
  Bk w g 27 [.int .i64 z, .int .i64 s, .int .i64 k, .int .i64 d, .slice A n c] ∧ MA w A n c ⟨z, s, k, d, t⟩
theorem LM.below {w w' : World} {g n c : Nat} {A : Option Addr} {z s k d : Int} {t : List Int} (h : LM w g A n c z s k d t) (hb : Below w.heap.size w w') : LM w' g A n c z s k d t := ⟨h.1.belowS hb, h.2.below hb⟩
def KS (w w' : World) (G P : Nat) (A1 A11 A12 : Option Addr) : Prop :=
  LM w' G A1 2 2 10 2 2 7 [1, 1] ∧ LM w' P none 0 0 10 2 2 7 [] ∧ LM w' (P + 1) A11 2 2 10 2 1 7 [1, 1] ∧ LM w' (P + 1 + 1) A12 2 2 0 2 2 7 [1, 1] ∧ Below w.heap.size w w'
theorem KS.below {w w' w'' : World} {G P : Nat} {A1 A11 A12 : Option Addr} (h : KS w w' G P A1 A11 A12) (hb : Below w'.heap.size w' w'') : KS w w'' G P A1 A11 A12 :=
  ⟨h.1.below hb, h.2.1.below hb, h.2.2.1.below hb, h.2.2.2.1.below hb, below_base h.2.2.2.2 hb h.2.2.2.2.size⟩
theorem one_list : ∀ x ∈ [(1 : Int), 1], R64 x := by
  intro x hx
  have : x = 1 := by simpa using hx
  subst this
  constructor <;> decide
theorem ma_of {w : World} {A : Option Addr} (h : MA w A 2 2 tenM) (z s k d : Int) (hz : R64 z) (hs : R64 s) (hk : R64 k) (hd : R64 d) : MA w A 2 2 ⟨z, s, k, d, [1, 1]⟩ := ⟨h.1, Nat.le_refl _, by omega, rfl, hz, hs, hk, hd, one_list⟩
theorem r64s : R64 10 ∧ R64 2 ∧ R64 1 ∧ R64 7 ∧ R64 0 := ⟨⟨by decide, by decide⟩, ⟨by decide, by decide⟩, ⟨by decide, by decide⟩, ⟨by decide, by decide⟩, ⟨by decide, by decide⟩⟩
set_option maxRecDepth 100000 in
set_option maxHeartbeats 3200000 in
theorem known_any {w : World} : Calls Try.prog 5 #[] w fun e w' => e = .returned (.bool true) ∧ Below w.heap.size w w' := by
  obtain ⟨i0, hi0, hz0, hz1, hz2⟩ := info_parts u8_info
  go_enter Try.func5, Try.ntmps5
  go_wp2_with fail
  refine ten_any.mono ?_
  rintro e w1 ⟨A1, rfl, hm1, hb1⟩
  rw [ten_agg]
  have hb2 := (Below.refl w1.heap.size w1).alloc (Nat.le_refl _) (.cells #[.int .i64 10, .int .i64 2, .int .i64 2, .int .i64 7, .slice A1 2 2] 27)
  have H2 := Lib.hid (And.intro (show LM (w1.alloc (.cells #[.int .i64 10, .int .i64 2, .int .i64 2, .int .i64 7, .slice A1 2 2] 27)) w1.heap.size A1 2 2 10 2 2 7 [1, 1] from ⟨Bk.newA w1 _ _, hm1.below hb2⟩) (below_base hb1 hb2 hb1.size))
  clear hm1 hb1 hb2
  obtain ⟨c0, c1, c2, c3, c4⟩ := cells5 H2.out.1.1
  go_wp2_with fail
  clear c0 c1 c2 c3 c4
  generalize w1.alloc (.cells #[.int .i64 10, .int .i64 2, .int .i64 2, .int .i64 7, .slice A1 2 2] 27) = w2 at H2 ⊢
  generalize w1.heap.size = G at H2 ⊢
  refine (putM_any (m := tenM) H2.out.1.2).mono ?_
  rintro e w3 ⟨v, rfl, ho3, hb3⟩
  rw [ten_p] at ho3
  rw [ten_e]
  obtain ⟨A3, d3, rfl, hd3, _⟩ := own_form ho3
  have hd3' : 28 ≤ d3 := hd3
  have H3 := Lib.hid (And.intro (show w3.ownsRow w2.heap.size 5 1 (.slice A3 28 d3) 28 (bys wantB) from ho3) hb3)
  have hr3 : Rd w3 A3 27 (bys (wantB.take 27)) := by
    have := (Rd.of_own H3.out.1).take_ (k := 27) (by omega)
    rw [bys_take] at this
    exact this
  have HR3 := Lib.hid hr3
  have hto : ∀ w : World, (Instr.slice 22 (.slice A3 28 d3) none (some (.int .i64 27)) none).run Try.prog w = .ok (.slice A3 27 d3) w := run_to (P := Try.prog) (t := 22) Try.underlying22 hi0 hz1 A3 28 d3 27 .i64 (by omega)
  clear ho3 hb3 hd3 hr3
  rw [show wantB.length = 28 from rfl]
  go_wp2_with fail
  refine (get_no HR3.out (by omega) w27_b).mono ?_
  rintro e w4 ⟨A4, d4, rfl, hb4⟩
  have hb5 := (Below.refl w4.heap.size w4).alloc (Nat.le_refl _) (.cells #[.int .i64 0, .int .i64 0, .int .i64 0, .int .i64 0, .slice A4 0 d4] 27)
  have hb6 := below_base hb4 hb5 hb4.size
  have H5 := Lib.hid (And.intro (own_below H3.out.1 hb6) (below_base H3.out.2 hb6 H3.out.2.size))
  clear hto hb4 hb5 hb6
  go_wp2_with fail
  generalize w4.alloc (.cells #[.int .i64 0, .int .i64 0, .int .i64 0, .int .i64 0, .slice A4 0 d4] 27) = w5 at H5 ⊢
  refine (copy_any (Rd.of_own H5.out.1) (by omega)).mono ?_
  rintro e w6 ⟨v, rfl, ho6, hb6⟩
  obtain ⟨A6, d6, rfl, hd6, _⟩ := own_form ho6
  have H6 := Lib.hid (And.intro ho6 (below_base H5.out.2 hb6 H5.out.2.size))
  have HB6 := Lib.hid hb6.size
  clear ho6 hb6 hd6
  go_wp2_with (at_builtin; refine wpList_append_rd _ rfl (.tmp 32) (.tmp 33) _ rfl w5.heap.size 5 i0 _ 1 1 Try.underlying22 hi0 hz0 hz1 hz2 rfl (by omega) _ 28 (bys wantB) rfl (own_below H6.out.1 ((Below.refl _ _).alloc (Nat.le_refl _) _)) (some ⟨w6.heap.size, 0, none⟩) 1 1 _ rfl (Rd.one _ _ _) (by simp [Value.oneCell']) (by simp only [maxLen]; omega) (by omega) (by rw [World.size_alloc]; exact Nat.le_succ_of_le HB6.out) ?_; intro v7 w7 hown7 hg7 hat7; rw [app_zero] at hown7; obtain ⟨A7, d7, rfl, _⟩ := own_form hown7; have hb7 := ((Below.refl w6.heap.size w6).alloc (Nat.le_refl _) (.cells #[.int .u8 0] 5)); have hb8 := (H6.out.2.alloc H6.out.2.size (.cells #[.int .u8 0] 5)).grown hg7 (by rw [World.size_alloc]; exact Nat.le_succ_of_le H6.out.2.size) (fun g hk => Nat.le_trans H5.out.2.size ((own_below H6.out.1 hb7).lt g hk).1); have H7 := Lib.hid (And.intro (Rd.of_own hown7) hb8); clear hown7 hg7 hat7 hb7 hb8)
  refine (get_no (n := 29) H7.out.1 (by omega) w29_b).mono ?_
  rintro e w8 ⟨A8, d8, rfl, hb8⟩
  have hb9 := (Below.refl w8.heap.size w8).alloc (Nat.le_refl _) (.cells #[.int .i64 0, .int .i64 0, .int .i64 0, .int .i64 0, .slice A8 0 d8] 27)
  have hb10 := below_base hb8 hb9 hb8.size
  have H9 := Lib.hid (below_base H7.out.2 hb10 H7.out.2.size)
  clear hb8 hb9 hb10
  go_wp2_with fail
  generalize w8.alloc (.cells #[.int .i64 0, .int .i64 0, .int .i64 0, .int .i64 0, .slice A8 0 d8] 27) = w9 at H9 ⊢
  refine ten_any.mono ?_
  rintro e w10 ⟨A10, rfl, hm10, hb10⟩
  have H10 := Lib.hid (And.intro hm10 (below_base H9.out hb10 H9.out.size))
  clear hm10 hb10
  rw [ten_agg]
  go_wp2_with fail
  refine ten_any.mono ?_
  rintro e w11 ⟨A11, rfl, hm11, hb11⟩
  have H11 := Lib.hid (And.intro (H10.out.1.below hb11) (And.intro hm11 (below_base H10.out.2 hb11 H10.out.2.size)))
  clear hm11 hb11
  rw [ten_agg]
  go_wp2_with fail
  refine ten_any.mono ?_
  rintro e w12 ⟨A12, rfl, hm12, hb12⟩
  have H12 := Lib.hid (And.intro (H11.out.1.below hb12) (And.intro (H11.out.2.1.below hb12) (And.intro hm12 (below_base H11.out.2.2 hb12 H11.out.2.2.size))))
  clear hm12 hb12
  rw [ten_agg]
  go_wp2_with fail
  have hK : KS w (((w12.alloc (.cells #[.int .i64 10, .int .i64 2, .int .i64 2, .int .i64 7, .slice none 0 0] 27)).alloc (.cells #[.int .i64 10, .int .i64 2, .int .i64 1, .int .i64 7, .slice A11 2 2] 27)).alloc (.cells #[.int .i64 0, .int .i64 2, .int .i64 2, .int .i64 7, .slice A12 2 2] 27)) G w12.heap.size A1 A11 A12 := by
    have hb1 : Below w12.heap.size w12 (((w12.alloc (.cells #[.int .i64 10, .int .i64 2, .int .i64 2, .int .i64 7, .slice none 0 0] 27)).alloc (.cells #[.int .i64 10, .int .i64 2, .int .i64 1, .int .i64 7, .slice A11 2 2] 27)).alloc (.cells #[.int .i64 0, .int .i64 2, .int .i64 2, .int .i64 7, .slice A12 2 2] 27)) := (((Below.refl _ _).alloc (Nat.le_refl _) _).alloc (by rw [World.size_alloc]; omega) _).alloc (by rw [World.size_alloc, World.size_alloc]; omega) _
    have hB := below_base H12.out.2.2.2 hb1 H12.out.2.2.2.size
    have q9 := (Bk.newA (w12.alloc (.cells #[.int .i64 10, .int .i64 2, .int .i64 2, .int .i64 7, .slice none 0 0] 27)) 27 #[.int .i64 10, .int .i64 2, .int .i64 1, .int .i64 7, .slice A11 2 2]).alloc (.cells #[.int .i64 0, .int .i64 2, .int .i64 2, .int .i64 7, .slice A12 2 2] 27)
    have q10 := Bk.newA ((w12.alloc (.cells #[.int .i64 10, .int .i64 2, .int .i64 2, .int .i64 7, .slice none 0 0] 27)).alloc (.cells #[.int .i64 10, .int .i64 2, .int .i64 1, .int .i64 7, .slice A11 2 2] 27)) 27 #[.int .i64 0, .int .i64 2, .int .i64 2, .int .i64 7, .slice A12 2 2]
    rw [World.size_alloc] at q9
    rw [World.size_alloc, World.size_alloc] at q10
    refine ⟨H2.out.1.below hB, ⟨((Bk.newA w12 _ _).alloc _).alloc _, ⟨Rd.nil _ _, Nat.le_refl _, by omega, rfl, r64s.1, r64s.2.1, r64s.2.1, r64s.2.2.2.1, fun x hx => by cases hx⟩⟩, ⟨q9, ?_⟩, ⟨q10, ?_⟩, below_base H2.out.2 hB H2.out.2.size⟩
    · exact ma_of (H12.out.2.1.below hb1) _ _ _ _ r64s.1 r64s.2.1 r64s.2.2.1 r64s.2.2.2.1
    · exact ma_of (H12.out.2.2.1.below hb1) _ _ _ _ r64s.2.2.2.2 r64s.2.1 r64s.2.1 r64s.2.2.2.1
  have HK := Lib.hid hK
  clear hK
  generalize ((w12.alloc (.cells #[.int .i64 10, .int .i64 2, .int .i64 2, .int .i64 7, .slice none 0 0] 27)).alloc (.cells #[.int .i64 10, .int .i64 2, .int .i64 1, .int .i64 7, .slice A11 2 2] 27)).alloc (.cells #[.int .i64 0, .int .i64 2, .int .i64 2, .int .i64 7, .slice A12 2 2] 27) = w13 at HK ⊢
  generalize w12.heap.size = P at HK ⊢
  refine awake_any.mono ?_
  rintro e wa ⟨rfl, hba⟩
  have S0 := Lib.hid (HK.out.below hba)
  clear hba
  obtain ⟨c0, c1, c2, c3, c4⟩ := cells5 S0.out.1.1
  go_wp2_with fail
  refine (lies_any (m := tenM) (b := 0) S0.out.1.2 (by constructor <;> decide)).mono ?_
  rintro e w20 ⟨rfl, hbq⟩
  rw [show (prF tenM 0 == 0 && (prS tenM 0 == 4 && prE tenM 0 == 0)) = true from by decide]
  have S1 := Lib.hid (S0.out.below hbq)
  clear hbq c0 c1 c2 c3 c4
  obtain ⟨c0, c1, c2, c3, c4⟩ := cells5 S1.out.1.1
  go_wp2_with fail
  refine (lies_any (m := tenM) (b := 2) S1.out.1.2 (by constructor <;> decide)).mono ?_
  rintro e w21 ⟨rfl, hbq⟩
  rw [show (prF tenM 2 == 8 && (prS tenM 2 == 2 && prE tenM 2 == 0)) = true from by decide]
  have S2 := Lib.hid (S1.out.below hbq)
  clear hbq c0 c1 c2 c3 c4
  obtain ⟨c0, c1, c2, c3, c4⟩ := cells5 S2.out.1.1
  go_wp2_with fail
  refine (lies_any (m := tenM) (b := 3) S2.out.1.2 (by constructor <;> decide)).mono ?_
  rintro e w22 ⟨rfl, hbq⟩
  rw [show (prF tenM 3 == 0 && (prS tenM 3 == 0 && prE tenM 3 == 3)) = true from by decide]
  have S3 := Lib.hid (S2.out.below hbq)
  clear hbq c0 c1 c2 c3 c4
  obtain ⟨c0, c1, c2, c3, c4⟩ := cells5 S3.out.2.1.1
  go_wp2_with fail
  refine (check_any (m := ⟨10, 2, 2, 7, []⟩) S3.out.2.1.2).mono ?_
  rintro e w23 ⟨rfl, hbq⟩
  rw [show mfE ⟨10, 2, 2, 7, []⟩ = 2 from by decide]
  have S4 := Lib.hid (S3.out.below hbq)
  clear hbq c0 c1 c2 c3 c4
  obtain ⟨c0, c1, c2, c3, c4⟩ := cells5 S4.out.2.2.1.1
  go_wp2_with fail
  refine (check_any (m := ⟨10, 2, 1, 7, [1, 1]⟩) S4.out.2.2.1.2).mono ?_
  rintro e w24 ⟨rfl, hbq⟩
  rw [show mfE ⟨10, 2, 1, 7, [1, 1]⟩ = 2 from by decide]
  have S5 := Lib.hid (S4.out.below hbq)
  clear hbq c0 c1 c2 c3 c4
  obtain ⟨c0, c1, c2, c3, c4⟩ := cells5 S5.out.2.2.2.1.1
  go_wp2_with fail
  refine (blocks_any (m := ⟨0, 2, 2, 7, [1, 1]⟩) S5.out.2.2.2.1.2).mono ?_
  rintro e w25 ⟨rfl, hbq⟩
  rw [show mfN ⟨0, 2, 2, 7, [1, 1]⟩ = 0 from by decide]
  have S6 := Lib.hid (S5.out.below hbq)
  clear hbq c0 c1 c2 c3 c4
  obtain ⟨c0, c1, c2, c3, c4⟩ := cells5 S6.out.2.2.2.1.1
  go_wp2_with fail
  refine (check_any (m := ⟨0, 2, 2, 7, [1, 1]⟩) S6.out.2.2.2.1.2).mono ?_
  rintro e w26 ⟨rfl, hbq⟩
  rw [show mfE ⟨0, 2, 2, 7, [1, 1]⟩ = 0 from by decide]
  have S7 := Lib.hid (S6.out.below hbq)
  clear hbq c0 c1 c2 c3 c4
  go_wp2
  go_ret
  exact ⟨rfl, S7.out.2.2.2.2⟩
theorem known_walk (w : World) : Calls Try.prog 5 #[] w fun e w' => e = .returned (.bool true) ∧ Below w.heap.size w w' := known_any
end Go.Proofs.Ythnoeiiebokooaa
