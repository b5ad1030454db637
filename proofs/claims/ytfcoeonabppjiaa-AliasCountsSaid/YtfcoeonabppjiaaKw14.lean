/- picks, weighs; AliasKnown: its walk. -/
import Derived.Test.YtfcoeonabppjiaaS14
import Derived.Test.YtfcoeonabppjiaaWt14
namespace Go.Proofs.Ytfcoeonabppjiaa
open Go.RowKit
set_option linter.unusedVariables false
/-- artesianlaw14.picks -/
theorem picks_any {w : World} {v : Value} {T : Int} {xs ys : List Int} (col lev want err : Int) (h : Al w v T xs ys) :
    Calls Try.prog 23 #[v, .int .i64 col, .int .i64 lev, .int .i64 want, .int .i64 err] w fun e w' => e = .returned (.bool ((pickV T xs ys col lev).1 == want && (pickV T xs ys col lev).2 == err)) ∧ Below w.heap.size w w' := by
  have hb := fun o => (Below.refl w.heap.size w).alloc (Nat.le_refl _) o
  have HB := Lib.hid hb
  obtain ⟨A, n, c, B, m, d, rfl, h1⟩ := h
  have HA := Lib.hid (show Al w (.agg #[.int .i64 T, .slice A n c, .slice B m d]) T xs ys from ⟨A, n, c, B, m, d, rfl, h1⟩)
  clear hb h1
  go_enter Try.func23, Try.ntmps23
  go_wp2_with fail
  refine (pick_any col lev (HA.out.below (HB.out _))).mono ?_
  rintro e w2 ⟨rfl, hb2⟩
  have HC := Lib.hid (below_base (HB.out _) hb2 (HB.out (.cells #[.int .i64 T, .slice A n c, .slice B m d] 26)).size)
  obtain ⟨q, hq⟩ : ∃ q, q = pickV T xs ys col lev := ⟨_, rfl⟩
  rw [← hq]
  obtain ⟨q1, q2⟩ := q
  have HQ := Lib.hid hq
  clear hq
  clear hb2
  by_cases e1 : q1 = want
  · have d1 : (q1 == want) = true := by simpa using e1
    clear e1
    go_wp2
    go_ret
    exact ⟨ret_bool (by rw [← HQ.out]; simp [d1]), HC.out⟩
  · have d1 : (q1 == want) = false := by simpa using e1
    clear e1
    go_wp2
    go_ret
    exact ⟨ret_bool (by rw [← HQ.out]; simp [d1]), HC.out⟩
/-- artesianlaw14.weighs -/
theorem weighs_any {w : World} {v : Value} {T : Int} {xs ys : List Int} (i want : Int) (h : Al w v T xs ys) :
    Calls Try.prog 24 #[v, .int .i64 i, .int .i64 want] w fun e w' => e = .returned (.bool ((weightV T xs ys i).1 == want && (weightV T xs ys i).2 == 0)) ∧ Below w.heap.size w w' := by
  have hb := fun o => (Below.refl w.heap.size w).alloc (Nat.le_refl _) o
  have HB := Lib.hid hb
  obtain ⟨A, n, c, B, m, d, rfl, h1⟩ := h
  have HA := Lib.hid (show Al w (.agg #[.int .i64 T, .slice A n c, .slice B m d]) T xs ys from ⟨A, n, c, B, m, d, rfl, h1⟩)
  clear hb h1
  go_enter Try.func24, Try.ntmps24
  go_wp2_with fail
  refine (weight_any i (HA.out.below (HB.out _))).mono ?_
  rintro e w2 ⟨rfl, hb2⟩
  have HC := Lib.hid (below_base (HB.out _) hb2 (HB.out (.cells #[.int .i64 T, .slice A n c, .slice B m d] 26)).size)
  obtain ⟨q, hq⟩ : ∃ q, q = weightV T xs ys i := ⟨_, rfl⟩
  rw [← hq]
  obtain ⟨q1, q2⟩ := q
  have HQ := Lib.hid hq
  clear hq
  clear hb2
  by_cases e1 : q1 = want
  · have d1 : (q1 == want) = true := by simpa using e1
    clear e1
    go_wp2
    go_ret
    exact ⟨ret_bool (by rw [← HQ.out]; simp [d1]), HC.out⟩
  · have d1 : (q1 == want) = false := by simpa using e1
    clear e1
    go_wp2
    go_ret
    exact ⟨ret_bool (by rw [← HQ.out]; simp [d1]), HC.out⟩
/-- A variable that holds an alias. -/
def AlVar (w0 : World) (P C O m : Nat) (T : Int) (xs ys : List Int) (w : World) : Prop :=
  Bk w P 26 [.int .i64 T, .slice (some ⟨C, 0, none⟩) m m, .slice (some ⟨O, 0, none⟩) m m] ∧ Al w (.agg #[.int .i64 T, .slice (some ⟨C, 0, none⟩) m m, .slice (some ⟨O, 0, none⟩) m m]) T xs ys ∧ Below w0.heap.size w0 w
theorem AlVar.below {w0 w w' : World} {P C O m : Nat} {T : Int} {xs ys : List Int} (h : AlVar w0 P C O m T xs ys w) (hb : Below w.heap.size w w') : AlVar w0 P C O m T xs ys w' := ⟨h.1.belowS hb, h.2.1.below hb, below_base h.2.2 hb h.2.2.size⟩
theorem alVar_new {w0 w : World} {C O m : Nat} {T : Int} {xs ys : List Int} (h : Al w (.agg #[.int .i64 T, .slice (some ⟨C, 0, none⟩) m m, .slice (some ⟨O, 0, none⟩) m m]) T xs ys) (hb : Below w0.heap.size w0 w) :
    AlVar w0 w.heap.size C O m T xs ys (w.alloc (.cells #[.int .i64 T, .slice (some ⟨C, 0, none⟩) m m, .slice (some ⟨O, 0, none⟩) m m] 26)) := by
  have hb1 := (Below.refl w.heap.size w).alloc (Nat.le_refl _) (.cells #[.int .i64 T, .slice (some ⟨C, 0, none⟩) m m, .slice (some ⟨O, 0, none⟩) m m] 26)
  have hk := Bk.newA w 26 #[.int .i64 T, .slice (some ⟨C, 0, none⟩) m m, .slice (some ⟨O, 0, none⟩) m m]
  exact ⟨hk, h.below hb1, below_base hb hb1 hb.size⟩
theorem no_nil : tabOk [] = false := rfl
theorem no_zeros : tabOk [0, 0] = false := by simp [tabOk]
theorem no_big : tabOk [16777216] = false := by simp [tabOk]
theorem chk_nil : chk 0 [] [] = 6 := by simp [chk, alOk]
theorem mk13 : (mk [1, 3]).cut = [2, 4] ∧ (mk [1, 3]).other = [1, 1] := by decide
set_option maxRecDepth 100000 in
set_option maxHeartbeats 4000000 in
/-- artesianlaw14.AliasKnown -/
theorem known_walk (w : World) : Calls Try.prog 6 #[] w fun e w' => e = .returned (.bool true) ∧ Below w.heap.size w w' := by
  have HM := Lib.hid (make_ok (t := [1, 3]) (c := 2) (Rd.lit w 3 #[.int .i64 1, .int .i64 3] w.heap.size rfl 2 rfl (nums [1, 3]) rfl) (by decide) (by decide))
  have hb0 := (Below.refl w.heap.size w).alloc (Nat.le_refl _) (.cells #[.int .i64 1, .int .i64 3] 3)
  have H0 := Lib.hid hb0
  clear hb0
  go_enter Try.func6, Try.ntmps6
  go_wp2_with fail
  refine HM.out.mono ?_
  rintro e w1 ⟨C, O, rfl, hC, hO, _, _, _, hb⟩
  have hal := al_of (t := [1, 3]) (by decide) hC hO
  rw [mk13.1, mk13.2] at hal
  have hs4 : ([1, 3] : List Int).sum = 4 := rfl
  have hl2 : ([1, 3] : List Int).length = 2 := rfl
  rw [hs4, hl2] at hal
  rw [hs4, hl2]
  have HV1 := Lib.hid (alVar_new hal (below_base H0.out hb H0.out.size))
  clear hs4 hl2
  have P1 := HV1.out.1
  clear HM H0 hC hO hb hal
  have c0 := P1.cell 0
  have c1 := P1.cell 1
  have c2 := P1.cell 2
  clear P1
  go_wp2_with fail
  refine (picks_any 0 1 0 0 HV1.out.2.1).mono ?_
  rintro e w2 ⟨rfl, hb⟩
  have HV2 := Lib.hid (HV1.out.below hb)
  have P1 := HV2.out.1
  rw [show ((pickV 4 [2, 4] [1, 1] 0 1).1 == 0 && (pickV 4 [2, 4] [1, 1] 0 1).2 == 0) = true from by decide]
  clear hb c0 c1 c2
  have c0 := P1.cell 0
  have c1 := P1.cell 1
  have c2 := P1.cell 2
  clear P1
  go_wp2_with fail
  refine (picks_any 0 2 1 0 HV2.out.2.1).mono ?_
  rintro e w3 ⟨rfl, hb⟩
  have HV3 := Lib.hid (HV2.out.below hb)
  have P1 := HV3.out.1
  rw [show ((pickV 4 [2, 4] [1, 1] 0 2).1 == 1 && (pickV 4 [2, 4] [1, 1] 0 2).2 == 0) = true from by decide]
  clear hb c0 c1 c2
  have c0 := P1.cell 0
  have c1 := P1.cell 1
  have c2 := P1.cell 2
  clear P1
  go_wp2_with fail
  refine (picks_any 1 3 1 0 HV3.out.2.1).mono ?_
  rintro e w4 ⟨rfl, hb⟩
  have HV4 := Lib.hid (HV3.out.below hb)
  have P1 := HV4.out.1
  rw [show ((pickV 4 [2, 4] [1, 1] 1 3).1 == 1 && (pickV 4 [2, 4] [1, 1] 1 3).2 == 0) = true from by decide]
  clear hb c0 c1 c2
  have c0 := P1.cell 0
  have c1 := P1.cell 1
  have c2 := P1.cell 2
  clear P1
  go_wp2_with fail
  refine (picks_any 2 0 0 3 HV4.out.2.1).mono ?_
  rintro e w5 ⟨rfl, hb⟩
  have HV5 := Lib.hid (HV4.out.below hb)
  have P1 := HV5.out.1
  rw [show ((pickV 4 [2, 4] [1, 1] 2 0).1 == 0 && (pickV 4 [2, 4] [1, 1] 2 0).2 == 3) = true from by decide]
  clear hb c0 c1 c2
  have c0 := P1.cell 0
  have c1 := P1.cell 1
  have c2 := P1.cell 2
  clear P1
  go_wp2_with fail
  refine (picks_any 0 4 0 3 HV5.out.2.1).mono ?_
  rintro e w6 ⟨rfl, hb⟩
  have HV6 := Lib.hid (HV5.out.below hb)
  have P1 := HV6.out.1
  rw [show ((pickV 4 [2, 4] [1, 1] 0 4).1 == 0 && (pickV 4 [2, 4] [1, 1] 0 4).2 == 3) = true from by decide]
  clear hb c0 c1 c2
  have c0 := P1.cell 0
  have c1 := P1.cell 1
  have c2 := P1.cell 2
  clear P1
  go_wp2_with fail
  refine (weighs_any 0 2 HV6.out.2.1).mono ?_
  rintro e w7 ⟨rfl, hb⟩
  have HV7 := Lib.hid (HV6.out.below hb)
  have P1 := HV7.out.1
  rw [show ((weightV 4 [2, 4] [1, 1] 0).1 == 2 && (weightV 4 [2, 4] [1, 1] 0).2 == 0) = true from by decide]
  clear hb c0 c1 c2
  have c0 := P1.cell 0
  have c1 := P1.cell 1
  have c2 := P1.cell 2
  clear P1
  go_wp2_with fail
  refine (weighs_any 1 6 HV7.out.2.1).mono ?_
  rintro e w8 ⟨rfl, hb⟩
  have HV8 := Lib.hid (HV7.out.below hb)
  have P1 := HV8.out.1
  rw [show ((weightV 4 [2, 4] [1, 1] 1).1 == 6 && (weightV 4 [2, 4] [1, 1] 1).2 == 0) = true from by decide]
  clear hb c0 c1 c2
  clear P1
  have HB0 := Lib.hid HV8.out.2.2
  go_wp2_with fail
  refine (make_no (c := 0) (t := []) (Rd.nil _ none) (by omega) no_nil).mono ?_
  rintro e w9 ⟨rfl, hb⟩
  have h9 := below_base HB0.out hb HB0.out.size
  have HB1 := Lib.hid (h9.alloc h9.size (.cells #[.int .i64 0, .slice none 0 0, .slice none 0 0] 26))
  have HM := Lib.hid (make_no (t := [0, 0]) (c := 2) (Rd.lit (w9.alloc (.cells #[.int .i64 0, .slice none 0 0, .slice none 0 0] 26)) 3 #[.int .i64 0, .int .i64 0] (w9.heap.size + 1) (by rw [World.size_alloc]) 2 rfl (nums [0, 0]) rfl) (by omega) no_zeros)
  have HL := Lib.hid (HB1.out.alloc HB1.out.size (.cells #[.int .i64 0, .int .i64 0] 3))
  clear hb h9
  go_wp2_with fail
  refine HM.out.mono ?_
  rintro e wb ⟨rfl, hb⟩
  have h9 := below_base HL.out hb HL.out.size
  have HB2 := Lib.hid (h9.alloc h9.size (.cells #[.int .i64 0, .slice none 0 0, .slice none 0 0] 26))
  clear HM HL
  have HM := Lib.hid (make_no (t := [16777216]) (c := 1) (Rd.lit (wb.alloc (.cells #[.int .i64 0, .slice none 0 0, .slice none 0 0] 26)) 3 #[.int .i64 16777216] (wb.heap.size + 1) (by rw [World.size_alloc]) 1 rfl (nums [16777216]) rfl) (by omega) no_big)
  have HL := Lib.hid (HB2.out.alloc HB2.out.size (.cells #[.int .i64 16777216] 3))
  clear hb h9
  go_wp2_with fail
  refine HM.out.mono ?_
  rintro e wd ⟨rfl, hb⟩
  have h9 := below_base HL.out hb HL.out.size
  have HB3 := Lib.hid (h9.alloc h9.size (.cells #[.int .i64 0, .slice none 0 0, .slice none 0 0] 26))
  clear HM HL
  clear hb h9
  go_wp2_with fail
  refine awake_any.mono ?_
  rintro e wf ⟨rfl, hb⟩
  have HB4 := Lib.hid (below_base HB3.out hb HB3.out.size)
  clear hb
  go_wp2_with fail
  refine (check_any (Al.nil _)).mono ?_
  rintro e wg ⟨rfl, hb⟩
  have HB5 := Lib.hid (below_base HB4.out hb HB4.out.size)
  rw [chk_nil]
  clear hb
  go_wp2
  go_ret
  exact ⟨rfl, HB5.out⟩
end Go.Proofs.Ytfcoeonabppjiaa
