/- CrcSums and CrcOpens: what each law's walk comes to. -/
import Derived.Test.YtgcahbdoemjmmaaI09
import Derived.Laws.StructEq
import Derived.ChangeKeysEq
namespace Go.Proofs.Ytgcahbdoemjmmaa
open Go.RowKit
set_option linter.unusedVariables false
/-- An array of numbers is the same as itself. -/
theorem run_same_u32s {P : Program} (w : World) (t e : TypeId) (l : List Nat) (ht : P.underlying t = some (.array l.length e)) (he : P.underlying e = some (.int .u32)) (hs : ∀ w, (sizeOf e).run P w = .ok 1 w) :
    (Op.equalIn 10000 t (.agg (u32s l).toArray) (.agg (u32s l).toArray)).run P w = .ok true w := by
  have one : ∀ i, i < l.length → (part e (u32s l).toArray (i * 1)).run P w = .ok (.int .u32 ((l.getD i 0 : Nat) : Int)) w := by
    intro i hi
    have hg : (u32s l)[i]? = some (.int .u32 ((l.getD i 0 : Nat) : Int)) := u32s_get (by rw [List.getD_eq_getElem?_getD, List.getElem?_eq_getElem hi]; rfl)
    simp [part, isAgg, run_underlying he, hg]
  have two : ∀ x : Int, (Op.equalIn 9999 e (.int .u32 x) (.int .u32 x)).run P w = .ok true w := by
    intro x
    rw [run_equalIn_int w 9998 e .u32 .u32 _ _ he]
    simp
  rw [Op.equalIn]
  simp only [Sem.run_bind, run_underlying ht, Result.andThen_ok, hs, Std.Legacy.Range.forIn_eq_forIn_range', Std.Legacy.Range.size, Nat.sub_zero, Nat.add_sub_cancel, Nat.div_one]
  have below : ∀ i ∈ List.range' 0 l.length 1, i < l.length := fun i hi => by simpa using (List.mem_range'_1.1 hi).2
  generalize List.range' 0 l.length 1 = r at below ⊢
  induction r with
  | nil => simp
  | cons i r ih =>
    have hi := below i (by simp)
    simp only [List.forIn_cons, Sem.run_bind, one i hi, two, Result.andThen_ok, Bool.not_true, Bool.false_eq_true, if_false, Sem.run_pure]
    exact ih fun j hj => below j (by simp [hj])
theorem tab_same (w : World) : (Op.equalIn 10000 31 (.agg (u32s tableL).toArray) (.agg (u32s tableL).toArray)).run Try.prog w = .ok true w :=
  run_same_u32s w 31 23 tableL (by rw [tableL_length]; exact Try.underlying31) Try.underlying23 (fun w => by
    have h : (Try.prog.info? 23).isSome = true := by kernel_rfl
    obtain ⟨i, hi⟩ := Option.isSome_iff_exists.1 h
    rw [run_sizeOf w hi]
    rw [show Try.prog.cellsOf 23 = 1 from by kernel_rfl])
set_option maxRecDepth 100000 in
set_option maxHeartbeats 4000000 in
/-- artesianlaw09.CrcSums -/
theorem sums_walk {w : World} {A : Option Addr} {n c : Nat} {b : List UInt8} (h : Rd w A n (bys b) ∧ n ≤ c ∧ n ≤ 140737488351232) (mine : Bool) {which odd : Int} (hw : (Lit.int .i64 which).wf = true) (ho : (Lit.int .u32 odd).wf = true) :
    Calls Try.prog 3 #[.slice A n c, .bool mine, .int .i64 which, .int .u32 odd] w fun e w' => e = .returned (.bool true) ∧ Below w.heap.size w w' := by
  obtain ⟨hr, hc, hn⟩ := h
  have HR := Lib.hid hr
  clear hr
  by_cases hgt : (n : Int) > 3000
  · clear hw ho
    go_enter Try.func3, Try.ntmps3
    go_wp2_with fail
    refine awake_any.mono ?_
    rintro e w1 ⟨rfl, hb1⟩
    have H1 := Lib.hid hb1
    clear hb1
    go_wp2_with fail
    go_ret
    exact ⟨rfl, H1.out⟩
  have hn3 : n ≤ 3000 := by omega
  have hd : (n : Int) ≤ 3000 := by omega
  have HW := Lib.hid (And.intro hw ho)
  clear hw ho hgt
  go_enter Try.func3, Try.ntmps3
  go_wp2_with fail
  refine (lawTab_any mine which odd HW.out.1 HW.out.2).mono ?_
  rintro e w1 ⟨p, rfl, ht1, hb1⟩
  obtain ⟨t, ht⟩ : ∃ t, t = lawTab mine which odd := ⟨_, rfl⟩
  rw [← ht] at ht1
  have H1 := Lib.hid (And.intro ht1 (And.intro (HR.out.below hb1) hb1))
  clear ht1 hb1 ht
  go_wp2_with fail
  refine (lent_any H1.out.2.1 (by omega)).mono ?_
  rintro e w2 ⟨AL, cL, rfl, hcL, hoL, hb2⟩
  have hs1 := H1.out.2.2.size
  have H2 := Lib.hid (And.intro (H1.out.1.below hb2) (And.intro (H1.out.2.1.below hb2) (And.intro (Rd.of_own hoL) (below_base H1.out.2.2 hb2 hs1))))
  have hl : b.length = n := by have := HR.out.1; simpa [bys_length] using this
  have HL : Hid (Rd w2 AL n (bys b)) := Lib.hid (by
    have := H2.out.2.2.1.take_ (k := n) (by omega)
    rw [bys_take, List.take_append_of_le_length (by omega), List.take_of_length_le (by omega)] at this
    exact this)
  clear hoL hb2 hl
  go_wp2_with fail
  refine (crcSeal_any H2.out.1 HL.out (by omega)).mono ?_
  rintro e w3 ⟨A3, c3, g3, rfl, hc3, hm3, hg3, hb3⟩
  have H3 := Lib.hid (And.intro hm3 (And.intro hg3 hb3))
  have hs3 := hb3.size
  clear hm3 hg3 hb3
  go_wp2_with fail
  refine (crcSum_any (H2.out.1.below H3.out.2.2) (HL.out.below H3.out.2.2) (by omega)).mono ?_
  rintro e w4 ⟨rfl, hb4⟩
  have hs4 := hb4.size
  have H4 := Lib.hid (And.intro (below_base H3.out.2.2 hb4 hs3) hb4)
  clear hb4
  go_wp2_with fail
  refine (refSum_any (H2.out.1.below H4.out.1) (H2.out.2.1.below H4.out.1) (by omega)).mono ?_
  rintro e w' ⟨rfl, rfl⟩
  obtain ⟨s, hs⟩ : ∃ s, s = crcSum t b := ⟨_, rfl⟩
  rw [← hs]
  clear hs
  go_wp2_with fail
  refine (refSeal_any (H2.out.1.below H4.out.1) (H2.out.2.1.below H4.out.1) (by omega)).mono ?_
  rintro e w5 ⟨A5, c5, g5, rfl, hc5, hm5, hg5, hb5⟩
  have hs5 := hb5.size
  have H5 := Lib.hid (And.intro (below_base H4.out.1 hb5 (by omega)) (And.intro (below_base H4.out.2 hb5 hs4) hm5.rd))
  clear hm5 hg5 hb5
  go_wp2_with fail
  refine (same_true (H3.out.1.rd.below H5.out.2.1) H5.out.2.2).mono ?_
  rintro e w' ⟨rfl, rfl⟩
  go_wp2_with fail
  refine crcTable_any.mono ?_
  rintro e w6 ⟨rfl, hb6⟩
  have hs6 := hb6.size
  have H6 := Lib.hid (And.intro (below_base H5.out.1 hb6 (by omega)) (below_base H5.out.2.1 hb6 (by omega)))
  clear hb6
  go_wp2_with fail
  refine refTable_any.mono ?_
  rintro e w7 ⟨rfl, hb7⟩
  have hs7 := hb7.size
  have H7 := Lib.hid (And.intro (below_base H6.out.1 hb7 (by omega)) (below_base H6.out.2 hb7 (by omega)))
  clear hb7
  have heq := tab_same w7
  go_wp2_with fail
  refine (over_any (H3.out.1.below H7.out.2) (by omega)).mono ?_
  rintro e w8 ⟨rfl, hu8⟩
  have H8 := Lib.hid (hu8.below H7.out.1 (by omega) H3.out.2.1)
  have hs8 := H8.out.size
  clear hu8 heq
  go_wp2_with fail
  refine (kept_any (H2.out.2.2.1.below H8.out) (H2.out.2.1.below H8.out) (by omega) hcL).mono ?_
  rintro e w9 ⟨rfl, hb9⟩
  have H9 := Lib.hid (below_base H8.out hb9 hs8)
  have hs9 := hb9.size
  clear hb9
  go_wp2_with fail
  refine awake_any.mono ?_
  rintro e w10 ⟨rfl, hb10⟩
  have H10 := Lib.hid (below_base H9.out hb10 (by omega))
  clear hb10
  go_wp2_with fail
  go_ret
  exact ⟨rfl, below_base H2.out.2.2.2 H10.out H2.out.2.2.2.size⟩
set_option maxRecDepth 100000 in
set_option maxHeartbeats 4000000 in
/-- artesianlaw09.CrcOpens -/
theorem opens_walk {w : World} {A : Option Addr} {n c : Nat} {b : List UInt8} (h : Rd w A n (bys b) ∧ n ≤ c ∧ n ≤ 140737488351232) (mine : Bool) {which odd : Int} (hw : (Lit.int .i64 which).wf = true) (ho : (Lit.int .u32 odd).wf = true) :
    Calls Try.prog 4 #[.slice A n c, .bool mine, .int .i64 which, .int .u32 odd] w fun e w' => e = .returned (.bool true) ∧ Below w.heap.size w w' := by
  obtain ⟨hr, hc, hn⟩ := h
  have HR := Lib.hid hr
  clear hr
  by_cases hgt : (n : Int) > 3000
  · clear hw ho
    go_enter Try.func4, Try.ntmps4
    go_wp2_with fail
    refine awake_any.mono ?_
    rintro e w1 ⟨rfl, hb1⟩
    have H1 := Lib.hid hb1
    clear hb1
    go_wp2_with fail
    go_ret
    exact ⟨rfl, H1.out⟩
  have hn3 : n ≤ 3000 := by omega
  have hd : (n : Int) ≤ 3000 := by omega
  have HW := Lib.hid (And.intro hw ho)
  clear hw ho hgt
  go_enter Try.func4, Try.ntmps4
  go_wp2_with fail
  refine (lawTab_any mine which odd HW.out.1 HW.out.2).mono ?_
  rintro e w1 ⟨p, rfl, ht1, hb1⟩
  obtain ⟨t, ht⟩ : ∃ t, t = lawTab mine which odd := ⟨_, rfl⟩
  rw [← ht] at ht1
  have H1 := Lib.hid (And.intro ht1 (And.intro (HR.out.below hb1) hb1))
  clear ht1 hb1 ht
  go_wp2_with fail
  refine (lent_any H1.out.2.1 (by omega)).mono ?_
  rintro e w2 ⟨AL, cL, rfl, hcL, hoL, hb2⟩
  have hs1 := H1.out.2.2.size
  have H2 := Lib.hid (And.intro (H1.out.1.below hb2) (And.intro (H1.out.2.1.below hb2) (And.intro (Rd.of_own hoL) (below_base H1.out.2.2 hb2 hs1))))
  have hl : b.length = n := by have := HR.out.1; simpa [bys_length] using this
  have HL : Hid (Rd w2 AL n (bys b)) := Lib.hid (by
    have := H2.out.2.2.1.take_ (k := n) (by omega)
    rw [bys_take, List.take_append_of_le_length (by omega), List.take_of_length_le (by omega)] at this
    exact this)
  have hm : (openB t b).length ≤ n := by
    unfold openB
    split
    · rw [List.length_take]; omega
    · simp
  clear hoL hb2 hl
  go_wp2_with fail
  refine (crcOpen_any H2.out.1 HL.out (by omega) (by omega)).mono ?_
  rintro e w3 ⟨A3, n3, c3, g3, rfl, hc3, hm3, hg3, hb3⟩
  have hn3' : n3 ≤ n := by have := hm3.1; rw [bys_length] at this; omega
  have H3 := Lib.hid (And.intro hm3 (And.intro hg3 hb3))
  have hs3 := hb3.size
  clear hm3 hg3 hb3 hm
  obtain ⟨x, hx⟩ : ∃ x, x = openE t b := ⟨_, rfl⟩
  rw [← hx]
  have HX := Lib.hid hx
  clear hx
  go_wp2_with fail
  refine (refOpen_any (H2.out.1.below H3.out.2.2) (H2.out.2.1.below H3.out.2.2) (by omega) hc).mono ?_
  rintro e w5 ⟨A5, n5, c5, g5, rfl, hc5, hm5, hg5, hb5⟩
  rw [← HX.out]
  have hs5 := hb5.size
  have H5 := Lib.hid (And.intro (below_base H3.out.2.2 hb5 hs3) (And.intro hb5 hm5.rd))
  clear hm5 hg5 hb5
  go_wp2_with fail
  refine (same_true (H3.out.1.rd.below H5.out.2.1) H5.out.2.2).mono ?_
  rintro e w' ⟨rfl, rfl⟩
  go_wp2_with fail
  refine (over_any (H3.out.1.below H5.out.2.1) (by omega)).mono ?_
  rintro e w8 ⟨rfl, hu8⟩
  have H8 := Lib.hid (hu8.below H5.out.1 (by omega) H3.out.2.1)
  have hs8 := H8.out.size
  clear hu8
  go_wp2_with fail
  refine (kept_any (H2.out.2.2.1.below H8.out) (H2.out.2.1.below H8.out) (by omega) hcL).mono ?_
  rintro e w9 ⟨rfl, hb9⟩
  have H9 := Lib.hid (below_base H8.out hb9 hs8)
  have hs9 := hb9.size
  clear hb9
  go_wp2_with fail
  refine awake_any.mono ?_
  rintro e w10 ⟨rfl, hb10⟩
  have H10 := Lib.hid (below_base H9.out hb10 (by omega))
  clear hb10
  go_wp2_with fail
  go_ret
  exact ⟨rfl, below_base H2.out.2.2.2 H10.out H2.out.2.2.2.size⟩
end Go.Proofs.Ytgcahbdoemjmmaa
