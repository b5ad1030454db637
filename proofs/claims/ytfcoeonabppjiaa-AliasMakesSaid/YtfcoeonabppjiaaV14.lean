/- AliasMakes: its walk. -/
import Derived.Test.YtfcoeonabppjiaaS14
namespace Go.Proofs.Ytfcoeonabppjiaa
open Go.RowKit
set_option linter.unusedVariables false
theorem overInts_nil {w : World} : Calls Try.prog 14 #[.slice none 0 0] w fun e w' => e = .returned (.tuple #[]) ∧ w = w' := by
  go_enter Try.func14, Try.ntmps14
  go_wp2
  refine wp_loop_rounds 1 ?_
  rw [rounds_succ]
  go_wp2
  go_end0
  exact ⟨rfl, rfl⟩
set_option maxRecDepth 100000 in
set_option maxHeartbeats 4000000 in
theorem makes_walk {w : World} {A : Option Addr} {n c : Nat} {t : List Int} (h : Rd w A n (nums t) ∧ n ≤ c ∧ n ≤ 17592186043904 ∧ ∀ x ∈ t, -9223372036854775808 ≤ x ∧ x ≤ 9223372036854775807) :
    Calls Try.prog 3 #[.slice A n c] w fun e w' => e = .returned (.bool true) ∧ Below w.heap.size w w' := by
  obtain ⟨hr, hc, hn, hbz⟩ := h
  have hx : t.length = n := by have := hr.1; simpa [nums_length] using this
  by_cases hbig : n > 80
  · have d1 : decide ((n : Int) > 80) = true := by simp; omega
    have d3 : decide ((80 : Int) < (n : Int)) = true := by simp; omega
    by_cases hmid : n ≤ 65536
    · have d2 : decide ((n : Int) ≤ 65536) = true := by simp; omega
      clear hbig hmid hr hc hn hx hbz
      go_enter Try.func3, Try.ntmps3
      go_wp2_with fail
      refine awake_any.mono ?_
      rintro e w1 ⟨rfl, hb⟩
      go_wp2
      go_ret
      exact ⟨rfl, hb⟩
    · have d2 : decide ((n : Int) ≤ 65536) = false := by simp; omega
      have hno : tabOk t = false := tab_long (by omega)
      have HR := Lib.hid (And.intro hr (And.intro hn (And.intro hx hno)))
      clear hr hc hn hx hno hbig hmid hbz
      go_enter Try.func3, Try.ntmps3
      go_wp2_with fail
      refine (copyInts_any HR.out.1 HR.out.2.1).mono ?_
      rintro e w1 ⟨v3, rfl, ho, hb1⟩
      obtain ⟨A3, c3, rfl, hc3, _⟩ := own_form ho
      have H1 := Lib.hid (And.intro (Rd.of_own ho) (And.intro (HR.out.1.below hb1) hb1))
      clear ho hb1
      go_wp2_with fail
      refine (make_no H1.out.1 (by have := HR.out.2.1; omega) HR.out.2.2.2).mono ?_
      rintro e w2 ⟨rfl, hb2⟩
      have H2 := Lib.hid (And.intro (H1.out.1.below hb2) (And.intro (H1.out.2.1.below hb2) (below_base H1.out.2.2 hb2 H1.out.2.2.size)))
      clear hb2
      have P4 := Bk.newA w2 26 #[.int .i64 0, .slice none 0 0, .slice none 0 0]
      have hb3 := (Below.refl w2.heap.size w2).alloc (Nat.le_refl _) (.cells #[.int .i64 0, .slice none 0 0, .slice none 0 0] 26)
      have H3 := Lib.hid (And.intro (H2.out.1.below hb3) (And.intro (H2.out.2.1.below hb3) (And.intro (below_base H2.out.2.2 hb3 H2.out.2.2.size) P4)))
      clear hb3 P4
      go_wp2_with fail
      refine (refMake_no H3.out.2.1 (by have := HR.out.2.1; omega) HR.out.2.2.2).mono ?_
      rintro e w4 ⟨rfl, hb4⟩
      have hb5 := (Below.refl w4.heap.size w4).alloc (Nat.le_refl _) (.cells #[.int .i64 0, .slice none 0 0, .slice none 0 0] 26)
      have hb6 := below_base hb4 hb5 hb4.size
      have P4 := H3.out.2.2.2.belowS hb6
      have P6 := Bk.newA w4 26 #[.int .i64 0, .slice none 0 0, .slice none 0 0]
      have H5 := Lib.hid (And.intro (H3.out.1.below hb6) (And.intro (H3.out.2.1.below hb6) (And.intro (below_base H3.out.2.2.1 hb6 H3.out.2.2.1.size) (And.intro P4 P6))))
      clear hb4 hb5 hb6
      have c40 := P4.cell 0
      have c41 := P4.cell 1
      have c42 := P4.cell 2
      have c60 := P6.cell 0
      have c61 := P6.cell 1
      have c62 := P6.cell 2
      clear P4 P6
      go_wp2_with fail
      refine (sameAlias_any (Al.nil _) (Al.nil _)).mono ?_
      rintro e w6 ⟨rfl, hb7⟩
      have hb8 := below_base H5.out.2.2.1 hb7 H5.out.2.2.1.size
      have P4 := H5.out.2.2.2.1.belowS hb7
      have H6 := Lib.hid (And.intro (H5.out.1.below hb7) (And.intro (H5.out.2.1.below hb7) hb8))
      rw [show ((0 : Int) == 0 && (([] : List Int) == [] && ([] : List Int) == [])) = true from rfl]
      have d41 := P4.cell 1
      have d42 := P4.cell 2
      clear hb7 hb8 P4 c40 c41 c42 c60 c61 c62
      go_wp2_with fail
      refine overInts_nil.mono ?_
      rintro e w7 ⟨rfl, rfl⟩
      go_wp2_with fail
      refine overInts_nil.mono ?_
      rintro e w7 ⟨rfl, rfl⟩
      go_wp2_with fail
      refine (sameInts_any H6.out.1 H6.out.2.1 (by have := HR.out.2.1; omega)).mono ?_
      rintro e w7 ⟨rfl, hb9⟩
      have H7 := Lib.hid (below_base H6.out.2.2 hb9 H6.out.2.2.size)
      clear hb9
      rw [show (t == t) = true from by simp]
      go_wp2_with fail
      refine awake_any.mono ?_
      rintro e w8 ⟨rfl, hb10⟩
      go_wp2
      go_ret
      exact ⟨rfl, below_base H7.out hb10 H7.out.size⟩
  · have d1 : decide ((n : Int) > 80) = false := by simp; omega
    have d3 : decide ((80 : Int) < (n : Int)) = false := by simp; omega
    have hmid : n ≤ 65536 := by omega
    cases hno : tabOk t with
    | false =>
      have HR := Lib.hid (And.intro hr (And.intro hn (And.intro hx hno)))
      clear hr hc hn hx hno hbig hmid hbz
      go_enter Try.func3, Try.ntmps3
      go_wp2_with fail
      refine (copyInts_any HR.out.1 HR.out.2.1).mono ?_
      rintro e w1 ⟨v3, rfl, ho, hb1⟩
      obtain ⟨A3, c3, rfl, hc3, _⟩ := own_form ho
      have H1 := Lib.hid (And.intro (Rd.of_own ho) (And.intro (HR.out.1.below hb1) hb1))
      clear ho hb1
      go_wp2_with fail
      refine (make_no H1.out.1 (by have := HR.out.2.1; omega) HR.out.2.2.2).mono ?_
      rintro e w2 ⟨rfl, hb2⟩
      have H2 := Lib.hid (And.intro (H1.out.1.below hb2) (And.intro (H1.out.2.1.below hb2) (below_base H1.out.2.2 hb2 H1.out.2.2.size)))
      clear hb2
      have P4 := Bk.newA w2 26 #[.int .i64 0, .slice none 0 0, .slice none 0 0]
      have hb3 := (Below.refl w2.heap.size w2).alloc (Nat.le_refl _) (.cells #[.int .i64 0, .slice none 0 0, .slice none 0 0] 26)
      have H3 := Lib.hid (And.intro (H2.out.1.below hb3) (And.intro (H2.out.2.1.below hb3) (And.intro (below_base H2.out.2.2 hb3 H2.out.2.2.size) P4)))
      clear hb3 P4
      go_wp2_with fail
      refine (refMake_no H3.out.2.1 (by have := HR.out.2.1; omega) HR.out.2.2.2).mono ?_
      rintro e w4 ⟨rfl, hb4⟩
      have hb5 := (Below.refl w4.heap.size w4).alloc (Nat.le_refl _) (.cells #[.int .i64 0, .slice none 0 0, .slice none 0 0] 26)
      have hb6 := below_base hb4 hb5 hb4.size
      have P4 := H3.out.2.2.2.belowS hb6
      have P6 := Bk.newA w4 26 #[.int .i64 0, .slice none 0 0, .slice none 0 0]
      have H5 := Lib.hid (And.intro (H3.out.1.below hb6) (And.intro (H3.out.2.1.below hb6) (And.intro (below_base H3.out.2.2.1 hb6 H3.out.2.2.1.size) (And.intro P4 P6))))
      clear hb4 hb5 hb6
      have c40 := P4.cell 0
      have c41 := P4.cell 1
      have c42 := P4.cell 2
      have c60 := P6.cell 0
      have c61 := P6.cell 1
      have c62 := P6.cell 2
      clear P4 P6
      go_wp2_with fail
      refine (sameAlias_any (Al.nil _) (Al.nil _)).mono ?_
      rintro e w6 ⟨rfl, hb7⟩
      have hb8 := below_base H5.out.2.2.1 hb7 H5.out.2.2.1.size
      have P4 := H5.out.2.2.2.1.belowS hb7
      have H6 := Lib.hid (And.intro (H5.out.1.below hb7) (And.intro (H5.out.2.1.below hb7) hb8))
      rw [show ((0 : Int) == 0 && (([] : List Int) == [] && ([] : List Int) == [])) = true from rfl]
      have d41 := P4.cell 1
      have d42 := P4.cell 2
      clear hb7 hb8 P4 c40 c41 c42 c60 c61 c62
      go_wp2_with fail
      refine overInts_nil.mono ?_
      rintro e w7 ⟨rfl, rfl⟩
      go_wp2_with fail
      refine overInts_nil.mono ?_
      rintro e w7 ⟨rfl, rfl⟩
      go_wp2_with fail
      refine (sameInts_any H6.out.1 H6.out.2.1 (by have := HR.out.2.1; omega)).mono ?_
      rintro e w7 ⟨rfl, hb9⟩
      have H7 := Lib.hid (below_base H6.out.2.2 hb9 H6.out.2.2.size)
      clear hb9
      rw [show (t == t) = true from by simp]
      go_wp2_with fail
      refine awake_any.mono ?_
      rintro e w8 ⟨rfl, hb10⟩
      go_wp2
      go_ret
      exact ⟨rfl, below_base H7.out hb10 H7.out.size⟩
    | true =>
      have HMID := Lib.hid (show n ≤ 80 from by omega)
      have HR := Lib.hid (And.intro hr (And.intro hn (And.intro hx hno)))
      clear hr hc hn hx hno hbig hmid hbz
      go_enter Try.func3, Try.ntmps3
      go_wp2_with fail
      refine (copyInts_any HR.out.1 HR.out.2.1).mono ?_
      rintro e w1 ⟨v3, rfl, ho, hb1⟩
      obtain ⟨A3, c3, rfl, hc3, _⟩ := own_form ho
      have H1 := Lib.hid (And.intro (Rd.of_own ho) (And.intro (HR.out.1.below hb1) hb1))
      clear ho hb1
      go_wp2_with fail
      refine (make_ok H1.out.1 (by have := HMID.out; omega) HR.out.2.2.2).mono ?_
      rintro e w2 ⟨C, O, rfl, hC, hO, hC1, hO1, hCO, hb2⟩
      have H2 := Lib.hid (And.intro (H1.out.1.below hb2) (And.intro (H1.out.2.1.below hb2) (And.intro hb2 (And.intro hC (And.intro hO (And.intro hC1 (And.intro hO1 hCO)))))))
      clear hb2 hC hO hC1 hO1 hCO
      have P4 := Bk.newA w2 26 #[.int .i64 t.sum, .slice (some ⟨C, 0, none⟩) t.length t.length, .slice (some ⟨O, 0, none⟩) t.length t.length]
      have hb3 := (Below.refl w2.heap.size w2).alloc (Nat.le_refl _) (.cells #[.int .i64 t.sum, .slice (some ⟨C, 0, none⟩) t.length t.length, .slice (some ⟨O, 0, none⟩) t.length t.length] 26)
      have H3 := Lib.hid (And.intro (H2.out.1.below hb3) (And.intro (H2.out.2.1.below hb3) (And.intro (below_base H2.out.2.2.1 hb3 H2.out.2.2.1.size) (And.intro P4 (And.intro (H2.out.2.2.2.1.belowS hb3) (H2.out.2.2.2.2.1.belowS hb3))))))
      have hP4C : C < w2.heap.size ∧ O < w2.heap.size := ⟨H2.out.2.2.2.1.lt, H2.out.2.2.2.2.1.lt⟩
      have HPC := Lib.hid hP4C
      clear hb3 P4 hP4C
      go_wp2_with fail
      refine (refMake_ok H3.out.2.1 (by have := HMID.out; omega) HR.out.2.2.2).mono ?_
      rintro e w4 ⟨C', O', rfl, hC', hO', _, _, _, hb4⟩
      have hal' := al_of HR.out.2.2.2 hC' hO'
      have hb5 := (Below.refl w4.heap.size w4).alloc (Nat.le_refl _) (.cells #[.int .i64 t.sum, .slice (some ⟨C', 0, none⟩) t.length t.length, .slice (some ⟨O', 0, none⟩) t.length t.length] 26)
      have hb6 := below_base hb4 hb5 hb4.size
      have P4 := H3.out.2.2.2.1.belowS hb6
      have P6 := Bk.newA w4 26 #[.int .i64 t.sum, .slice (some ⟨C', 0, none⟩) t.length t.length, .slice (some ⟨O', 0, none⟩) t.length t.length]
      have hC5 := H3.out.2.2.2.2.1.belowS hb6
      have hO5 := H3.out.2.2.2.2.2.belowS hb6
      have H5 := Lib.hid (And.intro (H3.out.1.below hb6) (And.intro (H3.out.2.1.below hb6) (And.intro (below_base H3.out.2.2.1 hb6 H3.out.2.2.1.size) (And.intro P4 (And.intro hC5 (And.intro hO5 (And.intro (al_of HR.out.2.2.2 hC5 hO5) (hal'.below hb5))))))))
      clear hb4 hb5 hb6 hC' hO' hal' hC5 hO5
      have c40 := P4.cell 0
      have c41 := P4.cell 1
      have c42 := P4.cell 2
      have c60 := P6.cell 0
      have c61 := P6.cell 1
      have c62 := P6.cell 2
      clear P4 P6
      go_wp2_with fail
      refine (sameAlias_any H5.out.2.2.2.2.2.2.1 H5.out.2.2.2.2.2.2.2).mono ?_
      rintro e w6 ⟨rfl, hb7⟩
      have hb8 := below_base H5.out.2.2.1 hb7 H5.out.2.2.1.size
      have P4 := H5.out.2.2.2.1.belowS hb7
      have H6 := Lib.hid (And.intro (H5.out.1.below hb7) (And.intro (H5.out.2.1.below hb7) (And.intro hb8 (And.intro P4 (And.intro (H5.out.2.2.2.2.1.belowS hb7) (H5.out.2.2.2.2.2.1.belowS hb7))))))
      rw [show (t.sum == t.sum && ((mk t).cut == (mk t).cut && (mk t).other == (mk t).other)) = true from by simp]
      have d41 := P4.cell 1
      clear hb7 hb8 P4 c40 c41 c42 c60 c61 c62
      go_wp2_with fail
      refine (overInts_any (l := (mk t).cut) (tl := []) (g := C) (fun _ => rfl) (by rw [List.append_nil]; exact H6.out.2.2.2.2.1) (by rw [(mk_inv HR.out.2.2.2).lc]) (by have := HMID.out; have := HR.out.2.2.1; omega)).mono ?_
      rintro e w7 ⟨rfl, hch⟩
      have hbb := hch.below (B := w1.heap.size) (Below.refl _ _) (fun k _ hk => by subst hk; exact H2.out.2.2.2.2.2.1) H6.out.2.2.1.size
      have P4 := hch.bk H6.out.2.2.2.1 (fun hk => by have := HPC.out.1; omega)
      have hO7 := hch.bk H6.out.2.2.2.2.2 (fun hk => H2.out.2.2.2.2.2.2.2 hk.symm)
      have H7 := Lib.hid (And.intro (H6.out.2.2.1.trans hbb) (And.intro P4 hO7))
      have d42 := P4.cell 2
      clear hch hbb P4 hO7 d41
      go_wp2_with fail
      refine (overInts_any (l := (mk t).other) (tl := []) (g := O) (fun _ => rfl) (by rw [List.append_nil]; exact H7.out.2.2) (by rw [(mk_inv HR.out.2.2.2).lo]) (by have := HMID.out; have := HR.out.2.2.1; omega)).mono ?_
      rintro e w8 ⟨rfl, hch⟩
      have hbb := hch.below (B := w1.heap.size) H7.out.1 (fun k _ hk => by subst hk; exact H2.out.2.2.2.2.2.2.1) H7.out.1.size
      have H8 := Lib.hid (And.intro (H1.out.1.below hbb) (And.intro (H1.out.2.1.below hbb) (below_base H1.out.2.2 hbb H1.out.2.2.size)))
      clear hch hbb
      go_wp2_with fail
      refine (sameInts_any H8.out.1 H8.out.2.1 (by have := HR.out.2.1; omega)).mono ?_
      rintro e w9 ⟨rfl, hb9⟩
      have H9 := Lib.hid (below_base H8.out.2.2 hb9 H8.out.2.2.size)
      clear hb9
      rw [show (t == t) = true from by simp]
      go_wp2_with fail
      refine awake_any.mono ?_
      rintro e w10 ⟨rfl, hb10⟩
      go_wp2
      go_ret
      exact ⟨rfl, below_base H9.out hb10 H9.out.size⟩
end Go.Proofs.Ytfcoeonabppjiaa
