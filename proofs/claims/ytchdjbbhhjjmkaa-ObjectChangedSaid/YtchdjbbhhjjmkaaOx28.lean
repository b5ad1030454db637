/- Chapter 28: ObjectChanged's walk. -/
import Derived.Test.YtchdjbbhhjjmkaaOk28
namespace Go.Proofs.Ytchdjbbhhjjmkaa
open Go.RowKit
set_option linter.unusedVariables false
set_option maxRecDepth 100000 in
set_option maxHeartbeats 6400000 in
theorem objectChanged_any {w : World} {D E : Option Addr} {nd cd ne ce : Nat} {data lb : List UInt8} {k s : Int} (hd : Rd w D nd (bys data)) (hcd : nd ≤ cd) (hnd : nd ≤ 140737488351232) (he : Rd w E ne (bys lb)) (hk : (Lit.int .i64 k).wf = true) (hs : (Lit.int .i64 s).wf = true) :
    Calls Try.prog 4 #[.slice D nd cd, .slice E ne ce, .int .i64 k, .int .i64 s] w fun e w' => e = .returned (.bool true) ∧ Below w.heap.size w w' := by
  have hdl : data.length = nd := by have := hd.1; simpa [bys_length] using this
  have HX := Lib.hid (And.intro hd (And.intro hcd (And.intro hk (And.intro hs hdl))))
  have HE := Lib.hid he
  clear hd hcd hk hs hdl he
  by_cases hbig : 200 < nd
  · have d1 : decide ((nd : Int) > 200) = true := by simp; omega
    have d2 : decide (200 < nd) = true := by simp; omega
    go_enter Try.func4, Try.ntmps4
    go_wp2_with fail
    refine awake_any.mono ?_
    rintro e w1 ⟨rfl, hb1⟩
    have H1 := Lib.hid hb1
    clear hb1 hbig
    go_wp2
    go_ret
    exact ⟨rfl, H1.out⟩
  · have d1 : decide ((nd : Int) > 200) = false := by simp; omega
    have d2 : decide (200 < nd) = false := by simp; omega
    have hn200 : (nd : Int) ≤ 200 := by omega
    have hok := smM_ok (z := nd) k s (by omega)
    have hN200 := smM_N (z := nd) k s (by omega)
    have hN0 := mfN_range (m := smM nd k s)
    obtain ⟨N, hN⟩ : ∃ N : Nat, mfN (smM nd k s) = N := ⟨(mfN (smM nd k s)).toNat, by omega⟩
    have hNb : (N : Int) ≤ 200 := by omega
    have HN := Lib.hid (And.intro hok hN)
    have hR1 := Int.emod_nonneg s (show (6 : Int) ≠ 0 by decide)
    have hR2 := Int.emod_lt_of_pos s (show (0 : Int) < 6 by decide)
    have hR3 := Int.emod_nonneg k (show (6 : Int) ≠ 0 by decide)
    have hR4 := Int.emod_lt_of_pos k (show (0 : Int) < 6 by decide)
    clear hok hN200 hN0 hN hbig hnd
    obtain ⟨S, hS⟩ : ∃ S, 1 + s % 6 = S := ⟨_, rfl⟩
    obtain ⟨K, hK⟩ : ∃ K, 1 + k % 6 = K := ⟨_, rfl⟩
    have hSM : smM nd k s = ⟨(nd : Int), S, K, 0, [1]⟩ := by unfold smM; rw [hS, hK]
    have HM := Lib.hid (And.intro hSM (And.intro hS hK))
    have hSK : 1 ≤ S ∧ S ≤ 6 ∧ 1 ≤ K ∧ K ≤ 6 := by omega
    clear hSM hS hK hR1 hR2 hR3 hR4
    rw [HM.out.1] at HN
    obtain ⟨i0, hi0, hz0, hz1, hz2⟩ := info_parts u8_info
    go_enter Try.func4, Try.ntmps4
    go_wp2_with fail
    refine awake_any.mono ?_
    rintro e w1 ⟨rfl, hb1⟩
    have H1 := Lib.hid (And.intro hb1 (HE.out.below hb1))
    clear hb1
    go_wp2_with (first | (at_make; refine wpList_make_full _ rfl _ _ 32 rfl w1.heap.size 5 i0 (.int .u8 0) 1 Try.underlying32 hi0 hz0 hz1 .i64 .i64 _ _ nd rfl rfl rfl rfl (by rw [hz2]; omega) (by simp only [maxLen]; omega) (Nat.le_refl _) ?_; intro w2 hown hg; rw [zeros_bys] at hown; have HB2 := Lib.hid (And.intro hown (below_of_grownN hg)); clear hown hg) | (with_reducible refine wpList_copy_upd rfl (.tmp 26) (.tmp 27) _ _ rfl 5 Try.underlying32 u8_size (some ⟨w1.heap.size, 0, none⟩) E nd nd ne ce rfl rfl w1.heap.size 0 (bys (List.replicate nd 0)) (bys lb) (mut_made HB2.out.1) (H1.out.2.below HB2.out.2) (bys_one _) ?_; intro w20 hu; have HU := Lib.hid hu; clear hu))
    obtain ⟨q1, q2⟩ := made_copied (g := 0) HB2.out.1 HB2.out.2 HU.out
    obtain ⟨O, hO⟩ : ∃ O, evenL lb nd = O := ⟨_, rfl⟩
    have hOl : O.length = nd := by rw [← hO]; exact evenL_length _ _
    rw [hO] at q1
    have hb20 := below_base H1.out.1 q2 H1.out.1.size
    have H2 := Lib.hid (And.intro (Rd.of_own q1) (And.intro hOl hb20))
    clear q1 q2 hO hOl hb20
    refine (small_any (by omega) HX.out.2.2.1 HX.out.2.2.2.1).mono ?_
    rintro e w3 ⟨A3, rfl, hm3, hb3⟩
    rw [HM.out.2.1, HM.out.2.2]
    rw [HM.out.1] at hm3
    have hb4 := (Below.refl w3.heap.size w3).alloc (Nat.le_refl _) (.cells #[.int .i64 (nd : Int), .int .i64 S, .int .i64 K, .int .i64 0, .slice A3 1 1] 24)
    have hb03 := below_base H2.out.2.2 hb3 H2.out.2.2.size
    have H4 := Lib.hid (And.intro (show KS w w3 (w3.alloc (.cells #[.int .i64 (nd : Int), .int .i64 S, .int .i64 K, .int .i64 0, .slice A3 1 1] 24)) w3.heap.size A3 nd S K nd D data from ⟨Bk.newA w3 _ _, hm3.below hb4, (HX.out.1.below hb03).below hb4, hb4, below_base hb03 hb4 hb03.size⟩) ((H2.out.1.below hb3).below hb4))
    clear hm3 hb3 hb4 hb03
    go_wp2_with fail
    generalize w3.alloc (.cells #[.int .i64 (nd : Int), .int .i64 S, .int .i64 K, .int .i64 0, .slice A3 1 1] 24) = wb at H4 ⊢
    generalize w3.heap.size = G at H4 ⊢
    generalize w1.heap.size = Q at H4 ⊢
    go_loopw [12, 13] (fun v i wr => ∃ (j : Nat), j ≤ N ∧ i = .int .i64 (j : Int) ∧ v = .bool (sameN ⟨(nd : Int), S, K, 0, [1]⟩ data O j) ∧ Below wb.heap.size wb wr) (fun v i wr => N - (intOf i).toNat)
    case atStart => exact ⟨0, by omega, rfl, rfl, Below.refl _ _⟩
    case round =>
      obtain ⟨j, hj, rfl, rfl, hbw⟩ := hrel
      have hKr := H4.out.1.below hbw
      have hOr := H4.out.2.below hbw
      obtain ⟨c0, c1, c2, c3, c4⟩ := cells5 hKr.1
      have HK := Lib.hid (And.intro hKr (And.intro hOr hbw))
      clear hKr hOr hbw
      by_cases hlt : j < N
      · obtain ⟨s1, s2, s3, s4, s5⟩ := sy_in (data := data) HN.out.1 (by rw [HX.out.2.2.2.2]) (i := j) (by rw [HN.out.2]; omega)
        obtain ⟨t1, t2, t3, t4, t5⟩ := sy_in (data := O) HN.out.1 (by rw [H2.out.2.1]) (i := j) (by rw [HN.out.2]; omega)
        have hss := sameN_succ ⟨(nd : Int), S, K, 0, [1]⟩ data O j
        obtain ⟨V, hV⟩ : ∃ V, syV ⟨(nd : Int), S, K, 0, [1]⟩ data (j : Int) = V := ⟨_, rfl⟩
        obtain ⟨U, hU⟩ : ∃ V, syV ⟨(nd : Int), S, K, 0, [1]⟩ O (j : Int) = V := ⟨_, rfl⟩
        rw [hV] at s4 hss
        rw [hU] at t4 hss
        simp only at s4 t4
        have HS := Lib.hid (And.intro s1 (And.intro t1 (And.intro hV (And.intro hU (And.intro hss (And.intro hlt (And.intro s4 t4)))))))
        have km : (j : Int) < (N : Int) := by omega
        have dm : decide ((j : Int) < (N : Int)) = true := by simpa using km
        have hRj := Lib.hid (show R64 (j : Int) by unfold R64; omega)
        clear s1 s2 s3 s4 s5 t1 t2 t3 t4 t5 hss hV hU hlt hj
        go_wp2_with fail
        refine (blocks_any HK.out.1.2.1).mono ?_
        rintro e w5 ⟨rfl, hb5⟩
        rw [HN.out.2]
        have H5 := Lib.hid (And.intro (HK.out.1.below hb5) (And.intro (HK.out.2.1.below hb5) (below_base HK.out.2.2 hb5 HK.out.2.2.size)))
        clear hb5 c0 c1 c2 c3 c4
        obtain ⟨c0, c1, c2, c3, c4⟩ := cells5 H5.out.1.1
        have HA := Lib.hid (symbols_any H5.out.1.2.1 H5.out.1.2.2.1 HX.out.2.1 (by omega) hRj.out)
        rw [HS.out.1, HS.out.2.2.1] at HA
        go_wp2_with fail
        refine HA.out.mono ?_
        rintro e w6 ⟨v6, vs6, rfl, ho6, hr6, hb6⟩
        obtain ⟨A6, d6, rfl, hd6, hs6⟩ := own_syms ho6 hr6
        have H6 := Lib.hid (And.intro (H5.out.1.below hb6) (And.intro (H5.out.2.1.below hb6) (And.intro (below_base H5.out.2.2 hb6 H5.out.2.2.size) hs6)))
        clear ho6 hr6 hs6 hb6 hd6 HA c0 c1 c2 c3 c4
        obtain ⟨c0, c1, c2, c3, c4⟩ := cells5 H6.out.1.1
        have HA := Lib.hid (symbols_any H6.out.1.2.1 H6.out.2.1 (Nat.le_refl _) (by omega) hRj.out)
        rw [HS.out.2.1, HS.out.2.2.2.1] at HA
        go_wp2_with fail
        refine HA.out.mono ?_
        rintro e w7 ⟨v7, vs7, rfl, ho7, hr7, hb7⟩
        obtain ⟨A7, d7, rfl, hd7, hs7⟩ := own_syms ho7 hr7
        have H7 := Lib.hid (And.intro (below_base H6.out.2.2.1 hb7 H6.out.2.2.1.size) (And.intro (H6.out.2.2.2.below hb7) hs7))
        clear ho7 hr7 hs7 hb7 hd7 HA c0 c1 c2 c3 c4
        cases hsame : sameN ⟨(nd : Int), S, K, 0, [1]⟩ data O j with
        | true =>
          have HSA := Lib.hid hsame
          clear hsame
          go_wp2_with fail
          refine (sameSymbols_any H7.out.2.1 H7.out.2.2 (by have := HS.out.2.2.2.2.2.2.1; omega)).mono ?_
          rintro e w8 ⟨rfl, hb8⟩
          have H8 := Lib.hid (below_base H7.out.1 hb8 H7.out.1.size)
          clear hb8
          go_wp2
          refine ⟨⟨j + 1, by have := HS.out.2.2.2.2.2.1; omega, by go_num, ?_, H8.out⟩, by have := HS.out.2.2.2.2.2.1; simp [intOf]; omega⟩
          rw [HS.out.2.2.2.2.1, HSA.out]; simp
        | false =>
          have HSA := Lib.hid hsame
          clear hsame
          go_wp2
          refine ⟨⟨j + 1, by have := HS.out.2.2.2.2.2.1; omega, by go_num, ?_, H7.out.1⟩, by have := HS.out.2.2.2.2.2.1; simp [intOf]; omega⟩
          rw [HS.out.2.2.2.2.1, HSA.out]; simp
      · obtain rfl : j = N := by omega
        have dm : decide ((j : Int) < (j : Int)) = false := by simp
        rw [sameN_all HN.out.1 (by rw [HX.out.2.2.2.2]) (by rw [H2.out.2.1]) HN.out.2]
        obtain ⟨q, hq⟩ : ∃ q, (data == O) = q := ⟨_, rfl⟩
        rw [hq]
        have HQ := Lib.hid hq
        clear hlt hj hq
        go_wp2_with fail
        refine (blocks_any HK.out.1.2.1).mono ?_
        rintro e w5 ⟨rfl, hb5⟩
        rw [HN.out.2]
        have H5 := Lib.hid (And.intro (HK.out.1.below hb5) (HK.out.2.1.below hb5))
        clear hb5 c0 c1 c2 c3 c4
        go_wp2_with fail
        refine (same_any H5.out.1.2.2.1 H5.out.2).mono ?_
        rintro e w6 ⟨rfl, rfl⟩
        rw [HQ.out]
        cases q
        all_goals go_wp2
        all_goals go_ret
        all_goals exact ⟨rfl, H5.out.1.2.2.2.2⟩
theorem objectChanged_walk {w : World} {D E : Option Addr} {nd cd ne ce : Nat} {data lb : List UInt8} {k s : Int} (h : Rd w D nd (bys data) ∧ nd ≤ cd ∧ nd ≤ 140737488351232) (h2 : Rd w E ne (bys lb) ∧ ne ≤ ce ∧ ne ≤ 140737488351232) (hk : (Lit.int .i64 k).wf = true) (hs : (Lit.int .i64 s).wf = true) :
    Calls Try.prog 4 #[.slice D nd cd, .slice E ne ce, .int .i64 k, .int .i64 s] w fun e w' => e = .returned (.bool true) ∧ Below w.heap.size w w' := objectChanged_any h.1 h.2.1 h.2.2 h2.1 hk hs
end Go.Proofs.Ytchdjbbhhjjmkaa
