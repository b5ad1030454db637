/- Chapter 21: PeelRefused's walk. -/
import Derived.Test.YtidoembkcaojoaaPr21
namespace Go.Proofs.Ytidoembkcaojoaa
open Go.RowKit
set_option linter.unusedVariables false
set_option maxRecDepth 100000 in
set_option maxHeartbeats 12800000 in
theorem refused_walk {w : World} {A B : Option Addr} {kk : Int} {nb n cb c : Nat} {bytes : List UInt8} {masks : List Int} {a : PA} (hwf : (Lit.int .i64 kk).wf = true) (hB : Rd w B nb (bys bytes) ∧ nb ≤ cb ∧ nb ≤ 140737488351232) (hM0 : Rd w A n (nums masks) ∧ n ≤ c ∧ n ≤ 17592186043904 ∧ ∀ x ∈ masks, -9223372036854775808 ≤ x ∧ x ≤ 9223372036854775807) (ha : a.ok w) :
    Calls Try.prog 3 #[.int .i64 kk, .slice B nb cb, .slice A n c, .agg #[.int .i64 a.id, .slice a.A a.n a.c, .slice a.B a.m a.e]] w fun e w' => e = .returned (.bool true) ∧ Below w.heap.size w w' := by
  obtain ⟨id, OA, on, oc, oset, OB, om, oe, opay⟩ := a
  have H := Lib.hid (And.intro hB (And.intro hM0.1 ha))
  clear hB hM0 ha
  by_cases h25 : 25 < n
  · have d1 : decide ((n : Int) > 25) = true := decide_eq_true (by omega)
    have d2 : decide ((25 : Int) < (n : Int)) = true := decide_eq_true (by omega)
    have d3 : decide (25 < n) = true := decide_eq_true h25
    go_enter Try.func3, Try.ntmps3
    go_wp2_with fail
    have hb0 : Below w.heap.size w (w.alloc (.cells #[.int .i64 id, .slice OA on oc, .slice OB om oe] 25)) := (Below.refl _ _).alloc (Nat.le_refl _) _
    refine awake_any.mono ?_
    rintro e w1 ⟨rfl, hb1⟩
    have HB := Lib.hid (below_base hb0 hb1 hb0.size)
    clear hb1 hb0
    go_wp2_with fail
    go_ret
    exact ⟨rfl, HB.out⟩
  · have d1 : decide ((n : Int) > 25) = false := decide_eq_false (by omega)
    have d2 : decide ((25 : Int) < (n : Int)) = false := decide_eq_false (by omega)
    have d3 : decide (25 < n) = false := decide_eq_false h25
    obtain ⟨K, hK, hK1⟩ : ∃ K : Nat, 1 + kk % 12 = K ∧ 1 ≤ K ∧ K ≤ 12 := ⟨(1 + kk % 12).toNat, by omega, by omega, by omega⟩
    have hKw : IntKind.i64.wrap (1 + kk % 12) = (K : Int) := by rw [IntKind.wrap_i64]; omega
    have HK := Lib.hid hK1
    have hn25 : n ≤ 25 := by omega
    clear h25 hK hK1
    go_enter Try.func3, Try.ntmps3
    go_wp2_with fail
    have hb0 : Below w.heap.size w (w.alloc (.cells #[.int .i64 id, .slice OA on oc, .slice OB om oe] 25)) := (Below.refl _ _).alloc (Nat.le_refl _) _
    have kP := Bk.newA w 25 #[.int .i64 id, .slice OA on oc, .slice OB om oe]
    refine awake_any.mono ?_
    rintro e w1 ⟨rfl, hb1⟩
    have HB1 := Lib.hid (And.intro (below_base hb0 hb1 hb0.size) (kP.belowS hb1))
    have p0 : w1.cell? ⟨w.heap.size, 0, none⟩ = some (.int .i64 id) := (kP.belowS hb1).cell 0
    have p1 : w1.cell? ⟨w.heap.size, 1, none⟩ = some (.slice OA on oc) := (kP.belowS hb1).cell 1
    have p2 : w1.cell? ⟨w.heap.size, 2, none⟩ = some (.slice OB om oe) := (kP.belowS hb1).cell 2
    obtain ⟨P, hP⟩ : ∃ P, w.heap.size = P := ⟨_, rfl⟩
    have HP := Lib.hid hP
    rw [hP] at p0 p1 p2 ⊢
    clear hb1 hb0 kP
    go_wp2_with fail
    have k2 := Bk.newA w1 25 #[.int .i64 id, .slice OA on oc, .slice OB om oe]
    have hb2 : Below w1.heap.size w1 (w1.alloc (.cells #[.int .i64 id, .slice OA on oc, .slice OB om oe] 25)) := (Below.refl _ _).alloc (Nat.le_refl _) _
    have hrd : Rd (w1.alloc (.cells #[.int .i64 id, .slice OA on oc, .slice OB om oe] 25)) (some ⟨w1.heap.size, 0, none⟩) (1 * 3) [.int .i64 id, .slice OA on oc, .slice OB om oe] := Rd.of_bk k2 (by simp) rfl
    have hl := long_any (l := [⟨id, OA, on, oc, oset, OB, om, oe, opay⟩]) (c := 1) hrd
    obtain ⟨q, hq⟩ : ∃ q, longP [⟨id, OA, on, oc, oset, OB, om, oe, opay⟩] = q := ⟨_, rfl⟩
    rw [hq] at hl
    have HB2 := Lib.hid (And.intro (below_base HB1.out.1 hb2 HB1.out.1.size) (And.intro (HB1.out.2.belowS hb2) hq))
    have p0 := cell_below hb2 p0
    have p1 := cell_below hb2 p1
    have p2 := cell_below hb2 p2
    refine hl.mono ?_
    rintro e1 wx ⟨rfl, rfl⟩
    clear hl hq k2 hrd hb2
    generalize (w1.alloc (.cells #[.int .i64 id, .slice OA on oc, .slice OB om oe] 25)) = wb at HB2 p0 p1 p2 ⊢
    cases q with
    | true =>
      go_wp2_with fail
      go_ret
      exact ⟨rfl, HB2.out.1⟩
    | false =>
      have hlong := longP_no HB2.out.2.2
      have hon : on ≤ 40 ∧ om ≤ 200 := hlong.2 _ (List.mem_singleton.2 rfl)
      go_wp2_with fail
      refine (pick_any kk 12 hwf (by decide) (by decide)).mono ?_
      rintro e w2 ⟨rfl, rfl⟩
      go_wp2_with fail
      refine (world_any (H.out.1.1.below HB2.out.1) (H.out.2.1.below HB2.out.1) HK.out hn25 H.out.1.2.2).mono ?_
      rintro e w2 ⟨A1, c1, A2, c2, blk, sets, rfl, q1, q2, q3, q4, q5, q6, q7⟩
      have HW := Lib.hid (And.intro q1 (And.intro q2 (And.intro q3 (And.intro q4 (And.intro q5 (And.intro (below_base HB2.out.1 q7 HB2.out.1.size) (HB2.out.2.1.belowS q7)))))))
      obtain ⟨M, hM⟩ : ∃ M, sets.length = M := ⟨_, rfl⟩
      rw [hM] at q5 q6
      have HM := Lib.hid hM
      have hM25 : (M : Int) ≤ 25 := by omega
      rw [hM]
      clear q1 q2 q3 q4 q7 hM p0 p1 p2
      go_wp2_with fail
      refine (new_dw (K : Int) 2 25 (.inl (by have := HK.out.2; omega))).mono ?_
      intro e w3 h3
      obtain ⟨Dx, rfl, h4⟩ := lp_new (Below.refl w2.heap.size w2) h3 (by have := HK.out; unfold pbad bad; omega)
      have HLx : Hid (Lp w2 w3 Dx (newD K 2 25)) := Lib.hid h4
      clear h3 h4
      go_wp2_with fail
      refine (new_dw (K : Int) 2 25 (.inl (by have := HK.out.2; omega))).mono ?_
      intro e w4 h5
      obtain ⟨Dy, rfl, h6⟩ := L2.made HLx.out h5 (by have := HK.out; unfold pbad bad; omega)
      have HT0 : Hid (RF w2 w4 Dx Dy K blk sets 0 (newD K 2 25)) := Lib.hid { l2 := h6, ti := TI.new HK.out, st := rfl, id := rfl }
      clear h5 h6
      go_wp2_with fail
      go_loopg [16] M (fun q i wr => ∃ (j : Nat) (d : DS), q + j = M ∧ i = .int .i64 j ∧ RF w2 wr Dx Dy K blk sets j d)
      case atStart => exact ⟨0, _, by omega, rfl, HT0.out⟩
      case round =>
        clear HT0
        obtain ⟨j, d, hj, rfl, hT⟩ := hrel
        by_cases hlt : j < M
        · have km : (j : Int) < (M : Int) := by omega
          have kd : decide ((j : Int) < (M : Int)) = true := decide_eq_true km
          have kd' : decide (j < M) = true := decide_eq_true hlt
          have j0 : (0 : Int) ≤ (j : Int) := by omega
          have hjs : j < sets.length := by rw [HM.out]; exact hlt
          obtain ⟨rb, e5, hrb, hcell⟩ := HW.out.2.2.1.2 (by rw [HM.out]; omega)
          subst e5
          obtain ⟨B3, c3, cb3, hr3⟩ := hcell j hjs
          have hSj := HW.out.2.2.2.1 _ (getD_mem hjs)
          obtain ⟨S, hSe⟩ : ∃ S, sets.getD j [] = S := ⟨_, rfl⟩
          rw [hSe] at cb3 hr3 hSj
          obtain ⟨L, hL⟩ : ∃ L, S.length = L := ⟨_, rfl⟩
          rw [hL] at cb3 hr3
          have hL12 : L ≤ 12 := by have := hSj.len; have := HK.out.2; omega
          have hb0 := hT.l2.lp.1
          have cbr := cell_below hb0 cb3
          have hdl : d.sets.length = j := by rw [hT.st, List.length_take]; omega
          have hni : ¬ (j : Int) ∈ d.ids := by rw [hT.id]; exact not_idsTo j
          have HX := Lib.hid (And.intro hT (And.intro hjs (And.intro hSe (And.intro hL (And.intro hr3 (And.intro hSj (And.intro hj (And.intro cb3 (And.intro hb0 (And.intro hdl hni))))))))))
          clear hT hjs hSe hL hr3 hSj hj hcell hrb hlt cb3 hb0 hdl hni
          go_wp2_with fail
          go_region_held3 (fun w' => w'.cell? ⟨rb, j, none⟩ = some (.slice B3 L c3))
            (first | exact S5.out.2.2 | exact S4.out.2.2 | exact cbr | go_keep)
            (first
              | (go_at_call 15; refine (sum_any (c := c1) (c' := c3) (HW.out.1.below (HX.out.2.2.2.2.2.2.2.2.1.drew)) HW.out.2.1 (HX.out.2.2.2.2.1.below (HX.out.2.2.2.2.2.2.2.2.1.drew)) HX.out.2.2.2.2.2.1.inr HK.out.2 hL12).mono ?_; rintro e w5 ⟨v4, rfl, ho4, hb4⟩; obtain ⟨V, cv, rfl⟩ := own_sl ho4; have S4 := Lib.hid (And.intro ho4 (And.intro (below_undrew hb4) (cell_below (below_base HX.out.2.2.2.2.2.2.2.2.1 (below_undrew hb4) HX.out.2.2.2.2.2.2.2.2.1.size) HX.out.2.2.2.2.2.2.2.1))); clear ho4 hb4)
              | (go_at_call 14; refine (l2_sum HX.out.1.l2 HX.out.1.ti HW.out.2.1 HX.out.2.2.2.2.2.1 HX.out.2.2.2.2.2.2.2.2.2.2 (by have := HX.out.2.2.2.2.2.2.2.2.2.1; omega) (by omega) S4.out.2.1 HX.out.2.2.2.1 HX.out.2.2.2.2.1 S4.out.1 HK.out.2).mono ?_; rintro e w6 ⟨v5, out, d', ead, rfl, p1, p2, p3, p4, p5, p6, p7, p8⟩; obtain ⟨V5, cv5, rfl⟩ := own_sl p5; have S5 := Lib.hid (And.intro (And.intro ead (And.intro p2 (And.intro p3 (And.intro p4 p8)))) (And.intro (And.intro p1 (And.intro p5 p7)) (cell_below p1.lp.1 HX.out.2.2.2.2.2.2.2.1))); clear ead p1 p2 p3 p4 p5 p6 p7 p8))
          have hl2 := S5.out.2.1.1
          have cb6 := S5.out.2.2
          have H6 := Lib.hid (And.intro S5.out.1 (And.intro hl2 (And.intro S5.out.2.1.2.1 hl2.lp.1)))
          clear S5 cbr hl2
          go_wp2_with fail
          go_region_held3 (fun w' => w'.cell? ⟨rb, j, none⟩ = some (.slice B3 L c3))
            (first | exact S8.out.2.2 | exact S7.out.2.2 | exact cb6 | go_keep)
            (first
              | (go_at_call 15; refine (sum_any (c := c1) (c' := c3) (HW.out.1.below (H6.out.2.2.2.drew)) HW.out.2.1 (HX.out.2.2.2.2.1.below (H6.out.2.2.2.drew)) HX.out.2.2.2.2.2.1.inr HK.out.2 hL12).mono ?_; rintro e w7 ⟨v4, rfl, ho4, hb4⟩; obtain ⟨V7, cv7, rfl⟩ := own_sl ho4; have S7 := Lib.hid (And.intro ho4 (And.intro (below_undrew hb4) (cell_below (below_base H6.out.2.2.2 (below_undrew hb4) H6.out.2.2.2.size) HX.out.2.2.2.2.2.2.2.1))); clear ho4 hb4)
              | (go_at_call 14; refine (l2_sum H6.out.2.1.symm HX.out.1.ti HW.out.2.1 HX.out.2.2.2.2.2.1 HX.out.2.2.2.2.2.2.2.2.2.2 (by have := HX.out.2.2.2.2.2.2.2.2.2.1; omega) (by omega) S7.out.2.1 HX.out.2.2.2.1 HX.out.2.2.2.2.1 S7.out.1 HK.out.2).mono ?_; rintro e w8 ⟨v8, out8, d8, ead, rfl, p1, p2, p3, p4, p5, p6, p7, p8⟩; obtain ⟨V8, cv8, rfl⟩ := own_sl p5; have S8 := Lib.hid (And.intro (And.intro ead p6) (And.intro (And.intro p1 (And.intro p5 p7)) (cell_below p1.lp.1 HX.out.2.2.2.2.2.2.2.1))); clear ead p1 p2 p3 p4 p5 p6 p7 p8))
          obtain ⟨ead8, p6⟩ := S8.out.1
          obtain ⟨ead, ti', st', id', ol⟩ := H6.out.1
          rw [ead] at ead8
          injection ead8 with eo ed
          injection ed with _ ed
          subst eo
          subst ed
          have hL8 := S8.out.2.1.1.symm
          have ho8 := S8.out.2.1.2.1
          have hz8 := S8.out.2.1.2.2
          have hr7 : Rd w7 V5 out.length (nums out) := (Rd.of_own H6.out.2.2.1).below S7.out.2.1
          have hz7 := S7.out.2.1.size
          have hr8 : Rd w8 V5 out.length (nums out) := rd_blk hr7 fun h0 a ha => p6 _ (.inr (.inr (.inr (own_b1 ha)))) (hr7.lt h0 a ha)
          have hq := sameInts_any (c := cv5) (c' := cv8) hr8 (Rd.of_own ho8) (by omega)
          rw [show (out == out) = true from by simp] at hq
          have HT8 : Hid (RF w2 w8 Dx Dy K blk sets (j + 1) d') := Lib.hid
            { l2 := hL8.held fun b e => e.elim, ti := ti'
              st := by rw [st', HX.out.1.st]; exact take_getD HX.out.2.1 HX.out.2.2.1
              id := by rw [id', HX.out.1.id, idsTo_succ] }
          have HQ := Lib.hid hq
          clear hq hr8 hr7 hL8 ho8 hz8 hz7 S8 S7 H6 ead ti' st' id' ol p6 cb6
          go_wp2_with fail
          refine HQ.out.mono ?_
          rintro e w9 ⟨rfl, hb9⟩
          have HL9 := Lib.hid (HT8.out.l2.below hb9)
          have hk9 := HW.out.2.2.2.2.2.2.belowS HL9.out.lp.1
          have p0 : w9.cell? ⟨w.heap.size, 0, none⟩ = some (.int .i64 id) := hk9.cell 0
          have p1 : w9.cell? ⟨w.heap.size, 1, none⟩ = some (.slice OA on oc) := hk9.cell 1
          have p2 : w9.cell? ⟨w.heap.size, 2, none⟩ = some (.slice OB om oe) := hk9.cell 2
          rw [HP.out] at p0 p1 p2
          clear hb9 hk9
          go_wp2_with fail
          have hbw9 := below_base HW.out.2.2.2.2.2.1 HL9.out.lp.1 HW.out.2.2.2.2.2.1.size
          refine (copy_any (H.out.2.2.rp.below hbw9) (by show om ≤ _; omega)).mono ?_
          rintro e wa ⟨va, rfl, hoa, hba⟩
          obtain ⟨V, cv, rfl⟩ := own_sl hoa
          have hpl : opay.length = om := by have := H.out.2.2.rp.1; simpa [bys_length] using this
          have hin : (j : Int) ∈ d'.ids := by rw [HT8.out.id, idsTo_succ]; exact List.mem_append_right _ (List.mem_singleton.2 rfl)
          have hdl8 : d'.sets.length ≤ 25 := by rw [HT8.out.st, List.length_take]; omega
          have HP9 := Lib.hid (And.intro p0 p1)
          have p0 := cell_below hba p0
          have p1 := cell_below hba p1
          have HA := Lib.hid (And.intro hoa (And.intro hba (And.intro hpl (And.intro hin hdl8))))
          have hrs := Lib.hid (H.out.2.2.rs.below HW.out.2.2.2.2.2.1)
          obtain ⟨i0, hi0, hz0, hz1, hz2⟩ := info_parts u8_info
          clear hoa hba hpl hin hdl8 p2 hbw9
          by_cases h2 : om = 2 ∧ id ≠ (j : Int)
          · obtain ⟨h2, h3⟩ := h2
            have e1 : (id != (j : Int)) = true := by simpa using h3
            have e2 : decide (id ≠ (j : Int)) = true := decide_eq_true h3
            subst h2
            have HO := Lib.hid HA.out.1
            have HO2 := Lib.hid h3
            clear h3
            go_wp2_with (at_builtin; refine wpList_append_rd _ rfl (.tmp 127) (.tmp 128) _ rfl w9.heap.size 5 i0 _ 1 1 Try.underlying22 hi0 hz0 hz1 hz2 rfl (by omega) _ 2 (bys opay) rfl (own_below HO.out ((Below.refl _ _).alloc (Nat.le_refl _) _)) (some ⟨wa.heap.size, 0, none⟩) 1 1 (bys [0]) rfl (Rd.lit _ _ _ _ rfl 1 rfl _ rfl) (bys_one _) (by simp only [maxLen]; omega) (by omega) (by have := HA.out.2.1.size; rw [World.size_alloc]; omega) ?_; intro v6 w6 hown6 hg6 hat6; rw [← bys_append] at hown6; have hS : Chg (fun k => (Value.slice V 2 cv).ownBlock = some k) wa w6 := ((Chg.refl _ wa).alloc _).trans (Chg.of_grown hg6 (S := fun k => (Value.slice V 2 cv).ownBlock = some k) fun k e => e) fun _ _ x => x; have hb6 : Below w9.heap.size w9 w6 := hS.below HA.out.2.1 (fun b _ e => (HO.out.lt b e).1) HA.out.2.1.size; have p0 := cell_below hb6 HP9.out.1; have p1 := cell_below hb6 HP9.out.2; obtain ⟨V6, cv6, rfl⟩ := own_sl hown6; have H6 := Lib.hid (And.intro hown6 hb6); clear hown6 hg6 hat6 hS hb6)
            refine (l2_odd (pay := opay ++ [0]) HL9.out HT8.out.ti HA.out.2.2.2.1 (.inr (by rw [List.length_append, HA.out.2.2.1]; decide)) H6.out.2 hrs.out (by omega) H6.out.1 (by omega) H.out.2.2.wf HA.out.2.2.2.2).mono ?_
            rintro e wc ⟨vc, xc, rfl, hx, hlc⟩
            have c1' : (xc == 0) = false := by simpa using hx
            have c2' : decide (xc = 0) = false := decide_eq_false hx
            have HLc := Lib.hid hlc
            clear hx hlc
            go_wp2_with fail
            go_roundg (gk - 1)
            case measure => have := HX.out.2.2.2.2.2.2.1; omega
            case rel => exact ⟨j + 1, d', by have := HX.out.2.2.2.2.2.2.1; omega, by go_num, { HT8.out with l2 := HLc.out }⟩
          · have HO2 := Lib.hid h2
            have ho := Lib.hid (show id = (j : Int) ∨ opay.length ≠ 2 from by rw [HA.out.2.2.1]; omega)
            have e1 : (((om : Int) == 2) && (id != (j : Int))) = false := by
              by_cases e : om = 2
              · have : id = (j : Int) := by omega
                rw [this]; simp
              · have : ((om : Int) == 2) = false := by simp; omega
                rw [this]; rfl
            by_cases e : om = 2
            · have e3 : id = (j : Int) := by omega
              subst e
              subst e3
              clear h2
              go_wp2_with fail
              refine (l2_odd (id := (j : Int)) (pay := opay) HL9.out HT8.out.ti HA.out.2.2.2.1 (.inl rfl) HA.out.2.1 hrs.out (by omega) HA.out.1 (by omega) H.out.2.2.wf HA.out.2.2.2.2).mono ?_
              rintro e wc ⟨vc, xc, rfl, hx, hlc⟩
              have c1' : (xc == 0) = false := by simpa using hx
              have c2' : decide (xc = 0) = false := decide_eq_false hx
              have HLc := Lib.hid hlc
              clear hx hlc
              go_wp2_with fail
              go_roundg (gk - 1)
              case measure => have := HX.out.2.2.2.2.2.2.1; omega
              case rel => exact ⟨j + 1, d', by have := HX.out.2.2.2.2.2.2.1; omega, by go_num, { HT8.out with l2 := HLc.out }⟩

            · have e4 : ((om : Int) == 2) = false := by simp; omega
              have e5 : decide (om = 2) = false := decide_eq_false e
              have e6 : decide ((om : Int) = 2) = false := decide_eq_false (by omega)
              clear h2 e
              go_wp2_with fail
              refine (l2_odd HL9.out HT8.out.ti HA.out.2.2.2.1 ho.out HA.out.2.1 hrs.out (by omega) HA.out.1 (by omega) H.out.2.2.wf HA.out.2.2.2.2).mono ?_
              rintro e wc ⟨vc, xc, rfl, hx, hlc⟩
              have c1' : (xc == 0) = false := by simpa using hx
              have c2' : decide (xc = 0) = false := decide_eq_false hx
              have HLc := Lib.hid hlc
              clear hx hlc
              go_wp2_with fail
              go_roundg (gk - 1)
              case measure => have := HX.out.2.2.2.2.2.2.1; omega
              case rel => exact ⟨j + 1, d', by have := HX.out.2.2.2.2.2.2.1; omega, by go_num, { HT8.out with l2 := HLc.out }⟩

        · have kd : decide ((j : Int) < (M : Int)) = false := decide_eq_false (by omega)
          have kd' : decide (j < M) = false := decide_eq_false (by omega)
          have HT := Lib.hid hT
          have hkl : (knL d.kn).length ≤ 12 := by have := hT.ti.knl; have := HK.out.2; omega
          have HLx := Lib.hid hT.l2.lp
          clear hT hj hlt
          go_wp2_with fail
          refine (lp_known HLx).mono ?_
          rintro e w5 ⟨v5, rfl, ho5, hb5⟩
          obtain ⟨V5, cv5, rfl⟩ := own_sl ho5
          have HL5 := Lib.hid (HT.out.l2.below hb5)
          have HO5 := Lib.hid (Rd.of_own ho5)
          have HLy := Lib.hid HL5.out.symm.lp
          clear ho5 hb5
          go_wp2_with fail
          refine (lp_known HLy).mono ?_
          rintro e w6 ⟨v6, rfl, ho6, hb6⟩
          obtain ⟨V6, cv6, rfl⟩ := own_sl ho6
          have HL6 := Lib.hid (HL5.out.below hb6)
          have hq := sameInts_any (c := cv5) (c' := cv6) (HO5.out.below hb6) (Rd.of_own ho6) (by omega)
          rw [show (knL d.kn == knL d.kn) = true from by simp] at hq
          have HQ := Lib.hid hq
          clear hq ho6 hb6
          go_wp2_with fail
          refine HQ.out.mono ?_
          rintro e w7 ⟨rfl, hb7⟩
          have HL7 := Lib.hid (HL6.out.below hb7)
          have HLx7 := Lib.hid HL7.out.lp
          have HLy7 := Lib.hid HL7.out.symm.lp
          clear hb7
          go_wp2_with fail
          refine (lp_packets HLx7).mono ?_
          rintro e w8 ⟨rfl, rfl⟩
          go_wp2_with fail
          refine (lp_packets HLy7).mono ?_
          rintro e w8 ⟨rfl, rfl⟩
          go_wp2_with fail
          go_ret
          exact ⟨ret_bool (by simp), below_base HW.out.2.2.2.2.2.1 HLx7.out.1 HW.out.2.2.2.2.2.1.size⟩
end Go.Proofs.Ytidoembkcaojoaa
