/- Chapter 21: PeelTrue's walk. -/
import Derived.Test.YtidoembkcaojoaaTu21
namespace Go.Proofs.Ytidoembkcaojoaa
open Go.RowKit
set_option linter.unusedVariables false
set_option maxRecDepth 100000 in
set_option maxHeartbeats 12800000 in
theorem true_walk {w : World} {A B : Option Addr} {kk : Int} {nb n cb c : Nat} {bytes : List UInt8} {masks : List Int} (hwf : (Lit.int .i64 kk).wf = true) (hB : Rd w B nb (bys bytes) ∧ nb ≤ cb ∧ nb ≤ 140737488351232) (hM0 : Rd w A n (nums masks) ∧ n ≤ c ∧ n ≤ 17592186043904 ∧ ∀ x ∈ masks, -9223372036854775808 ≤ x ∧ x ≤ 9223372036854775807) :
    Calls Try.prog 7 #[.int .i64 kk, .slice B nb cb, .slice A n c] w fun e w' => e = .returned (.bool true) ∧ Below w.heap.size w w' := by
  have H := Lib.hid (And.intro hB hM0.1)
  clear hB hM0
  by_cases h25 : 25 < n
  · have d1 : decide ((n : Int) > 25) = true := decide_eq_true (by omega)
    have d2 : decide ((25 : Int) < (n : Int)) = true := decide_eq_true (by omega)
    have d3 : decide (25 < n) = true := decide_eq_true h25
    go_enter Try.func7, Try.ntmps7
    go_wp2_with fail
    refine (peelKnown_w w).mono ?_
    rintro e w1 ⟨rfl, hb1⟩
    have HB := Lib.hid hb1
    clear hb1
    go_wp2_with fail
    go_ret
    exact ⟨rfl, HB.out⟩
  · have d1 : decide ((n : Int) > 25) = false := decide_eq_false (by omega)
    have d2 : decide ((25 : Int) < (n : Int)) = false := decide_eq_false (by omega)
    have d3 : decide (25 < n) = false := decide_eq_false h25
    obtain ⟨K, hK, hK1⟩ : ∃ K : Nat, 1 + kk % 12 = K ∧ 1 ≤ K ∧ K ≤ 12 := ⟨(1 + kk % 12).toNat, by omega, by omega, by omega⟩
    have hKw : IntKind.i64.wrap (1 + kk % 12) = (K : Int) := by rw [IntKind.wrap_i64]; omega
    have HK := Lib.hid hK1
    have hn25 : n ≤ 25 := by omega
    clear h25 hK hK1
    go_enter Try.func7, Try.ntmps7
    go_wp2_with fail
    refine (peelKnown_w w).mono ?_
    rintro e w1 ⟨rfl, hb1⟩
    have HB1 := Lib.hid hb1
    clear hb1
    go_wp2_with fail
    refine (pick_any kk 12 hwf (by decide) (by decide)).mono ?_
    rintro e w2 ⟨rfl, rfl⟩
    go_wp2_with fail
    refine (world_any (H.out.1.1.below HB1.out) (H.out.2.below HB1.out) HK.out hn25 H.out.1.2.2).mono ?_
    rintro e w2 ⟨A1, c1, A2, c2, blk, sets, rfl, q1, q2, q3, q4, q5, q6, q7⟩
    have HW := Lib.hid (And.intro q1 (And.intro q2 (And.intro q3 (And.intro q4 (And.intro q5 (below_base HB1.out q7 HB1.out.size))))))
    obtain ⟨M, hM⟩ : ∃ M, sets.length = M := ⟨_, rfl⟩
    rw [hM] at q5 q6
    have HM := Lib.hid hM
    have hM25 : (M : Int) ≤ 25 := by omega
    rw [hM]
    clear q1 q2 q3 q4 q7 hM
    go_wp2_with fail
    refine (new_dw (K : Int) 2 25 (.inl (by have := HK.out.2; omega))).mono ?_
    intro e w3 h3
    obtain ⟨D, rfl, h4⟩ := lp_new (Below.refl _ _) h3 (by have := HK.out; unfold pbad bad; omega)
    have HT0 : Hid (TR w2 w3 D K blk sets 0 (newD K 2 25) 0) := Lib.hid
      { lp := h4, ti := TI.new HK.out, st := rfl, id := rfl
        mu := by
          have h5 := (TI.new (blk := blk) HK.out).knl
          have h6 : knL (newD K 2 25).kn = [] := by
            unfold knL knF
            rw [List.filter_eq_nil_iff.2 (fun i _ => by rw [show (newD K 2 25).kn = List.replicate K false from rfl, knw_rep]; simp)]; rfl
          rw [h6] at h5
          exact h5 }
    clear h3 h4
    go_wp2_with fail
    go_loopg [12, 13] M (fun q v i wr => ∃ (j mn : Nat) (d : DS), q + j = M ∧ i = .int .i64 j ∧ v = .int .i64 mn ∧ TR w2 wr D K blk sets j d mn)
    case atStart => exact ⟨0, 0, _, by omega, rfl, rfl, HT0.out⟩
    case round =>
      clear HT0
      obtain ⟨j, mn, d, hj, rfl, rfl, hT⟩ := hrel
      by_cases hlt : j < M
      · have km : (j : Int) < (M : Int) := by omega
        have kd : decide ((j : Int) < (M : Int)) = true := decide_eq_true km
        have kd' : decide (j < M) = true := decide_eq_true hlt
        have j0 : (0 : Int) ≤ (j : Int) := by omega
        have hjs : j < sets.length := by rw [HM.out]; exact hlt
        obtain ⟨rb, e5, hrb, hcell⟩ := HW.out.2.2.1.2 (by rw [HM.out]; omega)
        subst e5
        obtain ⟨B3, c3, cb3, hr3⟩ := hcell j hjs
        have hSj := HW.out.2.2.2.1 _ (getD_mem hjs)
        obtain ⟨S, hSe⟩ : ∃ S, sets.getD j [] = S := ⟨_, rfl⟩
        rw [hSe] at cb3 hr3 hSj
        obtain ⟨L, hL⟩ : ∃ L, S.length = L := ⟨_, rfl⟩
        rw [hL] at cb3 hr3
        have hL12 : L ≤ 12 := by have := hSj.len; have := HK.out.2; omega
        have cbr := cell_below hT.lp.1 cb3
        have HX := Lib.hid (And.intro hT (And.intro hjs (And.intro hSe (And.intro hL (And.intro hr3 (And.intro hSj (And.intro hj cb3)))))))
        have hmn : mn ≤ 12 := by have := hT.mu; have := HK.out.2; omega
        clear hT hjs hSe hL hr3 hSj hj hcell hrb hlt cb3
        go_wp2_with fail
        go_region_held3 (fun w' => w'.cell? ⟨rb, j, none⟩ = some (.slice B3 L c3))
          (first | exact S5.out.2.2.2 | exact S4.out.2.2 | exact cbr | go_keep)
          (first
            | (go_at_call 15; refine (sum_any (c := c1) (c' := c3) (HW.out.1.below (HX.out.1.lp.1.drew)) HW.out.2.1 (HX.out.2.2.2.2.1.below (HX.out.1.lp.1.drew)) HX.out.2.2.2.2.2.1.inr HK.out.2 hL12).mono ?_; rintro e w4 ⟨v4, rfl, ho4, hb4⟩; obtain ⟨V, cv, rfl⟩ := own_sl ho4; have S4 := Lib.hid (And.intro ho4 (And.intro (below_undrew hb4) (cell_below (below_base HX.out.1.lp.1 (below_undrew hb4) HX.out.1.lp.1.size) HX.out.2.2.2.2.2.2.2))); clear ho4 hb4)
            | (go_at_call 14; refine (HX.out.1.add2 HW.out.2.1 HW.out.2.2.2.1 HX.out.2.1 HW.out.2.2.2.2.1 S4.out.2.1 HX.out.2.2.1 HX.out.2.2.2.1 HX.out.2.2.2.2.1 S4.out.1 HK.out.2).mono ?_; rintro e w5 ⟨v5, out, d', rfl, p1, p2, p3, p4⟩; obtain ⟨V5, cv5, rfl⟩ := own_sl p2; have S5 := Lib.hid (And.intro p1 (And.intro p3 (And.intro p4 (cell_below p3 HX.out.2.2.2.2.2.2.2)))); clear p1 p2 p3 p4))
        have hT5 := S5.out.1
        have hcl := closure_any (c := c2) ((HW.out.2.2.1.below S5.out.2.1).take (m := j + 1) (by rw [HM.out]; omega)) (fun s hs => HW.out.2.2.2.1 s (List.mem_of_mem_take hs)) HK.out (by omega)
        have hcl2 : Calls Try.prog 36 #[.int .i64 (K : Nat), .slice (some ⟨rb, 0, none⟩) (j + 1) c2] w5 fun e w' => ∃ v, e = .returned v ∧ w'.ownsRow w5.heap.size 3 1 v (knL d'.kn).length (nums (knL d'.kn)) ∧ Below w5.heap.size w5 w' := by
          refine hcl.mono ?_
          rintro e w' ⟨v, C, rfl, g1, g2, g3, g4⟩
          have e1 : d'.k = K := hT5.ti.kk
          have hC : C = d'.kn := closure_eq hT5.ti.ok hT5.ti.st hT5.ti.ls (by rw [e1, hT5.st]; exact g1) (by rw [e1, hT5.st]; exact g2)
          rw [hC] at g3
          exact ⟨v, rfl, g3, g4⟩
        have hnk := hT5.ti.knl
        have hmu := hT5.mu
        have HC := Lib.hid hcl2
        have HT5 := Lib.hid hT5
        obtain ⟨ro, hro⟩ : ∃ ro, out.length = ro := ⟨_, rfl⟩
        obtain ⟨nk, hnk0⟩ : ∃ nk, (knL d'.kn).length = nk := ⟨_, rfl⟩
        obtain ⟨u, hu⟩ : ∃ u, unk d'.kn = u := ⟨_, rfl⟩
        rw [hro, hu] at hmu
        rw [hnk0, hu] at hnk
        have HN := Lib.hid (And.intro hro (And.intro hnk0 (And.intro hu (And.intro hmu hnk))))
        rw [hro]
        have b1 : (mn : Int) + (ro : Int) ≤ 12 := by have := HK.out.2; omega
        have b2 : (((mn : Int) + (ro : Int)) != (nk : Int)) = false := by simp; omega
        have b3 : ((u : Int) != (K : Int) - ((mn : Int) + (ro : Int))) = false := by simp; omega
        have b4 : (K : Int) ≤ 12 := by have := HK.out.2; omega
        have b5 : (j : Int) + 1 ≤ (c2 : Int) := by omega
        have b6 : nk ≤ 12 := by omega
        have jn : ((j : Int) + 1).toNat = j + 1 := by omega
        clear hcl hcl2 hT5 hnk hmu hro hnk0 hu cbr
        go_wp2_with fail
        refine HC.out.mono ?_
        rintro e w6 ⟨v6, rfl, ho6, hb6⟩
        rw [HN.out.2.1] at ho6
        obtain ⟨V6, cv6, rfl⟩ := own_sl ho6
        have HL6 := Lib.hid (HT5.out.lp.below hb6)
        have HO6 := Lib.hid (Rd.of_own ho6)
        clear ho6 hb6
        go_wp2_with fail
        refine (lp_known HL6).mono ?_
        rintro e w7 ⟨v7, rfl, ho7, hb7⟩
        rw [HN.out.2.1] at ho7
        obtain ⟨V7, cv7, rfl⟩ := own_sl ho7
        have HL7 := Lib.hid (HL6.out.below hb7)
        have HO7 := Lib.hid (HO6.out.below hb7)
        have hq := sameInts_any (c := cv7) (c' := cv6) (Rd.of_own ho7) HO7.out (by omega)
        rw [show (knL d'.kn == knL d'.kn) = true from by simp] at hq
        have HQ := Lib.hid hq
        clear hq ho7 hb7
        go_wp2_with fail
        refine HQ.out.mono ?_
        rintro e w8 ⟨rfl, hb8⟩
        have HL8 := Lib.hid (HL7.out.below hb8)
        have HO8 := Lib.hid (HO7.out.below hb8)
        clear hb8
        go_wp2_with fail
        have hlf := lp_left HL8
        rw [HN.out.2.2.1] at hlf
        refine hlf.mono ?_
        rintro e w9 ⟨rfl, rfl⟩
        clear hlf
        go_wp2_with fail
        go_loopw [17] (fun i wx => ∃ t : Nat, t ≤ nk ∧ i = .int .i64 t ∧ Below w8.heap.size w8 wx) (fun i wx => nk - (intOf i).toNat)
        case atStart => exact ⟨0, by omega, rfl, Below.refl _ _⟩
        case round =>
          obtain ⟨t, ht, rfl, hbx⟩ := hrel
          have HLx := Lib.hid (HL8.out.below hbx)
          by_cases hlt2 : t < nk
          · have km2 : (t : Int) < (nk : Int) := by omega
            have kd2 : decide ((t : Int) < (nk : Int)) = true := decide_eq_true km2
            have kd2' : decide (t < nk) = true := decide_eq_true hlt2
            have t0 : (0 : Int) ≤ (t : Int) := by omega
            have htl : t < (knL d'.kn).length := by rw [HN.out.2.1]; exact hlt2
            have hmem : gi (knL d'.kn) t ∈ knL d'.kn := by rw [gi_get htl]; exact List.getElem_mem htl
            obtain ⟨hsy, hx0, hxk⟩ := HT5.out.ti.sy hmem
            obtain ⟨bb, off, rfl, _, hcc⟩ := (HO8.out.below hbx).form (by omega)
            have cx := hcc t _ (nums_gi htl)
            obtain ⟨x, hx⟩ : ∃ x : Nat, gi (knL d'.kn) t = x := ⟨(gi (knL d'.kn) t).toNat, by omega⟩
            rw [hx] at cx hsy hxk
            obtain ⟨a, off', B', cc, rfl, _, cb, hrb, hcb, _⟩ := ((HW.out.1.below HLx.out.1)).at_ (i := x) (by omega)
            have hxv : xv blk (x : Int) = blk.getD x [] := by unfold xv; rw [Int.toNat_natCast]
            have hl2 : (blk.getD x []).length = 2 := by
              have := HW.out.2.1.xv (x := (x : Int)) (by omega)
              rw [hxv] at this
              exact this
            rw [hl2] at cb hrb
            rw [hxv] at hsy
            have xk : (x : Int) < (K : Int) := by omega
            have x0 : (0 : Int) ≤ (x : Int) := by omega
            have HY := Lib.hid (And.intro hsy (And.intro hl2 (And.intro hrb (And.intro hlt2 hbx))))
            clear hsy hl2 hrb hlt2 hbx hxv hcb hcc hmem htl hx0 hxk hx
            go_wp2_with fail
            have hs := lp_symbol HLx (x : Int)
            rw [HY.out.1] at hs
            refine hs.mono ?_
            rintro e wy ⟨vy, rfl, hoy, hby⟩
            have hoy2 : wy.ownsRow wr.heap.size 5 1 vy 2 (bys (blk.getD x [])) := by have := hoy; rw [show (blk.getD x [], (0 : Int)).1.length = 2 from HY.out.2.1] at this; exact this
            obtain ⟨Vy, cvy, rfl⟩ := own_sl hoy2
            have HZ := Lib.hid (And.intro (Rd.of_own hoy2) hby)
            have cby := cell_below hby cb
            have cxy := cell_below hby cx
            have hsm := same_any (c := cvy) (c' := cc) HZ.out.1 (HY.out.2.2.1.below hby)
            rw [show (blk.getD x [] == blk.getD x []) = true from by simp] at hsm
            have HS := Lib.hid hsm
            clear hs hoy hoy2 hby hsm cb cx
            go_wp2_with fail
            refine HS.out.mono ?_
            rintro e wz ⟨rfl, rfl⟩
            go_wp2_with fail
            exact ⟨⟨t + 1, HY.out.2.2.2.1, by go_num, below_base HY.out.2.2.2.2 HZ.out.2 HY.out.2.2.2.2.size⟩, by have := HY.out.2.2.2.1; simp [intOf]; omega⟩
          · have htn : t = nk := by omega
            have kd2 : decide ((t : Int) < (nk : Int)) = false := decide_eq_false (by omega)
            have kd2' : decide (t < nk) = false := decide_eq_false (by omega)
            have HB9 := Lib.hid hbx
            clear hbx hlt2 ht
            go_wp2_with fail
            go_roundg (gk - 1)
            case measure => have := HX.out.2.2.2.2.2.2.1; omega
            case rel =>
              have hT := HT5.out
              rw [HN.out.1] at hT
              exact ⟨j + 1, mn + ro, d', by have := HX.out.2.2.2.2.2.2.1; omega, by go_num, by go_num, { hT with lp := HLx.out }⟩
      · have hjM : j = M := by omega
        have kd : decide ((j : Int) < (M : Int)) = false := decide_eq_false (by omega)
        have kd' : decide (j < M) = false := decide_eq_false (by omega)
        have hst : d.sets = sets := by rw [hT.st, hjM, List.take_of_length_le (by rw [HM.out]; exact Nat.le_refl _)]
        have hcl := closure_any (c := c2) ((HW.out.2.2.1.below hT.lp.1)) HW.out.2.2.2.1 HK.out (by rw [HM.out]; omega)
        have hcl2 : ∀ wq, Below wr.heap.size wr wq → Calls Try.prog 36 #[.int .i64 (K : Nat), .slice A2 M c2] wq fun e w' => ∃ v, e = .returned v ∧ w'.ownsRow wq.heap.size 3 1 v (knL d.kn).length (nums (knL d.kn)) ∧ Below wq.heap.size wq w' := fun wq hbq => by
          have hcl := closure_any (c := c2) ((HW.out.2.2.1.below hT.lp.1).below hbq) HW.out.2.2.2.1 HK.out (by rw [HM.out]; omega)
          rw [HM.out] at hcl
          refine hcl.mono ?_
          rintro e w' ⟨v, C, rfl, g1, g2, g3, g4⟩
          have e1 : d.k = K := hT.ti.kk
          have hC : C = d.kn := closure_eq hT.ti.ok hT.ti.st hT.ti.ls (by rw [e1, hst]; exact g1) (by rw [e1, hst]; exact g2)
          rw [hC] at g3
          exact ⟨v, rfl, g3, g4⟩
        have hnk := hT.ti.knl
        obtain ⟨nk, hnk0⟩ : ∃ nk, (knL d.kn).length = nk := ⟨_, rfl⟩
        obtain ⟨u, hu⟩ : ∃ u, unk d.kn = u := ⟨_, rfl⟩
        rw [hnk0, hu] at hnk
        have HC := Lib.hid hcl2
        have HLr := Lib.hid hT.lp
        have HTi := Lib.hid hT.ti
        have HN := Lib.hid (And.intro hnk0 (And.intro hu hnk))
        have b6 : (nk : Int) ≤ 12 := by have := HK.out.2; omega
        clear hcl hcl2 hT hst hnk0 hj hlt hjM
        have hbk := lp_block HLr
        have hdn := fun (wq : World) (hq : Hid (Lp w2 wq D d)) => lp_done hq
        rw [hu] at hdn
        by_cases h0 : u = 0
        · have hbr : blR d = (blk, 0) := by
            have hu0 : unk d.kn = 0 := by rw [hu]; exact h0
            unfold blR
            rw [if_pos hu0, HTi.out.bl HW.out.2.1 hu0]
          rw [hbr] at hbk
          have f1 : decide ((nk : Int) < (K : Int)) = false := decide_eq_false (by omega)
          have f2 : decide (nk < K) = false := decide_eq_false (by omega)
          subst h0
          have HBK := Lib.hid (show Calls _ _ _ _ (BlPost wr K blk 0) from by have := hbk; rw [show (blk, (0 : Int)).1.length = K from HW.out.2.1.1] at this; exact this)
          have HDN := Lib.hid hdn
          clear hbk hbr hdn hu hnk
          go_wp2_with fail
          refine HBK.out.mono ?_
          rintro e w6 ⟨v6, vs6, rfl, ho6, hor6, hb6⟩
          obtain ⟨V6, cv6, rfl⟩ := own_sl ho6
          have HS6 : Hid (Syms w6 V6 K blk) := Lib.hid ⟨vs6, Rd.of_own ho6, hor6.rows⟩
          have HL6 := Lib.hid (HLr.out.below hb6)
          have HC6 := Lib.hid (HC.out w6 hb6)
          clear ho6 hor6 hb6
          go_wp2_with fail
          refine HC6.out.mono ?_
          rintro e w7 ⟨v7, rfl, ho7, hb7⟩
          rw [HN.out.1] at ho7
          obtain ⟨V7, cv7, rfl⟩ := own_sl ho7
          have HL7 := Lib.hid (HL6.out.below hb7)
          have HS7 := Lib.hid (HS6.out.below hb7)
          clear ho7 hb7
          go_wp2_with fail
          refine (HDN.out w7 HL7).mono ?_
          rintro e w8 ⟨rfl, rfl⟩
          have hsl := sameLists_any (c := cv6) (c' := c1) HS7.out (HW.out.1.below HL7.out.1) (by have := HK.out.2; omega)
          rw [show (blk == blk) = true from by simp] at hsl
          have HSL := Lib.hid hsl
          clear hsl
          go_wp2_with fail
          refine HSL.out.mono ?_
          rintro e w9 ⟨rfl, hb9⟩
          have HB9 := Lib.hid (below_base (below_base HW.out.2.2.2.2.2 HL7.out.1 HW.out.2.2.2.2.2.size) hb9 (Nat.le_trans HW.out.2.2.2.2.2.size HL7.out.1.size))
          clear hb9
          go_wp2_with fail
          go_ret
          exact ⟨rfl, HB9.out⟩
        · have hbr : blR d = ([], 10) := by
            have hu0 : ¬ unk d.kn = 0 := by rw [hu]; exact h0
            unfold blR
            rw [if_neg hu0]
          rw [hbr] at hbk
          have f1 : decide ((nk : Int) < (K : Int)) = true := decide_eq_true (by omega)
          have f2 : decide (nk < K) = true := decide_eq_true (by omega)
          have e9 : (u == 0) = false := by simpa using h0
          rw [e9] at hdn
          have HBK := Lib.hid (show Calls _ _ _ _ (BlPost wr 0 [] 10) from hbk)
          have HDN := Lib.hid hdn
          clear hbk hbr hdn hu hnk h0 e9
          go_wp2_with fail
          refine HBK.out.mono ?_
          rintro e w6 ⟨v6, vs6, rfl, ho6, hor6, hb6⟩
          obtain ⟨V6, cv6, rfl⟩ := own_sl ho6
          have HL6 := Lib.hid (HLr.out.below hb6)
          have HC6 := Lib.hid (HC.out w6 hb6)
          clear ho6 hor6 hb6
          go_wp2_with fail
          refine HC6.out.mono ?_
          rintro e w7 ⟨v7, rfl, ho7, hb7⟩
          rw [HN.out.1] at ho7
          obtain ⟨V7, cv7, rfl⟩ := own_sl ho7
          have HL7 := Lib.hid (HL6.out.below hb7)
          clear ho7 hb7
          go_wp2_with fail
          refine (HDN.out w7 HL7).mono ?_
          rintro e w8 ⟨rfl, rfl⟩
          have HB9 := Lib.hid (below_base HW.out.2.2.2.2.2 HL7.out.1 HW.out.2.2.2.2.2.size)
          go_wp2_with fail
          go_ret
          exact ⟨rfl, HB9.out⟩
end Go.Proofs.Ytidoembkcaojoaa
