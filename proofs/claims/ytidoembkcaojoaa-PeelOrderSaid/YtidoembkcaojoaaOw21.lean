/- Chapter 21: PeelOrder's walk. -/
import Derived.Test.YtidoembkcaojoaaOr21
import Derived.Deep.CutBlock
import Derived.Deep.DeepCutAuto
import Derived.Deep.MidRow
import Derived.BigRegion
namespace Go.Proofs.Ytidoembkcaojoaa
open Go.RowKit
set_option linter.unusedVariables false
theorem made_nums (m : Nat) : madeCells (Value.int .i64 0).cells (m * 1) = (nums (List.replicate m 0)).toArray := by
  apply Array.ext
  · simp [madeCells, nums]
  · intro i h1 h2
    simp [madeCells, Value.cells, nums, Nat.mod_one]
theorem run_make_nums (m : Nat) (hm : m ≤ 1000000) (w : World) : (Instr.makeSlice 23 (.int .i64 (m : Int)) (.int .i64 (m : Int))).run Try.prog w = .ok (.slice (some ⟨w.heap.size, 0, none⟩) m m) (w.alloc (.cells (nums (List.replicate m 0)).toArray 3)) := by
  obtain ⟨i0, hi0, hz0, hz1, hz2⟩ := info_parts u3_info
  have := run_make (P := Try.prog) w 23 3 i0 (.int .i64 0) Try.underlying23 hi0 hz0 .i64 .i64 m m (by omega) (by omega) (by rw [hz2]; omega) (by omega)
  rw [hz1] at this
  simp only [Int.toNat_natCast] at this
  rw [made_nums] at this
  exact this
theorem wf_rng {n : Int} (h : -9223372036854775808 ≤ n ∧ n ≤ 9223372036854775807) : (Lit.int .i64 n).wf = true := by
  simp [Lit.wf, IntKind.min, IntKind.max, IntKind.signed, IntKind.bits]
  omega
def fillI (M j : Nat) : List Int := idsTo j ++ List.replicate (M - j) 0
theorem fillI_len {M j : Nat} (h : j ≤ M) : (fillI M j).length = M := by simp [fillI, idsTo_len]; omega
theorem fillI_zero (M : Nat) : fillI M 0 = List.replicate M 0 := by simp [fillI, idsTo]
theorem fillI_all (M : Nat) : fillI M M = idsTo M := by simp [fillI]
theorem fillI_set {M j : Nat} (h : j < M) : (fillI M j).set j (j : Int) = fillI M (j + 1) := by
  unfold fillI
  rw [List.set_append, if_neg (by rw [idsTo_len]; omega), idsTo_len, Nat.sub_self, idsTo_succ, show M - j = (M - (j + 1)) + 1 by omega, List.replicate_succ]
  simp
set_option maxRecDepth 100000 in
set_option maxHeartbeats 12800000 in
theorem order_walk {w : World} {A B C : Option Addr} {kk : Int} {nb n m cb c cc : Nat} {bytes : List UInt8} {masks swaps : List Int} (hwf : (Lit.int .i64 kk).wf = true) (hB : Rd w B nb (bys bytes) ∧ nb ≤ cb ∧ nb ≤ 140737488351232) (hM0 : Rd w A n (nums masks) ∧ n ≤ c ∧ n ≤ 17592186043904 ∧ ∀ x ∈ masks, -9223372036854775808 ≤ x ∧ x ≤ 9223372036854775807) (hS0 : Rd w C m (nums swaps) ∧ m ≤ cc ∧ m ≤ 17592186043904 ∧ ∀ x ∈ swaps, -9223372036854775808 ≤ x ∧ x ≤ 9223372036854775807) :
    Calls Try.prog 8 #[.int .i64 kk, .slice B nb cb, .slice A n c, .slice C m cc] w fun e w' => e = .returned (.bool true) ∧ Below w.heap.size w w' := by
  have H := Lib.hid (And.intro hB (And.intro hM0.1 (And.intro hS0.1 hS0.2.2.2)))
  clear hB hM0 hS0
  obtain ⟨q, hq⟩ : ∃ q, (decide ((n : Int) > 25) || decide ((m : Int) > 50)) = q := ⟨_, rfl⟩
  by_cases h25 : 25 < n
  · have d1 : decide ((n : Int) > 25) = true := decide_eq_true (by omega)
    have d2 : decide ((25 : Int) < (n : Int)) = true := decide_eq_true (by omega)
    have d3 : decide (25 < n) = true := decide_eq_true h25
    clear hq
    go_enter Try.func8, Try.ntmps8
    go_wp2_with fail
    refine (peelKnown_w w).mono ?_
    rintro e w1 ⟨rfl, hb1⟩
    have HB := Lib.hid hb1
    clear hb1
    go_wp2_with fail
    go_ret
    exact ⟨rfl, HB.out⟩
  · have d1 : decide ((n : Int) > 25) = false := decide_eq_false (by omega)
    have d2 : decide ((25 : Int) < (n : Int)) = false := decide_eq_false (by omega)
    have d3 : decide (25 < n) = false := decide_eq_false h25
    by_cases h50 : 50 < m
    · have f1 : decide ((m : Int) > 50) = true := decide_eq_true (by omega)
      have f2 : decide ((50 : Int) < (m : Int)) = true := decide_eq_true (by omega)
      have f3 : decide (50 < m) = true := decide_eq_true h50
      clear hq
      go_enter Try.func8, Try.ntmps8
      go_wp2_with fail
      refine (peelKnown_w w).mono ?_
      rintro e w1 ⟨rfl, hb1⟩
      have HB := Lib.hid hb1
      clear hb1
      go_wp2_with fail
      go_ret
      exact ⟨rfl, HB.out⟩
    · have f1 : decide ((m : Int) > 50) = false := decide_eq_false (by omega)
      have f2 : decide ((50 : Int) < (m : Int)) = false := decide_eq_false (by omega)
      have f3 : decide (50 < m) = false := decide_eq_false h50
      obtain ⟨K, hK, hK1⟩ : ∃ K : Nat, 1 + kk % 12 = K ∧ 1 ≤ K ∧ K ≤ 12 := ⟨(1 + kk % 12).toNat, by omega, by omega, by omega⟩
      have hKw : IntKind.i64.wrap (1 + kk % 12) = (K : Int) := by rw [IntKind.wrap_i64]; omega
      have HK := Lib.hid hK1
      have hn25 : n ≤ 25 := by omega
      have hm50 : m ≤ 50 := by omega
      clear h25 h50 hK hK1 hq
      go_enter Try.func8, Try.ntmps8
      go_wp2_with fail
      refine (peelKnown_w w).mono ?_
      rintro e w1 ⟨rfl, hb1⟩
      have HB1 := Lib.hid hb1
      clear hb1
      go_wp2_with fail
      refine (pick_any kk 12 hwf (by decide) (by decide)).mono ?_
      rintro e w2 ⟨rfl, rfl⟩
      go_wp2_with fail
      refine (world_any (H.out.1.1.below HB1.out) (H.out.2.1.below HB1.out) HK.out hn25 H.out.1.2.2).mono ?_
      rintro e w2 ⟨A1, c1, A2, c2, blk, sets, rfl, q1, q2, q3, q4, q5, q6, q7⟩
      have HW := Lib.hid (And.intro q1 (And.intro q2 (And.intro q3 (And.intro q4 (And.intro q5 (below_base HB1.out q7 HB1.out.size))))))
      obtain ⟨M, hM⟩ : ∃ M, sets.length = M := ⟨_, rfl⟩
      rw [hM] at q5 q6
      have HM := Lib.hid hM
      have hM25 : (M : Int) ≤ 25 := by omega
      rw [hM]
      have hmk := run_make_nums M (by omega)
      clear q1 q2 q3 q4 q7 hM
      go_upto_block 0 with fail
      obtain ⟨ob, hob⟩ : ∃ ob, w2.heap.size = ob := ⟨_, rfl⟩
      rw [hob]
      have kb : Bk (w2.alloc (.cells (nums (List.replicate M 0)).toArray 3)) ob 3 (nums (fillI M 0)) := by rw [fillI_zero, ← hob]; exact Bk.newA w2 3 _
      have HO := Lib.hid (And.intro hob (And.intro kb (show Below w2.heap.size w2 (w2.alloc (.cells (nums (List.replicate M 0)).toArray 3)) from (Below.refl _ _).alloc (Nat.le_refl _) _)))
      generalize w2.alloc (.cells (nums (List.replicate M 0)).toArray 3) = w3 at HO ⊢
      clear kb hob hmk
      go_cut [13] (fun v13 wx => Bk wx ob 3 (nums (idsTo M)) ∧ Below w2.heap.size w2 wx)
      case first =>
        go_wp2_with fail
        go_loopw [13] (fun i wr => ∃ j : Nat, j ≤ M ∧ i = .int .i64 j ∧ Bk wr ob 3 (nums (fillI M j)) ∧ Below w2.heap.size w2 wr) (fun i wr => M - (intOf i).toNat)
        case atStart => exact ⟨0, by omega, rfl, HO.out.2.1, HO.out.2.2⟩
        case round =>
          obtain ⟨j, hj, rfl, kb, hb⟩ := hrel
          by_cases hlt : j < M
          · have km : (j : Int) < (M : Int) := by omega
            have kd : decide ((j : Int) < (M : Int)) = true := decide_eq_true km
            have kd' : decide (j < M) = true := decide_eq_true hlt
            have j0 : (0 : Int) ≤ (j : Int) := by omega
            have hjl : j < (fillI M j).length := by rw [fillI_len (by omega)]; exact hlt
            have cx := (kb.cell j).trans (nums_gi hjl)
            have fx := kb.frozen j
            have kb2 := kb.set_ j (.int .i64 (j : Int))
            rw [nums_set, fillI_set hlt] at kb2
            have hb2 : Below w2.heap.size w2 (wr.setCell ⟨ob, j, none⟩ (.int .i64 (j : Int))) := hb.setCell (by rw [HO.out.1]; exact Nat.le_refl _) _
            have HJ := Lib.hid (And.intro kb2 (And.intro hb2 hlt))
            clear kb kb2 hb hb2 hjl hlt hj
            go_wp2_with fail
            exact ⟨⟨j + 1, HJ.out.2.2, by go_num, HJ.out.1, HJ.out.2.1⟩, by have := HJ.out.2.2; simp [intOf]; omega⟩
          · have hjM : j = M := by omega
            have kd : decide ((j : Int) < (M : Int)) = false := decide_eq_false (by omega)
            have kd' : decide (j < M) = false := decide_eq_false (by omega)
            rw [hjM, fillI_all] at kb
            have HJ := Lib.hid (And.intro kb hb)
            clear kb hb hlt hj
            go_wp2_with fail
            go_meet
            exact HJ.out
      case rest =>
        have HO2 := Lib.hid (And.intro HO.out.1 hcut)
        clear HO hcut
        go_upto_block 2 with fail
        go_cut [14, 15, 16] (fun v14 v15 v16 wx => ∃ os, Od M os ∧ Bk wx ob 3 (nums os) ∧ Below w2.heap.size w2 wx)
        case first =>
          go_wp2_with fail
          go_loopw [14] (fun i wr => ∃ (t : Nat) (os : List Int), t ≤ m ∧ i = .int .i64 t ∧ Od M os ∧ Bk wr ob 3 (nums os) ∧ Below w2.heap.size w2 wr) (fun i wr => m - (intOf i).toNat)
          case atStart => exact ⟨0, idsTo M, by omega, rfl, List.Perm.refl _, HO2.out.2.1, HO2.out.2.2⟩
          case round =>
            obtain ⟨t, os, ht, rfl, hod, kb, hb⟩ := hrel
            by_cases hlt : t < m
            · have km : (t : Int) < (m : Int) := by omega
              have kd : decide ((t : Int) < (m : Int)) = true := decide_eq_true km
              have kd' : decide (t < m) = true := decide_eq_true hlt
              have t0 : (0 : Int) ≤ (t : Int) := by omega
              by_cases hM0 : 0 < M
              · have d4 : decide ((M : Int) > 0) = true := decide_eq_true (by omega)
                have d5 : decide ((0 : Int) < (M : Int)) = true := decide_eq_true (by omega)
                have d6 : decide (0 < M) = true := decide_eq_true hM0
                have hts : t < swaps.length := by have := H.out.2.2.1.len; rw [nums_length] at this; rw [this]; exact hlt
                have hbw := below_base (below_base HW.out.2.2.2.2.2 hb HW.out.2.2.2.2.2.size) (Below.refl _ wr) (Nat.le_trans HW.out.2.2.2.2.2.size hb.size)
                obtain ⟨bb, off, rfl, _, hcc⟩ := (H.out.2.2.1.below hbw).form (by omega)
                have cx := hcc t _ (nums_gi hts)
                have hxr := H.out.2.2.2 _ (gi_mem hts)
                obtain ⟨x, hx⟩ : ∃ x, gi swaps t = x := ⟨_, rfl⟩
                rw [hx] at cx hxr
                have hxw := wf_rng hxr
                obtain ⟨p2, hp2⟩ : ∃ p2 : Nat, x % (M : Int) = p2 ∧ p2 < M := ⟨(x % (M : Int)).toNat, by have := Int.emod_nonneg x (show (M : Int) ≠ 0 by omega); have := Int.emod_lt_of_pos x (show 0 < (M : Int) by omega); omega⟩
                have hpick : ∀ wq, Calls Try.prog 11 #[.int .i64 x, .int .i64 (M : Nat)] wq fun e w' => e = .returned (.int .i64 (p2 : Nat)) ∧ wq = w' := fun wq => by
                  have := pick_any (w := wq) x (M : Int) hxw (by omega) (by omega)
                  rw [hp2.1] at this
                  exact this
                have hnz : ¬ ((M : Nat) : Int) = 0 := by omega
                have hnz2 : ((M : Nat) : Int) ≠ 0 := by omega
                have hnz3 : ¬ M = 0 := by omega
                have HX := Lib.hid (And.intro hod (And.intro kb (And.intro hb (And.intro hlt hM0))))
                have HP := Lib.hid (And.intro hp2.2 hpick)
                clear hod kb hb hlt hM0 hx hxw hxr hp2 hpick hcc hts hbw
                go_wp2_with fail
                go_quiet ((go_at_call 11; refine Calls.quiet_of_same (v := .int .i64 (p2 : Nat)) ((HP.out.2 _).mono ?_); rintro e w' ⟨rfl, rfl⟩; exact ⟨rfl, rfl⟩))
                have hmod : (t : Int) % (M : Int) = ((t % M : Nat) : Int) := by omega
                rw [hmod]
                have hp1 : t % M < M := Nat.mod_lt _ HX.out.2.2.2.2
                obtain ⟨p1, hp1e⟩ : ∃ p1, t % M = p1 := ⟨_, rfl⟩
                rw [hp1e] at hp1 ⊢
                have kq := HX.out.2.1.drewN nq
                have hbq := below_dN HX.out.2.2.1 nq
                generalize wr.drewN nq = wq at kq hbq ⊢
                have hol := HX.out.1.len
                obtain ⟨y1, hy1⟩ : ∃ y, gi os p1 = y := ⟨_, rfl⟩
                obtain ⟨y2, hy2⟩ : ∃ y, gi os p2 = y := ⟨_, rfl⟩
                have ca := (kq.cell p1).trans (nums_gi (by rw [hol]; exact hp1))
                have cb := (kq.cell p2).trans (nums_gi (by rw [hol]; exact HP.out.1))
                rw [hy1] at ca
                rw [hy2] at cb
                have fa := kq.frozen p1
                have fb := kq.frozen p2
                have i1 : (p1 : Int) < (M : Int) := by omega
                have i2 : (p2 : Int) < (M : Int) := by have := HP.out.1; omega
                have i3 : (0 : Int) ≤ (p1 : Int) := by omega
                have i4 : (0 : Int) ≤ (p2 : Int) := by omega
                have hk9 : Bk ((wq.setCell ⟨ob, p1, none⟩ (.int .i64 y2)).setCell ⟨ob, p2, none⟩ (.int .i64 y1)) ob 3 (nums (swI os p1 p2)) := by
                  have := (kq.set_ p1 (.int .i64 y2)).set_ p2 (.int .i64 y1)
                  rw [nums_set, nums_set, ← hy1, ← hy2] at this
                  rw [← hy1, ← hy2]
                  exact this
                have HE := Lib.hid (And.intro kq (And.intro hbq (And.intro hk9 hp1)))
                clear kq hbq hol hy1 hy2 hk9 hp1 hp1e hmod cx
                go_wp2_with fail
                by_cases hpp : p1 = p2
                · subst hpp
                  obtain rfl : y1 = y2 := by have := ca.symm.trans cb; simpa using this
                  go_region
                  go_wp2_with fail
                  exact ⟨⟨t + 1, swI os p1 p1, HX.out.2.2.2.1, by go_num, HX.out.1.swap HE.out.2.2.2 HE.out.2.2.2, HE.out.2.2.1.drew, ((HE.out.2.1.setCell (by rw [HO2.out.1]; exact Nat.le_refl _) _).setCell (by rw [HO2.out.1]; exact Nat.le_refl _) _).drew⟩, by have := HX.out.2.2.2.1; simp [intOf]; omega⟩
                · go_region
                  go_wp2_with fail
                  exact ⟨⟨t + 1, swI os p1 p2, HX.out.2.2.2.1, by go_num, HX.out.1.swap HE.out.2.2.2 HP.out.1, HE.out.2.2.1.drew, ((HE.out.2.1.setCell (by rw [HO2.out.1]; exact Nat.le_refl _) _).setCell (by rw [HO2.out.1]; exact Nat.le_refl _) _).drew⟩, by have := HX.out.2.2.2.1; simp [intOf]; omega⟩
              · have d4 : decide ((M : Int) > 0) = false := decide_eq_false (by omega)
                have d5 : decide ((0 : Int) < (M : Int)) = false := decide_eq_false (by omega)
                have d6 : decide (0 < M) = false := decide_eq_false hM0
                have HX := Lib.hid (And.intro hod (And.intro kb hb))
                clear hod kb hb hlt hM0
                go_wp2_with fail
                go_meet
                exact ⟨_, HX.out⟩
            · have kd : decide ((t : Int) < (m : Int)) = false := decide_eq_false (by omega)
              have kd' : decide (t < m) = false := decide_eq_false (by omega)
              have HX := Lib.hid (And.intro hod (And.intro kb hb))
              clear hod kb hb hlt
              go_wp2_with fail
              go_meet
              exact ⟨_, HX.out⟩
        case rest =>
          obtain ⟨os, h1, h2, h3⟩ := hcut
          have HP := Lib.hid (And.intro HO2.out.1 (And.intro h1 (And.intro h2 h3)))
          clear HO2 h1 h2 h3
          have HW2 := Lib.hid (And.intro (HW.out.1.below HP.out.2.2.2) (And.intro (HW.out.2.2.1.below HP.out.2.2.2) (below_base HW.out.2.2.2.2.2 HP.out.2.2.2 HW.out.2.2.2.2.2.size)))
          go_wp2_with fail
          refine (new_dw (K : Int) 2 25 (.inl (by have := HK.out.2; omega))).mono ?_
          intro e w4 h3
          obtain ⟨Dx, rfl, h4⟩ := lp_new (Below.refl _ _) h3 (by have := HK.out; unfold pbad bad; omega)
          have HLx : Hid (Lp wc w4 Dx (newD K 2 25)) := Lib.hid h4
          clear h3 h4
          go_wp2_with fail
          refine (new_dw (K : Int) 2 25 (.inl (by have := HK.out.2; omega))).mono ?_
          intro e w5 h5
          obtain ⟨Dy, rfl, h6⟩ := L2.made HLx.out h5 (by have := HK.out; unfold pbad bad; omega)
          have HT0 : Hid (RO wc w5 Dx Dy K blk sets os 0 (newD K 2 25) (newD K 2 25)) := Lib.hid { l2 := h6, tx := TI.new HK.out, ty := TI.new HK.out, sx := rfl, ix := rfl, sy := rfl, iy := rfl }
          clear h5 h6
          go_wp2_with fail
          go_loopg [21] M (fun q i wr => ∃ (j : Nat) (dx dy : DS), q + j = M ∧ i = .int .i64 j ∧ RO wc wr Dx Dy K blk sets os j dx dy)
          case atStart => exact ⟨0, _, _, by omega, rfl, HT0.out⟩
          case round =>
            clear HT0
            obtain ⟨j, dx, dy, hj, rfl, hT⟩ := hrel
            by_cases hlt : j < M
            · have km : (j : Int) < (M : Int) := by omega
              have kd : decide ((j : Int) < (M : Int)) = true := decide_eq_true km
              have kd' : decide (j < M) = true := decide_eq_true hlt
              have j0 : (0 : Int) ≤ (j : Int) := by omega
              have hjs : j < sets.length := by rw [HM.out]; exact hlt
              have hjo : j < os.length := by rw [HP.out.2.1.len]; exact hlt
              obtain ⟨rb, e5, hrb, hcell⟩ := HW2.out.2.1.2 (by rw [HM.out]; omega)
              subst e5
              obtain ⟨B3, c3, cb3, hr3⟩ := hcell j hjs
              have hSj := HW.out.2.2.2.1 _ (getD_mem hjs)
              obtain ⟨S, hSe⟩ : ∃ S, sets.getD j [] = S := ⟨_, rfl⟩
              rw [hSe] at cb3 hr3 hSj
              obtain ⟨L, hL⟩ : ∃ L, S.length = L := ⟨_, rfl⟩
              rw [hL] at cb3 hr3
              have hL12 : L ≤ 12 := by have := hSj.len; have := HK.out.2; omega
              obtain ⟨n2, hn2, hn2M⟩ := HP.out.2.1.rng hlt
              have hns : n2 < sets.length := by rw [HM.out]; exact hn2M
              obtain ⟨B4, c4, cb4, hr4⟩ := hcell n2 hns
              have hSn := HW.out.2.2.2.1 _ (getD_mem hns)
              obtain ⟨S', hSe'⟩ : ∃ S, sets.getD n2 [] = S := ⟨_, rfl⟩
              rw [hSe'] at cb4 hr4 hSn
              obtain ⟨L', hL'⟩ : ∃ L, S'.length = L := ⟨_, rfl⟩
              rw [hL'] at cb4 hr4
              have hL12' : L' ≤ 12 := by have := hSn.len; have := HK.out.2; omega
              have ko := HP.out.2.2.1
              have co := (ko.cell j).trans (nums_gi hjo)
              rw [hn2] at co
              have hb0 := hT.l2.lp.1
              have cbr := cell_below hb0 cb3
              have hdl : dx.sets.length = j := by rw [hT.sx, List.length_take]; omega
              have hdl' : dy.sets.length = j := by rw [hT.sy]; unfold ordS; rw [List.length_map, List.length_take]; omega
              have hni : ¬ (j : Int) ∈ dx.ids := by rw [hT.ix]; exact not_idsTo j
              have hni' : ¬ (n2 : Int) ∈ dy.ids := by rw [hT.iy, ← hn2]; exact HP.out.2.1.fresh hlt
              have HX := Lib.hid (And.intro hT (And.intro hr3 (And.intro hSj (And.intro hL (And.intro hj (And.intro cb3 (And.intro hdl hni)))))))
              have HY := Lib.hid (And.intro hr4 (And.intro hSn (And.intro hL' (And.intro cb4 (And.intro hdl' (And.intro hni' (And.intro co hn2M)))))))
              have HZ := Lib.hid (And.intro hjs (And.intro hSe (And.intro hjo (And.intro hn2 hSe'))))
              have HB0 := Lib.hid hb0
              clear hT hr3 hSj hL hj cb3 hdl hni hr4 hSn hL' cb4 hdl' hni' co hn2M hjs hSe hjo hn2 hSe' hcell hrb hlt ko hns hb0
              go_wp2_with fail
              go_region_held3 (fun w' => w'.cell? ⟨rb, j, none⟩ = some (.slice B3 L c3))
                (first | exact S5.out.2.2 | exact S4.out.2.2 | exact cbr | go_keep)
                (first
                  | (go_at_call 15; refine (sum_any (c := c1) (c' := c3) (HW2.out.1.below (HB0.out.drew)) HW.out.2.1 (HX.out.2.1.below (HB0.out.drew)) HX.out.2.2.1.inr HK.out.2 hL12).mono ?_; rintro e w6 ⟨v4, rfl, ho4, hb4⟩; obtain ⟨V, cv, rfl⟩ := own_sl ho4; have S4 := Lib.hid (And.intro ho4 (And.intro (below_undrew hb4) (cell_below (below_base HB0.out (below_undrew hb4) HB0.out.size) HX.out.2.2.2.2.2.1))); clear ho4 hb4)
                  | (go_at_call 14; refine (l2_sum HX.out.1.l2 HX.out.1.tx HW.out.2.1 HX.out.2.2.1 HX.out.2.2.2.2.2.2.2 (by have := HX.out.2.2.2.2.2.2.1; omega) (by omega) S4.out.2.1 HX.out.2.2.2.1 HX.out.2.1 S4.out.1 HK.out.2).mono ?_; rintro e w7 ⟨v5, out, d', ead, rfl, p1, p2, p3, p4, p5, p6, p7, p8⟩; have S5 := Lib.hid (And.intro (And.intro p2 (And.intro p3 p4)) (And.intro (p1.held (Hd' := fun _ => False) fun b e => e.elim) (cell_below p1.lp.1 HX.out.2.2.2.2.2.1))); clear ead p1 p2 p3 p4 p5 p6 p7 p8))
              have H5 := Lib.hid (And.intro S5.out.1 S5.out.2.1)
              have HB5 := Lib.hid S5.out.2.1.lp.1
              have co5 := cell_below HB5.out HY.out.2.2.2.2.2.2.1
              have cb5 := cell_below HB5.out HY.out.2.2.2.1
              have n2M : (n2 : Int) < (M : Int) := by have := HY.out.2.2.2.2.2.2.2; omega
              have n20 : (0 : Int) ≤ (n2 : Int) := by omega
              have n225 : n2 ≤ 25 := by omega
              clear S5 S4 cbr
              go_wp2_with fail
              go_region_held3 (fun w' => w'.cell? ⟨rb, n2, none⟩ = some (.slice B4 L' c4))
                (first | exact S7.out.2.2 | exact S6.out.2.2 | exact cb5 | go_keep)
                (first
                  | (go_at_call 15; refine (sum_any (c := c1) (c' := c4) (HW2.out.1.below (HB5.out.drew)) HW.out.2.1 (HY.out.1.below (HB5.out.drew)) HY.out.2.1.inr HK.out.2 hL12').mono ?_; rintro e w8 ⟨v4, rfl, ho4, hb4⟩; obtain ⟨V6, cv6, rfl⟩ := own_sl ho4; have S6 := Lib.hid (And.intro ho4 (And.intro (below_undrew hb4) (cell_below (below_base HB5.out (below_undrew hb4) HB5.out.size) HY.out.2.2.2.1))); clear ho4 hb4)
                  | (go_at_call 14; refine (l2_sum H5.out.2.symm HX.out.1.ty HW.out.2.1 HY.out.2.1 HY.out.2.2.2.2.2.1 (by have := HY.out.2.2.2.2.1; omega) n225 S6.out.2.1 HY.out.2.2.1 HY.out.1 S6.out.1 HK.out.2).mono ?_; rintro e w9 ⟨v8, out8, d8, ead, rfl, p1, p2, p3, p4, p5, p6, p7, p8⟩; have S7 := Lib.hid (And.intro (And.intro p2 (And.intro p3 p4)) (And.intro (p1.symm.held (Hd' := fun _ => False) fun b e => e.elim) (cell_below p1.lp.1 HY.out.2.2.2.1))); clear ead p1 p2 p3 p4 p5 p6 p7 p8))
              have HB7 := Lib.hid S7.out.2.1.lp.1
              have hRO : RO wc w9 Dx Dy K blk sets os (j + 1) d' d8 :=
                { l2 := S7.out.2.1, tx := H5.out.1.1, ty := S7.out.1.1
                  sx := by rw [H5.out.1.2.1, HX.out.1.sx]; exact take_getD HZ.out.1 HZ.out.2.1
                  ix := by rw [H5.out.1.2.2, HX.out.1.ix, idsTo_succ]
                  sy := by rw [S7.out.1.2.1, HX.out.1.sy]; exact ordS_succ HZ.out.2.2.1 HZ.out.2.2.2.1 HZ.out.2.2.2.2
                  iy := by rw [S7.out.1.2.2, HX.out.1.iy]; exact take_gi HZ.out.2.2.1 HZ.out.2.2.2.1 }
              have cb7 := cell_below HB7.out HY.out.2.2.2.1
              have H7 := Lib.hid hRO
              have hid9 : (n2 : Int) ∈ d8.ids := by rw [S7.out.1.2.2]; exact List.mem_append_right _ (List.mem_singleton.2 rfl)
              have hdl9 : d8.sets.length ≤ 25 := by rw [hRO.sy]; unfold ordS; rw [List.length_map, List.length_take]; omega
              have HI := Lib.hid (And.intro hid9 hdl9)
              clear S7 S6 co5 cb5 hRO hid9 hdl9
              by_cases h3 : j % 3 = 0
              · have e1 : ((j : Int).tmod 3 == 0) = true := by rw [Int.tmod_eq_emod_of_nonneg j0]; simp; omega
                have HC := Lib.hid h3
                clear h3
                go_wp2_with fail
                go_region_held3 (fun w' => w'.cell? ⟨rb, n2, none⟩ = some (.slice B4 L' c4))
                  (first | exact S9.out.2 | exact S8.out.2.2 | exact cb7 | go_keep)
                  (first
                    | (go_at_call 15; refine (sum_any (c := c1) (c' := c4) (HW2.out.1.below (HB7.out.drew)) HW.out.2.1 (HY.out.1.below (HB7.out.drew)) HY.out.2.1.inr HK.out.2 hL12').mono ?_; rintro e wa ⟨v4, rfl, ho4, hb4⟩; obtain ⟨V8, cv8, rfl⟩ := own_sl ho4; have S8 := Lib.hid (And.intro ho4 (And.intro (below_undrew hb4) (cell_below (below_base HB7.out (below_undrew hb4) HB7.out.size) HY.out.2.2.2.1))); clear ho4 hb4)
                    | (go_at_call 25; refine (l2_again H7.out.l2 H7.out.ty HW.out.2.1 HY.out.2.1 HI.out.1 HI.out.2 n225 S8.out.2.1 HY.out.2.2.1 HY.out.1 S8.out.1 HK.out.2).mono ?_; rintro e wb ⟨rfl, p1⟩; have S9 := Lib.hid (And.intro p1 (cell_below p1.lp.1 HY.out.2.2.2.1)); clear p1))
                have HT9 := Lib.hid S9.out.1
                clear S9 S8 cb7
                go_wp2_with fail
                go_roundg (gk - 1)
                case measure => have := HX.out.2.2.2.2.1; omega
                case rel => exact ⟨j + 1, d', d8, by have := HX.out.2.2.2.2.1; omega, by go_num, { H7.out with l2 := HT9.out }⟩
              · have e1 : ((j : Int).tmod 3 == 0) = false := by rw [Int.tmod_eq_emod_of_nonneg j0]; simp; omega
                clear h3
                go_wp2_with fail
                refine wp_region_any (by kernel_rfl) ?_
                change wpAny _ _ _ _ _ _ _ (World.drew _)
                refine wpAny_take (i := 0) (v := .int .i64 (j : Nat)) rfl (by kernel_rfl) (by kernel_rfl) (by kernel_rfl) (fun _ _ _ h => h) (Or.inl ⟨by rfl, fun w => by first | rfl | go_simp⟩) ?_
                go_simp
                refine wpAny_take (i := 1) (v := .int .i64 ((j : Int).tmod 3)) rfl (by kernel_rfl) (by kernel_rfl) (by kernel_rfl) (fun _ _ _ h => h) (Or.inl ⟨by rfl, fun w => by first | rfl | go_simp⟩) ?_
                go_simp
                refine wpAny_take (i := 2) (v := .bool false) rfl (by kernel_rfl) (by kernel_rfl) (by kernel_rfl) (fun _ _ _ h => h) (Or.inl ⟨by rfl, fun w => by first | rfl | go_simp⟩) ?_
                go_simp
                refine wpAny_take (i := 3) (v := .bool false) rfl (by kernel_rfl) (by kernel_rfl) (by kernel_rfl) (fun _ _ _ h => h) (Or.inl ⟨by rfl, fun w => by first | rfl | go_simp⟩) ?_
                go_simp
                refine wpAny_take (i := 4) (v := undef) rfl (by kernel_rfl) (by kernel_rfl) (by kernel_rfl) (fun _ _ _ h => h) (Or.inr ⟨by rfl, rfl⟩) ?_
                go_simp
                refine wpAny_take (i := 5) (v := undef) rfl (by kernel_rfl) (by kernel_rfl) (by kernel_rfl) (fun _ _ _ h => h) (Or.inr ⟨by rfl, rfl⟩) ?_
                go_simp
                refine wpAny_take (i := 6) (v := undef) rfl (by kernel_rfl) (by kernel_rfl) (by kernel_rfl) (fun _ _ _ h => h) (Or.inr ⟨by rfl, rfl⟩) ?_
                go_simp
                refine wpAny_take (i := 7) (v := undef) rfl (by kernel_rfl) (by kernel_rfl) (by kernel_rfl) (fun _ _ _ h => h) (Or.inr ⟨by rfl, rfl⟩) ?_
                go_simp
                refine wpAny_take (i := 8) (v := undef) rfl (by kernel_rfl) (by kernel_rfl) (by kernel_rfl) (fun _ _ _ h => h) (Or.inr ⟨by rfl, rfl⟩) ?_
                go_simp
                refine wpAny_take (i := 9) (v := undef) rfl (by kernel_rfl) (by kernel_rfl) (by kernel_rfl) (fun _ _ _ h => h) (Or.inr ⟨by rfl, rfl⟩) ?_
                go_simp
                refine wpAny_take (i := 10) (v := undef) rfl (by kernel_rfl) (by kernel_rfl) (by kernel_rfl) (fun _ _ _ h => h) (Or.inr ⟨by rfl, rfl⟩) ?_
                go_simp
                refine wpAny_take (i := 11) (v := undef) rfl (by kernel_rfl) (by kernel_rfl) (by kernel_rfl) (fun _ _ _ h => h) (Or.inr ⟨by rfl, rfl⟩) ?_
                go_simp
                refine wpAny_take (i := 12) (v := undef) rfl (by kernel_rfl) (by kernel_rfl) (by kernel_rfl) (fun _ _ _ h => h) (Or.inr ⟨by rfl, rfl⟩) ?_
                go_simp
                refine wpAny_take (i := 13) (v := undef) rfl (by kernel_rfl) (by kernel_rfl) (by kernel_rfl) (fun _ _ _ h => h) (Or.inr ⟨by rfl, rfl⟩) ?_
                go_simp
                refine wpAny_take (i := 14) (v := undef) rfl (by kernel_rfl) (by kernel_rfl) (by kernel_rfl) (fun _ _ _ h => h) (Or.inr ⟨by rfl, rfl⟩) ?_
                go_simp
                refine wpAny_take (i := 15) (v := undef) rfl (by kernel_rfl) (by kernel_rfl) (by kernel_rfl) (fun _ _ _ h => h) (Or.inr ⟨by rfl, rfl⟩) ?_
                go_simp
                refine wpAny_take (i := 16) (v := undef) rfl (by kernel_rfl) (by kernel_rfl) (by kernel_rfl) (fun _ _ _ h => h) (Or.inr ⟨by rfl, rfl⟩) ?_
                go_simp
                refine wpAny_take (i := 17) (v := undef) rfl (by kernel_rfl) (by kernel_rfl) (by kernel_rfl) (fun _ _ _ h => h) (Or.inr ⟨by rfl, rfl⟩) ?_
                go_simp
                refine wpAny_take (i := 18) (v := .bool false) rfl (by kernel_rfl) (by kernel_rfl) (by kernel_rfl) (fun _ _ _ h => h) (Or.inl ⟨by rfl, fun w => by first | rfl | go_simp⟩) ?_
                go_simp
                refine wpAny_done (by kernel_rfl) ?_ _
                go_wp2_with fail
                go_roundg (gk - 1)
                case measure => have := HX.out.2.2.2.2.1; omega
                case rel => exact ⟨j + 1, d', d8, by have := HX.out.2.2.2.2.1; omega, by go_num, { H7.out with l2 := H7.out.l2.below (Below.refl _ _).drew }⟩
            · have kd : decide ((j : Int) < (M : Int)) = false := decide_eq_false (by omega)
              have kd' : decide (j < M) = false := decide_eq_false (by omega)
              have hjM : j = M := by omega
              have hm : ∀ s, s ∈ dy.sets ↔ s ∈ dx.sets := fun s => by
                rw [hT.sx, hT.sy, hjM, List.take_of_length_le (by rw [HP.out.2.1.len]; exact Nat.le_refl _), List.take_of_length_le (by rw [HM.out]; exact Nat.le_refl _)]
                exact HP.out.2.1.sets HM.out s
              have hkn := same_kn hT.tx hT.ty hm
              have hsy := fun i => same_sy hT.tx hT.ty hkn i
              have hkl : (knL dx.kn).length ≤ 12 := by have := hT.tx.knl; have := HK.out.2; omega
              have hdl : dx.sets.length = M := by rw [hT.sx, List.length_take, HM.out]; omega
              have hdl' : dy.sets.length = M := by rw [hT.sy]; unfold ordS; rw [List.length_map, List.length_take, HP.out.2.1.len]; omega
              have HLx := Lib.hid hT.l2.lp
              have HL := Lib.hid hT.l2
              have HS := Lib.hid (And.intro hkn (And.intro hsy (And.intro hdl hdl')))
              have HTx := Lib.hid hT.tx
              clear hT hj hlt hjM hm hkn hsy hdl hdl'
              go_wp2_with fail
              refine (lp_known HLx).mono ?_
              rintro e w6 ⟨v6, rfl, ho6, hb6⟩
              obtain ⟨V6, cv6, rfl⟩ := own_sl ho6
              have HL6 := Lib.hid (HL.out.below hb6)
              have HO6 := Lib.hid (Rd.of_own ho6)
              have HLy := Lib.hid HL6.out.symm.lp
              clear ho6 hb6
              go_wp2_with fail
              refine (lp_known HLy).mono ?_
              rintro e w7 ⟨v7, rfl, ho7, hb7⟩
              rw [HS.out.1] at ho7
              obtain ⟨V7, cv7, rfl⟩ := own_sl ho7
              have HL7 := Lib.hid (HL6.out.below hb7)
              have hq := sameInts_any (c := cv6) (c' := cv7) (HO6.out.below hb7) (Rd.of_own ho7) (by omega)
              rw [show (knL dx.kn == knL dx.kn) = true from by simp] at hq
              have HQ := Lib.hid hq
              clear hq ho7 hb7
              go_wp2_with fail
              refine HQ.out.mono ?_
              rintro e w8 ⟨rfl, hb8⟩
              have HL8 := Lib.hid (HL7.out.below hb8)
              have HLx8 := Lib.hid HL8.out.lp
              have HLy8 := Lib.hid HL8.out.symm.lp
              clear hb8
              go_wp2_with fail
              have hpx := lp_packets HLx8
              rw [HS.out.2.2.1] at hpx
              refine hpx.mono ?_
              rintro e w9 ⟨rfl, rfl⟩
              clear hpx
              go_wp2_with fail
              have hpy := lp_packets HLy8
              rw [HS.out.2.2.2] at hpy
              refine hpy.mono ?_
              rintro e w9 ⟨rfl, rfl⟩
              clear hpy
              go_wp2_with fail
              go_loopw [23] (fun i wx => ∃ t : Nat, t ≤ K ∧ i = .int .i64 t ∧ Below w8.heap.size w8 wx) (fun i wx => K - (intOf i).toNat)
              case atStart => exact ⟨0, by omega, rfl, Below.refl _ _⟩
              case round =>
                obtain ⟨t, ht, rfl, hbx⟩ := hrel
                have HLz := Lib.hid (HL8.out.below hbx)
                by_cases hlt : t < K
                · have km2 : (t : Int) < (K : Int) := by omega
                  have kd2 : decide ((t : Int) < (K : Int)) = true := decide_eq_true km2
                  have kd2' : decide (t < K) = true := decide_eq_true hlt
                  have ht12 : t ≤ 12 := by have := HK.out.2; omega
                  have hsx := lp_symbol (Lib.hid HLz.out.lp) (t : Int)
                  obtain ⟨T1, hT1⟩ : ∃ T, syR dx (t : Int) = T := ⟨_, rfl⟩
                  rw [hT1] at hsx
                  have HT1 := Lib.hid hT1
                  have HG := Lib.hid (And.intro hlt hbx)
                  have hl9 : T1.1.length ≤ 65535 := by
                    rw [← hT1, HTx.out.syR]
                    have hok := HTx.out.ok
                    have hkk := HTx.out.kk
                    split
                    · split
                      · rename_i hi hkn
                        rw [← HTx.out.so.2 _ hi.1 (by rw [hkk]; exact hi.2) hkn, hok.vx (by rw [hkk]; exact hi) hkn]
                        exact hok.s1.2
                      · exact Nat.zero_le _
                    · exact Nat.zero_le _
                  obtain ⟨l1, e1⟩ := T1
                  clear hlt hbx hT1 ht
                  dsimp only at hsx hl9
                  go_wp2_with fail
                  refine hsx.mono ?_
                  rintro e wy ⟨vy, rfl, hoy, hby⟩
                  obtain ⟨Vy, cvy, rfl⟩ := own_sl hoy
                  have HLq := Lib.hid (HLz.out.below hby)
                  have HOy := Lib.hid (Rd.of_own hoy)
                  have hsy := lp_symbol (Lib.hid HLq.out.symm.lp) (t : Int)
                  rw [HS.out.2.1, HT1.out] at hsy
                  have HBy := Lib.hid hby
                  clear hoy hby hsx
                  dsimp only at hsy
                  go_wp2_with fail
                  refine hsy.mono ?_
                  rintro e wz ⟨vz, rfl, hoz, hbz⟩
                  obtain ⟨Vz, cvz, rfl⟩ := own_sl hoz
                  have hsm := same_any (c := cvy) (c' := cvz) (HOy.out.below hbz) (Rd.of_own hoz)
                  rw [show (l1 == l1) = true from by simp] at hsm
                  have HSm := Lib.hid hsm
                  have HBz := Lib.hid (below_base (below_base HG.out.2 HBy.out HG.out.2.size) hbz (Nat.le_trans HG.out.2.size HBy.out.size))
                  clear hoz hbz hsm hsy
                  go_wp2_with fail
                  refine HSm.out.mono ?_
                  rintro e wq ⟨rfl, rfl⟩
                  go_wp2_with fail
                  exact ⟨⟨t + 1, HG.out.1, by go_num, HBz.out⟩, by have := HG.out.1; simp [intOf]; omega⟩
                · have kd2 : decide ((t : Int) < (K : Int)) = false := decide_eq_false (by omega)
                  have kd2' : decide (t < K) = false := decide_eq_false (by omega)
                  clear hlt hbx ht
                  go_wp2_with fail
                  go_ret
                  exact ⟨rfl, below_base HW2.out.2.2 HLz.out.lp.1 HW2.out.2.2.size⟩
end Go.Proofs.Ytidoembkcaojoaa
