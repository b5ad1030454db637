/- artesianref14.Make. -/
import Derived.Test.YtfcoeonabppjiaaM14
namespace Go.Proofs.Ytfcoeonabppjiaa
open Go.RowKit
set_option linter.unusedVariables false
theorem made_bools (m : Nat) : madeCells (Value.bool false).cells (m * 1) = (bls (List.replicate m false)).toArray := by
  apply Array.ext
  · simp [madeCells, bls]
  · intro i h1 h2
    simp [madeCells, Value.cells, bls, Nat.mod_one]
theorem u4_info : (Try.prog.info? 4).map (fun i => (i.zero, i.size, i.bytes)) = some (some (.bool false), 1, 1) := by kernel_rfl
theorem run_make_bools (m : Nat) (hm : m ≤ 1000000) (w : World) : (Instr.makeSlice 48 (.int .i64 (m : Int)) (.int .i64 (m : Int))).run Try.prog w = .ok (.slice (some ⟨w.heap.size, 0, none⟩) m m) (w.alloc (.cells (bls (List.replicate m false)).toArray 4)) := by
  obtain ⟨i0, hi0, hz0, hz1, hz2⟩ := info_parts u4_info
  have := run_make (P := Try.prog) w 48 4 i0 (.bool false) Try.underlying48 hi0 hz0 .i64 .i64 m m (by omega) (by omega) (by rw [hz2]; omega) (by omega)
  rw [hz1] at this
  simp only [Int.toNat_natCast] at this
  rw [made_bools] at this
  exact this
theorem Rd.full {w : World} {g n : Nat} {t : TypeId} {cs : List Value} (h : Bk w g t cs) (hn : cs.length = n) : Rd w (some ⟨g, 0, none⟩) n cs :=
  Rd.of_bk h (by omega) (by rw [List.drop_zero]; exact List.take_of_length_le (by omega))
/-- The places of the blocks. -/
def NsR (w0 : World) (R0 B C O R D : Nat) : Prop :=
  w0.heap.size ≤ R0 ∧ R0 < R ∧ R0 < D ∧ R ≠ D ∧ R < B ∧ R < C ∧ R < O ∧ D < B ∧ D < C ∧ D < O ∧ B ≠ C ∧ B ≠ O ∧ C ≠ O
theorem two_blocks (w : World) (xs ys : List Value) (tx ty : TypeId) :
    Bk (((w.alloc (.cells xs.toArray tx)).alloc (.cells ys.toArray ty)).drew) w.heap.size tx xs ∧ Bk (((w.alloc (.cells xs.toArray tx)).alloc (.cells ys.toArray ty)).drew) (w.heap.size + 1) ty ys ∧ Below w.heap.size w (((w.alloc (.cells xs.toArray tx)).alloc (.cells ys.toArray ty)).drew) ∧ (((w.alloc (.cells xs.toArray tx)).alloc (.cells ys.toArray ty)).drew).heap.size = w.heap.size + 2 := by
  refine ⟨(Bk.new w tx xs).alloc _, ?_, (((Below.refl _ _).alloc (Nat.le_refl _) _).alloc (by rw [World.size_alloc]; omega) _).drew, ?_⟩
  · have := Bk.new (w.alloc (.cells xs.toArray tx)) ty ys
    rw [World.size_alloc] at this
    exact this
  · show ((w.alloc (.cells xs.toArray tx)).alloc (.cells ys.toArray ty)).heap.size = _
    rw [World.size_alloc, World.size_alloc]
set_option maxRecDepth 100000 in
set_option maxHeartbeats 8000000 in
/-- artesianref14.Make, of a table. -/
theorem refMake_ok {w : World} {A : Option Addr} {n c : Nat} {t : List Int} (h : Rd w A n (nums t)) (hn : n ≤ 65536) (hok : tabOk t = true) :
    Calls Try.prog 12 #[.slice A n c] w (MkPost w t) := by
  have hx : t.length = n := by have := h.1; simpa [nums_length] using this
  obtain ⟨hl, hm, hs⟩ := (tabOk_iff t).1 hok
  have hT := sum_pos hm hs
  have hTb := (sum_bound hm).2
  obtain ⟨T, hTT⟩ : ∃ T, T = t.sum := ⟨_, rfl⟩
  have hT0 : 0 < T := by omega
  have hTm : T ≤ 65536 * 16777215 := by omega
  have HT := Lib.hid (And.intro hTT (And.intro hx (And.intro hok (And.intro hm hn))))
  have HR := Lib.hid h
  have hmk := run_make_ints n (by omega)
  have hmb := run_make_bools n (by omega)
  clear hx hl hm hs hT hTb hok hTT h
  go_enter Try.func12, Try.ntmps12
  go_wp2_with fail
  refine (table_any (HR.out.below ((Below.refl _ _).alloc (Nat.le_refl _) _)) (by omega)).mono ?_
  rintro e w' ⟨rfl, rfl⟩
  rw [HT.out.2.2.1]
  go_wp2_with fail
  refine (refTotal_any (HR.out.below ((Below.refl _ _).alloc (Nat.le_refl _) _)) hn HT.out.2.2.2.1).mono ?_
  rintro e w' ⟨rfl, rfl⟩
  rw [← HT.out.1]
  go_upto_region 4 with fail
  have HR0 := Lib.hid (And.intro (Bk.newA w 26 #[.int .i64 0, .slice none 0 0, .slice none 0 0]) (And.intro ((Below.refl w.heap.size w).alloc (Nat.le_refl _) (.cells #[.int .i64 0, .slice none 0 0, .slice none 0 0] 26)) (HR.out.below ((Below.refl _ _).alloc (Nat.le_refl _) (.cells #[.int .i64 0, .slice none 0 0, .slice none 0 0] 26)))))
  have hs1 : (w.alloc (.cells #[.int .i64 0, .slice none 0 0, .slice none 0 0] 26)).heap.size = w.heap.size + 1 := World.size_alloc _ _
  generalize w.alloc (.cells #[.int .i64 0, .slice none 0 0, .slice none 0 0] 26) = w1 at HR0 hs1 ⊢
  have HS1 := Lib.hid hs1
  clear hs1
  generalize hZ : nums (List.replicate n 0) = Z at hmk
  generalize hY : bls (List.replicate n false) = Y at hmb
  have HZ := Lib.hid (And.intro hZ hY)
  clear hZ hY
  go_cut [6, 7] (fun s6 s7 wx => ∃ R D, s6 = .slice (some ⟨R, 0, none⟩) n n ∧ s7 = .slice (some ⟨D, 0, none⟩) n n ∧ Bk wx R 3 Z ∧ Bk wx D 4 Y ∧ Below w1.heap.size w1 wx ∧ w1.heap.size ≤ R ∧ w1.heap.size ≤ D ∧ R ≠ D)
  case first =>
    go_region
    all_goals go_wp2_with fail
    all_goals go_meet
    · obtain ⟨h1, h2, h3, h4⟩ := two_blocks w1 Z Y 3 4
      exact ⟨_, _, rfl, rfl, h1, h2, h3, by omega, by omega, by omega⟩
    · obtain ⟨h1, h2, h3, h4⟩ := two_blocks w1 Y Z 4 3
      exact ⟨_, _, rfl, rfl, h2, h1, h3, by omega, by omega, by omega⟩
  case rest =>
    obtain ⟨R, D, rfl, rfl, hbR, hbD, hb2, hR1, hD1, hRD⟩ := hcut
    have hr1 := HR0.out.2.2.below hb2
    have hR0 := HR0.out.1.belowS hb2
    have hbw := below_base HR0.out.2.1 hb2 HR0.out.2.1.size
    have hsw := HS1.out
    have HB := Lib.hid (And.intro hbR (And.intro hbD (And.intro hb2 (And.intro hR1 (And.intro hD1 (And.intro hRD (And.intro hr1 (And.intro hR0 (And.intro hbw (And.intro hsw (And.intro hbR.lt hbD.lt)))))))))))
    clear hbR hbD hb2 hR1 hD1 hRD hr1 hR0 hbw hsw HR0 HS1
    go_upto_region 5 with fail
    go_cut [8] (fun s8 wx => ∃ B C O, s8 = .pointer (some ⟨B, 0, none⟩) ∧ AlAt wc T n B C O (List.replicate n 0) (List.replicate n 0) wx ∧ Below wc.heap.size wc wx ∧ B < wx.heap.size ∧ C < wx.heap.size ∧ O < wx.heap.size)
    case first =>
      go_region
      all_goals go_wp2_with fail
      all_goals go_meet
      all_goals (
        obtain ⟨hbl, hsz⟩ := below3 wc _ _ _
        first | exact alAt_mk HZ.out.1 hbl hsz (Bk.at0 _ _ _ _ _) (Bk.at1 _ _ _ _ _) (Bk.at2 _ _ _ _ _) (by omega) (by omega) (by omega) (by omega) (by omega) (by omega) | exact alAt_mk HZ.out.1 hbl hsz (Bk.at0 _ _ _ _ _) (Bk.at2 _ _ _ _ _) (Bk.at1 _ _ _ _ _) (by omega) (by omega) (by omega) (by omega) (by omega) (by omega) | exact alAt_mk HZ.out.1 hbl hsz (Bk.at1 _ _ _ _ _) (Bk.at0 _ _ _ _ _) (Bk.at2 _ _ _ _ _) (by omega) (by omega) (by omega) (by omega) (by omega) (by omega) | exact alAt_mk HZ.out.1 hbl hsz (Bk.at1 _ _ _ _ _) (Bk.at2 _ _ _ _ _) (Bk.at0 _ _ _ _ _) (by omega) (by omega) (by omega) (by omega) (by omega) (by omega) | exact alAt_mk HZ.out.1 hbl hsz (Bk.at2 _ _ _ _ _) (Bk.at0 _ _ _ _ _) (Bk.at1 _ _ _ _ _) (by omega) (by omega) (by omega) (by omega) (by omega) (by omega) | exact alAt_mk HZ.out.1 hbl hsz (Bk.at2 _ _ _ _ _) (Bk.at1 _ _ _ _ _) (Bk.at0 _ _ _ _ _) (by omega) (by omega) (by omega) (by omega) (by omega) (by omega))
    case rest =>
      rename_i w3
      obtain ⟨B, C, O, rfl, hal, hbx, lB, lC, lO⟩ := hcut
      obtain ⟨hbR, hbD, hb2, hR1, hD1, hRD, hr1, hR0, hbw, hsw, hRl, hDl⟩ := HB.out
      obtain ⟨a1, a2, a3, a4, a5, a6, a7, a8, a9⟩ := hal
      have hs2 := hb2.size
      obtain ⟨f1, hf1⟩ : ∃ f : Nat → Int, f = fun i => gi t i * (n : Int) := ⟨_, rfl⟩
      obtain ⟨f2, hf2⟩ : ∃ f : Nat → Int, f = fun _ => T := ⟨_, rfl⟩
      obtain ⟨f3, hf3⟩ : ∃ f : Nat → Int, f = fun (i : Nat) => (i : Int) := ⟨_, rfl⟩
      have hfx : Fx w T n w.heap.size B C O R (pf f1 n 0) (pf f2 n 0) (pf f3 n 0) wc := by
        rw [pf_zero, pf_zero, pf_zero]
        exact ⟨hR0.belowS hbx, a1, a2, a3, by rw [HZ.out.1]; exact hbR.belowS hbx, below_base hbw hbx hbw.size⟩
      have hbd : Bk wc D 4 (bls (a0 t).done) := by
        have : bls (a0 t).done = Y := by rw [← HZ.out.2]; simp only [a0]; rw [HT.out.2.1]
        rw [this]; exact hbD.belowS hbx
      have hns : NsR w w.heap.size B C O R D := ⟨by omega, by omega, by omega, hRD, by omega, by omega, by omega, by omega, by omega, by omega, a7, a8, a9⟩
      have HF := Lib.hid (And.intro hf1 (And.intro hf2 hf3))
      have H5 := Lib.hid (And.intro hfx hbd)
      have HN := Lib.hid hns
      clear hf1 hf2 hf3 hfx hbd hns hbx lB lC lO hbR hbD hb2 hR1 hD1 hRD hr1 hR0 hbw hsw hRl hDl a1 a2 a3 a4 a5 a6 a7 a8 a9 hs2 hmk hmb HZ HB
      generalize hR0 : w.heap.size = R0 at H5 HN ⊢
      have HR0 := Lib.hid hR0
      have hnn : (n : Int) ≤ 65536 := by omega
      clear hR0
      go_wp2
      go_loopw [9] (fun s9 wr => ∃ (k : Nat), k ≤ n ∧ s9 = .int .i64 k ∧ Fx w T n R0 B C O R (pf f1 n k) (pf f2 n k) (pf f3 n k) wr ∧ Bk wr D 4 (bls (a0 t).done)) (fun s9 wr => n - (intOf s9).toNat)
      case atStart => exact ⟨0, by omega, rfl, H5.out.1, H5.out.2⟩
      case round =>
        obtain ⟨k, hk, rfl, hfx, hbd⟩ := hrel
        clear H5
        have HK := Lib.hid (And.intro hfx hbd)
        clear hfx hbd
        by_cases hlt : k < n
        · have hrd := HR.out.below HK.out.1.2.2.2.2.2
          obtain ⟨b, off, rfl, hbl, hc⟩ := hrd.form (by omega)
          have hkt : k < t.length := by have := HT.out.2.1; omega
          have cx := hc k _ (nums_gi hkt)
          have km : (k : Int) < (n : Int) := by omega
          have hwt := HT.out.2.2.2.1 _ (gi_mem hkt)
          have hv0 : 0 ≤ gi t k * (n : Int) := Int.mul_nonneg hwt.1 (by omega)
          have hv1 : gi t k * (n : Int) ≤ 16777215 * 65536 := Int.mul_le_mul hwt.2 (by omega) (by omega) (by omega)
          have hf1k : f1 k = gi t k * (n : Int) := by rw [HF.out.1]
          rw [Int.mul_comm] at hv0 hv1 hf1k
          obtain ⟨v, hv⟩ : ∃ v, (n : Int) * gi t k = v := ⟨_, rfl⟩
          rw [hv] at hv0 hv1 hf1k
          have HV := Lib.hid (And.intro hlt (And.intro hf1k (And.intro hrd hkt)))
          clear hc hbl hlt hrd hkt hwt hf1k
          have bR := HK.out.1.2.2.2.2.1
          have bC := HK.out.1.2.2.1
          have bO := HK.out.1.2.2.2.1
          have bB := HK.out.1.2.1
          have cR := bR.cell k
          rw [nums_gi (by rw [pf_length]; exact HV.out.1)] at cR
          have cC := bC.cell k
          rw [nums_gi (by rw [pf_length]; exact HV.out.1)] at cC
          have cO := bO.cell k
          rw [nums_gi (by rw [pf_length]; exact HV.out.1)] at cO
          have cB1 := bB.cell 1
          have cB2 := bB.cell 2
          have fR := bR.frozen k
          have fC := bC.frozen k
          have fO := bO.frozen k
          clear bR bC bO bB
          obtain ⟨n1, n2, n3, n4, n5, n6, n7, n8, n9, n10, n11, n12, n13⟩ := HN.out
          have dRC : R ≠ C := by omega
          have dRO : R ≠ O := by omega
          have dCO : C ≠ O := n13
          have dCR : C ≠ R := by omega
          have dOR : O ≠ R := by omega
          have dOC : O ≠ C := fun e => n13 e.symm
          have dBR : B ≠ R := by omega
          have dBC : B ≠ C := n11
          have dBO : B ≠ O := n12
          clear n1 n2 n3 n4 n5 n6 n7 n8 n9 n10 n11 n12 n13
          go_wp2
          obtain ⟨n1, n2, n3, n4, n5, n6, n7, n8, n9, n10, n11, n12, n13⟩ := HN.out
          refine ⟨⟨k + 1, by have := HV.out.1; omega, by go_num, ?_, ?_⟩, by have := HV.out.1; simp [intOf]; omega⟩
          · rw [← pf_set f1 HV.out.1, ← pf_set f2 HV.out.1, ← pf_set f3 HV.out.1, HV.out.2.1, show f2 k = T from by rw [HF.out.2.1], show f3 k = (k : Int) from by rw [HF.out.2.2]]
            exact ((HK.out.1.setR (by omega) (by omega) (by omega) (by omega) (by omega) k v).setC (by omega) (by omega) (by omega) (by omega) (by omega) k T).setO (by omega) (by omega) (by omega) (by omega) (by omega) k k
          · exact ((HK.out.2.far (p := ⟨R, k, none⟩) (by simp only []; omega) _).far (p := ⟨C, k, none⟩) (by simp only []; omega) _).far (p := ⟨O, k, none⟩) (by simp only []; omega) _
        · obtain rfl : k = n := by omega
          have hlk := HT.out.2.1
          have e1 : pf f1 k k = (a0 t).rest := by rw [HF.out.1, ← hlk]; exact pf_rest t
          have e2 : pf f2 k k = (a0 t).cut := by rw [HF.out.2.1, HT.out.1, ← hlk]; exact pf_cut t
          have e3 : pf f3 k k = (a0 t).other := by rw [HF.out.2.2, ← hlk]; exact pf_other t
          have hre : Reached T k (a0 t) (a0 t) 0 := by have := Reached.init HT.out.2.2.1; rw [← HT.out.1, hlk] at this; exact this
          have hfx := HK.out.1
          rw [e1, e2, e3] at hfx
          have hrr : Rd wr (some ⟨R, 0, none⟩) k (nums (a0 t).rest) := Rd.full hfx.2.2.2.2.1 (by rw [nums_length, hre.2.1.lr])
          have hrd : Rd wr (some ⟨D, 0, none⟩) k (bls (a0 t).done) := Rd.full HK.out.2 (by rw [bls_length, hre.2.1.ld])
          have H2L := Lib.hid (And.intro hre (And.intro hfx (And.intro HK.out.2 (And.intro hrr hrd))))
          clear hlk e1 e2 e3 hre hfx hrr hrd HK hlt hk HR HF
          go_wp2_with fail
          refine (below_any T H2L.out.2.2.2.1 H2L.out.2.2.2.2 (by omega)).mono ?_
          rintro e w' ⟨rfl, rfl⟩
          go_wp2
          go_loopg [10] k (fun q s10 wr => ∃ (s : AS) (r : Nat), q + r = k ∧ Reached T k (a0 t) s r ∧ s10 = .int .i64 (bel s.rest s.done T : Nat) ∧ Fx w T k R0 B C O R s.rest s.cut s.other wr ∧ Bk wr D 4 (bls s.done))
          case atStart => exact ⟨a0 t, 0, rfl, H2L.out.1, rfl, H2L.out.2.1, H2L.out.2.2.1⟩
          case round =>
            clear H2L
            obtain ⟨s, r, hqr, hre, rfl, hfx, hbd⟩ := hrel
            have HM := Lib.hid (And.intro hre (And.intro hfx (And.intro hbd hqr)))
            clear hre hfx hbd hqr
            by_cases hbm : bel s.rest s.done T < k
            · have ha := HM.out.1.2.1.above hbm
              have hre := HM.out.1.step hT0 hbm
              have hlt := HM.out.1.lt hbm
              have hst : aStep T s = aUpd T s (bel s.rest s.done T) (abv s.rest T) := by unfold aStep; rw [if_pos (by rw [HM.out.1.2.1.lr]; exact hbm)]
              rw [hst] at hre
              have hge := HM.out.1.2.1.ge _ hbm
              have hle := HM.out.1.2.1.le _ ha.1
              have hrr : Rd wr (some ⟨R, 0, none⟩) k (nums s.rest) := Rd.full HM.out.2.1.2.2.2.2.1 (by rw [nums_length, HM.out.1.2.1.lr])
              have HAB := Lib.hid (above_any (c := k) T hrr (by omega) (by omega))
              clear hst hrr
              generalize bel s.rest s.done T = i at *
              generalize abv s.rest T = j at *
              obtain ⟨hj, hrj, hdj, hji, hdi, hri⟩ := ha
              have HE := Lib.hid (And.intro hre (And.intro hlt (And.intro hbm (And.intro hj hji))))
              obtain ⟨ri, hrie⟩ : ∃ z, gi s.rest i = z := ⟨_, rfl⟩
              obtain ⟨rj, hrje⟩ : ∃ z, gi s.rest j = z := ⟨_, rfl⟩
              rw [hrie] at hge hri
              rw [hrje] at hle hrj
              have HRIJ := Lib.hid (And.intro hrie (And.intro hrje (And.intro hri hrj)))
              have ik : (i : Int) < (k : Int) := by omega
              have jk : (j : Int) < (k : Int) := by omega
              clear hre hlt hdj hdi hrie hrje hbm hj
              go_wp2_with fail
              refine HAB.out.mono ?_
              rintro e w' ⟨rfl, rfl⟩
              have hai := HM.out.1.2.1
              obtain ⟨bR, bC, bO, bB⟩ := (⟨HM.out.2.1.2.2.2.2.1, HM.out.2.1.2.2.1, HM.out.2.1.2.2.2.1, HM.out.2.1.2.1⟩ : _ ∧ _ ∧ _ ∧ _)
              have cRi := bR.cell i
              rw [nums_gi (by rw [hai.lr]; omega), HRIJ.out.1] at cRi
              have cCi := bC.cell i
              rw [nums_gi (by rw [hai.lc]; omega)] at cCi
              have cOi := bO.cell i
              rw [nums_gi (by rw [hai.lo]; omega)] at cOi
              have cB1 := bB.cell 1
              have cB2 := bB.cell 2
              have fC := bC.frozen i
              have fO := bO.frozen i
              clear bR bC bO bB hai HAB
              obtain ⟨n1, n2, n3, n4, n5, n6, n7, n8, n9, n10, n11, n12, n13⟩ := HN.out
              have dRC : R ≠ C := by omega
              have dRO : R ≠ O := by omega
              have dCO : C ≠ O := n13
              have dOC : O ≠ C := fun e => n13 e.symm
              have dBC : B ≠ C := n11
              have dBO : B ≠ O := n12
              clear n1 n2 n3 n4 n5 n6 n7 n8 n9 n10 n11 n12 n13
              go_wp2_with fail
              go_cut [] (fun wy => Fx w T k R0 B C O R s.rest (s.cut.set i ri) s.other wy ∧ Bk wy D 4 (bls s.done))
              case first =>
                go_region
                all_goals go_wp2_with fail
                all_goals go_meet
                all_goals (
                  obtain ⟨n1, n2, n3, n4, n5, n6, n7, n8, n9, n10, n11, n12, n13⟩ := HN.out
                  exact ⟨(HM.out.2.1.setC (by omega) (by omega) (by omega) (by omega) (by omega) i ri).drew, (HM.out.2.2.1.far (p := ⟨C, i, none⟩) (by simp only []; omega) _).drew⟩)
              case rest =>
                clear cRi cCi cOi cB1 cB2 fC fO
                obtain ⟨hfx, hbd⟩ := hcut
                have hai := HM.out.1.2.1
                have cB2 := hfx.2.1.cell 2
                have cOi := hfx.2.2.2.1.cell i
                rw [nums_gi (by rw [hai.lo]; omega)] at cOi
                have fO := hfx.2.2.2.1.frozen i
                have cRi := hfx.2.2.2.2.1.cell i
                rw [nums_gi (by rw [hai.lr]; omega), HRIJ.out.1] at cRi
                have cRj := hfx.2.2.2.2.1.cell j
                rw [nums_gi (by rw [hai.lr]; omega), HRIJ.out.2.1] at cRj
                have fRj := hfx.2.2.2.2.1.frozen j
                have HX := Lib.hid (And.intro hfx hbd)
                clear hfx hbd hai
                obtain ⟨v, hv⟩ : ∃ z, rj - (T - ri) = z := ⟨_, rfl⟩
                have HVV := Lib.hid hv
                go_wp2_with fail
                go_cut [] (fun wy => Fx w T k R0 B C O R (s.rest.set j v) (s.cut.set i ri) (s.other.set i (j : Int)) wy ∧ Bk wy D 4 (bls s.done))
                case first =>
                  go_region
                  all_goals go_wp2_with fail
                  all_goals go_meet
                  all_goals (
                    obtain ⟨n1, n2, n3, n4, n5, n6, n7, n8, n9, n10, n11, n12, n13⟩ := HN.out
                    exact ⟨((HX.out.1.setO (by omega) (by omega) (by omega) (by omega) (by omega) i j).setR (by omega) (by omega) (by omega) (by omega) (by omega) j v).drew, ((HX.out.2.far (p := ⟨O, i, none⟩) (by simp only []; omega) _).far (p := ⟨R, j, none⟩) (by simp only []; omega) _).drew⟩)
                case rest =>
                  clear cRi cRj cOi cB2 fO fRj
                  obtain ⟨hfx, hbd⟩ := hcut
                  have hs' : aUpd T s i j = ⟨s.rest.set j v, s.cut.set i ri, s.other.set i (j : Int), s.done.set i true⟩ := by
                    unfold aUpd; rw [HRIJ.out.1, HRIJ.out.2.1, hv]
                  rw [show s.rest.set j v = (aUpd T s i j).rest from by rw [hs'], show s.cut.set i ri = (aUpd T s i j).cut from by rw [hs'], show s.other.set i (j : Int) = (aUpd T s i j).other from by rw [hs']] at hfx
                  have hid : i < s.done.length := by rw [HM.out.1.2.1.ld]; omega
                  have cD := hbd.cell i
                  rw [bls_gb hid] at cD
                  have fD := hbd.frozen i
                  have hbd2 := hbd.set_ i (.bool true)
                  rw [bls_set, show s.done.set i true = (aUpd T s i j).done from by rw [hs']] at hbd2
                  have hfx2 : Fx w T k R0 B C O R (aUpd T s i j).rest (aUpd T s i j).cut (aUpd T s i j).other _ := hfx.chg (S := fun x => x = D) ((Chg.refl (fun x => x = D) _).set_ (g := D) (show (fun x => x = D) D from rfl) i (.bool true)) (by
                    have := HN.out; obtain ⟨n1, n2, n3, n4, n5, n6, n7, n8, n9, n10, n11, n12, n13⟩ := this; omega) (by
                    have := HN.out; obtain ⟨n1, n2, n3, n4, n5, n6, n7, n8, n9, n10, n11, n12, n13⟩ := this; omega) (by
                    have := HN.out; obtain ⟨n1, n2, n3, n4, n5, n6, n7, n8, n9, n10, n11, n12, n13⟩ := this; omega) (by
                    have := HN.out; obtain ⟨n1, n2, n3, n4, n5, n6, n7, n8, n9, n10, n11, n12, n13⟩ := this; omega) (by
                    have := HN.out; obtain ⟨n1, n2, n3, n4, n5, n6, n7, n8, n9, n10, n11, n12, n13⟩ := this; omega) (fun x hx => by
                    have := HN.out; obtain ⟨n1, n2, n3, n4, n5, n6, n7, n8, n9, n10, n11, n12, n13⟩ := this; omega)
                  have hrr := Rd.full hfx2.2.2.2.2.1 (n := k) (by rw [nums_length, HE.out.1.2.1.lr])
                  have hrd := Rd.full hbd2 (n := k) (by rw [bls_length, HE.out.1.2.1.ld])
                  have HBL := Lib.hid (below_any (c := k) (c' := k) T hrr hrd (by omega))
                  have HZ := Lib.hid (And.intro hfx2 hbd2)
                  clear hfx hfx2 hbd hbd2 hs' hid hrr hrd hv
                  go_wp2_with fail
                  refine HBL.out.mono ?_
                  rintro e w' ⟨rfl, rfl⟩
                  go_wp2
                  go_roundg (gk - 1)
                  case measure => have := HM.out.2.2.2; have := HE.out.2.1; omega
                  case rel => exact ⟨aUpd T s i j, r + 1, by have := HM.out.2.2.2; have := HE.out.2.1; omega, HE.out.1, rfl, HZ.out.1, HZ.out.2⟩
            · have hbi : ¬ ((bel s.rest s.done T : Nat) : Int) < (k : Int) := by omega
              have hbd : decide (((bel s.rest s.done T : Nat) : Int) < (k : Int)) = false := by simpa using hbi
              have hbd2 : decide (bel s.rest s.done T < k) = false := by simpa using hbm
              have HL1 := Lib.hid (HM.out.1.last hbm)
              clear hbm hbi
              generalize bel s.rest s.done T = i at *
              have cB0 := HM.out.2.1.2.1.cell 0
              have cB1 := HM.out.2.1.2.1.cell 1
              have cB2 := HM.out.2.1.2.1.cell 2
              have c00 := HM.out.2.1.1.cell 0
              have c01 := HM.out.2.1.1.cell 1
              have c02 := HM.out.2.1.1.cell 2
              have f00 := HM.out.2.1.1.frozen 0
              have f01 := HM.out.2.1.1.frozen 1
              have f02 := HM.out.2.1.1.frozen 2
              go_wp2
              refine bodyPost_ret (v := .tuple #[.agg #[.int .i64 T, .slice (some ⟨C, 0, none⟩) k k, .slice (some ⟨O, 0, none⟩) k k], .int .i64 0]) (by simp [results, Try.results12, go_sem, c00, c01, c02]) rfl ?_
              have hlk := HT.out.2.1
              have hmk : s = mk t := by rw [HL1.out, HT.out.1, ← hlk]; rfl
              subst hmk
              obtain ⟨n1, n2, n3, n4, n5, n6, n7, n8, n9, n10, n11, n12, n13⟩ := HN.out
              have hR0 := HR0.out
              refine ⟨C, O, by rw [hlk, HT.out.1], ?_, ?_, by omega, by omega, n13, ?_⟩
              · exact ((HM.out.2.1.2.2.1.far (p := ⟨R0, 0, none⟩) (by simp only []; omega) _).far (p := ⟨R0, 1, none⟩) (by simp only []; omega) _).far (p := ⟨R0, 2, none⟩) (by simp only []; omega) _
              · exact ((HM.out.2.1.2.2.2.1.far (p := ⟨R0, 0, none⟩) (by simp only []; omega) _).far (p := ⟨R0, 1, none⟩) (by simp only []; omega) _).far (p := ⟨R0, 2, none⟩) (by simp only []; omega) _
              · exact ((HM.out.2.1.2.2.2.2.2.setCell (p := ⟨R0, 0, none⟩) n1 _).setCell (p := ⟨R0, 1, none⟩) n1 _).setCell (p := ⟨R0, 2, none⟩) n1 _
end Go.Proofs.Ytfcoeonabppjiaa
