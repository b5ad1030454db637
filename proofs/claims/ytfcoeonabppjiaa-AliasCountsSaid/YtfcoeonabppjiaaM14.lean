/- alias.Make. -/
import Derived.Test.YtfcoeonabppjiaaL14
namespace Go.Proofs.Ytfcoeonabppjiaa
open Go.RowKit
set_option linter.unusedVariables false
theorem made_ints (m : Nat) : madeCells (Value.int .i64 0).cells (m * 1) = (nums (List.replicate m 0)).toArray := by
  apply Array.ext
  · simp [madeCells, nums]
  · intro i h1 h2
    simp [madeCells, Value.cells, nums, Nat.mod_one]
theorem run_make_ints (m : Nat) (hm : m ≤ 1000000) (w : World) : (Instr.makeSlice 22 (.int .i64 (m : Int)) (.int .i64 (m : Int))).run Try.prog w = .ok (.slice (some ⟨w.heap.size, 0, none⟩) m m) (w.alloc (.cells (nums (List.replicate m 0)).toArray 3)) := by
  obtain ⟨i0, hi0, hz0, hz1, hz2⟩ := info_parts u3_info
  have := run_make (P := Try.prog) w 22 3 i0 (.int .i64 0) Try.underlying22 hi0 hz0 .i64 .i64 m m (by omega) (by omega) (by rw [hz2]; omega) (by omega)
  rw [hz1] at this
  simp only [Int.toNat_natCast] at this
  rw [made_ints] at this
  exact this
theorem Bk.at0 (w : World) (cs : List Value) (t : TypeId) (o1 o2 : Obj) : Bk (((w.alloc (.cells cs.toArray t)).alloc o1).alloc o2).drew w.heap.size t cs := ((Bk.new w t cs).alloc o1).alloc o2
theorem Bk.at1 (w : World) (cs : List Value) (t : TypeId) (o0 o2 : Obj) : Bk (((w.alloc o0).alloc (.cells cs.toArray t)).alloc o2).drew (w.heap.size + 1) t cs := by
  have := (Bk.new (w.alloc o0) t cs).alloc o2
  rw [World.size_alloc] at this
  exact this
theorem Bk.at2 (w : World) (cs : List Value) (t : TypeId) (o0 o1 : Obj) : Bk (((w.alloc o0).alloc o1).alloc (.cells cs.toArray t)).drew (w.heap.size + 1 + 1) t cs := by
  have := Bk.new ((w.alloc o0).alloc o1) t cs
  rw [World.size_alloc, World.size_alloc] at this
  exact this
theorem below3 (w : World) (o0 o1 o2 : Obj) : Below w.heap.size w (((w.alloc o0).alloc o1).alloc o2).drew ∧ (((w.alloc o0).alloc o1).alloc o2).drew.heap.size = w.heap.size + 3 := by
  refine ⟨((((Below.refl _ _).alloc (Nat.le_refl _) o0).alloc (by rw [World.size_alloc]; omega) o1).alloc (by rw [World.size_alloc, World.size_alloc]; omega) o2).drew, ?_⟩
  show (((w.alloc o0).alloc o1).alloc o2).heap.size = _
  rw [World.size_alloc, World.size_alloc, World.size_alloc]
/-- The blocks of the alias that is being made. -/
def AlAt (w0 : World) (T : Int) (m : Nat) (B C O : Nat) (xs ys : List Int) (w : World) : Prop :=
  Bk w B 26 [.int .i64 T, .slice (some ⟨C, 0, none⟩) m m, .slice (some ⟨O, 0, none⟩) m m] ∧ Bk w C 3 (nums xs) ∧ Bk w O 3 (nums ys) ∧ w0.heap.size ≤ B ∧ w0.heap.size ≤ C ∧ w0.heap.size ≤ O ∧ B ≠ C ∧ B ≠ O ∧ C ≠ O
theorem alAt_mk {w1 w' : World} {T : Int} {m B C O : Nat} {xs : List Int} {Z : List Value} (hZ : nums xs = Z) (hbl : Below w1.heap.size w1 w') (hsz : w'.heap.size = w1.heap.size + 3)
    (hB : Bk w' B 26 [.int .i64 T, .slice (some ⟨C, 0, none⟩) m m, .slice (some ⟨O, 0, none⟩) m m]) (hC : Bk w' C 3 Z) (hO : Bk w' O 3 Z) (h1 : w1.heap.size ≤ B) (h2 : w1.heap.size ≤ C) (h3 : w1.heap.size ≤ O) (h4 : B ≠ C) (h5 : B ≠ O) (h6 : C ≠ O) :
    ∃ B' C' O', Value.pointer (some ⟨B, 0, none⟩) = .pointer (some ⟨B', 0, none⟩) ∧ AlAt w1 T m B' C' O' xs xs w' ∧ Below w1.heap.size w1 w' ∧ B' < w'.heap.size ∧ C' < w'.heap.size ∧ O' < w'.heap.size := by
  subst hZ
  exact ⟨B, C, O, rfl, ⟨hB, hC, hO, h1, h2, h3, h4, h5, h6⟩, hbl, hB.lt, hC.lt, hO.lt⟩
/-- What making leaves. -/
def MkPost (w : World) (t : List Int) (e : Ending) (w' : World) : Prop :=
  ∃ C O, e = .returned (.tuple #[.agg #[.int .i64 t.sum, .slice (some ⟨C, 0, none⟩) t.length t.length, .slice (some ⟨O, 0, none⟩) t.length t.length], .int .i64 0]) ∧ Bk w' C 3 (nums (mk t).cut) ∧ Bk w' O 3 (nums (mk t).other) ∧ w.heap.size ≤ C ∧ w.heap.size ≤ O ∧ C ≠ O ∧ Below w.heap.size w w'
set_option maxRecDepth 100000 in
set_option maxHeartbeats 8000000 in
/-- alias.Make, of a table. -/
theorem make_ok {w : World} {A : Option Addr} {n c : Nat} {t : List Int} (h : Rd w A n (nums t)) (hn : n ≤ 65536) (hok : tabOk t = true) :
    Calls Try.prog 11 #[.slice A n c] w (MkPost w t) := by
  have hx : t.length = n := by have := h.1; simpa [nums_length] using this
  obtain ⟨hl, hm, hs⟩ := (tabOk_iff t).1 hok
  have hT := sum_pos hm hs
  have hTb := (sum_bound hm).2
  obtain ⟨T, hTT⟩ : ∃ T, T = t.sum := ⟨_, rfl⟩
  have hT0 : 0 < T := by omega
  have hTm : T ≤ 65536 * 16777215 := by omega
  have hTz : (T == 0) = false := by simp; omega
  have HT := Lib.hid (And.intro hTT (And.intro hx (And.intro hok (And.intro hm hn))))
  have HR := Lib.hid h
  have hmk := run_make_ints n (by omega)
  clear hx hl hm hs hT hTb hok hTT h
  go_enter Try.func11, Try.ntmps11
  go_wp2_with fail
  refine (total_any (HR.out.below ((Below.refl _ _).alloc (Nat.le_refl _) _)) (by omega)).mono ?_
  rintro e w' ⟨rfl, rfl⟩
  rw [HT.out.2.2.1, cond_true, ← HT.out.1]
  go_upto_region 4 with fail
  have HR0 := Lib.hid (And.intro (Bk.newA w 26 #[.int .i64 0, .slice none 0 0, .slice none 0 0]) (And.intro ((Below.refl w.heap.size w).alloc (Nat.le_refl _) (.cells #[.int .i64 0, .slice none 0 0, .slice none 0 0] 26)) (HR.out.below ((Below.refl _ _).alloc (Nat.le_refl _) (.cells #[.int .i64 0, .slice none 0 0, .slice none 0 0] 26)))))
  have hs1 : (w.alloc (.cells #[.int .i64 0, .slice none 0 0, .slice none 0 0] 26)).heap.size = w.heap.size + 1 := World.size_alloc _ _
  generalize w.alloc (.cells #[.int .i64 0, .slice none 0 0, .slice none 0 0] 26) = w1 at HR0 hs1 ⊢
  have HS1 := Lib.hid hs1
  clear hs1
  generalize hZ : nums (List.replicate n 0) = Z at hmk
  have HZ := Lib.hid hZ
  clear hZ
  go_cut [6] (fun s6 wx => ∃ B C O, s6 = .pointer (some ⟨B, 0, none⟩) ∧ AlAt w1 T n B C O (List.replicate n 0) (List.replicate n 0) wx ∧ Below w1.heap.size w1 wx ∧ B < wx.heap.size ∧ C < wx.heap.size ∧ O < wx.heap.size)
  case first =>
    go_region
    all_goals go_wp2_with fail
    all_goals go_meet
    all_goals (
      obtain ⟨hbl, hsz⟩ := below3 w1 _ _ _
      first | exact alAt_mk HZ.out hbl hsz (Bk.at0 _ _ _ _ _) (Bk.at1 _ _ _ _ _) (Bk.at2 _ _ _ _ _) (by omega) (by omega) (by omega) (by omega) (by omega) (by omega) | exact alAt_mk HZ.out hbl hsz (Bk.at0 _ _ _ _ _) (Bk.at2 _ _ _ _ _) (Bk.at1 _ _ _ _ _) (by omega) (by omega) (by omega) (by omega) (by omega) (by omega) | exact alAt_mk HZ.out hbl hsz (Bk.at1 _ _ _ _ _) (Bk.at0 _ _ _ _ _) (Bk.at2 _ _ _ _ _) (by omega) (by omega) (by omega) (by omega) (by omega) (by omega) | exact alAt_mk HZ.out hbl hsz (Bk.at1 _ _ _ _ _) (Bk.at2 _ _ _ _ _) (Bk.at0 _ _ _ _ _) (by omega) (by omega) (by omega) (by omega) (by omega) (by omega) | exact alAt_mk HZ.out hbl hsz (Bk.at2 _ _ _ _ _) (Bk.at0 _ _ _ _ _) (Bk.at1 _ _ _ _ _) (by omega) (by omega) (by omega) (by omega) (by omega) (by omega) | exact alAt_mk HZ.out hbl hsz (Bk.at2 _ _ _ _ _) (Bk.at1 _ _ _ _ _) (Bk.at0 _ _ _ _ _) (by omega) (by omega) (by omega) (by omega) (by omega) (by omega))
  case rest =>
    obtain ⟨B, C, O, rfl, hal, hbx, lB, lC, lO⟩ := hcut
    have hr1 := HR0.out.2.2.below hbx
    have hR0 := HR0.out.1.belowS hbx
    have hbw := below_base HR0.out.2.1 hbx HR0.out.2.1.size
    have hsw := HS1.out
    have hsx := hbx.size
    have hst : ∃ w5, w5 = ((wc.alloc (.cells Z.toArray 3)).alloc (.cells #[.slice none 0 0] 45)).alloc (.cells #[.slice none 0 0] 45) ∧
        Fx w T n w.heap.size B C O wc.heap.size (List.replicate n 0) (List.replicate n 0) (List.replicate n 0) w5 ∧ Hs (wc.heap.size + 1 + 1 + 1) (wc.heap.size + 1) (wc.heap.size + 1 + 1) [] [] w5 ∧ Ns w w.heap.size B C O wc.heap.size (wc.heap.size + 1) (wc.heap.size + 1 + 1) (wc.heap.size + 1 + 1 + 1) := by
      obtain ⟨h1, h2, h3, h4, h5, h6, h7, h8, h9⟩ := hal
      refine ⟨_, rfl, ⟨((hR0.alloc _).alloc _).alloc _, ((h1.alloc _).alloc _).alloc _, ((h2.alloc _).alloc _).alloc _, ((h3.alloc _).alloc _).alloc _, ?_, ?_⟩, ⟨by omega, by omega, by omega, by simp only [World.size_alloc]; omega, none, 0, none, 0, ⟨?_, World.ownsRow_nil _ _ _ _, Hp.nil⟩, ⟨?_, World.ownsRow_nil _ _ _ _, Hp.nil⟩, fun a b ha => by cases ha⟩, ⟨by omega, by omega, by omega, by omega, lB, lC, lO, h7, h8, h9, rfl, rfl, rfl⟩⟩
      · rw [HZ.out]; exact ((Bk.new wc _ _).alloc _).alloc _
      · exact ((hbw.alloc (by omega) _).alloc (by rw [World.size_alloc]; omega) _).alloc (by rw [World.size_alloc, World.size_alloc]; omega) _
      · exact Bk.at1 _ _ _ _ _
      · exact Bk.at2 _ _ _ _ _
    obtain ⟨w5, hw5, hfx, hhs, hns⟩ := hst
    clear HR0 hr1 hR0 hbw hal hbx lB lC lO hsw hsx HS1
    obtain ⟨f1, hf1⟩ : ∃ f : Nat → Int, f = fun i => gi t i * (n : Int) := ⟨_, rfl⟩
    obtain ⟨f2, hf2⟩ : ∃ f : Nat → Int, f = fun _ => T := ⟨_, rfl⟩
    obtain ⟨f3, hf3⟩ : ∃ f : Nat → Int, f = fun (i : Nat) => (i : Int) := ⟨_, rfl⟩
    have hfx2 : Fx w T n w.heap.size B C O wc.heap.size (pf f1 n 0) (pf f2 n 0) (pf f3 n 0) w5 := by rw [pf_zero, pf_zero, pf_zero]; exact hfx
    have HF := Lib.hid (And.intro hf1 (And.intro hf2 hf3))
    clear hf1 hf2 hf3 hfx
    have H5 := Lib.hid (And.intro hfx2 hhs)
    have HN := Lib.hid hns
    clear hfx2 hhs hns
    go_wp2
    rw [← hw5]
    generalize wc.heap.size + 1 + 1 + 1 = base at *
    generalize wc.heap.size + 1 + 1 = H2 at *
    generalize wc.heap.size + 1 = H1 at *
    generalize wc.heap.size = R at *
    generalize hR0 : w.heap.size = R0 at H5 HN ⊢
    have HR0 := Lib.hid hR0
    clear hw5 hmk HZ hR0
    have hnn : (n : Int) ≤ 65536 := by omega
    go_loopw [31] (fun s31 wr => ∃ (k : Nat) (l1 l2 : List Int), k ≤ n ∧ s31 = .int .i64 k ∧ Fx w T n R0 B C O R (pf f1 n k) (pf f2 n k) (pf f3 n k) wr ∧ Hs base H1 H2 l1 l2 wr ∧ Has (fun i => i < k ∧ f1 i < T) l1 ∧ Has (fun i => i < k ∧ T < f1 i) l2 ∧ l1.length + l2.length ≤ k) (fun s31 wr => n - (intOf s31).toNat)
    case atStart => exact ⟨0, [], [], by omega, rfl, H5.out.1, H5.out.2, Has.nil.congr (fun i => ⟨fun x => x.elim, fun x => absurd x.1 (Nat.not_lt_zero _)⟩), Has.nil.congr (fun i => ⟨fun x => x.elim, fun x => absurd x.1 (Nat.not_lt_zero _)⟩), by simp⟩
    case round =>
      obtain ⟨k, l1, l2, hk, rfl, hfx, hhs, hb1, hb2, hll⟩ := hrel
      clear H5
      have HK := Lib.hid (And.intro hfx (And.intro hhs (And.intro hb1 (And.intro hb2 hll))))
      clear hfx hhs hb1 hb2 hll
      by_cases hlt : k < n
      · have hrd := HR.out.below HK.out.1.2.2.2.2.2
        obtain ⟨b, off, rfl, hbl, hc⟩ := hrd.form (by omega)
        have hkt : k < t.length := by have := HT.out.2.1; omega
        have cx := hc k _ (nums_gi hkt)
        have km : (k : Int) < (n : Int) := by omega
        have hwt := HT.out.2.2.2.1 _ (gi_mem hkt)
        have hv0 : 0 ≤ gi t k * (n : Int) := Int.mul_nonneg hwt.1 (by omega)
        have hv1 : gi t k * (n : Int) ≤ 16777215 * 65536 := Int.mul_le_mul hwt.2 (by omega) (by omega) (by omega)
        have hf1k : f1 k = gi t k * (n : Int) := by rw [HF.out.1]
        obtain ⟨v, hv⟩ : ∃ v, gi t k * (n : Int) = v := ⟨_, rfl⟩
        rw [hv] at hv0 hv1 hf1k
        have hl1 : (pf f1 n k).length = n := pf_length _ _ _
        have HV := Lib.hid (And.intro hlt (And.intro hf1k (And.intro hrd hkt)))
        clear hc hbl hlt hrd hkt hwt hf1k hl1
        have bR := HK.out.1.2.2.2.2.1
        have bC := HK.out.1.2.2.1
        have bO := HK.out.1.2.2.2.1
        have bB := HK.out.1.2.1
        have cR := bR.cell k
        rw [nums_gi (by rw [pf_length]; exact HV.out.1)] at cR
        have cC := bC.cell k
        rw [nums_gi (by rw [pf_length]; exact HV.out.1)] at cC
        have cO := bO.cell k
        rw [nums_gi (by rw [pf_length]; exact HV.out.1)] at cO
        have cB1 := bB.cell 1
        have cB2 := bB.cell 2
        have fR := bR.frozen k
        have fC := bC.frozen k
        have fO := bO.frozen k
        clear bR bC bO bB
        obtain ⟨n1, n2, n3, n4, n5, n6, n7, n8, n9, n10, n11, n12, n13⟩ := HN.out
        have dRC : R ≠ C := by omega
        have dRO : R ≠ O := by omega
        have dCO : C ≠ O := n10
        have dCR : C ≠ R := by omega
        have dOR : O ≠ R := by omega
        have dOC : O ≠ C := fun e => n10 e.symm
        have dBR : B ≠ R := by omega
        have dBC : B ≠ C := n8
        have dBO : B ≠ O := n9
        clear n1 n2 n3 n4 n5 n6 n7 n8 n9 n10 n11 n12 n13
        go_wp2_with fail
        go_cut [] (fun wx => Fx w T n R0 B C O R (pf f1 n (k+1)) (pf f2 n (k+1)) (pf f3 n (k+1)) wx ∧ Hs base H1 H2 l1 l2 wx)
        case first =>
          go_region
          all_goals go_wp2_with fail
          all_goals go_meet
          obtain ⟨n1, n2, n3, n4, n5, n6, n7, n8, n9, n10, n11, n12, n13⟩ := HN.out
          rw [← pf_set f1 HV.out.1, ← pf_set f2 HV.out.1, ← pf_set f3 HV.out.1, HV.out.2.1, show f2 k = T from by rw [HF.out.2.1], show f3 k = (k : Int) from by rw [HF.out.2.2]]
          exact ⟨(((HK.out.1.setR (by omega) (by omega) (by omega) (by omega) (by omega) k v).setC (by omega) (by omega) (by omega) (by omega) (by omega) k T).setO (by omega) (by omega) (by omega) (by omega) (by omega) k k).drew,
            (((HK.out.2.1.setCell (g := R) (by omega) (by omega) (by omega) _ _).setCell (g := C) (by omega) (by omega) (by omega) _ _).setCell (g := O) (by omega) (by omega) (by omega) _ _).drew⟩
        case rest =>
          clear cx cR cC cO cB1 cB2 fR fC fO
          obtain ⟨hfx, hhs⟩ := hcut
          have cR := hfx.2.2.2.2.1.cell k
          rw [nums_gi (by rw [pf_length]; exact HV.out.1), gi_pf HV.out.1, if_pos (by omega), HV.out.2.1] at cR
          have HC := Lib.hid (And.intro hfx hhs)
          clear hfx hhs
          have hln : l1.length + l2.length ≤ 65536 := by have := HK.out.2.2.2.2; omega
          have HLN := Lib.hid hln
          clear hln
          by_cases hvl : v < T
          · have e1 : decide (v < T) = true := by simpa using hvl
            have HVL := Lib.hid hvl
            clear hvl
            go_wp2_with fail
            refine (HC.out.2.push (k : Int) (by have := HLN.out; omega)).mono ?_
            rintro e w' ⟨rfl, l1', hhs', hp, hch⟩
            have HP := Lib.hid (And.intro hhs' (And.intro hp hch))
            clear hhs' hp hch
            go_wp2
            have hpf : f1 k < T := by rw [HV.out.2.1]; exact HVL.out
            have hl' := HP.out.2.1.length_eq
            rw [List.length_cons] at hl'
            exact ⟨⟨k + 1, l1', l2, by have := HV.out.1; omega, by go_num, HC.out.1.push1 HN.out HP.out.2.2, HP.out.1, HK.out.2.2.1.grow hpf HP.out.2.1, HK.out.2.2.2.1.stay (by omega), by have := HK.out.2.2.2.2; omega⟩, by have := HV.out.1; simp [intOf]; omega⟩
          · have e1 : decide (v < T) = false := by simpa using hvl
            have HVL := Lib.hid hvl
            clear hvl
            by_cases hvg : v > T
            · have e2 : decide (v > T) = true := by simpa using hvg
              have e3 : decide (T < v) = true := by simpa using hvg
              have HVG := Lib.hid hvg
              clear hvg
              go_wp2_with fail
              refine (HC.out.2.symm.push (k : Int) (by have := HLN.out; omega)).mono ?_
              rintro e w' ⟨rfl, l2', hhs', hp, hch⟩
              have HP := Lib.hid (And.intro hhs' (And.intro hp hch))
              clear hhs' hp hch
              go_wp2
              have hpf : T < f1 k := by rw [HV.out.2.1]; exact HVG.out
              have hl' := HP.out.2.1.length_eq
              rw [List.length_cons] at hl'
              exact ⟨⟨k + 1, l1, l2', by have := HV.out.1; omega, by go_num, HC.out.1.push2 HN.out HP.out.2.2, HP.out.1.symm, HK.out.2.2.1.stay (by omega), HK.out.2.2.2.1.grow hpf HP.out.2.1, by have := HK.out.2.2.2.2; omega⟩, by have := HV.out.1; simp [intOf]; omega⟩
            · have e2 : decide (v > T) = false := by simpa using hvg
              have e3 : decide (T < v) = false := by simpa using hvg
              have HVG := Lib.hid hvg
              clear hvg
              go_wp2
              have hpf : f1 k = v := HV.out.2.1
              exact ⟨⟨k + 1, l1, l2, by have := HV.out.1; omega, by go_num, HC.out.1, HC.out.2, HK.out.2.2.1.stay (by have := HVL.out; omega), HK.out.2.2.2.1.stay (by have := HVG.out; omega), by have := HK.out.2.2.2.2; omega⟩, by have := HV.out.1; simp [intOf]; omega⟩
      · obtain rfl : k = n := by omega
        have hlk := HT.out.2.1
        have e1 : pf f1 k k = (a0 t).rest := by rw [HF.out.1, ← hlk]; exact pf_rest t
        have e2 : pf f2 k k = (a0 t).cut := by rw [HF.out.2.1, HT.out.1, ← hlk]; exact pf_cut t
        have e3 : pf f3 k k = (a0 t).other := by rw [HF.out.2.2, ← hlk]; exact pf_other t
        have e4 : ∀ i, i < k → f1 i = gi (a0 t).rest i := fun i hi => by rw [← e1, gi_pf hi, if_pos hi]
        have e5 : ∀ i, i < k → gb (a0 t).done i = false := fun i hi => by simp [a0, gb, List.getD_eq_getElem?_getD, hlk, hi]
        have hre : Reached T k (a0 t) (a0 t) 0 := by have := Reached.init HT.out.2.2.1; rw [← HT.out.1, hlk] at this; exact this
        have hfx := HK.out.1
        rw [e1, e2, e3] at hfx
        have hb1 := HK.out.2.2.1.congr (Q := fun i => i < k ∧ gb (a0 t).done i = false ∧ gi (a0 t).rest i < T) fun i => ⟨fun x => ⟨x.1, e5 i x.1, by rw [← e4 i x.1]; exact x.2⟩, fun x => ⟨x.1, by rw [e4 i x.1]; exact x.2.2⟩⟩
        have hb2 := HK.out.2.2.2.1.congr (Q := fun i => i < k ∧ T < gi (a0 t).rest i) fun i => ⟨fun x => ⟨x.1, by rw [← e4 i x.1]; exact x.2⟩, fun x => ⟨x.1, by rw [e4 i x.1]; exact x.2⟩⟩
        have H2L := Lib.hid (And.intro hre (And.intro hfx (And.intro HK.out.2.1 (And.intro hb1 (And.intro hb2 HK.out.2.2.2.2)))))
        clear hlk e1 e2 e3 e4 e5 hre hfx hb1 hb2 HK hlt hk HR HF
        go_wp2
        go_loopg [] k (fun q wr => ∃ (s : AS) (r : Nat) (l1 l2 : List Int), q + r = k ∧ Reached T k (a0 t) s r ∧ Fx w T k R0 B C O R s.rest s.cut s.other wr ∧ Hs base H1 H2 l1 l2 wr ∧ Has (fun i => i < k ∧ gb s.done i = false ∧ gi s.rest i < T) l1 ∧ Has (fun i => i < k ∧ T < gi s.rest i) l2 ∧ l1.length + l2.length ≤ k)
        case atStart => exact ⟨a0 t, 0, l1, l2, rfl, H2L.out.1, H2L.out.2.1, H2L.out.2.2.1, H2L.out.2.2.2.1, H2L.out.2.2.2.2.1, H2L.out.2.2.2.2.2⟩
        case round =>
          clear H2L
          obtain ⟨s, r, m1, m2, hqr, hre, hfx, hhs, hb1, hb2, hll⟩ := hrel
          obtain ⟨A1, c1, hv1, hx1⟩ := hhs.var
          have cH1 := hv1.cell 0
          have HM := Lib.hid (And.intro hre (And.intro hfx (And.intro hhs (And.intro hb1 (And.intro hb2 (And.intro hll (And.intro hqr hx1)))))))
          clear hre hfx hhs hb1 hb2 hll hqr hx1 hv1
          by_cases hl1 : 0 < m1.length
          · have hgt : (0 : Int) < (m1.length : Int) := by omega
            obtain ⟨hbm, e1, hl2, e2⟩ := step_names HM.out.1.2.1 HM.out.2.2.2.1 hl1 HM.out.2.2.1.least HM.out.2.2.2.2.1 HM.out.2.2.1.symm.least
            have ha := HM.out.1.2.1.above hbm
            have hre := HM.out.1.step hT0 hbm
            have hlt := HM.out.1.lt hbm
            have hst : aStep T s = aUpd T s (bel s.rest s.done T) (abv s.rest T) := by unfold aStep; rw [if_pos (by rw [HM.out.1.2.1.lr]; exact hbm)]
            rw [hst] at hre
            obtain ⟨A2, c2, hv2, hx2⟩ := HM.out.2.2.1.symm.var
            obtain ⟨g2, rfl, cg2, hbg2, hlg2⟩ := hx2 hl2
            have cH2 := hv2.cell 0
            rw [e2] at cg2
            have hge := HM.out.1.2.1.ge _ hbm
            have hle := HM.out.1.2.1.le _ ha.1
            clear hst hx2
            generalize bel s.rest s.done T = i at *
            generalize abv s.rest T = j at *
            obtain ⟨hj, hrj, hdj, hji, hdi, hri⟩ := ha
            have HE := Lib.hid (And.intro e1 (And.intro e2 (And.intro hre (And.intro hlt (And.intro hv2 (And.intro hl1 (And.intro hl2 (And.intro hbm (And.intro hj (And.intro hdj (And.intro hji hdi)))))))))))
            obtain ⟨ri, hrie⟩ : ∃ z, gi s.rest i = z := ⟨_, rfl⟩
            obtain ⟨rj, hrje⟩ : ∃ z, gi s.rest j = z := ⟨_, rfl⟩
            rw [hrie] at hge hri
            rw [hrje] at hle hrj
            have HRIJ := Lib.hid (And.intro hrie (And.intro hrje (And.intro hri hrj)))
            obtain ⟨L2, hL2⟩ : ∃ L, m2.length = L := ⟨_, rfl⟩
            have l2n : 0 < L2 := by omega
            rw [hL2] at cH2
            have HL2 := Lib.hid hL2
            clear hL2
            have HS := Lib.hid (And.intro cH2 cg2)
            clear e1 e2 hre hlt hv2 hl1 hl2 hdj hdi hrie hrje hbg2 hlg2 cH2 cg2
            go_wp2_with fail
            go_cut [12, 13] (fun s12 s13 wx => s12 = .int .i64 i ∧ s13 = .int .i64 j ∧ ∃ m1', Hs base H1 H2 m1' m2 wx ∧ ((i : Int) :: m1').Perm m1 ∧ Chg (fun k => k = H1 ∨ base ≤ k) wr wx)
            case first =>
              go_region_held3 (fun w' => w'.cell? ⟨H2, 0, none⟩ = some (.slice (some ⟨g2, 0, none⟩) L2 c2) ∧ w'.cell? ⟨g2, 0, none⟩ = some (.int .i64 (j : Int)))
                (first | exact S1.out | exact HS.out)
                ((first | (go_at_call 28; refine (HM.out.2.2.1.drew.pop HE.out.2.2.2.2.2.1 (by have := HM.out.2.2.2.2.2.1; omega)).mono ?_; rintro e w' ⟨rfl, m1', hhs', hp, hch, hkp⟩; have h1 := (hkp _ _ HE.out.2.2.2.2.1).1; rw [HL2.out] at h1; have h2 := (hkp _ _ HE.out.2.2.2.2.1).2 _ HE.out.2.2.2.2.2.2.1 rfl; rw [HE.out.2.1] at h2; have S1 := Lib.hid (And.intro h1 h2); clear h1 h2; have S2 := Lib.hid (And.intro hhs' (And.intro hp hch)); clear hhs' hp hch hkp)))
              all_goals go_wp2_with fail
              all_goals go_meet
              all_goals exact ⟨by rw [HE.out.1], rfl, m1', S2.out.1, by have := S2.out.2.1; rw [HE.out.1] at this; exact this, S2.out.2.2.undrew⟩
            case rest =>
              clear cH1 HS
              obtain ⟨rfl, rfl, m1', hhs, hp, hch⟩ := hcut
              have hfx := HM.out.2.1.push1 HN.out hch
              have hnj := HN.out
              have HX := Lib.hid (And.intro hfx (And.intro hhs hp))
              obtain ⟨bR, bC, bO, bB⟩ := (⟨hfx.2.2.2.2.1, hfx.2.2.1, hfx.2.2.2.1, hfx.2.1⟩ : _ ∧ _ ∧ _ ∧ _)
              clear hfx hhs hp hch
              have hai := HM.out.1.2.1
              have cRi := bR.cell i
              rw [nums_gi (by rw [hai.lr]; exact hbm), HRIJ.out.1] at cRi
              have cRj := bR.cell j
              rw [nums_gi (by rw [hai.lr]; exact hj), HRIJ.out.2.1] at cRj
              have cCi := bC.cell i
              rw [nums_gi (by rw [hai.lc]; exact hbm)] at cCi
              have cOi := bO.cell i
              rw [nums_gi (by rw [hai.lo]; exact hbm)] at cOi
              have cB1 := bB.cell 1
              have cB2 := bB.cell 2
              have fC := bC.frozen i
              have fO := bO.frozen i
              clear bR bC bO bB hai
              have ik : (i : Int) < (k : Int) := by omega
              have jk : (j : Int) < (k : Int) := by omega
              obtain ⟨n1, n2, n3, n4, n5, n6, n7, n8, n9, n10, n11, n12, n13⟩ := hnj
              have dRC : R ≠ C := by omega
              have dRO : R ≠ O := by omega
              have dCO : C ≠ O := n10
              have dOC : O ≠ C := fun e => n10 e.symm
              have dBC : B ≠ C := n8
              have dBO : B ≠ O := n9
              clear n1 n2 n3 n4 n5 n6 n7 n8 n9 n10 n11 n12 n13
              clear hbm hj
              go_wp2_with fail
              go_cut [] (fun wy => Fx w T k R0 B C O R s.rest (s.cut.set i ri) (s.other.set i (j : Int)) wy ∧ Hs base H1 H2 m1' m2 wy)
              case first =>
                go_region
                all_goals go_wp2_with fail
                all_goals go_meet
                all_goals (
                  obtain ⟨n1, n2, n3, n4, n5, n6, n7, n8, n9, n10, n11, n12, n13⟩ := HN.out
                  exact ⟨((HX.out.1.setC (by omega) (by omega) (by omega) (by omega) (by omega) i ri).setO (by omega) (by omega) (by omega) (by omega) (by omega) i j).drew,
                    ((HX.out.2.1.setCell (g := C) (by omega) (by omega) (by omega) _ _).setCell (g := O) (by omega) (by omega) (by omega) _ _).drew⟩)
              case rest =>
                clear cRi cRj cCi cOi cB1 cB2 fC fO
                obtain ⟨hfx, hhs⟩ := hcut
                have hai := HM.out.1.2.1
                have bR := hfx.2.2.2.2.1
                have cRi := bR.cell i
                rw [nums_gi (by rw [hai.lr]; omega), HRIJ.out.1] at cRi
                have cRj := bR.cell j
                rw [nums_gi (by rw [hai.lr]; omega), HRIJ.out.2.1] at cRj
                have fRj := bR.frozen j
                have HY := Lib.hid (And.intro hfx hhs)
                clear hfx hhs hai bR
                obtain ⟨v, hv⟩ : ∃ z, rj - (T - ri) = z := ⟨_, rfl⟩
                have HVV := Lib.hid hv
                go_wp2_with fail
                go_cut [] (fun wy => Fx w T k R0 B C O R (s.rest.set j v) (s.cut.set i ri) (s.other.set i (j : Int)) wy ∧ Hs base H1 H2 m1' m2 wy)
                case first =>
                  go_region
                  all_goals go_wp2_with fail
                  all_goals go_meet
                  all_goals (
                    obtain ⟨n1, n2, n3, n4, n5, n6, n7, n8, n9, n10, n11, n12, n13⟩ := HN.out
                    exact ⟨(HY.out.1.setR (by omega) (by omega) (by omega) (by omega) (by omega) j v).drew, (HY.out.2.setCell (g := R) (by omega) (by omega) (by omega) _ _).drew⟩)
                case rest =>
                  clear cRi cRj fRj
                  obtain ⟨hfx, hhs⟩ := hcut
                  have hs' : aUpd T s i j = ⟨s.rest.set j v, s.cut.set i ri, s.other.set i (j : Int), s.done.set i true⟩ := by
                    unfold aUpd; rw [HRIJ.out.1, HRIJ.out.2.1, hv]
                  have hvv : gi s.rest j - (T - gi s.rest i) = v := by rw [HRIJ.out.1, HRIJ.out.2.1, hv]
                  have hrT : T < gi s.rest j := by rw [HRIJ.out.2.1]; exact HRIJ.out.2.2.2
                  have hfx' := hfx
                  rw [show s.rest.set j v = (aUpd T s i j).rest from by rw [hs'], show s.cut.set i ri = (aUpd T s i j).cut from by rw [hs'], show s.other.set i (j : Int) = (aUpd T s i j).other from by rw [hs']] at hfx'
                  have hlR : j < (aUpd T s i j).rest.length := by rw [hs', List.length_set, HM.out.1.2.1.lr]; omega
                  have hgR : gi (aUpd T s i j).rest j = v := by rw [upd_rest HM.out.1.2.1.lr HE.out.2.2.2.2.2.2.2.2.1, if_pos rfl, hvv]
                  have cRj := hfx'.2.2.2.2.1.cell j
                  rw [nums_gi hlR, hgR] at cRj
                  have hlm : m1.length = m1'.length + 1 := by have := HX.out.2.2.length_eq; rw [List.length_cons] at this; exact this.symm
                  have HZ := Lib.hid (And.intro hfx' (And.intro hhs (And.intro hvv (And.intro hrT (And.intro hlR (And.intro hgR hlm))))))
                  clear hfx hfx' hhs hvv hrT hs' hlR hgR hlm hv
                  by_cases hvT : v > T
                  · have d1 : decide (v > T) = true := by simpa using hvT
                    have d2 : decide (T < v) = true := by simpa using hvT
                    have HVT := Lib.hid hvT
                    clear hvT
                    go_wp2
                    go_roundg (gk - 1)
                    case measure => have := HM.out.2.2.2.2.2.2.1; have := HE.out.2.2.2.1; omega
                    case rel =>
                      refine ⟨aUpd T s i j, r + 1, m1', m2, by have := HM.out.2.2.2.2.2.2.1; have := HE.out.2.2.2.1; omega, HE.out.2.2.1, HZ.out.1, HZ.out.2.1,
                        has1 HM.out.1.2.1 HE.out.2.2.2.2.2.2.2.1 HE.out.2.2.2.2.2.2.2.2.1 HE.out.2.2.2.2.2.2.2.2.2.2.1 HZ.out.2.2.2.1 (by rw [HZ.out.2.2.1]; have := HVT.out; omega) HM.out.2.2.2.1 HX.out.2.2,
                        has2 HM.out.1.2.1 HE.out.2.2.2.2.2.2.2.1 HE.out.2.2.2.2.2.2.2.2.1 HZ.out.2.2.2.1 (by rw [HZ.out.2.2.1]; exact HVT.out) HM.out.2.2.2.2.1, by have := HZ.out.2.2.2.2.2.2; have := HM.out.2.2.2.2.2.1; omega⟩
                  · have d1 : decide (v > T) = false := by simpa using hvT
                    have d2 : decide (T < v) = false := by simpa using hvT
                    have HVT := Lib.hid hvT
                    clear hvT
                    go_wp2_with fail
                    refine (HZ.out.2.1.symm.pop HE.out.2.2.2.2.2.2.1 (by have := HM.out.2.2.2.2.2.1; omega)).mono ?_
                    rintro e w' ⟨rfl, m2', hhs', hp, hch, _⟩
                    rw [HE.out.2.1] at hp
                    have hfx2 := HZ.out.1.push2 HN.out hch
                    have cRj2 := hfx2.2.2.2.2.1.cell j
                    rw [nums_gi HZ.out.2.2.2.2.1, HZ.out.2.2.2.2.2.1] at cRj2
                    have hl2' : m2.length = m2'.length + 1 := by have := hp.length_eq; rw [List.length_cons] at this; exact this.symm
                    have HQ := Lib.hid (And.intro hfx2 (And.intro hhs'.symm (And.intro hp hl2')))
                    clear hfx2 hhs' hp hch hl2' cRj
                    by_cases hvl : v < T
                    · have d3 : decide (v < T) = true := by simpa using hvl
                      have HVL := Lib.hid hvl
                      clear hvl
                      go_wp2_with fail
                      refine (HQ.out.2.1.push (j : Int) (by have := HM.out.2.2.2.2.2.1; have := HZ.out.2.2.2.2.2.2; omega)).mono ?_
                      rintro e w'' ⟨rfl, m1'', hhs'', hp2, hch2⟩
                      have HP := Lib.hid (And.intro hhs'' (And.intro hp2 hch2))
                      clear hhs'' hp2 hch2
                      go_wp2
                      go_roundg (gk - 1)
                      case measure => have := HM.out.2.2.2.2.2.2.1; have := HE.out.2.2.2.1; omega
                      case rel =>
                        have hl' := HP.out.2.1.length_eq
                        rw [List.length_cons] at hl'
                        refine ⟨aUpd T s i j, r + 1, m1'', m2', by have := HM.out.2.2.2.2.2.2.1; have := HE.out.2.2.2.1; omega, HE.out.2.2.1, HQ.out.1.push1 HN.out HP.out.2.2, HP.out.1,
                          has1p HM.out.1.2.1 HE.out.2.2.2.2.2.2.2.1 HE.out.2.2.2.2.2.2.2.2.1 HE.out.2.2.2.2.2.2.2.2.2.2.1 HZ.out.2.2.2.1 HE.out.2.2.2.2.2.2.2.2.2.1 (by rw [HZ.out.2.2.1]; exact HVL.out) HM.out.2.2.2.1 HX.out.2.2 HP.out.2.1,
                          has2p HM.out.1.2.1 HE.out.2.2.2.2.2.2.2.1 HE.out.2.2.2.2.2.2.2.2.1 (by rw [HZ.out.2.2.1]; have := HVT.out; omega) HM.out.2.2.2.2.1 HQ.out.2.2.1, by have := HZ.out.2.2.2.2.2.2; have := HM.out.2.2.2.2.2.1; have := HQ.out.2.2.2; omega⟩
                    · have d3 : decide (v < T) = false := by simpa using hvl
                      have HVL := Lib.hid hvl
                      clear hvl
                      go_wp2
                      go_roundg (gk - 1)
                      case measure => have := HM.out.2.2.2.2.2.2.1; have := HE.out.2.2.2.1; omega
                      case rel =>
                        refine ⟨aUpd T s i j, r + 1, m1', m2', by have := HM.out.2.2.2.2.2.2.1; have := HE.out.2.2.2.1; omega, HE.out.2.2.1, HQ.out.1, HQ.out.2.1,
                          has1 HM.out.1.2.1 HE.out.2.2.2.2.2.2.2.1 HE.out.2.2.2.2.2.2.2.2.1 HE.out.2.2.2.2.2.2.2.2.2.2.1 HZ.out.2.2.2.1 (by rw [HZ.out.2.2.1]; have := HVL.out; omega) HM.out.2.2.2.1 HX.out.2.2,
                          has2p HM.out.1.2.1 HE.out.2.2.2.2.2.2.2.1 HE.out.2.2.2.2.2.2.2.2.1 (by rw [HZ.out.2.2.1]; have := HVT.out; omega) HM.out.2.2.2.2.1 HQ.out.2.2.1, by have := HZ.out.2.2.2.2.2.2; have := HM.out.2.2.2.2.2.1; have := HQ.out.2.2.2; omega⟩
          · have hgt : (m1.length : Int) = 0 := by omega
            have cB0 := HM.out.2.1.2.1.cell 0
            have cB1 := HM.out.2.1.2.1.cell 1
            have cB2 := HM.out.2.1.2.1.cell 2
            have c00 := HM.out.2.1.1.cell 0
            have c01 := HM.out.2.1.1.cell 1
            have c02 := HM.out.2.1.1.cell 2
            have f00 := HM.out.2.1.1.frozen 0
            have f01 := HM.out.2.1.1.frozen 1
            have f02 := HM.out.2.1.1.frozen 2
            have HL1 := Lib.hid hl1
            clear hl1
            go_wp2
            refine bodyPost_ret (v := .tuple #[.agg #[.int .i64 T, .slice (some ⟨C, 0, none⟩) k k, .slice (some ⟨O, 0, none⟩) k k], .int .i64 0]) (by simp [results, Try.results11, go_sem, c00, c01, c02]) rfl ?_
            have hls := HM.out.1.last (step_none HM.out.1.2.1 HM.out.2.2.2.1 HL1.out)
            have hlk := HT.out.2.1
            have hmk : s = mk t := by rw [hls, HT.out.1, ← hlk]; rfl
            subst hmk
            obtain ⟨n1, n2, n3, n4, n5, n6, n7, n8, n9, n10, n11, n12, n13⟩ := HN.out
            have hR0 := HR0.out
            refine ⟨C, O, by rw [hlk, HT.out.1], ?_, ?_, by omega, by omega, n10, ?_⟩
            · exact ((HM.out.2.1.2.2.1.far (p := ⟨R0, 0, none⟩) (by simp only []; omega) _).far (p := ⟨R0, 1, none⟩) (by simp only []; omega) _).far (p := ⟨R0, 2, none⟩) (by simp only []; omega) _
            · exact ((HM.out.2.1.2.2.2.1.far (p := ⟨R0, 0, none⟩) (by simp only []; omega) _).far (p := ⟨R0, 1, none⟩) (by simp only []; omega) _).far (p := ⟨R0, 2, none⟩) (by simp only []; omega) _
            · exact ((HM.out.2.1.2.2.2.2.2.setCell (p := ⟨R0, 0, none⟩) n1 _).setCell (p := ⟨R0, 1, none⟩) n1 _).setCell (p := ⟨R0, 2, none⟩) n1 _
end Go.Proofs.Ytfcoeonabppjiaa
