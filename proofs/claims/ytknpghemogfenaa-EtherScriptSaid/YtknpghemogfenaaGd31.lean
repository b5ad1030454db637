/- Chapter 31: good. -/
import Derived.Test.YtknpghemogfenaaBw31
import Derived.StillTailTactics
namespace Go.Proofs.Ytknpghemogfenaa
open Go.Conc Go.RowKit
set_option linter.unusedVariables false
theorem wf_i64 {n : Int} (h : I64 n) : (Lit.int .i64 n).wf = true := by
  unfold I64 at h; simp [Lit.wf, IntKind.min, IntKind.max, IntKind.signed, IntKind.bits]; omega
def goodF (f : FT) : FT := ⟨f.lost, f.late % 12, f.twice, f.again % 12⟩
def goodS (y : SY) : SY := ⟨1 + y.at_ % 20, y.dst % 2, y.A, min y.n 100, y.c, y.x.take 100⟩
theorem ft_one (f : FT) : ∀ u ∈ f.cells, u.oneCell' = true := fun u hu => by
  simp only [FT.cells, List.mem_cons, List.not_mem_nil, or_false] at hu
  rcases hu with rfl | rfl | rfl | rfl <;> rfl
theorem sy_one (f : SY) : ∀ u ∈ f.cells, u.oneCell' = true := fun u hu => by
  simp only [SY.cells, List.mem_cons, List.not_mem_nil, or_false] at hu
  rcases hu with rfl | rfl | rfl <;> rfl
theorem Bk.drew' {w : World} {g : Nat} {t : TypeId} {cs : List Value} (h : Bk w g t cs) : Bk w.drew g t cs := h
theorem take_map_succ {α β : Type} (f : α → β) {l : List α} {j : Nat} (hj : j < l.length) : (l.take (j + 1)).map f = (l.take j).map f ++ [f l[j]] := by
  rw [List.take_succ_eq_append_getElem hj, List.map_append]; rfl
theorem take_map_len {α β : Type} (f : α → β) {l : List α} {j : Nat} (hj : j ≤ l.length) : ((l.take j).map f).length = j := by simp; omega
set_option maxRecDepth 100000 in
set_option maxHeartbeats 6400000 in
theorem good_any {w : World} {A B : Option Addr} {c d : Nat} {fl : List FT} {sl : List SY} (h1 : Rd w A (fl.length * 4) (fl.flatMap FT.cells)) (h2 : Rd w B (sl.length * 3) (sl.flatMap SY.cells)) (hfl : fl.length ≤ 60) (hsl : sl.length ≤ 20)
    (hf : ∀ a ∈ fl, I64 a.late ∧ I64 a.again) (hs : ∀ a ∈ sl, I64 a.at_ ∧ I64 a.dst ∧ Rd w a.A a.n (bys a.x) ∧ a.n ≤ a.c ∧ a.n ≤ 140737488351232) :
    Calls Try.prog 18 #[.slice A fl.length c, .slice B sl.length d] w fun e w' => ∃ A' c' B' d', e = .returned (.tuple #[.slice A' fl.length c', .slice B' sl.length d']) ∧
      w'.ownsRow w.heap.size 53 4 (.slice A' fl.length c') fl.length (fcs (fl.map goodF)) ∧ w'.ownsRow w.heap.size 45 3 (.slice B' sl.length d') sl.length (ycs (sl.map goodS)) ∧ Below w.heap.size w w' := by
  obtain ⟨n, hn⟩ : ∃ n, fl.length = n := ⟨_, rfl⟩
  obtain ⟨k, hk⟩ : ∃ k, sl.length = k := ⟨_, rfl⟩
  have HL := Lib.hid (And.intro hn hk)
  have H := Lib.hid (And.intro h1 (And.intro h2 (And.intro hf hs)))
  rw [hn] at hfl
  rw [hk] at hsl
  rw [hn, hk]
  clear h1 h2 hf hs hn hk
  obtain ⟨i0, hi0, hz0, hz1, hz2⟩ := info_parts fate_info2
  obtain ⟨j0, hj0, ha0, ha1, ha2⟩ := info_parts stray_info2
  go_enter Try.func18, Try.ntmps18
  go_wp2_with fail
  go_loopw [6, 7] (fun s6 i wx => ∃ j : Nat, j ≤ n ∧ i = .int .i64 j ∧ ∃ A' c', s6 = .slice A' j c' ∧ Hid (wx.ownsRow w.heap.size 53 4 (.slice A' j c') j (fcs ((fl.take j).map goodF)) ∧ Below w.heap.size w wx)) (fun s6 i wx => n - (intOf i).toNat)
  case atStart => exact ⟨0, Nat.zero_le _, rfl, none, 0, rfl, Lib.hid ⟨World.ownsRow_nil _ _ _ _, Below.refl _ _⟩⟩
  case round =>
    obtain ⟨j, hj, rfl, A', c', rfl, HJ⟩ := hrel
    by_cases hlt : j < n
    · have kd : decide ((j : Int) < (n : Int)) = true := decide_eq_true (by omega)
      have kdp : (j : Int) < (n : Int) := by omega
      have kd' : decide (j < n) = true := decide_eq_true hlt
      have ej : IntKind.i64.wrap ((j : Int) + 1) = ((j + 1 : Nat) : Int) := by rw [IntKind.wrap_i64]; omega
      have hjl : j < fl.length := by rw [HL.out.1]; exact hlt
      obtain ⟨g, off, rfl, hc⟩ := rd_cell (f := FT.cells) (k := 4) (fun _ => rfl) (H.out.1.below HJ.out.2) hjl (by decide)
      obtain ⟨⟨b1, i2, b3, i4⟩, hx⟩ : ∃ f, fl[j] = f := ⟨_, rfl⟩
      rw [hx] at hc
      have c0 : wr.cell? ⟨g, off + j * 4, none⟩ = some (.bool b1) := hc 0 _ rfl
      have c1 := hc 1 _ rfl
      have c2 := hc 2 _ rfl
      have c3 := hc 3 _ rfl
      have hI := H.out.2.2.1 _ (hx ▸ List.getElem_mem hjl)
      have HX := Lib.hid (And.intro hx (And.intro (wf_i64 hI.1) (And.intro (wf_i64 hI.2) (And.intro hjl hlt))))
      clear hc hI
      go_upto_region 6 with fail
      have hbk : Hid (∃ K wk, K = wr.heap.size ∧ wk = wr.alloc (.cells #[.bool b1, .int .i64 i2, .bool b3, .int .i64 i4] 53) ∧ Bk wk K 53 [.bool b1, .int .i64 i2, .bool b3, .int .i64 i4] ∧ Below wr.heap.size wr wk) := Lib.hid ⟨_, _, rfl, rfl, Bk.newA _ _ _, (Below.refl _ _).alloc (Nat.le_refl _) _⟩
      obtain ⟨K, wk, hK, hwk, hb, hbl⟩ := hbk.out
      rw [← hwk, ← hK]
      have HB := Lib.hid (And.intro hb (And.intro hbl hK))
      have k1 := hb.cell 1
      have k3 := hb.cell 3
      have f1 := hb.frozen 1
      have f3 := hb.frozen 3
      clear hbk hwk hb hbl hK c0 c1 c2 c3
      go_cut [6, 7, 8] (fun s6 s7 s8 wx => s6 = .slice A' j c' ∧ s7 = .int .i64 (j : Int) ∧ s8 = .pointer (some ⟨K, 0, none⟩) ∧ Bk wx K 53 (goodF ⟨b1, i2, b3, i4⟩).cells ∧ Below wr.heap.size wr wx)
      case first =>
        refine wp_region_still_tail 7 (by kernel_rfl) (by kernel_rfl) ?_
        simp only [List.take_succ_cons, List.take_zero, List.drop_succ_cons, List.drop_zero]
        repeat still_step
        still_call ((pick_any i2 12 HX.out.2.1 (by decide) (by decide)).mono fun e w' h => ⟨h.1, h.2.symm⟩)
        repeat still_step
        still_call ((pick_any i4 12 HX.out.2.2.1 (by decide) (by decide)).mono fun e w' h => ⟨h.1, h.2.symm⟩)
        repeat still_step
        refine wpStill_nil ?_
        change wpList _ _ _ _ _ wk.drew
        go_wp2_with fail
        go_meet
        refine ⟨rfl, rfl, rfl, (HB.out.1.drew'.set_ 1 _).set_ 3 _, ?_⟩
        exact ((HB.out.2.1.drew).setCell (by show wr.heap.size ≤ K; rw [HB.out.2.2]; exact Nat.le_refl _) _).setCell (by show wr.heap.size ≤ K; rw [HB.out.2.2]; exact Nat.le_refl _) _
      case rest =>
        obtain ⟨rfl, rfl, rfl, hb, hbl⟩ := hcut
        have k0 : wc.cell? ⟨K, 0, none⟩ = some (.bool b1) := hb.cell 0
        have k1 : wc.cell? ⟨K, 1, none⟩ = some (.int .i64 (i2 % 12)) := hb.cell 1
        have k2 : wc.cell? ⟨K, 2, none⟩ = some (.bool b3) := hb.cell 2
        have k3 : wc.cell? ⟨K, 3, none⟩ = some (.int .i64 (i4 % 12)) := hb.cell 3
        have HB2 := Lib.hid (And.intro hb hbl)
        have hbz := Nat.le_trans HJ.out.2.size hbl.size
        clear hb hbl
        go_wp2_with (at_builtin; refine wpList_append_rd _ rfl (.tmp 30) (.tmp 32) _ rfl w.heap.size 53 i0 _ 4 32 Try.underlying40 hi0 hz0 hz1 hz2 rfl (by omega) _ j (fcs ((fl.take j).map goodF)) rfl (own_below (own_below HJ.out.1 HB2.out.2) ((Below.refl _ _).alloc (Nat.le_refl _) _)) (some ⟨wc.heap.size, 0, none⟩) 1 1 (goodF ⟨b1, i2, b3, i4⟩).cells rfl (Rd.lit _ _ _ _ rfl 4 rfl _ rfl) (ft_one _) (by simp only [maxLen]; omega) (by omega) (by rw [World.size_alloc]; omega) ?_; intro v1 w1 hown1 hg1 hat1)
        have hbw : Below w.heap.size w w1 := (below_base HJ.out.2 (below_base HB2.out.2 ((Below.refl _ _).alloc (Nat.le_refl _) _) HB2.out.2.size) HJ.out.2.size).grown hg1 (by show w.heap.size ≤ (wc.alloc _).heap.size; rw [World.size_alloc]; omega) (fun q hq => (HJ.out.1.lt q hq).1)
        obtain ⟨A1, d1, rfl⟩ := own_sl hown1
        refine ⟨⟨j + 1, hlt, by go_num, A1, d1, rfl, Lib.hid ⟨?_, hbw⟩⟩, by show n - ((j : Int) + 1).toNat < n - ((j : Int)).toNat; omega⟩
        rw [take_map_succ goodF hjl, hx]
        show w1.ownsRow _ _ _ _ _ (List.flatMap FT.cells _)
        rw [List.flatMap_append]
        exact hown1
    · obtain rfl : j = n := by omega
      have kd : decide ((j : Int) < (j : Int)) = false := decide_eq_false (by omega)
      have kd' : decide (j < j) = false := decide_eq_false (by omega)
      have HF := Lib.hid (show wr.ownsRow w.heap.size 53 4 (.slice A' j c') j (fcs (fl.map goodF)) ∧ Below w.heap.size w wr from ⟨by have := HJ.out.1; rw [List.take_of_length_le (by rw [HL.out.1]; exact Nat.le_refl _)] at this; exact this, HJ.out.2⟩)
      clear HJ hlt hj
      go_wp2_with fail
      generalize wr = wf at HF ⊢
      go_loopw [9, 10] (fun s6 i wx => ∃ q : Nat, q ≤ k ∧ i = .int .i64 q ∧ ∃ B' d', s6 = .slice B' q d' ∧ Hid (wx.ownsRow wf.heap.size 45 3 (.slice B' q d') q (ycs ((sl.take q).map goodS)) ∧ Below wf.heap.size wf wx)) (fun s6 i wx => k - (intOf i).toNat)
      case atStart => exact ⟨0, Nat.zero_le _, rfl, none, 0, rfl, Lib.hid ⟨World.ownsRow_nil _ _ _ _, Below.refl _ _⟩⟩
      case round =>
        obtain ⟨q, hq, rfl, B', d', rfl, HQ⟩ := hrel
        by_cases hqk : q < k
        · have qd : decide ((q : Int) < (k : Int)) = true := decide_eq_true (by omega)
          have qdp : (q : Int) < (k : Int) := by omega
          have qd' : decide (q < k) = true := decide_eq_true hqk
          have eq' : IntKind.i64.wrap ((q : Int) + 1) = ((q + 1 : Nat) : Int) := by rw [IntKind.wrap_i64]; omega
          have hql : q < sl.length := by rw [HL.out.2]; exact hqk
          have hbz0 := HF.out.2.size
          have hbz1 := HQ.out.2.size
          have hbw := below_base HF.out.2 HQ.out.2 HF.out.2.size
          obtain ⟨g, off, rfl, hc⟩ := rd_cell (f := SY.cells) (k := 3) (fun _ => rfl) (H.out.2.1.below hbw) hql (by decide)
          obtain ⟨⟨ya, yd, yA, yn, yc, yx⟩, hx⟩ : ∃ f, sl[q] = f := ⟨_, rfl⟩
          rw [hx] at hc
          have c0 : wr.cell? ⟨g, off + q * 3, none⟩ = some (.int .i64 ya) := hc 0 _ rfl
          have c1 := hc 1 _ rfl
          have c2 := hc 2 _ rfl
          have hI : I64 ya ∧ I64 yd ∧ Rd w yA yn (bys yx) ∧ yn ≤ yc ∧ yn ≤ 140737488351232 := H.out.2.2.2 _ (hx ▸ List.getElem_mem hql)
          have HX := Lib.hid (And.intro hx (And.intro (wf_i64 hI.1) (And.intro (wf_i64 hI.2.1) (And.intro hI.2.2 hqk))))
          have hr1 : 0 ≤ ya % 20 := by omega
          have hr2 : ya % 20 < 20 := by omega
          have hw1 : IntKind.i64.wrap (1 + ya % 20) = 1 + ya % 20 := by rw [IntKind.wrap_i64]; omega
          clear hc hI
          go_upto_region 13 with fail
          have hbk : Hid (∃ K wk, K = wr.heap.size ∧ wk = wr.alloc (.cells #[.int .i64 ya, .int .i64 yd, .slice yA yn yc] 45) ∧ Bk wk K 45 [.int .i64 ya, .int .i64 yd, .slice yA yn yc] ∧ Below wr.heap.size wr wk) := Lib.hid ⟨_, _, rfl, rfl, Bk.newA _ _ _, (Below.refl _ _).alloc (Nat.le_refl _) _⟩
          obtain ⟨K, wk, hK, hwk, hb, hbl⟩ := hbk.out
          rw [← hwk, ← hK]
          have HB := Lib.hid (And.intro hb (And.intro hbl hK))
          have k0 := hb.cell 0
          have k1 := hb.cell 1
          have f0 := hb.frozen 0
          have f1 := hb.frozen 1
          clear hbk hwk hb hbl hK c0 c1 c2
          go_cut [9, 10, 11] (fun s9 s10 s11 wx => s9 = .slice B' q d' ∧ s10 = .int .i64 (q : Int) ∧ s11 = .pointer (some ⟨K, 0, none⟩) ∧ Bk wx K 45 [.int .i64 (1 + ya % 20), .int .i64 (yd % 2), .slice yA yn yc] ∧ Below wr.heap.size wr wx)
          case first =>
            refine wp_region_still_tail 8 (by kernel_rfl) (by kernel_rfl) ?_
            simp only [List.take_succ_cons, List.take_zero, List.drop_succ_cons, List.drop_zero]
            repeat still_step
            still_call ((pick_any ya 20 HX.out.2.1 (by decide) (by decide)).mono fun e w' h => ⟨h.1, h.2.symm⟩)
            repeat still_step
            still_call ((pick_any yd 2 HX.out.2.2.1 (by decide) (by decide)).mono fun e w' h => ⟨h.1, h.2.symm⟩)
            repeat still_step
            refine wpStill_nil ?_
            change wpList _ _ _ _ _ wk.drew
            go_wp2_with fail
            go_meet
            refine ⟨rfl, rfl, rfl, (HB.out.1.drew'.set_ 0 _).set_ 1 _, ?_⟩
            exact ((HB.out.2.1.drew).setCell (by show wr.heap.size ≤ K; rw [HB.out.2.2]; exact Nat.le_refl _) _).setCell (by show wr.heap.size ≤ K; rw [HB.out.2.2]; exact Nat.le_refl _) _
          case rest =>
            obtain ⟨rfl, rfl, rfl, hb, hbl⟩ := hcut
            have k2 := hb.cell 2
            have f2 := hb.frozen 2
            have HB2 := Lib.hid (And.intro hb hbl)
            clear hb hbl
            go_upto_if 56 with fail
            go_cut [9, 10, 11] (fun s9 s10 s11 wx => s9 = .slice B' q d' ∧ s10 = .int .i64 (q : Int) ∧ s11 = .pointer (some ⟨K, 0, none⟩) ∧ Bk wx K 45 (goodS ⟨ya, yd, yA, yn, yc, yx⟩).cells ∧ Below wr.heap.size wr wx)
            case first =>
              by_cases hyn : 100 < yn
              · obtain ⟨ya0, yo0, hyA, _, _⟩ := HX.out.2.2.2.1.1.form (by omega)
                have hyc : yn ≤ yc := HX.out.2.2.2.1.2.1
                have d1 : decide ((yn : Int) > 100) = true := by simp; omega
                have d2 : decide ((100 : Int) < (yn : Int)) = true := by simp; omega
                have d3 : decide (100 < yn) = true := by simpa using hyn
                first | rw [d1] | rw [d2] | rw [d3]
                have hc100 : (100 : Int) ≤ (yc : Int) := by omega
                have hn100 : (100 : Int) ≤ (yn : Int) := by omega
                have hc100' : 100 ≤ yc := by omega
                have HY := Lib.hid (And.intro hyA hyn)
                have k2 : wc.cell? ⟨K, 2, none⟩ = some (.slice yA yn yc) := k2
                rw [hyA] at k2
                clear hyA hyn hyc
                go_wp2_with fail
                go_meet
                refine ⟨rfl, rfl, rfl, ?_, ?_⟩
                · have e : (goodS ⟨ya, yd, yA, yn, yc, yx⟩).cells = [.int .i64 (1 + ya % 20), .int .i64 (yd % 2), .slice yA 100 yc] := by
                    show [Value.int .i64 (1 + ya % 20), .int .i64 (yd % 2), .slice yA (min yn 100) yc] = _
                    rw [Nat.min_eq_right (by have := HY.out.2; omega)]
                  rw [e]
                  exact HB2.out.1.set_ 2 _
                · exact HB2.out.2.setCell (by show wr.heap.size ≤ K; rw [HB.out.2.2]; exact Nat.le_refl _) _
              · have d1 : decide ((yn : Int) > 100) = false := by simp; omega
                have d2 : decide ((100 : Int) < (yn : Int)) = false := by simp; omega
                have d3 : decide (100 < yn) = false := by simpa using hyn
                first | rw [d1] | rw [d2] | rw [d3]
                have HY := Lib.hid hyn
                clear hyn
                go_wp2_with fail
                go_meet
                refine ⟨rfl, rfl, rfl, ?_, HB2.out.2⟩
                have e : (goodS ⟨ya, yd, yA, yn, yc, yx⟩).cells = [.int .i64 (1 + ya % 20), .int .i64 (yd % 2), .slice yA yn yc] := by
                  show [Value.int .i64 (1 + ya % 20), .int .i64 (yd % 2), .slice yA (min yn 100) yc] = _
                  rw [Nat.min_eq_left (by have := HY.out; omega)]
                rw [e]
                exact HB2.out.1
            case rest =>
              obtain ⟨rfl, rfl, rfl, hb, hbl⟩ := hcut
              have k0 : wc.cell? ⟨K, 0, none⟩ = some (.int .i64 (1 + ya % 20)) := hb.cell 0
              have k1 : wc.cell? ⟨K, 1, none⟩ = some (.int .i64 (yd % 2)) := hb.cell 1
              have k2 : wc.cell? ⟨K, 2, none⟩ = some (.slice yA (min yn 100) yc) := hb.cell 2
              have HB3 := Lib.hid (And.intro hb hbl)
              have hbz := hbl.size
              clear hb hbl
              go_wp2_with (at_builtin; refine wpList_append_rd _ rfl (.tmp 61) (.tmp 63) _ rfl wf.heap.size 45 j0 _ 3 40 Try.underlying41 hj0 ha0 ha1 ha2 rfl (by omega) _ q (ycs ((sl.take q).map goodS)) rfl (own_below (own_below HQ.out.1 HB3.out.2) ((Below.refl _ _).alloc (Nat.le_refl _) _)) (some ⟨wc.heap.size, 0, none⟩) 1 1 (goodS ⟨ya, yd, yA, yn, yc, yx⟩).cells rfl (Rd.lit _ _ _ _ rfl 3 rfl _ rfl) (sy_one _) (by simp only [maxLen]; omega) (by omega) (by rw [World.size_alloc]; omega) ?_; intro v1 w1 hown1 hg1 hat1)
              have hbw1 : Below wf.heap.size wf w1 := (below_base HQ.out.2 (below_base HB3.out.2 ((Below.refl _ _).alloc (Nat.le_refl _) _) HB3.out.2.size) HQ.out.2.size).grown hg1 (by show wf.heap.size ≤ (wc.alloc _).heap.size; rw [World.size_alloc]; omega) (fun q hq => (HQ.out.1.lt q hq).1)
              obtain ⟨A1, d1, rfl⟩ := own_sl hown1
              refine ⟨⟨q + 1, hqk, by go_num, A1, d1, rfl, Lib.hid ⟨?_, hbw1⟩⟩, by show k - ((q : Int) + 1).toNat < k - ((q : Int)).toNat; omega⟩
              rw [take_map_succ goodS hql, hx]
              show w1.ownsRow _ _ _ _ _ (List.flatMap SY.cells _)
              rw [List.flatMap_append]
              exact hown1
        · obtain rfl : q = k := by omega
          have qd : decide ((q : Int) < (q : Int)) = false := decide_eq_false (by omega)
          have qd' : decide (q < q) = false := decide_eq_false (by omega)
          have HE := Lib.hid (And.intro (own_below HF.out.1 HQ.out.2) (And.intro (own_mono HQ.out.1 HF.out.2.size) (below_base HF.out.2 HQ.out.2 HF.out.2.size)))
          clear hqk hq
          go_wp2_with fail
          go_ret2
          refine ⟨A', c', B', d', rfl, HE.out.1, ?_, HE.out.2.2⟩
          have := HE.out.2.1
          rw [List.take_of_length_le (by rw [HL.out.2]; exact Nat.le_refl _)] at this
          exact this
end Go.Proofs.Ytknpghemogfenaa
