/- Chapter 31: the document's ether: Send, Get. -/
import Derived.Test.YtknpghemogfenaaRc31
import Derived.StillTailTactics
namespace Go.Proofs.Ytknpghemogfenaa
open Go.Conc Go.RowKit
set_option linter.unusedVariables false
theorem RTo.below {w w' w'' : World} {base E N : Nat} {s : ES} {F : Nat → Prop} (h : RTo base E s N F w w') (hb : Below w'.heap.size w' w'') : RTo base E s N F w w'' := by
  obtain ⟨F', h1, h2, h3⟩ := h
  exact ⟨F', h1.below hb, h2, h3.trans (Chg.of_below (S := F) hb) fun _ _ e => e⟩
theorem rsend_bad {w : World} {E n c : Nat} {A : Option Addr} {d : Int} (hd : isEnd d = false) :
    Calls Try.prog 43 #[.pointer (some ⟨E, 0, none⟩), .int .i64 d, .slice A n c] w fun e w' => e = .returned (.int .i64 2) ∧ w' = w := by
  have HD := Lib.hid hd
  clear hd
  go_enter Try.func43, Try.ntmps43
  go_wp2_with fail
  refine (rend_any _).mono ?_
  rintro e w2 ⟨rfl, rfl⟩
  rw [HD.out]
  go_wp2_with fail
  go_ret
  exact ⟨rfl, rfl⟩
theorem rsend_long {w : World} {E n c : Nat} {A : Option Addr} {d : Int} (hd : isEnd d = true) (hn : 70000 < n) :
    Calls Try.prog 43 #[.pointer (some ⟨E, 0, none⟩), .int .i64 d, .slice A n c] w fun e w' => e = .returned (.int .i64 4) ∧ w' = w := by
  have HD := Lib.hid hd
  have d1 : decide ((n : Int) > 70000) = true := by simp; omega
  have d2 : decide ((70000 : Int) < (n : Int)) = true := by simp; omega
  have d3 : decide (70000 < n) = true := by simp; omega
  clear hd hn
  go_enter Try.func43, Try.ntmps43
  go_wp2_with fail
  refine (rend_any _).mono ?_
  rintro e w2 ⟨rfl, rfl⟩
  rw [HD.out]
  go_wp2_with fail
  go_ret
  exact ⟨rfl, rfl⟩
/-- The fate that is found. -/
theorem send_fate {fl : List FT} {k : Nat} : (fl.drop k).headD FT.zero = if h : k < fl.length then fl[k] else FT.zero := by
  by_cases h : k < fl.length
  · rw [dif_pos h, List.drop_eq_getElem_cons h]; rfl
  · rw [dif_neg h, List.drop_eq_nil_of_le (by omega)]; rfl
/-- One more is sent. -/
theorem sent_one {w wc : World} {base E N k V : Nat} {s : ES} {F : Nat → Prop} {m : RMem} (hm : Rm wc base E m F) (ha : AbR m s) (hk : m.sent = k) (hN : m.sent ≤ N) :
    Rw (wc.setCell ⟨E, 3, none⟩ (.int .i64 ((k + 1 : Nat) : Int))) base E { s with fates := s.fates.tail } (N + 1) F ∧ Chg F wc (wc.setCell ⟨E, 3, none⟩ (.int .i64 ((k + 1 : Nat) : Int))) := by
  subst hk
  obtain ⟨y1, y2⟩ := hm.atE (m' := { m with sent := m.sent + 1 }) 3 (.int .i64 ((m.sent + 1 : Nat) : Int)) rfl ⟨rfl, rfl, rfl, rfl, rfl, rfl⟩ ⟨rfl, rfl, rfl⟩ ⟨rfl, rfl, rfl⟩
  exact ⟨⟨_, y1, ⟨by show s.fates.tail = m.fates.drop (m.sent + 1); rw [ha.fates, List.tail_drop], ha.strays, ha.now, ha.number, ha.lost, ha.sky, ha.b0, ha.b1⟩, by show m.sent + 1 ≤ N + 1; omega⟩, y2⟩
theorem lost_one {w : World} {base E N : Nat} {s : ES} {F : Nat → Prop} {gn : Int} (h : Rw w base E s N F) (hg : s.lost = gn) :
    Rw (w.setCell ⟨E, 8, none⟩ (.int .i64 (gn + 1))) base E { s with lost := s.lost + 1 } N F ∧ Chg F w (w.setCell ⟨E, 8, none⟩ (.int .i64 (gn + 1))) := by
  obtain ⟨m, hm, ha, hN⟩ := h
  subst hg
  rw [ha.lost]
  obtain ⟨y1, y2⟩ := hm.atE (m' := { m with gone := m.gone + 1 }) 8 (.int .i64 (m.gone + 1)) rfl ⟨rfl, rfl, rfl, rfl, rfl, rfl⟩ ⟨rfl, rfl, rfl⟩ ⟨rfl, rfl, rfl⟩
  exact ⟨⟨_, y1, ⟨ha.fates, ha.strays, ha.now, ha.number, rfl, ha.sky, ha.b0, ha.b1⟩, hN⟩, y2⟩
theorem Rw.cells {w : World} {base E N : Nat} {s : ES} {F : Nat → Prop} (h : Rw w base E s N F) : w.cell? ⟨E, 2, none⟩ = some (.int .i64 s.now) ∧ w.cell? ⟨E, 8, none⟩ = some (.int .i64 s.lost) ∧ ∃ A c, w.cell? ⟨E, 5, none⟩ = some (.slice A s.sky.length c) := by
  obtain ⟨m, hm, ha, hN⟩ := h
  refine ⟨by rw [ha.now]; exact hm.e.cell 2, by rw [ha.lost]; exact hm.e.cell 8, m.LA, m.lc, ?_⟩
  rw [ha.sky, List.length_map]; exact hm.e.cell 5
set_option maxRecDepth 100000 in
set_option maxHeartbeats 6400000 in
theorem rsend_any {w : World} {base E N n c : Nat} {s : ES} {F : Nat → Prop} {A : Option Addr} {x : List UInt8} {d : Int} (h : Rw w base E s N F) (hok : s.ok) (hr : Rd w A n (bys x)) (hra : 0 < n → ∀ a, A = some a → ¬ F a.block) (hn : n ≤ 70000) (hd : d = 0 ∨ d = 1) (hnow : s.now ≤ 1000000) (hnb : s.number ≤ 900000) (hl : s.sky.length ≤ 800000) (hls : s.lost ≤ 900000000) (hN : N ≤ 900000) :
    Calls Try.prog 43 #[.pointer (some ⟨E, 0, none⟩), .int .i64 d, .slice A n c] w fun e w' => e = .returned (.int .i64 0) ∧ RTo base E (s.send d x) (N + 1) F w w' := by
  obtain ⟨m, hm, ha, hsN⟩ := h
  have hde : isEnd d = true := by rcases hd with rfl | rfl <;> rfl
  obtain ⟨k, hk⟩ : ∃ k, m.sent = k := ⟨_, rfl⟩
  obtain ⟨nf, hnf⟩ : ∃ k, m.fates.length = k := ⟨_, rfl⟩
  obtain ⟨FA, hFA⟩ : ∃ k, m.FA = k := ⟨_, rfl⟩
  obtain ⟨fc, hfc⟩ : ∃ k, m.fc = k := ⟨_, rfl⟩
  obtain ⟨nw, hnw⟩ : ∃ k, m.now = k := ⟨_, rfl⟩
  obtain ⟨gn, hgn⟩ : ∃ k, m.gone = k := ⟨_, rfl⟩
  obtain ⟨f, hf⟩ : ∃ f, (m.fates.drop k).headD FT.zero = f := ⟨_, rfl⟩
  have hfb := hok.head
  have n0 := hok.now
  have l0 := hok.lost
  have b0 := hok.number
  rw [ha.fates, hk, hf] at hfb
  rw [ha.now, hnw] at n0 hnow
  rw [ha.lost, hgn] at l0 hls
  have HS := Lib.hid (And.intro hm (And.intro ha (And.intro hok (And.intro hk (And.intro hnf (And.intro hFA (And.intro hfc (And.intro hnw (And.intro hgn hf)))))))))
  have HX := Lib.hid (And.intro hr (And.intro hra (And.intro hn (And.intro hd (And.intro hnb (And.intro hl (And.intro b0 (And.intro hsN hN))))))))
  have HB := Lib.hid (And.intro hfb (And.intro (And.intro n0 hnow) (And.intro l0 hls)))
  have HD := Lib.hid hde
  have d1 : decide ((n : Int) > 70000) = false := by simp; omega
  have d2 : decide ((70000 : Int) < (n : Int)) = false := by simp; omega
  have d3 : decide (70000 < n) = false := by simp; omega
  have hk9 : k ≤ 900000 := by omega
  have hkI : (k : Int) ≤ 900000 := by omega
  have c0 : w.cell? ⟨E, 0, none⟩ = some (.slice FA nf fc) := by rw [← hFA, ← hnf, ← hfc]; exact hm.e.cell 0
  have c3 : w.cell? ⟨E, 3, none⟩ = some (.int .i64 (k : Nat)) := by rw [← hk]; exact hm.e.cell 3
  have hEs : E ≠ w.heap.size := Nat.ne_of_lt hm.e.lt
  have hsE : w.heap.size ≠ E := Ne.symm hEs
  clear hm ha hok hk hnf hFA hfc hnw hgn hf hfb n0 l0 b0 hnow hls hr hra hn hd hnb hl hsN hN hde
  go_enter Try.func43, Try.ntmps43
  go_wp2_with fail
  refine (rend_any _).mono ?_
  rintro e w2 ⟨rfl, rfl⟩
  rw [HD.out]
  have a0 := cell_below ((Below.refl w2.heap.size w2).alloc (Nat.le_refl _) (.cells #[.bool false, .int .i64 0, .bool false, .int .i64 0] 53)) c0
  have a3 := cell_below ((Below.refl w2.heap.size w2).alloc (Nat.le_refl _) (.cells #[.bool false, .int .i64 0, .bool false, .int .i64 0] 53)) c3
  go_wp2_with fail
  go_quiet (fail)
  go_upto_if 23 with fail
  go_cut [] (fun wx => Rm wx base E m F ∧ Bk wx w2.heap.size 53 f.cells ∧ Below w2.heap.size w2 wx)
  case first =>
    have hb2 := below_dN ((Below.refl w2.heap.size w2).alloc (Nat.le_refl _) (.cells #[.bool false, .int .i64 0, .bool false, .int .i64 0] 53)) nq
    have hbk : Bk ((w2.alloc (.cells #[.bool false, .int .i64 0, .bool false, .int .i64 0] 53)).drewN nq) w2.heap.size 53 FT.zero.cells := (Bk.newA w2 _ _).drewN nq
    by_cases hlt : k < nf
    · have kd : decide ((k : Int) < (nf : Int)) = true := decide_eq_true (by omega)
      have kdp : (k : Int) < (nf : Int) := by omega
      have kd' : decide (k < nf) = true := decide_eq_true hlt
      have hkl : k < m.fates.length := by rw [HS.out.2.2.2.2.1]; exact hlt
      have hfo := HS.out.1.f.f
      obtain ⟨g, cur, hA, hgb, hgl, _⟩ := own_formN hfo (by omega)
      obtain ⟨g', b1, i2, b3, i4, hA', hff, y0, y1, y2, y3⟩ := rd_fate (own_rdN hfo).1 (own_at0 hfo) hkl
      rw [HS.out.2.2.2.2.2.1] at hA'
      have hfe : f = ⟨b1, i2, b3, i4⟩ := by rw [← HS.out.2.2.2.2.2.2.2.2.2, send_fate, dif_pos hkl, hff]
      have HF := Lib.hid (And.intro hfe (And.intro hb2 hbk))
      have z0 := cell_below hb2 c0
      have z3 := cell_below hb2 c3
      have z4 := cell_below hb2 y0
      have z5 := cell_below hb2 y1
      have z6 := cell_below hb2 y2
      have z7 := cell_below hb2 y3
      rw [hA'] at z0
      clear y0 y1 y2 y3 a0 a3 c0 c3 hkl hfo hA hgb hgl hff hfe hb2 hA' hlt
      generalize (w2.alloc (.cells #[.bool false, .int .i64 0, .bool false, .int .i64 0] 53)).drewN nq = w3 at *
      have v0 : w3.cell? ⟨w2.heap.size, 0, none⟩ = some (.bool false) := hbk.cell 0
      have v1 : w3.cell? ⟨w2.heap.size, 1, none⟩ = some (.int .i64 0) := hbk.cell 1
      have v2 : w3.cell? ⟨w2.heap.size, 2, none⟩ = some (.bool false) := hbk.cell 2
      have v3 : w3.cell? ⟨w2.heap.size, 3, none⟩ = some (.int .i64 0) := hbk.cell 3
      have u0 := hbk.frozen 0
      have u1 := hbk.frozen 1
      have u2 := hbk.frozen 2
      have u3 := hbk.frozen 3
      clear hbk
      go_wp2_with fail
      go_region
      all_goals go_wp2_with fail
      all_goals go_meet
      all_goals
        have hw := ((((HF.out.2.1.setCell (p := ⟨w2.heap.size, 0, none⟩) (Nat.le_refl _) (.bool b1)).setCell (p := ⟨w2.heap.size, 1, none⟩) (Nat.le_refl _) (.int .i64 i2)).setCell (p := ⟨w2.heap.size, 2, none⟩) (Nat.le_refl _) (.bool b3)).setCell (p := ⟨w2.heap.size, 3, none⟩) (Nat.le_refl _) (.int .i64 i4)).drew
        refine ⟨HS.out.1.below hw, ?_, hw⟩
        rw [HF.out.1]
        exact ((((HF.out.2.2.set_ 0 (.bool b1)).set_ 1 (.int .i64 i2)).set_ 2 (.bool b3)).set_ 3 (.int .i64 i4)).drew
    · have kd : decide ((k : Int) < (nf : Int)) = false := decide_eq_false (by omega)
      have kd' : decide (k < nf) = false := decide_eq_false hlt
      have hfe : f = FT.zero := by rw [← HS.out.2.2.2.2.2.2.2.2.2, send_fate, dif_neg (by rw [HS.out.2.2.2.2.1]; exact hlt)]
      have HF := Lib.hid (And.intro hfe (And.intro hb2 hbk))
      have kdn : ¬ (k : Int) < (nf : Int) := by omega
      clear a0 a3 c0 c3 hfe hb2 hbk
      go_wp2_with fail
      go_meet
      exact ⟨HS.out.1.below HF.out.2.1, by rw [HF.out.1]; exact HF.out.2.2, HF.out.2.1⟩
  case rest =>
    obtain ⟨hm, hbk, hb⟩ := hcut
    obtain ⟨i1, i2, i3, i4⟩ := f
    have HC := Lib.hid (And.intro hm (And.intro hbk hb))
    have e3 : wc.cell? ⟨E, 3, none⟩ = some (.int .i64 (k : Nat)) := by rw [← HS.out.2.2.2.1]; exact hm.e.cell 3
    have e2 : wc.cell? ⟨E, 2, none⟩ = some (.int .i64 nw) := by rw [← HS.out.2.2.2.2.2.2.2.1]; exact hm.e.cell 2
    have e8 : wc.cell? ⟨E, 8, none⟩ = some (.int .i64 gn) := by rw [← HS.out.2.2.2.2.2.2.2.2.1]; exact hm.e.cell 8
    have f3 := hm.e.frozen 3
    have f8 := hm.e.frozen 8
    have v0 : wc.cell? ⟨w2.heap.size, 0, none⟩ = some (.bool i1) := hbk.cell 0
    have v1 : wc.cell? ⟨w2.heap.size, 1, none⟩ = some (.int .i64 i2) := hbk.cell 1
    have v2 : wc.cell? ⟨w2.heap.size, 2, none⟩ = some (.bool i3) := hbk.cell 2
    have v3 : wc.cell? ⟨w2.heap.size, 3, none⟩ = some (.int .i64 i4) := hbk.cell 3
    have ek : IntKind.i64.wrap ((k : Int) + 1) = ((k + 1 : Nat) : Int) := by rw [IntKind.wrap_i64]; omega
    have eg : IntKind.i64.wrap (gn + 1) = gn + 1 := by rw [IntKind.wrap_i64]; have := HB.out.2.2; omega
    have H1 := Lib.hid (sent_one (w := w2) (V := 0) (N := N) HC.out.1 HS.out.2.1 HS.out.2.2.2.1 HX.out.2.2.2.2.2.2.2.1)
    have hVE : ¬ F w2.heap.size := fun hf => by have := (HS.out.1.fb _ hf).2; omega
    have HV := Lib.hid hVE
    have hsn : s.fates.headD FT.zero = ⟨i1, i2, i3, i4⟩ := by rw [HS.out.2.1.fates, HS.out.2.2.2.1]; exact HS.out.2.2.2.2.2.2.2.2.2
    have HSN := Lib.hid hsn
    have hcw : Chg F w2 wc := Chg.of_below HC.out.2.2
    have HCW := Lib.hid hcw
    clear hVE hsn hcw hm hbk hb a0 a3 c0 c3
    cases i1 with
    | true =>
      go_wp2_with fail
      go_ret
      refine ⟨rfl, ?_⟩
      obtain ⟨z1, z2⟩ := lost_one (gn := gn) H1.out.1 (by show s.lost = gn; rw [HS.out.2.1.lost]; exact HS.out.2.2.2.2.2.2.2.2.1)
      refine ⟨F, ?_, fun k hk => .inl hk, (HCW.out.trans H1.out.2 fun _ _ e => e).trans z2 fun _ _ e => e⟩
      have e : s.send d x = { ({ s with fates := s.fates.tail } : ES) with lost := s.lost + 1 } := by unfold ES.send; rw [HSN.out]; rfl
      rw [e]
      exact z1
    | false =>
      go_upto_region 12 with fail
      have y2 := H1.out.1.cells.1
      rw [show (wc.setCell ⟨E, 3, none⟩ (.int .i64 ((k + 1 : Nat) : Int))) = wc.setCell ⟨E, 3, none⟩ (.int .i64 ((k : Int) + 1)) from rfl] at H1 y2
      rw [show ({ s with fates := s.fates.tail } : ES).now = nw from by show s.now = nw; rw [HS.out.2.1.now]; exact HS.out.2.2.2.2.2.2.2.1] at y2
      have hb8 : Below wc.heap.size wc wc := Below.refl _ _
      have q0 := H1.out.2.cell v0 HV.out
      have q1 := H1.out.2.cell v1 HV.out
      have q2 := H1.out.2.cell v2 HV.out
      have q3 := H1.out.2.cell v3 HV.out
      have hcd := HCW.out.trans H1.out.2 fun _ _ e => e
      have HD2 := Lib.hid (And.intro H1.out.1 hcd)
      clear e3 e2 e8 f3 f8 v0 v1 v2 v3 hb8 hcd H1 HC
      generalize wc.setCell ⟨E, 3, none⟩ (.int .i64 ((k : Int) + 1)) = wd at *
      have hbx : (0 ≤ i2 ∧ i2 ≤ 10000) ∧ 0 ≤ i4 ∧ i4 ≤ 10000 := HB.out.1
      have g1 : IntKind.i64.wrap (nw + 1) = nw + 1 := by rw [IntKind.wrap_i64]; have := HB.out.2.1; omega
      have g2 : IntKind.i64.wrap (nw + 1 + i2) = nw + 1 + i2 := by rw [IntKind.wrap_i64]; have := HB.out.2.1; have := hbx; omega
      have g4 : IntKind.i64.wrap (nw + 1 + i4) = nw + 1 + i4 := by rw [IntKind.wrap_i64]; have := HB.out.2.1; have := hbx; omega
      go_still_tail 11, (by kernel_rfl)
      change wpList _ _ _ _ _ wd.drew
      go_wp2_with fail
      have hrd : Rd wd.drew A n (bys x) := by
        have : Rd wd A n (bys x) := HD2.out.2.rd0 HX.out.1 fun a haa h0 => HX.out.2.1 h0 a haa
        exact this.drew
      refine (rflies_any (wait := i2) (HD2.out.1.below (below_dN (Below.refl _ _) 1)) hrd HX.out.2.2.1 (by show nw + 1 + i2 = s.now + 1 + i2; rw [HS.out.2.1.now, HS.out.2.2.2.2.2.2.2.1]) ⟨HX.out.2.2.2.2.2.2.1, by show s.number ≤ 1000000; have := HX.out.2.2.2.2.1; omega⟩ (by show s.sky.length ≤ 900000; have := HX.out.2.2.2.2.2.1; omega)).mono ?_
      rintro _ w4 ⟨rfl, F4, hR4, hF4, hc4⟩
      have hz4 := hc4.size
      have hzd := HD2.out.2.size
      have hzd' : (wd.drewN 1).heap.size = wd.heap.size := rfl
      have hc4' : Chg F wd w4 := hc4.undrewN
      have hcc := HD2.out.2.trans hc4' fun _ _ e => e
      have p2 := hc4'.cell q2 HV.out
      have p3 := hc4'.cell q3 HV.out
      have p5 := hR4.cells.1
      rw [show (({ s with fates := s.fates.tail } : ES).fly d i2 x).now = nw from by show s.now = nw; rw [HS.out.2.1.now]; exact HS.out.2.2.2.2.2.2.2.1] at p5
      have H4 := Lib.hid (And.intro hR4 (And.intro (show ∀ k, F4 k → F k ∨ w2.heap.size ≤ k from fun k hk => (hF4 k hk).imp id fun e => by omega) hcc))
      clear hR4 hF4 hc4 hc4' hcc hz4 hzd hzd' y2 q0 q1 q2 q3 hrd
      cases i3 with
      | false =>
        go_wp2_with fail
        go_ret
        refine ⟨rfl, F4, ?_, H4.out.2.1, H4.out.2.2⟩
        have e : s.send d x = ({ s with fates := s.fates.tail } : ES).fly d i2 x := by unfold ES.send; rw [HSN.out]; rfl
        rw [e]
        exact H4.out.1
      | true =>
        go_wp2_with fail
        go_still_tail 11, (by kernel_rfl)
        change wpList _ _ _ _ _ w4.drew
        go_wp2_with fail
        have hrd : Rd w4.drew A n (bys x) := by
          have : Rd w4 A n (bys x) := H4.out.2.2.rd0 HX.out.1 fun a haa h0 => HX.out.2.1 h0 a haa
          exact this.drew
        refine (rflies_any (wait := i4) (H4.out.1.below (below_dN (Below.refl _ _) 1)) hrd HX.out.2.2.1 (by show nw + 1 + i4 = s.now + 1 + i4; rw [HS.out.2.1.now, HS.out.2.2.2.2.2.2.2.1]) ⟨by show 0 ≤ s.number + 1; have := HX.out.2.2.2.2.2.2.1; omega, by show s.number + 1 ≤ 1000000; have := HX.out.2.2.2.2.1; omega⟩ (by show (s.sky ++ [_]).length ≤ 900000; rw [List.length_append]; have := HX.out.2.2.2.2.2.1; simp; omega)).mono ?_
        rintro _ w6 ⟨rfl, hRT⟩
        have H6 := Lib.hid hRT
        clear hRT hrd p2 p3 p5
        go_wp2_with fail
        go_ret
        refine ⟨rfl, ?_⟩
        have e : s.send d x = (({ s with fates := s.fates.tail } : ES).fly d i2 x).fly d i4 x := by unfold ES.send; rw [HSN.out]; rfl
        rw [e]
        obtain ⟨F6, r1, r2, r3⟩ := H6.out
        exact RTo.trans H4.out.2.1 H4.out.2.2 ⟨F6, r1, r2, r3.undrewN⟩
theorem rget_bad {w : World} {E : Nat} {d : Int} (hd : isEnd d = false) :
    Calls Try.prog 46 #[.pointer (some ⟨E, 0, none⟩), .int .i64 d] w fun e w' => e = .returned (.tuple #[.slice none 0 0, .int .i64 2]) ∧ w' = w := by
  have HD := Lib.hid hd
  clear hd
  go_enter Try.func46, Try.ntmps46
  go_wp2_with fail
  refine (rend_any _).mono ?_
  rintro e w2 ⟨rfl, rfl⟩
  rw [HD.out]
  go_wp2_with fail
  go_ret2
  exact ⟨rfl, rfl⟩
set_option maxRecDepth 100000 in
theorem rget_none {w : World} {base E N k o : Nat} {s : ES} {F : Nat → Prop} (h : Rw w base E s N F) (hko : (k = 0 ∧ o = 6) ∨ (k = 1 ∧ o = 7)) (hb : s.box (k : Int) = []) :
    Calls Try.prog 46 #[.pointer (some ⟨E, 0, none⟩), .int .i64 (k : Int)] w fun e w' => e = .returned (.tuple #[.slice none 0 0, .int .i64 14]) ∧ w' = w := by
  obtain ⟨m, hm, ha, hsN⟩ := h
  have hk2 : k < 2 := by omega
  have hl : (m.q k).length = 0 := by rw [ha.box hk2] at hb; have := congrArg List.length hb; simpa using this
  have c5 := hm.box hk2
  rw [hl] at c5
  have hoE : o = 6 + k := by omega
  rw [← hoE] at c5
  have HD := Lib.hid (show isEnd (k : Int) = true by rcases (show k = 0 ∨ k = 1 by omega) with rfl | rfl <;> rfl)
  clear hm ha hsN hb hl hoE hk2
  rcases hko with ⟨rfl, rfl⟩ | ⟨rfl, rfl⟩
  all_goals go_enter Try.func46, Try.ntmps46
  all_goals go_wp2_with fail
  all_goals refine (rend_any _).mono ?_
  all_goals rintro e w2 ⟨rfl, rfl⟩
  all_goals first | rw [show isEnd 0 = true from rfl] | rw [show isEnd 1 = true from rfl]
  all_goals go_wp2_with fail
  all_goals go_ret2
  all_goals exact ⟨rfl, rfl⟩
theorem rgot_end {w : World} {base E N k n g o c : Nat} {s : ES} {F : Nat → Prop} {m : RMem} {b : BX} {r : List BX} (hm : Rm w base E m F) (ha : AbR m s) (hs : m.sent ≤ N) (hk : k < 2) (hq : m.q k = b :: r) (hA : m.qA k = some ⟨g, o, none⟩) (hc : m.qc k = c) (hn : r.length = n) :
    RTo base E (s.got (k : Int)) N F w (w.setCell ⟨E, 6 + k, none⟩ (.slice (if c = 1 then some ⟨g, o, none⟩ else some ⟨g, o + 1, none⟩) n (c - 1))) := by
  have hqr := hm.q.qr k hk
  rw [hq, List.length_cons, hA, hc, hn] at hqr
  obtain ⟨g', o', e, hgb, _, _, _, ht⟩ := hqr.tail
  injection e with e
  injection e with e1 e2
  subst e1 e2
  subst hn
  obtain ⟨z1, z2⟩ := hm.putQ (T := fun _ => False) (l' := r) (A' := if c = 1 then some ⟨g, o, none⟩ else some ⟨g, o + 1, none⟩) (c' := c - 1) hk (Chg.refl _ w) (fun _ e _ => e.elim) ht (fun a haa => by
    left
    refine mem_blk.2 ⟨_, hA, ?_⟩
    by_cases h1 : c = 1
    · rw [if_pos h1] at haa; injection haa with haa; rw [← haa]
    · rw [if_neg h1] at haa; injection haa with haa; rw [← haa]) (fun b' hb' => (hm.q.x k hk b' (by rw [hq]; exact List.mem_cons_of_mem _ hb')).mono Grow.le)
  refine ⟨_, ⟨_, z1, ?_, hs⟩, fun j hj => hj.imp id And.left, z2⟩
  rcases (show k = 0 ∨ k = 1 by omega) with rfl | rfl
  · exact ⟨ha.fates, ha.strays, ha.now, ha.number, ha.lost, ha.sky, by show s.b0.tail = (upd m.q 0 r 0).map BX.x; rw [upd_self, ha.b0, hq]; rfl, by show s.b1 = (upd m.q 0 r 1).map BX.x; rw [upd_ne _ _ (by decide)]; exact ha.b1⟩
  · exact ⟨ha.fates, ha.strays, ha.now, ha.number, ha.lost, ha.sky, by show s.b0 = (upd m.q 1 r 0).map BX.x; rw [upd_ne _ _ (by decide)]; exact ha.b0, by show s.b1.tail = (upd m.q 1 r 1).map BX.x; rw [upd_self, ha.b1, hq]; rfl⟩
set_option maxRecDepth 100000 in
set_option maxHeartbeats 3200000 in
theorem rget_some {w : World} {base E N k o : Nat} {s : ES} {F : Nat → Prop} {x : List UInt8} {xs : List (List UInt8)} (h : Rw w base E s N F) (hko : (k = 0 ∧ o = 6) ∨ (k = 1 ∧ o = 7)) (hb : s.box (k : Int) = x :: xs) :
    Calls Try.prog 46 #[.pointer (some ⟨E, 0, none⟩), .int .i64 (k : Int)] w fun e w' => ∃ A n c, e = .returned (.tuple #[.slice A n c, .int .i64 0]) ∧ Rd w' A n (bys x) ∧ n ≤ 70000 ∧ (∀ a, A = some a → F a.block) ∧ RTo base E (s.got (k : Int)) N F w w' := by
  obtain ⟨m, hm, ha, hsN⟩ := h
  have hk2 : k < 2 := by omega
  have hoE : o = 6 + k := by omega
  rw [ha.box hk2] at hb
  obtain ⟨b, r, hq, hbx, hr⟩ : ∃ b r, m.q k = b :: r ∧ b.x = x ∧ r.map BX.x = xs := by
    cases hqk : m.q k with
    | nil => rw [hqk] at hb; cases hb
    | cons b r => rw [hqk, List.map_cons] at hb; injection hb with h1 h2; exact ⟨b, r, rfl, h1, h2⟩
  obtain ⟨n, hn⟩ : ∃ n, r.length = n := ⟨_, rfl⟩
  obtain ⟨c, hc⟩ : ∃ c, m.qc k = c := ⟨_, rfl⟩
  have hqr := hm.q.qr k hk2
  rw [hq, List.length_cons, hc, hn] at hqr
  obtain ⟨g, o', hA, hgb, ce, hnc, hcm, ht⟩ := hqr.tail
  have c5 := hm.box hk2
  rw [← hoE, hA, hq, List.length_cons, hn, hc] at c5
  have f5 := hm.e.frozen o
  have hpx := hm.q.x k hk2 b (by rw [hq]; exact List.mem_cons_self ..)
  obtain ⟨bA, bn, bc, bx⟩ := b
  have ce' : w.cell? ⟨g, o', none⟩ = some (.slice bA bn bc) := ce
  have hbx' : bx = x := hbx
  subst hbx'
  have n1 : ((n + 1 : Nat) : Int) ≤ (c : Int) := by omega
  have n2 : (1 : Int) ≤ ((n + 1 : Nat) : Int) := by omega
  have hcm' : (c : Int) ≤ 9223372036854775807 := by unfold maxLen at hcm; omega
  have H := Lib.hid (And.intro hm (And.intro ha (And.intro hsN (And.intro hk2 (And.intro hq (And.intro hA (And.intro hc (And.intro hn hpx))))))))
  have HD := Lib.hid (show isEnd (k : Int) = true by rcases (show k = 0 ∨ k = 1 by omega) with rfl | rfl <;> rfl)
  clear hm ha hsN hb hk2 hoE hq hr hn hc hqr hA hgb ce hcm ht hpx hbx
  obtain ⟨V, hV⟩ : ∃ V, (if c = 1 then some (⟨g, o', none⟩ : Addr) else some ⟨g, o' + 1, none⟩) = V := ⟨_, rfl⟩
  have HVV := Lib.hid hV
  rcases hko with ⟨rfl, rfl⟩ | ⟨rfl, rfl⟩
  all_goals go_enter Try.func46, Try.ntmps46
  all_goals go_wp2_with fail
  all_goals refine (rend_any _).mono ?_
  all_goals rintro e w2 ⟨rfl, rfl⟩
  all_goals first | rw [show isEnd 0 = true from rfl] | rw [show isEnd 1 = true from rfl]
  all_goals go_wp2_with fail
  all_goals go_region
  all_goals go_wp2_with fail
  all_goals go_ret2
  all_goals
    have z := rgot_end H.out.1 H.out.2.1 H.out.2.2.1 H.out.2.2.2.1 H.out.2.2.2.2.1 H.out.2.2.2.2.2.1 H.out.2.2.2.2.2.2.1 H.out.2.2.2.2.2.2.2.1
    rw [HVV.out] at z
    have hTy := H.out.1.ty
    have hrd : ∀ o v, Rd (w2.setCell ⟨E, o, none⟩ v) bA bn (bys bx) := fun o v =>
      ((Chg.refl (fun k => k = E) w2).set_ (show E = E from rfl) o v).rd H.out.2.2.2.2.2.2.2.2.1.rd fun a haa e => (own_ty H.out.2.2.2.2.2.2.2.2.1.1 (own_b1 haa)).1.ne hTy (by decide) e
    exact ⟨bA, bn, bc, rfl, (hrd _ _).drew, H.out.2.2.2.2.2.2.2.2.1.2, H.out.2.2.2.2.2.2.2.2.2, z.below (below_dN (Below.refl _ _) 1)⟩
end Go.Proofs.Ytknpghemogfenaa
