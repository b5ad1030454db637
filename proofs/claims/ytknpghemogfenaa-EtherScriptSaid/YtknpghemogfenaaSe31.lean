/- Chapter 31: (*Ether).Send: its walk. -/
import Derived.Test.YtknpghemogfenaaSd31
namespace Go.Proofs.Ytknpghemogfenaa
open Go.Conc Go.RowKit
set_option linter.unusedVariables false
/-- One more flies. -/
theorem sns_fly {w wx : World} {base E : Nat} {m : EM} {s1 : ES} {f : FT} {d wait : Int} {A : Option Addr} {n c : Nat} {x : List UInt8} (hfm : ∀ k, m.foot E k → k < w.heap.size) (h : SnS w wx base E m s1 f d A n c) (hr : Rd w A n (bys x)) (hrf : ∀ a, A = some a → 0 < n → ¬ m.foot E a.block) (hn : n ≤ 70000) (hd : d = 0 ∨ d = 1) (hw : 0 ≤ wait ∧ wait ≤ 10000) (hnow : s1.now ≤ 1000000) (hnb : s1.number ≤ 1000000) (hl : s1.sky.length ≤ 1000000) :
    Calls Try.prog 36 #[.int .i64 wait, .pointer (some ⟨w.heap.size, 0, none⟩), .pointer (some ⟨w.heap.size + 1, 0, none⟩), .pointer (some ⟨w.heap.size + 2, 0, none⟩)] wx fun e w' => e = .returned (.tuple #[]) ∧ SnS w w' base E m (s1.fly d wait x) f d A n c := by
  obtain ⟨⟨m1, h1, h2, h3, h4, h5⟩, h6, h7, h8, h9, h10⟩ := h
  have hq : ∀ j, j < 4 → ¬ m1.foot E (w.heap.size + j) := fun j hj hh => by
    rcases h5 _ hh with e | e
    · have := hfm _ e; omega
    · omega
  have hr1 : Rd wx A n (bys x) := by
    rcases Nat.eq_zero_or_pos n with h0 | h0
    · subst h0; exact ⟨hr.1, fun hh => absurd hh (Nat.lt_irrefl _)⟩
    · exact h4.rd hr (fun a ha => hrf a ha h0)
  refine (flies_any h1 h7 h8 h9 (hq 0 (by decide)) (hq 1 (by decide)) (hq 2 (by decide)) hr1 hn hw ⟨by rw [h2.now]; exact h3.now, by rw [h2.now]; exact hnow⟩ ⟨by rw [h2.number]; exact h3.number, by rw [h2.number]; exact hnb⟩ (h2.num h3) (by rw [h2.len]; exact hl)).mono ?_
  rintro e w' ⟨rfl, v', l', g, g1, g2, g3, hp, he, hc, hf⟩
  have hlt : ∀ {p : Addr} {u : Value}, wx.cell? p = some u → ¬ m1.foot E p.block → w'.cell? p = some u := fun hcell hn => hc.cell hcell hn
  refine ⟨rfl, ⟨_, he, h2.fly h3 g1 g2 g3 hp, h3.fly hd hw.1 x, h4.trans hc fun k hk hT => ?_, fun k hk => ?_⟩, hc.bk h6 (hq 3 (by decide)), hlt h7 (hq 0 (by decide)), hlt h8 (hq 1 (by decide)), hlt h9 (hq 2 (by decide)), Nat.le_trans h10 hc.size⟩
  · rcases h5 k hT with e | e
    · exact e
    · omega
  · rcases hf k hk with e | e
    · exact h5 k e
    · exact .inr (Nat.le_trans h10 e)
theorem cells_fated {m : EM} {L b off : Nat} (hL : m.fates.length = L + 1) (hF : m.FA = some ⟨b, off, none⟩) : m.cells.set 0 (.slice (if m.fc = 1 then some ⟨b, off, none⟩ else some ⟨b, off + 4, none⟩) L (m.fc - 1)) = m.fated.cells := by
  have h1 : m.fated.FA = if m.fc = 1 then some ⟨b, off, none⟩ else some ⟨b, off + 4, none⟩ := by
    unfold EM.fated
    show (if m.fc = 1 then m.FA else m.FA.map (fun a => a.add 4)) = _
    rw [hF]
    split
    · rfl
    · simp [Addr.add]
  have h2 : m.fated.fates.length = L := by show m.fates.tail.length = L; rw [List.length_tail, hL]; rfl
  show _ = [Value.slice m.fated.FA m.fated.fates.length m.fated.fc, _, _, _, _, _, _, _]
  rw [h1, h2]
  rfl
theorem sns_take {w w4 : World} {base E : Nat} {m : EM} {s : ES} {f : FT} {r : List FT} {d : Int} {A : Option Addr} {n c : Nat} {v : Value} (h2 : Ab m s) (h3 : s.ok) (h4 : Em w4 base E m) (hb : Below w.heap.size w w4) (hf : m.fates = f :: r) (hq : Bk w4 (w.heap.size + 3) 53 FT.zero.cells)
    (k1 : w4.cell? ⟨w.heap.size, 0, none⟩ = some (.pointer (some ⟨E, 0, none⟩))) (k2 : w4.cell? ⟨w.heap.size + 1, 0, none⟩ = some (.int .i64 d)) (k3 : w4.cell? ⟨w.heap.size + 2, 0, none⟩ = some (.slice A n c)) (hs : w4.heap.size = w.heap.size + 4)
    (hfm : ∀ k, m.foot E k → k < w.heap.size) (hv : m.cells.set 0 v = m.fated.cells) :
    SnS w (((((w4.setCell ⟨w.heap.size + 3, 0, none⟩ (.bool f.lost)).setCell ⟨w.heap.size + 3, 1, none⟩ (.int .i64 f.late)).setCell ⟨w.heap.size + 3, 2, none⟩ (.bool f.twice)).setCell ⟨w.heap.size + 3, 3, none⟩ (.int .i64 f.again)).setCell ⟨E, 0, none⟩ v).drew base E m { s with fates := s.fates.tail } (s.fates.headD FT.zero) d A n c := by
  have hE : E < w.heap.size := hfm E EM.fE
  have hsf : s.fates = f :: r := by rw [← h2.fates]; exact hf
  obtain ⟨w5, hw5⟩ : ∃ w5, w5 = (((w4.setCell ⟨w.heap.size + 3, 0, none⟩ (.bool f.lost)).setCell ⟨w.heap.size + 3, 1, none⟩ (.int .i64 f.late)).setCell ⟨w.heap.size + 3, 2, none⟩ (.bool f.twice)).setCell ⟨w.heap.size + 3, 3, none⟩ (.int .i64 f.again) := ⟨_, rfl⟩
  have hc5 : Chg (fun k => k = w.heap.size + 3) w4 w5 := by
    rw [hw5]
    exact ((((Chg.refl (fun k => k = w.heap.size + 3) w4).set_ (show w.heap.size + 3 = w.heap.size + 3 from rfl) 0 _).set_ (show w.heap.size + 3 = w.heap.size + 3 from rfl) 1 _).set_ (show w.heap.size + 3 = w.heap.size + 3 from rfl) 2 _).set_ (show w.heap.size + 3 = w.heap.size + 3 from rfl) 3 _
  have hq5 : Bk w5 (w.heap.size + 3) 53 f.cells := by rw [hw5]; exact (((hq.set_ 0 _).set_ 1 _).set_ 2 _).set_ 3 _
  have hs5 : w5.heap.size = w.heap.size + 4 := by rw [hw5]; simp [World.setCell, hs]
  rw [← hw5]
  have hfoot : ∀ k, m.foot E k → k ≠ w.heap.size + 3 := fun k hk e => by have := hfm k hk; omega
  have h5 : Em w5 base E m := h4.other hc5 hfoot
  have hcE : Chg (fun k => k = E) w5 (w5.setCell ⟨E, 0, none⟩ v).drew := ((Chg.refl (fun k => k = E) w5).set_ (show E = E from rfl) 0 v).drew
  have hbE : Bk (w5.setCell ⟨E, 0, none⟩ v).drew E 66 m.fated.cells := by rw [← hv]; exact (h5.e.set_ 0 v).drew
  obtain ⟨h6, h7⟩ := h5.fated hf hcE hbE
  have hk : ∀ {p : Addr} {u : Value}, w4.cell? p = some u → p.block ≠ w.heap.size + 3 → p.block ≠ E → (w5.setCell ⟨E, 0, none⟩ v).drew.cell? p = some u := fun hcl h8 h9 => hcE.cell (hc5.cell hcl h8) h9
  refine ⟨⟨m.fated, h6, h2.fated, h3.tail, ?_, fun k hk => .inl (h7 k hk)⟩, hcE.bk (by rw [hsf]; exact hq5) (by omega), hk k1 (by show w.heap.size ≠ w.heap.size + 3; omega) (by show w.heap.size ≠ E; omega), hk k2 (by show w.heap.size + 1 ≠ w.heap.size + 3; omega) (by show w.heap.size + 1 ≠ E; omega), hk k3 (by show w.heap.size + 2 ≠ w.heap.size + 3; omega) (by show w.heap.size + 2 ≠ E; omega), ?_⟩
  · refine ((Chg.of_below (S := m.foot E) hb).trans (hc5.mono (T := fun k => m.foot E k ∨ w.heap.size ≤ k) fun k _ hk => .inr (by omega)) (fun k hk hT => hT.elim id (fun e => by omega))).trans (hcE.mono (T := m.foot E) fun k _ hk => by rw [hk]; exact EM.fE) fun _ _ x => x
  · show w.heap.size + 4 ≤ (w5.setCell ⟨E, 0, none⟩ v).heap.size
    simp [World.setCell, hs5]
set_option maxRecDepth 100000 in
set_option maxHeartbeats 6400000 in
theorem send_any {w : World} {base E : Nat} {s : ES} {F : Nat → Prop} (h : Ew w base E s F) {A : Option Addr} {n c : Nat} {x : List UInt8} {d : Int} (hr : Rd w A n (bys x)) (hrf : ∀ a, A = some a → 0 < n → ¬ F a.block) (hn : n ≤ 70000) (hd : d = 0 ∨ d = 1) (hnow : s.now ≤ 1000000) (hnb : s.number ≤ 900000) (hl : s.sky.length ≤ 900000) (hls : s.lost ≤ 1000000000) :
    Calls Try.prog 13 #[.pointer (some ⟨E, 0, none⟩), .int .i64 d, .slice A n c] w fun e w' => e = .returned (.int .i64 0) ∧ Eto w base E (s.send d x) F w' := by
  obtain ⟨m, h1, h2, h3, h4⟩ := h
  have hfm : ∀ k, m.foot E k → k < w.heap.size := fun k hk => (h1.foot_base hk).2
  have H := Lib.hid (And.intro h1 (And.intro h2 (And.intro h3 (And.intro h4 (And.intro hfm (And.intro hr (fun a ha h0 (hh : m.foot E a.block) => hrf a ha h0 (h4 _ hh))))))))
  have hE := Lib.hid (show isEnd d = true from by rcases hd with rfl | rfl <;> rfl)
  have hn' : (n : Int) ≤ 70000 := by omega
  have HB := Lib.hid (And.intro hd (And.intro hnow (And.intro hnb (And.intro hl hls))))
  obtain ⟨w3, hw3⟩ : ∃ w3, w3 = ((w.alloc (.cells #[.pointer (some ⟨E, 0, none⟩)] 25)).alloc (.cells #[.int .i64 d] 3)).alloc (.cells #[.slice A n c] 32) := ⟨_, rfl⟩
  have hb3 : Below w.heap.size w w3 := by rw [hw3]; exact (((Below.refl _ _).alloc (Nat.le_refl _) _).alloc (by simp) _).alloc (by simp; omega) _
  have hs3 : w3.heap.size = w.heap.size + 3 := by rw [hw3]; simp
  have q1 : Bk w3 w.heap.size 25 [.pointer (some ⟨E, 0, none⟩)] := by rw [hw3]; exact ((Bk.newA w _ #[.pointer (some ⟨E, 0, none⟩)]).alloc _).alloc _
  have q2 : Bk w3 (w.heap.size + 1) 3 [.int .i64 d] := by rw [hw3]; exact (Bk.new2 w _ _ #[.int .i64 d]).alloc _
  have q3 : Bk w3 (w.heap.size + 2) 32 [.slice A n c] := by
    rw [hw3]
    have := Bk.newA ((w.alloc (.cells #[.pointer (some ⟨E, 0, none⟩)] 25)).alloc (.cells #[.int .i64 d] 3)) 32 #[.slice A n c]
    simpa using this
  have H3 := Lib.hid (And.intro (h1.below hb3) (And.intro hb3 (And.intro q1 (And.intro q2 (And.intro q3 hs3)))))
  clear h1 h2 h3 h4 hfm hr hrf hd hnow hnb hl hls hb3 q1 q2 q3 hs3
  go_enter Try.func13, Try.ntmps13
  go_upto_region 1 with fail
  rw [← hw3]
  clear hw3
  have k1 := H3.out.2.2.1.cell 0
  have k2 := H3.out.2.2.2.1.cell 0
  have k3 := H3.out.2.2.2.2.1.cell 0
  simp only [List.getElem?_cons_zero] at k1 k2 k3
  have hs3 := H3.out.2.2.2.2.2
  have d1 : decide ((n : Int) > 70000) = false := by simp; omega
  have d2 : decide (70000 < (n : Int)) = false := by simp; omega
  have d3 : decide (70000 < n) = false := by simp; omega
  go_wp2_with fail
  refine (enone_em H3.out.1).mono ?_
  rintro e w3 ⟨rfl, rfl⟩
  go_wp2_with fail
  refine (end_any d).mono ?_
  rintro e w3 ⟨rfl, rfl⟩
  rw [hE.out]
  go_upto_region 8 with fail
  obtain ⟨w4, hw4⟩ : ∃ w4, w4 = w3.alloc (.cells #[.bool false, .int .i64 0, .bool false, .int .i64 0] 53) := ⟨_, rfl⟩
  rw [← hw4]
  have hb4 : Below w3.heap.size w3 w4 := by rw [hw4]; exact (Below.refl _ _).alloc (Nat.le_refl _) _
  have q4 : Bk w4 (w.heap.size + 3) 53 FT.zero.cells := by rw [hw4, ← hs3]; exact Bk.newA w3 _ _
  have hs4 : w4.heap.size = w.heap.size + 4 := by rw [hw4, World.size_alloc, hs3]
  have H4 := Lib.hid (And.intro (H3.out.1.below hb4) (And.intro (below_base H3.out.2.1 hb4 H3.out.2.1.size) (And.intro q4 (And.intro (cell_below hb4 k1) (And.intro (cell_below hb4 k2) (And.intro (cell_below hb4 k3) hs4))))))
  clear hw4 hb4 q4 hs4 k1 k2 k3 hs3 d1 d2 d3
  obtain ⟨k0, _⟩ := H4.out.1.cell
  have k1 := H4.out.2.2.2.1
  have k2 := H4.out.2.2.2.2.1
  have k3 := H4.out.2.2.2.2.2.1
  go_upto_if 25 with fail
  go_cut [] (fun wx => SnS w wx base E m { s with fates := s.fates.tail } (s.fates.headD FT.zero) d A n c)
  case first =>
    by_cases hz : m.fates.length = 0
    · have d1 : decide (0 < m.fates.length) = false := decide_eq_false (by omega)
      have hsn : SnS w w4 base E m { s with fates := s.fates.tail } (s.fates.headD FT.zero) d A n c := by
        have e0 : m.fates = [] := List.eq_nil_of_length_eq_zero hz
        have e1 : s.fates = [] := by rw [← H.out.2.1.fates]; exact e0
        refine ⟨⟨m, H4.out.1, { H.out.2.1 with fates := by rw [e0, e1]; rfl }, H.out.2.2.1.tail, Chg.of_below H4.out.2.1, fun k hk => .inl hk⟩, ?_, k1, k2, k3, by rw [H4.out.2.2.2.2.2.2]; exact Nat.le_refl _⟩
        rw [e1]; exact H4.out.2.2.1
      have HS := Lib.hid hsn
      rw [hz]
      clear hz hsn d1
      go_wp2_with fail
      go_meet
      exact HS.out
    · obtain ⟨L, hL⟩ : ∃ L, m.fates.length = L + 1 := ⟨m.fates.length - 1, by omega⟩
      obtain ⟨f, r, hfr⟩ : ∃ f r, m.fates = f :: r := by
        cases hm : m.fates with
        | nil => rw [hm] at hz; exact absurd rfl hz
        | cons f r => exact ⟨f, r, rfl⟩
      obtain ⟨b, off, hFA, hbl, hcc⟩ := H4.out.1.f.form (by omega)
      rw [hfr] at hcc
      have y0 := hcc 0 (.bool f.lost) rfl
      have y1 := hcc 1 (.int .i64 f.late) rfl
      have y2 := hcc 2 (.bool f.twice) rfl
      have y3 := hcc 3 (.int .i64 f.again) rfl
      simp only [Nat.add_zero] at y0
      obtain ⟨i0, hi0, hz0, hz1, hz2⟩ := info_parts fate_info
      have hsl := fun w => run_fromS (P := Try.prog) (t := 40) Try.underlying40 hi0 hz1 m.FA (L + 1) m.fc 1 .i64 (by omega) (by rw [← hL]; exact H4.out.1.fl.1) w
      obtain ⟨A', hA'⟩ : ∃ A', (if m.fc = 1 then m.FA else m.FA.map (fun a => a.add (1 * 4))) = A' := ⟨_, rfl⟩
      simp only [hA'] at hsl
      have hAf : A' = m.fated.FA := by rw [← hA']; rfl
      rw [hFA] at hsl k0
      rw [hL] at k0
      have fr0 := H4.out.1.frozen 0
      have z0 := H4.out.2.2.1.cell 0
      have z1 := H4.out.2.2.1.cell 1
      have z2 := H4.out.2.2.1.cell 2
      have z3 := H4.out.2.2.1.cell 3
      simp only [FT.cells, FT.zero, List.getElem?_cons_zero, List.getElem?_cons_succ] at z0 z1 z2 z3
      have v0 := H4.out.2.2.1.frozen 0
      have v1 := H4.out.2.2.1.frozen 1
      have v2 := H4.out.2.2.1.frozen 2
      have v3 := H4.out.2.2.1.frozen 3
      have hEl := H4.out.1.e
      have nE : ¬ w.heap.size + 3 = E := fun e => by have := (H.out.1.e).lt; omega
      have nE' : ¬ E = w.heap.size + 3 := fun e => nE e.symm
      have nb : ¬ w.heap.size + 3 = b := fun e => by have := (H.out.1.foot_base (EM.fF (a := ⟨b, off, none⟩) hFA)).2; simp at this; omega
      have nb' : ¬ b = w.heap.size + 3 := fun e => nb e.symm
      have nbE : ¬ b = E := fun e => (H4.out.1.ft ⟨b, off, none⟩ hFA).1.ne ⟨_, H4.out.1.e⟩ (by decide) e
      have nbE' : ¬ E = b := fun e => nbE e.symm
      have d1 : decide (0 < L + 1) = true := by simp
      have i1 : (0 : Int) < (L : Int) + 1 := by omega
      have HF := Lib.hid (And.intro hfr (And.intro hL (And.intro hAf hFA)))
      rw [hFA, hL]
      clear hz hfr hcc hi0 hz0 hz1 hz2 hA' hAf hEl hL hFA hbl
      go_wp2_with fail
      go_region
      all_goals go_wp2_with fail
      all_goals go_meet
      · exact sns_take H.out.2.1 H.out.2.2.1 H4.out.1 H4.out.2.1 HF.out.1 H4.out.2.2.1 k1 k2 k3 H4.out.2.2.2.2.2.2 H.out.2.2.2.2.1 (v := .slice (some ⟨b, off, none⟩) L 0) (by rw [← cells_fated HF.out.2.1 HF.out.2.2.2]; rw [if_pos h, h])
      · exact sns_take H.out.2.1 H.out.2.2.1 H4.out.1 H4.out.2.1 HF.out.1 H4.out.2.2.1 k1 k2 k3 H4.out.2.2.2.2.2.2 H.out.2.2.2.2.1 (v := .slice (some ⟨b, off + 4, none⟩) L (m.fc - 1)) (by rw [← cells_fated HF.out.2.1 HF.out.2.2.2]; rw [if_neg h])
  case rest =>
    obtain ⟨f, hf⟩ : ∃ f, s.fates.headD FT.zero = f := ⟨_, rfl⟩
    have hlt := H.out.2.2.1.head
    rw [hf] at hcut hlt
    clear k0 k1 k2 k3
    generalize wc = w5 at hcut ⊢
    have HC := Lib.hid hcut
    have HFh := Lib.hid (And.intro hf hlt)
    clear hcut hf hlt
    obtain ⟨_, q, k1, k2, k3, hs5⟩ := HC.out
    have z0 := q.cell 0
    have z1 := q.cell 1
    have z2 := q.cell 2
    have z3 := q.cell 3
    simp only [FT.cells, List.getElem?_cons_zero, List.getElem?_cons_succ] at z0 z1 z2 z3
    clear q hs5
    cases hl : f.lost with
    | true =>
      obtain ⟨m1, g1, g2, g3, g4, g5⟩ := HC.out.1
      obtain ⟨_, _, _, _, _, _, _, c7⟩ := g1.cell
      have f7 := g1.frozen 7
      have hm1 : m1.lost = s.lost := g2.lost
      have hlo : 0 ≤ m1.lost := by rw [hm1]; exact H.out.2.2.1.lost
      have hlo1 : m1.lost ≤ 1000000000 := by rw [hm1]; exact HB.out.2.2.2.2
      have HM := Lib.hid (And.intro g1 (And.intro g2 (And.intro g3 (And.intro g4 g5))))
      have HL := Lib.hid hl
      rw [hl] at z0
      clear g1 g2 g3 g4 g5 hm1 hl
      go_wp2
      go_ret
      have hc : Chg (fun k => k = E) w5 (w5.setCell ⟨E, 7, none⟩ (.int .i64 (m1.lost + 1))) := (Chg.refl (fun k => k = E) w5).set_ (show E = E from rfl) _ _
      have hnew := HM.out.1.nums (a := m1.now) (b := m1.number) (c := m1.lost + 1) hc (HM.out.1.e.set_ 7 _)
      have hsend : s.send d x = { ({ s with fates := s.fates.tail } : ES) with lost := s.lost + 1 } := by unfold ES.send; simp only [HFh.out.1]; rw [HL.out]; rfl
      refine ⟨rfl, ?_⟩
      rw [hsend]
      refine eto_of H.out.2.2.2.1 hnew { HM.out.2.1 with lost := by show m1.lost + 1 = s.lost + 1; rw [HM.out.2.1.lost] } H.out.2.2.1.tail.gone (HM.out.2.2.2.1.trans (hc.mono fun k _ hk => by rw [hk]; exact EM.fE) fun _ _ x => x) fun k hk => (HM.out.2.2.2.2 k hk).elim .inl fun e => .inr (by omega)
    | false =>
      have HL := Lib.hid hl
      rw [hl] at z0
      clear hl
      go_wp2_with fail
      refine (sns_fly H.out.2.2.2.2.1 HC.out H.out.2.2.2.2.2.1 H.out.2.2.2.2.2.2 hn HB.out.1 HFh.out.2.1 HB.out.2.1 (by have := HB.out.2.2.1; show s.number ≤ 1000000; omega) (by have := HB.out.2.2.2.1; show s.sky.length ≤ 1000000; omega)).mono ?_
      rintro e w6 ⟨rfl, hsn⟩
      have HC6 := Lib.hid hsn
      clear hsn k1 k2 k3 z0 z1 z2 z3
      obtain ⟨_, q, k1, k2, k3, hs5⟩ := HC6.out
      have z0 := q.cell 0
      have z1 := q.cell 1
      have z2 := q.cell 2
      have z3 := q.cell 3
      simp only [FT.cells, List.getElem?_cons_zero, List.getElem?_cons_succ] at z0 z1 z2 z3
      clear q hs5
      cases ht : f.twice with
      | true =>
        have HT := Lib.hid ht
        rw [ht] at z2
        clear ht
        go_wp2_with fail
        refine (sns_fly H.out.2.2.2.2.1 HC6.out H.out.2.2.2.2.2.1 H.out.2.2.2.2.2.2 hn HB.out.1 HFh.out.2.2 HB.out.2.1 (by have := HB.out.2.2.1; show s.number + 1 ≤ 1000000; omega) (by have := HB.out.2.2.2.1; show (s.sky ++ [_]).length ≤ 1000000; rw [List.length_append]; show s.sky.length + 1 ≤ _; omega)).mono ?_
        rintro e w7 ⟨rfl, hsn⟩
        have HC7 := Lib.hid hsn
        clear hsn k1 k2 k3 z0 z1 z2 z3
        go_wp2
        go_ret
        have hsend : s.send d x = (({ s with fates := s.fates.tail } : ES).fly d f.late x).fly d f.again x := by unfold ES.send; simp only [HFh.out.1]; rw [HL.out, HT.out]; rfl
        obtain ⟨⟨m1, g1, g2, g3, g4, g5⟩, _⟩ := HC7.out
        refine ⟨rfl, ?_⟩
        rw [hsend]
        exact eto_of H.out.2.2.2.1 g1 g2 g3 g4 fun k hk => (g5 k hk).elim .inl fun e => .inr (by omega)
      | false =>
        have HT := Lib.hid ht
        rw [ht] at z2
        clear ht
        go_wp2
        go_ret
        have hsend : s.send d x = ({ s with fates := s.fates.tail } : ES).fly d f.late x := by unfold ES.send; simp only [HFh.out.1]; rw [HL.out, HT.out]; rfl
        obtain ⟨⟨m1, g1, g2, g3, g4, g5⟩, _⟩ := HC6.out
        refine ⟨rfl, ?_⟩
        rw [hsend]
        exact eto_of H.out.2.2.2.1 g1 g2 g3 g4 fun k hk => (g5 k hk).elim .inl fun e => .inr (by omega)
end Go.Proofs.Ytknpghemogfenaa
