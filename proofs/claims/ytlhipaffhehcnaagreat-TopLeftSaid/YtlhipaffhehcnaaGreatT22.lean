/- TopLeft: ratio: Make, Pair. TopLeft: ratio: Pair. TopLeft: ratio: Check, of a fraction in lowest terms. TopLeft: ratio: sum. -/
import Derived.Test.YtlhipaffhehcnaaGreatT21
import Derived.Laws.ResultCell
namespace Go.Proofs.YtlhipaffhehcnaaGreat
open Go.RowKit
set_option linter.unusedVariables false
theorem ret_rat2 {fn : Func} {p q : Tmp} {tmps : Array Value} {w : World} {g : Nat} {b u t : Value} (h : fn.results = #[.cell p 40, .tmp q]) (hp : tmps.getD p undef = .pointer (some ⟨g, 0, none⟩)) (hb : Bk w g 40 [b, u, t]) : (results fn tmps).run Tryz.prog w = .ok (.tuple #[.agg #[b, u, t], tmps.getD q undef]) w := by
  rw [results_cell_tmp h, hp]
  have := run_loadVar_row (P := Tryz.prog) w g 40 40 #[b, u, t] (0, 0) _ hb Tryz.underlying40 rfl (by kernel_rfl)
  simp [asAddr, this, Result.andThen]
set_option maxRecDepth 100000 in
set_option maxHeartbeats 4000000 in
/-- ratio.Make -/
theorem rMake_any {w : World} {va vb : Value} {z : Int} {d : Nat} (ha : WV w va z) (hb : NV w vb d) (hd : 0 < d) (h1 : z.natAbs < 9223372036854775808) (h2 : d < 9223372036854775808) : Calls Tryz.prog 49 #[va, vb] w fun e w' => ∃ v, e = .returned (.tuple #[v, .int .i64 0]) ∧ RV w' v (sg (decide (z < 0)) (z.natAbs / qg z d)) (d / qg z d) ∧ Below w.heap.size w w' := by
  have HD := Lib.hid (And.intro ha (And.intro hb (And.intro hd (And.intro h1 h2))))
  obtain ⟨ua, rfl, hna⟩ := ha
  obtain ⟨A, c, rfl, _⟩ := hna
  obtain ⟨B, c', rfl, _⟩ := hb
  generalize hsa : decide (z < 0) = sa at *
  generalize ln z.natAbs = x at HD ⊢
  generalize ln d = y at HD ⊢
  obtain ⟨w1, hw1⟩ : ∃ w1, (w.alloc (.cells #[.bool sa, .slice A x c] 38)).alloc (.cells #[.bool false, .slice none 0 0, .slice none 0 0] 40) = w1 := ⟨_, rfl⟩
  have hB := BxR.new w (.bool sa) (.slice A x c)
  rw [hw1] at hB
  obtain ⟨g, hg⟩ : ∃ g, w.heap.size = g := ⟨_, rfl⟩
  rw [hg] at hB
  have H1 := Lib.hid hB
  obtain ⟨c0, c1⟩ := hB.cells
  have HC := Lib.hid (sCheck_any (HD.out.1.below hB.l))
  obtain ⟨L, hL⟩ : ∃ L : Nat, Lib.bitLen d = L := ⟨_, rfl⟩
  have hL0 : ((L : Int) == 0) = false := by have := bitLen_pos hd; simp; omega
  have HL := Lib.hid hL
  have HS := Lib.hid hsa
  clear hd h1 h2 hB hL hsa
  go_enter Tryz.func49, Tryz.ntmps49
  go_wp2_with fail
  refine HC.out.mono ?_
  rintro e w2 ⟨rfl, hb2⟩
  have hB2 := H1.out.below hb2
  have H2 := Lib.hid hB2
  have HE := Lib.hid (lLen_any (HD.out.2.1.below hB2.l) HD.out.2.2.2.2)
  rw [HL.out] at HE
  clear c0 c1 hb2 hB2
  obtain ⟨c0, c1⟩ := H2.out.cells
  go_wp2_with fail
  refine HE.out.mono ?_
  rintro e w3 ⟨rfl, rfl⟩
  have HW := Lib.hid (lowest_any (HD.out.1.below H2.out.l) (HD.out.2.1.below H2.out.l) HD.out.2.2.1 HD.out.2.2.2.1 HD.out.2.2.2.2)
  rw [HS.out] at HW
  go_wp2_with fail
  refine HW.out.mono ?_
  rintro e w4 ⟨v, rfl, hv, hb4⟩
  have hv4 := Lib.hid hv
  obtain ⟨u4, t4, rfl, h4, h5⟩ := hv
  obtain ⟨A4, n4, rfl, _⟩ := h4
  obtain ⟨A5, n5, rfl, _⟩ := h5
  have H4 := Lib.hid (H2.out.below hb4)
  obtain ⟨r0, r1, r2, s0, s1, s2⟩ := cells_rat H4.out.r
  clear hb4 c0 c1
  go_wp2_with fail
  have HF := fin_rat H4.out.r hv4.out H4.out.l (by have := H4.out.g; omega)
  refine bodyPost_ret (ret_rat2 rfl rfl HF.1) rfl ?_
  exact ⟨_, rfl, HF.2⟩
end Go.Proofs.YtlhipaffhehcnaaGreat
namespace Go.Proofs.YtlhipaffhehcnaaGreat
open Go.RowKit
set_option linter.unusedVariables false
/-- What Pair reads and writes. -/
structure BxP (w0 W : World) (g g1 g2 : Nat) (x1 y1 x2 y2 : Value) : Prop where
  r : Bk W g 40 [.bool false, .slice none 0 0, .slice none 0 0]
  a : Bk W g1 38 [x1, y1]
  b : Bk W g2 38 [x2, y2]
  l : Below w0.heap.size w0 W
  g : w0.heap.size ≤ g ∧ g ≠ g1 ∧ g ≠ g2
theorem BxP.below {w0 W W' : World} {g g1 g2 : Nat} {x1 y1 x2 y2 : Value} (h : BxP w0 W g g1 g2 x1 y1 x2 y2) (hb : Below W.heap.size W W') : BxP w0 W' g g1 g2 x1 y1 x2 y2 :=
  ⟨h.r.belowS hb, h.a.belowS hb, h.b.belowS hb, below_base h.l hb h.l.size, h.g⟩
theorem BxP.cells {w0 W : World} {g g1 g2 : Nat} {x1 y1 x2 y2 : Value} (h : BxP w0 W g g1 g2 x1 y1 x2 y2) : W.cell? ⟨g1, 0, none⟩ = some x1 ∧ W.cell? ⟨g1, 1, none⟩ = some y1 ∧ W.cell? ⟨g2, 0, none⟩ = some x2 ∧ W.cell? ⟨g2, 1, none⟩ = some y2 := ⟨h.a.cell 0, h.a.cell 1, h.b.cell 0, h.b.cell 1⟩
theorem BxP.stored {w0 W : World} {g g1 g2 : Nat} {x1 y1 x2 y2 : Value} (h : BxP w0 W g g1 g2 x1 y1 x2 y2) (b u t : Value) : (((W.setCell ⟨g, 0, none⟩ b).setCell ⟨g, 1, none⟩ u).setCell ⟨g, 2, none⟩ t).cell? ⟨g1, 0, none⟩ = some x1 ∧ (((W.setCell ⟨g, 0, none⟩ b).setCell ⟨g, 1, none⟩ u).setCell ⟨g, 2, none⟩ t).cell? ⟨g1, 1, none⟩ = some y1 ∧ (((W.setCell ⟨g, 0, none⟩ b).setCell ⟨g, 1, none⟩ u).setCell ⟨g, 2, none⟩ t).cell? ⟨g2, 0, none⟩ = some x2 ∧ (((W.setCell ⟨g, 0, none⟩ b).setCell ⟨g, 1, none⟩ u).setCell ⟨g, 2, none⟩ t).cell? ⟨g2, 1, none⟩ = some y2 := by
  have ha := ((h.a.far (p := ⟨g, 0, none⟩) (fun e => h.g.2.1 e.symm) b).far (p := ⟨g, 1, none⟩) (fun e => h.g.2.1 e.symm) u).far (p := ⟨g, 2, none⟩) (fun e => h.g.2.1 e.symm) t
  have hb := ((h.b.far (p := ⟨g, 0, none⟩) (fun e => h.g.2.2 e.symm) b).far (p := ⟨g, 1, none⟩) (fun e => h.g.2.2 e.symm) u).far (p := ⟨g, 2, none⟩) (fun e => h.g.2.2 e.symm) t
  exact ⟨ha.cell 0, ha.cell 1, hb.cell 0, hb.cell 1⟩
theorem NV.alloc27 {w : World} {v : Value} {n : Nat} (h : NV w v n) (o : Obj) : NV (w.alloc o) v n := h.below ((Below.refl _ _).alloc (Nat.le_refl _) _)
set_option maxRecDepth 100000 in
set_option maxHeartbeats 4000000 in
/-- ratio.Pair, of no numbers below 0. -/
theorem pair_any {w : World} {n d : Nat} (hd : 0 < d) (h1 : n < 4294967296) (h2 : d < 4294967296) : Calls Tryz.prog 23 #[.int .i64 (n : Nat), .int .i64 (d : Nat)] w fun e w' => ∃ v, e = .returned (.tuple #[v, .int .i64 0]) ∧ RV w' v ((n / Nat.gcd n d : Nat) : Int) (d / Nat.gcd n d) ∧ Below w.heap.size w w' := by
  have hb0 : Below w.heap.size w (w.alloc (.cells #[.bool false, .slice none 0 0, .slice none 0 0] 40)) := (Below.refl _ _).alloc (Nat.le_refl _) _
  have k0 := Bk.newA w 40 #[.bool false, .slice none 0 0, .slice none 0 0]
  have H0 := Lib.hid (And.intro hb0 k0)
  have HD := Lib.hid (And.intro hd (And.intro h1 h2))
  clear hd h1 h2 hb0 k0
  go_enter Tryz.func23, Tryz.ntmps23
  go_wp2_with fail
  refine (sOf_any HD.out.2.2).mono ?_
  rintro e w1 ⟨v1, rfl, hv1, hb1⟩
  obtain ⟨u1, rfl, hn1⟩ := hv1
  rw [decide_eq_false (by omega)]
  rw [Int.natAbs_natCast] at hn1
  have hbA : Below w.heap.size w (w1.alloc (.cells #[.bool false, u1] 38)) := (below_base H0.out.1 hb1 H0.out.1.size).alloc (below_base H0.out.1 hb1 H0.out.1.size).size _
  have H1 := Lib.hid (And.intro hbA (And.intro ((H0.out.2.belowS hb1).alloc (.cells #[.bool false, u1] 38)) (And.intro (Bk.newA w1 38 #[.bool false, u1]) (And.intro (NV.alloc27 hn1 (.cells #[.bool false, u1] 38)) (And.intro H0.out.2.lt hb1.size)))))
  obtain ⟨g1, hg1⟩ : ∃ g1, w1.heap.size = g1 := ⟨_, rfl⟩
  obtain ⟨A, c, rfl, _⟩ := hn1
  generalize ln d = x at H1 ⊢
  clear hb1 hbA
  go_wp2_with fail
  rw [hg1] at H1
  refine (sOf_any HD.out.2.1).mono ?_
  rintro e w2 ⟨v2, rfl, hv2, hb2⟩
  obtain ⟨u2, rfl, hn2⟩ := hv2
  rw [decide_eq_false (by omega)]
  rw [Int.natAbs_natCast] at hn2
  have hl2 : w.heap.size < w2.heap.size ∧ g1 < w2.heap.size := by
    have := hb2.size
    have h3 := H1.out.2.2.1.lt
    have h4 := H1.out.2.1.lt
    exact ⟨by omega, by omega⟩
  have hl1 : w.heap.size ≠ g1 := by
    intro e
    have h3 := H1.out.2.1
    rw [e] at h3
    have h4 := H1.out.2.2.1
    unfold Bk at h3 h4
    rw [h3] at h4
    injection h4 with h4
    injection h4 with h4 h5 h6
    cases h5
  have hbB := (below_base H1.out.1 hb2 H1.out.1.size).alloc (below_base H1.out.1 hb2 H1.out.1.size).size (.cells #[.bool false, u2] 38)
  have hB : BxP w (w2.alloc (.cells #[.bool false, u2] 38)).drew w.heap.size g1 w2.heap.size (.bool false) (.slice A x c) (.bool false) u2 :=
    ⟨(H1.out.2.1.belowS hb2).alloc _, (H1.out.2.2.1.belowS hb2).alloc _, Bk.newA w2 38 #[.bool false, u2], hbB.drew, Nat.le_refl _, hl1, Nat.ne_of_lt hl2.1⟩
  have hnn : NV (w2.alloc (.cells #[.bool false, u2] 38)).drew u2 n := (NV.alloc27 hn2 _).below (Below.refl _ _).drew
  have hnd : NV (w2.alloc (.cells #[.bool false, u2] 38)).drew (.slice A x c) d := (NV.alloc27 (H1.out.2.2.2.1.below hb2) _).below (Below.refl _ _).drew
  obtain ⟨g2, hg2⟩ : ∃ g2, w2.heap.size = g2 := ⟨_, rfl⟩
  obtain ⟨B, c', rfl, _⟩ := hn2
  generalize ln n = y at hB hnn hnd hbB ⊢
  rw [hg2] at hB
  have H2 := Lib.hid hB
  have HN := Lib.hid (And.intro hnd (sMake_any false hnn))
  clear hb2 hl2 hl1 hbB hnn hnd hB
  go_wp2_with fail
  generalize w2.alloc (.cells #[.bool false, .slice B y c'] 38) = w3 at H2 HN ⊢
  have hsn : (sg false n).natAbs < 9223372036854775808 := by
    have := HD.out.2.1
    show ((n : Nat) : Int).natAbs < _
    rw [Int.natAbs_natCast]; omega
  have hdn : d < 9223372036854775808 := by have := HD.out.2.2; omega
  have HM0 := Lib.hid (fun (w4 : World) (v : Value) (hb : Below w3.drew.heap.size w3.drew w4) (hv : WV w4 v (sg false n)) => rMake_any hv (HN.out.1.below hb) HD.out.1 hsn hdn)
  go_region_held3 (fun w' => w'.cell? ⟨g1, 0, none⟩ = some (.bool false) ∧ w'.cell? ⟨g1, 1, none⟩ = some (.slice A x c) ∧ w'.cell? ⟨g2, 0, none⟩ = some (.bool false) ∧ w'.cell? ⟨g2, 1, none⟩ = some (.slice B y c'))
    (first | exact H5.out.stored _ _ _ | exact H5.out.cells | exact H4.out.cells | exact H2.out.cells | go_keep)
    (first
    | (go_at_call 50; refine HN.out.2.mono ?_; rintro e w4 ⟨v, rfl, hv, hb4⟩; have H4 := Lib.hid (H2.out.below hb4); have HM := Lib.hid (HM0.out _ _ hb4 hv); obtain ⟨u4, rfl, hu4⟩ := hv; obtain ⟨A4, n4, rfl, _⟩ := hu4; clear hb4)
    | (go_at_call 49; refine HM.out.mono ?_; rintro e w5 ⟨v5, rfl, hv5, hb5⟩; have H5 := Lib.hid (H4.out.below hb5); have hR := Lib.hid hv5; obtain ⟨u5, t5, rfl, h5, h6⟩ := hv5; obtain ⟨A5, n5, rfl, _⟩ := h5; obtain ⟨A6, n6, rfl, _⟩ := h6; obtain ⟨r0, r1, r2, s0, s1, s2⟩ := cells_rat H5.out.r; clear hb5))
  go_wp2_with fail
  have HF := fin_rat H5.out.r hR.out H5.out.l H5.out.g.1
  refine bodyPost_ret (ret_rat2 rfl rfl HF.1) rfl ?_
  have e1 : qg (sg false n) d = Nat.gcd n d := by show Nat.gcd ((n : Nat) : Int).natAbs d = _; rw [Int.natAbs_natCast]
  have e2 : sg (decide (sg false n < 0)) ((sg false n).natAbs / qg (sg false n) d) = ((n / Nat.gcd n d : Nat) : Int) := by
    rw [e1]
    have e3 : sg false n = (n : Int) := rfl
    rw [e3, decide_eq_false (by omega), Int.natAbs_natCast]
    rfl
  exact ⟨_, rfl, by rw [← e2, ← e1]; exact HF.2.1, HF.2.2⟩
end Go.Proofs.YtlhipaffhehcnaaGreat
namespace Go.Proofs.YtlhipaffhehcnaaGreat
open Go.RowKit
set_option linter.unusedVariables false
set_option maxRecDepth 100000 in
set_option maxHeartbeats 4000000 in
/-- ratio.Check -/
theorem rCheck_any {w : World} {v : Value} {z : Int} {d : Nat} (h : RV w v z d) (hd : 0 < d) (hg : Nat.gcd z.natAbs d = 1) (h1 : z.natAbs < 9223372036854775808) (h2 : d < 9223372036854775808) : Calls Tryz.prog 56 #[v] w fun e w' => e = .returned (.int .i64 0) ∧ Below w.heap.size w w' := by
  obtain ⟨u, t, rfl, hn, ht⟩ := h
  have HN := Lib.hid (And.intro hn ht)
  obtain ⟨A, c, rfl, _⟩ := hn
  obtain ⟨B, c', rfl, _⟩ := ht
  have hw1 : WV w (.agg #[.bool (decide (z < 0)), .slice A (ln z.natAbs) c]) z := ⟨_, rfl, HN.out.1⟩
  obtain ⟨w1, hwe⟩ : ∃ w1, w.alloc (.cells #[.bool (decide (z < 0)), .slice A (ln z.natAbs) c, .slice B (ln d) c'] 40) = w1 := ⟨_, rfl⟩
  have hb1 : Below w.heap.size w w1 := by rw [← hwe]; exact (Below.refl _ _).alloc (Nat.le_refl _) _
  have k1 : Bk w1 w.heap.size 40 [.bool (decide (z < 0)), .slice A (ln z.natAbs) c, .slice B (ln d) c'] := by rw [← hwe]; exact Bk.newA w 40 #[.bool (decide (z < 0)), .slice A (ln z.natAbs) c, .slice B (ln d) c']
  have HW := Lib.hid (hw1.below hb1)
  have HK := Lib.hid (And.intro hb1 k1)
  have HE := Lib.hid (And.intro hd (And.intro hg (And.intro h1 h2)))
  rw [ln_pos hd] at *
  generalize decide (z < 0) = sa at *
  generalize ln z.natAbs = x at *
  obtain ⟨c0, c1, c2, _, _, _⟩ := cells_rat k1
  clear hw1 hb1 k1 hd hg h1 h2
  go_enter Tryz.func56, Tryz.ntmps56
  go_wp2_with fail
  refine (sCheck_any HW.out).mono ?_
  rintro e w2 ⟨rfl, hb2⟩
  have H2 := Lib.hid (below_base HK.out.1 hb2 HK.out.1.size)
  have k2 := HK.out.2.belowS hb2
  have HK2 := Lib.hid k2
  clear c0 c1 c2 hb2
  obtain ⟨c0, c1, c2, _, _, _⟩ := cells_rat k2
  clear k2
  go_wp2_with fail
  refine (lCheck_any (HN.out.2.below H2.out)).mono ?_
  rintro e w3 ⟨rfl, rfl⟩
  have HG := Lib.hid (gcd_any (HN.out.1.below H2.out) (HN.out.2.below H2.out) HE.out.2.2.1 HE.out.2.2.2)
  rw [HE.out.2.1] at HG
  go_wp2_with fail
  refine HG.out.mono ?_
  rintro e w4 ⟨q, rfl, hq, hb4⟩
  have H4 := Lib.hid (And.intro (below_base H2.out hb4 H2.out.size) hq)
  clear hq hb4 c0 c1 c2
  go_wp2_with fail
  refine one_any.mono ?_
  rintro e w5 ⟨o, rfl, ho, hb5⟩
  have H5 := Lib.hid (And.intro (below_base H4.out.1 hb5 H4.out.1.size) (lCmp_any (H4.out.2.below hb5) ho))
  clear ho hb5
  go_wp2_with fail
  refine H5.out.2.mono ?_
  rintro e w6 ⟨rfl, hb6⟩
  rw [show cmpN 1 1 = 0 from rfl]
  have H6 := Lib.hid (below_base H5.out.1 hb6 H5.out.1.size)
  clear hb6
  go_wp2_with fail
  go_ret
  exact ⟨rfl, H6.out⟩
end Go.Proofs.YtlhipaffhehcnaaGreat
namespace Go.Proofs.YtlhipaffhehcnaaGreat
open Go.RowKit
set_option linter.unusedVariables false
/-- Two fractions in boxes, and a box for what is told. -/
structure BxS (w0 W : World) (g : Nat) (x1 y1 z1 x2 y2 z2 : Value) : Prop where
  a : Bk W g 40 [x1, y1, z1]
  b : Bk W (g + 1) 40 [x2, y2, z2]
  r : Bk W (g + 1 + 1) 40 [.bool false, .slice none 0 0, .slice none 0 0]
  l : Below w0.heap.size w0 W
  g : g = w0.heap.size
theorem BxS.new (w : World) (x1 y1 z1 x2 y2 z2 : Value) : BxS w (((w.alloc (.cells #[x1, y1, z1] 40)).alloc (.cells #[x2, y2, z2] 40)).alloc (.cells #[.bool false, .slice none 0 0, .slice none 0 0] 40)) w.heap.size x1 y1 z1 x2 y2 z2 := by
  have h2 := (Bk.newA (w.alloc (.cells #[x1, y1, z1] 40)) 40 #[x2, y2, z2]).alloc (.cells #[.bool false, .slice none 0 0, .slice none 0 0] 40)
  have h3 := Bk.newA ((w.alloc (.cells #[x1, y1, z1] 40)).alloc (.cells #[x2, y2, z2] 40)) 40 #[.bool false, .slice none 0 0, .slice none 0 0]
  rw [World.size_alloc] at h2
  rw [World.size_alloc, World.size_alloc] at h3
  exact ⟨((Bk.newA w 40 #[x1, y1, z1]).alloc _).alloc _, h2, h3, (((Below.refl _ _).alloc (Nat.le_refl _) _).alloc (by simp) _).alloc (by simp; omega) _, rfl⟩
theorem BxS.below {w0 W W' : World} {g : Nat} {x1 y1 z1 x2 y2 z2 : Value} (h : BxS w0 W g x1 y1 z1 x2 y2 z2) (hb : Below W.heap.size W W') : BxS w0 W' g x1 y1 z1 x2 y2 z2 :=
  ⟨h.a.belowS hb, h.b.belowS hb, h.r.belowS hb, below_base h.l hb h.l.size, h.g⟩
def six (W : World) (g : Nat) (x1 y1 z1 x2 y2 z2 : Value) : Prop := W.cell? ⟨g, 0, none⟩ = some x1 ∧ W.cell? ⟨g, 1, none⟩ = some y1 ∧ W.cell? ⟨g, 2, none⟩ = some z1 ∧ W.cell? ⟨g + 1, 0, none⟩ = some x2 ∧ W.cell? ⟨g + 1, 1, none⟩ = some y2 ∧ W.cell? ⟨g + 1, 2, none⟩ = some z2
theorem BxS.cells {w0 W : World} {g : Nat} {x1 y1 z1 x2 y2 z2 : Value} (h : BxS w0 W g x1 y1 z1 x2 y2 z2) : six W g x1 y1 z1 x2 y2 z2 :=
  ⟨h.a.cell 0, h.a.cell 1, h.a.cell 2, h.b.cell 0, h.b.cell 1, h.b.cell 2⟩
theorem BxS.cellz {w0 W : World} {g : Nat} {x1 y1 z1 x2 y2 z2 : Value} (h : BxS w0 W g x1 y1 z1 x2 y2 z2) : W.cell? ⟨g, 0, none⟩ = some x1 ∧ W.cell? ⟨g, 1, none⟩ = some y1 ∧ W.cell? ⟨g, 2, none⟩ = some z1 ∧ W.cell? ⟨g + 1, 0, none⟩ = some x2 ∧ W.cell? ⟨g + 1, 1, none⟩ = some y2 ∧ W.cell? ⟨g + 1, 2, none⟩ = some z2 := h.cells
theorem BxS.stored {w0 W : World} {g : Nat} {x1 y1 z1 x2 y2 z2 : Value} (h : BxS w0 W g x1 y1 z1 x2 y2 z2) (b u t : Value) : six (((W.setCell ⟨g + 1 + 1, 0, none⟩ b).setCell ⟨g + 1 + 1, 1, none⟩ u).setCell ⟨g + 1 + 1, 2, none⟩ t) g x1 y1 z1 x2 y2 z2 := by
  have ha := ((h.a.far (p := ⟨g + 1 + 1, 0, none⟩) (by show g ≠ g + 1 + 1; omega) b).far (p := ⟨g + 1 + 1, 1, none⟩) (by show g ≠ g + 1 + 1; omega) u).far (p := ⟨g + 1 + 1, 2, none⟩) (by show g ≠ g + 1 + 1; omega) t
  have hb := ((h.b.far (p := ⟨g + 1 + 1, 0, none⟩) (by show g + 1 ≠ g + 1 + 1; omega) b).far (p := ⟨g + 1 + 1, 1, none⟩) (by show g + 1 ≠ g + 1 + 1; omega) u).far (p := ⟨g + 1 + 1, 2, none⟩) (by show g + 1 ≠ g + 1 + 1; omega) t
  exact ⟨ha.cell 0, ha.cell 1, ha.cell 2, hb.cell 0, hb.cell 1, hb.cell 2⟩
theorem BxS.allocd {w0 W : World} {g : Nat} {x1 y1 z1 x2 y2 z2 : Value} (h : BxS w0 W g x1 y1 z1 x2 y2 z2) (o : Obj) : BxS w0 (W.alloc o) g x1 y1 z1 x2 y2 z2 := h.below ((Below.refl _ _).alloc (Nat.le_refl _) _)
theorem BxS.allocD {w0 W : World} {g : Nat} {x1 y1 z1 x2 y2 z2 : Value} (h : BxS w0 W g x1 y1 z1 x2 y2 z2) (o : Obj) : BxS w0 (W.alloc o).drew g x1 y1 z1 x2 y2 z2 := (h.allocd o).below (Below.refl _ _).drew
theorem BxS.alloc_below {w0 W W' : World} {g : Nat} {x1 y1 z1 x2 y2 z2 : Value} {o : Obj} (h : BxS w0 W g x1 y1 z1 x2 y2 z2) (hb : Below (W.alloc o).heap.size (W.alloc o) W') : BxS w0 W' g x1 y1 z1 x2 y2 z2 := (h.allocd o).below hb
theorem WV.allocd {w : World} {v : Value} {z : Int} (h : WV w v z) (o : Obj) : WV (w.alloc o) v z := h.below ((Below.refl _ _).alloc (Nat.le_refl _) _)
theorem WV.alloc_below {w w' : World} {v : Value} {z : Int} {o : Obj} (h : WV w v z) (hb : Below (w.alloc o).heap.size (w.alloc o) w') : WV w' v z := (h.allocd o).below hb
theorem NV.alloc_below {w w' : World} {v : Value} {n : Nat} {o : Obj} (h : NV w v n) (hb : Below (w.alloc o).heap.size (w.alloc o) w') : NV w' v n := (h.below ((Below.refl _ _).alloc (Nat.le_refl _) _)).below hb
theorem Bk.ne_of_type {w : World} {g g' : Nat} {t t' : TypeId} {cs cs' : List Value} (h : Bk w g t cs) (h' : Bk w g' t' cs') (ht : t ≠ t') : g ≠ g' := by
  intro e
  subst e
  unfold Bk at h h'
  rw [h] at h'
  injection h' with h'
  injection h' with _ h1 _
  exact ht h1
theorem bk_after {w w5 w6 : World} {t : TypeId} {cs : Array Value} (hl : Below w.heap.size w w5) (hb : Below (w5.alloc (.cells cs t)).heap.size (w5.alloc (.cells cs t)) w6) : Bk w6 w5.heap.size t cs.toList ∧ w.heap.size ≤ w5.heap.size := ⟨(Bk.newA w5 t cs).belowS hb, hl.size⟩
theorem bk_afterD {w w5 w6 : World} {t : TypeId} {cs : Array Value} (hl : Below w.heap.size w w5) (hb : Below (w5.alloc (.cells cs t)).drew.heap.size (w5.alloc (.cells cs t)).drew w6) : Bk w6 w5.heap.size t cs.toList ∧ w.heap.size ≤ w5.heap.size := bk_after hl (below_undrew hb)
theorem BxS.stored_int {w0 W : World} {g G : Nat} {x1 y1 z1 x2 y2 z2 : Value} {cs : List Value} (h : BxS w0 W g x1 y1 z1 x2 y2 z2) (hk : Bk W G 38 cs ∧ w0.heap.size ≤ G) (b u : Value) : BxS w0 ((W.setCell ⟨G, 0, none⟩ b).setCell ⟨G, 1, none⟩ u) g x1 y1 z1 x2 y2 z2 := by
  have n1 := h.a.ne_of_type hk.1 (by decide)
  have n2 := h.b.ne_of_type hk.1 (by decide)
  have n3 := h.r.ne_of_type hk.1 (by decide)
  exact ⟨(h.a.far (p := ⟨G, 0, none⟩) n1 b).far (p := ⟨G, 1, none⟩) n1 u, (h.b.far (p := ⟨G, 0, none⟩) n2 b).far (p := ⟨G, 1, none⟩) n2 u, (h.r.far (p := ⟨G, 0, none⟩) n3 b).far (p := ⟨G, 1, none⟩) n3 u, (h.l.setCell (p := ⟨G, 0, none⟩) hk.2 b).setCell (p := ⟨G, 1, none⟩) hk.2 u, h.g⟩
/-- What sum's first half leaves: its boxes, and the sum of the upper parts in a box. -/
def SmQ (w0 W : World) (g : Nat) (x1 y1 z1 x2 y2 z2 : Value) (z : Int) (s : Value) : Prop :=
  ∃ G b A m n, s = .pointer (some ⟨G, 0, none⟩) ∧ BxS w0 W g x1 y1 z1 x2 y2 z2 ∧ Bk W G 38 [.bool b, .slice A m n] ∧ WV W (.agg #[.bool b, .slice A m n]) z
theorem WV.form {w : World} {v : Value} {z : Int} (h : WV w v z) : ∃ b A m n, v = .agg #[.bool b, .slice A m n] := by
  obtain ⟨u, rfl, A, c, rfl, _⟩ := h
  exact ⟨_, _, _, _, rfl⟩
theorem WV.un {w : World} {b : Bool} {u : Value} {z : Int} (h : WV w (.agg #[.bool b, u]) z) : b = decide (z < 0) ∧ NV w u z.natAbs := by
  obtain ⟨u', e, hn⟩ := h
  injection e with e
  have e1 := congrArg Array.toList e
  simp at e1
  obtain ⟨e1, rfl⟩ := e1
  exact ⟨e1, hn⟩
theorem SmQ.of_alloc {w0 W : World} {g : Nat} {x1 y1 z1 x2 y2 z2 : Value} {z : Int} {b : Bool} {A : Option Addr} {m n : Nat} (h : BxS w0 W g x1 y1 z1 x2 y2 z2) (hv : WV W (.agg #[.bool b, .slice A m n]) z) : SmQ w0 (W.alloc (.cells #[.bool b, .slice A m n] 38)) g x1 y1 z1 x2 y2 z2 z (.pointer (some ⟨W.heap.size, 0, none⟩)) :=
  ⟨_, b, A, m, n, rfl, h.allocd _, Bk.newA W 38 #[.bool b, .slice A m n], hv.allocd _⟩
theorem SmQ.of_store {w0 W : World} {g G : Nat} {x1 y1 z1 x2 y2 z2 : Value} {z : Int} {b : Bool} {A : Option Addr} {m n n0 c0 : Nat} {b0 : Bool} {A0 : Option Addr} (h : BxS w0 W g x1 y1 z1 x2 y2 z2) (hk : Bk W G 38 [.bool b0, .slice A0 n0 c0] ∧ w0.heap.size ≤ G) (hv : WV W (.agg #[.bool b, .slice A m n]) z) : SmQ w0 ((W.setCell ⟨G, 0, none⟩ (.bool b)).setCell ⟨G, 1, none⟩ (.slice A m n)) g x1 y1 z1 x2 y2 z2 z (.pointer (some ⟨G, 0, none⟩)) := by
  have hf := fin_int hk.1 hv h.l hk.2
  exact ⟨_, b, A, m, n, rfl, h.stored_int hk _ _, hf.1, hf.2.1⟩
theorem NV.form {w : World} {v : Value} {n : Nat} (h : NV w v n) : ∃ A m c, v = .slice A m c := by
  obtain ⟨A, c, rfl, _⟩ := h
  exact ⟨_, _, _, rfl⟩
theorem RV.form {w : World} {v : Value} {z : Int} {d : Nat} (h : RV w v z d) : ∃ b A m n A' m' n', v = .agg #[.bool b, .slice A m n, .slice A' m' n'] := by
  obtain ⟨u, t, rfl, ⟨A, c, rfl, _⟩, A', c', rfl, _⟩ := h
  exact ⟨_, _, _, _, _, _, _, rfl⟩
theorem SmQ.held {w0 W : World} {g G : Nat} {x1 y1 z1 x2 y2 z2 b u : Value} (h : BxS w0 W g x1 y1 z1 x2 y2 z2) (hk : Bk W G 38 [b, u]) : W.cell? ⟨g, 2, none⟩ = some z1 ∧ W.cell? ⟨g + 1, 2, none⟩ = some z2 ∧ W.cell? ⟨G, 0, none⟩ = some b ∧ W.cell? ⟨G, 1, none⟩ = some u := ⟨h.a.cell 2, h.b.cell 2, hk.cell 0, hk.cell 1⟩
theorem SmQ.stored {w0 W : World} {g G : Nat} {x1 y1 z1 x2 y2 z2 b u : Value} (h : BxS w0 W g x1 y1 z1 x2 y2 z2) (hk : Bk W G 38 [b, u]) (p q r : Value) : (((W.setCell ⟨g + 1 + 1, 0, none⟩ p).setCell ⟨g + 1 + 1, 1, none⟩ q).setCell ⟨g + 1 + 1, 2, none⟩ r).cell? ⟨g, 2, none⟩ = some z1 ∧ (((W.setCell ⟨g + 1 + 1, 0, none⟩ p).setCell ⟨g + 1 + 1, 1, none⟩ q).setCell ⟨g + 1 + 1, 2, none⟩ r).cell? ⟨g + 1, 2, none⟩ = some z2 ∧ (((W.setCell ⟨g + 1 + 1, 0, none⟩ p).setCell ⟨g + 1 + 1, 1, none⟩ q).setCell ⟨g + 1 + 1, 2, none⟩ r).cell? ⟨G, 0, none⟩ = some b ∧ (((W.setCell ⟨g + 1 + 1, 0, none⟩ p).setCell ⟨g + 1 + 1, 1, none⟩ q).setCell ⟨g + 1 + 1, 2, none⟩ r).cell? ⟨G, 1, none⟩ = some u := by
  have n1 : G ≠ g + 1 + 1 := fun e => (h.r.ne_of_type hk (by decide)) e.symm
  have hk' := ((hk.far (p := ⟨g + 1 + 1, 0, none⟩) n1 p).far (p := ⟨g + 1 + 1, 1, none⟩) n1 q).far (p := ⟨g + 1 + 1, 2, none⟩) n1 r
  have h6 := h.stored p q r
  exact ⟨h6.2.2.1, h6.2.2.2.2.2, hk'.cell 0, hk'.cell 1⟩
set_option maxRecDepth 100000 in
set_option maxHeartbeats 4000000 in
/-- ratio.sum -/
theorem sum_any {w : World} {va vb : Value} {za zb : Int} {da db : Nat} (ha : RV w va za da) (hb : RV w vb zb db) (h1 : za.natAbs < 2147483648) (h2 : zb.natAbs < 2147483648) (h3 : 0 < da ∧ da < 2147483648) (h4 : 0 < db ∧ db < 2147483648) : Calls Tryz.prog 26 #[va, vb] w fun e w' => ∃ v, e = .returned v ∧ RV w' v (sg (decide (za * (db : Int) + zb * (da : Int) < 0)) ((za * (db : Int) + zb * (da : Int)).natAbs / qg (za * (db : Int) + zb * (da : Int)) (da * db))) (da * db / qg (za * (db : Int) + zb * (da : Int)) (da * db)) ∧ Below w.heap.size w w' := by
  have hm1 : za.natAbs * db ≤ 4611686014132420609 := Nat.mul_le_mul (n₁ := za.natAbs) (m₁ := db) (n₂ := 2147483647) (m₂ := 2147483647) (by omega) (by omega)
  have hm2 : zb.natAbs * da ≤ 4611686014132420609 := Nat.mul_le_mul (n₁ := zb.natAbs) (m₁ := da) (n₂ := 2147483647) (m₂ := 2147483647) (by omega) (by omega)
  have hm3 : da * db ≤ 4611686014132420609 := Nat.mul_le_mul (n₁ := da) (m₁ := db) (n₂ := 2147483647) (m₂ := 2147483647) (by omega) (by omega)
  have hm0 : 0 < da * db := Nat.mul_pos h3.1 h4.1
  have hA1 : (za * (db : Int)).natAbs = za.natAbs * db := by rw [Int.natAbs_mul, Int.natAbs_natCast]
  have hA2 : (zb * (da : Int)).natAbs = zb.natAbs * da := by rw [Int.natAbs_mul, Int.natAbs_natCast]
  have hA3 : (za * (db : Int) + zb * (da : Int)).natAbs < 9223372036854775808 := by omega
  have HM := Lib.hid (And.intro hm1 (And.intro hm2 (And.intro hm3 (And.intro hm0 (And.intro hA1 (And.intro hA2 (And.intro hA3 (And.intro h1 (And.intro h2 (And.intro h3 h4))))))))))
  obtain ⟨ua, ta, rfl, hna, hta⟩ := ha
  obtain ⟨ub, tb, rfl, hnb, htb⟩ := hb
  have HN := Lib.hid (And.intro hna (And.intro hta (And.intro hnb htb)))
  have hwa : WV w (.agg #[.bool (decide (za < 0)), ua]) za := ⟨_, rfl, hna⟩
  have hwb : WV w (.agg #[.bool (decide (zb < 0)), ub]) zb := ⟨_, rfl, hnb⟩
  obtain ⟨A, c, rfl, _⟩ := hna
  obtain ⟨A', c', rfl, _⟩ := hta
  obtain ⟨B, d, rfl, _⟩ := hnb
  obtain ⟨B', d', rfl, _⟩ := htb
  generalize decide (za < 0) = sa at *
  generalize decide (zb < 0) = sb at *
  generalize ln za.natAbs = x1 at *
  generalize ln zb.natAbs = x2 at *
  generalize ln da = y1 at *
  generalize ln db = y2 at *
  have HW := Lib.hid (And.intro hwa hwb)
  obtain ⟨w1, hw1⟩ : ∃ w1, ((w.alloc (.cells #[.bool sa, .slice A x1 c, .slice A' y1 c'] 40)).alloc (.cells #[.bool sb, .slice B x2 d, .slice B' y2 d'] 40)).alloc (.cells #[.bool false, .slice none 0 0, .slice none 0 0] 40) = w1 := ⟨_, rfl⟩
  have hB := BxS.new w (.bool sa) (.slice A x1 c) (.slice A' y1 c') (.bool sb) (.slice B x2 d) (.slice B' y2 d')
  rw [hw1] at hB
  obtain ⟨g, hg⟩ : ∃ g, w.heap.size = g := ⟨_, rfl⟩
  rw [hg] at hB
  have H0 := Lib.hid hB
  have H1 := Lib.hid (hB.below (Below.refl _ _).drew)
  have M1 := Lib.hid True.intro
  have M3 := Lib.hid True.intro
  clear hm1 hm2 hm3 hm0 hA1 hA2 hA3 h1 h2 h3 h4 hwa hwb hB
  go_enter Tryz.func26, Tryz.ntmps26
  go_wp2_with fail
  go_cut [6] (fun s6 wx => SmQ w wx g (.bool sa) (.slice A x1 c) (.slice A' y1 c') (.bool sb) (.slice B x2 d) (.slice B' y2 d') (za * (db : Int) + zb * (da : Int)) s6)
  case first =>
    go_region_held3 (fun w' => w'.cell? ⟨g, 0, none⟩ = some (.bool sa) ∧ w'.cell? ⟨g, 1, none⟩ = some (.slice A x1 c) ∧ w'.cell? ⟨g, 2, none⟩ = some (.slice A' y1 c') ∧ w'.cell? ⟨g + 1, 0, none⟩ = some (.bool sb) ∧ w'.cell? ⟨g + 1, 1, none⟩ = some (.slice B x2 d) ∧ w'.cell? ⟨g + 1, 2, none⟩ = some (.slice B' y2 d'))
      (first | with_reducible exact (H6.out.stored_int HK.out _ _).cellz | with_reducible exact (H6.out.allocd _).cellz | with_reducible exact H6.out.cellz | with_reducible exact (H5.out.allocd _).cellz | with_reducible exact H5.out.cellz | with_reducible exact (H4.out.allocd _).cellz | with_reducible exact H4.out.cellz | with_reducible exact (H3.out.allocd _).cellz | with_reducible exact H3.out.cellz | with_reducible exact (H2.out.allocd _).cellz | with_reducible exact H2.out.cellz | with_reducible exact (H0.out.allocD _).cellz | with_reducible exact H1.out.cellz)
      (first
      | (go_at_call 57; clear M1; have M4 := Lib.hid True.intro; refine (whole1_any (HN.out.2.2.2.below (by first | with_reducible exact H1.out.l | with_reducible exact (H0.out.allocD _).l))).mono ?_; rintro e w2 ⟨v2, rfl, hv2, hb2⟩; (first | have H2 := Lib.hid (H1.out.below hb2) | have H2 := Lib.hid ((H0.out.allocD _).below hb2)); (first | have HK := Lib.hid (bk_afterD H0.out.l hb2) | have HK := Lib.hid (And.intro (HK.out.1.belowS hb2) HK.out.2) | skip); obtain ⟨b2, A2, m2, n2, rfl⟩ := hv2.form; have HV2 := Lib.hid hv2; clear hv2; clear hb2)
      | (go_at_call 59; clear M3; have M5 := Lib.hid True.intro; refine (sMul_any (a := za) (b := (db : Int)) (HW.out.1.below (by first | with_reducible exact H2.out.l | with_reducible exact (H2.out.allocd _).l)) (by first | with_reducible exact HV2.out | with_reducible exact HV2.out.allocd _) (by have := HM.out; omega) (by have := HM.out; rw [Int.natAbs_natCast]; omega) (by rw [Int.natAbs_natCast]; have := HM.out.1; omega)).mono ?_; rintro e w3 ⟨v3, rfl, hv3, hb3⟩; (first | have H3 := Lib.hid (H2.out.below hb3) | have H3 := Lib.hid (H2.out.alloc_below hb3)); (first | have HK := Lib.hid (bk_after H2.out.l hb3) | have HK := Lib.hid (And.intro (HK.out.1.belowS hb3) HK.out.2) | skip); obtain ⟨b3, A3, m3, n3, rfl⟩ := hv3.form; have HV3 := Lib.hid hv3; clear hv3; clear hb3)
      | (go_at_call 57; clear M4; refine (whole1_any (HN.out.2.1.below (by first | with_reducible exact H3.out.l | with_reducible exact (H3.out.allocd _).l))).mono ?_; rintro e w4 ⟨v4, rfl, hv4, hb4⟩; (first | have H4 := Lib.hid (H3.out.below hb4) | have H4 := Lib.hid (H3.out.alloc_below hb4)); (first | have HK := Lib.hid (bk_after H3.out.l hb4) | have HK := Lib.hid (And.intro (HK.out.1.belowS hb4) HK.out.2) | skip); (first | have HV34 := Lib.hid (HV3.out.below hb4) | have HV34 := Lib.hid (HV3.out.alloc_below hb4)); obtain ⟨b4, A4, m4, n4, rfl⟩ := hv4.form; have HV4 := Lib.hid hv4; clear hv4; clear hb4)
      | (go_at_call 59; clear M5; refine (sMul_any (a := zb) (b := (da : Int)) (HW.out.2.below (by first | with_reducible exact H4.out.l | with_reducible exact (H4.out.allocd _).l)) (by first | with_reducible exact HV4.out | with_reducible exact HV4.out.allocd _) (by have := HM.out; omega) (by have := HM.out; rw [Int.natAbs_natCast]; omega) (by rw [Int.natAbs_natCast]; have := HM.out.2.1; omega)).mono ?_; rintro e w5 ⟨v5, rfl, hv5, hb5⟩; (first | have H5 := Lib.hid (H4.out.below hb5) | have H5 := Lib.hid (H4.out.alloc_below hb5)); (first | have HK := Lib.hid (bk_after H4.out.l hb5) | have HK := Lib.hid (And.intro (HK.out.1.belowS hb5) HK.out.2) | skip); (first | have HV35 := Lib.hid (HV34.out.below hb5) | have HV35 := Lib.hid (HV34.out.alloc_below hb5)); obtain ⟨b5, A5, m5, n5, rfl⟩ := hv5.form; have HV5 := Lib.hid hv5; clear hv5; clear hb5)
      | (go_at_call 58; refine (sAdd_any (a := za * (db : Int)) (b := zb * (da : Int)) (by first | with_reducible exact HV35.out | with_reducible exact HV35.out.allocd _) (by first | with_reducible exact HV5.out | with_reducible exact HV5.out.allocd _) (by have := HM.out; omega)).mono ?_; rintro e w6 ⟨v6, rfl, hv6, hb6⟩; (first | have H6 := Lib.hid (H5.out.below hb6) | have H6 := Lib.hid (H5.out.alloc_below hb6)); (first | have HK := Lib.hid (bk_after H5.out.l hb6) | have HK := Lib.hid (And.intro (HK.out.1.belowS hb6) HK.out.2) | skip); obtain ⟨b6, A6, m6, n6, rfl⟩ := hv6.form; have HV6 := Lib.hid hv6; clear hv6; (first | (have q := cells_int HK.out.1; obtain ⟨r0, r1, s0, s1⟩ := q) | skip)))
    all_goals (go_wp2_with fail; go_meet; first | exact SmQ.of_alloc H6.out HV6.out | exact SmQ.of_store H6.out HK.out HV6.out)
  case rest =>
    obtain ⟨G, b, Au, mu, nu, rfl, hB, hK, hV⟩ := hcut
    obtain ⟨c0, c1, c2, c3, c4, c5⟩ := hB.cellz
    obtain ⟨q0, q1, _, _⟩ := cells_int hK
    have H2 := Lib.hid (hB.below (Below.refl _ _).drew)
    have HV := Lib.hid (hV.below (Below.refl _ _).drew)
    have HT := Lib.hid (tMul_any (HN.out.2.1.below H2.out.l) (HN.out.2.2.2.below H2.out.l) (by have := HM.out; omega) (by have := HM.out; omega) (by have := HM.out; omega))
    have HKd : Bk wc.drew G 38 [.bool b, .slice Au mu nu] := hK
    have HK := Lib.hid HKd
    clear hB hK hV HKd
    go_wp2_with fail
    clear c0 c1 c2 c3 c4 c5 q0 q1
    go_region_held3 (fun w' => w'.cell? ⟨g, 2, none⟩ = some (.slice A' y1 c') ∧ w'.cell? ⟨g + 1, 2, none⟩ = some (.slice B' y2 d') ∧ w'.cell? ⟨G, 0, none⟩ = some (.bool b) ∧ w'.cell? ⟨G, 1, none⟩ = some (.slice Au mu nu))
      (first | with_reducible exact SmQ.stored H4.out.1 H4.out.2 _ _ _ | with_reducible exact SmQ.held H4.out.1 H4.out.2 | with_reducible exact SmQ.held H3.out HK3.out | with_reducible exact SmQ.held H2.out HK.out)
      (first
      | (go_at_call 61; refine HT.out.mono ?_; rintro e w3 ⟨t3, rfl, ht3, hb3⟩; have H3 := Lib.hid (H2.out.below hb3); have HV3 := Lib.hid (HV.out.below hb3); have HK3 := Lib.hid (HK.out.belowS hb3); obtain ⟨A3, n3, m3, rfl⟩ := ht3.form; have HT3 := Lib.hid ht3; clear ht3 hb3)
      | (go_at_call 60; refine (lowest_any HV3.out HT3.out (by have := HM.out; omega) (by have := HM.out; omega) (by have := HM.out; omega)).mono ?_; rintro e w4 ⟨v4, rfl, hv4, hb4⟩; have H4 := Lib.hid (And.intro (H3.out.below hb4) (HK3.out.belowS hb4)); obtain ⟨b4, A4, m4, n4, A5, m5, n5, rfl⟩ := hv4.form; have HR := Lib.hid hv4; have q := cells_rat H4.out.1.r; obtain ⟨r0, r1, r2, s0, s1, s2⟩ := q))
    go_wp2_with fail
    have HF := fin_rat H4.out.1.r HR.out H4.out.1.l (by have := H4.out.1.g; omega)
    refine bodyPost_ret (ret_rat27 rfl rfl HF.1) rfl ?_
    exact ⟨_, rfl, HF.2⟩
end Go.Proofs.YtlhipaffhehcnaaGreat
