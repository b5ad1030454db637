/- TopLeft: signed. TopLeft: signed: against, Add, held, Neg, Sign, Check. TopLeft: signed: Neg, Sign. TopLeft: ratio: words; by, one, whole. TopLeft: ratio: lowest. -/
import Derived.Test.YtlhipaffhehcnaaGreatT20
namespace Go.Proofs.YtlhipaffhehcnaaGreat
open Go.RowKit
set_option linter.unusedVariables false
/-- A whole number in memory. -/
def WV (w : World) (v : Value) (z : Int) : Prop := ∃ u, v = .agg #[.bool (decide (z < 0)), u] ∧ NV w u z.natAbs
theorem WV.below {w w' : World} {v : Value} {z : Int} (h : WV w v z) (hb : Below w.heap.size w w') : WV w' v z := by
  obtain ⟨u, rfl, h⟩ := h
  exact ⟨u, rfl, h.below hb⟩
/-- A number with a side. -/
def sg (s : Bool) (n : Nat) : Int := if s then -(n : Int) else n
/-- Digits lie apart from cells that are none. -/
theorem NV.chg {w w' : World} {v : Value} {n g : Nat} {t : TypeId} {cs : List Value} (h : NV w v n) (hb : Bk w g t cs) (hc : ∀ (i : Nat) (k : IntKind) (x : Int), cs[i]? ≠ some (.int k x)) (hch : Chg (fun k => k = g) w w') : NV w' v n := by
  obtain ⟨A, c, rfl, h1, h2⟩ := h
  refine ⟨A, c, rfl, h1, ?_⟩
  rcases Nat.eq_zero_or_pos n with h0 | h0
  · subst h0
    exact ⟨rfl, fun h => absurd h (by rw [ln_zero]; omega)⟩
  · refine hch.rd h2 fun a ha => ?_
    rw [ln_pos h0, dg_pos h0] at h2
    obtain ⟨b, off, e, _, h3⟩ := h2.form (by omega)
    rw [e] at ha
    injection ha with ha
    subst ha
    intro e2
    have e3 : b = g := e2
    subst e3
    have h4 := h3 0 _ rfl
    rw [Nat.add_zero, hb.cell off] at h4
    exact hc _ _ _ h4
theorem no_int2 {b : Bool} {A : Option Addr} {n c : Nat} : ∀ (i : Nat) (k : IntKind) (x : Int), ([.bool b, .slice A n c] : List Value)[i]? ≠ some (.int k x)
  | 0, _, _ => by simp
  | 1, _, _ => by simp
  | i + 2, _, _ => by simp
theorem ret_int27 {fn : Func} {p : Tmp} {tmps : Array Value} {w : World} {g : Nat} {b u : Value} (h : fn.results = #[.cell p 38]) (hp : tmps.getD p undef = .pointer (some ⟨g, 0, none⟩)) (hb : Bk w g 38 [b, u]) : (results fn tmps).run Tryz.prog w = .ok (.agg #[b, u]) w :=
  results_cell_row h tmps w g 38 #[b, u] (0, 0) _ hp hb Tryz.underlying38 rfl (by kernel_rfl)
set_option maxRecDepth 100000 in
/-- signed.Make -/
theorem sMake_any {w : World} {vn : Value} {n : Nat} (s : Bool) (h : NV w vn n) : Calls Tryz.prog 50 #[.bool s, vn] w fun e w' => ∃ v, e = .returned v ∧ WV w' v (sg s n) ∧ Below w.heap.size w w' := by
  obtain ⟨A, c, rfl, hA1, hA2⟩ := h
  have T1 := Lib.hid (fun (w' : World) (h : Below w.heap.size w w') => trim_any (NV.raw (hA2.below h)) hA1 (by have := ln_le n; omega))
  clear hA1 hA2
  generalize ln n = x at T1 ⊢
  go_enter Tryz.func50, Tryz.ntmps50
  go_wp2_with fail
  have hb0 : Below w.heap.size w (w.alloc (.cells #[.bool false, .slice none 0 0] 38)) := (Below.refl _ _).alloc (Nat.le_refl _) _
  refine (T1.out _ hb0).mono ?_
  rintro e w1 ⟨v, rfl, hv, hb1⟩
  have k0 := (Bk.newA w 38 #[.bool false, .slice none 0 0]).belowS hb1
  have hb2 := below_base hb0 hb1 hb0.size
  have H1 := Lib.hid (And.intro hv hb2)
  have HK := Lib.hid k0
  obtain ⟨B, d, rfl, hB1, hB2⟩ := hv
  have c0 : ∀ o, (w1.alloc o).cell? ⟨w.heap.size, 0, none⟩ = some (.bool false) := fun o => (k0.alloc o).cell 0
  have c1 : ∀ o, (w1.alloc o).cell? ⟨w.heap.size, 1, none⟩ = some (.slice none 0 0) := fun o => (k0.alloc o).cell 1
  have f0 : ∀ o, (w1.alloc o).frozen? ⟨w.heap.size, 0, none⟩ = false := fun o => (k0.alloc o).frozen 0
  have f1 : ∀ o, (w1.alloc o).frozen? ⟨w.heap.size, 1, none⟩ = false := fun o => (k0.alloc o).frozen 1
  clear hb0 hb1 hb2 k0 hB1 hB2
  have hfin : ∀ (o : Obj) (b : Bool) (v : Value) (z : Int), b = decide (z < 0) → z.natAbs = n → NV w1 v n → Bk (((w1.alloc o).setCell ⟨w.heap.size, 0, none⟩ (.bool b)).setCell ⟨w.heap.size, 1, none⟩ v) w.heap.size 38 [.bool b, v] ∧ WV (((w1.alloc o).setCell ⟨w.heap.size, 0, none⟩ (.bool b)).setCell ⟨w.heap.size, 1, none⟩ v) (.agg #[.bool b, v]) z ∧ Below w.heap.size w (((w1.alloc o).setCell ⟨w.heap.size, 0, none⟩ (.bool b)).setCell ⟨w.heap.size, 1, none⟩ v) := fun o b v z hz hn hv => by
    refine ⟨((HK.out.alloc o).set_ 0 (.bool b)).set_ 1 v, ⟨v, by rw [hz], by rw [hn]; exact (hv.below ((Below.refl _ _).alloc (Nat.le_refl _) _)).chg (HK.out.alloc o) no_int2 (((Chg.refl (fun k => k = w.heap.size) (w1.alloc o)).set_ (g := w.heap.size) (show (fun k => k = w.heap.size) w.heap.size from rfl) 0 _).set_ (g := w.heap.size) (show (fun k => k = w.heap.size) w.heap.size from rfl) 1 _)⟩, ?_⟩
    exact ((H1.out.2.alloc H1.out.2.size o).setCell (p := ⟨w.heap.size, 0, none⟩) (Nat.le_refl _) _).setCell (p := ⟨w.heap.size, 1, none⟩) (Nat.le_refl _) _
  have HF := Lib.hid hfin
  clear hfin
  rcases Nat.eq_zero_or_pos n with h0 | h0
  · subst h0
    rw [ln_zero] at H1 ⊢
    cases s
    · go_wp2_with fail
      refine bodyPost_ret (ret_int27 rfl rfl (HF.out _ false _ 0 rfl rfl H1.out.1).1) rfl ?_
      exact ⟨_, rfl, (HF.out _ false _ 0 rfl rfl H1.out.1).2⟩
    · go_wp2_with fail
      refine bodyPost_ret (ret_int27 rfl rfl (HF.out _ false _ 0 rfl rfl H1.out.1).1) rfl ?_
      exact ⟨_, rfl, (HF.out _ false _ 0 rfl rfl H1.out.1).2⟩
  · have HN := Lib.hid h0
    rw [ln_pos h0] at H1 ⊢
    clear h0
    cases s
    · go_wp2_with fail
      refine bodyPost_ret (ret_int27 rfl rfl (HF.out _ false _ (sg false n) ?_ rfl H1.out.1).1) rfl ?_
      · have := HN.out; simp [sg]
      · exact ⟨_, rfl, (HF.out _ false _ (sg false n) (by have := HN.out; simp [sg]) rfl H1.out.1).2⟩
    · go_wp2_with fail
      refine bodyPost_ret (ret_int27 rfl rfl (HF.out _ true _ (sg true n) ?_ ?_ H1.out.1).1) rfl ?_
      · have := HN.out; simp [sg]; omega
      · simp [sg]
      · exact ⟨_, rfl, (HF.out _ true _ (sg true n) (by have := HN.out; simp [sg]; omega) (by simp [sg]) H1.out.1).2⟩
theorem cells_int {w : World} {g : Nat} {x y : Value} (h : Bk w g 38 [x, y]) : w.cell? ⟨g, 0, none⟩ = some x ∧ w.cell? ⟨g, 1, none⟩ = some y ∧ w.frozen? ⟨g, 0, none⟩ = false ∧ w.frozen? ⟨g, 1, none⟩ = false := ⟨h.cell 0, h.cell 1, h.frozen 0, h.frozen 1⟩
theorem fin_int {w w1 : World} {B g n0 c0 : Nat} {b0 b : Bool} {A0 : Option Addr} {u : Value} {z : Int} (hk : Bk w1 g 38 [.bool b0, .slice A0 n0 c0]) (hv : WV w1 (.agg #[.bool b, u]) z) (hb : Below B w w1) (hg : B ≤ g) :
    Bk ((w1.setCell ⟨g, 0, none⟩ (.bool b)).setCell ⟨g, 1, none⟩ u) g 38 [.bool b, u] ∧ WV ((w1.setCell ⟨g, 0, none⟩ (.bool b)).setCell ⟨g, 1, none⟩ u) (.agg #[.bool b, u]) z ∧ Below B w ((w1.setCell ⟨g, 0, none⟩ (.bool b)).setCell ⟨g, 1, none⟩ u) := by
  obtain ⟨u', e, hn⟩ := hv
  injection e with e
  have e1 := congrArg Array.toList e
  simp at e1
  obtain ⟨e1, rfl⟩ := e1
  refine ⟨(hk.set_ 0 _).set_ 1 u, ⟨u, by rw [e1], ?_⟩, ?_⟩
  · exact hn.chg hk no_int2 (((Chg.refl (fun k => k = g) w1).set_ (g := g) (show (fun k => k = g) g from rfl) 0 _).set_ (g := g) (show (fun k => k = g) g from rfl) 1 _)
  · exact (hb.setCell (p := ⟨g, 0, none⟩) hg _).setCell (p := ⟨g, 1, none⟩) hg _
set_option maxRecDepth 100000 in
/-- signed.Of, of no number below 0. -/
theorem sOf_any {w : World} {n : Nat} (h : n < 4294967296) : Calls Tryz.prog 54 #[.int .i64 (n : Nat)] w fun e w' => ∃ v, e = .returned v ∧ WV w' v (n : Int) ∧ Below w.heap.size w w' := by
  have d1 : decide ((n : Int) < 0) = false := decide_eq_false (by omega)
  have hw := wrap_u (q := n) (by omega)
  have hb0 : Below w.heap.size w (w.alloc (.cells #[.bool false, .slice none 0 0] 38)) := (Below.refl _ _).alloc (Nat.le_refl _) _
  have k0 := Bk.newA w 38 #[.bool false, .slice none 0 0]
  have H0 := Lib.hid (And.intro hb0 k0)
  clear h hb0 k0
  go_enter Tryz.func54, Tryz.ntmps54
  go_wp2_with fail
  refine (limbsOf_any n).mono ?_
  rintro e w1 ⟨u, rfl, hu, hb1⟩
  have H1 := Lib.hid (And.intro (below_base H0.out.1 hb1 H0.out.1.size) (And.intro (H0.out.2.belowS hb1) hu))
  clear hu hb1
  go_wp2_with fail
  refine (sMake_any false H1.out.2.2).mono ?_
  rintro e w2 ⟨v, rfl, hv, hb2⟩
  have hv' := hv
  obtain ⟨u2, rfl, hu2⟩ := hv'
  obtain ⟨A2, c2, rfl, _⟩ := hu2
  have k2 := H1.out.2.1.belowS hb2
  obtain ⟨c0, c1, f0, f1⟩ := cells_int k2
  have HF := Lib.hid (fin_int k2 hv (below_base H1.out.1 hb2 H1.out.1.size) (Nat.le_refl _))
  clear hv hb2 k2
  go_wp2_with fail
  refine bodyPost_ret (ret_int27 rfl rfl HF.out.1) rfl ?_
  exact ⟨_, rfl, by have := HF.out.2.1; exact this, HF.out.2.2⟩
/-- Two numbers in boxes, and a box for what is told. -/
structure Bx3 (w0 W : World) (g : Nat) (x1 y1 x2 y2 : Value) : Prop where
  a : Bk W g 38 [x1, y1]
  b : Bk W (g + 1) 38 [x2, y2]
  r : Bk W (g + 1 + 1) 38 [.bool false, .slice none 0 0]
  l : Below w0.heap.size w0 W
  g : g = w0.heap.size
theorem Bx3.new (w : World) (x1 y1 x2 y2 : Value) : Bx3 w (((w.alloc (.cells #[x1, y1] 38)).alloc (.cells #[x2, y2] 38)).alloc (.cells #[.bool false, .slice none 0 0] 38)) w.heap.size x1 y1 x2 y2 := by
  have h2 := (Bk.newA (w.alloc (.cells #[x1, y1] 38)) 38 #[x2, y2]).alloc (.cells #[.bool false, .slice none 0 0] 38)
  have h3 := Bk.newA ((w.alloc (.cells #[x1, y1] 38)).alloc (.cells #[x2, y2] 38)) 38 #[.bool false, .slice none 0 0]
  rw [World.size_alloc] at h2
  rw [World.size_alloc, World.size_alloc] at h3
  exact ⟨((Bk.newA w 38 #[x1, y1]).alloc _).alloc _, h2, h3, (((Below.refl _ _).alloc (Nat.le_refl _) _).alloc (by simp) _).alloc (by simp; omega) _, rfl⟩
theorem Bx3.below {w0 W W' : World} {g : Nat} {x1 y1 x2 y2 : Value} (h : Bx3 w0 W g x1 y1 x2 y2) (hb : Below W.heap.size W W') : Bx3 w0 W' g x1 y1 x2 y2 :=
  ⟨h.a.belowS hb, h.b.belowS hb, h.r.belowS hb, below_base h.l hb h.l.size, h.g⟩
theorem Bx3.cells {w0 W : World} {g : Nat} {x1 y1 x2 y2 : Value} (h : Bx3 w0 W g x1 y1 x2 y2) : W.cell? ⟨g, 0, none⟩ = some x1 ∧ W.cell? ⟨g, 1, none⟩ = some y1 ∧ W.cell? ⟨g + 1, 0, none⟩ = some x2 ∧ W.cell? ⟨g + 1, 1, none⟩ = some y2 :=
  ⟨h.a.cell 0, h.a.cell 1, h.b.cell 0, h.b.cell 1⟩
theorem Bx3.stored {w0 W : World} {g : Nat} {x1 y1 x2 y2 : Value} (h : Bx3 w0 W g x1 y1 x2 y2) (b u : Value) : ((W.setCell ⟨g + 1 + 1, 0, none⟩ b).setCell ⟨g + 1 + 1, 1, none⟩ u).cell? ⟨g, 0, none⟩ = some x1 ∧ ((W.setCell ⟨g + 1 + 1, 0, none⟩ b).setCell ⟨g + 1 + 1, 1, none⟩ u).cell? ⟨g, 1, none⟩ = some y1 ∧ ((W.setCell ⟨g + 1 + 1, 0, none⟩ b).setCell ⟨g + 1 + 1, 1, none⟩ u).cell? ⟨g + 1, 0, none⟩ = some x2 ∧ ((W.setCell ⟨g + 1 + 1, 0, none⟩ b).setCell ⟨g + 1 + 1, 1, none⟩ u).cell? ⟨g + 1, 1, none⟩ = some y2 := by
  have ha := (h.a.far (p := ⟨g + 1 + 1, 0, none⟩) (by show g ≠ g + 1 + 1; omega) b).far (p := ⟨g + 1 + 1, 1, none⟩) (by show g ≠ g + 1 + 1; omega) u
  have hb := (h.b.far (p := ⟨g + 1 + 1, 0, none⟩) (by show g + 1 ≠ g + 1 + 1; omega) b).far (p := ⟨g + 1 + 1, 1, none⟩) (by show g + 1 ≠ g + 1 + 1; omega) u
  exact ⟨ha.cell 0, ha.cell 1, hb.cell 0, hb.cell 1⟩
set_option maxRecDepth 100000 in
set_option maxHeartbeats 4000000 in
/-- signed.along -/
theorem along_any {w : World} {va vb : Value} {a b : Int} (ha : WV w va a) (hb : WV w vb b) (hs : (a < 0 ↔ b < 0)) (h63 : a.natAbs + b.natAbs < 9223372036854775808) : Calls Tryz.prog 96 #[va, vb] w fun e w' => ∃ v, e = .returned v ∧ WV w' v (a + b) ∧ Below w.heap.size w w' := by
  obtain ⟨ua, rfl, hna⟩ := ha
  obtain ⟨ub, rfl, hnb⟩ := hb
  have HN := Lib.hid (And.intro hna hnb)
  obtain ⟨A, c, rfl, _⟩ := hna
  obtain ⟨B, d, rfl, _⟩ := hnb
  obtain ⟨sa, hsa⟩ : ∃ sa, decide (a < 0) = sa := ⟨_, rfl⟩
  obtain ⟨sb, hsb⟩ : ∃ sb, decide (b < 0) = sb := ⟨_, rfl⟩
  have HS := Lib.hid (And.intro hsa (And.intro hsb (And.intro hs h63)))
  rw [hsa, hsb]
  generalize ln a.natAbs = x at HN ⊢
  generalize ln b.natAbs = z at HN ⊢
  obtain ⟨w1, hw1⟩ : ∃ w1, ((w.alloc (.cells #[.bool sa, .slice A x c] 38)).alloc (.cells #[.bool sb, .slice B z d] 38)).alloc (.cells #[.bool false, .slice none 0 0] 38) = w1 := ⟨_, rfl⟩
  have hB := Bx3.new w (.bool sa) (.slice A x c) (.bool sb) (.slice B z d)
  rw [hw1] at hB
  obtain ⟨g, hg⟩ : ∃ g, w.heap.size = g := ⟨_, rfl⟩
  rw [hg] at hB
  have hB1 : Bx3 w w1.drew g (.bool sa) (.slice A x c) (.bool sb) (.slice B z d) := hB.below (Below.refl _ _).drew
  obtain ⟨c0, c1, c2, c3⟩ := hB1.cells
  have H1 := Lib.hid hB1
  have HA := Lib.hid (lAdd_any (HN.out.1.below hB1.l) (HN.out.2.below hB1.l) h63)
  clear hsa hsb hs h63 hB hB1
  go_enter Tryz.func96, Tryz.ntmps96
  go_wp2_with fail
  clear c0 c1 c2 c3
  go_region_held3 (fun w' => w'.cell? ⟨g, 0, none⟩ = some (.bool sa) ∧ w'.cell? ⟨g, 1, none⟩ = some (.slice A x c) ∧ w'.cell? ⟨g + 1, 0, none⟩ = some (.bool sb) ∧ w'.cell? ⟨g + 1, 1, none⟩ = some (.slice B z d))
    (first | exact H4.out.stored _ _ | exact H4.out.cells | exact H3.out.cells | exact H1.out.cells | go_keep)
    (first
    | (go_at_call 128; refine HA.out.mono ?_; rintro e w3 ⟨u, rfl, hu, hb3⟩; have hu3 := Lib.hid hu; have H3 := Lib.hid (H1.out.below hb3); clear hu hb3)
    | (go_at_call 50; refine (sMake_any sa hu3.out).mono ?_; rintro e w4 ⟨v, rfl, hv, hb4⟩; have hv4 := Lib.hid hv; obtain ⟨u4, rfl, hu4⟩ := hv; obtain ⟨A4, n4, rfl, _⟩ := hu4; have H4 := Lib.hid (H3.out.below hb4); obtain ⟨r0, r1, s0, s1⟩ := cells_int H4.out.r; clear hb4))
  go_wp2_with fail
  have HF := fin_int H4.out.r hv4.out H4.out.l (by have := H4.out.g; omega)
  refine bodyPost_ret (ret_int27 rfl rfl HF.1) rfl ?_
  have e : sg sa (a.natAbs + b.natAbs) = a + b := by
    rw [← HS.out.1]
    have := HS.out.2.2.1
    unfold sg
    by_cases h : a < 0
    · rw [if_pos (by simpa using h)]; have := this.1 h; omega
    · rw [if_neg (by simpa using h)]; have : ¬ b < 0 := fun q => h (this.2 q); omega
  exact ⟨_, rfl, by rw [← e]; exact HF.2.1, HF.2.2⟩
set_option maxRecDepth 100000 in
set_option maxHeartbeats 4000000 in
/-- signed.Mul -/
theorem sMul_any {w : World} {va vb : Value} {a b : Int} (ha : WV w va a) (hb : WV w vb b) (ha2 : a.natAbs < 4294967296) (hb2 : b.natAbs < 4294967296) (h63 : a.natAbs * b.natAbs < 9223372036854775808) : Calls Tryz.prog 59 #[va, vb] w fun e w' => ∃ v, e = .returned v ∧ WV w' v (a * b) ∧ Below w.heap.size w w' := by
  obtain ⟨ua, rfl, hna⟩ := ha
  obtain ⟨ub, rfl, hnb⟩ := hb
  have HN := Lib.hid (And.intro hna hnb)
  obtain ⟨A, c, rfl, _⟩ := hna
  obtain ⟨B, d, rfl, _⟩ := hnb
  obtain ⟨sa, hsa⟩ : ∃ sa, decide (a < 0) = sa := ⟨_, rfl⟩
  obtain ⟨sb, hsb⟩ : ∃ sb, decide (b < 0) = sb := ⟨_, rfl⟩
  have HS := Lib.hid (And.intro hsa hsb)
  rw [hsa, hsb]
  generalize ln a.natAbs = x at HN ⊢
  generalize ln b.natAbs = z at HN ⊢
  obtain ⟨w1, hw1⟩ : ∃ w1, ((w.alloc (.cells #[.bool sa, .slice A x c] 38)).alloc (.cells #[.bool sb, .slice B z d] 38)).alloc (.cells #[.bool false, .slice none 0 0] 38) = w1 := ⟨_, rfl⟩
  have hB := Bx3.new w (.bool sa) (.slice A x c) (.bool sb) (.slice B z d)
  rw [hw1] at hB
  obtain ⟨g, hg⟩ : ∃ g, w.heap.size = g := ⟨_, rfl⟩
  rw [hg] at hB
  have hB1 : Bx3 w w1.drew g (.bool sa) (.slice A x c) (.bool sb) (.slice B z d) := hB.below (Below.refl _ _).drew
  have H1 := Lib.hid hB1
  have HA := Lib.hid (tMul_any (HN.out.1.below hB1.l) (HN.out.2.below hB1.l) ha2 hb2 h63)
  clear hsa hsb ha2 hb2 h63 hB hB1
  go_enter Tryz.func59, Tryz.ntmps59
  go_wp2_with fail
  go_region_held3 (fun w' => w'.cell? ⟨g, 0, none⟩ = some (.bool sa) ∧ w'.cell? ⟨g, 1, none⟩ = some (.slice A x c) ∧ w'.cell? ⟨g + 1, 0, none⟩ = some (.bool sb) ∧ w'.cell? ⟨g + 1, 1, none⟩ = some (.slice B z d))
    (first | exact H4.out.stored _ _ | exact H4.out.cells | exact H3.out.cells | exact H1.out.cells | go_keep)
    (first
    | (go_at_call 61; refine HA.out.mono ?_; rintro e w3 ⟨u, rfl, hu, hb3⟩; have hu3 := Lib.hid hu; have H3 := Lib.hid (H1.out.below hb3); clear hu hb3)
    | (go_at_call 50; refine (sMake_any (sa != sb) hu3.out).mono ?_; rintro e w4 ⟨v, rfl, hv, hb4⟩; have hv4 := Lib.hid hv; obtain ⟨u4, rfl, hu4⟩ := hv; obtain ⟨A4, n4, rfl, _⟩ := hu4; have H4 := Lib.hid (H3.out.below hb4); obtain ⟨r0, r1, s0, s1⟩ := cells_int H4.out.r; clear hb4))
  go_wp2_with fail
  have HF := fin_int H4.out.r hv4.out H4.out.l (by have := H4.out.g; omega)
  refine bodyPost_ret (ret_int27 rfl rfl HF.1) rfl ?_
  have e : sg (sa != sb) (a.natAbs * b.natAbs) = a * b := by
    rw [← HS.out.1, ← HS.out.2]
    unfold sg
    rw [Int.natCast_mul]
    rcases Int.lt_or_le a 0 with h1 | h1 <;> rcases Int.lt_or_le b 0 with h2 | h2
    · have e1 : ((a.natAbs : Nat) : Int) = -a := by omega
      have e2 : ((b.natAbs : Nat) : Int) = -b := by omega
      rw [if_neg (by simp [h1, h2]), e1, e2, Int.neg_mul_neg]
    · have e1 : ((a.natAbs : Nat) : Int) = -a := by omega
      have e2 : ((b.natAbs : Nat) : Int) = b := by omega
      rw [if_pos (by simp [h1]; omega), e1, e2, Int.neg_mul, Int.neg_neg]
    · have e1 : ((a.natAbs : Nat) : Int) = a := by omega
      have e2 : ((b.natAbs : Nat) : Int) = -b := by omega
      rw [if_pos (by simp [h2]; omega), e1, e2, Int.mul_neg, Int.neg_neg]
    · have e1 : ((a.natAbs : Nat) : Int) = a := by omega
      have e2 : ((b.natAbs : Nat) : Int) = b := by omega
      rw [if_neg (by simp; omega), e1, e2]
  exact ⟨_, rfl, by rw [← e]; exact HF.2.1, HF.2.2⟩
end Go.Proofs.YtlhipaffhehcnaaGreat
namespace Go.Proofs.YtlhipaffhehcnaaGreat
open Go.RowKit
set_option linter.unusedVariables false
set_option maxRecDepth 100000 in
set_option maxHeartbeats 4000000 in
/-- signed.against -/
theorem against_any {w : World} {va vb : Value} {a b : Int} (ha : WV w va a) (hb : WV w vb b) (hs : ¬ (a < 0 ↔ b < 0)) (h1 : a.natAbs < 9223372036854775808) (h2 : b.natAbs < 9223372036854775808) : Calls Tryz.prog 97 #[va, vb] w fun e w' => ∃ v, e = .returned v ∧ WV w' v (a + b) ∧ Below w.heap.size w w' := by
  obtain ⟨ua, rfl, hna⟩ := ha
  obtain ⟨ub, rfl, hnb⟩ := hb
  have HN := Lib.hid (And.intro hna hnb)
  obtain ⟨A, c, rfl, _⟩ := hna
  obtain ⟨B, d, rfl, _⟩ := hnb
  obtain ⟨sa, hsa⟩ : ∃ sa, decide (a < 0) = sa := ⟨_, rfl⟩
  obtain ⟨sb, hsb⟩ : ∃ sb, decide (b < 0) = sb := ⟨_, rfl⟩
  have HS := Lib.hid (And.intro hsa (And.intro hsb hs))
  rw [hsa, hsb]
  generalize ln a.natAbs = x at HN ⊢
  generalize ln b.natAbs = z at HN ⊢
  obtain ⟨w1, hw1⟩ : ∃ w1, ((w.alloc (.cells #[.bool sa, .slice A x c] 38)).alloc (.cells #[.bool sb, .slice B z d] 38)).alloc (.cells #[.bool false, .slice none 0 0] 38) = w1 := ⟨_, rfl⟩
  have hB := Bx3.new w (.bool sa) (.slice A x c) (.bool sb) (.slice B z d)
  rw [hw1] at hB
  obtain ⟨g, hg⟩ : ∃ g, w.heap.size = g := ⟨_, rfl⟩
  rw [hg] at hB
  obtain ⟨c0, c1, c2, c3⟩ := hB.cells
  have H1 := Lib.hid hB
  rcases Nat.lt_or_ge a.natAbs b.natAbs with hlt | hge
  · have HA := Lib.hid (lSub_lo (HN.out.1.below hB.l) (HN.out.2.below hB.l) hlt)
    have HL := Lib.hid (And.intro hlt h2)
    clear hsa hsb hs h1 h2 hB hlt
    go_enter Tryz.func97, Tryz.ntmps97
    go_wp2_with fail
    refine HA.out.mono ?_
    rintro e w3 ⟨rfl, hb3⟩
    have hB3 := H1.out.below hb3
    obtain ⟨c0, c1, c2, c3⟩ := hB3.cells
    have H3 := Lib.hid hB3
    have HB := Lib.hid (lSub_any (HN.out.2.below hB3.l) (HN.out.1.below hB3.l) (Nat.le_of_lt HL.out.1) HL.out.2)
    clear hb3 hB3
    go_wp2_with fail
    refine HB.out.mono ?_
    rintro e w4 ⟨u, rfl, hu, hb4⟩
    have hB4 := H3.out.below hb4
    obtain ⟨c0, c1, c2, c3⟩ := hB4.cells
    have H4 := Lib.hid (And.intro hB4 (sMake_any sb hu))
    clear hu hb4 hB4
    go_wp2_with fail
    refine H4.out.2.mono ?_
    rintro e w5 ⟨v, rfl, hv, hb5⟩
    have hv5 := Lib.hid hv
    obtain ⟨u5, rfl, hu5⟩ := hv
    obtain ⟨A5, n5, rfl, _⟩ := hu5
    have H5 := Lib.hid (H4.out.1.below hb5)
    obtain ⟨r0, r1, s0, s1⟩ := cells_int H5.out.r
    clear hb5
    go_wp2_with fail
    have HF := fin_int H5.out.r hv5.out H5.out.l (by have := H5.out.g; omega)
    refine bodyPost_ret (ret_int27 rfl rfl HF.1) rfl ?_
    have e : sg sb (b.natAbs - a.natAbs) = a + b := by
      rw [← HS.out.2.1]
      have := HS.out.2.2
      have := HL.out.1
      unfold sg
      by_cases h : b < 0
      · rw [if_pos (by simpa using h)]; omega
      · rw [if_neg (by simpa using h)]; omega
    exact ⟨_, rfl, by rw [← e]; exact HF.2.1, HF.2.2⟩
  · have HA := Lib.hid (lSub_any (HN.out.1.below hB.l) (HN.out.2.below hB.l) hge h1)
    have HL := Lib.hid hge
    clear hsa hsb hs h1 h2 hB hge
    go_enter Tryz.func97, Tryz.ntmps97
    go_wp2_with fail
    refine HA.out.mono ?_
    rintro e w4 ⟨u, rfl, hu, hb4⟩
    have hB4 := H1.out.below hb4
    obtain ⟨c0, c1, c2, c3⟩ := hB4.cells
    have H4 := Lib.hid (And.intro hB4 (sMake_any sa hu))
    clear hu hb4 hB4
    go_wp2_with fail
    refine H4.out.2.mono ?_
    rintro e w5 ⟨v, rfl, hv, hb5⟩
    have hv5 := Lib.hid hv
    obtain ⟨u5, rfl, hu5⟩ := hv
    obtain ⟨A5, n5, rfl, _⟩ := hu5
    have H5 := Lib.hid (H4.out.1.below hb5)
    obtain ⟨r0, r1, s0, s1⟩ := cells_int H5.out.r
    clear hb5
    go_wp2_with fail
    have HF := fin_int H5.out.r hv5.out H5.out.l (by have := H5.out.g; omega)
    refine bodyPost_ret (ret_int27 rfl rfl HF.1) rfl ?_
    have e : sg sa (a.natAbs - b.natAbs) = a + b := by
      rw [← HS.out.1]
      have := HS.out.2.2
      have := HL.out
      unfold sg
      by_cases h : a < 0
      · rw [if_pos (by simpa using h)]; omega
      · rw [if_neg (by simpa using h)]; omega
    exact ⟨_, rfl, by rw [← e]; exact HF.2.1, HF.2.2⟩
theorem WV.to {w : World} {v : Value} {z z' : Int} (h : WV w v z) (e : z = z') : WV w v z' := e ▸ h
theorem idx0 (w : World) : (Instr.index 149 (.agg #[.func (.func 96) #[] #[], .func (.func 97) #[] #[]]) (.int .i64 0)).run Tryz.prog w = .ok (.func (.func 96) #[] #[]) w := by kernel_rfl
theorem idx1 (w : World) : (Instr.index 149 (.agg #[.func (.func 96) #[] #[], .func (.func 97) #[] #[]]) (.int .i64 1)).run Tryz.prog w = .ok (.func (.func 97) #[] #[]) w := by kernel_rfl
set_option maxRecDepth 100000 in
set_option maxHeartbeats 4000000 in
/-- signed.Add -/
theorem sAdd_any {w : World} {va vb : Value} {a b : Int} (ha : WV w va a) (hb : WV w vb b) (h63 : a.natAbs + b.natAbs < 9223372036854775808) : Calls Tryz.prog 58 #[va, vb] w fun e w' => ∃ v, e = .returned v ∧ WV w' v (a + b) ∧ Below w.heap.size w w' := by
  have HW := Lib.hid (And.intro ha hb)
  obtain ⟨ua, rfl, hna⟩ := ha
  obtain ⟨ub, rfl, hnb⟩ := hb
  obtain ⟨A, c, rfl, _⟩ := hna
  obtain ⟨B, d, rfl, _⟩ := hnb
  obtain ⟨sa, hsa⟩ : ∃ sa, decide (a < 0) = sa := ⟨_, rfl⟩
  obtain ⟨sb, hsb⟩ : ∃ sb, decide (b < 0) = sb := ⟨_, rfl⟩
  have HS := Lib.hid (And.intro hsa hsb)
  rw [hsa, hsb] at HW ⊢
  generalize ln a.natAbs = x at HW ⊢
  generalize ln b.natAbs = z at HW ⊢
  obtain ⟨w1, hw1⟩ : ∃ w1, ((w.alloc (.cells #[.bool sa, .slice A x c] 38)).alloc (.cells #[.bool sb, .slice B z d] 38)).alloc (.cells #[.bool false, .slice none 0 0] 38) = w1 := ⟨_, rfl⟩
  have hB := Bx3.new w (.bool sa) (.slice A x c) (.bool sb) (.slice B z d)
  rw [hw1] at hB
  obtain ⟨g, hg⟩ : ∃ g, w.heap.size = g := ⟨_, rfl⟩
  rw [hg] at hB
  obtain ⟨c0, c1, c2, c3⟩ := hB.cells
  have hB1 : Bx3 w w1.drew g (.bool sa) (.slice A x c) (.bool sb) (.slice B z d) := hB.below (Below.refl _ _).drew
  have H1 := Lib.hid hB1
  by_cases hab : (a < 0 ↔ b < 0)
  · have HA := Lib.hid (along_any (HW.out.1.below hB1.l) (HW.out.2.below hB1.l) hab h63)
    have hix := idx0
    have hss : (sa != sb) = false := by rw [← hsa, ← hsb]; simp [hab]
    have hss2 : (sa == sb) = true := by rw [← hsa, ← hsb]; simp [hab]
    clear hsa hsb h63 hB hB1 hab
    go_enter Tryz.func58, Tryz.ntmps58
    go_wp2_with fail
    go_region_held3 (fun w' => w'.cell? ⟨g, 0, none⟩ = some (.bool sa) ∧ w'.cell? ⟨g, 1, none⟩ = some (.slice A x c) ∧ w'.cell? ⟨g + 1, 0, none⟩ = some (.bool sb) ∧ w'.cell? ⟨g + 1, 1, none⟩ = some (.slice B z d))
      (first | exact H4.out.stored _ _ | exact H4.out.cells | exact H1.out.cells | go_keep)
      (first | (go_at_call 96; refine HA.out.mono ?_; rintro e w4 ⟨v, rfl, hv, hb4⟩; have hv4 := Lib.hid hv; obtain ⟨u4, rfl, hu4⟩ := hv; obtain ⟨A4, n4, rfl, _⟩ := hu4; have H4 := Lib.hid (H1.out.below hb4); obtain ⟨r0, r1, s0, s1⟩ := cells_int H4.out.r; clear hb4))
    go_wp2_with fail
    have HF := fin_int H4.out.r hv4.out H4.out.l (by have := H4.out.g; omega)
    refine bodyPost_ret (ret_int27 rfl rfl HF.1) rfl ?_
    exact ⟨_, rfl, HF.2⟩
  · have HA := Lib.hid (against_any (HW.out.1.below hB1.l) (HW.out.2.below hB1.l) hab (by omega) (by omega))
    have hix := idx1
    have hss : (sa != sb) = true := by rw [← hsa, ← hsb]; by_cases h1 : a < 0 <;> by_cases h2 : b < 0 <;> simp [h1, h2] at hab ⊢
    have hss2 : (sa == sb) = false := by rw [← hsa, ← hsb]; by_cases h1 : a < 0 <;> by_cases h2 : b < 0 <;> simp [h1, h2] at hab ⊢
    clear hsa hsb h63 hB hB1 hab
    go_enter Tryz.func58, Tryz.ntmps58
    go_wp2_with fail
    go_region_held3 (fun w' => w'.cell? ⟨g, 0, none⟩ = some (.bool sa) ∧ w'.cell? ⟨g, 1, none⟩ = some (.slice A x c) ∧ w'.cell? ⟨g + 1, 0, none⟩ = some (.bool sb) ∧ w'.cell? ⟨g + 1, 1, none⟩ = some (.slice B z d))
      (first | exact H4.out.stored _ _ | exact H4.out.cells | exact H1.out.cells | go_keep)
      (first | (go_at_call 97; refine HA.out.mono ?_; rintro e w4 ⟨v, rfl, hv, hb4⟩; have hv4 := Lib.hid hv; obtain ⟨u4, rfl, hu4⟩ := hv; obtain ⟨A4, n4, rfl, _⟩ := hu4; have H4 := Lib.hid (H1.out.below hb4); obtain ⟨r0, r1, s0, s1⟩ := cells_int H4.out.r; clear hb4))
    go_wp2_with fail
    have HF := fin_int H4.out.r hv4.out H4.out.l (by have := H4.out.g; omega)
    refine bodyPost_ret (ret_int27 rfl rfl HF.1) rfl ?_
    exact ⟨_, rfl, HF.2⟩
set_option maxRecDepth 100000 in
/-- signed.Check -/
theorem sCheck_any {w : World} {v : Value} {z : Int} (h : WV w v z) : Calls Tryz.prog 89 #[v] w fun e w' => e = .returned (.int .i64 0) ∧ Below w.heap.size w w' := by
  obtain ⟨u, rfl, hn⟩ := h
  have hnn : z < 0 → 0 < z.natAbs := by omega
  obtain ⟨s, hs⟩ : ∃ s, decide (z < 0) = s := ⟨_, rfl⟩
  have hb1 : Below w.heap.size w (w.alloc (.cells #[.bool s, u] 38)) := (Below.refl _ _).alloc (Nat.le_refl _) _
  have HC := Lib.hid (And.intro hb1 (lCheck_any (hn.below hb1)))
  obtain ⟨A, c, rfl, _⟩ := hn
  rw [hs]
  cases s
  · clear hs hnn hb1
    generalize ln z.natAbs = x at HC ⊢
    go_enter Tryz.func89, Tryz.ntmps89
    go_wp2_with fail
    refine HC.out.2.mono ?_
    rintro e w2 ⟨rfl, rfl⟩
    go_wp2_with fail
    go_ret
    exact ⟨rfl, HC.out.1⟩
  · have hp := hnn (by simpa using hs)
    rw [ln_pos hp] at HC ⊢
    clear hs hnn hb1 hp
    go_enter Tryz.func89, Tryz.ntmps89
    go_wp2_with fail
    refine HC.out.2.mono ?_
    rintro e w2 ⟨rfl, rfl⟩
    go_wp2_with fail
    go_ret
    exact ⟨rfl, HC.out.1⟩
/-- A number in a box, and a box for what is told. -/
structure Bx2 (w0 W : World) (g : Nat) (x1 y1 : Value) : Prop where
  a : Bk W g 38 [x1, y1]
  r : Bk W (g + 1) 38 [.bool false, .slice none 0 0]
  l : Below w0.heap.size w0 W
  g : g = w0.heap.size
theorem Bx2.new (w : World) (x1 y1 : Value) : Bx2 w ((w.alloc (.cells #[x1, y1] 38)).alloc (.cells #[.bool false, .slice none 0 0] 38)) w.heap.size x1 y1 := by
  have h2 := Bk.newA (w.alloc (.cells #[x1, y1] 38)) 38 #[.bool false, .slice none 0 0]
  rw [World.size_alloc] at h2
  exact ⟨(Bk.newA w 38 #[x1, y1]).alloc _, h2, ((Below.refl _ _).alloc (Nat.le_refl _) _).alloc (by simp) _, rfl⟩
theorem Bx2.below {w0 W W' : World} {g : Nat} {x1 y1 : Value} (h : Bx2 w0 W g x1 y1) (hb : Below W.heap.size W W') : Bx2 w0 W' g x1 y1 :=
  ⟨h.a.belowS hb, h.r.belowS hb, below_base h.l hb h.l.size, h.g⟩
set_option maxRecDepth 100000 in
/-- signed.held -/
theorem held_any {w : World} {v : Value} {z : Int} (h : WV w v z) : Calls Tryz.prog 101 #[v] w fun e w' => ∃ v, e = .returned v ∧ WV w' v z ∧ Below w.heap.size w w' := by
  obtain ⟨u, rfl, hn⟩ := h
  obtain ⟨s, hs⟩ : ∃ s, decide (z < 0) = s := ⟨_, rfl⟩
  have hB := Bx2.new w (.bool s) u
  obtain ⟨g, hg⟩ : ∃ g, w.heap.size = g := ⟨_, rfl⟩
  rw [hg] at hB
  have hn1 := hn.below hB.l
  obtain ⟨A, c, rfl, _⟩ := hn
  obtain ⟨w1, hw1⟩ : ∃ w1, (w.alloc (.cells #[.bool s, .slice A (ln z.natAbs) c] 38)).alloc (.cells #[.bool false, .slice none 0 0] 38) = w1 := ⟨_, rfl⟩
  rw [hw1] at hB hn1
  have HM := Lib.hid (And.intro hB (And.intro (sMake_any s hn1) hs))
  have c0 : w1.cell? ⟨g, 0, none⟩ = some (.bool s) := hB.a.cell 0
  have c1 : w1.cell? ⟨g, 1, none⟩ = some (.slice A (ln z.natAbs) c) := hB.a.cell 1
  rw [hs]
  generalize ln z.natAbs = x at HM c1 hw1 ⊢
  clear hB hn1 hs
  go_enter Tryz.func101, Tryz.ntmps101
  go_wp2_with fail
  refine HM.out.2.1.mono ?_
  rintro e w5 ⟨v, rfl, hv, hb5⟩
  have hv5 := Lib.hid hv
  obtain ⟨u5, rfl, hu5⟩ := hv
  obtain ⟨A5, n5, rfl, _⟩ := hu5
  have H5 := Lib.hid (HM.out.1.below hb5)
  obtain ⟨r0, r1, s0, s1⟩ := cells_int H5.out.r
  clear hb5
  go_wp2_with fail
  have HF := fin_int H5.out.r hv5.out H5.out.l (by have := H5.out.g; omega)
  refine bodyPost_ret (ret_int27 rfl rfl HF.1) rfl ?_
  have e : sg s z.natAbs = z := by
    rw [← HM.out.2.2]
    unfold sg
    by_cases h : z < 0
    · rw [if_pos (by simpa using h)]; omega
    · rw [if_neg (by simpa using h)]; omega
  exact ⟨_, rfl, HF.2.1.to e, HF.2.2⟩
end Go.Proofs.YtlhipaffhehcnaaGreat
namespace Go.Proofs.YtlhipaffhehcnaaGreat
open Go.RowKit
set_option linter.unusedVariables false
set_option maxRecDepth 100000 in
/-- signed.Neg -/
theorem neg_any {w : World} {v : Value} {z : Int} (h : WV w v z) : Calls Tryz.prog 138 #[v] w fun e w' => ∃ v, e = .returned v ∧ WV w' v (-z) ∧ Below w.heap.size w w' := by
  obtain ⟨u, rfl, hn⟩ := h
  obtain ⟨s, hs⟩ : ∃ s, decide (z < 0) = s := ⟨_, rfl⟩
  have hB := Bx2.new w (.bool s) u
  obtain ⟨g, hg⟩ : ∃ g, w.heap.size = g := ⟨_, rfl⟩
  rw [hg] at hB
  have hn1 := hn.below hB.l
  obtain ⟨A, c, rfl, _⟩ := hn
  obtain ⟨w1, hw1⟩ : ∃ w1, (w.alloc (.cells #[.bool s, .slice A (ln z.natAbs) c] 38)).alloc (.cells #[.bool false, .slice none 0 0] 38) = w1 := ⟨_, rfl⟩
  rw [hw1] at hB hn1
  have HM := Lib.hid (And.intro hB (And.intro (sMake_any (!s) hn1) hs))
  have c0 : w1.cell? ⟨g, 0, none⟩ = some (.bool s) := hB.a.cell 0
  have c1 : w1.cell? ⟨g, 1, none⟩ = some (.slice A (ln z.natAbs) c) := hB.a.cell 1
  rw [hs]
  generalize ln z.natAbs = x at HM c1 hw1 ⊢
  clear hB hn1 hs
  go_enter Tryz.func138, Tryz.ntmps138
  go_wp2_with fail
  refine HM.out.2.1.mono ?_
  rintro e w5 ⟨v, rfl, hv, hb5⟩
  have hv5 := Lib.hid hv
  obtain ⟨u5, rfl, hu5⟩ := hv
  obtain ⟨A5, n5, rfl, _⟩ := hu5
  have H5 := Lib.hid (HM.out.1.below hb5)
  obtain ⟨r0, r1, s0, s1⟩ := cells_int H5.out.r
  clear hb5
  go_wp2_with fail
  have HF := fin_int H5.out.r hv5.out H5.out.l (by have := H5.out.g; omega)
  refine bodyPost_ret (ret_int27 rfl rfl HF.1) rfl ?_
  have e : sg (!s) z.natAbs = -z := by
    rw [← HM.out.2.2]
    unfold sg
    by_cases h : z < 0
    · rw [if_neg (by simp [h])]; omega
    · rw [if_pos (by simp [h])]; omega
  exact ⟨_, rfl, HF.2.1.to e, HF.2.2⟩
/-- On which side of 0 a number is. -/
def sgn (z : Int) : Int := if z < 0 then -1 else if z = 0 then 0 else 1
set_option maxRecDepth 100000 in
/-- signed.Sign -/
theorem sign_any {w : World} {v : Value} {z : Int} (h : WV w v z) : Calls Tryz.prog 66 #[v] w fun e w' => e = .returned (.int .i64 (sgn z)) ∧ Below w.heap.size w w' := by
  have HW := Lib.hid h
  obtain ⟨u, rfl, hn⟩ := h
  obtain ⟨A, c, rfl, _⟩ := hn
  obtain ⟨s, hs⟩ : ∃ s, decide (z < 0) = s := ⟨_, rfl⟩
  rw [hs] at HW ⊢
  generalize ln z.natAbs = x at HW ⊢
  obtain ⟨w1, hw1⟩ : ∃ w1, w.alloc (.cells #[.bool s, .slice A x c] 38) = w1 := ⟨_, rfl⟩
  have hb1 : Below w.heap.size w w1 := by rw [← hw1]; exact (Below.refl _ _).alloc (Nat.le_refl _) _
  have k1 : Bk w1 w.heap.size 38 [.bool s, .slice A x c] := by rw [← hw1]; exact Bk.newA w 38 #[.bool s, .slice A x c]
  have HK := Lib.hid (And.intro hb1 (And.intro k1 (held_any (HW.out.below hb1))))
  obtain ⟨c0, c1, f0, f1⟩ := cells_int k1
  have HS := Lib.hid hs
  clear hb1 k1 hs
  go_enter Tryz.func66, Tryz.ntmps66
  go_wp2_with fail
  refine HK.out.2.2.mono ?_
  rintro e w2 ⟨v, rfl, hv, hb2⟩
  obtain ⟨u2, rfl, hu2⟩ := hv
  obtain ⟨A2, n2, rfl, _⟩ := hu2
  rw [HS.out]
  have k2 := HK.out.2.1.belowS hb2
  obtain ⟨r0, r1, s0, s1⟩ := cells_int k2
  have hfin := ((below_base HK.out.1 hb2 HK.out.1.size).setCell (p := ⟨w.heap.size, 0, none⟩) (Nat.le_refl _) (.bool s)).setCell (p := ⟨w.heap.size, 1, none⟩) (Nat.le_refl _) (.slice A2 (ln z.natAbs) n2)
  have k3 := (k2.set_ 0 (.bool s)).set_ 1 (.slice A2 (ln z.natAbs) n2)
  obtain ⟨w3, hw3⟩ : ∃ w3, (w2.setCell ⟨w.heap.size, 0, none⟩ (.bool s)).setCell ⟨w.heap.size, 1, none⟩ (.slice A2 (ln z.natAbs) n2) = w3 := ⟨_, rfl⟩
  rw [hw3] at hfin k3
  have HF := Lib.hid hfin
  obtain ⟨q0, q1, _, _⟩ := cells_int k3
  clear hb2 k2 hfin k3
  cases s
  · rcases Nat.eq_zero_or_pos z.natAbs with h0 | h0
    · have hz : z = 0 := by omega
      rw [h0, ln_zero] at hw3 q1 ⊢
      clear h0
      go_wp2_with fail
      go_ret
      exact ⟨by rw [hz]; rfl, HF.out⟩
    · have hz : sgn z = 1 := by
        have := HS.out
        unfold sgn
        rw [if_neg (by simpa using this), if_neg (by omega)]
      rw [ln_pos h0] at hw3 q1 ⊢
      clear h0
      go_wp2_with fail
      go_ret
      exact ⟨by rw [hz]; rfl, HF.out⟩
  · have hz : sgn z = -1 := if_pos (by simpa using HS.out)
    go_wp2_with fail
    go_ret
    exact ⟨by rw [hz]; rfl, HF.out⟩
end Go.Proofs.YtlhipaffhehcnaaGreat
namespace Go.Proofs.YtlhipaffhehcnaaGreat
open Go.RowKit
set_option linter.unusedVariables false
/-- A fraction in memory. -/
def RV (w : World) (v : Value) (z : Int) (d : Nat) : Prop := ∃ u t, v = .agg #[.bool (decide (z < 0)), u, t] ∧ NV w u z.natAbs ∧ NV w t d
theorem RV.below {w w' : World} {v : Value} {z : Int} {d : Nat} (h : RV w v z d) (hb : Below w.heap.size w w') : RV w' v z d := by
  obtain ⟨u, t, rfl, h1, h2⟩ := h
  exact ⟨u, t, rfl, h1.below hb, h2.below hb⟩
theorem no_int3 {b : Bool} {A A' : Option Addr} {n c n' c' : Nat} : ∀ (i : Nat) (k : IntKind) (x : Int), ([.bool b, .slice A n c, .slice A' n' c'] : List Value)[i]? ≠ some (.int k x)
  | 0, _, _ => by simp
  | 1, _, _ => by simp
  | 2, _, _ => by simp
  | i + 3, _, _ => by simp
theorem ret_rat27 {fn : Func} {p : Tmp} {tmps : Array Value} {w : World} {g : Nat} {b u t : Value} (h : fn.results = #[.cell p 40]) (hp : tmps.getD p undef = .pointer (some ⟨g, 0, none⟩)) (hb : Bk w g 40 [b, u, t]) : (results fn tmps).run Tryz.prog w = .ok (.agg #[b, u, t]) w :=
  results_cell_row h tmps w g 40 #[b, u, t] (0, 0) _ hp hb Tryz.underlying40 rfl (by kernel_rfl)
theorem cells_rat {w : World} {g : Nat} {x y z : Value} (h : Bk w g 40 [x, y, z]) : w.cell? ⟨g, 0, none⟩ = some x ∧ w.cell? ⟨g, 1, none⟩ = some y ∧ w.cell? ⟨g, 2, none⟩ = some z ∧ w.frozen? ⟨g, 0, none⟩ = false ∧ w.frozen? ⟨g, 1, none⟩ = false ∧ w.frozen? ⟨g, 2, none⟩ = false := ⟨h.cell 0, h.cell 1, h.cell 2, h.frozen 0, h.frozen 1, h.frozen 2⟩
/-- A fraction that is stored into a box for what is told. -/
theorem fin_rat {w w1 : World} {B g n0 c0 n1 c1 : Nat} {b0 b : Bool} {A0 A1 : Option Addr} {u t : Value} {z : Int} {d : Nat} (hk : Bk w1 g 40 [.bool b0, .slice A0 n0 c0, .slice A1 n1 c1]) (hv : RV w1 (.agg #[.bool b, u, t]) z d) (hb : Below B w w1) (hg : B ≤ g) :
    Bk (((w1.setCell ⟨g, 0, none⟩ (.bool b)).setCell ⟨g, 1, none⟩ u).setCell ⟨g, 2, none⟩ t) g 40 [.bool b, u, t] ∧ RV (((w1.setCell ⟨g, 0, none⟩ (.bool b)).setCell ⟨g, 1, none⟩ u).setCell ⟨g, 2, none⟩ t) (.agg #[.bool b, u, t]) z d ∧ Below B w (((w1.setCell ⟨g, 0, none⟩ (.bool b)).setCell ⟨g, 1, none⟩ u).setCell ⟨g, 2, none⟩ t) := by
  obtain ⟨u', t', e, hn, hd⟩ := hv
  injection e with e
  have e1 := congrArg Array.toList e
  simp at e1
  obtain ⟨e1, rfl, rfl⟩ := e1
  have hch := (((Chg.refl (fun k => k = g) w1).set_ (g := g) (show (fun k => k = g) g from rfl) 0 (.bool b)).set_ (g := g) (show (fun k => k = g) g from rfl) 1 u).set_ (g := g) (show (fun k => k = g) g from rfl) 2 t
  refine ⟨((hk.set_ 0 _).set_ 1 u).set_ 2 t, ⟨u, t, by rw [e1], hn.chg hk no_int3 hch, hd.chg hk no_int3 hch⟩, ?_⟩
  exact ((hb.setCell (p := ⟨g, 0, none⟩) hg _).setCell (p := ⟨g, 1, none⟩) hg _).setCell (p := ⟨g, 2, none⟩) hg _
set_option maxRecDepth 100000 in
/-- ratio.by -/
theorem by_any {w : World} {va vb : Value} {a b : Nat} (ha : NV w va a) (hb : NV w vb b) (ha2 : a < 9223372036854775808) (hb0 : 0 < b) (hb2 : b < 9223372036854775808) : Calls Tryz.prog 63 #[va, vb] w fun e w' => ∃ v, e = .returned v ∧ NV w' v (a / b) ∧ Below w.heap.size w w' := by
  have HD := Lib.hid (qDiv_any ha hb ha2 hb0 hb2)
  obtain ⟨A, c, rfl, _⟩ := ha
  obtain ⟨B, d, rfl, _⟩ := hb
  clear ha2 hb0 hb2
  generalize ln a = x at HD ⊢
  generalize ln b = z at HD ⊢
  go_enter Tryz.func63, Tryz.ntmps63
  go_wp2_with fail
  refine HD.out.mono ?_
  rintro e w2 ⟨v, u, rfl, hv, hu, hb⟩
  have H2 := Lib.hid (And.intro hv hb)
  clear hv hu hb
  go_wp2_with fail
  go_ret
  exact ⟨v, rfl, H2.out⟩
set_option maxRecDepth 100000 in
/-- ratio.one -/
theorem one_any {w : World} : Calls Tryz.prog 25 #[] w fun e w' => ∃ v, e = .returned v ∧ NV w' v 1 ∧ Below w.heap.size w w' := by
  go_enter Tryz.func25, Tryz.ntmps25
  go_wp2_with fail
  go_ret
  exact ⟨_, rfl, ⟨_, _, rfl, Nat.le_refl _, Rd.one _ _ _⟩, (Below.refl _ _).alloc (Nat.le_refl _) _⟩
set_option maxRecDepth 100000 in
/-- The closure of ratio.sum. -/
theorem whole1_any {w : World} {v : Value} {n : Nat} (h : NV w v n) : Calls Tryz.prog 57 #[v] w fun e w' => ∃ v', e = .returned v' ∧ WV w' v' (n : Int) ∧ Below w.heap.size w w' := by
  obtain ⟨A, c, rfl, hA1, hA2⟩ := h
  obtain ⟨x, hx⟩ : ∃ x, ln n = x := ⟨_, rfl⟩
  have HA := Lib.hid (And.intro hA1 (And.intro hA2 hx))
  rw [hx]
  clear hA1 hA2 hx
  go_enter Tryz.func57, Tryz.ntmps57
  go_wp2_with fail
  refine bodyPost_ret (ret_int27 rfl rfl (Bk.newA w 38 #[.bool false, .slice A x c])) rfl ?_
  have hb1 : Below w.heap.size w (w.alloc (.cells #[.bool false, .slice A x c] 38)) := (Below.refl _ _).alloc (Nat.le_refl _) _
  exact ⟨_, rfl, ⟨_, by rw [decide_eq_false (by omega)], ⟨A, c, by rw [Int.natAbs_natCast, HA.out.2.2], by rw [Int.natAbs_natCast]; exact HA.out.1, by rw [Int.natAbs_natCast]; exact HA.out.2.1.below hb1⟩⟩, hb1⟩
end Go.Proofs.YtlhipaffhehcnaaGreat
namespace Go.Proofs.YtlhipaffhehcnaaGreat
open Go.RowKit
set_option linter.unusedVariables false
/-- A number in a box, and a box for a fraction that is told. -/
structure BxR (w0 W : World) (g : Nat) (x1 y1 : Value) : Prop where
  a : Bk W g 38 [x1, y1]
  r : Bk W (g + 1) 40 [.bool false, .slice none 0 0, .slice none 0 0]
  l : Below w0.heap.size w0 W
  g : g = w0.heap.size
theorem BxR.new (w : World) (x1 y1 : Value) : BxR w ((w.alloc (.cells #[x1, y1] 38)).alloc (.cells #[.bool false, .slice none 0 0, .slice none 0 0] 40)) w.heap.size x1 y1 := by
  have h2 := Bk.newA (w.alloc (.cells #[x1, y1] 38)) 40 #[.bool false, .slice none 0 0, .slice none 0 0]
  rw [World.size_alloc] at h2
  exact ⟨(Bk.newA w 38 #[x1, y1]).alloc _, h2, ((Below.refl _ _).alloc (Nat.le_refl _) _).alloc (by simp) _, rfl⟩
theorem BxR.below {w0 W W' : World} {g : Nat} {x1 y1 : Value} (h : BxR w0 W g x1 y1) (hb : Below W.heap.size W W') : BxR w0 W' g x1 y1 :=
  ⟨h.a.belowS hb, h.r.belowS hb, below_base h.l hb h.l.size, h.g⟩
theorem BxR.cells {w0 W : World} {g : Nat} {x1 y1 : Value} (h : BxR w0 W g x1 y1) : W.cell? ⟨g, 0, none⟩ = some x1 ∧ W.cell? ⟨g, 1, none⟩ = some y1 := ⟨h.a.cell 0, h.a.cell 1⟩
theorem BxR.stored {w0 W : World} {g : Nat} {x1 y1 : Value} (h : BxR w0 W g x1 y1) (b u t : Value) : (((W.setCell ⟨g + 1, 0, none⟩ b).setCell ⟨g + 1, 1, none⟩ u).setCell ⟨g + 1, 2, none⟩ t).cell? ⟨g, 0, none⟩ = some x1 ∧ (((W.setCell ⟨g + 1, 0, none⟩ b).setCell ⟨g + 1, 1, none⟩ u).setCell ⟨g + 1, 2, none⟩ t).cell? ⟨g, 1, none⟩ = some y1 := by
  have ha := ((h.a.far (p := ⟨g + 1, 0, none⟩) (by show g ≠ g + 1; omega) b).far (p := ⟨g + 1, 1, none⟩) (by show g ≠ g + 1; omega) u).far (p := ⟨g + 1, 2, none⟩) (by show g ≠ g + 1; omega) t
  exact ⟨ha.cell 0, ha.cell 1⟩
/-- What lowest divides by. -/
def qg (z : Int) (d : Nat) : Nat := Nat.gcd z.natAbs d
set_option maxRecDepth 100000 in
set_option maxHeartbeats 4000000 in
/-- ratio.lowest -/
theorem lowest_any {w : World} {va vb : Value} {z : Int} {d : Nat} (ha : WV w va z) (hb : NV w vb d) (hd : 0 < d) (h1 : z.natAbs < 9223372036854775808) (h2 : d < 9223372036854775808) : Calls Tryz.prog 60 #[va, vb] w fun e w' => ∃ v, e = .returned v ∧ RV w' v (sg (decide (z < 0)) (z.natAbs / qg z d)) (d / qg z d) ∧ Below w.heap.size w w' := by
  have HD := Lib.hid hb
  obtain ⟨ua, rfl, hna⟩ := ha
  have HN := Lib.hid hna
  obtain ⟨A, c, rfl, _⟩ := hna
  obtain ⟨B, c', rfl, _⟩ := hb
  generalize decide (z < 0) = sa at *
  generalize ln z.natAbs = x at HN ⊢
  generalize ln d = y at HD ⊢
  obtain ⟨w1, hw1⟩ : ∃ w1, (w.alloc (.cells #[.bool sa, .slice A x c] 38)).alloc (.cells #[.bool false, .slice none 0 0, .slice none 0 0] 40) = w1 := ⟨_, rfl⟩
  have hB := BxR.new w (.bool sa) (.slice A x c)
  rw [hw1] at hB
  obtain ⟨g, hg⟩ : ∃ g, w.heap.size = g := ⟨_, rfl⟩
  rw [hg] at hB
  have H1 := Lib.hid hB
  obtain ⟨c0, c1⟩ := hB.cells
  have HG := Lib.hid (gcd_any (HN.out.below hB.l) (HD.out.below hB.l) h1 h2)
  have hq0 : 0 < qg z d := Nat.gcd_pos_of_pos_right _ hd
  have hq1 : qg z d ≤ d := Nat.le_of_dvd hd (Nat.gcd_dvd_right _ _)
  have HL := Lib.hid (And.intro hq0 (And.intro hq1 (And.intro h1 h2)))
  obtain ⟨q, hq⟩ : ∃ q, qg z d = q := ⟨_, rfl⟩
  have hq' : Nat.gcd z.natAbs d = q := hq
  rw [hq] at HL ⊢
  rw [hq'] at HG
  clear hd h1 h2 hB hq0 hq1 hq hq'
  go_enter Tryz.func60, Tryz.ntmps60
  go_wp2_with fail
  refine HG.out.mono ?_
  rintro e w2 ⟨vq, rfl, hvq, hb2⟩
  have HQ := Lib.hid hvq
  obtain ⟨Q, cq, rfl, _⟩ := hvq
  generalize ln q = yq at HQ ⊢
  have hB2 := (H1.out.below hb2).below (Below.refl _ _).drew
  have H2 := Lib.hid hB2
  have HQ2 := Lib.hid (HQ.out.below (Below.refl _ _).drew)
  have HB1 := Lib.hid (by_any (HN.out.below hB2.l) HQ2.out HL.out.2.2.1 HL.out.1 (by have := HL.out; omega))
  have k2 := (H1.out.below hb2).cells
  clear hb2 hB2 c0 c1
  obtain ⟨c0, c1⟩ := k2
  go_wp2_with fail
  clear c0 c1
  go_region_held3 (fun w' => w'.cell? ⟨g, 0, none⟩ = some (.bool sa) ∧ w'.cell? ⟨g, 1, none⟩ = some (.slice A x c))
    (first | exact H5.out.1.stored _ _ _ | exact H5.out.1.cells | exact H4.out.cells | exact H3.out.cells | exact H2.out.cells | go_keep)
    (first
    | (go_at_call 63; refine HB1.out.mono ?_; clear HB1; rintro e w3 ⟨u, rfl, hu, hb3⟩; have hu3 := Lib.hid hu; have H3 := Lib.hid (H2.out.below hb3); have HQ3 := Lib.hid (HQ2.out.below hb3); clear hu hb3)
    | (go_at_call 50; refine (sMake_any sa hu3.out).mono ?_; rintro e w4 ⟨v, rfl, hv, hb4⟩; have hv4 := Lib.hid hv; obtain ⟨u4, rfl, hu4⟩ := hv; obtain ⟨A4, n4, rfl, _⟩ := hu4; have H4 := Lib.hid (H3.out.below hb4); have HQ4 := Lib.hid (HQ3.out.below hb4); clear hb4)
    | (go_at_call 63; refine (by_any (HD.out.below H4.out.l) HQ4.out HL.out.2.2.2 HL.out.1 (by have := HL.out; omega)).mono ?_; rintro e w5 ⟨t5, rfl, ht5, hb5⟩; have H5 := Lib.hid (And.intro (H4.out.below hb5) (And.intro (hv4.out.below hb5) ht5)); obtain ⟨A5, n5, rfl, _⟩ := ht5; obtain ⟨r0, r1, r2, s0, s1, s2⟩ := cells_rat H5.out.1.r; clear hb5))
  go_wp2_with fail
  have hR : RV w5 (.agg #[.bool (decide (sg sa (z.natAbs / q) < 0)), .slice A4 (ln (sg sa (z.natAbs / q)).natAbs) n4, .slice A5 (ln (d / q)) n5]) (sg sa (z.natAbs / q)) (d / q) := by
    obtain ⟨u6, e6, h6⟩ := H5.out.2.1
    injection e6 with e6
    have e7 := congrArg Array.toList e6
    simp at e7
    exact ⟨_, _, rfl, by rw [e7]; exact h6, H5.out.2.2⟩
  have HF := fin_rat H5.out.1.r hR H5.out.1.l (by have := H5.out.1.g; omega)
  refine bodyPost_ret (ret_rat27 rfl rfl HF.1) rfl ?_
  exact ⟨_, rfl, HF.2⟩
end Go.Proofs.YtlhipaffhehcnaaGreat
