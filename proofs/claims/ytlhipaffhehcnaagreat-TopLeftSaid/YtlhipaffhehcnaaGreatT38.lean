/- TopLeft: plan.Make. TopLeft: slices.Equal of a table and its clone; plan.same. TopLeft: digits of a number below ten. TopLeft: digits.Text of three eighths; plan.Holds. -/
import Derived.Test.YtlhipaffhehcnaaGreatT37
namespace Go.Proofs.YtlhipaffhehcnaaGreat
open Go.RowKit Go.Shelf
set_option linter.unusedVariables false
set_option linter.unusedSimpArgs false
/-- A plan's cells. -/
def planC (k M : Nat) (A : Option Addr) (n c : Nat) (e f : R3) : List Value := [.int .i64 (k : Nat), .slice A n c, .bool e.s, .slice e.A e.m e.c, .slice e.B e.n e.d, .int .i64 (M : Nat), .bool f.s, .slice f.A f.m f.c, .slice f.B f.n f.d]
def planV (k M : Nat) (A : Option Addr) (n c : Nat) (e f : R3) : Value := .agg #[.int .i64 (k : Nat), .slice A n c, .bool e.s, .slice e.A e.m e.c, .slice e.B e.n e.d, .int .i64 (M : Nat), .bool f.s, .slice f.A f.m f.c, .slice f.B f.n f.d]
theorem planC_no (k M : Nat) (A : Option Addr) (n c : Nat) (e f : R3) : ∀ (i : Nat) (x : Int), (planC k M A n c e f)[i]? ≠ some (.int .u64 x) := by
  intro i x
  unfold planC
  rcases i with _ | _ | _ | _ | _ | _ | _ | _ | _ | i <;> simp
theorem ret_plan {fn : Func} {p q : Tmp} {tmps : Array Value} {w : World} {g k M n c : Nat} {A : Option Addr} {e f : R3} (h : fn.results = #[.cell p 47, .tmp q]) (hp : tmps.getD p undef = .pointer (some ⟨g, 0, none⟩)) (hb : Bk w g 47 (planC k M A n c e f)) : (results fn tmps).run Tryz.prog w = .ok (.tuple #[planV k M A n c e f, tmps.getD q undef]) w := by
  rw [results_cell_tmp h, hp]
  have := run_loadVar_row (P := Tryz.prog) w g 47 47 #[.int .i64 (k : Nat), .slice A n c, .bool e.s, .slice e.A e.m e.c, .slice e.B e.n e.d, .int .i64 (M : Nat), .bool f.s, .slice f.A f.m f.c, .slice f.B f.n f.d] (0, 0) _ hb Tryz.underlying47 rfl (by kernel_rfl)
  simp [asAddr, this, Result.andThen, planV]
set_option maxRecDepth 100000 in
set_option maxHeartbeats 4000000 in
/-- plan.Make -/
theorem pMake_any {w : World} {A : Option Addr} {nt nc k M : Nat} {t : List Nat} {v : Value} {eps qM : Q} (h : Tb w A nt t) (hv : QV w v eps) (hok : eps.ok = true) (hc : qcmp eps ⟨1, 1⟩ < 0) (hs : 0 < sgn eps.z) (hk : k ≤ 8) (hk1 : 1 ≤ k) (ht : tOk t k = true) (hM : M ≤ 8)
    (hf : ∀ i, i < M → ∃ q, failO t k i = some q ∧ 0 < qcmp q eps) (hfM : failO t k M = some qM) (hcM : qcmp qM eps ≤ 0) :
    Calls Tryz.prog 14 #[.slice A nt nc, .int .i64 (k : Nat), v] w fun e w' => ∃ A' c' e1 f1, e = .returned (.tuple #[planV k M A' nt c' e1 f1, .int .i64 0]) ∧ Tb w' A' nt t ∧ QV w' e1.v eps ∧ QV w' f1.v qM ∧ Below w.heap.size w w' := by
  obtain ⟨re, rfl⟩ := hv.r3
  obtain ⟨g, hg⟩ : ∃ g, w.heap.size = g := ⟨_, rfl⟩
  obtain ⟨w1, hw1⟩ : ∃ w1, (w.alloc (.cells #[.bool re.s, .slice re.A re.m re.c, .slice re.B re.n re.d] 40)).alloc (.cells #[.int .i64 0, .slice none 0 0, .bool false, .slice none 0 0, .slice none 0 0, .int .i64 0, .bool false, .slice none 0 0, .slice none 0 0] 47) = w1 := ⟨_, rfl⟩
  have hb1 : Below w.heap.size w w1 := by rw [← hw1]; exact bl_allocd (bl_allocd (Below.refl _ _) _) _
  have k1 : Bk w1 g 40 re.cells := by rw [← hw1, ← hg]; exact (Bk.newA w 40 #[.bool re.s, .slice re.A re.m re.c, .slice re.B re.n re.d]).alloc _
  have k2 : Bk w1 (g + 1) 47 (planC 0 0 none 0 0 R3.zero R3.zero) := by rw [← hw1, ← hg]; exact Bk.new2 w _ 47 #[.int .i64 0, .slice none 0 0, .bool false, .slice none 0 0, .slice none 0 0, .int .i64 0, .bool false, .slice none 0 0, .slice none 0 0]
  have HL := Lib.hid (least_any (nc := nc) (h.below hb1) (hv.below hb1) hok hc hs hk hk1 ht hM hf hfM hcM)
  have H1 := Lib.hid (And.intro k1 (And.intro k2 (And.intro hb1 (And.intro (h.below hb1) (hv.below hb1)))))
  have HN := Lib.hid (show 0 < nt by have := (tOk_len ht).2.1; have := h.2.1; omega)
  have HG := Lib.hid hg
  have c1 := bk3 k1
  clear h hv hok hc hs hk hk1 ht hM hf hfM hcM hb1 k1 k2
  unfold R3.v at HL ⊢
  go_enter Tryz.func14, Tryz.ntmps14
  go_wp2_with fail
  clear hg hw1 c1
  refine HL.out.mono ?_
  rintro e w2 ⟨u, rfl, hu, hb2⟩
  obtain ⟨rf, rfl⟩ := hu.r3
  obtain ⟨o9, ho9⟩ : ∃ o9 : Obj, o9 = .cells #[.bool rf.s, .slice rf.A rf.m rf.c, .slice rf.B rf.n rf.d] 40 := ⟨_, rfl⟩
  obtain ⟨b9, hb9⟩ : ∃ b9, w2.heap.size = b9 := ⟨_, rfl⟩
  obtain ⟨w3, hw3⟩ : ∃ w3, w2.alloc o9 = w3 := ⟨_, rfl⟩
  have hb3 : Below w2.heap.size w2 w3.drew := by rw [← hw3]; exact (bl_allocd (Below.refl _ _) _).drew
  have k9 : Bk w3.drew b9 40 rf.cells := by rw [← hw3, ← hb9, ho9]; exact (Bk.newA w2 40 #[.bool rf.s, .slice rf.A rf.m rf.c, .slice rf.B rf.n rf.d]).belowS (Below.refl _ _).drew
  have hb23 := bl_next hb2 hb3
  have H3 := Lib.hid (And.intro (H1.out.1.belowS hb23) (And.intro (H1.out.2.1.belowS hb23) (And.intro k9 (And.intro (bl_next H1.out.2.2.1 hb23) (And.intro (H1.out.2.2.2.2.below hb23) (hu.below hb3))))))
  have Q0 := Lib.hid (H1.out.2.2.2.1.below hb23)
  have c5 := bk3 (H1.out.1.belowS hb23)
  have c9 := bk3 k9
  clear hu hb2 hb3 k9 hb23 HL
  unfold R3.v
  go_wp2_with fail
  rw [← ho9, hw3]
  clear ho9 hw3 hb9
  go_region_law (first
    | (go_simp; go_at_call 31; refine (cloneT_any (c := nc) Q0.out).mono ?_; rintro e wa ⟨A1, c1, rfl, hta, hna, hb⟩; have HA := Lib.hid (And.intro hta hb); have HNA := Lib.hid hna; clear hna; have Q1 := Lib.hid (H3.out.2.2.2.2.1.below hb); have ca5 := bk3 (H3.out.1.belowS hb); have ca9 := bk3 (H3.out.2.2.1.belowS hb); clear Q0 hta hb)
    | (go_simp; go_at_call 32; refine (owned_any (q := eps) Q1.out).mono ?_; rintro e wb ⟨u, rfl, hu, hb⟩; obtain ⟨ro, rfl⟩ := hu.r3; have HB := Lib.hid (And.intro hu hb); have cb9 := bk3 ((H3.out.2.2.1.belowS HA.out.2).belowS hb); have kz := (H3.out.2.1.belowS HA.out.2).belowS hb; have z0 := kz.cell 0; have z1 := kz.cell 1; have z2 := kz.cell 2; have z3 := kz.cell 3; have z4 := kz.cell 4; have z5 := kz.cell 5; have z6 := kz.cell 6; have z7 := kz.cell 7; have z8 := kz.cell 8; have f0 := kz.frozen 0; have f1 := kz.frozen 1; have f2 := kz.frozen 2; have f3 := kz.frozen 3; have f4 := kz.frozen 4; have f5 := kz.frozen 5; have f6 := kz.frozen 6; have f7 := kz.frozen 7; have f8 := kz.frozen 8; unfold planC at z0 z1 z2 z3 z4 z5 z6 z7 z8; simp only [List.getElem?_cons_zero, List.getElem?_cons_succ] at z0 z1 z2 z3 z4 z5 z6 z7 z8; clear Q1 hu hb kz; unfold R3.v))
  all_goals go_wp2_with fail
  all_goals
    have hbb := HB.out.2
    have haa := HA.out.2
    have hg := HG.out
    have kz := (H3.out.2.1.belowS haa).belowS hbb
    have hc := (((((((((Chg.refl (fun k => k = g + 1) wb).set_ (g := g + 1) (show (fun k => k = g + 1) (g + 1) from rfl) 0 (.int .i64 (k : Nat))).set_ (g := g + 1) (show (fun k => k = g + 1) (g + 1) from rfl) 1 (.slice A1 nt c1)).set_ (g := g + 1) (show (fun k => k = g + 1) (g + 1) from rfl) 2 (.bool ro.s)).set_ (g := g + 1) (show (fun k => k = g + 1) (g + 1) from rfl) 3 (.slice ro.A ro.m ro.c)).set_ (g := g + 1) (show (fun k => k = g + 1) (g + 1) from rfl) 4 (.slice ro.B ro.n ro.d)).set_ (g := g + 1) (show (fun k => k = g + 1) (g + 1) from rfl) 5 (.int .i64 (M : Nat))).set_ (g := g + 1) (show (fun k => k = g + 1) (g + 1) from rfl) 6 (.bool rf.s)).set_ (g := g + 1) (show (fun k => k = g + 1) (g + 1) from rfl) 7 (.slice rf.A rf.m rf.c)).set_ (g := g + 1) (show (fun k => k = g + 1) (g + 1) from rfl) 8 (.slice rf.B rf.n rf.d)
    have hk := Kq.of_chg 0 hc (num_of_bk kz (planC_no _ _ _ _ _ _ _))
    have hl := bl_next (bl_next H3.out.2.2.2.1 haa) hbb
    refine bodyPost_ret (ret_plan rfl rfl ((((((((((kz).set_ 0 (.int .i64 (k : Nat))).set_ 1 (.slice A1 nt c1)).set_ 2 (.bool ro.s)).set_ 3 (.slice ro.A ro.m ro.c)).set_ 4 (.slice ro.B ro.n ro.d)).set_ 5 (.int .i64 (M : Nat))).set_ 6 (.bool rf.s)).set_ 7 (.slice rf.A rf.m rf.c)).set_ 8 (.slice rf.B rf.n rf.d))) rfl ?_
    refine ⟨A1, c1, ro, rf, rfl, hk.tb (HA.out.1.below hbb) ?_, hk.qv HB.out.1, hk.qv ((H3.out.2.2.2.2.2.below haa).below hbb), hc.below hl (fun k _ e => by omega) hl.size⟩
    intro a ha e
    have h1 := HNA.out HN.out a ha
    have h2 := H3.out.2.1.lt
    omega
end Go.Proofs.YtlhipaffhehcnaaGreat
namespace Go.Proofs.YtlhipaffhehcnaaGreat
open Go.RowKit Go.Shelf
set_option linter.unusedVariables false
set_option linter.unusedSimpArgs false
set_option maxRecDepth 100000 in
theorem equalT_any {w : World} {A A' : Option Addr} {n c c' : Nat} {t : List Nat} (h : Tb w A n t) (h' : Tb w A' n t) :
    Calls Tryz.prog 69 #[.slice A n c, .slice A' n c'] w fun e w' => e = .returned (.bool true) ∧ Below w.heap.size w w' := by
  have hn : n ≤ 3 := h.2.2.1
  have hnI : (n : Int) ≤ 3 := by omega
  have HH := Lib.hid (And.intro h h')
  have HL := Lib.hid h.2.1
  clear h h' hn
  go_enter Tryz.func69, Tryz.ntmps69
  go_wp2_with fail
  go_loopw [5, 13] (fun x i wr => ∃ k q : Nat, k ≤ n ∧ i = .int .i64 k ∧ wr = w.drewN q) (fun x i wr => n - (intOf i).toNat)
  case atStart => exact ⟨0, 0, by omega, rfl, rfl⟩
  case round =>
    obtain ⟨k, q, hk, rfl, hwr⟩ := hrel
    have HW := Lib.hid hwr
    by_cases hlt : k < n
    · obtain ⟨b1, o1, rfl, _, hc1⟩ := HH.out.1.form (by omega)
      obtain ⟨b2, o2, rfl, _, hc2⟩ := HH.out.2.form (by omega)
      have hkt : k < t.length := by rw [HL.out]; exact hlt
      obtain ⟨x, hx⟩ : ∃ x, ((t[k] : Nat) : Int) = x := ⟨_, rfl⟩
      have hc1 : wr.cell? ⟨b1, o1 + k, none⟩ = some (.int .i64 x) := by rw [hwr, ← hx]; exact hc1 k hkt
      have hc2 : wr.cell? ⟨b2, o2 + k, none⟩ = some (.int .i64 x) := by rw [hwr, ← hx]; exact hc2 k hkt
      clear hwr hx
      have kn : (k : Int) < (n : Int) := by omega
      have kd : decide (k < n) = true := by simpa using hlt
      go_wp2_with (go_quiet (fail))
      exact ⟨⟨k + 1, _, by omega, by go_num, by rw [HW.out]; exact World.drewN_drewN ..⟩, by simp [intOf]; omega⟩
    · obtain rfl : k = n := by omega
      have kd : decide (k < k) = false := by simp
      clear hwr
      go_wp2_with fail
      go_ret
      exact ⟨rfl, by rw [HW.out]; exact below_dN (Below.refl _ _) _⟩
set_option maxRecDepth 100000 in
/-- plan.same -/
theorem sameT_any {w : World} {A A' : Option Addr} {n c c' : Nat} {t : List Nat} (h : Tb w A n t) (h' : Tb w A' n t) :
    Calls Tryz.prog 33 #[.slice A n c, .slice A' n c'] w fun e w' => e = .returned (.bool true) ∧ Below w.heap.size w w' := by
  have HE := Lib.hid (equalT_any (c := c) (c' := c') h h')
  clear h h'
  go_enter Tryz.func33, Tryz.ntmps33
  go_wp2_with fail
  refine HE.out.mono ?_
  rintro e w1 ⟨rfl, hb⟩
  have HB := Lib.hid hb
  clear hb
  go_wp2_with fail
  go_ret
  exact ⟨rfl, HB.out⟩
end Go.Proofs.YtlhipaffhehcnaaGreat
namespace Go.Proofs.YtlhipaffhehcnaaGreat
open Go.RowKit Go.Shelf
set_option linter.unusedVariables false
set_option linter.unusedSimpArgs false
set_option maxRecDepth 100000 in
/-- math/bits.Div64 by ten to the 19th -/
theorem div64T_any {w : World} {x : Nat} (hx : x < 10) :
    Calls Tryz.prog 124 #[.int .u64 0, .int .u64 (x : Nat), .int .u64 10000000000000000000] w fun e w' => e = .returned (.tuple #[.int .u64 0, .int .u64 (x : Nat)]) ∧ Below w.heap.size w w' := by
  have e0 : (x : Int) / 10000000000000000000 = 0 := by omega
  have e2 : (x : Int) % 10000000000000000000 = (x : Int) := by omega
  have e1 : IntKind.u64.wrap ((x : Int) / 10000000000000000000) = 0 := by rw [e0]; decide
  have hxI : (x : Int) < 10 := by omega
  have HE := Lib.hid e2
  clear e2
  go_enter Tryz.func124, Tryz.ntmps124
  go_wp2_with fail
  go_quiet (fail)
  go_wp2_with fail
  go_ret2
  refine ⟨?_, below_dN (Below.refl _ _) _⟩
  show Ending.returned (.tuple #[.int .u64 0, .int .u64 ((x : Int) % 10000000000000000000)]) = _
  rw [HE.out]
set_option maxRecDepth 100000 in
/-- quot.Part by ten to the 19th -/
theorem partT_any {w : World} {va : Value} {a : Nat} (ha : NV w va a) (ha1 : 0 < a) (ha2 : a < 10) : Calls Tryz.prog 88 #[va, .int .u64 10000000000000000000] w fun e w' => ∃ A c, e = .returned (.tuple #[.slice A 0 c, .int .u64 (a : Nat), .int .i64 0]) ∧ Below w.heap.size w w' := by
  obtain ⟨A, c, rfl, hA1, hA2⟩ := ha
  rw [ln_pos ha1] at hA1 hA2 ⊢
  rw [dg_pos ha1] at hA2
  obtain ⟨ab, ao, rfl, hab, hac⟩ := hA2.form (by omega)
  have ca0 : w.cell? ⟨ab, ao, none⟩ = some (.int .u64 (a : Int)) := hac 0 _ rfl
  obtain ⟨w1, hw1⟩ : ∃ w1, w.alloc (.cells #[.int .u64 0] 102) = w1 := ⟨_, rfl⟩
  have hmk := run_make_u64 1 (by omega) w
  rw [show (List.replicate 1 (Value.int .u64 0)).toArray = #[.int .u64 0] from rfl, hw1] at hmk
  have hmk' : (Instr.makeSlice 36 (.int .i64 1) (.int .i64 1)).run Tryz.prog w = .ok (.slice (some ⟨w.heap.size, 0, none⟩) 1 1) w1 := hmk
  have hb1 : Below w.heap.size w w1 := by rw [← hw1]; exact (Below.refl w.heap.size w).alloc (Nat.le_refl _) _
  have k1 : Bk w1 w.heap.size 102 [.int .u64 0] := by rw [← hw1]; exact Bk.newA w 102 #[.int .u64 0]
  have ca : w1.cell? ⟨ab, ao, none⟩ = some (.int .u64 (a : Int)) := cell_below2 hb1 hab ca0
  have HA := Lib.hid (And.intro hb1 (And.intro k1 (And.intro ha1 ha2)))
  have hc : (1 : Int) ≤ (c : Int) := by omega
  clear hA1 hA2 hab hac ca0 hw1 hmk hb1 k1 ha1 ha2
  go_enter Tryz.func88, Tryz.ntmps88
  go_wp2_with fail
  go_loopw [8, 9] (fun u v wr => (u = .int .u64 0 ∧ v = .int .i64 0 ∧ wr = w1) ∨ (u = .int .u64 (a : Nat) ∧ v = .int .i64 (-1) ∧ Bk wr w.heap.size 102 [.int .u64 0] ∧ Below w.heap.size w wr)) (fun u v _ => ((intOf v) + 1).toNat)
  case atStart => exact .inl ⟨rfl, rfl, rfl⟩
  case round =>
    rcases hrel with ⟨rfl, rfl, rfl⟩ | ⟨rfl, rfl, hk, hb⟩
    · go_wp2_with fail
      refine (div64T_any (w := wr) (x := a) HA.out.2.2.2).mono ?_
      rintro e w3 ⟨rfl, hb3⟩
      have k3 := HA.out.2.1.belowS hb3
      have c3 : w3.cell? ⟨w.heap.size, 0, none⟩ = some (.int .u64 0) := k3.cell 0
      have f3 : w3.frozen? ⟨w.heap.size, 0, none⟩ = false := k3.frozen 0
      have HE := Lib.hid (And.intro (k3.set_ 0 (.int .u64 0)) ((below_base HA.out.1 hb3 HA.out.1.size).setCell (p := ⟨w.heap.size, 0, none⟩) (Nat.le_refl _) (.int .u64 0)))
      clear hb3 k3
      go_wp2_with fail
      exact ⟨.inr ⟨rfl, rfl, HE.out⟩, by decide⟩
    · have hraw : RawV wr (some ⟨w.heap.size, 0, none⟩) 1 0 := ⟨Rd.of_bk hk (by simp) rfl, fun e => by omega⟩
      have HT := Lib.hid (And.intro (trim_any (c := 1) hraw (Nat.le_refl _) (by omega)) hb)
      clear hk hb hraw
      go_wp2_with fail
      refine HT.out.1.mono ?_
      rintro e w2 ⟨v, rfl, hv, hb⟩
      obtain ⟨A3, c3, rfl, _, _⟩ := hv
      have H2 := Lib.hid (below_base HT.out.2 hb HT.out.2.size)
      rw [ln_zero]
      clear hb
      go_wp2_with fail
      go_ret3
      exact ⟨A3, c3, rfl, H2.out⟩
/-- The digit of a number below ten. -/
def dig1 (n : Nat) : ByteArray := ⟨#[(48 + n).toUInt8]⟩
set_option maxRecDepth 100000 in
/-- digits.part -/
theorem dpart_any {w : World} {n : Nat} (hn : n = 3 ∨ n = 8) : Calls Tryz.prog 104 #[.int .u64 (n : Nat), .bool false] w fun e w' => e = .returned (.string (dig1 n)) ∧ Below w.heap.size w w' := by
  rcases hn with rfl | rfl
  · show Calls Tryz.prog 104 #[.int .u64 3, .bool false] w _
    obtain ⟨w1, hw1⟩ : ∃ w1, w.alloc (.cells (List.replicate 19 (.int .u8 0)).toArray 190) = w1 := ⟨_, rfl⟩
    have hb1 : Below w.heap.size w w1 := by rw [← hw1]; exact bl_allocd (Below.refl _ _) _
    have k1 : Bk w1 w.heap.size 190 (List.replicate 19 (.int .u8 0)) := by rw [← hw1]; exact Bk.newA w 190 (List.replicate 19 (.int .u8 0)).toArray
    have hw1' : w.alloc (.cells #[.int .u8 0, .int .u8 0, .int .u8 0, .int .u8 0, .int .u8 0, .int .u8 0, .int .u8 0, .int .u8 0, .int .u8 0, .int .u8 0, .int .u8 0, .int .u8 0, .int .u8 0, .int .u8 0, .int .u8 0, .int .u8 0, .int .u8 0, .int .u8 0, .int .u8 0] 190) = w1 := hw1
    have H1 := Lib.hid (And.intro hb1 k1)
    clear hb1 k1 hw1
    go_enter Tryz.func104, Tryz.ntmps104
    go_wp2_with fail
    obtain ⟨g, hg⟩ : ∃ g, w.heap.size = g := ⟨_, rfl⟩
    have HG := Lib.hid hg
    rw [hg] at H1 ⊢
    clear hw1' hg
    go_loopg [0, 6] 2 (fun q u v wr => (q = 2 ∧ u = .int .u64 3 ∧ v = .int .i64 19 ∧ wr = w1) ∨ (q = 1 ∧ u = .int .u64 0 ∧ v = .int .i64 18 ∧ wr = w1.setCell ⟨g, 18, none⟩ (.int .u8 51)))
    case atStart => exact .inl ⟨rfl, rfl, rfl, rfl⟩
    case round =>
      rcases hrel with ⟨rfl, rfl, rfl, rfl⟩ | ⟨rfl, rfl, rfl, rfl⟩
      · have c18 := H1.out.2.cell 18
        have f18 := H1.out.2.frozen 18
        simp at c18
        go_wp2_with fail
        go_roundg 1
        case measure => decide
        case rel => exact .inr ⟨rfl, rfl, rfl, rfl⟩
      · have hbk := H1.out.2.set_ 18 (.int .u8 51)
        have hcv := run_bytes_text (P := Tryz.prog) (l := [51]) (c := 1) (Rd.of_bk (off := 18) (n := 1) hbk (by simp) (by simp [bys])) 83 5 9 Tryz.underlying83 Tryz.underlying5 Tryz.underlying9
        have HB := Lib.hid (H1.out.1.setCell (p := ⟨g, 18, none⟩) (Nat.le_refl _) (.int .u8 51))
        clear hbk
        go_wp2_with fail
        go_ret
        exact ⟨rfl, by rw [HG.out]; exact HB.out⟩
  · show Calls Tryz.prog 104 #[.int .u64 8, .bool false] w _
    obtain ⟨w1, hw1⟩ : ∃ w1, w.alloc (.cells (List.replicate 19 (.int .u8 0)).toArray 190) = w1 := ⟨_, rfl⟩
    have hb1 : Below w.heap.size w w1 := by rw [← hw1]; exact bl_allocd (Below.refl _ _) _
    have k1 : Bk w1 w.heap.size 190 (List.replicate 19 (.int .u8 0)) := by rw [← hw1]; exact Bk.newA w 190 (List.replicate 19 (.int .u8 0)).toArray
    have hw1' : w.alloc (.cells #[.int .u8 0, .int .u8 0, .int .u8 0, .int .u8 0, .int .u8 0, .int .u8 0, .int .u8 0, .int .u8 0, .int .u8 0, .int .u8 0, .int .u8 0, .int .u8 0, .int .u8 0, .int .u8 0, .int .u8 0, .int .u8 0, .int .u8 0, .int .u8 0, .int .u8 0] 190) = w1 := hw1
    have H1 := Lib.hid (And.intro hb1 k1)
    clear hb1 k1 hw1
    go_enter Tryz.func104, Tryz.ntmps104
    go_wp2_with fail
    obtain ⟨g, hg⟩ : ∃ g, w.heap.size = g := ⟨_, rfl⟩
    have HG := Lib.hid hg
    rw [hg] at H1 ⊢
    clear hw1' hg
    go_loopg [0, 6] 2 (fun q u v wr => (q = 2 ∧ u = .int .u64 8 ∧ v = .int .i64 19 ∧ wr = w1) ∨ (q = 1 ∧ u = .int .u64 0 ∧ v = .int .i64 18 ∧ wr = w1.setCell ⟨g, 18, none⟩ (.int .u8 56)))
    case atStart => exact .inl ⟨rfl, rfl, rfl, rfl⟩
    case round =>
      rcases hrel with ⟨rfl, rfl, rfl, rfl⟩ | ⟨rfl, rfl, rfl, rfl⟩
      · have c18 := H1.out.2.cell 18
        have f18 := H1.out.2.frozen 18
        simp at c18
        go_wp2_with fail
        go_roundg 1
        case measure => decide
        case rel => exact .inr ⟨rfl, rfl, rfl, rfl⟩
      · have hbk := H1.out.2.set_ 18 (.int .u8 56)
        have hcv := run_bytes_text (P := Tryz.prog) (l := [56]) (c := 1) (Rd.of_bk (off := 18) (n := 1) hbk (by simp) (by simp [bys])) 83 5 9 Tryz.underlying83 Tryz.underlying5 Tryz.underlying9
        have HB := Lib.hid (H1.out.1.setCell (p := ⟨g, 18, none⟩) (Nat.le_refl _) (.int .u8 56))
        clear hbk
        go_wp2_with fail
        go_ret
        exact ⟨rfl, by rw [HG.out]; exact HB.out⟩
theorem str_info : (Tryz.prog.info? 9).map (fun i => (i.zero, i.size, i.bytes)) = some (some (.string ⟨#[]⟩), 1, 16) := by kernel_rfl
set_option maxRecDepth 100000 in
/-- slices.Reverse of one text -/
theorem rev1_any {w : World} {A : Option Addr} {c : Nat} : Calls Tryz.prog 105 #[.slice A 1 c] w fun e w' => (∃ v, e = .returned v) ∧ w = w' := by
  go_enter Tryz.func105, Tryz.ntmps105
  go_wp2_with fail
  go_loopg [2, 3] 1 (fun q u v wr => q = 1 ∧ u = .int .i64 0 ∧ v = .int .i64 0 ∧ wr = w)
  case atStart => exact ⟨rfl, rfl, rfl, rfl⟩
  case round =>
    obtain ⟨rfl, rfl, rfl, rfl⟩ := hrel
    go_wp2_with fail
    go_end0
    exact ⟨⟨_, rfl⟩, rfl⟩
set_option maxRecDepth 100000 in
/-- strings.Join of one text -/
theorem join1_any {w : World} {A : Option Addr} {c : Nat} {s : ByteArray} (h : Rd w A 1 [.string s]) (hc : 1 ≤ c) : Calls Tryz.prog 106 #[.slice A 1 c, .string ⟨#[]⟩] w fun e w' => e = .returned (.string s) ∧ w = w' := by
  obtain ⟨b, off, rfl, _, hcc⟩ := h.form (by decide)
  have c0 : w.cell? ⟨b, off, none⟩ = some (.string s) := hcc 0 _ rfl
  clear h hcc
  go_enter Tryz.func106, Tryz.ntmps106
  go_wp2_with fail
  go_ret
  exact ⟨rfl, rfl⟩
set_option maxRecDepth 100000 in
set_option maxHeartbeats 1000000 in
/-- digits.Put -/
theorem dput_any {w : World} {v : Value} {n : Nat} (h : NV w v n) (hn : n = 3 ∨ n = 8) : Calls Tryz.prog 70 #[v] w fun e w' => e = .returned (.string (dig1 n)) ∧ Below w.heap.size w w' := by
  have hn1 : 0 < n := by omega
  have hn9 : n < 10 := by omega
  obtain ⟨i0, hi0, hz0, hz1, hz2⟩ := info_parts27 str_info
  obtain ⟨A, c, rfl, h1, h2⟩ := h
  have HT := Lib.hid (trim_any (NV.raw h2) h1 (by have := ln_le n; omega))
  have HN := Lib.hid (And.intro hn1 (And.intro hn9 hn))
  clear h1 h2
  rw [ln_pos hn1] at HT ⊢
  clear hn hn1 hn9
  go_enter Tryz.func70, Tryz.ntmps70
  go_wp2_with fail
  refine HT.out.mono ?_
  rintro e w1 ⟨v1, rfl, hv1, hb1⟩
  obtain ⟨A1, c1, rfl, n1, n2⟩ := hv1
  have H1 := Lib.hid (And.intro (show NV w1 (.slice A1 (ln n) c1) n from ⟨A1, c1, rfl, n1, n2⟩) hb1)
  have e1 := ln_pos HN.out.1
  rw [e1] at H1 ⊢
  clear n1 n2 hb1 e1
  go_wp2_with fail
  go_loopg [0, 3] 2 (fun q u v wr => (q = 2 ∧ u = .slice A1 1 c1 ∧ v = .slice none 0 0 ∧ wr = w1) ∨ (q = 1 ∧ (∃ A c, u = .slice A 0 c) ∧ (∃ A c, v = .slice A 1 c ∧ 1 ≤ c ∧ Rd wr A 1 [.string (dig1 n)]) ∧ Below w.heap.size w wr))
  case atStart => exact .inl ⟨rfl, rfl, rfl, rfl⟩
  case round =>
    rcases hrel with ⟨rfl, rfl, rfl, rfl⟩ | ⟨rfl, ⟨A2, c2, rfl⟩, ⟨A3, c3, rfl, hc3, hr3⟩, hb⟩
    · go_wp2_with fail
      refine (partT_any H1.out.1 HN.out.1 HN.out.2.1).mono ?_
      rintro e w2 ⟨A2, c2, rfl, hb2⟩
      have H2 := Lib.hid (bl_next H1.out.2 hb2)
      clear hb2
      go_wp2_with fail
      refine (dpart_any HN.out.2.2).mono ?_
      rintro e w3 ⟨rfl, hb3⟩
      have H3 := Lib.hid (bl_next H2.out hb3)
      clear hb3
      go_wp2_with (at_builtin; refine wpList_append_rd _ rfl (.tmp 21) (.tmp 27) _ rfl w3.heap.size 9 i0 _ 1 16 Tryz.underlying156 hi0 hz0 hz1 hz2 rfl (by omega) _ 0 [] rfl (World.ownsRow_nil _ _ _ _) (some ⟨w3.heap.size, 0, none⟩) 1 1 [.string (dig1 n)] rfl (Rd.one _ _ _) (by intro u hu; rw [List.mem_singleton.1 hu]; rfl) (by simp only [maxLen]; omega) (by omega) (by rw [World.size_alloc]; omega) ?_; intro v4 w4 hown4 hg4 hat4)
      obtain ⟨A4, c4, rfl, hc4, _⟩ := own_form hown4
      have H4 := Lib.hid (And.intro hc4 (And.intro (Rd.of_own hown4) (bl_next H3.out (((Below.refl w3.heap.size w3).alloc (Nat.le_refl _) (.cells #[.string (dig1 n)] 9)).grown hg4 (by rw [World.size_alloc]; omega) (fun k hk => by cases hk)))))
      clear hown4 hg4 hat4 hc4
      go_wp2_with fail
      go_roundg 1
      case measure => decide
      case rel => exact .inr ⟨rfl, ⟨A2, c2, rfl⟩, ⟨A4, c4, rfl, H4.out.1, H4.out.2.1⟩, H4.out.2.2⟩
    · have H5 := Lib.hid (And.intro hr3 (And.intro hc3 hb))
      clear hr3 hc3 hb
      go_wp2_with fail
      refine rev1_any.mono ?_
      rintro e w5 ⟨⟨v5, rfl⟩, rfl⟩
      go_wp2_with fail
      refine (join1_any H5.out.1 H5.out.2.1).mono ?_
      rintro e w6 ⟨rfl, rfl⟩
      go_wp2_with fail
      go_ret
      exact ⟨rfl, H5.out.2.2⟩
end Go.Proofs.YtlhipaffhehcnaaGreat
namespace Go.Proofs.YtlhipaffhehcnaaGreat
open Go.RowKit Go.Shelf
set_option linter.unusedVariables false
set_option linter.unusedSimpArgs false
def txt38 : ByteArray := dig1 3 ++ (⟨#[47]⟩ ++ dig1 8)
set_option maxRecDepth 100000 in
set_option maxHeartbeats 1000000 in
/-- digits.Text -/
theorem text_any {w : World} {v : Value} (h : QV w v ⟨3, 8⟩) : Calls Tryz.prog 34 #[v] w fun e w' => e = .returned (.tuple #[.string txt38, .int .i64 0]) ∧ Below w.heap.size w w' := by
  obtain ⟨r, rfl⟩ := h.r3
  obtain ⟨g, hg⟩ : ∃ g, w.heap.size = g := ⟨_, rfl⟩
  obtain ⟨w1, hw1⟩ : ∃ w1, w.alloc (.cells #[.bool r.s, .slice r.A r.m r.c, .slice r.B r.n r.d] 40) = w1 := ⟨_, rfl⟩
  have hb1 : Below w.heap.size w w1 := by rw [← hw1]; exact bl_allocd (Below.refl _ _) _
  have k1 : Bk w1 g 40 r.cells := by rw [← hw1, ← hg]; exact Bk.newA w 40 #[.bool r.s, .slice r.A r.m r.c, .slice r.B r.n r.d]
  have H1 := Lib.hid (And.intro (h.below hb1) (And.intro k1 hb1))
  have c1 := bk3 k1
  have es : r.s = false := (h.parts).1
  have HS := Lib.hid es
  clear h hb1 k1 es
  unfold R3.v
  go_enter Tryz.func34, Tryz.ntmps34
  go_wp2_with fail
  clear hg hw1
  refine (check_q H1.out.1 rfl).mono ?_
  rintro e w2 ⟨rfl, hb2⟩
  have H2 := Lib.hid (And.intro (H1.out.1.below hb2) (And.intro (H1.out.2.1.belowS hb2) (bl_next H1.out.2.2 hb2)))
  have c2 := bk3 (H1.out.2.1.belowS hb2)
  clear hb2 c1
  go_wp2_with fail
  refine (dput_any (n := 3) H2.out.1.parts.2.1 (.inl rfl)).mono ?_
  rintro e w3 ⟨rfl, hb3⟩
  have H3 := Lib.hid (And.intro (H2.out.1.below hb3) (And.intro (H2.out.2.1.belowS hb3) (bl_next H2.out.2.2 hb3)))
  have c3 := bk3 (H2.out.2.1.belowS hb3)
  rw [HS.out] at c3
  clear hb3 c2
  go_wp2_with fail
  refine (lOne_any (n := 8) H3.out.1.parts.2.2).mono ?_
  rintro e w4 ⟨rfl, rfl⟩
  go_wp2_with fail
  refine (dput_any (n := 8) H3.out.1.parts.2.2 (.inr rfl)).mono ?_
  rintro e w5 ⟨rfl, hb5⟩
  have H5 := Lib.hid (bl_next H3.out.2.2 hb5)
  clear hb5 c3
  have z3 : (dig1 3).size = 1 := rfl
  have z8 : (dig1 8).size = 1 := rfl
  go_wp2_with fail
  go_ret2
  exact ⟨rfl, H5.out⟩
theorem plan_cells {W : World} {g k M n c : Nat} {A : Option Addr} {e f : R3} (h : Bk W g 47 (planC k M A n c e f)) : W.cell? ⟨g, 0, none⟩ = some (.int .i64 (k : Nat)) ∧ W.cell? ⟨g, 1, none⟩ = some (.slice A n c) ∧ W.cell? ⟨g, 2, none⟩ = some (.bool e.s) ∧ W.cell? ⟨g, 3, none⟩ = some (.slice e.A e.m e.c) ∧ W.cell? ⟨g, 4, none⟩ = some (.slice e.B e.n e.d) ∧ W.cell? ⟨g, 5, none⟩ = some (.int .i64 (M : Nat)) ∧ W.cell? ⟨g, 6, none⟩ = some (.bool f.s) ∧ W.cell? ⟨g, 7, none⟩ = some (.slice f.A f.m f.c) ∧ W.cell? ⟨g, 8, none⟩ = some (.slice f.B f.n f.d) :=
  ⟨h.cell 0, h.cell 1, h.cell 2, h.cell 3, h.cell 4, h.cell 5, h.cell 6, h.cell 7, h.cell 8⟩
set_option maxRecDepth 100000 in
set_option maxHeartbeats 1000000 in
/-- plan.Holds -/
theorem holds_any {w : World} {A : Option Addr} {nt nc k M : Nat} {t : List Nat} {re rf : R3} {eps : Q} (h : Tb w A nt t) (hv : QV w re.v eps) (hfl : QV w rf.v ⟨3, 8⟩) (hok : eps.ok = true) (hc : qcmp eps ⟨1, 1⟩ < 0) (hs : 0 < sgn eps.z) (hk : k ≤ 8) (hk1 : 1 ≤ k) (ht : tOk t k = true) (hM : M ≤ 8)
    (hf : ∀ i, i < M → ∃ q, failO t k i = some q ∧ 0 < qcmp q eps) (hfM : failO t k M = some ⟨3, 8⟩) (hcM : qcmp ⟨3, 8⟩ eps ≤ 0) :
    Calls Tryz.prog 15 #[planV k M A nt nc re rf] w fun e w' => e = .returned (.bool true) ∧ Below w.heap.size w w' := by
  obtain ⟨g, hg⟩ : ∃ g, w.heap.size = g := ⟨_, rfl⟩
  obtain ⟨w1, hw1⟩ : ∃ w1, w.alloc (.cells #[.int .i64 (k : Nat), .slice A nt nc, .bool re.s, .slice re.A re.m re.c, .slice re.B re.n re.d, .int .i64 (M : Nat), .bool rf.s, .slice rf.A rf.m rf.c, .slice rf.B rf.n rf.d] 47) = w1 := ⟨_, rfl⟩
  have hb1 : Below w.heap.size w w1 := by rw [← hw1]; exact bl_allocd (Below.refl _ _) _
  have k1 : Bk w1 g 47 (planC k M A nt nc re rf) := by rw [← hw1, ← hg]; exact Bk.newA w 47 _
  have HL := Lib.hid (pMake_any (nc := nc) (h.below hb1) (hv.below hb1) hok hc hs hk hk1 ht hM hf hfM hcM)
  have H1 := Lib.hid (And.intro k1 (And.intro hb1 (And.intro (h.below hb1) (hfl.below hb1))))
  have c1 := plan_cells k1
  have hM8 : (M : Int) ≤ 8 := by omega
  clear h hv hfl hok hc hs hk hk1 ht hM hf hfM hcM hb1 k1
  unfold planV
  unfold R3.v at HL
  go_enter Tryz.func15, Tryz.ntmps15
  go_wp2_with fail
  clear hg hw1
  refine HL.out.mono ?_
  rintro e w2 ⟨A2, c2, e2, f2, rfl, ht2, _, hf2, hb2⟩
  obtain ⟨o3, ho3⟩ : ∃ o3 : Obj, o3 = .cells #[.int .i64 (k : Nat), .slice A2 nt c2, .bool e2.s, .slice e2.A e2.m e2.c, .slice e2.B e2.n e2.d, .int .i64 (M : Nat), .bool f2.s, .slice f2.A f2.m f2.c, .slice f2.B f2.n f2.d] 47 := ⟨_, rfl⟩
  obtain ⟨g3, hg3⟩ : ∃ g3, w2.heap.size = g3 := ⟨_, rfl⟩
  obtain ⟨w3, hw3⟩ : ∃ w3, w2.alloc o3 = w3 := ⟨_, rfl⟩
  have hb3 : Below w2.heap.size w2 w3 := by rw [← hw3]; exact bl_allocd (Below.refl _ _) _
  have k3 : Bk w3 g3 47 (planC k M A2 nt c2 e2 f2) := by rw [← hw3, ← hg3, ho3]; exact Bk.newA w2 47 _
  have hb23 := bl_next hb2 hb3
  have H3 := Lib.hid (And.intro (H1.out.1.belowS hb23) (And.intro k3 (And.intro (bl_next H1.out.2.1 hb23) (And.intro (ht2.below hb3) (And.intro (H1.out.2.2.1.below hb23) (And.intro (hf2.below hb3) (H1.out.2.2.2.below hb23)))))))
  have c13 := plan_cells (H1.out.1.belowS hb23)
  have c3 := plan_cells k3
  rw [← hw3, ho3] at c13
  rw [← hw3, ← hg3, ho3] at c3
  clear ht2 hf2 hb2 hb3 k3 hb23 HL c1
  unfold planV
  go_wp2_with fail
  rw [← ho3, hw3]
  clear c13 c3 ho3 hw3 hg3
  refine (sameT_any (c := c2) (c' := nc) H3.out.2.2.2.1 H3.out.2.2.2.2.1).mono ?_
  rintro e w4 ⟨rfl, hb4⟩
  have H4 := Lib.hid (And.intro (H3.out.1.belowS hb4) (And.intro (H3.out.2.1.belowS hb4) (And.intro (bl_next H3.out.2.2.1 hb4) (And.intro (H3.out.2.2.2.2.2.1.below hb4) (H3.out.2.2.2.2.2.2.below hb4)))))
  have c4 := plan_cells (H3.out.1.belowS hb4)
  clear hb4
  go_wp2_with fail
  refine (text_any (v := rf.v) H4.out.2.2.2.2).mono ?_
  rintro e w5 ⟨rfl, hb5⟩
  have H5 := Lib.hid (And.intro (H4.out.2.1.belowS hb5) (And.intro (bl_next H4.out.2.2.1 hb5) (H4.out.2.2.2.1.below hb5)))
  have c5 := plan_cells (H4.out.2.1.belowS hb5)
  clear hb5 c4
  go_wp2_with fail
  refine (text_any H5.out.2.2).mono ?_
  rintro e w6 ⟨rfl, hb6⟩
  have H6 := Lib.hid (bl_next H5.out.2.1 hb6)
  clear hb6 c5
  have hs := Lib.hid (show (txt38 == txt38) = true from by kernel_rfl)
  go_wp2_with fail
  go_ret
  exact ⟨rfl, H6.out⟩
end Go.Proofs.YtlhipaffhehcnaaGreat
