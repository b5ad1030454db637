/- Chapter 11: a packet, as a value, as an argument; forms. -/
import Derived.Test.YtpfamjgdfcnieaaOpen
import Derived.Test.YtpfamjgdfcnieaaBt10
import Derived.Test.YtpfamjgdfcnieaaS09
import Derived.BigQuiet
namespace Go.Proofs.Ytpfamjgdfcnieaa
open Go.ChangeShapes Go.WideShapes Go.ChangeAt Go.RowKit Go.Deep
set_option linter.unusedVariables false
structure PK where
  kd : Int
  ses : Int
  blk : Int
  id : Int
  rsn : Int
  dat : List UInt8
def I64 (n : Int) : Prop := -9223372036854775808 ≤ n ∧ n ≤ 9223372036854775807
def PK.v (p : PK) (A : Option Addr) (n c : Nat) : Value := .agg #[.int .i64 p.kd, .int .i64 p.ses, .int .i64 p.blk, .int .i64 p.id, .int .i64 p.rsn, .slice A n c]
def PA (w : World) (A : Option Addr) (n c : Nat) (p : PK) : Prop :=
  Rd w A n (bys p.dat) ∧ n ≤ c ∧ n ≤ 140737488351232 ∧ p.dat.length = n ∧ I64 p.kd ∧ I64 p.ses ∧ I64 p.blk ∧ I64 p.id ∧ I64 p.rsn
theorem PA.below {w w' : World} {A : Option Addr} {n c : Nat} {p : PK} (h : PA w A n c p) (hb : Below w.heap.size w w') : PA w' A n c p := ⟨h.1.below hb, h.2⟩
section
variable {H : Type} {enc : TypeId × Value → H} {P : Program} {W : World} {spare : Nat → Bool} {held : Bool} {base : Nat}
theorem Sized.parts6 {t : TypeId} {f0 f1 f2 f3 f4 f5 : Field} {d0 d1 d2 d3 d4 d5 : DataW H} (ht : P.underlying t = some (.struct #[f0, f1, f2, f3, f4, f5])) (h : Sized P t (.agg [d0, d1, d2, d3, d4, d5])) : Sized P f5.type d5 := by
  refine fun n hn => h n ?_
  simp [DataW.weights, ht, DataW.weightsEach, hn]
theorem arg_packet {r : Reach} {b0 : Nat} {t e s u : TypeId} {v : Value} {d : DataW H} {p : List MemPlace} {f0 f1 f2 f3 f4 f5 : Field} (ht : P.underlying t = some (.struct #[f0, f1, f2, f3, f4, f5])) (t0 : f0.type = e ∧ f0.offset = 0) (t1 : f1.type = e ∧ f1.offset = 1) (t2 : f2.type = e ∧ f2.offset = 2) (t3 : f3.type = e ∧ f3.offset = 3) (t4 : f4.type = e ∧ f4.offset = 4) (t5 : f5.type = s ∧ f5.offset = 5)
    (he : P.underlying e = some (.int .i64)) (hs : P.underlying s = some (.slice u)) (hu : P.underlying u = some (.int .u8)) (ct : P.cellsOf t = 6) (ce : P.cellsOf e = 1) (cs : P.cellsOf s = 1) (cu : P.cellsOf u = 1) (bu : P.bytesOf u = 1)
    (hv : Value.okWide P W r b0 t v) (h : DataW.Trod enc P W base spare held t v d p) (hz : Sized P t d) :
    ∃ (A : Option Addr) (n c : Nat) (m : PK), v = m.v A n c ∧ PA W A n c m := by
  obtain ⟨l, rfl, hsz⟩ := okWide_struct ht hv
  obtain ⟨fuel, hf⟩ := h
  rw [ct] at hsz
  have hl : ∃ a b c d e f, l = #[a, b, c, d, e, f] := by
    obtain ⟨ll⟩ := l
    match ll, hsz with
    | [a, b, c, d, e, f], _ => exact ⟨a, b, c, d, e, f, rfl⟩
  obtain ⟨v0, v1, v2, v3, v4, v5, rfl⟩ := hl
  obtain ⟨xs, k, _, hxy, _, hxl, hf⟩ := DataW.trod_struct ht hf
  match xs, hxl with
  | [y0, y1, y2, y3, y4, y5], _ =>
    have hcl : (Value.agg #[v0, v1, v2, v3, v4, v5]).cells.toList = [v0, v1, v2, v3, v4, v5] := rfl
    rw [hcl] at hf
    have g0 := hf 0 f0 rfl
    have g1 := hf 1 f1 rfl
    have g2 := hf 2 f2 rfl
    have g3 := hf 3 f3 rfl
    have g4 := hf 4 f4 rfl
    have g5 := hf 5 f5 rfl
    rw [t0.1, t0.2, ce] at g0
    rw [t1.1, t1.2, ce] at g1
    rw [t2.1, t2.2, ce] at g2
    rw [t3.1, t3.2, ce] at g3
    rw [t4.1, t4.2, ce] at g4
    rw [t5.1, t5.2, cs] at g5
    simp only [List.drop_zero, List.drop_succ_cons, List.take_succ_cons, List.take_zero, List.getElem?_cons_zero, List.getElem?_cons_succ] at g0 g1 g2 g3 g4 g5
    simp only [Prod.mk.injEq] at hxy
    obtain ⟨hd, _⟩ := hxy
    subst hd
    obtain ⟨x0, e0, _, w0⟩ := DataW.trod_int he g0
    obtain ⟨x1, e1, _, w1⟩ := DataW.trod_int he g1
    obtain ⟨x2, e2, _, w2⟩ := DataW.trod_int he g2
    obtain ⟨x3, e3, _, w3⟩ := DataW.trod_int he g3
    obtain ⟨x4, e4, _, w4⟩ := DataW.trod_int he g4
    injection e0 with e0 _
    injection e1 with e1 _
    injection e2 with e2 _
    injection e3 with e3 _
    injection e4 with e4 _
    subst e0 e1 e2 e3 e4
    obtain ⟨y5d, y5p⟩ := y5
    obtain ⟨A, n, c, zs, rfl, hr, hl, hm, hsz⟩ := plain_bytes hs hu cu g5
    have z5 := Sized.parts6 ht hz
    rw [t5.1] at z5
    have s5 := hsz z5
    rw [bu, reach_le, Nat.mul_one] at s5
    exact ⟨A, n, c, ⟨x0, x1, x2, x3, x4, zs⟩, rfl, hr, hl, s5, by have := hr.1; simpa [bys_length] using this, bounds_i64 w0, bounds_i64 w1, bounds_i64 w2, bounds_i64 w3, bounds_i64 w4⟩
end
theorem cells6 {w : World} {g : Nat} {T : TypeId} {a b c d e f : Value} (h : Bk w g T [a, b, c, d, e, f]) :
    w.cell? ⟨g, 0, none⟩ = some a ∧ w.cell? ⟨g, 1, none⟩ = some b ∧ w.cell? ⟨g, 2, none⟩ = some c ∧ w.cell? ⟨g, 3, none⟩ = some d ∧ w.cell? ⟨g, 4, none⟩ = some e ∧ w.cell? ⟨g, 5, none⟩ = some f :=
  ⟨h.cell 0, h.cell 1, h.cell 2, h.cell 3, h.cell 4, h.cell 5⟩
theorem cells3 {w : World} {g : Nat} {T : TypeId} {a b c : Value} (h : Bk w g T [a, b, c]) :
    w.cell? ⟨g, 0, none⟩ = some a ∧ w.cell? ⟨g, 1, none⟩ = some b ∧ w.cell? ⟨g, 2, none⟩ = some c := ⟨h.cell 0, h.cell 1, h.cell 2⟩
/-- Is a number from one to another? -/
def win (n a b : Int) : Bool := decide (a ≤ n ∧ n ≤ b)
theorem win_iff {n a b : Int} : win n a b = true ↔ a ≤ n ∧ n ≤ b := decide_eq_true_iff
def fmB (k : Int) : Bool := k == 1 || k == 2
def fmD (k : Int) : Bool := k == 1 || k == 5
def fmR (k : Int) : Int := if k = 4 then 1 else 0
def mst (b : Bool) (n : Int) : Int := if b then n else 0
/-- May a packet be? -/
def pkB (p : PK) : Bool := (win p.kd 1 5 && win p.ses 0 4294967295) && (win p.blk 0 (mst (fmB p.kd) 4294967295) && (win p.id 0 (mst (fmB p.kd && fmD p.kd) 4294967295) && (win p.dat.length (mst (fmD p.kd) 1) (mst (fmD p.kd) 65535) && win p.rsn (fmR p.kd) (fmR p.kd * 15))))
def pkE (p : PK) : Int := if pkB p then 0 else 2
section
variable {w : World}
theorem pwithin_any (n a b : Int) : Calls Try.prog 36 #[.int .i64 n, .int .i64 a, .int .i64 b] w fun e w' => e = .returned (.bool (win n a b)) ∧ w' = w := by
  by_cases h1 : a ≤ n
  · have d1 : decide (a ≤ n) = true := by simpa using h1
    have HW := Lib.hid (show win n a b = decide (n ≤ b) from by unfold win; simp [h1])
    clear h1
    go_enter Try.func36, Try.ntmps36
    go_wp2
    go_ret
    exact ⟨ret_bool (by rw [HW.out]), rfl⟩
  · have d1 : decide (a ≤ n) = false := by simpa using h1
    have HW := Lib.hid (show win n a b = false from by unfold win; simp [h1])
    clear h1
    go_enter Try.func36, Try.ntmps36
    go_wp2
    go_ret
    exact ⟨ret_bool (by rw [HW.out]), rfl⟩
theorem most_any (b : Bool) (n : Int) : Calls Try.prog 37 #[.bool b, .int .i64 n] w fun e w' => e = .returned (.int .i64 (mst b n)) ∧ w' = w := by
  cases b
  all_goals go_enter Try.func37, Try.ntmps37
  all_goals go_wp2
  all_goals go_ret
  all_goals exact ⟨rfl, rfl⟩
end
def formsV : Value := .agg #[.bool false, .bool false, .int .i64 0, .bool true, .bool true, .int .i64 0, .bool true, .bool false, .int .i64 0, .bool false, .bool false, .int .i64 0, .bool false, .bool false, .int .i64 1, .bool false, .bool true, .int .i64 0]
set_option maxRecDepth 100000 in
set_option maxHeartbeats 1600000 in
theorem forms_any {w : World} : Calls Try.prog 29 #[] w fun e w' => e = .returned formsV ∧ Below w.heap.size w w' := by
  go_enter Try.func29, Try.ntmps29
  go_wp2_with fail
  refine bodyPost_ret (v := formsV) (results_cell_row rfl _ _ w.heap.size _ #[.bool false, .bool false, .int .i64 0, .bool true, .bool true, .int .i64 0, .bool true, .bool false, .int .i64 0, .bool false, .bool false, .int .i64 0, .bool false, .bool false, .int .i64 1, .bool false, .bool true, .int .i64 0] (0, 0) _ rfl (Bk.newA w 49 _) Try.underlying49 rfl (by kernel_rfl)) rfl ⟨rfl, (Below.refl _ _).alloc (Nat.le_refl _) _⟩
theorem ixf1 (w : World) : (Instr.index 49 formsV (.int .i64 1)).run Try.prog w = .ok (.agg #[.bool true, .bool true, .int .i64 0]) w := by kernel_rfl
theorem ixf2 (w : World) : (Instr.index 49 formsV (.int .i64 2)).run Try.prog w = .ok (.agg #[.bool true, .bool false, .int .i64 0]) w := by kernel_rfl
theorem ixf3 (w : World) : (Instr.index 49 formsV (.int .i64 3)).run Try.prog w = .ok (.agg #[.bool false, .bool false, .int .i64 0]) w := by kernel_rfl
theorem ixf4 (w : World) : (Instr.index 49 formsV (.int .i64 4)).run Try.prog w = .ok (.agg #[.bool false, .bool false, .int .i64 1]) w := by kernel_rfl
theorem ixf5 (w : World) : (Instr.index 49 formsV (.int .i64 5)).run Try.prog w = .ok (.agg #[.bool false, .bool true, .int .i64 0]) w := by kernel_rfl
theorem ixf {k : Int} (h : win k 1 5 = true) (w : World) : (Instr.index 49 formsV (.int .i64 k)).run Try.prog w = .ok (.agg #[.bool (fmB k), .bool (fmD k), .int .i64 (fmR k)]) w := by
  have hk := win_iff.1 h
  rcases (show k = 1 ∨ k = 2 ∨ k = 3 ∨ k = 4 ∨ k = 5 by omega) with rfl | rfl | rfl | rfl | rfl
  · exact ixf1 w
  · exact ixf2 w
  · exact ixf3 w
  · exact ixf4 w
  · exact ixf5 w
/-- A packet in a block, and all older memory as it was. -/
def PB (w w' : World) (A : Option Addr) (n c : Nat) (p : PK) : Prop :=
  Bk w' w.heap.size 24 [.int .i64 p.kd, .int .i64 p.ses, .int .i64 p.blk, .int .i64 p.id, .int .i64 p.rsn, .slice A n c] ∧ PA w' A n c p ∧ Below w.heap.size w w'
theorem PB.below {w w' w'' : World} {A : Option Addr} {n c : Nat} {p : PK} (h : PB w w' A n c p) (hb : Below w'.heap.size w' w'') : PB w w'' A n c p := ⟨h.1.belowS hb, h.2.1.below hb, below_base h.2.2 hb h.2.2.size⟩
theorem PB.new {w : World} {A : Option Addr} {n c : Nat} {p : PK} (h : PA w A n c p) : PB w (w.alloc (.cells #[.int .i64 p.kd, .int .i64 p.ses, .int .i64 p.blk, .int .i64 p.id, .int .i64 p.rsn, .slice A n c] 24)) A n c p :=
  ⟨Bk.newA w _ _, h.below ((Below.refl _ _).alloc (Nat.le_refl _) _), (Below.refl _ _).alloc (Nat.le_refl _) _⟩
end Go.Proofs.Ytpfamjgdfcnieaa
