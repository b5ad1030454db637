/- A manifest: as a value, as an argument; which may be. -/
import Derived.Test.YtchdjbbhhjjmkaaOpen
import Derived.Test.YtchdjbbhhjjmkaaE14
namespace Go.Proofs.Ytchdjbbhhjjmkaa
open Go.ChangeShapes Go.WideShapes Go.ChangeAt Go.RowKit Go.Deep
set_option linter.unusedVariables false
structure MF where
  z : Int
  s : Int
  k : Int
  d : Int
  t : List Int
def R64 (n : Int) : Prop := -9223372036854775808 ≤ n ∧ n ≤ 9223372036854775807
def MF.v (m : MF) (A : Option Addr) (n c : Nat) : Value := .agg #[.int .i64 m.z, .int .i64 m.s, .int .i64 m.k, .int .i64 m.d, .slice A n c]
def MA (w : World) (A : Option Addr) (n c : Nat) (m : MF) : Prop :=
  Rd w A n (nums m.t) ∧ n ≤ c ∧ n ≤ 17592186043904 ∧ m.t.length = n ∧ R64 m.z ∧ R64 m.s ∧ R64 m.k ∧ R64 m.d ∧ ∀ x ∈ m.t, R64 x
theorem MA.below {w w' : World} {A : Option Addr} {n c : Nat} {m : MF} (h : MA w A n c m) (hb : Below w.heap.size w w') : MA w' A n c m := ⟨h.1.below hb, h.2⟩
section
variable {H : Type} {enc : TypeId × Value → H} {P : Program} {W : World} {spare : Nat → Bool} {held : Bool} {base : Nat}
theorem Sized.parts5 {t : TypeId} {f0 f1 f2 f3 f4 : Field} {d0 d1 d2 d3 d4 : DataW H} (ht : P.underlying t = some (.struct #[f0, f1, f2, f3, f4])) (h : Sized P t (.agg [d0, d1, d2, d3, d4])) : Sized P f4.type d4 := by
  refine fun n hn => h n ?_
  simp [DataW.weights, ht, DataW.weightsEach, hn]
theorem arg_manifest {r : Reach} {b0 : Nat} {t e s : TypeId} {v : Value} {d : DataW H} {p : List MemPlace} {f0 f1 f2 f3 f4 : Field} (ht : P.underlying t = some (.struct #[f0, f1, f2, f3, f4])) (t0 : f0.type = e ∧ f0.offset = 0) (t1 : f1.type = e ∧ f1.offset = 1) (t2 : f2.type = e ∧ f2.offset = 2) (t3 : f3.type = e ∧ f3.offset = 3) (t4 : f4.type = s ∧ f4.offset = 4)
    (he : P.underlying e = some (.int .i64)) (hs : P.underlying s = some (.slice e)) (ct : P.cellsOf t = 5) (ce : P.cellsOf e = 1) (cs : P.cellsOf s = 1) (be : P.bytesOf e = 8)
    (hv : Value.okWide P W r b0 t v) (h : DataW.Trod enc P W base spare held t v d p) (hz : Sized P t d) :
    ∃ (A : Option Addr) (n c : Nat) (m : MF), v = m.v A n c ∧ MA W A n c m := by
  obtain ⟨l, rfl, hsz⟩ := okWide_struct ht hv
  obtain ⟨fuel, hf⟩ := h
  rw [ct] at hsz
  have hl : ∃ a b c d e, l = #[a, b, c, d, e] := by
    obtain ⟨ll⟩ := l
    match ll, hsz with
    | [a, b, c, d, e], _ => exact ⟨a, b, c, d, e, rfl⟩
  obtain ⟨v0, v1, v2, v3, v4, rfl⟩ := hl
  obtain ⟨xs, k, _, hxy, _, hxl, hf⟩ := DataW.trod_struct ht hf
  match xs, hxl with
  | [y0, y1, y2, y3, y4], _ =>
    have hcl : (Value.agg #[v0, v1, v2, v3, v4]).cells.toList = [v0, v1, v2, v3, v4] := rfl
    rw [hcl] at hf
    have g0 := hf 0 f0 rfl
    have g1 := hf 1 f1 rfl
    have g2 := hf 2 f2 rfl
    have g3 := hf 3 f3 rfl
    have g4 := hf 4 f4 rfl
    rw [t0.1, t0.2, ce] at g0
    rw [t1.1, t1.2, ce] at g1
    rw [t2.1, t2.2, ce] at g2
    rw [t3.1, t3.2, ce] at g3
    rw [t4.1, t4.2, cs] at g4
    simp only [List.drop_zero, List.drop_succ_cons, List.take_succ_cons, List.take_zero, List.getElem?_cons_zero, List.getElem?_cons_succ] at g0 g1 g2 g3 g4
    simp only [Prod.mk.injEq] at hxy
    obtain ⟨hd, _⟩ := hxy
    subst hd
    obtain ⟨x0, e0, _, w0⟩ := DataW.trod_int he g0
    obtain ⟨x1, e1, _, w1⟩ := DataW.trod_int he g1
    obtain ⟨x2, e2, _, w2⟩ := DataW.trod_int he g2
    obtain ⟨x3, e3, _, w3⟩ := DataW.trod_int he g3
    injection e0 with e0 _
    injection e1 with e1 _
    injection e2 with e2 _
    injection e3 with e3 _
    subst e0 e1 e2 e3
    obtain ⟨y4d, y4p⟩ := y4
    obtain ⟨A, n, c, zs, rfl, hr, hl, hm, hw, hsz⟩ := plain_ints hs he ce g4
    have z4 := Sized.parts5 ht hz
    rw [t4.1] at z4
    have s4 := hsz z4
    rw [be, reach_le] at s4
    exact ⟨A, n, c, ⟨x0, x1, x2, x3, zs⟩, rfl, hr, hl, by omega, by have := hr.1; simpa [nums_length] using this, bounds_i64 w0, bounds_i64 w1, bounds_i64 w2, bounds_i64 w3, fun x hx => bounds_i64 (hw x hx)⟩
end
/-- Is a number from one to another? -/
def win (n a b : Int) : Bool := decide (a ≤ n ∧ n ≤ b)
theorem win_iff {n a b : Int} : win n a b = true ↔ a ≤ n ∧ n ≤ b := decide_eq_true_iff
def wtB (l : List Int) : Bool := l.all fun x => win x 0 16777215
def tabB (l : List Int) : Bool := wtB l && l.any fun x => decide (0 < x)
def mfB (m : MF) : Bool := win m.z 0 4294967295 && (win m.s 1 65535 && (win m.k 1 65536 && (decide (0 ≤ m.d) && (decide (m.t.length ≤ 10000) && (decide ((m.t.length : Int) ≤ m.k) && tabB m.t)))))
theorem mfB_iff {m : MF} : mfB m = true ↔ (0 ≤ m.z ∧ m.z ≤ 4294967295) ∧ (1 ≤ m.s ∧ m.s ≤ 65535) ∧ (1 ≤ m.k ∧ m.k ≤ 65536) ∧ 0 ≤ m.d ∧ m.t.length ≤ 10000 ∧ (m.t.length : Int) ≤ m.k ∧ tabB m.t = true := by
  unfold mfB
  simp only [Bool.and_eq_true, win_iff, decide_eq_true_eq]
def mfE (m : MF) : Int := if mfB m then 0 else 2
def mfN (m : MF) : Int := if mfB m then (m.z + m.k * m.s - 1) / (m.k * m.s) else 0
def prE (m : MF) (b : Int) : Int := if mfB m then (if 0 ≤ b ∧ b < mfN m then 0 else 3) else 2
def prF (m : MF) (b : Int) : Int := if prE m b = 0 then b * (m.k * m.s) else 0
def prS (m : MF) (b : Int) : Int := if prE m b = 0 then min (m.k * m.s) (m.z - b * (m.k * m.s)) else 0
theorem wtB_take_succ {l : List Int} {k : Nat} (hk : k < l.length) : wtB (l.take (k + 1)) = (wtB (l.take k) && win l[k] 0 16777215) := by
  unfold wtB; rw [List.take_succ_eq_append_getElem hk, List.all_append]; simp
theorem any_take_succ {l : List Int} {k : Nat} (hk : k < l.length) (p : Int → Bool) : (l.take (k + 1)).any p = ((l.take k).any p || p l[k]) := by
  rw [List.take_succ_eq_append_getElem hk, List.any_append]; simp
theorem wtB_of {l : List Int} {k : Nat} (hk : k < l.length) (h : win l[k] 0 16777215 = false) : wtB l = false := by
  unfold wtB
  rw [List.all_eq_false]
  exact ⟨l[k], List.getElem_mem _, by rw [h]; simp⟩
/-- What full is, and what sums and products come to, of one that may be. -/
theorem mf_full {m : MF} (h : mfB m = true) : 1 ≤ m.k * m.s ∧ m.k * m.s ≤ 4294967296 := by
  obtain ⟨_, h1, h2, _⟩ := mfB_iff.1 h
  have a : (1 : Int) * 1 ≤ m.k * m.s := Int.mul_le_mul h2.1 h1.1 (by omega) (by omega)
  have b : m.k * m.s ≤ 65536 * 65535 := Int.mul_le_mul h2.2 h1.2 (by omega) (by omega)
  exact ⟨by omega, by omega⟩
theorem mfN_range {m : MF} : 0 ≤ mfN m ∧ mfN m ≤ 8589934592 := by
  unfold mfN
  split
  · rename_i h
    have hf := mf_full h
    have hz := (mfB_iff.1 h).1
    refine ⟨Int.ediv_nonneg (by omega) (by omega), ?_⟩
    exact Int.le_trans (Int.ediv_le_self _ (by omega)) (by omega)
  · omega
theorem prF_range {m : MF} {b : Int} (h : mfB m = true) (hb : 0 ≤ b ∧ b < mfN m) : 0 ≤ b * (m.k * m.s) ∧ b * (m.k * m.s) < m.z := by
  have hf := mf_full h
  have hz := (mfB_iff.1 h).1
  have hN : mfN m = (m.z + m.k * m.s - 1) / (m.k * m.s) := by unfold mfN; rw [if_pos h]
  rw [hN] at hb
  refine ⟨Int.mul_nonneg hb.1 (by omega), ?_⟩
  have h1 : b + 1 ≤ (m.z + m.k * m.s - 1) / (m.k * m.s) := by omega
  have h2 := (Int.le_ediv_iff_mul_le (by omega)).1 h1
  rw [Int.add_mul, Int.one_mul] at h2
  omega
end Go.Proofs.Ytchdjbbhhjjmkaa
