/- What items among the arguments of a statement come to. -/
import Derived.Test.YtdepmogibhmdaaaOpen
import Derived.Test.YtdepmogibhmdaaaKo10
import Derived.Deep.SlicePairs
namespace Go.Proofs.Ytdepmogibhmdaaa
open Go.ChangeShapes Go.WideShapes Go.ChangeAt Go.RowKit Go.Deep
set_option linter.unusedVariables false
/-- An item. -/
structure It where
  raws : Bool
  wd : Int
  n : Int
  b : List UInt8
instance : Inhabited It := ⟨⟨false, 0, 0, []⟩⟩
def I64 (n : Int) : Prop := -9223372036854775808 ≤ n ∧ n ≤ 9223372036854775807
/-- An item in memory. -/
def ItAt (w : World) (a off : Nat) (it : It) : Prop :=
  w.cell? ⟨a, off, none⟩ = some (.bool it.raws) ∧ w.cell? ⟨a, off + 1, none⟩ = some (.int .i64 it.wd) ∧ w.cell? ⟨a, off + 2, none⟩ = some (.int .i64 it.n) ∧
    ∃ B m c, w.cell? ⟨a, off + 3, none⟩ = some (.slice B m c) ∧ Rd w B m (bys it.b) ∧ m ≤ c ∧ m ≤ 140737488351232 ∧ I64 it.wd ∧ I64 it.n
theorem ItAt.below {w w' : World} {a off : Nat} {it : It} (h : ItAt w a off it) (ha : a < w.heap.size) (hb : Below w.heap.size w w') : ItAt w' a off it := by
  obtain ⟨h0, h1, h2, B, m, c, h3, h4, h5⟩ := h
  exact ⟨(hb.cell (p := ⟨a, off, none⟩) ha).trans h0, (hb.cell (p := ⟨a, off + 1, none⟩) ha).trans h1, (hb.cell (p := ⟨a, off + 2, none⟩) ha).trans h2, B, m, c, (hb.cell (p := ⟨a, off + 3, none⟩) ha).trans h3, h4.below hb, h5⟩
/-- A slice of items. -/
def Its (w : World) (A : Option Addr) (n : Nat) (its : List It) : Prop :=
  its.length = n ∧ (0 < n → ∃ a off, A = some ⟨a, off, none⟩ ∧ a < w.heap.size ∧ ∀ (i : Nat) (h : i < its.length), ItAt w a (off + i * 4) its[i])
theorem Its.below {w w' : World} {A : Option Addr} {n : Nat} {its : List It} (h : Its w A n its) (hb : Below w.heap.size w w') : Its w' A n its := by
  refine ⟨h.1, fun hn => ?_⟩
  obtain ⟨a, off, e, ha, hx⟩ := h.2 hn
  exact ⟨a, off, e, Nat.lt_of_lt_of_le ha hb.size, fun i hi => (hx i hi).below ha hb⟩
section
variable {H : Type} {enc : TypeId × Value → H} {P : Program} {W : World} {spare : Nat → Bool} {held : Bool} {base : Nat}
theorem Sized.parts4 {t : TypeId} {f0 f1 f2 f3 : Field} {d0 d1 d2 d3 : DataW H} (ht : P.underlying t = some (.struct #[f0, f1, f2, f3])) (h : Sized P t (.agg [d0, d1, d2, d3])) : Sized P f3.type d3 := by
  refine fun n hn => h n ?_
  simp [DataW.weights, ht, DataW.weightsEach, hn]
theorem item_cells {e s b i u : TypeId} {f0 f1 f2 f3 : Field} (he : P.underlying e = some (.struct #[f0, f1, f2, f3])) (t0 : f0.type = b ∧ f0.offset = 0) (t1 : f1.type = i ∧ f1.offset = 1) (t2 : f2.type = i ∧ f2.offset = 2) (t3 : f3.type = s ∧ f3.offset = 3)
    (hb : P.underlying b = some .bool) (hi : P.underlying i = some (.int .i64)) (hs : P.underlying s = some (.slice u)) (hu : P.underlying u = some (.int .u8)) (cb : P.cellsOf b = 1) (ci : P.cellsOf i = 1) (cs : P.cellsOf s = 1) (cu : P.cellsOf u = 1) (bu : P.bytesOf u = 1)
    {n : Nat} {v0 v1 v2 v3 : Value} {d : DataW H} {p : List MemPlace} (h : DataW.trod enc P W base spare held n e [v0, v1, v2, v3] = some (d, p)) (hz : Sized P e d) :
    ∃ (it : It) (B : Option Addr) (m c : Nat), v0 = .bool it.raws ∧ v1 = .int .i64 it.wd ∧ v2 = .int .i64 it.n ∧ v3 = .slice B m c ∧ Rd W B m (bys it.b) ∧ m ≤ c ∧ m ≤ 140737488351232 ∧ I64 it.wd ∧ I64 it.n := by
  obtain ⟨xs, k, _, hxy, _, hxl, hf⟩ := DataW.trod_struct he h
  match xs, hxl with
  | [y0, y1, y2, y3], _ =>
    have g0 := hf 0 f0 rfl
    have g1 := hf 1 f1 rfl
    have g2 := hf 2 f2 rfl
    have g3 := hf 3 f3 rfl
    rw [t0.1, t0.2, cb] at g0
    rw [t1.1, t1.2, ci] at g1
    rw [t2.1, t2.2, ci] at g2
    rw [t3.1, t3.2, cs] at g3
    simp only [List.drop_zero, List.drop_succ_cons, List.take_succ_cons, List.take_zero, List.getElem?_cons_zero, List.getElem?_cons_succ] at g0 g1 g2 g3
    simp only [Prod.mk.injEq] at hxy
    obtain ⟨hd, _⟩ := hxy
    subst hd
    obtain ⟨x0, e0, _⟩ := DataW.trod_bool hb g0
    obtain ⟨x1, e1, _, w1⟩ := DataW.trod_int hi g1
    obtain ⟨x2, e2, _, w2⟩ := DataW.trod_int hi g2
    injection e0 with e0 _
    injection e1 with e1 _
    injection e2 with e2 _
    subst e0 e1 e2
    obtain ⟨y3d, y3p⟩ := y3
    obtain ⟨B, m, c, bs, rfl, hr, hl, hm, hsz⟩ := plain_bytes hs hu cu g3
    have z3 := Sized.parts4 he hz
    rw [t3.1] at z3
    have s3 := hsz z3
    rw [bu, reach_le, Nat.mul_one] at s3
    exact ⟨⟨x0, x1, x2, bs⟩, B, m, c, rfl, rfl, rfl, rfl, hr, hl, s3, bounds_i64 w1, bounds_i64 w2⟩
theorem arg_items {r : Reach} {b0 : Nat} {t e s b i u : TypeId} {v : Value} {d : DataW H} {p : List MemPlace} {f0 f1 f2 f3 : Field} (ht : P.underlying t = some (.slice e)) (he : P.underlying e = some (.struct #[f0, f1, f2, f3])) (t0 : f0.type = b ∧ f0.offset = 0) (t1 : f1.type = i ∧ f1.offset = 1) (t2 : f2.type = i ∧ f2.offset = 2) (t3 : f3.type = s ∧ f3.offset = 3)
    (hb : P.underlying b = some .bool) (hi : P.underlying i = some (.int .i64)) (hs : P.underlying s = some (.slice u)) (hu : P.underlying u = some (.int .u8)) (ce : P.cellsOf e = 4) (cb : P.cellsOf b = 1) (ci : P.cellsOf i = 1) (cs : P.cellsOf s = 1) (cu : P.cellsOf u = 1) (bu : P.bytesOf u = 1) (be : P.bytesOf e = 48)
    (hv : Value.okWide P W r b0 t v) (h : DataW.Trod enc P W base spare held t v d p) (hz : Sized P t d) :
    ∃ (A : Option Addr) (n c : Nat) (its : List It), v = .slice A n c ∧ Its W A n its ∧ n ≤ c ∧ n ≤ 2932031007402 := by
  obtain ⟨a0, len0, cap0, rfl⟩ := okWide_slice ht hv
  obtain ⟨fuel, hf⟩ := h
  rcases open_slice ht hf with ⟨hcs, hx⟩ | ⟨a, len, cap, m, n, D, Pl, hcs, _, hl, hm, hmm, hx, hel⟩
  · cases hcs
    exact ⟨none, 0, 0, [], rfl, ⟨rfl, fun h => absurd h (by omega)⟩, Nat.le_refl _, by omega⟩
  · cases hcs
    injection hx with hx _
    subst hx
    have hlm : len0 ≤ m := by rw [hmm]; split <;> omega
    have hsz := Sized.slice ht hz
    rw [List.length_map, List.length_range, be, reach_le] at hsz
    have hlen0 : len0 ≤ 2932031007402 := by omega
    rcases Nat.eq_zero_or_pos len0 with h0 | h0
    · subst h0
      exact ⟨some a, 0, cap0, [], rfl, ⟨rfl, fun h => absurd h (by omega)⟩, Nat.zero_le _, by omega⟩
    · have hsp : a.spot = none := by
        obtain ⟨cs', h1, h2⟩ := hel 0 (by omega)
        rw [ce] at h1
        obtain ⟨_, hlen, hcell⟩ := World.cells?_some h1
        match cs', hlen with
        | [v0, v1, v2, v3], _ =>
          have e0 := hcell 0 (by omega)
          simpa [Addr.add] using World.cell?_spot e0
      obtain ⟨ab, ao, asp⟩ := a
      simp at hsp
      subst hsp
      have each : ∀ i, i < len0 → ∃ it : It, ItAt W ab (ao + i * 4) it := by
        intro j hj
        obtain ⟨cs', h1, h2⟩ := hel j (by omega)
        rw [ce] at h1
        obtain ⟨_, hlen, hcell⟩ := World.cells?_some h1
        match cs', hlen with
        | [v0, v1, v2, v3], _ =>
          obtain ⟨it, B, m', c, rfl, rfl, rfl, rfl, hr, hle, hm', hi1, hi2⟩ := item_cells he t0 t1 t2 t3 hb hi hs hu cb ci cs cu bu h2 (Sized.elem ht hz (List.mem_map.2 ⟨j, List.mem_range.2 hj, rfl⟩))
          have e0 := hcell 0 (by omega)
          have e1 := hcell 1 (by omega)
          have e2 := hcell 2 (by omega)
          have e3 := hcell 3 (by omega)
          rw [Addr.add_lit, Addr.add_lit] at e0 e1 e2 e3
          exact ⟨it, e0, e1, e2, B, m', c, e3, hr, hle, hm', hi1, hi2⟩
      obtain ⟨V, hV⟩ := choose_lt each
      refine ⟨some ⟨ab, ao, none⟩, len0, cap0, (List.range len0).map V, rfl, ⟨by simp, fun hn => ⟨ab, ao, rfl, World.block_lt_of_cell? _ _ (hV 0 hn).1, fun j hj => ?_⟩⟩, hl, hlen0⟩
      have hj' : j < len0 := by simpa using hj
      simpa using hV j hj'
end
end Go.Proofs.Ytdepmogibhmdaaa
