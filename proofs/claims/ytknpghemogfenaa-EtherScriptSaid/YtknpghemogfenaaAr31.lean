/- Chapter 31: fates, strays and acts among the arguments of a statement. -/
import Derived.Test.YtknpghemogfenaaOpen
import Derived.Test.YtknpghemogfenaaNe31
import Derived.Deep.SlicePairs
namespace Go.Proofs.Ytknpghemogfenaa
open Go.ChangeShapes Go.WideShapes Go.ChangeAt Go.RowKit Go.Deep
set_option linter.unusedVariables false
/-- An act. -/
structure AC where
  kind : Int
  dst : Int
  many : Int
  A : Option Addr
  n : Nat
  c : Nat
  x : List UInt8
def AC.cells (a : AC) : List Value := [.int .i64 a.kind, .int .i64 a.dst, .int .i64 a.many, .slice a.A a.n a.c]
def acs (l : List AC) : List Value := l.flatMap AC.cells
def I64 (n : Int) : Prop := -9223372036854775808 ≤ n ∧ n ≤ 9223372036854775807
theorem flat_get {α : Type} {f : α → List Value} {k : Nat} (hf : ∀ a, (f a).length = k) : ∀ {l : List α} {i r : Nat} (h : i < l.length), r < k → (l.flatMap f)[i * k + r]? = (f l[i])[r]?
  | [], i, r, h, _ => absurd h (Nat.not_lt_zero _)
  | e :: l, 0, r, h, hr => by
    rw [List.flatMap_cons, List.getElem?_append_left (by rw [hf]; omega), Nat.zero_mul, Nat.zero_add]; rfl
  | e :: l, i + 1, r, h, hr => by
    have h1 : (i + 1) * k = i * k + k := by rw [Nat.add_mul, Nat.one_mul]
    rw [List.flatMap_cons, List.getElem?_append_right (by rw [hf]; omega), hf, show (i + 1) * k + r - k = i * k + r from by omega]
    exact flat_get hf (l := l) (Nat.lt_of_succ_lt_succ h) hr
theorem flat_len {α : Type} {f : α → List Value} {k : Nat} (hf : ∀ a, (f a).length = k) : ∀ (l : List α), (l.flatMap f).length = l.length * k
  | [] => by simp
  | e :: l => by rw [List.flatMap_cons, List.length_append, hf, flat_len hf l, List.length_cons, Nat.add_mul, Nat.one_mul, Nat.add_comm]
theorem rd_flat {α : Type} {f : α → List Value} {k : Nat} (hf : ∀ a, (f a).length = k) (hk : 0 < k) {W : World} {A : Option Addr} {l : List α}
    (h : 0 < l.length → ∃ g off, A = some ⟨g, off, none⟩ ∧ ∀ (i : Nat) (hi : i < l.length) (r : Nat) (u : Value), (f l[i])[r]? = some u → W.cell? ⟨g, off + (i * k + r), none⟩ = some u) : Rd W A (l.length * k) (l.flatMap f) := by
  refine ⟨flat_len hf l, fun hn => ?_⟩
  obtain ⟨g, off, hA, hc⟩ := h (Nat.pos_of_ne_zero fun e => by rw [e, Nat.zero_mul] at hn; omega)
  refine ⟨g, off, hA, fun j u hu => ?_⟩
  have hj : j < l.length * k := by have := (List.getElem?_eq_some_iff.1 hu).1; rwa [flat_len hf] at this
  have hi : j / k < l.length := Nat.div_lt_of_lt_mul (by rwa [Nat.mul_comm] at hj)
  have hr : j % k < k := Nat.mod_lt _ hk
  have e : j / k * k + j % k = j := by rw [Nat.mul_comm]; exact Nat.div_add_mod j k
  have := hc (j / k) hi (j % k) u (by rw [← flat_get hf hi hr, e]; exact hu)
  rwa [e] at this
section
variable {H : Type} {enc : TypeId × Value → H} {P : Program} {W : World} {spare : Nat → Bool} {held : Bool} {base : Nat}
theorem slice_structs {t e : TypeId} {k : Nat} {fuel : Nat} {v : Value} {d : DataW H} {p : List MemPlace} (hk : 0 < k) (ht : P.underlying t = some (.slice e)) (ce : P.cellsOf e = k)
    (h : DataW.trod enc P W base spare held fuel t [v] = some (d, p)) :
    ∃ (A : Option Addr) (len cap : Nat) (V : Nat → List Value), v = .slice A len cap ∧ len ≤ cap ∧ (∀ i, i < len → (V i).length = k ∧ ∃ D q n, DataW.trod enc P W base spare held n e (V i) = some (D, q) ∧ (Sized P t d → Sized P e D)) ∧
      (0 < len → ∃ g off, A = some ⟨g, off, none⟩ ∧ ∀ i, i < len → ∀ (r : Nat) (u : Value), (V i)[r]? = some u → W.cell? ⟨g, off + (i * k + r), none⟩ = some u) ∧ (Sized P t d → len * P.bytesOf e ≤ reachBytes) := by
  rcases open_slice ht h with ⟨hcs, hx⟩ | ⟨a, len, cap, m, n, D, Pl, hcs, _, hl, hm, hmm, hx, hel⟩
  · cases hcs
    exact ⟨none, 0, 0, fun _ => [], rfl, Nat.le_refl _, fun i hi => absurd hi (Nat.not_lt_zero _), fun hi => absurd hi (Nat.not_lt_zero _), fun _ => by rw [Nat.zero_mul]; exact Nat.zero_le _⟩
  · cases hcs
    injection hx with hx _
    subst hx
    have hlm : len ≤ m := by rw [hmm]; split <;> omega
    have each : ∀ i, i < len → ∃ cs' : List Value, W.cells? base (a.add (i * P.cellsOf e)) (P.cellsOf e) = some cs' ∧ DataW.trod enc P W base spare held n e cs' = some (D i, Pl i) := fun i hi => hel i (by omega)
    obtain ⟨V, hV⟩ := choose_lt each
    refine ⟨some a, len, cap, V, rfl, hl, fun i hi => ?_, fun h0 => ?_, fun hz => ?_⟩
    · have hs := hV i hi
      obtain ⟨_, hlen, _⟩ := World.cells?_some hs.1
      exact ⟨hlen.trans ce, _, _, _, hs.2, fun hz => Sized.elem ht hz (List.mem_map.2 ⟨i, List.mem_range.2 hi, rfl⟩)⟩
    · have hsp : a.spot = none := by
        have hs := hV 0 h0
        obtain ⟨_, hlen, hcell⟩ := World.cells?_some hs.1
        have e0 := hcell 0 (by rw [ce]; exact hk)
        rw [List.getElem?_eq_getElem (by rw [hlen, ce]; exact hk)] at e0
        simpa [Addr.add] using World.cell?_spot e0
      obtain ⟨ab, ao, asp⟩ := a
      simp only at hsp
      subst hsp
      refine ⟨ab, ao, rfl, fun i hi r u hu => ?_⟩
      have hs := hV i hi
      obtain ⟨_, hlen, hcell⟩ := World.cells?_some hs.1
      have hr : r < P.cellsOf e := by have := (List.getElem?_eq_some_iff.1 hu).1; omega
      have e0 := hcell r hr
      rw [Addr.add_lit, Addr.add_lit, ce] at e0
      rw [show ao + (i * k + r) = ao + i * k + r from by omega, e0, ← hu]
    · have := Sized.slice ht hz
      rw [List.length_map, List.length_range] at this
      exact Nat.le_trans (Nat.mul_le_mul_right _ (Nat.le_add_right _ _)) this

theorem fate_cells {e b i : TypeId} {f0 f1 f2 f3 : Field} (he : P.underlying e = some (.struct #[f0, f1, f2, f3])) (t0 : f0.type = b ∧ f0.offset = 0) (t1 : f1.type = i ∧ f1.offset = 1) (t2 : f2.type = b ∧ f2.offset = 2) (t3 : f3.type = i ∧ f3.offset = 3) (hb : P.underlying b = some .bool) (cb : P.cellsOf b = 1) (hi : P.underlying i = some (.int .i64)) (ci : P.cellsOf i = 1)
    {n : Nat} {v0 v1 v2 v3 : Value} {d : DataW H} {p : List MemPlace} (h : DataW.trod enc P W base spare held n e [v0, v1, v2, v3] = some (d, p)) (hz : Sized P e d) :
    ∃ f : FT, [v0, v1, v2, v3] = f.cells ∧ I64 f.late ∧ I64 f.again := by
  obtain ⟨xs, k, _, hxy, _, hxl, hf⟩ := DataW.trod_struct he h
  match xs, hxl with
  | [y0, y1, y2, y3], _ =>
    have g0 := hf 0 f0 rfl
    have g1 := hf 1 f1 rfl
    have g2 := hf 2 f2 rfl
    have g3 := hf 3 f3 rfl
    rw [t0.1, t0.2, cb] at g0
    rw [t1.1, t1.2, ci] at g1
    rw [t2.1, t2.2, cb] at g2
    rw [t3.1, t3.2, ci] at g3
    simp only [List.drop_zero, List.drop_succ_cons, List.take_succ_cons, List.take_zero, List.getElem?_cons_zero, List.getElem?_cons_succ] at g0 g1 g2 g3
    simp only [Prod.mk.injEq] at hxy
    obtain ⟨hd, _⟩ := hxy
    subst hd
    obtain ⟨x0, e0, _⟩ := DataW.trod_bool hb g0
    injection e0 with e0 _
    subst e0
    obtain ⟨x1, e1, _, w1⟩ := DataW.trod_int hi g1
    injection e1 with e1 _
    subst e1
    obtain ⟨x2, e2, _⟩ := DataW.trod_bool hb g2
    injection e2 with e2 _
    subst e2
    obtain ⟨x3, e3, _, w3⟩ := DataW.trod_int hi g3
    injection e3 with e3 _
    subst e3
    exact ⟨⟨x0, x1, x2, x3⟩, rfl, bounds_i64 w1, bounds_i64 w3⟩
theorem arg_fates {r : Reach} {b0 : Nat} {t e b i : TypeId} {v : Value} {d : DataW H} {p : List MemPlace} {f0 f1 f2 f3 : Field} (ht : P.underlying t = some (.slice e)) (he : P.underlying e = some (.struct #[f0, f1, f2, f3])) (t0 : f0.type = b ∧ f0.offset = 0) (t1 : f1.type = i ∧ f1.offset = 1) (t2 : f2.type = b ∧ f2.offset = 2) (t3 : f3.type = i ∧ f3.offset = 3) (hb : P.underlying b = some .bool) (cb : P.cellsOf b = 1) (hi : P.underlying i = some (.int .i64)) (ci : P.cellsOf i = 1) (ce : P.cellsOf e = 4) (be : P.bytesOf e = 32)
    (hv : Value.okWide P W r b0 t v) (h : DataW.Trod enc P W base spare held t v d p) (hz : Sized P t d) :
    ∃ (A : Option Addr) (c : Nat) (l : List FT), v = .slice A l.length c ∧ Rd W A (l.length * 4) (l.flatMap FT.cells) ∧ l.length ≤ c ∧ l.length ≤ 4398046510976 ∧ ∀ a ∈ l, I64 a.late ∧ I64 a.again := by
  obtain ⟨a0, len0, cap0, rfl⟩ := okWide_slice ht hv
  obtain ⟨fuel, hf⟩ := h
  obtain ⟨A, len, cap, V, e1, hle, hV, hc, hbnd⟩ := slice_structs (k := 4) (by decide) ht ce hf
  have each : ∀ i, i < len → ∃ a : FT, V i = a.cells ∧ I64 a.late ∧ I64 a.again := by
    intro j hj
    obtain ⟨hl, D, q, n, htr, hsz⟩ := hV j hj
    obtain ⟨v0, v1, v2, v3, hvs⟩ : ∃ v0 v1 v2 v3, V j = [v0, v1, v2, v3] := by
      match V j, hl with
      | [a0, a1, a2, a3], _ => exact ⟨a0, a1, a2, a3, rfl⟩
    rw [hvs] at htr ⊢
    obtain ⟨a, ha⟩ := fate_cells he t0 t1 t2 t3 hb cb hi ci htr (hsz hz)
    exact ⟨a, ha⟩
  haveI : Inhabited FT := ⟨⟨false, 0, false, 0⟩⟩
  obtain ⟨L, hL⟩ := choose_lt each
  have hln : ((List.range len).map L).length = len := by simp
  have hget : ∀ (i : Nat) (hi : i < ((List.range len).map L).length), ((List.range len).map L)[i] = L i := fun i hi => by simp
  have hrd := rd_flat (W := W) (A := A) (f := FT.cells) (k := 4) (fun _ => rfl) (by decide) (l := (List.range len).map L) (fun h0 => by
    obtain ⟨g, off, hA, hcell⟩ := hc (by rwa [hln] at h0)
    exact ⟨g, off, hA, fun i hi r u hu => hcell i (by rwa [hln] at hi) r u (by rw [(hL i (by rwa [hln] at hi)).1, ← hu, hget])⟩)
  have hbb := hbnd hz
  rw [be, reach_le] at hbb
  exact ⟨A, cap, (List.range len).map L, by rw [hln]; exact e1, hrd, by rw [hln]; exact hle, by rw [hln]; omega, fun a ha => by
    obtain ⟨i, hi, rfl⟩ := List.mem_map.1 ha
    exact (hL i (List.mem_range.1 hi)).2⟩
theorem stray_cells {e i s u : TypeId} {f0 f1 f2 : Field} (he : P.underlying e = some (.struct #[f0, f1, f2])) (t0 : f0.type = i ∧ f0.offset = 0) (t1 : f1.type = i ∧ f1.offset = 1) (t2 : f2.type = s ∧ f2.offset = 2) (hi : P.underlying i = some (.int .i64)) (ci : P.cellsOf i = 1) (hs : P.underlying s = some (.slice u)) (hu : P.underlying u = some (.int .u8)) (cs : P.cellsOf s = 1) (cu : P.cellsOf u = 1) (bu : P.bytesOf u = 1)
    {n : Nat} {v0 v1 v2 : Value} {d : DataW H} {p : List MemPlace} (h : DataW.trod enc P W base spare held n e [v0, v1, v2] = some (d, p)) (hz : Sized P e d) :
    ∃ y : SY, [v0, v1, v2] = y.cells ∧ I64 y.at_ ∧ I64 y.dst ∧ Rd W y.A y.n (bys y.x) ∧ y.n ≤ y.c ∧ y.n ≤ 140737488351232 := by
  obtain ⟨xs, k, _, hxy, _, hxl, hf⟩ := DataW.trod_struct he h
  match xs, hxl with
  | [y0, y1, y2], _ =>
    have g0 := hf 0 f0 rfl
    have g1 := hf 1 f1 rfl
    have g2 := hf 2 f2 rfl
    rw [t0.1, t0.2, ci] at g0
    rw [t1.1, t1.2, ci] at g1
    rw [t2.1, t2.2, cs] at g2
    simp only [List.drop_zero, List.drop_succ_cons, List.take_succ_cons, List.take_zero, List.getElem?_cons_zero, List.getElem?_cons_succ] at g0 g1 g2
    simp only [Prod.mk.injEq] at hxy
    obtain ⟨hd, _⟩ := hxy
    subst hd
    obtain ⟨x0, e0, _, w0⟩ := DataW.trod_int hi g0
    injection e0 with e0 _
    subst e0
    obtain ⟨x1, e1, _, w1⟩ := DataW.trod_int hi g1
    injection e1 with e1 _
    subst e1
    obtain ⟨y2d, y2p⟩ := y2
    obtain ⟨B, m, c, bs, rfl, hr, hl, hm, hsz⟩ := plain_bytes hs hu cu g2
    have z2 : Sized P f2.type y2d := fun q hq => hz q (by simp [DataW.weights, he, DataW.weightsEach, hq])
    rw [t2.1] at z2
    have s2 := hsz z2
    rw [bu, reach_le] at s2
    exact ⟨⟨x0, x1, B, m, c, bs⟩, rfl, bounds_i64 w0, bounds_i64 w1, hr, hl, by simp only; omega⟩
theorem arg_strays {r : Reach} {b0 : Nat} {t e i s u : TypeId} {v : Value} {d : DataW H} {p : List MemPlace} {f0 f1 f2 : Field} (ht : P.underlying t = some (.slice e)) (he : P.underlying e = some (.struct #[f0, f1, f2])) (t0 : f0.type = i ∧ f0.offset = 0) (t1 : f1.type = i ∧ f1.offset = 1) (t2 : f2.type = s ∧ f2.offset = 2) (hi : P.underlying i = some (.int .i64)) (ci : P.cellsOf i = 1) (hs : P.underlying s = some (.slice u)) (hu : P.underlying u = some (.int .u8)) (cs : P.cellsOf s = 1) (cu : P.cellsOf u = 1) (bu : P.bytesOf u = 1) (ce : P.cellsOf e = 3) (be : P.bytesOf e = 40)
    (hv : Value.okWide P W r b0 t v) (h : DataW.Trod enc P W base spare held t v d p) (hz : Sized P t d) :
    ∃ (A : Option Addr) (c : Nat) (l : List SY), v = .slice A l.length c ∧ Rd W A (l.length * 3) (l.flatMap SY.cells) ∧ l.length ≤ c ∧ l.length ≤ 3518437208780 ∧ ∀ a ∈ l, I64 a.at_ ∧ I64 a.dst ∧ Rd W a.A a.n (bys a.x) ∧ a.n ≤ a.c ∧ a.n ≤ 140737488351232 := by
  obtain ⟨a0, len0, cap0, rfl⟩ := okWide_slice ht hv
  obtain ⟨fuel, hf⟩ := h
  obtain ⟨A, len, cap, V, e1, hle, hV, hc, hbnd⟩ := slice_structs (k := 3) (by decide) ht ce hf
  have each : ∀ i, i < len → ∃ a : SY, V i = a.cells ∧ I64 a.at_ ∧ I64 a.dst ∧ Rd W a.A a.n (bys a.x) ∧ a.n ≤ a.c ∧ a.n ≤ 140737488351232 := by
    intro j hj
    obtain ⟨hl, D, q, n, htr, hsz⟩ := hV j hj
    obtain ⟨v0, v1, v2, hvs⟩ : ∃ v0 v1 v2, V j = [v0, v1, v2] := by
      match V j, hl with
      | [a0, a1, a2], _ => exact ⟨a0, a1, a2, rfl⟩
    rw [hvs] at htr ⊢
    obtain ⟨a, ha⟩ := stray_cells he t0 t1 t2 hi ci hs hu cs cu bu htr (hsz hz)
    exact ⟨a, ha⟩
  haveI : Inhabited SY := ⟨⟨0, 0, none, 0, 0, []⟩⟩
  obtain ⟨L, hL⟩ := choose_lt each
  have hln : ((List.range len).map L).length = len := by simp
  have hget : ∀ (i : Nat) (hi : i < ((List.range len).map L).length), ((List.range len).map L)[i] = L i := fun i hi => by simp
  have hrd := rd_flat (W := W) (A := A) (f := SY.cells) (k := 3) (fun _ => rfl) (by decide) (l := (List.range len).map L) (fun h0 => by
    obtain ⟨g, off, hA, hcell⟩ := hc (by rwa [hln] at h0)
    exact ⟨g, off, hA, fun i hi r u hu => hcell i (by rwa [hln] at hi) r u (by rw [(hL i (by rwa [hln] at hi)).1, ← hu, hget])⟩)
  have hbb := hbnd hz
  rw [be, reach_le] at hbb
  exact ⟨A, cap, (List.range len).map L, by rw [hln]; exact e1, hrd, by rw [hln]; exact hle, by rw [hln]; omega, fun a ha => by
    obtain ⟨i, hi, rfl⟩ := List.mem_map.1 ha
    exact (hL i (List.mem_range.1 hi)).2⟩
theorem act_cells {e i s u : TypeId} {f0 f1 f2 f3 : Field} (he : P.underlying e = some (.struct #[f0, f1, f2, f3])) (t0 : f0.type = i ∧ f0.offset = 0) (t1 : f1.type = i ∧ f1.offset = 1) (t2 : f2.type = i ∧ f2.offset = 2) (t3 : f3.type = s ∧ f3.offset = 3) (hi : P.underlying i = some (.int .i64)) (ci : P.cellsOf i = 1) (hs : P.underlying s = some (.slice u)) (hu : P.underlying u = some (.int .u8)) (cs : P.cellsOf s = 1) (cu : P.cellsOf u = 1) (bu : P.bytesOf u = 1)
    {n : Nat} {v0 v1 v2 v3 : Value} {d : DataW H} {p : List MemPlace} (h : DataW.trod enc P W base spare held n e [v0, v1, v2, v3] = some (d, p)) (hz : Sized P e d) :
    ∃ a : AC, [v0, v1, v2, v3] = a.cells ∧ I64 a.kind ∧ I64 a.dst ∧ I64 a.many ∧ Rd W a.A a.n (bys a.x) ∧ a.n ≤ a.c ∧ a.n ≤ 140737488351232 := by
  obtain ⟨xs, k, _, hxy, _, hxl, hf⟩ := DataW.trod_struct he h
  match xs, hxl with
  | [y0, y1, y2, y3], _ =>
    have g0 := hf 0 f0 rfl
    have g1 := hf 1 f1 rfl
    have g2 := hf 2 f2 rfl
    have g3 := hf 3 f3 rfl
    rw [t0.1, t0.2, ci] at g0
    rw [t1.1, t1.2, ci] at g1
    rw [t2.1, t2.2, ci] at g2
    rw [t3.1, t3.2, cs] at g3
    simp only [List.drop_zero, List.drop_succ_cons, List.take_succ_cons, List.take_zero, List.getElem?_cons_zero, List.getElem?_cons_succ] at g0 g1 g2 g3
    simp only [Prod.mk.injEq] at hxy
    obtain ⟨hd, _⟩ := hxy
    subst hd
    obtain ⟨x0, e0, _, w0⟩ := DataW.trod_int hi g0
    injection e0 with e0 _
    subst e0
    obtain ⟨x1, e1, _, w1⟩ := DataW.trod_int hi g1
    injection e1 with e1 _
    subst e1
    obtain ⟨x2, e2, _, w2⟩ := DataW.trod_int hi g2
    injection e2 with e2 _
    subst e2
    obtain ⟨y3d, y3p⟩ := y3
    obtain ⟨B, m, c, bs, rfl, hr, hl, hm, hsz⟩ := plain_bytes hs hu cu g3
    have z3 : Sized P f3.type y3d := fun q hq => hz q (by simp [DataW.weights, he, DataW.weightsEach, hq])
    rw [t3.1] at z3
    have s3 := hsz z3
    rw [bu, reach_le] at s3
    exact ⟨⟨x0, x1, x2, B, m, c, bs⟩, rfl, bounds_i64 w0, bounds_i64 w1, bounds_i64 w2, hr, hl, by simp only; omega⟩
theorem arg_acts {r : Reach} {b0 : Nat} {t e i s u : TypeId} {v : Value} {d : DataW H} {p : List MemPlace} {f0 f1 f2 f3 : Field} (ht : P.underlying t = some (.slice e)) (he : P.underlying e = some (.struct #[f0, f1, f2, f3])) (t0 : f0.type = i ∧ f0.offset = 0) (t1 : f1.type = i ∧ f1.offset = 1) (t2 : f2.type = i ∧ f2.offset = 2) (t3 : f3.type = s ∧ f3.offset = 3) (hi : P.underlying i = some (.int .i64)) (ci : P.cellsOf i = 1) (hs : P.underlying s = some (.slice u)) (hu : P.underlying u = some (.int .u8)) (cs : P.cellsOf s = 1) (cu : P.cellsOf u = 1) (bu : P.bytesOf u = 1) (ce : P.cellsOf e = 4) (be : P.bytesOf e = 48)
    (hv : Value.okWide P W r b0 t v) (h : DataW.Trod enc P W base spare held t v d p) (hz : Sized P t d) :
    ∃ (A : Option Addr) (c : Nat) (l : List AC), v = .slice A l.length c ∧ Rd W A (l.length * 4) (l.flatMap AC.cells) ∧ l.length ≤ c ∧ l.length ≤ 2932031007317 ∧ ∀ a ∈ l, I64 a.kind ∧ I64 a.dst ∧ I64 a.many ∧ Rd W a.A a.n (bys a.x) ∧ a.n ≤ a.c ∧ a.n ≤ 140737488351232 := by
  obtain ⟨a0, len0, cap0, rfl⟩ := okWide_slice ht hv
  obtain ⟨fuel, hf⟩ := h
  obtain ⟨A, len, cap, V, e1, hle, hV, hc, hbnd⟩ := slice_structs (k := 4) (by decide) ht ce hf
  have each : ∀ i, i < len → ∃ a : AC, V i = a.cells ∧ I64 a.kind ∧ I64 a.dst ∧ I64 a.many ∧ Rd W a.A a.n (bys a.x) ∧ a.n ≤ a.c ∧ a.n ≤ 140737488351232 := by
    intro j hj
    obtain ⟨hl, D, q, n, htr, hsz⟩ := hV j hj
    obtain ⟨v0, v1, v2, v3, hvs⟩ : ∃ v0 v1 v2 v3, V j = [v0, v1, v2, v3] := by
      match V j, hl with
      | [a0, a1, a2, a3], _ => exact ⟨a0, a1, a2, a3, rfl⟩
    rw [hvs] at htr ⊢
    obtain ⟨a, ha⟩ := act_cells he t0 t1 t2 t3 hi ci hs hu cs cu bu htr (hsz hz)
    exact ⟨a, ha⟩
  haveI : Inhabited AC := ⟨⟨0, 0, 0, none, 0, 0, []⟩⟩
  obtain ⟨L, hL⟩ := choose_lt each
  have hln : ((List.range len).map L).length = len := by simp
  have hget : ∀ (i : Nat) (hi : i < ((List.range len).map L).length), ((List.range len).map L)[i] = L i := fun i hi => by simp
  have hrd := rd_flat (W := W) (A := A) (f := AC.cells) (k := 4) (fun _ => rfl) (by decide) (l := (List.range len).map L) (fun h0 => by
    obtain ⟨g, off, hA, hcell⟩ := hc (by rwa [hln] at h0)
    exact ⟨g, off, hA, fun i hi r u hu => hcell i (by rwa [hln] at hi) r u (by rw [(hL i (by rwa [hln] at hi)).1, ← hu, hget])⟩)
  have hbb := hbnd hz
  rw [be, reach_le] at hbb
  exact ⟨A, cap, (List.range len).map L, by rw [hln]; exact e1, hrd, by rw [hln]; exact hle, by rw [hln]; omega, fun a ha => by
    obtain ⟨i, hi, rfl⟩ := List.mem_map.1 ha
    exact (hL i (List.mem_range.1 hi)).2⟩
end
end Go.Proofs.Ytknpghemogfenaa
