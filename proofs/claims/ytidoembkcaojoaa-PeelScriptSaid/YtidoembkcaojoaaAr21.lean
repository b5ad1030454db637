/- Chapter 21: packets among the arguments of a statement. Printed by mk_Ar21.py. -/
import Derived.Test.YtidoembkcaojoaaOpen
import Derived.Test.YtidoembkcaojoaaSl21
import Derived.Deep.SlicePairs
namespace Go.Proofs.Ytidoembkcaojoaa
open Go.ChangeShapes Go.WideShapes Go.ChangeAt Go.RowKit Go.Deep
set_option linter.unusedVariables false
/-- A packet. -/
structure PA where
  id : Int
  A : Option Addr
  n : Nat
  c : Nat
  set : List Int
  B : Option Addr
  m : Nat
  e : Nat
  pay : List UInt8
def PA.cells (a : PA) : List Value := [.int .i64 a.id, .slice a.A a.n a.c, .slice a.B a.m a.e]
structure PA.ok (a : PA) (W : World) : Prop where
  wf : (Lit.int .i64 a.id).wf = true
  rs : Rd W a.A a.n (nums a.set)
  rp : Rd W a.B a.m (bys a.pay)
  nc : a.n ≤ a.c
  me : a.m ≤ a.e
  n1 : a.n ≤ 17592186043904
  m1 : a.m ≤ 140737488351232
theorem flat_get {α : Type} {f : α → List Value} {k : Nat} (hf : ∀ a, (f a).length = k) : ∀ {l : List α} {i r : Nat} (h : i < l.length), r < k → (l.flatMap f)[i * k + r]? = (f l[i])[r]?
  | [], i, r, h, _ => absurd h (Nat.not_lt_zero _)
  | e :: l, 0, r, h, hr => by
    rw [List.flatMap_cons, List.getElem?_append_left (by rw [hf]; omega), Nat.zero_mul, Nat.zero_add]; rfl
  | e :: l, i + 1, r, h, hr => by
    have h1 : (i + 1) * k = i * k + k := by rw [Nat.add_mul, Nat.one_mul]
    rw [List.flatMap_cons, List.getElem?_append_right (by rw [hf]; omega), hf, show (i + 1) * k + r - k = i * k + r from by omega]
    exact flat_get hf (l := l) (Nat.lt_of_succ_lt_succ h) hr
theorem flat_len {α : Type} {f : α → List Value} {k : Nat} (hf : ∀ a, (f a).length = k) : ∀ (l : List α), (l.flatMap f).length = l.length * k
  | [] => by simp
  | e :: l => by rw [List.flatMap_cons, List.length_append, hf, flat_len hf l, List.length_cons, Nat.add_mul, Nat.one_mul, Nat.add_comm]
theorem rd_flat {α : Type} {f : α → List Value} {k : Nat} (hf : ∀ a, (f a).length = k) (hk : 0 < k) {W : World} {A : Option Addr} {l : List α}
    (h : 0 < l.length → ∃ g off, A = some ⟨g, off, none⟩ ∧ ∀ (i : Nat) (hi : i < l.length) (r : Nat) (u : Value), (f l[i])[r]? = some u → W.cell? ⟨g, off + (i * k + r), none⟩ = some u) : Rd W A (l.length * k) (l.flatMap f) := by
  refine ⟨flat_len hf l, fun hn => ?_⟩
  obtain ⟨g, off, hA, hc⟩ := h (Nat.pos_of_ne_zero fun e => by rw [e, Nat.zero_mul] at hn; omega)
  refine ⟨g, off, hA, fun j u hu => ?_⟩
  have hj : j < l.length * k := by have := (List.getElem?_eq_some_iff.1 hu).1; rwa [flat_len hf] at this
  have hi : j / k < l.length := Nat.div_lt_of_lt_mul (by rwa [Nat.mul_comm] at hj)
  have hr : j % k < k := Nat.mod_lt _ hk
  have e : j / k * k + j % k = j := by rw [Nat.mul_comm]; exact Nat.div_add_mod j k
  have := hc (j / k) hi (j % k) u (by rw [← flat_get hf hi hr, e]; exact hu)
  rwa [e] at this
section
variable {H : Type} {enc : TypeId × Value → H} {P : Program} {W : World} {spare : Nat → Bool} {held : Bool} {base : Nat}
theorem slice_structs {t e : TypeId} {k : Nat} {fuel : Nat} {v : Value} {d : DataW H} {p : List MemPlace} (hk : 0 < k) (ht : P.underlying t = some (.slice e)) (ce : P.cellsOf e = k)
    (h : DataW.trod enc P W base spare held fuel t [v] = some (d, p)) :
    ∃ (A : Option Addr) (len cap : Nat) (V : Nat → List Value), v = .slice A len cap ∧ len ≤ cap ∧ (∀ i, i < len → (V i).length = k ∧ ∃ D q n, DataW.trod enc P W base spare held n e (V i) = some (D, q) ∧ (Sized P t d → Sized P e D)) ∧
      (0 < len → ∃ g off, A = some ⟨g, off, none⟩ ∧ ∀ i, i < len → ∀ (r : Nat) (u : Value), (V i)[r]? = some u → W.cell? ⟨g, off + (i * k + r), none⟩ = some u) ∧ (Sized P t d → len * P.bytesOf e ≤ reachBytes) := by
  rcases open_slice ht h with ⟨hcs, hx⟩ | ⟨a, len, cap, m, n, D, Pl, hcs, _, hl, hm, hmm, hx, hel⟩
  · cases hcs
    exact ⟨none, 0, 0, fun _ => [], rfl, Nat.le_refl _, fun i hi => absurd hi (Nat.not_lt_zero _), fun hi => absurd hi (Nat.not_lt_zero _), fun _ => by rw [Nat.zero_mul]; exact Nat.zero_le _⟩
  · cases hcs
    injection hx with hx _
    subst hx
    have hlm : len ≤ m := by rw [hmm]; split <;> omega
    have each : ∀ i, i < len → ∃ cs' : List Value, W.cells? base (a.add (i * P.cellsOf e)) (P.cellsOf e) = some cs' ∧ DataW.trod enc P W base spare held n e cs' = some (D i, Pl i) := fun i hi => hel i (by omega)
    obtain ⟨V, hV⟩ := choose_lt each
    refine ⟨some a, len, cap, V, rfl, hl, fun i hi => ?_, fun h0 => ?_, fun hz => ?_⟩
    · have hs := hV i hi
      obtain ⟨_, hlen, _⟩ := World.cells?_some hs.1
      exact ⟨hlen.trans ce, _, _, _, hs.2, fun hz => Sized.elem ht hz (List.mem_map.2 ⟨i, List.mem_range.2 hi, rfl⟩)⟩
    · have hsp : a.spot = none := by
        have hs := hV 0 h0
        obtain ⟨_, hlen, hcell⟩ := World.cells?_some hs.1
        have e0 := hcell 0 (by rw [ce]; exact hk)
        rw [List.getElem?_eq_getElem (by rw [hlen, ce]; exact hk)] at e0
        simpa [Addr.add] using World.cell?_spot e0
      obtain ⟨ab, ao, asp⟩ := a
      simp only at hsp
      subst hsp
      refine ⟨ab, ao, rfl, fun i hi r u hu => ?_⟩
      have hs := hV i hi
      obtain ⟨_, hlen, hcell⟩ := World.cells?_some hs.1
      have hr : r < P.cellsOf e := by have := (List.getElem?_eq_some_iff.1 hu).1; omega
      have e0 := hcell r hr
      rw [Addr.add_lit, Addr.add_lit, ce] at e0
      rw [show ao + (i * k + r) = ao + i * k + r from by omega, e0, ← hu]
    · have := Sized.slice ht hz
      rw [List.length_map, List.length_range] at this
      exact Nat.le_trans (Nat.mul_le_mul_right _ (Nat.le_add_right _ _)) this

theorem pack_cells {e i s u sb ub : TypeId} {f0 f1 f2 : Field} (he : P.underlying e = some (.struct #[f0, f1, f2])) (t0 : f0.type = i ∧ f0.offset = 0) (t1 : f1.type = s ∧ f1.offset = 1) (t2 : f2.type = sb ∧ f2.offset = 2) (hi : P.underlying i = some (.int .i64)) (ci : P.cellsOf i = 1) (hs : P.underlying s = some (.slice u)) (hu : P.underlying u = some (.int .i64)) (cs : P.cellsOf s = 1) (cu : P.cellsOf u = 1) (bu : P.bytesOf u = 8)
    (hsb : P.underlying sb = some (.slice ub)) (hub : P.underlying ub = some (.int .u8)) (csb : P.cellsOf sb = 1) (cub : P.cellsOf ub = 1) (bub : P.bytesOf ub = 1)
    {n : Nat} {v0 v1 v2 : Value} {d : DataW H} {p : List MemPlace} (h : DataW.trod enc P W base spare held n e [v0, v1, v2] = some (d, p)) (hz : Sized P e d) :
    ∃ a : PA, [v0, v1, v2] = a.cells ∧ a.ok W := by
  obtain ⟨xs, k, _, hxy, _, hxl, hf⟩ := DataW.trod_struct he h
  match xs, hxl with
  | [y0, y1, y2], _ =>
    have g0 := hf 0 f0 rfl
    have g1 := hf 1 f1 rfl
    have g2 := hf 2 f2 rfl
    rw [t0.1, t0.2, ci] at g0
    rw [t1.1, t1.2, cs] at g1
    rw [t2.1, t2.2, csb] at g2
    simp only [List.drop_zero, List.drop_succ_cons, List.take_succ_cons, List.take_zero, List.getElem?_cons_zero, List.getElem?_cons_succ] at g0 g1 g2
    simp only [Prod.mk.injEq] at hxy
    obtain ⟨hd, _⟩ := hxy
    subst hd
    obtain ⟨x0, e0, _, w0⟩ := DataW.trod_int hi g0
    injection e0 with e0 _
    subst e0
    obtain ⟨y1d, y1p⟩ := y1
    obtain ⟨A, m1, c1, bs1, rfl, hr1, hl1, hm1, _, hsz1⟩ := plain_ints hs hu cu g1
    have z1 : Sized P f1.type y1d := fun q hq => hz q (by simp [DataW.weights, he, DataW.weightsEach, hq])
    rw [t1.1] at z1
    have s1 := hsz1 z1
    rw [bu, reach_le] at s1
    obtain ⟨y2d, y2p⟩ := y2
    obtain ⟨B, m, c, bs, rfl, hr, hl, hm, hsz⟩ := plain_bytes hsb hub cub g2
    have z2 : Sized P f2.type y2d := fun q hq => hz q (by simp [DataW.weights, he, DataW.weightsEach, hq])
    rw [t2.1] at z2
    have s2 := hsz z2
    rw [bub, reach_le] at s2
    exact ⟨⟨x0, A, m1, c1, bs1, B, m, c, bs⟩, rfl, ⟨w0, hr1, hr, hl1, hl, by simp only; omega, by simp only; omega⟩⟩
theorem arg_ppacks {r : Reach} {b0 : Nat} {t e i s u sb ub : TypeId} {v : Value} {d : DataW H} {p : List MemPlace} {f0 f1 f2 : Field} (ht : P.underlying t = some (.slice e)) (he : P.underlying e = some (.struct #[f0, f1, f2])) (t0 : f0.type = i ∧ f0.offset = 0) (t1 : f1.type = s ∧ f1.offset = 1) (t2 : f2.type = sb ∧ f2.offset = 2) (hi : P.underlying i = some (.int .i64)) (ci : P.cellsOf i = 1) (hs : P.underlying s = some (.slice u)) (hu : P.underlying u = some (.int .i64)) (cs : P.cellsOf s = 1) (cu : P.cellsOf u = 1) (bu : P.bytesOf u = 8)
    (hsb : P.underlying sb = some (.slice ub)) (hub : P.underlying ub = some (.int .u8)) (csb : P.cellsOf sb = 1) (cub : P.cellsOf ub = 1) (bub : P.bytesOf ub = 1) (ce : P.cellsOf e = 3) (be : P.bytesOf e = 56)
    (hv : Value.okWide P W r b0 t v) (h : DataW.Trod enc P W base spare held t v d p) (hz : Sized P t d) :
    ∃ (A : Option Addr) (c : Nat) (l : List PA), v = .slice A l.length c ∧ Rd W A (l.length * 3) (l.flatMap PA.cells) ∧ l.length ≤ c ∧ l.length ≤ 2513169434845 ∧ ∀ a ∈ l, a.ok W := by
  obtain ⟨a0, len0, cap0, rfl⟩ := okWide_slice ht hv
  obtain ⟨fuel, hf⟩ := h
  obtain ⟨A, len, cap, V, e1, hle, hV, hc, hbnd⟩ := slice_structs (k := 3) (by decide) ht ce hf
  have each : ∀ i, i < len → ∃ a : PA, V i = a.cells ∧ a.ok W := by
    intro j hj
    obtain ⟨hl, D, q, n, htr, hsz⟩ := hV j hj
    obtain ⟨v0, v1, v2, hvs⟩ : ∃ v0 v1 v2, V j = [v0, v1, v2] := by
      match V j, hl with
      | [a0, a1, a2], _ => exact ⟨a0, a1, a2, rfl⟩
    rw [hvs] at htr ⊢
    obtain ⟨a, ha⟩ := pack_cells he t0 t1 t2 hi ci hs hu cs cu bu hsb hub csb cub bub htr (hsz hz)
    exact ⟨a, ha⟩
  haveI : Inhabited PA := ⟨⟨0, none, 0, 0, [], none, 0, 0, []⟩⟩
  obtain ⟨L, hL⟩ := choose_lt each
  have hln : ((List.range len).map L).length = len := by simp
  have hget : ∀ (i : Nat) (hi : i < ((List.range len).map L).length), ((List.range len).map L)[i] = L i := fun i hi => by simp
  have hrd := rd_flat (W := W) (A := A) (f := PA.cells) (k := 3) (fun _ => rfl) (by decide) (l := (List.range len).map L) (fun h0 => by
    obtain ⟨g, off, hA, hcell⟩ := hc (by rwa [hln] at h0)
    exact ⟨g, off, hA, fun i hi r u hu => hcell i (by rwa [hln] at hi) r u (by rw [(hL i (by rwa [hln] at hi)).1, ← hu, hget])⟩)
  have hbb := hbnd hz
  rw [be, reach_le] at hbb
  exact ⟨A, cap, (List.range len).map L, by rw [hln]; exact e1, hrd, by rw [hln]; exact hle, by rw [hln]; omega, fun a ha => by
    obtain ⟨i, hi, rfl⟩ := List.mem_map.1 ha
    exact (hL i (List.mem_range.1 hi)).2⟩
theorem arg_ppack {r : Reach} {b0 : Nat} {e i s u sb ub : TypeId} {v : Value} {d : DataW H} {p : List MemPlace} {f0 f1 f2 : Field} (he : P.underlying e = some (.struct #[f0, f1, f2])) (t0 : f0.type = i ∧ f0.offset = 0) (t1 : f1.type = s ∧ f1.offset = 1) (t2 : f2.type = sb ∧ f2.offset = 2) (hi : P.underlying i = some (.int .i64)) (ci : P.cellsOf i = 1) (hs : P.underlying s = some (.slice u)) (hu : P.underlying u = some (.int .i64)) (cs : P.cellsOf s = 1) (cu : P.cellsOf u = 1) (bu : P.bytesOf u = 8)
    (hsb : P.underlying sb = some (.slice ub)) (hub : P.underlying ub = some (.int .u8)) (csb : P.cellsOf sb = 1) (cub : P.cellsOf ub = 1) (bub : P.bytesOf ub = 1) (ce : P.cellsOf e = 3)
    (hv : Value.okWide P W r b0 e v) (h : DataW.Trod enc P W base spare held e v d p) (hz : Sized P e d) :
    ∃ (a : PA), v = .agg #[.int .i64 a.id, .slice a.A a.n a.c, .slice a.B a.m a.e] ∧ a.ok W := by
  obtain ⟨l, rfl, hsz⟩ := okWide_struct he hv
  obtain ⟨fuel, hf⟩ := h
  rw [ce] at hsz
  have hl : ∃ a b c, l = #[a, b, c] := by
    obtain ⟨ll⟩ := l
    match ll, hsz with
    | [a, b, c], _ => exact ⟨a, b, c, rfl⟩
  obtain ⟨v0, v1, v2, rfl⟩ := hl
  obtain ⟨a, e1, h⟩ := pack_cells he t0 t1 t2 hi ci hs hu cs cu bu hsb hub csb cub bub (show DataW.trod enc P W base spare held fuel e [v0, v1, v2] = some (d, p) from hf) hz
  unfold PA.cells at e1
  injection e1 with e1 e2
  injection e2 with e2 e3
  injection e3 with e3 _
  subst e1 e2 e3
  exact ⟨a, rfl, h⟩
end
end Go.Proofs.Ytidoembkcaojoaa
