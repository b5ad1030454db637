/- Chapter 20: deeds among the arguments of a statement; Long. -/
import Derived.Test.YtcgcbajgclkmkaaOpen
import Derived.Test.YtcgcbajgclkmkaaKn20
import Derived.Deep.SlicePairs
namespace Go.Proofs.Ytcgcbajgclkmkaa
open Go.ChangeShapes Go.WideShapes Go.ChangeAt Go.RowKit Go.Deep
set_option linter.unusedVariables false
/-- An item. -/
structure De where
  takes : Bool
  sym : Int
  set : List Int
instance : Inhabited De := ⟨⟨false, 0, []⟩⟩
def I64 (n : Int) : Prop := -9223372036854775808 ≤ n ∧ n ≤ 9223372036854775807
/-- An item in memory. -/
def DeAt (w : World) (a off : Nat) (it : De) : Prop :=
  w.cell? ⟨a, off, none⟩ = some (.bool it.takes) ∧ w.cell? ⟨a, off + 1, none⟩ = some (.int .i64 it.sym) ∧
    ∃ B m c, w.cell? ⟨a, off + 2, none⟩ = some (.slice B m c) ∧ Rd w B m (nums it.set) ∧ m ≤ c ∧ m ≤ 17592186043904 ∧ I64 it.sym
theorem DeAt.below {w w' : World} {a off : Nat} {it : De} (h : DeAt w a off it) (ha : a < w.heap.size) (hb : Below w.heap.size w w') : DeAt w' a off it := by
  obtain ⟨h0, h1, B, m, c, h3, h4, h5⟩ := h
  exact ⟨(hb.cell (p := ⟨a, off, none⟩) ha).trans h0, (hb.cell (p := ⟨a, off + 1, none⟩) ha).trans h1, B, m, c, (hb.cell (p := ⟨a, off + 2, none⟩) ha).trans h3, h4.below hb, h5⟩
/-- A slice of items. -/
def Des (w : World) (A : Option Addr) (n : Nat) (its : List De) : Prop :=
  its.length = n ∧ (0 < n → ∃ a off, A = some ⟨a, off, none⟩ ∧ a < w.heap.size ∧ ∀ (i : Nat) (h : i < its.length), DeAt w a (off + i * 3) its[i])
theorem Des.below {w w' : World} {A : Option Addr} {n : Nat} {its : List De} (h : Des w A n its) (hb : Below w.heap.size w w') : Des w' A n its := by
  refine ⟨h.1, fun hn => ?_⟩
  obtain ⟨a, off, e, ha, hx⟩ := h.2 hn
  exact ⟨a, off, e, Nat.lt_of_lt_of_le ha hb.size, fun i hi => (hx i hi).below ha hb⟩
section
variable {H : Type} {enc : TypeId × Value → H} {P : Program} {W : World} {spare : Nat → Bool} {held : Bool} {base : Nat}
theorem Sized.parts3 {t : TypeId} {f0 f1 f2 : Field} {d0 d1 d2 : DataW H} (ht : P.underlying t = some (.struct #[f0, f1, f2])) (h : Sized P t (.agg [d0, d1, d2])) : Sized P f2.type d2 := by
  refine fun n hn => h n ?_
  simp [DataW.weights, ht, DataW.weightsEach, hn]
theorem item_cells {e s b i u : TypeId} {f0 f1 f2 : Field} (he : P.underlying e = some (.struct #[f0, f1, f2])) (t0 : f0.type = b ∧ f0.offset = 0) (t1 : f1.type = i ∧ f1.offset = 1) (t2 : f2.type = s ∧ f2.offset = 2)
    (hb : P.underlying b = some .bool) (hi : P.underlying i = some (.int .i64)) (hs : P.underlying s = some (.slice u)) (hu : P.underlying u = some (.int .i64)) (cb : P.cellsOf b = 1) (ci : P.cellsOf i = 1) (cs : P.cellsOf s = 1) (cu : P.cellsOf u = 1) (bu : P.bytesOf u = 8)
    {n : Nat} {v0 v1 v2 : Value} {d : DataW H} {p : List MemPlace} (h : DataW.trod enc P W base spare held n e [v0, v1, v2] = some (d, p)) (hz : Sized P e d) :
    ∃ (it : De) (B : Option Addr) (m c : Nat), v0 = .bool it.takes ∧ v1 = .int .i64 it.sym ∧ v2 = .slice B m c ∧ Rd W B m (nums it.set) ∧ m ≤ c ∧ m ≤ 17592186043904 ∧ I64 it.sym := by
  obtain ⟨xs, k, _, hxy, _, hxl, hf⟩ := DataW.trod_struct he h
  match xs, hxl with
  | [y0, y1, y2], _ =>
    have g0 := hf 0 f0 rfl
    have g1 := hf 1 f1 rfl
    have g2 := hf 2 f2 rfl
    rw [t0.1, t0.2, cb] at g0
    rw [t1.1, t1.2, ci] at g1
    rw [t2.1, t2.2, cs] at g2
    simp only [List.drop_zero, List.drop_succ_cons, List.take_succ_cons, List.take_zero, List.getElem?_cons_zero, List.getElem?_cons_succ] at g0 g1 g2
    simp only [Prod.mk.injEq] at hxy
    obtain ⟨hd, _⟩ := hxy
    subst hd
    obtain ⟨x0, e0, _⟩ := DataW.trod_bool hb g0
    obtain ⟨x1, e1, _, w1⟩ := DataW.trod_int hi g1
    injection e0 with e0 _
    injection e1 with e1 _
    subst e0 e1
    obtain ⟨y3d, y3p⟩ := y2
    obtain ⟨B, m, c, bs, rfl, hr, hl, hm, _, hsz⟩ := plain_ints hs hu cu g2
    have z3 := Sized.parts3 he hz
    rw [t2.1] at z3
    have s3 := hsz z3
    rw [bu, reach_le] at s3
    exact ⟨⟨x0, x1, bs⟩, B, m, c, rfl, rfl, rfl, hr, hl, by omega, bounds_i64 w1⟩
theorem arg_items {r : Reach} {b0 : Nat} {t e s b i u : TypeId} {v : Value} {d : DataW H} {p : List MemPlace} {f0 f1 f2 : Field} (ht : P.underlying t = some (.slice e)) (he : P.underlying e = some (.struct #[f0, f1, f2])) (t0 : f0.type = b ∧ f0.offset = 0) (t1 : f1.type = i ∧ f1.offset = 1) (t2 : f2.type = s ∧ f2.offset = 2)
    (hb : P.underlying b = some .bool) (hi : P.underlying i = some (.int .i64)) (hs : P.underlying s = some (.slice u)) (hu : P.underlying u = some (.int .i64)) (ce : P.cellsOf e = 3) (cb : P.cellsOf b = 1) (ci : P.cellsOf i = 1) (cs : P.cellsOf s = 1) (cu : P.cellsOf u = 1) (bu : P.bytesOf u = 8) (be : P.bytesOf e = 40)
    (hv : Value.okWide P W r b0 t v) (h : DataW.Trod enc P W base spare held t v d p) (hz : Sized P t d) :
    ∃ (A : Option Addr) (n c : Nat) (its : List De), v = .slice A n c ∧ Des W A n its ∧ n ≤ c ∧ n ≤ 3518437208780 := by
  obtain ⟨a0, len0, cap0, rfl⟩ := okWide_slice ht hv
  obtain ⟨fuel, hf⟩ := h
  rcases open_slice ht hf with ⟨hcs, hx⟩ | ⟨a, len, cap, m, n, D, Pl, hcs, _, hl, hm, hmm, hx, hel⟩
  · cases hcs
    exact ⟨none, 0, 0, [], rfl, ⟨rfl, fun h => absurd h (by omega)⟩, Nat.le_refl _, by omega⟩
  · cases hcs
    injection hx with hx _
    subst hx
    have hlm : len0 ≤ m := by rw [hmm]; split <;> omega
    have hsz := Sized.slice ht hz
    rw [List.length_map, List.length_range, be, reach_le] at hsz
    have hlen0 : len0 ≤ 3518437208780 := by omega
    rcases Nat.eq_zero_or_pos len0 with h0 | h0
    · subst h0
      exact ⟨some a, 0, cap0, [], rfl, ⟨rfl, fun h => absurd h (by omega)⟩, Nat.zero_le _, by omega⟩
    · have hsp : a.spot = none := by
        obtain ⟨cs', h1, h2⟩ := hel 0 (by omega)
        rw [ce] at h1
        obtain ⟨_, hlen, hcell⟩ := World.cells?_some h1
        match cs', hlen with
        | [v0, v1, v2], _ =>
          have e0 := hcell 0 (by omega)
          simpa [Addr.add] using World.cell?_spot e0
      obtain ⟨ab, ao, asp⟩ := a
      simp at hsp
      subst hsp
      have each : ∀ i, i < len0 → ∃ it : De, DeAt W ab (ao + i * 3) it := by
        intro j hj
        obtain ⟨cs', h1, h2⟩ := hel j (by omega)
        rw [ce] at h1
        obtain ⟨_, hlen, hcell⟩ := World.cells?_some h1
        match cs', hlen with
        | [v0, v1, v2], _ =>
          obtain ⟨it, B, m', c, rfl, rfl, rfl, hr, hle, hm', hi1⟩ := item_cells he t0 t1 t2 hb hi hs hu cb ci cs cu bu h2 (Sized.elem ht hz (List.mem_map.2 ⟨j, List.mem_range.2 hj, rfl⟩))
          have e0 := hcell 0 (by omega)
          have e1 := hcell 1 (by omega)
          have e2 := hcell 2 (by omega)
          rw [Addr.add_lit, Addr.add_lit] at e0 e1 e2
          exact ⟨it, e0, e1, B, m', c, e2, hr, hle, hm', hi1⟩
      obtain ⟨V, hV⟩ := choose_lt each
      refine ⟨some ⟨ab, ao, none⟩, len0, cap0, (List.range len0).map V, rfl, ⟨by simp, fun hn => ⟨ab, ao, rfl, World.block_lt_of_cell? _ _ (hV 0 hn).1, fun j hj => ?_⟩⟩, hl, hlen0⟩
      have hj' : j < len0 := by simpa using hj
      simpa using hV j hj'
theorem arg_item {r : Reach} {b0 : Nat} {e s b i u : TypeId} {v : Value} {d : DataW H} {p : List MemPlace} {f0 f1 f2 : Field} (he : P.underlying e = some (.struct #[f0, f1, f2])) (t0 : f0.type = b ∧ f0.offset = 0) (t1 : f1.type = i ∧ f1.offset = 1) (t2 : f2.type = s ∧ f2.offset = 2)
    (hb : P.underlying b = some .bool) (hi : P.underlying i = some (.int .i64)) (hs : P.underlying s = some (.slice u)) (hu : P.underlying u = some (.int .i64)) (ce : P.cellsOf e = 3) (cb : P.cellsOf b = 1) (ci : P.cellsOf i = 1) (cs : P.cellsOf s = 1) (cu : P.cellsOf u = 1) (bu : P.bytesOf u = 8)
    (hv : Value.okWide P W r b0 e v) (h : DataW.Trod enc P W base spare held e v d p) (hz : Sized P e d) :
    ∃ (B : Option Addr) (m c : Nat) (it : De), v = .agg #[.bool it.takes, .int .i64 it.sym, .slice B m c] ∧ Rd W B m (nums it.set) ∧ m ≤ c ∧ m ≤ 17592186043904 ∧ I64 it.sym := by
  obtain ⟨l, rfl, hsz⟩ := okWide_struct he hv
  obtain ⟨fuel, hf⟩ := h
  rw [ce] at hsz
  have hl : ∃ a b c, l = #[a, b, c] := by
    obtain ⟨ll⟩ := l
    match ll, hsz with
    | [a, b, c], _ => exact ⟨a, b, c, rfl⟩
  obtain ⟨v0, v1, v2, rfl⟩ := hl
  obtain ⟨it, B, m, c, rfl, rfl, rfl, h⟩ := item_cells he t0 t1 t2 hb hi hs hu cb ci cs cu bu (show DataW.trod enc P W base spare held fuel e [v0, v1, v2] = some (d, p) from hf) hz
  exact ⟨B, m, c, it, rfl, h⟩
end
def big (it : De) : Bool := decide (40 < it.set.length)
def longV (its : List De) : Bool := (its.take 61).any big || decide (60 < its.length)
theorem longV_no {its : List De} (h : longV its = false) : its.length ≤ 60 ∧ ∀ it ∈ its, it.set.length ≤ 40 := by
  unfold longV at h
  rw [Bool.or_eq_false_iff] at h
  have h1 : its.length ≤ 60 := by have := h.2; simpa using this
  refine ⟨h1, fun it hi => ?_⟩
  have h2 := h.1
  rw [List.take_of_length_le (by omega)] at h2
  have h3 := List.any_eq_false.1 h2 it hi
  unfold big at h3
  simpa using h3
theorem longV_big {its : List De} {k : Nat} (hk : k < its.length) (h41 : k < 61) (h : 40 < its[k].set.length) : longV its = true := by
  unfold longV
  rw [Bool.or_eq_true, List.any_eq_true]
  refine .inl ⟨its[k], ?_, by unfold big; simpa using h⟩
  rw [List.mem_take_iff_getElem]
  exact ⟨k, by omega, rfl⟩
theorem any_take_succ {its : List De} {k : Nat} (hk : k < its.length) : (its.take (k + 1)).any big = ((its.take k).any big || big its[k]) := by
  rw [List.take_succ_eq_append_getElem hk, List.any_append]; simp
set_option maxRecDepth 100000 in
set_option maxHeartbeats 2000000 in
/-- Long -/
theorem long_any {w : World} {A : Option Addr} {n c : Nat} {its : List De} (h : Des w A n its) (hn : n ≤ 3518437208780) :
    Calls Try.prog 20 #[.slice A n c] w fun e w' => e = .returned (.bool (longV its)) ∧ w = w' := by
  have H := Lib.hid h
  clear h
  go_enter Try.func20, Try.ntmps20
  go_wp2
  go_loopw [3] (fun i wr => ∃ k : Nat, k ≤ n ∧ k ≤ 61 ∧ i = .int .i64 k ∧ (its.take k).any big = false ∧ wr = w) (fun i wr => n - (intOf i).toNat)
  case atStart => exact ⟨0, by omega, by omega, rfl, by simp, rfl⟩
  case round =>
    obtain ⟨k, hk, hk41, rfl, hany, rfl⟩ := hrel
    have HA := Lib.hid hany
    clear hany
    by_cases hlt : k < n
    · have km : (k : Int) < (n : Int) := by omega
      by_cases h41 : k < 61
      · have kq : (k : Int) < 61 := by omega
        obtain ⟨a, off, rfl, hal, hel⟩ := H.out.2 (by omega)
        have hkl : k < its.length := by rw [H.out.1]; exact hlt
        obtain ⟨_, _, B, m, cc, c3, hrd, _, hm, _⟩ := hel k hkl
        have hbl : its[k].set.length = m := by have := hrd.1; simpa [nums_length] using this
        have HK := Lib.hid (And.intro hkl (And.intro hlt (And.intro h41 hbl)))
        by_cases hbig : 40 < m
        · have d1 : decide ((m : Int) > 40) = true := by simp; omega
          have d2 : decide ((40 : Int) < (m : Int)) = true := by simp; omega
          have d3 : decide (40 < m) = true := by simpa using hbig
          have HL := Lib.hid (longV_big hkl h41 (by rw [hbl]; exact hbig))
          clear hlt h41 hbl hel hrd hm hbig
          go_wp2
          go_ret
          exact ⟨ret_bool (by rw [HL.out]), rfl⟩
        · have d1 : decide ((m : Int) > 40) = false := by simp; omega
          have d2 : decide ((40 : Int) < (m : Int)) = false := by simp; omega
          have d3 : decide (40 < m) = false := by simpa using hbig
          have HL := Lib.hid hbig
          clear hlt h41 hbl hel hrd hm hbig
          go_wp2
          exact ⟨⟨k + 1, by have := HK.out; omega, by have := HK.out; omega, by go_num, by rw [any_take_succ HK.out.1, HA.out]; unfold big; simp; have := HK.out.2.2.2; have := HL.out; omega, trivial⟩, by have := HK.out; simp [intOf]; omega⟩
      · obtain rfl : k = 61 := by omega
        have HL := Lib.hid (show longV its = true from by unfold longV; rw [H.out.1]; simp; right; omega)
        have d1 : decide ((n : Int) > 60) = true := by simp; omega
        have d2 : decide ((60 : Int) < (n : Int)) = true := by simp; omega
        have d3 : decide (60 < n) = true := by simp; omega
        go_wp2
        go_ret
        exact ⟨ret_bool (by rw [HL.out]), rfl⟩
    · obtain rfl : k = n := by omega
      have HL := Lib.hid (show longV its = decide (60 < k) from by unfold longV; have := HA.out; rw [List.take_of_length_le (by rw [H.out.1]; exact Nat.le_refl _)] at this; rw [List.take_of_length_le (by rw [H.out.1]; omega), this, H.out.1]; rfl)
      clear hlt hk
      go_wp2
      go_ret
      exact ⟨ret_bool (by rw [HL.out]; exact (decide_eq_decide.2 (by omega))), rfl⟩
end Go.Proofs.Ytcgcbajgclkmkaa
