/- What the arguments of a statement come to, by their types: slices of bytes, of numbers, of slices. Nothing of the program is named here. -/
import Derived.Test.YtidoembkcaojoaaBase
import Derived.SizedLaws
import Derived.Deep.Slices
namespace Go.Proofs.Ytidoembkcaojoaa
open Go.ChangeShapes Go.WideShapes Go.ChangeAt Go.RowKit Go.Deep
set_option linter.unusedVariables false

def toBytes (zs : List Int) : List UInt8 := zs.map fun n => UInt8.ofNat n.toNat
theorem bys_toBytes {zs : List Int} (h : ∀ n ∈ zs, (Lit.int .u8 n).wf = true) : bys (toBytes zs) = zs.map (Value.int .u8) := by
  unfold bys toBytes
  rw [List.map_map]
  refine List.map_congr_left fun n hn => ?_
  have hb := bounds_u8 (h n hn)
  simp only [Function.comp]
  congr 1
  rw [UInt8.toNat_ofNat']
  omega
section
variable {H : Type} {enc : TypeId × Value → H} {P : Program} {W : World} {spare : Nat → Bool} {held : Bool} {base : Nat}
/-- All parts of a datum are within the form's reach. -/
def Sized (P : Program) (t : TypeId) (d : DataW H) : Prop := ∀ n ∈ d.weights P t, n ≤ reachBytes
theorem Sized.of_each {ts : List TypeId} {ds : List (DataW H)} (h : (DataW.weightsEach P ts ds).all (· ≤ reachBytes) = true) {j : Nat} {t : TypeId} {d : DataW H} (ht : ts[j]? = some t) (hd : ds[j]? = some d) : Sized P t d := by
  intro n hn
  have := List.all_eq_true.1 h _ (DataW.weights_mem_each ht hd n hn)
  simpa using this
theorem Sized.slice {t e : TypeId} {el sp : List (DataW H)} (ht : P.underlying t = some (.slice e)) (h : Sized P t (.slice el sp)) : (el.length + sp.length) * P.bytesOf e ≤ reachBytes :=
  h _ (by simp [DataW.weights, ht])
theorem weightsAll_mem {t : TypeId} : ∀ {l : List (DataW H)} {d : DataW H}, d ∈ l → ∀ n ∈ d.weights P t, n ∈ DataW.weightsAll P t l
  | d0 :: l, d, hd, n, hn => by
    simp only [DataW.weightsAll, List.mem_append]
    rcases List.mem_cons.1 hd with rfl | hd
    · exact .inl hn
    · exact .inr (weightsAll_mem hd n hn)
theorem Sized.elem {t e : TypeId} {el sp : List (DataW H)} (ht : P.underlying t = some (.slice e)) (h : Sized P t (.slice el sp)) {d : DataW H} (hd : d ∈ el) : Sized P e d :=
  fun n hn => h n (by simp [DataW.weights, ht, weightsAll_mem hd n hn])
theorem reach_le : reachBytes = 140737488351232 := by decide

theorem plain_ints {t e : TypeId} {k : IntKind} {fuel : Nat} {v : Value} {d : DataW H} {p : List MemPlace} (ht : P.underlying t = some (.slice e)) (he : P.underlying e = some (.int k)) (ce : P.cellsOf e = 1)
    (h : DataW.trod enc P W base spare held fuel t [v] = some (d, p)) :
    ∃ (A : Option Addr) (len cap : Nat) (zs : List Int), v = .slice A len cap ∧ Rd W A len (zs.map (Value.int k)) ∧ len ≤ cap ∧ cap ≤ maxLen ∧ (∀ n ∈ zs, (Lit.int k n).wf = true) ∧ (Sized P t d → len * P.bytesOf e ≤ reachBytes) := by
  rcases open_ints ht he ce h with ⟨hcs, hx⟩ | ⟨a, len, cap, zs, hcs, _, hl, hm, hz, hx, hcell, hwz⟩
  · cases hcs
    cases hx
    exact ⟨none, 0, 0, [], rfl, Rd.nil _ _, Nat.le_refl _, by simp [maxLen], by simp, fun _ => by simp⟩
  · cases hcs
    cases hx
    have hle : len ≤ zs.length := by rw [hz]; split <;> omega
    refine ⟨some a, len, cap, zs.take len, rfl, ?_, hl, hm, fun n hn => hwz n (List.mem_of_mem_take hn), fun hs => ?_⟩
    · refine ⟨by simp; omega, fun hn => ?_⟩
      have h0 := hcell 0 (by omega)
      have hsp : a.spot = none := by simpa [Addr.add] using World.cell?_spot h0
      refine ⟨a.block, a.off, ?_, fun j u hu => ?_⟩
      · obtain ⟨b, o, s⟩ := a; simp at hsp; subst hsp; rfl
      · have hj : j < (zs.take len).length := by have := (List.getElem?_eq_some_iff.1 hu).1; simpa using this
        have hj' : j < len := by simp at hj; omega
        have hcj := hcell j (by omega)
        obtain ⟨b, o, s⟩ := a
        simp at hsp; subst hsp
        rw [Addr.add_lit] at hcj
        simp only
        rw [hcj, ← hu]
        simp [List.getD, hj']
        rw [List.getElem?_eq_getElem (by omega)]; rfl
    · have := Sized.slice ht hs
      have e1 : (lits k (zs.take len) : List (DataW H)).length = len := by simp [lits]; omega
      rw [e1] at this
      exact Nat.le_trans (Nat.mul_le_mul_right _ (Nat.le_add_right _ _)) this
theorem plain_bytes {t e : TypeId} {fuel : Nat} {v : Value} {d : DataW H} {p : List MemPlace} (ht : P.underlying t = some (.slice e)) (he : P.underlying e = some (.int .u8)) (ce : P.cellsOf e = 1)
    (h : DataW.trod enc P W base spare held fuel t [v] = some (d, p)) :
    ∃ (A : Option Addr) (len cap : Nat) (xs : List UInt8), v = .slice A len cap ∧ Rd W A len (bys xs) ∧ len ≤ cap ∧ cap ≤ maxLen ∧ (Sized P t d → len * P.bytesOf e ≤ reachBytes) := by
  obtain ⟨A, len, cap, zs, rfl, hr, hl, hm, hw, hs⟩ := plain_ints ht he ce h
  exact ⟨A, len, cap, toBytes zs, rfl, by rw [bys_toBytes hw]; exact hr, hl, hm, hs⟩

/-- The address of a slice's element as a place. -/
theorem add_plain {w : World} {a : Addr} {v : Value} (h : w.cell? a = some v) : a = ⟨a.block, a.off, none⟩ := by
  have := World.cell?_spot h
  obtain ⟨b, o, s⟩ := a
  simp at this; subst this; rfl

theorem plain_slice1 {t e : TypeId} {fuel : Nat} {v : Value} {d : DataW H} {p : List MemPlace} (ht : P.underlying t = some (.slice e)) (ce : P.cellsOf e = 1)
    (h : DataW.trod enc P W base spare held fuel t [v] = some (d, p)) :
    ∃ (A : Option Addr) (len cap : Nat) (vs : List Value) (D : List (DataW H)), v = .slice A len cap ∧ Rd W A len vs ∧ len ≤ cap ∧ cap ≤ maxLen ∧ D.length = len ∧ (∀ (i : Nat) u, vs[i]? = some u → ∃ x q m, D[i]? = some x ∧ DataW.trod enc P W base spare held m e [u] = some (x, q)) ∧
      (Sized P t d → len * P.bytesOf e ≤ reachBytes ∧ ∀ x ∈ D, Sized P e x) := by
  rcases open_slice1 ht ce h with ⟨hcs, hx⟩ | ⟨a, len, cap, m, n, V, D, Pl, hcs, _, hl, hm, hmm, hx, hcell⟩
  · cases hcs
    cases hx
    exact ⟨none, 0, 0, [], [], rfl, Rd.nil _ _, Nat.le_refl _, by simp [maxLen], rfl, by simp, fun _ => by simp⟩
  · cases hcs
    cases hx
    have hle : len ≤ m := by rw [hmm]; split <;> omega
    refine ⟨some a, len, cap, (List.range len).map V, (List.range len).map D, rfl, ⟨by simp, fun hn => ?_⟩, hl, hm, by simp, fun i u hu => ?_, fun hs => ⟨?_, fun x hx => ?_⟩⟩
    · have h0 := (hcell 0 (by omega)).1
      have hsp : a.spot = none := by simpa [Addr.add] using World.cell?_spot h0
      obtain ⟨b, o, s⟩ := a
      simp at hsp; subst hsp
      refine ⟨b, o, rfl, fun j u hu => ?_⟩
      have hj : j < len := by have := (List.getElem?_eq_some_iff.1 hu).1; simpa using this
      have := (hcell j (by omega)).1
      rw [Addr.add_lit] at this
      rw [this, ← hu]
      simp [hj]
    · have hj : i < len := by have := (List.getElem?_eq_some_iff.1 hu).1; simpa using this
      simp [hj] at hu
      subst hu
      exact ⟨D i, Pl i, n, by simp [hj], (hcell i (by omega)).2⟩
    · have := Sized.slice ht hs
      rw [List.length_map, List.length_range] at this
      exact Nat.le_trans (Nat.mul_le_mul_right _ (Nat.le_add_right _ _)) this
    · exact Sized.elem ht hs hx

theorem plain_rows {t e q : TypeId} {fuel : Nat} {v : Value} {d : DataW H} {p : List MemPlace} (ht : P.underlying t = some (.slice e)) (he : P.underlying e = some (.slice q)) (hq : P.underlying q = some (.int .u8)) (ce : P.cellsOf e = 1) (cq : P.cellsOf q = 1)
    (h : DataW.trod enc P W base spare held fuel t [v] = some (d, p)) :
    ∃ (A : Option Addr) (len cap : Nat) (vs : List Value) (xss : List (List UInt8)), v = .slice A len cap ∧ Rd W A len vs ∧ Rows_ W vs xss ∧ len ≤ cap ∧ cap ≤ maxLen ∧ (Sized P t d → len * P.bytesOf e ≤ reachBytes ∧ ∀ x ∈ xss, x.length * P.bytesOf q ≤ reachBytes) := by
  obtain ⟨A, len, cap, vs, D, rfl, hr, hl, hm, hD, hel, hs⟩ := plain_slice1 ht ce h
  have : ∀ (n : Nat) (us : List Value) (ds : List (DataW H)), us.length = ds.length → (∀ (i : Nat) u, us[i]? = some u → ∃ x q m, ds[i]? = some x ∧ DataW.trod enc P W base spare held m e [u] = some (x, q)) →
      ∃ xss, Rows_ W us xss ∧ ((∀ x ∈ ds, Sized P e x) → ∀ x ∈ xss, x.length * P.bytesOf q ≤ reachBytes) := by
    intro n us
    induction us with
    | nil => intro ds _ _; exact ⟨[], Rows_.nil _, fun _ => by simp⟩
    | cons u us ih =>
      intro ds hlen hu
      cases ds with
      | nil => simp at hlen
      | cons d0 ds =>
        obtain ⟨xss, hR, hS⟩ := ih ds (by simpa using hlen) (fun i u hi => by simpa using hu (i + 1) u (by simpa using hi))
        obtain ⟨x, q', m, hx, htr⟩ := hu 0 u rfl
        simp at hx; subst hx
        obtain ⟨A1, l1, c1, xs, rfl, hr1, hl1, hm1, hs1⟩ := plain_bytes he hq cq htr
        have hx1 : xs.length = l1 := by have := hr1.1; simpa [bys_length] using this
        refine ⟨xs :: xss, Rows_.cons hr1 hl1 (by simp only [maxLen] at hm1; omega) hR, fun h x hx => ?_⟩
        rcases List.mem_cons.1 hx with rfl | hx
        · rw [hx1]; exact hs1 (h _ (List.mem_cons_self ..))
        · exact hS (fun y hy => h y (List.mem_cons_of_mem _ hy)) x hx
  obtain ⟨xss, hR, hS⟩ := this 0 vs D (by rw [hr.1, hD]) hel
  exact ⟨A, len, cap, vs, xss, rfl, hr, hR, hl, hm, fun h => ⟨(hs h).1, hS (hs h).2⟩⟩

/-- The arguments, by their types. -/
theorem arg_bytes {r : Reach} {b0 : Nat} {t e : TypeId} {v : Value} {d : DataW H} {p : List MemPlace} (ht : P.underlying t = some (.slice e)) (he : P.underlying e = some (.int .u8)) (ce : P.cellsOf e = 1) (be : P.bytesOf e = 1)
    (hv : Value.okWide P W r b0 t v) (h : DataW.Trod enc P W base spare held t v d p) (hs : Sized P t d) :
    ∃ (A : Option Addr) (len cap : Nat) (xs : List UInt8), v = .slice A len cap ∧ Rd W A len (bys xs) ∧ len ≤ cap ∧ len ≤ 140737488351232 := by
  obtain ⟨a0, len0, cap0, rfl⟩ := okWide_slice ht hv
  obtain ⟨fuel, hf⟩ := h
  obtain ⟨A, len, cap, xs, e1, hr, hl, hm, hb⟩ := plain_bytes ht he ce hf
  have := hb hs
  rw [be, reach_le, Nat.mul_one] at this
  exact ⟨A, len, cap, xs, e1, hr, hl, this⟩
theorem arg_rows {r : Reach} {b0 : Nat} {t e q : TypeId} {v : Value} {d : DataW H} {p : List MemPlace} (ht : P.underlying t = some (.slice e)) (he : P.underlying e = some (.slice q)) (hq : P.underlying q = some (.int .u8)) (ce : P.cellsOf e = 1) (cq : P.cellsOf q = 1) (be : P.bytesOf e = 24) (bq : P.bytesOf q = 1)
    (hv : Value.okWide P W r b0 t v) (h : DataW.Trod enc P W base spare held t v d p) (hs : Sized P t d) :
    ∃ (A : Option Addr) (len cap : Nat) (vs : List Value) (xss : List (List UInt8)), v = .slice A len cap ∧ Rd W A len vs ∧ Rows_ W vs xss ∧ len ≤ cap ∧ len ≤ 5864062014634 ∧ ∀ x ∈ xss, x.length ≤ 140737488351232 := by
  obtain ⟨a0, len0, cap0, rfl⟩ := okWide_slice ht hv
  obtain ⟨fuel, hf⟩ := h
  obtain ⟨A, len, cap, vs, xss, e1, hr, hR, hl, hm, hb⟩ := plain_rows ht he hq ce cq hf
  have h1 := (hb hs).1
  rw [be, reach_le] at h1
  refine ⟨A, len, cap, vs, xss, e1, hr, hR, hl, by omega, fun x hx => ?_⟩
  have h2 := (hb hs).2 x hx
  rw [bq, reach_le, Nat.mul_one] at h2
  exact h2
theorem arg_ints {r : Reach} {b0 : Nat} {t e : TypeId} {v : Value} {d : DataW H} {p : List MemPlace} (ht : P.underlying t = some (.slice e)) (he : P.underlying e = some (.int .i64)) (ce : P.cellsOf e = 1) (be : P.bytesOf e = 8)
    (hv : Value.okWide P W r b0 t v) (h : DataW.Trod enc P W base spare held t v d p) (hs : Sized P t d) :
    ∃ (A : Option Addr) (len cap : Nat) (zs : List Int), v = .slice A len cap ∧ Rd W A len (nums zs) ∧ len ≤ cap ∧ len ≤ 17592186043904 ∧ ∀ n ∈ zs, -9223372036854775808 ≤ n ∧ n ≤ 9223372036854775807 := by
  obtain ⟨a0, len0, cap0, rfl⟩ := okWide_slice ht hv
  obtain ⟨fuel, hf⟩ := h
  obtain ⟨A, len, cap, zs, e1, hr, hl, hm, hw, hb⟩ := plain_ints ht he ce hf
  have := hb hs
  rw [be, reach_le] at this
  exact ⟨A, len, cap, zs, e1, hr, hl, by omega, fun n hn => bounds_i64 (hw n hn)⟩
theorem arg_int {r : Reach} {b0 : Nat} {t : TypeId} {v : Value} {d : DataW H} {p : List MemPlace} (ht : P.underlying t = some (.int .i64))
    (hv : Value.okWide P W r b0 t v) (h : DataW.Trod enc P W base spare held t v d p) : ∃ n, v = .int .i64 n ∧ (Lit.int .i64 n).wf = true := by
  obtain ⟨n, rfl, _, _, hw⟩ := open_int ht hv h
  exact ⟨n, rfl, hw⟩
theorem arg_num {r : Reach} {b0 : Nat} {t : TypeId} {k : IntKind} {v : Value} {d : DataW H} {p : List MemPlace} (ht : P.underlying t = some (.int k))
    (hv : Value.okWide P W r b0 t v) (h : DataW.Trod enc P W base spare held t v d p) : ∃ n, v = .int k n ∧ (Lit.int k n).wf = true := by
  obtain ⟨n, rfl, _, _, hw⟩ := open_int ht hv h
  exact ⟨n, rfl, hw⟩
theorem arg_bool {r : Reach} {b0 : Nat} {t : TypeId} {v : Value} {d : DataW H} {p : List MemPlace} (ht : P.underlying t = some .bool)
    (hv : Value.okWide P W r b0 t v) (h : DataW.Trod enc P W base spare held t v d p) : ∃ b, v = .bool b := by
  obtain ⟨b, rfl, _, _⟩ := open_bool ht hv h
  exact ⟨b, rfl⟩
end
end Go.Proofs.Ytidoembkcaojoaa
