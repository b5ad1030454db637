/- What the arguments of a statement come to, by their types: slices of bytes, of numbers, of slices. Nothing of the program is named here. -/
import Derived.Test.YtlhipaffhehcnaaGreatT01
import Derived.SizedLaws
import Derived.Deep.Slices
namespace Go.Proofs.YtlhipaffhehcnaaGreat
open Go.ChangeShapes Go.WideShapes Go.ChangeAt Go.RowKit Go.Deep
set_option linter.unusedVariables false
section
variable {H : Type} {enc : TypeId × Value → H} {P : Program} {W : World} {spare : Nat → Bool} {held : Bool} {base : Nat}
/-- All parts of a datum are within the form's reach. -/
def Sized (P : Program) (t : TypeId) (d : DataW H) : Prop := ∀ n ∈ d.weights P t, n ≤ reachBytes
theorem Sized.of_each {ts : List TypeId} {ds : List (DataW H)} (h : (DataW.weightsEach P ts ds).all (· ≤ reachBytes) = true) {j : Nat} {t : TypeId} {d : DataW H} (ht : ts[j]? = some t) (hd : ds[j]? = some d) : Sized P t d := by
  intro n hn
  have := List.all_eq_true.1 h _ (DataW.weights_mem_each ht hd n hn)
  simpa using this
theorem Sized.slice {t e : TypeId} {el sp : List (DataW H)} (ht : P.underlying t = some (.slice e)) (h : Sized P t (.slice el sp)) : (el.length + sp.length) * P.bytesOf e ≤ reachBytes :=
  h _ (by simp [DataW.weights, ht])
theorem weightsAll_mem {t : TypeId} : ∀ {l : List (DataW H)} {d : DataW H}, d ∈ l → ∀ n ∈ d.weights P t, n ∈ DataW.weightsAll P t l
  | d0 :: l, d, hd, n, hn => by
    simp only [DataW.weightsAll, List.mem_append]
    rcases List.mem_cons.1 hd with rfl | hd
    · exact .inl hn
    · exact .inr (weightsAll_mem hd n hn)
theorem Sized.elem {t e : TypeId} {el sp : List (DataW H)} (ht : P.underlying t = some (.slice e)) (h : Sized P t (.slice el sp)) {d : DataW H} (hd : d ∈ el) : Sized P e d :=
  fun n hn => h n (by simp [DataW.weights, ht, weightsAll_mem hd n hn])
theorem reach_le : reachBytes = 140737488351232 := by decide
theorem plain_ints {t e : TypeId} {k : IntKind} {fuel : Nat} {v : Value} {d : DataW H} {p : List MemPlace} (ht : P.underlying t = some (.slice e)) (he : P.underlying e = some (.int k)) (ce : P.cellsOf e = 1)
    (h : DataW.trod enc P W base spare held fuel t [v] = some (d, p)) :
    ∃ (A : Option Addr) (len cap : Nat) (zs : List Int), v = .slice A len cap ∧ Rd W A len (zs.map (Value.int k)) ∧ len ≤ cap ∧ cap ≤ maxLen ∧ (∀ n ∈ zs, (Lit.int k n).wf = true) ∧ (Sized P t d → len * P.bytesOf e ≤ reachBytes) := by
  rcases open_ints ht he ce h with ⟨hcs, hx⟩ | ⟨a, len, cap, zs, hcs, _, hl, hm, hz, hx, hcell, hwz⟩
  · cases hcs
    cases hx
    exact ⟨none, 0, 0, [], rfl, Rd.nil _ _, Nat.le_refl _, by simp [maxLen], by simp, fun _ => by simp⟩
  · cases hcs
    cases hx
    have hle : len ≤ zs.length := by rw [hz]; split <;> omega
    refine ⟨some a, len, cap, zs.take len, rfl, ?_, hl, hm, fun n hn => hwz n (List.mem_of_mem_take hn), fun hs => ?_⟩
    · refine ⟨by simp; omega, fun hn => ?_⟩
      have h0 := hcell 0 (by omega)
      have hsp : a.spot = none := by simpa [Addr.add] using World.cell?_spot h0
      refine ⟨a.block, a.off, ?_, fun j u hu => ?_⟩
      · obtain ⟨b, o, s⟩ := a; simp at hsp; subst hsp; rfl
      · have hj : j < (zs.take len).length := by have := (List.getElem?_eq_some_iff.1 hu).1; simpa using this
        have hj' : j < len := by simp at hj; omega
        have hcj := hcell j (by omega)
        obtain ⟨b, o, s⟩ := a
        simp at hsp; subst hsp
        rw [Addr.add_lit] at hcj
        simp only
        rw [hcj, ← hu]
        simp [List.getD, hj']
        rw [List.getElem?_eq_getElem (by omega)]; rfl
    · have := Sized.slice ht hs
      have e1 : (lits k (zs.take len) : List (DataW H)).length = len := by simp [lits]; omega
      rw [e1] at this
      exact Nat.le_trans (Nat.mul_le_mul_right _ (Nat.le_add_right _ _)) this
theorem arg_ints {r : Reach} {b0 : Nat} {t e : TypeId} {v : Value} {d : DataW H} {p : List MemPlace} (ht : P.underlying t = some (.slice e)) (he : P.underlying e = some (.int .i64)) (ce : P.cellsOf e = 1) (be : P.bytesOf e = 8)
    (hv : Value.okWide P W r b0 t v) (h : DataW.Trod enc P W base spare held t v d p) (hs : Sized P t d) :
    ∃ (A : Option Addr) (len cap : Nat) (zs : List Int), v = .slice A len cap ∧ Rd W A len (nums zs) ∧ len ≤ cap ∧ len ≤ 17592186043904 ∧ ∀ n ∈ zs, -9223372036854775808 ≤ n ∧ n ≤ 9223372036854775807 := by
  obtain ⟨a0, len0, cap0, rfl⟩ := okWide_slice ht hv
  obtain ⟨fuel, hf⟩ := h
  obtain ⟨A, len, cap, zs, e1, hr, hl, hm, hw, hb⟩ := plain_ints ht he ce hf
  have := hb hs
  rw [be, reach_le] at this
  exact ⟨A, len, cap, zs, e1, hr, hl, by omega, fun n hn => bounds_i64 (hw n hn)⟩
theorem arg_int {r : Reach} {b0 : Nat} {t : TypeId} {v : Value} {d : DataW H} {p : List MemPlace} (ht : P.underlying t = some (.int .i64))
    (hv : Value.okWide P W r b0 t v) (h : DataW.Trod enc P W base spare held t v d p) : ∃ n, v = .int .i64 n ∧ (Lit.int .i64 n).wf = true := by
  obtain ⟨n, rfl, _, _, hw⟩ := open_int ht hv h
  exact ⟨n, rfl, hw⟩
end
end Go.Proofs.YtlhipaffhehcnaaGreat
