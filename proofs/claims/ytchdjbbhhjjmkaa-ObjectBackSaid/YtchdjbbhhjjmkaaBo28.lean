/- Rows of truth values: as arguments. -/
import Derived.Test.YtchdjbbhhjjmkaaOpen
namespace Go.Proofs.Ytchdjbbhhjjmkaa
open Go.ChangeShapes Go.WideShapes Go.ChangeAt Go.RowKit Go.Deep
set_option linter.unusedVariables false
def bools (l : List Bool) : List Value := l.map Value.bool
theorem bools_length (l : List Bool) : (bools l).length = l.length := by simp [bools]
theorem bools_get (l : List Bool) (i : Nat) (h : i < l.length) : (bools l)[i]? = some (.bool l[i]) := by simp [bools, h]
section
variable {H : Type} {enc : TypeId × Value → H} {P : Program} {W : World} {spare : Nat → Bool} {held : Bool} {base : Nat}
theorem arg_bools {r : Reach} {b0 : Nat} {t e : TypeId} {v : Value} {d : DataW H} {p : List MemPlace} (ht : P.underlying t = some (.slice e)) (he : P.underlying e = some .bool) (ce : P.cellsOf e = 1) (be : P.bytesOf e = 1)
    (hv : Value.okWide P W r b0 t v) (h : DataW.Trod enc P W base spare held t v d p) (hs : Sized P t d) :
    ∃ (A : Option Addr) (len cap : Nat) (l : List Bool), v = .slice A len cap ∧ Rd W A len (bools l) ∧ len ≤ cap ∧ len ≤ 140737488351232 := by
  obtain ⟨a0, len0, cap0, rfl⟩ := okWide_slice ht hv
  obtain ⟨fuel, hf⟩ := h
  obtain ⟨A, len, cap, vs, D, e1, hr, hl, hm, hD, hel, hz⟩ := plain_slice1 ht ce hf
  have hb := (hz hs).1
  rw [be, reach_le, Nat.mul_one] at hb
  have : ∀ us : List Value, (∀ u ∈ us, ∃ b, u = .bool b) → ∃ l, us = bools l := by
    intro us
    induction us with
    | nil => intro _; exact ⟨[], rfl⟩
    | cons u us ih =>
      intro h
      obtain ⟨l, hl⟩ := ih (fun x hx => h x (List.mem_cons_of_mem _ hx))
      obtain ⟨b, hb⟩ := h u (List.mem_cons_self ..)
      exact ⟨b :: l, by rw [hb, hl]; rfl⟩
  obtain ⟨l, rfl⟩ := this vs (fun u hu => by
    obtain ⟨i, hi, rfl⟩ := List.mem_iff_getElem.1 hu
    obtain ⟨x, q, m, _, htr⟩ := hel i _ (List.getElem?_eq_getElem hi)
    obtain ⟨b, hb, _⟩ := DataW.trod_bool he htr
    injection hb with hb
    exact ⟨b, hb⟩)
  exact ⟨A, len, cap, l, e1, hr, hl, hb⟩
end
end Go.Proofs.Ytchdjbbhhjjmkaa
