/- Lists of bytes: SameSymbols, CopySymbols, OverSymbols, LongSymbols of artesiankit. -/
import Derived.Test.YtidoembkcaojoaaXr
import Derived.Test.YtidoembkcaojoaaE14
namespace Go.Proofs.Ytidoembkcaojoaa
open Go.RowKit
set_option linter.unusedVariables false
/-- A list of lists of bytes in memory. -/
def Syms (w : World) (A : Option Addr) (n : Nat) (xss : List (List UInt8)) : Prop := ∃ vs, Rd w A n vs ∧ Rows_ w vs xss
section
variable {w w' : World} {A : Option Addr} {n : Nat} {xss : List (List UInt8)}
theorem Syms.len (h : Syms w A n xss) : xss.length = n := by obtain ⟨vs, h1, h2⟩ := h; rw [← h2.1, h1.1]
theorem Syms.below (h : Syms w A n xss) (hb : Below w.heap.size w w') : Syms w' A n xss := by obtain ⟨vs, h1, h2⟩ := h; exact ⟨vs, h1.below hb, h2.below hb⟩
theorem Syms.at_ (h : Syms w A n xss) {i : Nat} (hi : i < n) : ∃ a off B c, A = some ⟨a, off, none⟩ ∧ a < w.heap.size ∧ w.cell? ⟨a, off + i, none⟩ = some (.slice B (xss.getD i []).length c) ∧ Rd w B (xss.getD i []).length (bys (xss.getD i [])) ∧ (xss.getD i []).length ≤ c ∧ (xss.getD i []).length ≤ 9223372036854775807 := by
  have hl := h.len
  obtain ⟨vs, h1, h2⟩ := h
  obtain ⟨a, off, e, ha, hc⟩ := h1.form (by omega)
  have hx : xss[i]? = some (xss.getD i []) := by rw [List.getD_eq_getElem?_getD, List.getElem?_eq_getElem (by omega)]; rfl
  obtain ⟨B, c, h3, h4, h6, h5⟩ := h2.2 i _ hx
  exact ⟨a, off, B, c, e, ha, hc i _ h3, h5, h4, h6⟩
end
/-- Lists of bytes, each in memory of its own. -/
def ORows (w : World) (base : Nat) (vs : List Value) (xss : List (List UInt8)) : Prop :=
  vs.length = xss.length ∧ (∀ (i : Nat) x, xss[i]? = some x → ∃ A c, vs[i]? = some (.slice A x.length c) ∧ w.ownsRow base 5 1 (.slice A x.length c) x.length (bys x)) ∧
    ∀ (i j : Nat) u v b, i < j → vs[i]? = some u → vs[j]? = some v → u.ownBlock = some b → v.ownBlock ≠ some b
section
variable {w w' : World} {base : Nat} {vs : List Value} {xss : List (List UInt8)}
theorem ORows.nil (w : World) (base : Nat) : ORows w base [] [] := ⟨rfl, fun i x h => by simp at h, fun i j u v b _ h => by simp at h⟩
theorem ORows.below (h : ORows w base vs xss) (hb : Below w.heap.size w w') : ORows w' base vs xss :=
  ⟨h.1, fun i x hx => by obtain ⟨A, c, h1, h2⟩ := h.2.1 i x hx; exact ⟨A, c, h1, own_below h2 hb⟩, h.2.2⟩
theorem ORows.rows (h : ORows w base vs xss) : Rows_ w vs xss :=
  ⟨h.1, fun i x hx => by
    obtain ⟨A, c, h1, h2⟩ := h.2.1 i x hx
    obtain ⟨A', c', e, h3, h4, _⟩ := own_form h2
    injection e with e1 e2 e3
    subst e1; subst e3
    exact ⟨A, c, h1, h3, by simp only [maxLen] at h4; omega, Rd.of_own h2⟩⟩
theorem ORows.chg (h : ORows w base vs xss) {S : Nat → Prop} (hc : Chg S w w') (hS : ∀ b, base ≤ b → b < w.heap.size → ¬ S b) : ORows w' base vs xss :=
  ⟨h.1, fun i x hx => by
    obtain ⟨A, c, h1, h2⟩ := h.2.1 i x hx
    exact ⟨A, c, h1, hc.own h2 fun a ha e => hS _ (own_ge h2 a ha).1 (own_ge h2 a ha).2 e⟩, h.2.2⟩
theorem ownB {A : Option Addr} {n c b : Nat} (h : (Value.slice A n c).ownBlock = some b) : ∃ a, A = some a ∧ a.block = b := by
  rcases A with _ | a
  · cases h
  · injection h with h; exact ⟨a, rfl, h⟩
theorem ORows.snoc (h : ORows w base vs xss) {A : Option Addr} {c : Nat} {x : List UInt8} {B : Nat} (hr : w.ownsRow B 5 1 (.slice A x.length c) x.length (bys x)) (hb : base ≤ B) (hB : ∀ (i : Nat) v b, vs[i]? = some v → v.ownBlock = some b → b < B) : ORows w base (vs ++ [.slice A x.length c]) (xss ++ [x]) := by
  refine ⟨by simp [h.1], fun i y hy => ?_, fun i j u v b hij hu hv e1 e2 => ?_⟩
  · rcases Nat.lt_or_ge i xss.length with e | e
    · rw [List.getElem?_append_left e] at hy
      obtain ⟨A', c', h1, h2⟩ := h.2.1 i y hy
      exact ⟨A', c', by rw [List.getElem?_append_left (by rw [h.1]; exact e)]; exact h1, h2⟩
    · rw [List.getElem?_append_right e] at hy
      have h0 : i - xss.length = 0 := by have := (List.getElem?_eq_some_iff.1 hy).1; simp at this; omega
      rw [h0] at hy; simp at hy; subst hy
      exact ⟨A, c, by rw [List.getElem?_append_right (by rw [h.1]; exact e), h.1, h0]; rfl, own_mono hr hb⟩
  · rcases Nat.lt_or_ge j vs.length with e | e
    · rw [List.getElem?_append_left e] at hv
      rw [List.getElem?_append_left (by omega)] at hu
      exact h.2.2 i j u v b hij hu hv e1 e2
    · have hj : j = vs.length := by have := (List.getElem?_eq_some_iff.1 hv).1; simp at this; omega
      subst hj
      rw [List.getElem?_append_left hij] at hu
      rw [List.getElem?_append_right (Nat.le_refl _), Nat.sub_self] at hv
      simp at hv; subst hv
      have h1 := hB i u b hu e1
      obtain ⟨a, ha, ha'⟩ := ownB e2
      have h2 := (own_ge hr a ha).1
      omega
theorem ORows.blk (h : ORows w base vs xss) : ∀ (i : Nat) v b, vs[i]? = some v → v.ownBlock = some b → base ≤ b ∧ b < w.heap.size := fun i v b hv e => by
  have hi : i < xss.length := by rw [← h.1]; exact (List.getElem?_eq_some_iff.1 hv).1
  obtain ⟨A, c, h1, h2⟩ := h.2.1 i _ (List.getElem?_eq_getElem hi)
  rw [hv] at h1; injection h1 with h1; subst h1
  obtain ⟨a, ha, ha'⟩ := ownB e
  rw [← ha']; exact own_ge h2 a ha
end
/-- Rows of two types lie in two blocks. -/
theorem own_apart {w : World} {base base' size size' n n' c c' : Nat} {e e' : TypeId} {A A' : Option Addr} {xs xs' : List Value} (h : w.ownsRow base e size (.slice A n c) n xs) (h' : w.ownsRow base' e' size' (.slice A' n' c') n' xs') (hne : e ≠ e') : ∀ a, A' = some a → ¬ ((Value.slice A n c).ownBlock = some a.block) := by
  intro a ha e1
  obtain ⟨a', ha', hb'⟩ := ownB e1
  rcases h.2 with ⟨hv, _⟩ | ⟨g, cap, cur, hv, _, hh, _⟩
  · injection hv with hv; rw [hv] at ha'; cases ha'
  · rcases h'.2 with ⟨hv', _⟩ | ⟨g', cap', cur', hv', _, hh', _⟩
    · injection hv' with hv'; rw [hv'] at ha; cases ha
    · injection hv with hv _ _; injection hv' with hv' _ _
      rw [hv] at ha'; rw [hv'] at ha
      injection ha' with ha'; injection ha with ha
      subst ha'; subst ha
      have e2 : g = g' := hb'
      subst e2
      rw [hh] at hh'
      injection hh' with hh'; injection hh' with _ hh'
      exact hne hh'
theorem ints2_info : (Try.prog.info? 22).map (fun i => (i.zero, i.size, i.bytes)) = some (some (.slice none 0 0), 1, 24) := by kernel_rfl
def longS (many bytes : Nat) (xss : List (List UInt8)) : Bool := (xss.take many).any (fun x => decide (bytes < x.length)) || decide (many < xss.length)
theorem longS_no {many bytes : Nat} {xss : List (List UInt8)} (h : longS many bytes xss = false) : xss.length ≤ many ∧ ∀ x ∈ xss, x.length ≤ bytes := by
  unfold longS at h
  rw [Bool.or_eq_false_iff] at h
  have h1 : xss.length ≤ many := by have := h.2; simpa using this
  refine ⟨h1, fun it hi => ?_⟩
  have h2 := h.1
  rw [List.take_of_length_le h1] at h2
  have h3 := List.any_eq_false.1 h2 it hi
  simpa using h3
theorem getD_at {xss : List (List UInt8)} {k : Nat} (h : k < xss.length) : xss.getD k [] = xss[k] := by rw [List.getD_eq_getElem?_getD, List.getElem?_eq_getElem h]; rfl
end Go.Proofs.Ytidoembkcaojoaa
