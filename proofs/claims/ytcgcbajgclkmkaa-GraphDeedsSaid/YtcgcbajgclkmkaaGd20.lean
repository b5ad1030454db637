/- GraphDeeds: two graphs side by side; a deed. -/
import Derived.Test.YtcgcbajgclkmkaaRl20
namespace Go.Proofs.Ytcgcbajgclkmkaa
open Go.RowKit
set_option linter.unusedVariables false
/-- The program's graph and the document's, with the same in them. -/
structure Two (w0 w : World) (G W KB : Nat) (A : Option Addr) (pc : Nat) (vs : List Value) (tag R : Nat → Option Nat) (L : GL) (kn : List Bool) (S : List (List Int)) (most : Int) : Prop where
  gr : Gr w w0.heap.size G tag L kn S most
  rg : RG w w0.heap.size W KB A pc vs R kn S most
  b : Below w0.heap.size w0 w
  ap : ∀ x, tag x ≠ none → R x = none
section
variable {w0 w w' : World} {G W KB : Nat} {A : Option Addr} {pc : Nat} {vs : List Value} {tag R : Nat → Option Nat} {L : GL} {kn : List Bool} {S : List (List Int)} {most : Int}
theorem Two.below (h : Two w0 w G W KB A pc vs tag R L kn S most) (hb : Below w.heap.size w w') : Two w0 w' G W KB A pc vs tag R L kn S most :=
  ⟨h.gr.below hb, h.rg.below hb, below_base h.b hb h.b.size, h.ap⟩
theorem Two.other (h : Two w0 w G W KB A pc vs tag R L kn S most) {X : Nat → Prop} (hc : Chg X w w') (hX : ∀ b, X b → tag b = none ∧ R b = none ∧ w0.heap.size ≤ b) : Two w0 w' G W KB A pc vs tag R L kn S most :=
  ⟨h.gr.other hc fun b hb e => hb (hX b e).1, h.rg.chg hc fun b hb e => hb (hX b e).2.1, hc.below h.b (fun b _ e => (hX b e).2.2) h.b.size, h.ap⟩
theorem Two.new (h : Two w0 w G W KB A pc vs tag R L kn S most) {b : Nat} (hb : w.heap.size ≤ b) : tag b = none ∧ R b = none ∧ w0.heap.size ≤ b := ⟨h.gr.newTag hb, h.rg.newTag hb, Nat.le_trans h.b.size hb⟩
theorem Two.old (h : Two w0 w G W KB A pc vs tag R L kn S most) {b : Nat} (hb : b < w0.heap.size) : tag b = none ∧ R b = none := by
  constructor
  · cases e : tag b with
    | none => rfl
    | some u => have := (h.gr.gm.lt b (by rw [e]; simp)).1; omega
  · cases e : R b with
    | none => rfl
    | some u => have := (h.rg.lt b (by rw [e]; simp)).1; omega
theorem overOwn {base n c : Nat} {B : Option Addr} {l : List Int} (ho : w.ownsRow base 3 1 (.slice B n c) n (nums l)) (hn : n ≤ 1000000) :
    Calls Try.prog 34 #[.slice B n c] w fun e w' => e = .returned (.tuple #[]) ∧ Chg (fun k => (Value.slice B n c).ownBlock = some k) w w' := by
  have hl : l.length = n := by have := ho.1; simpa [nums_length] using this
  rcases ho.2 with ⟨hv, h0⟩ | ⟨g, cap, cur, hv, hb, hh, hnc, hcm, hcs, ht⟩
  · injection hv with e1 e2 e3
    subst e1; subst e2; subst e3
    go_enter Try.func34, Try.ntmps34
    go_wp2
    go_loopw [2] (fun i wi => i = .int .i64 0 ∧ wi = w) (fun i wi => 0)
    case atStart => exact ⟨rfl, rfl⟩
    case round =>
      obtain ⟨rfl, rfl⟩ := hrel
      go_wp2
      go_end0
      exact ⟨rfl, Chg.refl _ _⟩
  · injection hv with e1 e2 e3
    subst e1; subst e3
    have hcur : cur.toList = nums l ++ cur.toList.drop n := by
      have : cur.toList.take n = nums l := by simpa using ht
      rw [← this, List.take_append_drop]
    refine (overInts_any (g := g) (l := l) (tl := cur.toList.drop n) (fun _ => rfl) (by rw [← hcur]; exact hh) hl hn).mono ?_
    rintro e w' ⟨rfl, hc⟩
    exact ⟨rfl, hc.mono fun k _ e => by have e' : k = g := e; rw [e']; rfl⟩
end
end Go.Proofs.Ytcgcbajgclkmkaa
