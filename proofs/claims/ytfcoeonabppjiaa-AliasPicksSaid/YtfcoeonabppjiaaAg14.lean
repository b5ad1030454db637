/- What an alias among the arguments of a statement comes to. -/
import Derived.Test.YtfcoeonabppjiaaOpen
import Derived.Deep.Strs
namespace Go.Proofs.Ytfcoeonabppjiaa
open Go.ChangeShapes Go.WideShapes Go.ChangeAt Go.RowKit Go.Deep
set_option linter.unusedVariables false
section
variable {H : Type} {enc : TypeId × Value → H} {P : Program} {W : World} {spare : Nat → Bool} {held : Bool} {base : Nat}
theorem Sized.parts3 {t : TypeId} {f0 f1 f2 : Field} {d0 d1 d2 : DataW H} (ht : P.underlying t = some (.struct #[f0, f1, f2])) (h : Sized P t (.agg [d0, d1, d2])) : Sized P f0.type d0 ∧ Sized P f1.type d1 ∧ Sized P f2.type d2 := by
  refine ⟨fun n hn => h n ?_, fun n hn => h n ?_, fun n hn => h n ?_⟩ <;> simp [DataW.weights, ht, DataW.weightsEach, hn]
theorem arg_alias {r : Reach} {b0 : Nat} {t e s : TypeId} {v : Value} {d : DataW H} {p : List MemPlace} {f0 f1 f2 : Field} (ht : P.underlying t = some (.struct #[f0, f1, f2])) (t0 : f0.type = e ∧ f0.offset = 0) (t1 : f1.type = s ∧ f1.offset = 1) (t2 : f2.type = s ∧ f2.offset = 2)
    (he : P.underlying e = some (.int .i64)) (hs : P.underlying s = some (.slice e)) (ct : P.cellsOf t = 3) (ce : P.cellsOf e = 1) (cs : P.cellsOf s = 1) (be : P.bytesOf e = 8)
    (hv : Value.okWide P W r b0 t v) (h : DataW.Trod enc P W base spare held t v d p) (hz : Sized P t d) :
    ∃ (T : Int) (A : Option Addr) (n c : Nat) (B : Option Addr) (m q : Nat) (xs ys : List Int), v = .agg #[.int .i64 T, .slice A n c, .slice B m q] ∧ Rd W A n (nums xs) ∧ Rd W B m (nums ys) ∧ n ≤ c ∧ m ≤ q ∧ n ≤ 17592186043904 ∧ m ≤ 17592186043904 ∧
      (-9223372036854775808 ≤ T ∧ T ≤ 9223372036854775807) ∧ (∀ x ∈ xs, -9223372036854775808 ≤ x ∧ x ≤ 9223372036854775807) ∧ (∀ x ∈ ys, -9223372036854775808 ≤ x ∧ x ≤ 9223372036854775807) := by
  obtain ⟨l, rfl, hsz⟩ := okWide_struct ht hv
  obtain ⟨fuel, hf⟩ := h
  obtain ⟨⟨d0, p0⟩, ⟨d1, p1⟩, ⟨d2, p2⟩, k, hx, _, h0, h1, h2⟩ := trod_struct3 ht hf
  rw [ct] at hsz
  have hl : ∃ a b c, l = #[a, b, c] := by
    obtain ⟨ll⟩ := l
    match ll, hsz with
    | [a, b, c], _ => exact ⟨a, b, c, rfl⟩
  obtain ⟨a, b, c, rfl⟩ := hl
  injection hx with hx1 hx2
  subst hx1
  have hcl : (Value.agg #[a, b, c]).cells.toList = [a, b, c] := rfl
  rw [hcl] at h0 h1 h2
  rw [t0.1, t0.2, ce] at h0
  rw [t1.1, t1.2, cs] at h1
  rw [t2.1, t2.2, cs] at h2
  simp only [List.drop_zero, List.drop_succ_cons, List.take_succ_cons, List.take_zero] at h0 h1 h2
  obtain ⟨z0, z1, z2⟩ := Sized.parts3 ht hz
  obtain ⟨T, e0, _, wT⟩ := DataW.trod_int he h0
  injection e0 with e0 _
  subst e0
  obtain ⟨A, n, c', xs, rfl, hr1, hl1, hm1, hw1, hb1⟩ := plain_ints hs he ce h1
  obtain ⟨B, m, q, ys, rfl, hr2, hl2, hm2, hw2, hb2⟩ := plain_ints hs he ce h2
  have s1 := hb1 (by rw [t1.1] at z1; exact z1)
  have s2 := hb2 (by rw [t2.1] at z2; exact z2)
  rw [be, reach_le] at s1 s2
  exact ⟨T, A, n, c', B, m, q, xs, ys, rfl, hr1, hr2, hl1, hl2, by omega, by omega, bounds_i64 wT, fun x hx => bounds_i64 (hw1 x hx), fun x hx => bounds_i64 (hw2 x hx)⟩
end
end Go.Proofs.Ytfcoeonabppjiaa
