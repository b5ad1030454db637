/- Aliases as values. -/
import Derived.Test.YtfcoeonabppjiaaB14
namespace Go.Proofs.Ytfcoeonabppjiaa
open Go.RowKit
set_option linter.unusedVariables false
/-- An alias that reads so. -/
def Al (w : World) (v : Value) (T : Int) (xs ys : List Int) : Prop :=
  ∃ A n c B m d, v = .agg #[.int .i64 T, .slice A n c, .slice B m d] ∧ Rd w A n (nums xs) ∧ Rd w B m (nums ys) ∧ n ≤ 140737488351232 ∧ m ≤ 140737488351232
theorem Al.below {w w' : World} {v : Value} {T : Int} {xs ys : List Int} (h : Al w v T xs ys) (hb : Below w.heap.size w w') : Al w' v T xs ys := by
  obtain ⟨A, n, c, B, m, d, e, h1, h2, h3⟩ := h
  exact ⟨A, n, c, B, m, d, e, h1.below hb, h2.below hb, h3⟩
theorem Al.nil (w : World) : Al w (.agg #[.int .i64 0, .slice none 0 0, .slice none 0 0]) 0 [] [] := ⟨none, 0, 0, none, 0, 0, rfl, Rd.nil _ _, Rd.nil _ _, by omega, by omega⟩
end Go.Proofs.Ytfcoeonabppjiaa
