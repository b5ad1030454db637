/- Chapter 31: Get, as a deed of an ether. -/
import Derived.Test.YtknpghemogfenaaNn31
namespace Go.Proofs.Ytknpghemogfenaa
open Go.Conc Go.RowKit
set_option linter.unusedVariables false
def ES.box (s : ES) (d : Int) : List (List UInt8) := if d = 0 then s.b0 else s.b1
def ES.got (s : ES) (d : Int) : ES := if d = 0 then { s with b0 := s.b0.tail } else { s with b1 := s.b1.tail }
theorem ES.ok.got {s : ES} (h : s.ok) (d : Int) : (s.got d).ok := by
  unfold ES.got
  split <;> exact { h with }
theorem get_some {w : World} {base E : Nat} {s : ES} {F : Nat → Prop} (h : Ew w base E s F) {d : Int} (hd : d = 0 ∨ d = 1) {x : List UInt8} {r : List (List UInt8)} (hb : s.box d = x :: r) :
    Calls Try.prog 20 #[.pointer (some ⟨E, 0, none⟩), .int .i64 d] w fun e w' => ∃ A n c, e = .returned (.tuple #[.slice A n c, .int .i64 0]) ∧ PX w' base A n c x ∧
      (∃ F', Ew w' base E (s.got d) F' ∧ (∀ k, F' k → F k) ∧ ∀ k ∈ blk A, ¬ F' k ∧ F k) ∧ Chg F w w' := by
  obtain ⟨m, h1, h2, h3, h4⟩ := h
  rcases hd with rfl | rfl
  · have hb0 : m.b0.map BX.x = x :: r := h2.b0.trans hb
    cases hm : m.b0 with
    | nil => rw [hm] at hb0; cases hb0
    | cons b q =>
      rw [hm] at hb0
      injection hb0 with e1 e2
      refine (eget_some0 h1 hm).mono fun e w' ⟨g1, g2, g3, g4, g5, g6, g7⟩ => ⟨b.A, b.n, b.c, g1, by rw [← e1]; exact g4, ⟨_, ⟨_, g2, ?_, h3.got 0, fun k hk => hk⟩, fun k hk => h4 k (g7 k hk), fun k hk => ⟨g5 k hk, h4 k (g6 k hk)⟩⟩, g3.mono fun k _ hk => h4 k hk⟩
      have hb' : s.b0 = x :: r := hb
      exact { h2 with b0 := by show q.map BX.x = s.b0.tail; rw [hb', e2]; rfl }
  · have hb0 : m.b1.map BX.x = x :: r := h2.b1.trans hb
    cases hm : m.b1 with
    | nil => rw [hm] at hb0; cases hb0
    | cons b q =>
      rw [hm] at hb0
      injection hb0 with e1 e2
      refine (eget_some1 h1 hm).mono fun e w' ⟨g1, g2, g3, g4, g5, g6, g7⟩ => ⟨b.A, b.n, b.c, g1, by rw [← e1]; exact g4, ⟨_, ⟨_, g2, ?_, h3.got 1, fun k hk => hk⟩, fun k hk => h4 k (g7 k hk), fun k hk => ⟨g5 k hk, h4 k (g6 k hk)⟩⟩, g3.mono fun k _ hk => h4 k hk⟩
      have hb' : s.b1 = x :: r := hb
      exact { h2 with b1 := by show q.map BX.x = s.b1.tail; rw [hb', e2]; rfl }
theorem get_none {w : World} {base E : Nat} {s : ES} {F : Nat → Prop} (h : Ew w base E s F) {d : Int} (hd : d = 0 ∨ d = 1) (hb : s.box d = []) :
    Calls Try.prog 20 #[.pointer (some ⟨E, 0, none⟩), .int .i64 d] w fun e w' => e = .returned (.tuple #[.slice none 0 0, .int .i64 14]) ∧ w' = w := by
  obtain ⟨m, h1, h2, h3, h4⟩ := h
  rcases hd with rfl | rfl
  · have hb0 : m.b0.map BX.x = [] := h2.b0.trans hb
    exact eget_none0 h1 (List.map_eq_nil_iff.1 hb0)
  · have hb0 : m.b1.map BX.x = [] := h2.b1.trans hb
    exact eget_none1 h1 (List.map_eq_nil_iff.1 hb0)
end Go.Proofs.Ytknpghemogfenaa
