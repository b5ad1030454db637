/- Chapter 31: comes, gets of the law. -/
import Derived.Test.YtknpghemogfenaaGe31
namespace Go.Proofs.Ytknpghemogfenaa
open Go.Conc Go.RowKit
set_option linter.unusedVariables false
theorem comes_any {w : World} {base E : Nat} {s : ES} {F : Nat → Prop} {want : Int} (h : Ew w base E s F) (hnow : s.now ≤ 1000000) (hlo : s.lost ≤ 900000000) (hsk : s.sky.length ≤ 900000) :
    Calls Try.prog 14 #[.pointer (some ⟨E, 0, none⟩), .int .i64 want] w fun e w' => e = .returned (.bool ((s.tickN : Int) == want)) ∧ Eto w base E s.tick F w' := by
  have H := Lib.hid (And.intro h (And.intro hnow (And.intro hlo hsk)))
  clear h hnow hlo hsk
  go_enter Try.func14, Try.ntmps14
  go_wp2_with fail
  refine (tick_any H.out.1 H.out.2.1 H.out.2.2.1 H.out.2.2.2).mono ?_
  rintro e w1 ⟨rfl, h1⟩
  have H1 := Lib.hid h1
  clear h1
  go_wp2_with fail
  go_ret
  exact ⟨rfl, H1.out⟩
theorem Chg.rd0 {S : Nat → Prop} {w w' : World} {A : Option Addr} {n : Nat} {xs : List Value} (h : Chg S w w') (hr : Rd w A n xs) (hA : ∀ a, A = some a → 0 < n → ¬ S a.block) : Rd w' A n xs := by
  rcases Nat.eq_zero_or_pos n with h0 | h0
  · subst h0; exact ⟨hr.1, fun h => absurd h (Nat.lt_irrefl _)⟩
  · exact h.rd hr fun a ha => hA a ha h0
theorem gets_some {w : World} {base E : Nat} {s : ES} {F : Nat → Prop} (h : Ew w base E s F) {d err : Int} (hd : d = 0 ∨ d = 1) {x : List UInt8} {r : List (List UInt8)} (hb : s.box d = x :: r) {B : Option Addr} {n c : Nat} {y : List UInt8} (hr : Rd w B n (bys y)) (hF : ∀ a, B = some a → 0 < n → ¬ F a.block) (herr : err = 0) :
    Calls Try.prog 16 #[.pointer (some ⟨E, 0, none⟩), .int .i64 d, .int .i64 err, .slice B n c] w fun e w' => e = .returned (.bool (x == y)) ∧ (∃ F', Ew w' base E (s.got d) F' ∧ ∀ k, F' k → F k) ∧ Chg F w w' := by
  subst herr
  have H := Lib.hid (And.intro h (And.intro hd (And.intro hb (And.intro hr hF))))
  clear h hd hb hr hF
  go_enter Try.func16, Try.ntmps16
  go_wp2_with fail
  refine (get_some H.out.1 H.out.2.1 H.out.2.2.1).mono ?_
  rintro e w1 ⟨A, m, c1, rfl, hp, ⟨F', g1, g2, g3⟩, hc⟩
  have hex : ∃ F', Ew w1 base E (s.got d) F' ∧ ∀ k, F' k → F k := ⟨F', g1, g2⟩
  have H1 := Lib.hid (And.intro hp (And.intro hex hc))
  clear hp g1 g2 g3 hc hex
  go_wp2_with fail
  refine (same_any H1.out.1.rd (H1.out.2.2.rd0 H.out.2.2.2.1 H.out.2.2.2.2)).mono ?_
  rintro e w2 ⟨rfl, rfl⟩
  go_wp2_with fail
  go_ret
  exact ⟨rfl, H1.out.2⟩
theorem gets_none {w : World} {base E : Nat} {s : ES} {F : Nat → Prop} (h : Ew w base E s F) {d err : Int} (hd : d = 0 ∨ d = 1) (hb : s.box d = []) (herr : err = 14) :
    Calls Try.prog 16 #[.pointer (some ⟨E, 0, none⟩), .int .i64 d, .int .i64 err, .slice none 0 0] w fun e w' => e = .returned (.bool true) ∧ w' = w := by
  subst herr
  have H := Lib.hid (And.intro h (And.intro hd hb))
  clear h hd hb
  go_enter Try.func16, Try.ntmps16
  go_wp2_with fail
  refine (get_none H.out.1 H.out.2.1 H.out.2.2).mono ?_
  rintro e w1 ⟨rfl, rfl⟩
  go_wp2_with fail
  refine (same_true (l := []) (Rd.nil _ _) (Rd.nil _ _)).mono ?_
  rintro e w2 ⟨rfl, rfl⟩
  go_wp2_with fail
  go_ret
  exact ⟨rfl, rfl⟩
end Go.Proofs.Ytknpghemogfenaa
