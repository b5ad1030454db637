/- AliasPicks: its walk. -/
import Derived.Test.YtfcoeonabppjiaaAg14
import Derived.Test.YtfcoeonabppjiaaPi14
namespace Go.Proofs.Ytfcoeonabppjiaa
open Go.RowKit
set_option linter.unusedVariables false
def PS (w : World) (Q : Nat) (T : Int) (A B A' B' : Option Addr) (n c m d c' d' n' m' : Nat) (xs ys : List Int) (w' : World) : Prop :=
  CkS w w.heap.size T A B n c m d xs ys w' ∧ Bk w' Q 26 [.int .i64 T, .slice A' n' c', .slice B' m' d'] ∧ Al w' (.agg #[.int .i64 T, .slice A' n' c', .slice B' m' d']) T xs ys ∧ Al w' (.agg #[.int .i64 T, .slice A n c, .slice B m d]) T xs ys
theorem PS.below {w w1 w2 : World} {Q n c m d c' d' n' m' : Nat} {T : Int} {A B A' B' : Option Addr} {xs ys : List Int} (h : PS w Q T A B A' B' n c m d c' d' n' m' xs ys w1) (hb : Below w1.heap.size w1 w2) : PS w Q T A B A' B' n c m d c' d' n' m' xs ys w2 :=
  ⟨h.1.below hb, h.2.1.belowS hb, h.2.2.1.below hb, h.2.2.2.below hb⟩
theorem PS.drew {w w1 : World} {Q n c m d c' d' n' m' : Nat} {T : Int} {A B A' B' : Option Addr} {xs ys : List Int} (h : PS w Q T A B A' B' n c m d c' d' n' m' xs ys w1) : PS w Q T A B A' B' n c m d c' d' n' m' xs ys w1.drew := h.below (Below.refl _ _).drew
theorem PS.cells {w w1 : World} {Q n c m d c' d' n' m' : Nat} {T : Int} {A B A' B' : Option Addr} {xs ys : List Int} (h : PS w Q T A B A' B' n c m d c' d' n' m' xs ys w1) :
    w1.cell? ⟨w.heap.size, 0, none⟩ = some (.int .i64 T) ∧ w1.cell? ⟨w.heap.size, 1, none⟩ = some (.slice A n c) ∧ w1.cell? ⟨w.heap.size, 2, none⟩ = some (.slice B m d) ∧ w1.cell? ⟨Q, 0, none⟩ = some (.int .i64 T) ∧ w1.cell? ⟨Q, 1, none⟩ = some (.slice A' n' c') ∧ w1.cell? ⟨Q, 2, none⟩ = some (.slice B' m' d') ∧ PS w Q T A B A' B' n c m d c' d' n' m' xs ys w1 :=
  ⟨h.1.1, h.1.2.1, h.1.2.2.1, h.2.1.cell 0, h.2.1.cell 1, h.2.1.cell 2, h⟩
theorem PS.copy {w w1 : World} {Q n c m d c' d' n' m' : Nat} {T : Int} {A B A' B' : Option Addr} {xs ys : List Int} (h : PS w Q T A B A' B' n c m d c' d' n' m' xs ys w1) : Al w1 (.agg #[.int .i64 T, .slice A' n' c', .slice B' m' d']) T xs ys := h.2.2.1
theorem PS.orig {w w1 : World} {Q n c m d c' d' n' m' : Nat} {T : Int} {A B A' B' : Option Addr} {xs ys : List Int} (h : PS w Q T A B A' B' n c m d c' d' n' m' xs ys w1) : Al w1 (.agg #[.int .i64 T, .slice A n c, .slice B m d]) T xs ys := h.2.2.2
set_option maxRecDepth 100000 in
set_option maxHeartbeats 8000000 in
/-- artesianlaw14.AliasPicks -/
theorem picks_walk {w : World} {A B : Option Addr} {n c m d : Nat} {xs ys : List Int} {T col lev i : Int}
    (g : Rd w A n (nums xs) ∧ Rd w B m (nums ys) ∧ n ≤ c ∧ m ≤ d ∧ n ≤ 17592186043904 ∧ m ≤ 17592186043904 ∧ (-9223372036854775808 ≤ T ∧ T ≤ 9223372036854775807) ∧ (∀ x ∈ xs, -9223372036854775808 ≤ x ∧ x ≤ 9223372036854775807) ∧ (∀ x ∈ ys, -9223372036854775808 ≤ x ∧ x ≤ 9223372036854775807))
    (_ : (Lit.int .i64 col).wf = true) (_ : (Lit.int .i64 lev).wf = true) (_ : (Lit.int .i64 i).wf = true) :
    Calls Try.prog 5 #[.agg #[.int .i64 T, .slice A n c, .slice B m d], .int .i64 col, .int .i64 lev, .int .i64 i] w fun e w' => e = .returned (.bool true) ∧ Below w.heap.size w w' := by
  obtain ⟨g1, g2, _, _, g5, g6, _⟩ := g
  have hS := ckS_new (c := c) (d := d) (T := T) g1 g2
  have HG := Lib.hid (And.intro g5 g6)
  have HS := Lib.hid hS
  have c0 := hS.1
  have c1 := hS.2.1
  have c2 := hS.2.2.1
  clear g1 g2 g5 g6 hS
  by_cases q1 : n > 80
  · have d4 : decide ((n : Int) > 80) = true := by simp; omega
    have d5 : decide ((80 : Int) < (n : Int)) = true := by simp; omega
    have d6 : decide (80 < n) = true := by simp; omega
    clear q1
    go_enter Try.func5, Try.ntmps5
    go_wp2_with fail
    refine awake_any.mono ?_
    rintro e w1 ⟨rfl, hb⟩
    have H := Lib.hid (HS.out.below hb)
    go_wp2
    go_ret
    exact ⟨rfl, H.out.2.2.2.2.2.2⟩
  · have d4 : decide ((n : Int) > 80) = false := by simp; omega
    have d5 : decide ((80 : Int) < (n : Int)) = false := by simp; omega
    have d6 : decide (80 < n) = false := by simp; omega
    by_cases q2 : m > 80
    · have d7 : decide ((m : Int) > 80) = true := by simp; omega
      have d8 : decide ((80 : Int) < (m : Int)) = true := by simp; omega
      have d9 : decide (80 < m) = true := by simp; omega
      clear q1 q2
      go_enter Try.func5, Try.ntmps5
      go_wp2_with fail
      refine awake_any.mono ?_
      rintro e w1 ⟨rfl, hb⟩
      have H := Lib.hid (HS.out.below hb)
      go_wp2
      go_ret
      exact ⟨rfl, H.out.2.2.2.2.2.2⟩
    · have d7 : decide ((m : Int) > 80) = false := by simp; omega
      have d8 : decide ((80 : Int) < (m : Int)) = false := by simp; omega
      have d9 : decide (80 < m) = false := by simp; omega
      clear q1 q2
      go_enter Try.func5, Try.ntmps5
      go_wp2_with fail
      refine (copyAlias_any HS.out.2.2.2.2.1 HS.out.2.2.2.2.2.1 HG.out.1 HG.out.2).mono ?_
      rintro e w2 ⟨v, rfl, hal, hb2⟩
      obtain ⟨A', n', c', B', m', d', rfl, r1, r2, r3, r4⟩ := hal
      have hS2 := HS.out.below hb2
      have hps : PS w w2.heap.size T A B A' B' n c m d c' d' n' m' xs ys (w2.alloc (.cells #[.int .i64 T, .slice A' n' c', .slice B' m' d'] 26)) := by
        have hb3 := (Below.refl w2.heap.size w2).alloc (Nat.le_refl _) (.cells #[.int .i64 T, .slice A' n' c', .slice B' m' d'] 26)
        have hk := Bk.newA w2 26 #[.int .i64 T, .slice A' n' c', .slice B' m' d']
        exact ⟨hS2.below hb3, hk, ⟨A', n', c', B', m', d', rfl, r1.below hb3, r2.below hb3, r3, r4⟩, ⟨A, n, c, B, m, d, rfl, hS2.2.2.2.2.1.below hb3, hS2.2.2.2.2.2.1.below hb3, by have := HG.out; omega, by have := HG.out; omega⟩⟩
      have H3 := Lib.hid hps
      clear hb2 r1 r2 r3 r4 hS2 hps c0 c1 c2
      obtain ⟨p, hp⟩ : ∃ p, p = pickV T xs ys col lev := ⟨_, rfl⟩
      obtain ⟨p1, p2⟩ := p
      obtain ⟨u, hu⟩ : ∃ u, u = weightV T xs ys i := ⟨_, rfl⟩
      obtain ⟨u1, u2⟩ := u
      have HPU := Lib.hid (And.intro hp hu)
      clear hp hu
      obtain ⟨c0, c1, c2, e0, e1, e2, _⟩ := H3.out.cells
      go_wp2_with fail
      refine (pick_any col lev H3.out.2.2.1).mono ?_
      rintro e w3 ⟨rfl, hb⟩
      rw [← HPU.out.1]
      have H4 := Lib.hid (H3.out.below hb)
      clear hb c0 c1 c2 e0 e1 e2
      obtain ⟨c0, c1, c2, e0, e1, e2, _⟩ := H4.out.cells
      go_wp2_with fail
      refine (refPick_any col lev H4.out.2.2.2).mono ?_
      rintro e w4 ⟨rfl, hb⟩
      rw [← HPU.out.1]
      have H5 := Lib.hid (H4.out.below hb)
      clear hb c0 c1 c2 e0 e1 e2
      obtain ⟨c0, c1, c2, e0, e1, e2, _⟩ := H5.out.cells
      go_wp2_with fail
      refine (weight_any i H5.out.2.2.1).mono ?_
      rintro e w5 ⟨rfl, hb⟩
      rw [← HPU.out.2]
      have H6 := Lib.hid (H5.out.below hb)
      clear hb c0 c1 c2 e0 e1 e2
      obtain ⟨c0, c1, c2, e0, e1, e2, _⟩ := H6.out.cells
      go_wp2_with fail
      refine (refWeight_any i H6.out.2.2.2).mono ?_
      rintro e w6 ⟨rfl, hb⟩
      rw [← HPU.out.2]
      have H7 := Lib.hid (H6.out.below hb)
      clear hb c0 c1 c2 e0 e1 e2
      obtain ⟨x, hx⟩ : ∃ x, x = chk T xs ys := ⟨_, rfl⟩
      have HX := Lib.hid hx
      clear hx
      go_wp2_with fail
      go_region_held3 (fun w' => w'.cell? ⟨w.heap.size, 0, none⟩ = some (.int .i64 T) ∧ w'.cell? ⟨w.heap.size, 1, none⟩ = some (.slice A n c) ∧ w'.cell? ⟨w.heap.size, 2, none⟩ = some (.slice B m d) ∧ w'.cell? ⟨w2.heap.size, 0, none⟩ = some (.int .i64 T) ∧ w'.cell? ⟨w2.heap.size, 1, none⟩ = some (.slice A' n' c') ∧ w'.cell? ⟨w2.heap.size, 2, none⟩ = some (.slice B' m' d') ∧ PS w w2.heap.size T A B A' B' n c m d c' d' n' m' xs ys w')
        (first | exact S1.out.cells | exact H7.out.cells | exact H7.out.drew.cells)
        ((first
          | (go_at_call 16; refine (check_any (PS.copy (by first | exact S1.out | exact H7.out | exact H7.out.drew))).mono ?_; rintro e w8 ⟨rfl, hb⟩; rw [← HX.out]; have S1 := Lib.hid (PS.below (by first | exact S1.out | exact H7.out | exact H7.out.drew) hb); clear hb)
          | (go_at_call 22; refine (refCheck_any (PS.orig (by first | exact S1.out | exact H7.out | exact H7.out.drew))).mono ?_; rintro e w8 ⟨rfl, hb⟩; rw [← HX.out]; have S1 := Lib.hid (PS.below (by first | exact S1.out | exact H7.out | exact H7.out.drew) hb); clear hb)
          | (go_at_call 13; refine (sameAlias_any (PS.copy (by first | exact S1.out | exact H7.out | exact H7.out.drew)) (PS.orig (by first | exact S1.out | exact H7.out | exact H7.out.drew))).mono ?_; rintro e w8 ⟨rfl, hb⟩; rw [show (T == T && (xs == xs && ys == ys)) = true from by simp]; have S1 := Lib.hid (PS.below (by first | exact S1.out | exact H7.out | exact H7.out.drew) hb); clear hb)
          | (go_at_call 9; refine awake_any.mono ?_; rintro e w8 ⟨rfl, hb⟩; have S1 := Lib.hid (PS.below (by first | exact S1.out | exact H7.out | exact H7.out.drew) hb); clear hb)))
      all_goals go_wp2
      all_goals go_ret
      all_goals exact ⟨by simp, S1.out.1.2.2.2.2.2.2⟩
end Go.Proofs.Ytfcoeonabppjiaa
