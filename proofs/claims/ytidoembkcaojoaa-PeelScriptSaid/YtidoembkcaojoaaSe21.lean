/- Chapter 21: the document's Set. Printed by mk_Se21.py. -/
import Derived.Test.YtidoembkcaojoaaRo21
import Derived.BigQuiet
namespace Go.Proofs.Ytidoembkcaojoaa
open Go.RowKit
set_option linter.unusedVariables false
theorem okS_cons (k last x : Int) (l : List Int) : okS k last (x :: l) = if x ≤ last ∨ k ≤ x then false else okS k x l := rfl
set_option maxRecDepth 100000 in
set_option maxHeartbeats 3200000 in
/-- Set -/
theorem rset_any {w : World} {k : Nat} {A : Option Addr} {n c : Nat} {l : List Int} (hr : Rd w A n (nums l)) (hn : n ≤ 1000000) :
    Calls Try.prog 47 #[.int .i64 (k : Int), .slice A n c] w fun e w' => e = .returned (.bool (setB k l)) ∧ Below w.heap.size w w' := by
  have hl : l.length = n := by have := hr.1; simpa [nums_length] using this
  have HR := Lib.hid (And.intro hr hl)
  have hn' : (n : Int) ≤ 1000000 := by omega
  clear hr hl
  go_enter Try.func47, Try.ntmps47
  go_wp2
  go_loopw [5] (fun i wr => ∃ (j : Nat) (last : Int), j ≤ n ∧ i = .int .i64 j ∧ (j = 0 → last = -1) ∧ (0 < j → last = gi l (j - 1) ∧ 0 ≤ last) ∧ okS k last (l.drop j) = okS k (-1) l ∧ Below w.heap.size w wr) (fun i wr => n - (intOf i).toNat)
  case atStart => exact ⟨0, -1, by omega, rfl, fun _ => rfl, fun h => by omega, rfl, Below.refl _ _⟩
  case round =>
    obtain ⟨j, last, hj, rfl, h0, h1, ho, hb⟩ := hrel
    by_cases hlt : j < n
    · obtain ⟨b, off, rfl, hbl, hcc⟩ := (HR.out.1.below hb).form (by omega)
      have hjl : j < l.length := by rw [HR.out.2]; exact hlt
      have cx := hcc j _ (nums_gi hjl)
      rw [List.drop_eq_getElem_cons hjl, ← gi_get hjl, okS_cons] at ho
      have km : (j : Int) < (n : Int) := by omega
      obtain ⟨x, hx⟩ : ∃ x, gi l j = x := ⟨_, rfl⟩
      rw [hx] at cx ho
      by_cases g1 : x < 0
      · have d1 : decide (x < 0) = true := by simpa using g1
        have HB := Lib.hid (And.intro (show setB k l = false from by
          unfold setB; rw [← ho, if_pos (.inl (by
            rcases Nat.eq_zero_or_pos j with e | e
            · rw [h0 e]; omega
            · have := (h1 e).2; omega))]; rfl) hb)
        clear hcc hbl ho h0 h1 g1 hx hjl hj
        cases j with
        | zero =>
          have k0 : 0 < n := hlt
          have cx0 : wr.cell? ⟨b, off, none⟩ = some (.int .i64 x) := cx
          clear hlt hb
          go_wp2_with fail
          go_quiet (fail)
          go_wp2
          go_ret
          exact ⟨ret_bool (by rw [HB.out.1]), below_dN HB.out.2 _⟩
        | succ j =>
          clear hlt hb
          go_wp2_with fail
          go_quiet (fail)
          go_wp2
          go_ret
          exact ⟨ret_bool (by rw [HB.out.1]), below_dN HB.out.2 _⟩
      · have d1 : decide (x < 0) = false := by simpa using g1
        by_cases g2 : (k : Int) ≤ x
        · have d2 : decide (x ≥ (k : Int)) = true := by simpa using g2
          have d3 : decide ((k : Int) ≤ x) = true := by simpa using g2
          have HB := Lib.hid (And.intro (show setB k l = false from by unfold setB; rw [← ho, if_pos (.inr g2)]; rfl) hb)
          clear hcc hbl ho h0 h1 g1 g2 hx hjl hj
          cases j with
          | zero =>
            have k0 : 0 < n := hlt
            have cx0 : wr.cell? ⟨b, off, none⟩ = some (.int .i64 x) := cx
            clear hlt hb
            go_wp2_with fail
            go_quiet (fail)
            go_wp2
            go_ret
            exact ⟨ret_bool (by rw [HB.out.1]), below_dN HB.out.2 _⟩
          | succ j =>
            clear hlt hb
            go_wp2_with fail
            go_quiet (fail)
            go_wp2
            go_ret
            exact ⟨ret_bool (by rw [HB.out.1]), below_dN HB.out.2 _⟩
        · have d2 : decide (x ≥ (k : Int)) = false := by simpa using g2
          have d3 : decide ((k : Int) ≤ x) = false := by simpa using g2
          cases j with
          | zero =>
            have e0 := h0 rfl
            subst e0
            rw [if_neg (by omega)] at ho
            have d5 : decide (((0 : Nat) : Int) > 0) = false := by simp
            have d6 : decide ((0 : Int) < ((0 : Nat) : Int)) = false := by simp
            have HB := Lib.hid (And.intro ho (And.intro hb (And.intro hlt (And.intro hx (show 0 ≤ x by omega)))))
            have k0 : 0 < n := hlt
            have cx0 : wr.cell? ⟨b, off, none⟩ = some (.int .i64 x) := cx
            clear hcc hbl ho h0 h1 g1 g2 hx hjl hj hlt hb
            go_wp2_with fail
            go_quiet (fail)
            go_wp2
            exact ⟨⟨0 + 1, x, by have := HB.out.2.2.1; omega, by go_num, fun h => by omega, fun _ => ⟨HB.out.2.2.2.1.symm, HB.out.2.2.2.2⟩, HB.out.1, below_dN HB.out.2.1 _⟩, by have := HB.out.2.2.1; simp [intOf]; omega⟩
          | succ i' =>
            have e1 := h1 (by omega)
            have d5 : decide (((i' + 1 : Nat) : Int) > 0) = true := by simp
            have d6 : decide ((0 : Int) < ((i' + 1 : Nat) : Int)) = true := by simp
            have cy := hcc i' _ (nums_gi (by omega))
            have hl2 : gi l i' = last := by rw [e1.1]; rfl
            rw [hl2] at cy
            have hw1 : IntKind.i64.wrap (((i' + 1 : Nat) : Int) - 1) = (i' : Int) := by rw [IntKind.wrap_i64]; omega
            have hw2 : wrap64 (((i' + 1 : Nat) : Int) - 1) = (i' : Int) := by rw [wrap_idz (by omega) (by omega)]; omega
            have ki : (i' : Int) < (n : Int) := by omega
            have kj : (i' : Int) ≤ 1000000 := by omega
            by_cases g3 : x ≤ last
            · have d7 : decide (x ≤ last) = true := by simpa using g3
              have HB := Lib.hid (And.intro (show setB k l = false from by unfold setB; rw [← ho, if_pos (.inl g3)]; rfl) hb)
              clear hcc hbl ho h0 h1 g1 g2 g3 hx hjl hj hlt hb e1 hl2
              go_wp2_with fail
              go_quiet (fail)
              go_wp2
              go_ret
              exact ⟨ret_bool (by rw [HB.out.1]), below_dN HB.out.2 _⟩
            · have d7 : decide (x ≤ last) = false := by simpa using g3
              rw [if_neg (by omega)] at ho
              have HB := Lib.hid (And.intro ho (And.intro hb (And.intro hlt (And.intro hx (show 0 ≤ x by omega)))))
              clear hcc hbl ho h0 h1 g1 g2 g3 hx hjl hj hlt hb e1 hl2
              go_wp2_with fail
              go_quiet (fail)
              go_wp2
              exact ⟨⟨i' + 1 + 1, x, by have := HB.out.2.2.1; omega, by go_num, fun h => by omega, fun _ => ⟨HB.out.2.2.2.1.symm, HB.out.2.2.2.2⟩, HB.out.1, below_dN HB.out.2.1 _⟩, by have := HB.out.2.2.1; simp [intOf]; omega⟩
    · obtain rfl : j = n := by omega
      have hb' : okS k (-1) l = true := by rw [← ho, List.drop_eq_nil_of_le (by rw [HR.out.2]; exact Nat.le_refl _)]; rfl
      have HB := Lib.hid (And.intro (show setB k l = decide (0 < j) from by unfold setB; rw [hb', HR.out.2]; rfl) hb)
      clear hlt hj ho hb hb' h0 h1
      go_wp2
      go_ret
      exact ⟨ret_bool (by rw [HB.out.1]), HB.out.2⟩
end Go.Proofs.Ytidoembkcaojoaa
