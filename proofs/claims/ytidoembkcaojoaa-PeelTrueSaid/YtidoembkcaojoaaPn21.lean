/- Chapter 21: a decoder's small functions. -/
import Derived.Test.YtidoembkcaojoaaDm21
namespace Go.Proofs.Ytidoembkcaojoaa
open Go.RowKit Go.Maps
set_option linter.unusedVariables false
theorem dnone_made {w : World} {D G : Nat} (hc : w.cell? ⟨D, 0, none⟩ = some (.pointer (some ⟨G, 0, none⟩))) : Calls Try.prog 38 #[.pointer (some ⟨D, 0, none⟩)] w fun e w' => e = .returned (.bool false) ∧ w = w' := by
  go_enter Try.func38, Try.ntmps38
  go_wp2
  go_ret
  exact ⟨rfl, rfl⟩
theorem dnone_nil {w : World} : Calls Try.prog 38 #[.pointer none] w fun e w' => e = .returned (.bool true) ∧ w = w' := by
  go_enter Try.func38, Try.ntmps38
  go_wp2
  go_ret
  exact ⟨rfl, rfl⟩
theorem dnone_zero {w : World} {D : Nat} (hc : w.cell? ⟨D, 0, none⟩ = some (.pointer none)) : Calls Try.prog 38 #[.pointer (some ⟨D, 0, none⟩)] w fun e w' => e = .returned (.bool true) ∧ w = w' := by
  go_enter Try.func38, Try.ntmps38
  go_wp2
  go_ret
  exact ⟨rfl, rfl⟩
section
variable {w : World} {base D : Nat} {m : DM} {c : DC} {F : Nat → Prop}
theorem Dp.c0 (h : Dp w base D m c F) : w.cell? ⟨D, 0, none⟩ = some (.pointer (some ⟨m.G, 0, none⟩)) := h.e.cell 0
theorem Dp.c1 (h : Dp w base D m c F) : w.cell? ⟨D, 1, none⟩ = some (.int .i64 (c.s : Nat)) := h.e.cell 1
theorem Dp.c2 (h : Dp w base D m c F) : w.cell? ⟨D, 2, none⟩ = some (.map (some m.M)) := h.e.cell 2
theorem Dp.c3 (h : Dp w base D m c F) : w.cell? ⟨D, 3, none⟩ = some (.slice m.LA c.lefts.length m.lc) := h.e.cell 3
theorem Dp.c4 (h : Dp w base D m c F) : w.cell? ⟨D, 4, none⟩ = some (.slice (some ⟨m.SB, 0, none⟩) c.k c.k) := h.e.cell 4
theorem Dp.c5 (h : Dp w base D m c F) : w.cell? ⟨D, 5, none⟩ = some m.v := h.e.cell 5
theorem Dp.c6 (h : Dp w base D m c F) : w.cell? ⟨D, 6, none⟩ = some (.int .i64 c.most) := h.e.cell 6
theorem Dp.symc (h : Dp w base D m c F) {i : Nat} (hi : i < c.k) : w.cell? ⟨m.SB, i, none⟩ = some (syv c m i) := by
  rw [h.sb.cell, List.getElem?_map, List.getElem?_range hi]; rfl
theorem Dp.symk (h : Dp w base D m c F) {i : Nat} (hi : i < c.k) (hk : knw c.sk (i : Int) = true) : ∃ g cc, m.sy i = (some ⟨g, 0, none⟩, cc) ∧ syv c m i = .slice (some ⟨g, 0, none⟩) c.s cc ∧ c.s ≤ cc ∧ w.ownsRow base 5 1 (.slice (some ⟨g, 0, none⟩) c.s cc) c.s (bys (c.vals.getD i [])) ∧ Rd w (some ⟨g, 0, none⟩) c.s (bys (c.vals.getD i [])) := by
  have ho := h.sx i hi hk
  obtain ⟨A, cc, hs⟩ : ∃ A cc, m.sy i = (A, cc) := ⟨_, _, rfl⟩
  rw [hs] at ho
  obtain ⟨g, cur, hA, _, _, _, hnc, _⟩ := own_formN (A := A) (c := cc) ho (by have := h.s1; omega)
  subst hA
  refine ⟨g, cc, hs, ?_, hnc, ho, Rd.of_own ho⟩
  unfold syv
  rw [hk, hs]; rfl
theorem Dp.symn {i : Nat} (hk : knw c.sk (i : Int) = false) : syv c m i = .slice none 0 0 := by unfold syv; rw [hk]; rfl
set_option maxRecDepth 100000 in
set_option maxHeartbeats 1600000 in
theorem isSet_any (h : Dp w base D m c F) {A : Option Addr} {n cc : Nat} {l : List Int} (hr : Rd w A n (nums l)) (hn : n ≤ 1000000) (hkz : c.k ≤ 65536) :
    Calls Try.prog 39 #[.pointer (some ⟨D, 0, none⟩), .slice A n cc] w fun e w' => e = .returned (.bool (setB c.k l)) ∧ w = w' := by
  have hl : l.length = n := by have := hr.1; simpa [nums_length] using this
  have c4 := h.c4
  obtain ⟨k, hk⟩ : ∃ k, c.k = k := ⟨_, rfl⟩
  rw [hk] at c4 hkz ⊢
  have HR := Lib.hid (And.intro hr hl)
  clear h hr hl hk
  go_enter Try.func39, Try.ntmps39
  go_wp2
  go_loopw [9] (fun i wr => ∃ (j : Nat) (last : Int), j ≤ n ∧ i = .int .i64 j ∧ okS k last (l.drop j) = okS k (-1) l ∧ ((j = 0 ∧ last = -1) ∨ (0 < j ∧ last = gi l (j - 1) ∧ 0 ≤ last)) ∧ wr = w) (fun i wr => n - (intOf i).toNat)
  case atStart => exact ⟨0, -1, by omega, rfl, rfl, .inl ⟨rfl, rfl⟩, by first | rfl | trivial⟩
  case round =>
    obtain ⟨j, last, hj, rfl, ho, hlast, rfl⟩ := hrel
    by_cases hlt : j < n
    · obtain ⟨b, off, rfl, hbl, hcc⟩ := HR.out.1.form (by omega)
      have hjl : j < l.length := by rw [HR.out.2]; exact hlt
      have cx := hcc j _ (nums_gi hjl)
      rw [List.drop_eq_getElem_cons hjl, ← gi_get hjl] at ho
      have km : (j : Int) < (n : Int) := by omega
      have kd : decide ((j : Int) < (n : Int)) = true := decide_eq_true km
      have kd' : decide (j < n) = true := decide_eq_true hlt
      have j0 : (0 : Int) ≤ (j : Int) := by omega
      have HJ := Lib.hid (And.intro ho hlt)
      have HC := Lib.hid hcc
      obtain ⟨x, hx⟩ : ∃ x, gi l j = x := ⟨_, rfl⟩
      rw [hx] at cx HJ
      have HX := Lib.hid hx
      clear hcc hbl ho hlt hx
      by_cases h1 : x < 0
      · have d1 : decide (x < 0) = true := by simpa using h1
        have HB := Lib.hid (show setB k l = false from by unfold setB; rw [← HJ.out.1]; unfold okS; rw [if_pos (.inl (by rcases hlast with ⟨_, e⟩ | ⟨_, _, e⟩ <;> omega))]; rfl)
        clear h1 hlast
        go_wp2
        go_ret
        exact ⟨ret_bool (by rw [HB.out]), rfl⟩
      · have d1 : decide (x < 0) = false := by simpa using h1
        by_cases h2 : (k : Int) ≤ x
        · have d2 : decide (x ≥ (k : Int)) = true := by simpa using h2
          have d3 : decide ((k : Int) ≤ x) = true := by simpa using h2
          have HB := Lib.hid (show setB k l = false from by unfold setB; rw [← HJ.out.1]; unfold okS; rw [if_pos (.inr h2)]; rfl)
          clear h1 h2 hlast
          go_wp2
          go_ret
          exact ⟨ret_bool (by rw [HB.out]), rfl⟩
        · have d2 : decide (x ≥ (k : Int)) = false := by simpa using h2
          have d3 : decide ((k : Int) ≤ x) = false := by simpa using h2
          rcases hlast with ⟨hj0, hl0⟩ | ⟨hj0, hl0, hl1⟩
          · have HB := Lib.hid (show okS k x (l.drop (j + 1)) = okS k (-1) l from by
              rw [← HJ.out.1]
              show _ = if x ≤ last ∨ (k : Int) ≤ x then false else okS k x (l.drop (j + 1))
              rw [if_neg (by omega)])
            have HG := Lib.hid (show x = gi l (j + 1 - 1) ∧ 0 ≤ x from ⟨by rw [Nat.add_sub_cancel]; exact HX.out.symm, by omega⟩)
            have z1 : decide (0 < j) = false := decide_eq_false (by omega)
            have z2 : decide ((j : Int) > 0) = false := decide_eq_false (by omega)
            have z3 : decide ((0 : Int) < (j : Int)) = false := decide_eq_false (by omega)
            clear h1 h2 hl0 hj0
            go_wp2
            exact ⟨⟨j + 1, x, by have := HJ.out.2; omega, by go_num, HB.out, .inr ⟨by omega, HG.out⟩, by first | rfl | trivial⟩, by have := HJ.out.2; simp [intOf]; omega⟩
          · have hjl' : j - 1 < l.length := by omega
            have cy := HC.out (j - 1) _ (nums_gi hjl')
            rw [← hl0] at cy
            have z1 : decide (0 < j) = true := decide_eq_true hj0
            have z2 : decide ((j : Int) > 0) = true := decide_eq_true (by omega)
            have z3 : decide ((0 : Int) < (j : Int)) = true := decide_eq_true (by omega)
            have z4 : IntKind.i64.wrap ((j : Int) - 1) = ((j - 1 : Nat) : Int) := by rw [IntKind.wrap_i64]; omega
            have z5 : ((j - 1 : Nat) : Int) < (n : Int) := by omega
            have z6 : (0 : Int) ≤ ((j - 1 : Nat) : Int) := by omega
            have z7 : 0 < (j : Int) := by omega
            have z8 : ((j : Int) - 1).toNat = j - 1 := by omega
            have HL0 := Lib.hid hl0
            clear hl0
            by_cases h3 : x ≤ last
            · have d4 : decide (x ≤ last) = true := by simpa using h3
              have HB := Lib.hid (show setB k l = false from by unfold setB; rw [← HJ.out.1]; unfold okS; rw [if_pos (.inl h3)]; rfl)
              clear h1 h2 h3
              go_wp2
              go_ret
              exact ⟨ret_bool (by rw [HB.out]), rfl⟩
            · have d4 : decide (x ≤ last) = false := by simpa using h3
              have HB := Lib.hid (show okS k x (l.drop (j + 1)) = okS k (-1) l from by
                rw [← HJ.out.1]
                show _ = if x ≤ last ∨ (k : Int) ≤ x then false else okS k x (l.drop (j + 1))
                rw [if_neg (by omega)])
              have HG := Lib.hid (show x = gi l (j + 1 - 1) ∧ 0 ≤ x from ⟨by rw [Nat.add_sub_cancel]; exact HX.out.symm, by omega⟩)
              clear h1 h2 h3
              go_wp2
              exact ⟨⟨j + 1, x, by have := HJ.out.2; omega, by go_num, HB.out, .inr ⟨by omega, HG.out⟩, by first | rfl | trivial⟩, by have := HJ.out.2; simp [intOf]; omega⟩
    · obtain rfl : j = n := by omega
      have hb : okS k (-1) l = true := by rw [← ho, List.drop_eq_nil_of_le (by rw [HR.out.2]; exact Nat.le_refl _)]; rfl
      have HB := Lib.hid (show setB k l = decide (0 < j) from by unfold setB; rw [hb, HR.out.2]; rfl)
      have kd : decide ((j : Int) < (j : Int)) = false := decide_eq_false (by omega)
      have kd' : decide (j < j) = false := decide_eq_false (by omega)
      clear hlt hj ho hb hlast
      go_wp2
      go_ret
      exact ⟨ret_bool (by rw [HB.out]), rfl⟩
end
end Go.Proofs.Ytidoembkcaojoaa
