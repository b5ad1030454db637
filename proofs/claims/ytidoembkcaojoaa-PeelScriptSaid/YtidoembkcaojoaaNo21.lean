/- Chapter 21: a decoder that is nil, or that nobody made. Printed by gen_No21.py. -/
import Derived.Test.YtidoembkcaojoaaAr21
namespace Go.Proofs.Ytidoembkcaojoaa
open Go.RowKit
set_option linter.unusedVariables false
def NoD (w : World) (p : Option Addr) : Prop := p = none ∨ ∃ P, p = some ⟨P, 0, none⟩ ∧ w.cell? ⟨P, 0, none⟩ = some (.pointer none)
theorem NoD.below {w w' : World} {p : Option Addr} (h : NoD w p) (hb : Below w.heap.size w w') : NoD w' p := by
  rcases h with e | ⟨P, e, hk⟩
  · exact .inl e
  · exact .inr ⟨P, e, cell_below hb hk⟩
section
variable {w : World} {p : Option Addr}
theorem none_no (h : NoD w p) : Calls Try.prog 38 #[.pointer p] w fun e w' => e = .returned (.bool true) ∧ w = w' := by
  rcases h with rfl | ⟨P, rfl, hk⟩
  · exact dnone_nil
  · exact dnone_zero hk
theorem packets_no (h : NoD w p) : Calls Try.prog 19 #[.pointer p] w fun e w' => e = .returned (.int .i64 0) ∧ w = w' := by
  have H := Lib.hid h
  clear h
  go_enter Try.func19, Try.ntmps19
  go_wp2_with fail
  refine (none_no H.out).mono ?_
  rintro e w1 ⟨rfl, rfl⟩
  go_wp2_with fail
  go_ret
  exact ⟨rfl, rfl⟩
theorem left_no (h : NoD w p) : Calls Try.prog 34 #[.pointer p] w fun e w' => e = .returned (.int .i64 0) ∧ w = w' := by
  have H := Lib.hid h
  clear h
  go_enter Try.func34, Try.ntmps34
  go_wp2_with fail
  refine (none_no H.out).mono ?_
  rintro e w1 ⟨rfl, rfl⟩
  go_wp2_with fail
  go_ret
  exact ⟨rfl, rfl⟩
theorem done_no (h : NoD w p) : Calls Try.prog 35 #[.pointer p] w fun e w' => e = .returned (.bool false) ∧ w = w' := by
  have H := Lib.hid h
  clear h
  go_enter Try.func35, Try.ntmps35
  go_wp2_with fail
  refine (none_no H.out).mono ?_
  rintro e w1 ⟨rfl, rfl⟩
  go_wp2_with fail
  go_ret
  exact ⟨rfl, rfl⟩
theorem known_no (h : NoD w p) : Calls Try.prog 18 #[.pointer p] w fun e w' => e = .returned (.slice none 0 0) ∧ w = w' := by
  have H := Lib.hid h
  clear h
  go_enter Try.func18, Try.ntmps18
  go_wp2_with fail
  refine (none_no H.out).mono ?_
  rintro e w1 ⟨rfl, rfl⟩
  go_wp2_with fail
  go_ret
  exact ⟨rfl, rfl⟩
theorem block_no (h : NoD w p) : Calls Try.prog 22 #[.pointer p] w fun e w' => e = .returned (.tuple #[.slice none 0 0, .int .i64 1]) ∧ w = w' := by
  have H := Lib.hid h
  clear h
  go_enter Try.func22, Try.ntmps22
  go_wp2_with fail
  refine (none_no H.out).mono ?_
  rintro e w1 ⟨rfl, rfl⟩
  go_wp2_with fail
  go_ret2
  exact ⟨rfl, rfl⟩
theorem symbol_no (h : NoD w p) {i : Int} : Calls Try.prog 21 #[.pointer p, .int .i64 i] w fun e w' => e = .returned (.tuple #[.slice none 0 0, .int .i64 1]) ∧ w = w' := by
  have H := Lib.hid h
  clear h
  go_enter Try.func21, Try.ntmps21
  go_wp2_with fail
  refine (none_no H.out).mono ?_
  rintro e w1 ⟨rfl, rfl⟩
  go_wp2_with fail
  go_ret2
  exact ⟨rfl, rfl⟩
theorem add_no (h : NoD w p) {i : Int} {v1 v2 : Value} : Calls Try.prog 14 #[.pointer p, .int .i64 i, v1, v2] w fun e w' => e = .returned (.tuple #[.slice none 0 0, .int .i64 1]) ∧ w = w' := by
  have H := Lib.hid h
  clear h
  go_enter Try.func14, Try.ntmps14
  go_wp2_with fail
  refine (none_no H.out).mono ?_
  rintro e w1 ⟨rfl, rfl⟩
  go_wp2_with fail
  go_ret2
  exact ⟨rfl, rfl⟩
end
/-- Is it more than is gone through? -/
def bigP (a : PA) : Bool := decide (40 < a.n) || decide (200 < a.m)
def longP (l : List PA) : Bool := (l.take 51).any bigP || decide (50 < l.length)
theorem longP_no {l : List PA} (h : longP l = false) : l.length ≤ 50 ∧ ∀ a ∈ l, a.n ≤ 40 ∧ a.m ≤ 200 := by
  unfold longP at h
  rw [Bool.or_eq_false_iff] at h
  have h1 : l.length ≤ 50 := by have := h.2; simpa using this
  refine ⟨h1, fun a ha => ?_⟩
  have h2 := h.1
  rw [List.take_of_length_le (by omega)] at h2
  have h3 := List.any_eq_false.1 h2 a ha
  unfold bigP at h3
  simpa using h3
theorem rd_cell {α : Type} {f : α → List Value} {k : Nat} (hf : ∀ a, (f a).length = k) {w : World} {A : Option Addr} {l : List α} (h : Rd w A (l.length * k) (l.flatMap f)) {j : Nat} (hj : j < l.length) (hk : 0 < k) :
    ∃ g off, A = some ⟨g, off, none⟩ ∧ ∀ r u, (f l[j])[r]? = some u → w.cell? ⟨g, off + j * k + r, none⟩ = some u := by
  obtain ⟨b, off, e, _, hc⟩ := h.form (Nat.mul_pos (by omega) hk)
  refine ⟨b, off, e, fun r u hu => ?_⟩
  have hr : r < k := by have := (List.getElem?_eq_some_iff.1 hu).1; rwa [hf] at this
  have := hc (j * k + r) u (by rw [flat_get hf hj hr]; exact hu)
  rwa [← Nat.add_assoc] at this
theorem any_succ {α : Type} {p : α → Bool} {l : List α} {k : Nat} (hk : k < l.length) (h : (l.take k).any p = false) (h1 : p l[k] = false) : (l.take (k + 1)).any p = false := by
  rw [List.take_succ_eq_append_getElem hk, List.any_append, h]; simp [h1]
theorem any_big {α : Type} {p : α → Bool} {l : List α} {k n : Nat} (hk : k < l.length) (hn : k < n) (h1 : p l[k] = true) : (l.take n).any p = true := by
  rw [List.any_eq_true]
  refine ⟨l[k], ?_, h1⟩
  rw [List.mem_take_iff_getElem]
  exact ⟨k, by omega, rfl⟩
set_option maxRecDepth 100000 in
set_option maxHeartbeats 3200000 in
theorem long_any {w : World} {A : Option Addr} {c : Nat} {l : List PA} (h : Rd w A (l.length * 3) (l.flatMap PA.cells)) :
    Calls Try.prog 10 #[.slice A l.length c] w fun e w' => e = .returned (.bool (longP l)) ∧ w' = w := by
  obtain ⟨n, hn⟩ : ∃ n, l.length = n := ⟨_, rfl⟩
  have H := Lib.hid (And.intro h hn)
  rw [hn]
  clear h hn
  go_enter Try.func10, Try.ntmps10
  go_wp2_with fail
  go_loopw [3] (fun i wx => ∃ j : Nat, j ≤ n ∧ j ≤ 51 ∧ i = .int .i64 j ∧ (l.take j).any bigP = false ∧ wx = w) (fun i wx => n - (intOf i).toNat)
  case atStart => exact ⟨0, Nat.zero_le _, Nat.zero_le _, rfl, rfl, by first | rfl | trivial⟩
  case round =>
    obtain ⟨j, hj, hj2, rfl, hany, rfl⟩ := hrel
    have HA := Lib.hid hany
    clear hany
    by_cases hlt : j < n
    · have km : (j : Int) < (n : Int) := by omega
      have kd : decide ((j : Int) < (n : Int)) = true := decide_eq_true km
      have kd' : decide (j < n) = true := decide_eq_true hlt
      have j0 : (0 : Int) ≤ (j : Int) := by omega
      by_cases h51 : j < 51
      · have ld : decide ((j : Int) < 51) = true := decide_eq_true (by omega)
        have ld' : decide (j < 51) = true := decide_eq_true h51
        have hjl : j < l.length := by rw [H.out.2]; exact hlt
        obtain ⟨g, off, rfl, hcell⟩ := rd_cell (f := PA.cells) (k := 3) (fun _ => rfl) H.out.1 hjl (by decide)
        have c1 := hcell 1 _ rfl
        have c2 := hcell 2 _ rfl
        obtain ⟨pa, hpa⟩ : ∃ pa, l[j] = pa := ⟨_, rfl⟩
        rw [hpa] at c1 c2
        obtain ⟨n1, hn1⟩ : ∃ n1, pa.n = n1 := ⟨_, rfl⟩
        obtain ⟨m1, hm1⟩ : ∃ m1, pa.m = m1 := ⟨_, rfl⟩
        rw [hn1] at c1
        rw [hm1] at c2
        have HJ := Lib.hid (show ∃ h : j < l.length, l[j].n = n1 ∧ l[j].m = m1 ∧ j < n ∧ j < 51 from ⟨hjl, by rw [hpa]; exact hn1, by rw [hpa]; exact hm1, hlt, h51⟩)
        clear hcell hpa hjl hn1 hm1 hlt h51
        by_cases b1 : 40 < n1
        · have d1 : decide ((n1 : Int) > 40) = true := decide_eq_true (by omega)
          have d2 : decide ((40 : Int) < (n1 : Int)) = true := decide_eq_true (by omega)
          have d3 : decide (40 < n1) = true := decide_eq_true b1
          have HB := Lib.hid (show longP l = true from by
            obtain ⟨q1, q2, q3, q4, q5⟩ := HJ.out
            have : (l.take 51).any bigP = true := any_big q1 q5 (by unfold bigP; rw [q2, decide_eq_true b1]; rfl)
            unfold longP; rw [this]; rfl)
          clear b1
          go_wp2_with fail
          go_ret
          exact ⟨ret_bool (by rw [HB.out]), rfl⟩
        · have d1 : decide ((n1 : Int) > 40) = false := decide_eq_false (by omega)
          have d2 : decide ((40 : Int) < (n1 : Int)) = false := decide_eq_false (by omega)
          have d3 : decide (40 < n1) = false := decide_eq_false b1
          by_cases b2 : 200 < m1
          · have e1 : decide ((m1 : Int) > 200) = true := decide_eq_true (by omega)
            have e2 : decide ((200 : Int) < (m1 : Int)) = true := decide_eq_true (by omega)
            have e3 : decide (200 < m1) = true := decide_eq_true b2
            have HB := Lib.hid (show longP l = true from by
              obtain ⟨q1, q2, q3, q4, q5⟩ := HJ.out
              have : (l.take 51).any bigP = true := any_big q1 q5 (by unfold bigP; rw [q3, decide_eq_true b2, Bool.or_true])
              unfold longP; rw [this]; rfl)
            clear b1 b2
            go_wp2_with fail
            go_ret
            exact ⟨ret_bool (by rw [HB.out]), rfl⟩
          · have e1 : decide ((m1 : Int) > 200) = false := decide_eq_false (by omega)
            have e2 : decide ((200 : Int) < (m1 : Int)) = false := decide_eq_false (by omega)
            have e3 : decide (200 < m1) = false := decide_eq_false b2
            have HB := Lib.hid (show (l.take (j + 1)).any bigP = false from by
              obtain ⟨q1, q2, q3, q4, q5⟩ := HJ.out
              exact any_succ q1 HA.out (by unfold bigP; rw [q2, q3, decide_eq_false b1, decide_eq_false b2]; rfl))
            clear b1 b2
            go_wp2_with fail
            obtain ⟨q1, q2, q3, q4, q5⟩ := HJ.out
            exact ⟨⟨j + 1, q4, by omega, by go_num, HB.out, by first | rfl | trivial⟩, by simp [intOf]; omega⟩
      · have ld : decide ((j : Int) < 51) = false := decide_eq_false (by omega)
        have ld' : decide (j < 51) = false := decide_eq_false h51
        have d1 : decide ((n : Int) > 50) = true := decide_eq_true (by omega)
        have d2 : decide ((50 : Int) < (n : Int)) = true := decide_eq_true (by omega)
        have d3 : decide (50 < n) = true := decide_eq_true (by omega)
        have HB := Lib.hid (show longP l = true from by unfold longP; rw [H.out.2, d3, Bool.or_true])
        clear hlt h51
        go_wp2_with fail
        go_ret
        exact ⟨ret_bool (by rw [HB.out]), rfl⟩
    · obtain rfl : j = n := by omega
      have kd : decide ((j : Int) < (j : Int)) = false := decide_eq_false (by omega)
      have kd' : decide (j < j) = false := decide_eq_false (by omega)
      have HB := Lib.hid (show longP l = decide (50 < j) from by
        unfold longP
        rw [H.out.2, List.take_of_length_le (by rw [H.out.2]; exact hj2)]
        have := HA.out
        rw [List.take_of_length_le (by rw [H.out.2]; exact Nat.le_refl _)] at this
        rw [this]; rfl)
      clear hlt hj hj2
      go_wp2_with fail
      go_ret
      exact ⟨ret_bool (by rw [HB.out]; simp; try omega), rfl⟩
end Go.Proofs.Ytidoembkcaojoaa
