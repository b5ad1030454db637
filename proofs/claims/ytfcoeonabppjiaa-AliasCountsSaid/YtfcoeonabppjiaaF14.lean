/- Sums, tests and searches of chapter 14. -/
import Derived.Test.YtfcoeonabppjiaaE14
namespace Go.Proofs.Ytfcoeonabppjiaa
open Go.RowKit
set_option linter.unusedVariables false
def bls (l : List Bool) : List Value := l.map Value.bool
theorem bls_length (l : List Bool) : (bls l).length = l.length := by simp [bls]
theorem bls_gb {l : List Bool} {j : Nat} (h : j < l.length) : (bls l)[j]? = some (.bool (gb l j)) := by simp [bls, gb, List.getD_eq_getElem?_getD, h]
theorem bls_set (l : List Bool) (k : Nat) (x : Bool) : (bls l).set k (.bool x) = bls (l.set k x) := by simp [bls, List.map_set]
theorem sum_take_succ {t : List Int} {k : Nat} (h : k < t.length) : (t.take (k + 1)).sum = (t.take k).sum + gi t k := by
  rw [List.take_succ_eq_append_getElem h, List.sum_append, gi_get h]; simp
theorem most_take {t : List Int} {k : Nat} (h : ∀ j, j < k → 0 ≤ gi t j ∧ gi t j ≤ 16777215) : tabMost (t.take k) := by
  intro x hx
  obtain ⟨i, hi, rfl⟩ := mem_gi hx
  have hi' : i < k := by simp at hi; omega
  rw [gi_take hi']
  exact h i hi'
theorem most_all {t : List Int} (h : ∀ j, j < t.length → 0 ≤ gi t j ∧ gi t j ≤ 16777215) : tabMost t := by
  have := most_take (t := t) (k := t.length) h
  rwa [List.take_length] at this
theorem tab_no {t : List Int} {k : Nat} (hk : k < t.length) (h : ¬ (0 ≤ gi t k ∧ gi t k ≤ 16777215)) : tabOk t = false := by
  cases e : tabOk t with
  | false => rfl
  | true => exact absurd (((tabOk_iff t).1 e).2.1 _ (gi_mem hk)) h
theorem tab_long {t : List Int} (h : ¬ t.length ≤ 65536) : tabOk t = false := by
  cases e : tabOk t with
  | false => rfl
  | true => exact absurd ((tabOk_iff t).1 e).1 h
theorem tab_any {t : List Int} (hl : t.length ≤ 65536) (h : tabMost t) : tabOk t = t.any (fun x => decide (0 < x)) := by
  cases e : t.any (fun x => decide (0 < x)) with
  | true => exact (tabOk_iff t).2 ⟨hl, h, by simpa using e⟩
  | false =>
    cases e2 : tabOk t with
    | false => rfl
    | true => obtain ⟨_, _, x, hx, h0⟩ := (tabOk_iff t).1 e2
              have := List.any_eq_false.1 e x hx
              simp at this; omega
theorem tab_sum {t : List Int} (hl : t.length ≤ 65536) (h : tabMost t) : t.sum = bif tabOk t then t.sum else 0 := by
  cases e : tabOk t with
  | true => rfl
  | false =>
    simp only [cond_false]
    refine sum_zero h fun hs => ?_
    have := (tabOk_iff t).2 ⟨hl, h, hs⟩
    rw [e] at this; cases this
set_option maxRecDepth 100000 in
/-- alias.total -/
theorem total_any {w : World} {A : Option Addr} {n c : Nat} {t : List Int} (h : Rd w A n (nums t)) (hn : n ≤ 140737488351232) :
    Calls Try.prog 26 #[.slice A n c] w fun e w' => e = .returned (.int .i64 (bif tabOk t then t.sum else 0)) ∧ w = w' := by
  have hx : t.length = n := by have := h.1; simpa [nums_length] using this
  have hn' : (n : Int) ≤ 140737488351232 := by omega
  by_cases hlow : n < 1
  · have d1 : decide ((n : Int) < 1) = true := by simp; omega
    have ht : t = [] := List.eq_nil_of_length_eq_zero (by omega)
    subst ht
    clear h hx hn
    obtain rfl : n = 0 := by omega
    go_enter Try.func26, Try.ntmps26
    go_wp2
    go_ret
    exact ⟨rfl, rfl⟩
  · by_cases hbig : n ≤ 65536
    · have d1 : decide ((n : Int) < 1) = false := by simp; omega
      have d2 : decide ((n : Int) > 65536) = false := by simp; omega
      have d3 : decide ((65536 : Int) < (n : Int)) = false := by simp; omega
      have HX := Lib.hid (And.intro hx hbig)
      have HR := Lib.hid h
      clear hx hbig h hn
      go_enter Try.func26, Try.ntmps26
      go_wp2
      go_loopw [2, 15] (fun s i wr => ∃ (k : Nat) (z : Int), k ≤ n ∧ i = .int .i64 k ∧ s = .int .i64 z ∧ z = (t.take k).sum ∧ (∀ j, j < k → 0 ≤ gi t j ∧ gi t j ≤ 16777215) ∧ wr = w) (fun s i wr => n - (intOf i).toNat)
      case atStart => exact ⟨0, 0, by omega, rfl, rfl, by simp, fun j hj => by omega, rfl⟩
      case round =>
        obtain ⟨k, z, hk, rfl, rfl, hz, hall, rfl⟩ := hrel
        have HZ := Lib.hid (And.intro hz hall)
        have hb := sum_bound (most_take hall)
        rw [← hz] at hb
        have hz1 : 0 ≤ z := hb.1
        have hz2 : z ≤ 65536 * 16777215 := by have := hb.2; have := HX.out.1; have := HX.out.2; rw [List.length_take] at *; omega
        clear hz hall hb
        by_cases hlt : k < n
        · obtain ⟨b, off, rfl, hbl, hc⟩ := HR.out.form (by omega)
          have cx := hc k _ (nums_gi (by have := HX.out.1; omega))
          have km : (k : Int) < (n : Int) := by omega
          have HL := Lib.hid hlt
          clear hc hbl hk hlt
          by_cases hlo : gi t k < 0
          · have e1 : decide (gi t k < 0) = true := by simpa using hlo
            have HE := Lib.hid hlo
            clear hlo
            go_wp2
            go_ret
            rw [tab_no (k := k) (by have := HX.out.1; have := HL.out; omega) (by have := HE.out; omega)]
            exact ⟨rfl, rfl⟩
          · have e1 : decide (gi t k < 0) = false := by simpa using hlo
            by_cases hhi : gi t k ≤ 16777215
            · have e2 : decide (gi t k > 16777215) = false := by simpa using hhi
              have e3 : decide ((16777215 : Int) < gi t k) = false := by simpa using hhi
              have HE := Lib.hid (And.intro (show 0 ≤ gi t k by omega) hhi)
              have hp : 0 ≤ gi t k := by omega
              clear hlo
              go_wp2
              refine ⟨⟨k + 1, z + gi t k, by have := HL.out; omega, by go_num, by go_num, ?_, fun j hj => ?_, trivial⟩, by have := HL.out; simp [intOf]; omega⟩
              · rw [sum_take_succ (by have := HX.out.1; have := HL.out; omega), ← HZ.out.1]
              · rcases (show j < k ∨ j = k from by omega) with x | x
                · exact HZ.out.2 j x
                · subst x; exact HE.out
            · have e2 : decide (gi t k > 16777215) = true := by simp; omega
              have e3 : decide ((16777215 : Int) < gi t k) = true := by simp; omega
              have HE := Lib.hid hhi
              clear hhi hlo
              go_wp2
              go_ret
              rw [tab_no (k := k) (by have := HX.out.1; have := HL.out; omega) (by have := HE.out; omega)]
              exact ⟨rfl, rfl⟩
        · obtain rfl : k = n := by omega
          have hall := HZ.out.2
          have hz := HZ.out.1
          rw [List.take_of_length_le (by have := HX.out.1; omega)] at hz
          have HE := Lib.hid (tab_sum (by have := HX.out.1; have := HX.out.2; omega) (most_all (t := t) fun j hj => hall j (by have := HX.out.1; omega)))
          have HZ2 := Lib.hid hz
          clear hall hz hk hlt
          go_wp2
          go_ret
          exact ⟨ret_int (HZ2.out.trans HE.out), rfl⟩
    · have d1 : decide ((n : Int) < 1) = false := by simp; omega
      have d2 : decide ((n : Int) > 65536) = true := by simp; omega
      have d3 : decide ((65536 : Int) < (n : Int)) = true := by simp; omega
      have HT := Lib.hid (tab_long (t := t) (by omega))
      clear hx hbig h hn
      go_enter Try.func26, Try.ntmps26
      go_wp2
      go_ret
      exact ⟨ret_int (by rw [HT.out]; rfl), rfl⟩
set_option maxRecDepth 100000 in
/-- artesianref14.Total -/
theorem refTotal_any {w : World} {A : Option Addr} {n c : Nat} {t : List Int} (h : Rd w A n (nums t)) (hn : n ≤ 65536) (hm : tabMost t) :
    Calls Try.prog 30 #[.slice A n c] w fun e w' => e = .returned (.int .i64 t.sum) ∧ w = w' := by
  have hx : t.length = n := by have := h.1; simpa [nums_length] using this
  have hn' : (n : Int) ≤ 65536 := by omega
  have HX := Lib.hid (And.intro hx hn)
  have HR := Lib.hid (And.intro h hm)
  clear hx h hn hm
  go_enter Try.func30, Try.ntmps30
  go_wp2
  go_loopw [3, 4] (fun s i wr => ∃ (k : Nat) (z : Int), k ≤ n ∧ i = .int .i64 k ∧ s = .int .i64 z ∧ z = (t.take k).sum ∧ wr = w) (fun s i wr => n - (intOf i).toNat)
  case atStart => exact ⟨0, 0, by omega, rfl, rfl, by simp, rfl⟩
  case round =>
    obtain ⟨k, z, hk, rfl, rfl, hz, rfl⟩ := hrel
    have HZ := Lib.hid hz
    have hb := sum_bound (most_take (t := t) (k := k) fun j hj => HR.out.2 _ (gi_mem (by have := HX.out.1; omega)))
    rw [← hz] at hb
    have hz1 : 0 ≤ z := hb.1
    have hz2 : z ≤ 65536 * 16777215 := by have := hb.2; have := HX.out.1; have := HX.out.2; rw [List.length_take] at *; omega
    clear hz hb
    by_cases hlt : k < n
    · obtain ⟨b, off, rfl, hbl, hc⟩ := HR.out.1.form (by omega)
      have hkl : k < t.length := by have := HX.out.1; omega
      have cx := hc k _ (nums_gi hkl)
      have km : (k : Int) < (n : Int) := by omega
      have hp := HR.out.2 _ (gi_mem hkl)
      have hp1 := hp.1
      have hp2 := hp.2
      have HL := Lib.hid (And.intro hlt hkl)
      clear hc hbl hk hlt hp hkl
      go_wp2
      refine ⟨⟨k + 1, z + gi t k, by have := HL.out.1; omega, by go_num, by go_num, ?_, trivial⟩, by have := HL.out.1; simp [intOf]; omega⟩
      rw [sum_take_succ HL.out.2, ← HZ.out]
    · obtain rfl : k = n := by omega
      have hz := HZ.out
      rw [List.take_of_length_le (by have := HX.out.1; omega)] at hz
      have HE := Lib.hid hz
      clear hz hlt hk
      go_wp2
      go_ret
      exact ⟨ret_int HE.out, rfl⟩
end Go.Proofs.Ytfcoeonabppjiaa
