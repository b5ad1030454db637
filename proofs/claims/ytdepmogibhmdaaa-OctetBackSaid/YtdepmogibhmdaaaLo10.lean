/- Long. -/
import Derived.Test.YtdepmogibhmdaaaIt10
namespace Go.Proofs.Ytdepmogibhmdaaa
open Go.RowKit
set_option linter.unusedVariables false
def big (it : It) : Bool := decide (100 < it.b.length)
def longV (its : List It) : Bool := (its.take 41).any big || decide (40 < its.length)
theorem longV_no {its : List It} (h : longV its = false) : its.length ≤ 40 ∧ ∀ it ∈ its, it.b.length ≤ 100 := by
  unfold longV at h
  rw [Bool.or_eq_false_iff] at h
  have h1 : its.length ≤ 40 := by have := h.2; simpa using this
  refine ⟨h1, fun it hi => ?_⟩
  have h2 := h.1
  rw [List.take_of_length_le (by omega)] at h2
  have h3 := List.any_eq_false.1 h2 it hi
  unfold big at h3
  simpa using h3
theorem longV_big {its : List It} {k : Nat} (hk : k < its.length) (h41 : k < 41) (h : 100 < its[k].b.length) : longV its = true := by
  unfold longV
  rw [Bool.or_eq_true, List.any_eq_true]
  refine .inl ⟨its[k], ?_, by unfold big; simpa using h⟩
  rw [List.mem_take_iff_getElem]
  exact ⟨k, by omega, rfl⟩
theorem any_take_succ {its : List It} {k : Nat} (hk : k < its.length) : (its.take (k + 1)).any big = ((its.take k).any big || big its[k]) := by
  rw [List.take_succ_eq_append_getElem hk, List.any_append]; simp
set_option maxRecDepth 100000 in
set_option maxHeartbeats 2000000 in
/-- Long -/
theorem long_any {w : World} {A : Option Addr} {n c : Nat} {its : List It} (h : Its w A n its) (hn : n ≤ 2932031007402) :
    Calls Try.prog 11 #[.slice A n c] w fun e w' => e = .returned (.bool (longV its)) ∧ w = w' := by
  have H := Lib.hid h
  clear h
  go_enter Try.func11, Try.ntmps11
  go_wp2
  go_loopw [3] (fun i wr => ∃ k : Nat, k ≤ n ∧ k ≤ 41 ∧ i = .int .i64 k ∧ (its.take k).any big = false ∧ wr = w) (fun i wr => n - (intOf i).toNat)
  case atStart => exact ⟨0, by omega, by omega, rfl, by simp, rfl⟩
  case round =>
    obtain ⟨k, hk, hk41, rfl, hany, rfl⟩ := hrel
    have HA := Lib.hid hany
    clear hany
    by_cases hlt : k < n
    · have km : (k : Int) < (n : Int) := by omega
      by_cases h41 : k < 41
      · have kq : (k : Int) < 41 := by omega
        obtain ⟨a, off, rfl, hal, hel⟩ := H.out.2 (by omega)
        have hkl : k < its.length := by rw [H.out.1]; exact hlt
        obtain ⟨_, _, _, B, m, cc, c3, hrd, _, hm, _⟩ := hel k hkl
        have hbl : its[k].b.length = m := by have := hrd.1; simpa [bys_length] using this
        have HK := Lib.hid (And.intro hkl (And.intro hlt (And.intro h41 hbl)))
        by_cases hbig : 100 < m
        · have d1 : decide ((m : Int) > 100) = true := by simp; omega
          have d2 : decide ((100 : Int) < (m : Int)) = true := by simp; omega
          have d3 : decide (100 < m) = true := by simpa using hbig
          have HL := Lib.hid (longV_big hkl h41 (by rw [hbl]; exact hbig))
          clear hlt h41 hbl hel hrd hm hbig
          go_wp2
          go_ret
          exact ⟨ret_bool (by rw [HL.out]), rfl⟩
        · have d1 : decide ((m : Int) > 100) = false := by simp; omega
          have d2 : decide ((100 : Int) < (m : Int)) = false := by simp; omega
          have d3 : decide (100 < m) = false := by simpa using hbig
          have HL := Lib.hid hbig
          clear hlt h41 hbl hel hrd hm hbig
          go_wp2
          exact ⟨⟨k + 1, by have := HK.out; omega, by have := HK.out; omega, by go_num, by rw [any_take_succ HK.out.1, HA.out]; unfold big; simp; have := HK.out.2.2.2; have := HL.out; omega, trivial⟩, by have := HK.out; simp [intOf]; omega⟩
      · obtain rfl : k = 41 := by omega
        have HL := Lib.hid (show longV its = true from by unfold longV; rw [H.out.1]; simp; right; omega)
        have d1 : decide ((n : Int) > 40) = true := by simp; omega
        have d2 : decide ((40 : Int) < (n : Int)) = true := by simp; omega
        have d3 : decide (40 < n) = true := by simp; omega
        go_wp2
        go_ret
        exact ⟨ret_bool (by rw [HL.out]), rfl⟩
    · obtain rfl : k = n := by omega
      have HL := Lib.hid (show longV its = decide (40 < k) from by unfold longV; have := HA.out; rw [List.take_of_length_le (by rw [H.out.1]; exact Nat.le_refl _)] at this; rw [List.take_of_length_le (by rw [H.out.1]; omega), this, H.out.1]; rfl)
      clear hlt hk
      go_wp2
      go_ret
      exact ⟨ret_bool (by rw [HL.out]; exact (decide_eq_decide.2 (by omega))), rfl⟩
end Go.Proofs.Ytdepmogibhmdaaa
