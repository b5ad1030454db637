/- alias.Check. -/
import Derived.Test.YtfcoeonabppjiaaL14
namespace Go.Proofs.Ytfcoeonabppjiaa
open Go.RowKit
set_option linter.unusedVariables false
/-- Which aliases may be. -/
def alOk (T : Int) (xs ys : List Int) : Bool :=
  decide (1 ≤ T) && decide (T ≤ 1099511627776) && decide (1 ≤ xs.length) && decide (xs.length ≤ 65536) && decide (ys.length = xs.length) && xs.all (fun x => decide (0 ≤ x) && decide (x ≤ T)) && ys.all (fun y => decide (0 ≤ y) && decide (y ≤ (xs.length : Int) - 1))
theorem alOk_iff (T : Int) (xs ys : List Int) : alOk T xs ys = true ↔ 1 ≤ T ∧ T ≤ 1099511627776 ∧ 1 ≤ xs.length ∧ xs.length ≤ 65536 ∧ ys.length = xs.length ∧ (∀ x ∈ xs, 0 ≤ x ∧ x ≤ T) ∧ ∀ y ∈ ys, 0 ≤ y ∧ y ≤ (xs.length : Int) - 1 := by
  simp [alOk, and_assoc]
def far (m x : Int) : Bool := decide (x < 0) || decide (m < x)
/-- What far makes: is a number below 0 or above the most? -/
theorem farIn_any {w : World} {b : Nat} {m x : Int} (hc : w.cell? ⟨b, 0, none⟩ = some (.int .i64 m)) :
    Calls Try.prog 34 #[.int .i64 x, .pointer (some ⟨b, 0, none⟩)] w fun e w' => e = .returned (.bool (far m x)) ∧ w = w' := by
  by_cases hx : x < 0
  · have d1 : decide (x < 0) = true := by simpa using hx
    have HF : Hid (far m x = true) := Lib.hid (by simp [far, hx])
    clear hx
    go_enter Try.func34, Try.ntmps34
    go_wp2
    go_ret
    exact ⟨ret_bool HF.out.symm, rfl⟩
  · have d1 : decide (x < 0) = false := by simpa using hx
    by_cases hm : m < x
    · have d2 : decide (m < x) = true := by simpa using hm
      have d3 : decide (x > m) = true := by simpa using hm
      have HF : Hid (far m x = true) := Lib.hid (by simp [far, hm])
      clear hx hm
      go_enter Try.func34, Try.ntmps34
      go_wp2
      go_ret
      exact ⟨ret_bool HF.out.symm, rfl⟩
    · have d2 : decide (m < x) = false := by simpa using hm
      have d3 : decide (x > m) = false := by simpa using hm
      have HF : Hid (far m x = false) := Lib.hid (by simp [far]; omega)
      clear hx hm
      go_enter Try.func34, Try.ntmps34
      go_wp2
      go_ret
      exact ⟨ret_bool HF.out.symm, rfl⟩
theorem farMake_any {w : World} {m : Int} :
    Calls Try.prog 33 #[.int .i64 m] w fun e w' => ∃ b, e = .returned (.func (.func 34) #[] #[.pointer (some ⟨b, 0, none⟩)]) ∧ Bk w' b 3 [.int .i64 m] ∧ Below w.heap.size w w' := by
  have hmf : ∀ (fn : Fn) (first cap : Array Value) (w : World), (Instr.makeFunc fn first cap).run Try.prog w = .ok (.func fn first cap) w := fun _ _ _ _ => rfl
  go_enter Try.func33, Try.ntmps33
  go_wp2
  go_ret
  exact ⟨_, rfl, Bk.newA w 3 #[.int .i64 m], (Below.refl _ _).alloc (Nat.le_refl _) _⟩
set_option maxRecDepth 100000 in
/-- slices.IndexFunc, of that function. -/
theorem indexFar_any {w : World} {A : Option Addr} {n c b : Nat} {xs : List Int} {m : Int} (h : Rd w A n (nums xs)) (hn : n ≤ 140737488351232) (hb : w.cell? ⟨b, 0, none⟩ = some (.int .i64 m)) :
    Calls Try.prog 37 #[.slice A n c, .func (.func 34) #[] #[.pointer (some ⟨b, 0, none⟩)]] w fun e w' => (∃ z : Int, e = .returned (.int .i64 z) ∧ decide (z ≥ 0) = xs.any (far m)) ∧ w = w' := by
  have hx : xs.length = n := by have := h.1; simpa [nums_length] using this
  have HX := Lib.hid (And.intro hx h)
  have hn' : (n : Int) ≤ 140737488351232 := by omega
  clear hx h hn
  go_enter Try.func37, Try.ntmps37
  go_wp2
  go_loopw [8] (fun i wr => ∃ (k : Nat), k ≤ n ∧ i = .int .i64 k ∧ (∀ j, j < k → far m (gi xs j) = false) ∧ wr = w) (fun i wr => n - (intOf i).toNat)
  case atStart => exact ⟨0, by omega, rfl, fun j hj => by omega, rfl⟩
  case round =>
    obtain ⟨k, hk, rfl, hall, rfl⟩ := hrel
    have HA := Lib.hid hall
    clear hall
    by_cases hlt : k < n
    · obtain ⟨a, off, rfl, hbl, hc⟩ := HX.out.2.form (by omega)
      have hkl : k < xs.length := by have := HX.out.1; omega
      have cx := hc k _ (nums_gi hkl)
      have km : (k : Int) < (n : Int) := by omega
      have HL := Lib.hid (And.intro hlt hkl)
      clear hc hbl hk hlt hkl
      go_wp2_with fail
      refine (farIn_any hb).mono ?_
      rintro e w' ⟨rfl, rfl⟩
      cases hf : far m (gi xs k) with
      | true =>
        have HF := Lib.hid hf
        clear hf
        go_wp2
        go_ret
        refine ⟨⟨k, rfl, ?_⟩, rfl⟩
        rw [show decide ((k : Int) ≥ 0) = true from by simp]
        symm
        rw [List.any_eq_true]
        exact ⟨_, gi_mem HL.out.2, HF.out⟩
      | false =>
        have HF := Lib.hid hf
        clear hf
        go_wp2
        refine ⟨⟨k + 1, by have := HL.out.1; omega, by go_num, fun j hj => ?_, trivial⟩, by have := HL.out.1; simp [intOf]; omega⟩
        rcases (show j < k ∨ j = k from by omega) with y | y
        · exact HA.out j y
        · subst y; exact HF.out
    · obtain rfl : k = n := by omega
      clear hlt hk
      go_wp2
      go_ret
      refine ⟨⟨-1, rfl, ?_⟩, rfl⟩
      rw [show decide ((-1 : Int) ≥ 0) = false from by decide]
      symm
      rw [List.any_eq_false]
      intro x hx
      obtain ⟨j, hj, rfl⟩ := mem_gi hx
      rw [HA.out j (by have := HX.out.1; omega)]
      simp
/-- slices.ContainsFunc, of that function. -/
theorem containsFar_any {w : World} {A : Option Addr} {n c b : Nat} {xs : List Int} {m : Int} (h : Rd w A n (nums xs)) (hn : n ≤ 140737488351232) (hb : w.cell? ⟨b, 0, none⟩ = some (.int .i64 m)) :
    Calls Try.prog 35 #[.slice A n c, .func (.func 34) #[] #[.pointer (some ⟨b, 0, none⟩)]] w fun e w' => e = .returned (.bool (xs.any (far m))) ∧ w = w' := by
  have HI := Lib.hid (indexFar_any (c := c) h hn hb)
  clear h hn hb
  go_enter Try.func35, Try.ntmps35
  go_wp2_with fail
  refine HI.out.mono ?_
  rintro e w' ⟨⟨z, rfl, hz⟩, rfl⟩
  have HZ := Lib.hid hz
  clear hz
  go_wp2
  go_ret
  exact ⟨ret_bool (by rw [← HZ.out]), rfl⟩
end Go.Proofs.Ytfcoeonabppjiaa
