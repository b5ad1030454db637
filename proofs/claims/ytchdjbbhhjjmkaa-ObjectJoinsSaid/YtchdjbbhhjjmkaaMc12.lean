/- Chapter 12: within, table, Check, of both. -/
import Derived.Test.YtchdjbbhhjjmkaaMf12
namespace Go.Proofs.Ytchdjbbhhjjmkaa
open Go.RowKit
set_option linter.unusedVariables false
theorem within_any {w : World} (n a b : Int) : Calls Try.prog 49 #[.int .i64 n, .int .i64 a, .int .i64 b] w fun e w' => e = .returned (.bool (win n a b)) ∧ w = w' := by
  by_cases h1 : a ≤ n
  · have d1 : decide (a ≤ n) = true := by simpa using h1
    have HW := Lib.hid (show win n a b = decide (n ≤ b) from by unfold win; simp [h1])
    clear h1
    go_enter Try.func49, Try.ntmps49
    go_wp2
    go_ret
    exact ⟨ret_bool (by rw [HW.out]), rfl⟩
  · have d1 : decide (a ≤ n) = false := by simpa using h1
    have HW := Lib.hid (show win n a b = false from by unfold win; simp [h1])
    clear h1
    go_enter Try.func49, Try.ntmps49
    go_wp2
    go_ret
    exact ⟨ret_bool (by rw [HW.out]), rfl⟩
theorem rwithin_any {w : World} (n a b : Int) : Calls Try.prog 52 #[.int .i64 n, .int .i64 a, .int .i64 b] w fun e w' => e = .returned (.bool (win n a b)) ∧ w = w' := by
  by_cases h1 : a ≤ n
  · have d1 : decide (n ≥ a) = true := by simpa using h1
    have d2 : decide (a ≤ n) = true := by simpa using h1
    have HW := Lib.hid (show win n a b = decide (n ≤ b) from by unfold win; simp [h1])
    clear h1
    go_enter Try.func52, Try.ntmps52
    go_wp2
    go_ret
    exact ⟨ret_bool (by rw [HW.out]), rfl⟩
  · have d1 : decide (n ≥ a) = false := by simpa using h1
    have d2 : decide (a ≤ n) = false := by simpa using h1
    have HW := Lib.hid (show win n a b = false from by unfold win; simp [h1])
    clear h1
    go_enter Try.func52, Try.ntmps52
    go_wp2
    go_ret
    exact ⟨ret_bool (by rw [HW.out]), rfl⟩
theorem odd_any {w : World} (x : Int) : Calls Try.prog 60 #[.int .i64 x] w fun e w' => e = .returned (.bool (!win x 0 16777215)) ∧ w = w' := by
  go_enter Try.func60, Try.ntmps60
  go_wp2_with fail
  refine (within_any x 0 16777215).mono ?_
  rintro e w' ⟨rfl, rfl⟩
  go_wp2
  go_ret
  exact ⟨rfl, rfl⟩
theorem some_any {w : World} (x : Int) : Calls Try.prog 61 #[.int .i64 x] w fun e w' => e = .returned (.bool (decide (0 < x))) ∧ w = w' := by
  go_enter Try.func61, Try.ntmps61
  go_wp2
  go_ret
  exact ⟨rfl, rfl⟩
section
variable {w : World} {A : Option Addr} {n c : Nat} {xs : List Int} {G : Nat} {p : Int → Bool}
set_option maxRecDepth 100000 in
/-- slices.IndexFunc -/
theorem indexF_any (h : Rd w A n (nums xs)) (hn : n ≤ 140737488351232) (hcf : ∀ (a : Value) (w : World), (callFunc G #[a]).run Try.prog w = .ok (.enter G #[a]) w)
    (hG : ∀ (w : World) (x : Int), Calls Try.prog G #[.int .i64 x] w fun e w' => e = .returned (.bool (p x)) ∧ w = w') :
    Calls Try.prog 67 #[.slice A n c, .func (.func G) #[] #[]] w fun e w' => (∃ z : Int, e = .returned (.int .i64 z) ∧ decide (z ≥ 0) = xs.any p) ∧ w = w' := by
  have hx : xs.length = n := by have := h.1; simpa [nums_length] using this
  have HX := Lib.hid (And.intro hx h)
  have HG := Lib.hid hG
  have hn' : (n : Int) ≤ 140737488351232 := by omega
  clear hx h hn hG
  go_enter Try.func67, Try.ntmps67
  go_wp2
  go_loopw [8] (fun i wr => ∃ (k : Nat), k ≤ n ∧ i = .int .i64 k ∧ (∀ j, j < k → p (gi xs j) = false) ∧ wr = w) (fun i wr => n - (intOf i).toNat)
  case atStart => exact ⟨0, by omega, rfl, fun j hj => by omega, rfl⟩
  case round =>
    obtain ⟨k, hk, rfl, hall, rfl⟩ := hrel
    have HA := Lib.hid hall
    clear hall
    by_cases hlt : k < n
    · obtain ⟨a, off, rfl, hbl, hc⟩ := HX.out.2.form (by omega)
      have hkl : k < xs.length := by have := HX.out.1; omega
      have cx := hc k _ (nums_gi hkl)
      have km : (k : Int) < (n : Int) := by omega
      have HL := Lib.hid (And.intro hlt hkl)
      clear hc hbl hk hlt hkl
      go_wp2_with fail
      refine (HG.out _ _).mono ?_
      rintro e w' ⟨rfl, rfl⟩
      cases hf : p (gi xs k) with
      | true =>
        have HF := Lib.hid hf
        clear hf
        go_wp2
        go_ret
        refine ⟨⟨k, rfl, ?_⟩, rfl⟩
        rw [show decide ((k : Int) ≥ 0) = true from by simp]
        symm
        rw [List.any_eq_true]
        exact ⟨_, gi_mem HL.out.2, HF.out⟩
      | false =>
        have HF := Lib.hid hf
        clear hf
        go_wp2
        refine ⟨⟨k + 1, by have := HL.out.1; omega, by go_num, fun j hj => ?_, trivial⟩, by have := HL.out.1; simp [intOf]; omega⟩
        rcases (show j < k ∨ j = k from by omega) with y | y
        · exact HA.out j y
        · subst y; exact HF.out
    · obtain rfl : k = n := by omega
      clear hlt hk
      go_wp2
      go_ret
      refine ⟨⟨-1, rfl, ?_⟩, rfl⟩
      rw [show decide ((-1 : Int) ≥ 0) = false from by decide]
      symm
      rw [List.any_eq_false]
      intro x hx
      obtain ⟨j, hj, rfl⟩ := mem_gi hx
      rw [HA.out j (by have := HX.out.1; omega)]
      simp
/-- slices.ContainsFunc -/
theorem containsF_any (h : Rd w A n (nums xs)) (hn : n ≤ 140737488351232) (hcf : ∀ (a : Value) (w : World), (callFunc G #[a]).run Try.prog w = .ok (.enter G #[a]) w)
    (hG : ∀ (w : World) (x : Int), Calls Try.prog G #[.int .i64 x] w fun e w' => e = .returned (.bool (p x)) ∧ w = w') :
    Calls Try.prog 62 #[.slice A n c, .func (.func G) #[] #[]] w fun e w' => e = .returned (.bool (xs.any p)) ∧ w = w' := by
  have HI := Lib.hid (indexF_any (c := c) h hn hcf hG)
  clear h hn hcf hG
  go_enter Try.func62, Try.ntmps62
  go_wp2_with fail
  refine HI.out.mono ?_
  rintro e w' ⟨⟨z, rfl, hz⟩, rfl⟩
  have HZ := Lib.hid hz
  clear hz
  go_wp2
  go_ret
  exact ⟨ret_bool (by rw [← HZ.out]), rfl⟩
theorem not_odd (l : List Int) : (!(l.any fun x => !win x 0 16777215)) = wtB l := by
  unfold wtB
  rw [List.any_eq_not_all_not]; simp
/-- manifest.table -/
theorem table_any (h : Rd w A n (nums xs)) (hn : n ≤ 140737488351232) (k : Int) :
    Calls Try.prog 50 #[.slice A n c, .int .i64 k] w fun e w' => e = .returned (.bool (decide ((n : Int) ≤ k) && tabB xs)) ∧ w = w' := by
  have H := Lib.hid (And.intro h hn)
  clear h hn
  by_cases h1 : (n : Int) ≤ k
  · have d1 : decide ((n : Int) ≤ k) = true := by simpa using h1
    rw [d1]
    clear h1
    go_enter Try.func50, Try.ntmps50
    go_wp2_with fail
    refine (containsF_any H.out.1 H.out.2 (fun _ _ => rfl) (fun w x => odd_any x)).mono ?_
    rintro e w' ⟨rfl, rfl⟩
    have ho := not_odd xs
    cases hq : (xs.any fun x => !win x 0 16777215) with
    | true =>
      rw [hq] at ho
      have HO := Lib.hid ho
      clear ho hq
      go_wp2
      go_ret
      exact ⟨ret_bool (by unfold tabB; rw [← HO.out]; rfl), rfl⟩
    | false =>
      rw [hq] at ho
      have HO := Lib.hid ho
      clear ho hq
      go_wp2_with fail
      refine (containsF_any H.out.1 H.out.2 (fun _ _ => rfl) (fun w x => some_any x)).mono ?_
      rintro e w' ⟨rfl, rfl⟩
      go_wp2
      go_ret
      exact ⟨ret_bool (by unfold tabB; rw [← HO.out]; rfl), rfl⟩
  · have d1 : decide ((n : Int) ≤ k) = false := by simpa using h1
    rw [d1]
    clear h1
    go_enter Try.func50, Try.ntmps50
    go_wp2
    go_ret
    exact ⟨rfl, rfl⟩
set_option maxRecDepth 100000 in
/-- the document's table -/
theorem rtable_any (h : Rd w A n (nums xs)) (hn : n ≤ 140737488351232) (k : Int) :
    Calls Try.prog 53 #[.slice A n c, .int .i64 k] w fun e w' => e = .returned (.bool (decide ((n : Int) ≤ k) && tabB xs)) ∧ w = w' := by
  have hx : xs.length = n := by have := h.1; simpa [nums_length] using this
  have HX := Lib.hid (And.intro hx h)
  have hn' : (n : Int) ≤ 140737488351232 := by omega
  clear hx h hn
  go_enter Try.func53, Try.ntmps53
  go_wp2
  go_loopw [5, 6] (fun b i wr => ∃ j : Nat, j ≤ n ∧ i = .int .i64 j ∧ wtB (xs.take j) = true ∧ b = .bool ((xs.take j).any fun x => decide (0 < x)) ∧ wr = w) (fun b i wr => n - (intOf i).toNat)
  case atStart => exact ⟨0, by omega, rfl, rfl, rfl, rfl⟩
  case round =>
    obtain ⟨j, hj, rfl, hw, rfl, rfl⟩ := hrel
    by_cases hlt : j < n
    · obtain ⟨a, off, rfl, hbl, hc⟩ := HX.out.2.form (by omega)
      have hjl : j < xs.length := by have := HX.out.1; omega
      have cx := hc j _ (nums_get xs j hjl)
      have km : (j : Int) < (n : Int) := by omega
      have HT := Lib.hid (And.intro (wtB_take_succ hjl) (any_take_succ hjl fun x => decide (0 < x)))
      have HO := Lib.hid (fun e => wtB_of (k := j) hjl e)
      obtain ⟨x, hxe⟩ : ∃ x, xs[j] = x := ⟨_, rfl⟩
      rw [hxe] at cx HT HO
      have HW := Lib.hid (And.intro hw hlt)
      clear hxe hc hbl hj hw hlt hjl
      go_wp2_with fail
      refine (rwithin_any x 0 16777215).mono ?_
      rintro e w' ⟨rfl, rfl⟩
      cases hq : win x 0 16777215 with
      | false =>
        have HO := Lib.hid (HO.out hq)
        clear hq
        go_wp2
        go_ret
        exact ⟨ret_bool (by unfold tabB; rw [HO.out]; simp), rfl⟩
      | true =>
        have HQ := Lib.hid hq
        clear hq
        cases hb : ((xs.take j).any fun x => decide (0 < x)) with
        | true =>
          have HB := Lib.hid hb
          clear hb
          go_wp2
          exact ⟨⟨j + 1, by have := HW.out.2; omega, by go_num, by rw [HT.out.1, HW.out.1, HQ.out]; rfl, by rw [HT.out.2, HB.out]; rfl, trivial⟩, by have := HW.out.2; simp [intOf]; omega⟩
        | false =>
          have HB := Lib.hid hb
          clear hb
          go_wp2
          exact ⟨⟨j + 1, by have := HW.out.2; omega, by go_num, by rw [HT.out.1, HW.out.1, HQ.out]; rfl, by rw [HT.out.2, HB.out]; simp, trivial⟩, by have := HW.out.2; simp [intOf]; omega⟩
    · obtain rfl : j = n := by omega
      have hxt : xs.take j = xs := List.take_of_length_le (by have := HX.out.1; omega)
      rw [hxt] at hw ⊢
      have HW := Lib.hid hw
      clear hlt hj hw hxt
      cases hb : (xs.any fun x => decide (0 < x)) with
      | true =>
        have HB := Lib.hid hb
        clear hb
        go_wp2
        go_ret
        exact ⟨ret_bool (by unfold tabB; rw [HW.out, HB.out]; simp), rfl⟩
      | false =>
        have HB := Lib.hid hb
        clear hb
        go_wp2
        go_ret
        exact ⟨ret_bool (by unfold tabB; rw [HB.out]; simp), rfl⟩
end
end Go.Proofs.Ytchdjbbhhjjmkaa
