/- Tests and searches of chapter 14's reference. -/
import Derived.Test.YtfcoeonabppjiaaF14
namespace Go.Proofs.Ytfcoeonabppjiaa
open Go.RowKit
set_option linter.unusedVariables false
theorem any_take_succ {t : List Int} {k : Nat} (h : k < t.length) : (t.take (k + 1)).any (fun x => decide (0 < x)) = ((t.take k).any (fun x => decide (0 < x)) || decide (0 < gi t k)) := by
  rw [List.take_succ_eq_append_getElem h, List.any_append, gi_get h]; simp
set_option maxRecDepth 100000 in
/-- artesianref14.Table -/
theorem table_any {w : World} {A : Option Addr} {n c : Nat} {t : List Int} (h : Rd w A n (nums t)) (hn : n ≤ 140737488351232) :
    Calls Try.prog 29 #[.slice A n c] w fun e w' => e = .returned (.bool (tabOk t)) ∧ w = w' := by
  have hx : t.length = n := by have := h.1; simpa [nums_length] using this
  have hn' : (n : Int) ≤ 140737488351232 := by omega
  have HX := Lib.hid hx
  have HR := Lib.hid h
  clear hx h hn
  go_enter Try.func29, Try.ntmps29
  go_wp2
  go_loopw [3, 4] (fun s i wr => ∃ (k : Nat) (z : Bool), k ≤ n ∧ k ≤ 65537 ∧ i = .int .i64 k ∧ s = .bool z ∧ z = (t.take k).any (fun x => decide (0 < x)) ∧ (∀ j, j < k → 0 ≤ gi t j ∧ gi t j ≤ 16777215) ∧ wr = w) (fun s i wr => n - (intOf i).toNat)
  case atStart => exact ⟨0, false, by omega, by omega, rfl, rfl, by simp, fun j hj => by omega, rfl⟩
  case round =>
    obtain ⟨k, z, hk, hk2, rfl, rfl, hz, hall, rfl⟩ := hrel
    have HZ := Lib.hid (And.intro hz hall)
    clear hz hall
    by_cases hlt : k < n
    · have km : (k : Int) < (n : Int) := by omega
      by_cases hle : k ≤ 65536
      · have ke : decide ((k : Int) ≤ 65536) = true := by simp; omega
        obtain ⟨b, off, rfl, hbl, hc⟩ := HR.out.form (by omega)
        have hkl : k < t.length := by have := HX.out; omega
        have cx := hc k _ (nums_gi hkl)
        have HL := Lib.hid (And.intro hlt (And.intro hkl hle))
        have kle : (k : Int) ≤ 65536 := by omega
        clear hc hbl hk hk2 hlt hkl hle
        by_cases hlo : gi t k < 0
        · have e1 : decide (gi t k < 0) = true := by simpa using hlo
          have HE := Lib.hid hlo
          clear hlo
          go_wp2
          go_ret
          rw [tab_no (k := k) HL.out.2.1 (by have := HE.out; omega)]
          exact ⟨rfl, rfl⟩
        · have e1 : decide (gi t k < 0) = false := by simpa using hlo
          by_cases hhi : gi t k ≤ 16777215
          · have e2 : decide (gi t k > 16777215) = false := by simpa using hhi
            have e3 : decide ((16777215 : Int) < gi t k) = false := by simpa using hhi
            have HE := Lib.hid (And.intro (show 0 ≤ gi t k by omega) hhi)
            have HS := Lib.hid (any_take_succ HL.out.2.1)
            have hnx : ∀ j, j < k + 1 → 0 ≤ gi t j ∧ gi t j ≤ 16777215 := fun j hj => by
              rcases (show j < k ∨ j = k from by omega) with x | x
              · exact HZ.out.2 j x
              · subst x; exact HE.out
            have HN := Lib.hid hnx
            clear hlo hnx
            cases z with
            | true =>
              go_wp2
              exact ⟨⟨k + 1, true, by have := HL.out.1; omega, by have := HL.out.2.2; omega, by go_num, rfl, by rw [HS.out, ← HZ.out.1]; rfl, HN.out, trivial⟩, by have := HL.out.1; simp [intOf]; omega⟩
            | false =>
              obtain ⟨y, hy⟩ : ∃ y, y = decide (0 < gi t k) := ⟨_, rfl⟩
              have hy1 : decide (gi t k > 0) = y := hy.symm
              have HY := Lib.hid hy
              have hy' := hy.symm
              clear hy
              go_wp2
              exact ⟨⟨k + 1, y, by have := HL.out.1; omega, by have := HL.out.2.2; omega, by go_num, by simp, by rw [HS.out, ← HZ.out.1, HY.out]; rfl, HN.out, trivial⟩, by have := HL.out.1; simp [intOf]; omega⟩
          · have e2 : decide (gi t k > 16777215) = true := by simp; omega
            have e3 : decide ((16777215 : Int) < gi t k) = true := by simp; omega
            have HE := Lib.hid hhi
            clear hhi hlo
            go_wp2
            go_ret
            rw [tab_no (k := k) HL.out.2.1 (by have := HE.out; omega)]
            exact ⟨rfl, rfl⟩
      · have ke : decide ((k : Int) ≤ 65536) = false := by simp; omega
        have HT := Lib.hid (tab_long (t := t) (by have := HX.out; omega))
        have nb : decide ((n : Int) ≤ 65536) = false := by simp; omega
        clear hk hk2 hlt hle
        cases z with
        | true =>
          go_wp2
          go_ret
          rw [HT.out]
          exact ⟨rfl, rfl⟩
        | false =>
          go_wp2
          go_ret
          rw [HT.out]
          exact ⟨rfl, rfl⟩
    · obtain rfl : k = n := by omega
      have hall := HZ.out.2
      have hz := HZ.out.1
      rw [List.take_of_length_le (by have := HX.out; omega)] at hz
      have hm := most_all (t := t) fun j hj => hall j (by have := HX.out; omega)
      by_cases hbig : k ≤ 65536
      · have HE := Lib.hid (tab_any (by have := HX.out; omega) hm)
        have HZ2 := Lib.hid hz
        have nb : decide ((k : Int) ≤ 65536) = true := by simp; omega
        clear hall hz hk hk2 hlt hbig hm
        cases z with
        | true =>
          go_wp2
          go_ret
          exact ⟨ret_bool (by rw [HE.out, ← HZ2.out]), rfl⟩
        | false =>
          go_wp2
          go_ret
          exact ⟨ret_bool (by rw [HE.out, ← HZ2.out]), rfl⟩
      · have HT := Lib.hid (tab_long (t := t) (by have := HX.out; omega))
        have nb : decide ((k : Int) ≤ 65536) = false := by simp; omega
        clear hall hz hk hk2 hlt hbig hm
        cases z with
        | true =>
          go_wp2
          go_ret
          rw [HT.out]
          exact ⟨rfl, rfl⟩
        | false =>
          go_wp2
          go_ret
          rw [HT.out]
          exact ⟨rfl, rfl⟩
theorem find_go {n k : Nat} {p : Nat → Bool} (h : k ≤ findR n p) (hp : p k = false) (hk : k < n) : k + 1 ≤ findR n p := by
  rcases Nat.lt_or_ge k (findR n p) with x | x
  · exact x
  · have e : findR n p = k := by omega
    have := findR_is (n := n) (p := p) (by omega)
    rw [e, hp] at this; cases this
theorem find_at {n k : Nat} {p : Nat → Bool} (h : k ≤ findR n p) (hp : p k = true) : k = findR n p := by
  rcases Nat.lt_or_ge k (findR n p) with x | x
  · have := findR_not x; rw [hp] at this; cases this
  · omega
theorem find_end {n k : Nat} {p : Nat → Bool} (h : k ≤ findR n p) (hk : ¬ k < n) : k = findR n p := by
  have := findR_le n p; omega
set_option maxRecDepth 100000 in
/-- artesianref14.below -/
theorem below_any {w : World} {A D : Option Addr} {n c c' : Nat} {r : List Int} {d : List Bool} (T : Int) (h : Rd w A n (nums r)) (h' : Rd w D n (bls d)) (hn : n ≤ 1000000) :
    Calls Try.prog 31 #[.slice A n c, .slice D n c', .int .i64 T] w fun e w' => e = .returned (.int .i64 (bel r d T : Nat)) ∧ w = w' := by
  have hx : r.length = n := by have := h.1; simpa [nums_length] using this
  have hy : d.length = n := by have := h'.1; simpa [bls_length] using this
  have hn' : (n : Int) ≤ 1000000 := by omega
  have HX := Lib.hid (And.intro hx hy)
  have HR := Lib.hid (And.intro h h')
  clear hx hy h h' hn
  go_enter Try.func31, Try.ntmps31
  go_wp2
  go_loopw [7] (fun i wr => ∃ (k : Nat), i = .int .i64 k ∧ k ≤ findR r.length (belP r d T) ∧ wr = w) (fun i wr => n - (intOf i).toNat)
  case atStart => exact ⟨0, rfl, by omega, rfl⟩
  case round =>
    obtain ⟨k, rfl, hk, rfl⟩ := hrel
    have HK := Lib.hid hk
    have hkn : (k : Int) ≤ (n : Int) := by have := findR_le r.length (belP r d T); have := HX.out.1; omega
    clear hk
    by_cases hlt : k < n
    · obtain ⟨b, off, rfl, hbl, hc⟩ := HR.out.1.form (by omega)
      obtain ⟨b', off', rfl, hbl', hc'⟩ := HR.out.2.form (by omega)
      have hkl : k < r.length := by have := HX.out.1; omega
      have cx := hc k _ (nums_gi hkl)
      have cd := hc' k _ (bls_gb (by have := HX.out.2; omega))
      have km : (k : Int) < (n : Int) := by omega
      have HL := Lib.hid (And.intro hlt hkl)
      clear hc hbl hc' hbl' hlt hkl
      have hbp : belP r d T k = (!gb d k && decide (gi r k < T)) := rfl
      have HP := Lib.hid hbp
      clear hbp
      cases hg : gb d k with
      | true =>
        have HG := Lib.hid hg
        rw [hg] at cd
        clear hg
        go_wp2
        exact ⟨⟨k + 1, by go_num, find_go HK.out (by rw [HP.out, HG.out]; rfl) HL.out.2, trivial⟩, by have := HL.out.1; simp [intOf]; omega⟩
      | false =>
        have HG := Lib.hid hg
        rw [hg] at cd
        clear hg
        by_cases hge : gi r k ≥ T
        · have e1 : decide (gi r k ≥ T) = true := by simpa using hge
          have e2 : decide (T ≤ gi r k) = true := by simpa using hge
          have HE := Lib.hid hge
          clear hge
          go_wp2
          exact ⟨⟨k + 1, by go_num, find_go HK.out (by rw [HP.out]; simp; intro; have := HE.out; omega) HL.out.2, trivial⟩, by have := HL.out.1; simp [intOf]; omega⟩
        · have e1 : decide (gi r k ≥ T) = false := by simpa using hge
          have e2 : decide (T ≤ gi r k) = false := by simpa using hge
          have HE := Lib.hid hge
          clear hge
          go_wp2
          go_ret
          have := find_at HK.out (by rw [HP.out, HG.out]; simp; have := HE.out; omega)
          exact ⟨ret_int (by unfold bel; rw [← this]), rfl⟩
    · have HL := Lib.hid hlt
      obtain rfl : k = n := by omega
      clear hlt
      go_wp2
      go_ret
      have := find_end HK.out (by have := HX.out.1; omega)
      exact ⟨ret_int (by unfold bel; rw [← this]), rfl⟩
set_option maxRecDepth 100000 in
/-- artesianref14.above -/
theorem above_any {w : World} {A : Option Addr} {n c : Nat} {r : List Int} (T : Int) (h : Rd w A n (nums r)) (hn : n ≤ 1000000) (h0 : 0 < n) :
    Calls Try.prog 32 #[.slice A n c, .int .i64 T] w fun e w' => e = .returned (.int .i64 (abv r T : Nat)) ∧ w = w' := by
  have hx : r.length = n := by have := h.1; simpa [nums_length] using this
  have hn' : (n : Int) ≤ 1000000 := by omega
  have hn0 : (0 : Int) < (n : Int) := by omega
  obtain ⟨b, off, rfl, hbl, hc⟩ := h.form h0
  have HX := Lib.hid hx
  have HR := Lib.hid hc
  clear hx h hn h0 hc hbl
  go_enter Try.func32, Try.ntmps32
  go_wp2
  go_loopw [5] (fun i wr => ∃ (k : Nat), i = .int .i64 k ∧ k ≤ findR (r.length - 1) (abvP r T) ∧ wr = w) (fun i wr => n - (intOf i).toNat)
  case atStart => exact ⟨0, rfl, by omega, rfl⟩
  case round =>
    obtain ⟨k, rfl, hk, rfl⟩ := hrel
    have HK := Lib.hid hk
    have hkn : (k : Int) ≤ (n : Int) := by have := findR_le (r.length - 1) (abvP r T); have := HX.out; omega
    clear hk
    by_cases hlt : (k : Int) < (n : Int) - 1
    · have hkl : k < r.length := by have := HX.out; omega
      have cx := HR.out k _ (nums_gi hkl)
      have km : (k : Int) < (n : Int) := by omega
      have HL := Lib.hid (And.intro hlt hkl)
      have d0 : decide ((k : Int) < (n : Int) - 1) = true := by simpa using hlt
      clear hkl
      have hbp : abvP r T k = decide (T < gi r k) := rfl
      have HP := Lib.hid hbp
      clear hbp
      by_cases hge : gi r k ≤ T
      · have e1 : decide (gi r k ≤ T) = true := by simpa using hge
        have HE := Lib.hid hge
        clear hge
        go_wp2
        exact ⟨⟨k + 1, by go_num, find_go HK.out (by rw [HP.out]; simp; exact HE.out) (by have := HL.out.1; have := HX.out; omega), trivial⟩, by have := HL.out.1; simp [intOf]; omega⟩
      · have e1 : decide (gi r k ≤ T) = false := by simpa using hge
        have HE := Lib.hid hge
        clear hge
        go_wp2
        go_ret
        have := find_at HK.out (by rw [HP.out]; simp; have := HE.out; omega)
        exact ⟨ret_int (by unfold abv; rw [← this]), rfl⟩
    · have d0 : decide ((k : Int) < (n : Int) - 1) = false := by simpa using hlt
      have HL := Lib.hid hlt
      clear hlt
      go_wp2
      go_ret
      have := find_end HK.out (by have := HX.out; have := HL.out; omega)
      exact ⟨ret_int (by unfold abv; rw [← this]), rfl⟩
end Go.Proofs.Ytfcoeonabppjiaa
