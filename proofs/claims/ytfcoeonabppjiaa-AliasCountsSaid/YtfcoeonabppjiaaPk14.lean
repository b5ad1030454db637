/- alias.Pick, artesianref14.Pick, artesianref14.Weight. -/
import Derived.Test.YtfcoeonabppjiaaCl14
import Derived.Test.YtfcoeonabppjiaaT14
namespace Go.Proofs.Ytfcoeonabppjiaa
open Go.RowKit
set_option linter.unusedVariables false
/-- What is told at a column and a level. -/
def pickV (T : Int) (xs ys : List Int) (col lev : Int) : Int × Int :=
  bif alOk T xs ys then (if col < 0 ∨ (xs.length : Int) ≤ col ∨ lev < 0 ∨ T ≤ lev then (0, 3) else if lev < gi xs col.toNat then (col, 0) else (gi ys col.toNat, 0)) else (0, 6)
/-- What is told of a place. -/
def weightV (T : Int) (xs ys : List Int) (i : Int) : Int × Int :=
  bif alOk T xs ys then (if i < 0 ∨ (xs.length : Int) ≤ i then (0, 3) else (wt T xs ys i, 0)) else (0, 6)
theorem chk_true {T : Int} {xs ys : List Int} (h : alOk T xs ys = true) : chk T xs ys = 0 := by unfold chk; rw [h]; rfl
theorem chk_false {T : Int} {xs ys : List Int} (h : alOk T xs ys = false) : chk T xs ys = 6 := by unfold chk; rw [h]; rfl
theorem pick_out {T : Int} {xs ys : List Int} {col lev : Int} (h : alOk T xs ys = true) (hc : col < 0 ∨ (xs.length : Int) ≤ col ∨ lev < 0 ∨ T ≤ lev) : pickV T xs ys col lev = (0, 3) := by
  unfold pickV; rw [h, cond_true, if_pos hc]
theorem pick_cut {T : Int} {xs ys : List Int} {k : Nat} {lev : Int} (h : alOk T xs ys = true) (hk : k < xs.length) (h0 : 0 ≤ lev) (hl : lev < T) (hc : lev < gi xs k) : pickV T xs ys k lev = ((k : Int), 0) := by
  unfold pickV; rw [h, cond_true, if_neg (by omega), Int.toNat_natCast, if_pos hc]
theorem pick_other {T : Int} {xs ys : List Int} {k : Nat} {lev : Int} (h : alOk T xs ys = true) (hk : k < xs.length) (h0 : 0 ≤ lev) (hl : lev < T) (hc : ¬ lev < gi xs k) : pickV T xs ys k lev = (gi ys k, 0) := by
  unfold pickV; rw [h, cond_true, if_neg (by omega), Int.toNat_natCast, if_neg hc]
theorem pick_form {T : Int} {xs ys : List Int} {col lev : Int} (h : alOk T xs ys = false) : pickV T xs ys col lev = (0, 6) := by
  unfold pickV; rw [h, cond_false]
theorem tup2 {a b c d : Int} (h : (a, b) = (c, d)) : Ending.returned (.tuple #[.int .i64 c, .int .i64 d]) = .returned (.tuple #[.int .i64 a, .int .i64 b]) := by
  injection h with h1 h2; rw [h1, h2]
theorem tup2p {p : Int × Int} {c d : Int} (h : p = (c, d)) : Ending.returned (.tuple #[.int .i64 c, .int .i64 d]) = .returned (.tuple #[.int .i64 p.1, .int .i64 p.2]) := by
  subst h; rfl
set_option maxRecDepth 100000 in
set_option maxHeartbeats 2000000 in
/-- artesian/alias.Pick -/
theorem pick_any {w : World} {v : Value} {T : Int} {xs ys : List Int} (col lev : Int) (h : Al w v T xs ys) :
    Calls Try.prog 19 #[v, .int .i64 col, .int .i64 lev] w fun e w' => e = .returned (.tuple #[.int .i64 (pickV T xs ys col lev).1, .int .i64 (pickV T xs ys col lev).2]) ∧ Below w.heap.size w w' := by
  obtain ⟨A, n, c, B, m, d, rfl, h1, h2, h3, h4⟩ := h
  have hx : xs.length = n := by have := h1.1; simpa [nums_length] using this
  have hy : ys.length = m := by have := h2.1; simpa [nums_length] using this
  have HR := Lib.hid (And.intro h3 (And.intro h4 (And.intro hx hy)))
  have hS := ckS_new (c := c) (d := d) (T := T) h1 h2
  have HS := Lib.hid hS
  have g0 := hS.1
  have g1 := hS.2.1
  have g2 := hS.2.2.1
  clear h1 h2 h3 h4 hx hy hS
  go_enter Try.func19, Try.ntmps19
  go_wp2_with fail
  refine (check_any ⟨A, n, c, B, m, d, rfl, HS.out.2.2.2.2.1, HS.out.2.2.2.2.2.1, HR.out.1, HR.out.2.1⟩).mono ?_
  rintro e w2 ⟨rfl, hb2⟩
  have hS := HS.out.below hb2
  have HS2 := Lib.hid hS
  have c0 := hS.1
  have c1 := hS.2.1
  have c2 := hS.2.2.1
  clear hb2 hS g0 g1 g2 HS
  cases hok : alOk T xs ys with
  | false =>
    rw [chk_false hok]
    have HP := Lib.hid (pick_form (col := col) (lev := lev) hok)
    clear hok
    go_wp2
    go_ret2
    exact ⟨tup2p HP.out, HS2.out.2.2.2.2.2.2⟩
  | true =>
    rw [chk_true hok]
    have HO := Lib.hid hok
    have hal := (alOk_iff T xs ys).1 hok
    have HA := Lib.hid hal
    clear hok hal
    by_cases q1 : col < 0
    · have d1 : decide (col < 0) = true := by simpa using q1
      have HP := Lib.hid (pick_out (col := col) (lev := lev) HO.out (by omega))
      clear q1
      go_wp2
      go_ret2
      exact ⟨tup2p HP.out, HS2.out.2.2.2.2.2.2⟩
    · have d1 : decide (col < 0) = false := by simpa using q1
      by_cases q2 : col ≥ (n : Int)
      · have d2 : decide (col ≥ (n : Int)) = true := by simpa using q2
        have d3 : decide ((n : Int) ≤ col) = true := by simpa using q2
        have HP := Lib.hid (pick_out (col := col) (lev := lev) HO.out (by have := HR.out.2.2.1; omega))
        clear q1 q2
        go_wp2
        go_ret2
        exact ⟨tup2p HP.out, HS2.out.2.2.2.2.2.2⟩
      · have d2 : decide (col ≥ (n : Int)) = false := by simpa using q2
        have d3 : decide ((n : Int) ≤ col) = false := by simpa using q2
        by_cases q3 : lev < 0
        · have d4 : decide (lev < 0) = true := by simpa using q3
          have HP := Lib.hid (pick_out (col := col) (lev := lev) HO.out (by omega))
          clear q1 q2 q3
          go_wp2
          go_ret2
          exact ⟨tup2p HP.out, HS2.out.2.2.2.2.2.2⟩
        · have d4 : decide (lev < 0) = false := by simpa using q3
          by_cases q4 : lev ≥ T
          · have d5 : decide (lev ≥ T) = true := by simpa using q4
            have d6 : decide (T ≤ lev) = true := by simpa using q4
            have HP := Lib.hid (pick_out (col := col) (lev := lev) HO.out (by omega))
            clear q1 q2 q3 q4
            go_wp2
            go_ret2
            exact ⟨tup2p HP.out, HS2.out.2.2.2.2.2.2⟩
          · have d5 : decide (lev ≥ T) = false := by simpa using q4
            have d6 : decide (T ≤ lev) = false := by simpa using q4
            obtain ⟨k, rfl⟩ : ∃ k : Nat, col = (k : Int) := ⟨col.toNat, by omega⟩
            have hkx : k < xs.length := by have := HR.out.2.2.1; omega
            have hky : k < ys.length := by have := HA.out.2.2.2.2.1; omega
            have hmn : m = n := by have := HR.out.2.2; have := HA.out.2.2.2.2.1; omega
            subst hmn
            obtain ⟨a, off, rfl, hbl, hc⟩ := HS2.out.2.2.2.2.1.form (by omega)
            obtain ⟨a', off', rfl, hbl', hc'⟩ := HS2.out.2.2.2.2.2.1.form (by omega)
            have cx := hc k _ (nums_gi hkx)
            have cy := hc' k _ (nums_gi hky)
            have km : (k : Int) < (m : Int) := by omega
            by_cases q5 : lev < gi xs k
            · have d7 : decide (lev < gi xs k) = true := by simpa using q5
              have HP := Lib.hid (pick_cut HO.out hkx (by omega) (by omega) q5)
              clear q1 q2 q3 q4 q5 hc hc' hbl hbl' hkx hky
              go_wp2
              go_ret2
              exact ⟨tup2p HP.out, HS2.out.2.2.2.2.2.2⟩
            · have d7 : decide (lev < gi xs k) = false := by simpa using q5
              have HP := Lib.hid (pick_other HO.out hkx (by omega) (by omega) q5)
              clear q1 q2 q3 q4 q5 hc hc' hbl hbl' hkx hky
              go_wp2
              go_ret2
              exact ⟨tup2p HP.out, HS2.out.2.2.2.2.2.2⟩
set_option maxRecDepth 100000 in
set_option maxHeartbeats 2000000 in
/-- artesian/artesianref14.Pick -/
theorem refPick_any {w : World} {v : Value} {T : Int} {xs ys : List Int} (col lev : Int) (h : Al w v T xs ys) :
    Calls Try.prog 20 #[v, .int .i64 col, .int .i64 lev] w fun e w' => e = .returned (.tuple #[.int .i64 (pickV T xs ys col lev).1, .int .i64 (pickV T xs ys col lev).2]) ∧ Below w.heap.size w w' := by
  obtain ⟨A, n, c, B, m, d, rfl, h1, h2, h3, h4⟩ := h
  have hx : xs.length = n := by have := h1.1; simpa [nums_length] using this
  have hy : ys.length = m := by have := h2.1; simpa [nums_length] using this
  have HR := Lib.hid (And.intro h3 (And.intro h4 (And.intro hx hy)))
  have hS := ckS_new (c := c) (d := d) (T := T) h1 h2
  have HS := Lib.hid hS
  have g0 := hS.1
  have g1 := hS.2.1
  have g2 := hS.2.2.1
  clear h1 h2 h3 h4 hx hy hS
  go_enter Try.func20, Try.ntmps20
  go_wp2_with fail
  refine (refCheck_any ⟨A, n, c, B, m, d, rfl, HS.out.2.2.2.2.1, HS.out.2.2.2.2.2.1, HR.out.1, HR.out.2.1⟩).mono ?_
  rintro e w2 ⟨rfl, hb2⟩
  have hS := HS.out.below hb2
  have HS2 := Lib.hid hS
  have c0 := hS.1
  have c1 := hS.2.1
  have c2 := hS.2.2.1
  clear hb2 hS g0 g1 g2 HS
  cases hok : alOk T xs ys with
  | false =>
    rw [chk_false hok]
    have HP := Lib.hid (pick_form (col := col) (lev := lev) hok)
    clear hok
    go_wp2
    go_ret2
    exact ⟨tup2p HP.out, HS2.out.2.2.2.2.2.2⟩
  | true =>
    rw [chk_true hok]
    have HO := Lib.hid hok
    have hal := (alOk_iff T xs ys).1 hok
    have HA := Lib.hid hal
    clear hok hal
    by_cases q1 : col < 0
    · have d1 : decide (col < 0) = true := by simpa using q1
      have HP := Lib.hid (pick_out (col := col) (lev := lev) HO.out (by omega))
      clear q1
      go_wp2
      go_ret2
      exact ⟨tup2p HP.out, HS2.out.2.2.2.2.2.2⟩
    · have d1 : decide (col < 0) = false := by simpa using q1
      by_cases q2 : col ≥ (n : Int)
      · have d2 : decide (col ≥ (n : Int)) = true := by simpa using q2
        have d3 : decide ((n : Int) ≤ col) = true := by simpa using q2
        have HP := Lib.hid (pick_out (col := col) (lev := lev) HO.out (by have := HR.out.2.2.1; omega))
        clear q1 q2
        go_wp2
        go_ret2
        exact ⟨tup2p HP.out, HS2.out.2.2.2.2.2.2⟩
      · have d2 : decide (col ≥ (n : Int)) = false := by simpa using q2
        have d3 : decide ((n : Int) ≤ col) = false := by simpa using q2
        by_cases q3 : lev < 0
        · have d4 : decide (lev < 0) = true := by simpa using q3
          have HP := Lib.hid (pick_out (col := col) (lev := lev) HO.out (by omega))
          clear q1 q2 q3
          go_wp2
          go_ret2
          exact ⟨tup2p HP.out, HS2.out.2.2.2.2.2.2⟩
        · have d4 : decide (lev < 0) = false := by simpa using q3
          by_cases q4 : lev ≥ T
          · have d5 : decide (lev ≥ T) = true := by simpa using q4
            have d6 : decide (T ≤ lev) = true := by simpa using q4
            have HP := Lib.hid (pick_out (col := col) (lev := lev) HO.out (by omega))
            clear q1 q2 q3 q4
            go_wp2
            go_ret2
            exact ⟨tup2p HP.out, HS2.out.2.2.2.2.2.2⟩
          · have d5 : decide (lev ≥ T) = false := by simpa using q4
            have d6 : decide (T ≤ lev) = false := by simpa using q4
            obtain ⟨k, rfl⟩ : ∃ k : Nat, col = (k : Int) := ⟨col.toNat, by omega⟩
            have hkx : k < xs.length := by have := HR.out.2.2.1; omega
            have hky : k < ys.length := by have := HA.out.2.2.2.2.1; omega
            have hmn : m = n := by have := HR.out.2.2; have := HA.out.2.2.2.2.1; omega
            subst hmn
            obtain ⟨a, off, rfl, hbl, hc⟩ := HS2.out.2.2.2.2.1.form (by omega)
            obtain ⟨a', off', rfl, hbl', hc'⟩ := HS2.out.2.2.2.2.2.1.form (by omega)
            have cx := hc k _ (nums_gi hkx)
            have cy := hc' k _ (nums_gi hky)
            have km : (k : Int) < (m : Int) := by omega
            by_cases q5 : lev < gi xs k
            · have d7 : decide (lev < gi xs k) = true := by simpa using q5
              have HP := Lib.hid (pick_cut HO.out hkx (by omega) (by omega) q5)
              clear q1 q2 q3 q4 q5 hc hc' hbl hbl' hkx hky
              go_wp2
              go_ret2
              exact ⟨tup2p HP.out, HS2.out.2.2.2.2.2.2⟩
            · have d7 : decide (lev < gi xs k) = false := by simpa using q5
              have HP := Lib.hid (pick_other HO.out hkx (by omega) (by omega) q5)
              clear q1 q2 q3 q4 q5 hc hc' hbl hbl' hkx hky
              go_wp2
              go_ret2
              exact ⟨tup2p HP.out, HS2.out.2.2.2.2.2.2⟩
theorem weight_form {T : Int} {xs ys : List Int} {i : Int} (h : alOk T xs ys = false) : weightV T xs ys i = (0, 6) := by unfold weightV; rw [h, cond_false]
theorem weight_out {T : Int} {xs ys : List Int} {i : Int} (h : alOk T xs ys = true) (hc : i < 0 ∨ (xs.length : Int) ≤ i) : weightV T xs ys i = (0, 3) := by unfold weightV; rw [h, cond_true, if_pos hc]
theorem weight_in {T : Int} {xs ys : List Int} {k : Nat} (h : alOk T xs ys = true) (hk : k < xs.length) : weightV T xs ys k = (wt T xs ys k, 0) := by unfold weightV; rw [h, cond_true, if_neg (by omega)]
theorem wt_bound {T : Int} {xs ys : List Int} {i : Int} {k : Nat} (hT : 0 ≤ T) (hTm : T ≤ 1099511627776) (hk : k ≤ 65536) (hx : ∀ j, j < k → 0 ≤ gi xs j ∧ gi xs j ≤ T) :
    0 ≤ Sg k (fun c => if gi ys c = i then T - gi xs c else 0) ∧ Sg k (fun c => if gi ys c = i then T - gi xs c else 0) ≤ 65536 * 1099511627776 := by
  have h1 : 0 ≤ Sg k (fun c => if gi ys c = i then T - gi xs c else 0) := Sg_ge fun c hc => by
    have := hx c hc
    split <;> omega
  have h2 : Sg k (fun c => (if gi ys c = i then T - gi xs c else 0) + (- T)) ≤ 0 := Sg_le fun c hc => by
    have := hx c hc
    split <;> omega
  rw [Sg_add, Sg_const] at h2
  have h3 : (k : Int) * T ≤ 65536 * 1099511627776 := Int.mul_le_mul (by omega) hTm hT (by omega)
  rw [Int.mul_neg] at h2
  exact ⟨h1, by omega⟩
set_option maxRecDepth 100000 in
set_option maxHeartbeats 2000000 in
/-- artesianref14.Weight -/
theorem refWeight_any {w : World} {v : Value} {T : Int} {xs ys : List Int} (i : Int) (h : Al w v T xs ys) :
    Calls Try.prog 21 #[v, .int .i64 i] w fun e w' => e = .returned (.tuple #[.int .i64 (weightV T xs ys i).1, .int .i64 (weightV T xs ys i).2]) ∧ Below w.heap.size w w' := by
  obtain ⟨A, n, c, B, m, d, rfl, h1, h2, h3, h4⟩ := h
  have hx : xs.length = n := by have := h1.1; simpa [nums_length] using this
  have hy : ys.length = m := by have := h2.1; simpa [nums_length] using this
  have HR := Lib.hid (And.intro h3 (And.intro h4 (And.intro hx hy)))
  have hS := ckS_new (c := c) (d := d) (T := T) h1 h2
  have HS := Lib.hid hS
  have g0 := hS.1
  have g1 := hS.2.1
  have g2 := hS.2.2.1
  clear h1 h2 h3 h4 hx hy hS
  go_enter Try.func21, Try.ntmps21
  go_wp2_with fail
  refine (refCheck_any ⟨A, n, c, B, m, d, rfl, HS.out.2.2.2.2.1, HS.out.2.2.2.2.2.1, HR.out.1, HR.out.2.1⟩).mono ?_
  rintro e w2 ⟨rfl, hb2⟩
  have hS := HS.out.below hb2
  have HS2 := Lib.hid hS
  have c0 := hS.1
  have c1 := hS.2.1
  have c2 := hS.2.2.1
  clear hb2 hS g0 g1 g2 HS
  cases hok : alOk T xs ys with
  | false =>
    rw [chk_false hok]
    have HP := Lib.hid (weight_form (i := i) hok)
    clear hok
    go_wp2
    go_ret2
    exact ⟨tup2p HP.out, HS2.out.2.2.2.2.2.2⟩
  | true =>
    rw [chk_true hok]
    have HO := Lib.hid hok
    have hal := (alOk_iff T xs ys).1 hok
    have HA := Lib.hid hal
    clear hok hal
    by_cases q1 : i < 0
    · have d1 : decide (i < 0) = true := by simpa using q1
      have HP := Lib.hid (weight_out (i := i) HO.out (by omega))
      clear q1
      go_wp2
      go_ret2
      exact ⟨tup2p HP.out, HS2.out.2.2.2.2.2.2⟩
    · have d1 : decide (i < 0) = false := by simpa using q1
      by_cases q2 : i ≥ (n : Int)
      · have d2 : decide (i ≥ (n : Int)) = true := by simpa using q2
        have d3 : decide ((n : Int) ≤ i) = true := by simpa using q2
        have HP := Lib.hid (weight_out (i := i) HO.out (by have := HR.out.2.2.1; omega))
        clear q1 q2
        go_wp2
        go_ret2
        exact ⟨tup2p HP.out, HS2.out.2.2.2.2.2.2⟩
      · have d2 : decide (i ≥ (n : Int)) = false := by simpa using q2
        have d3 : decide ((n : Int) ≤ i) = false := by simpa using q2
        obtain ⟨p, rfl⟩ : ∃ p : Nat, i = (p : Int) := ⟨i.toNat, by omega⟩
        have hpx : p < xs.length := by have := HR.out.2.2.1; omega
        have hmn : m = n := by have := HR.out.2.2; have := HA.out.2.2.2.2.1; omega
        subst hmn
        obtain ⟨a, off, rfl, hbl, hc⟩ := HS2.out.2.2.2.2.1.form (by omega)
        obtain ⟨a', off', rfl, hbl', hc'⟩ := HS2.out.2.2.2.2.2.1.form (by omega)
        have cx := hc p _ (nums_gi hpx)
        have km : (p : Int) < (m : Int) := by omega
        have HC := Lib.hid (And.intro hc hc')
        have hm6 : (m : Int) ≤ 65536 := by have := HA.out.2.2.2.1; have := HR.out.2.2.1; omega
        have hT0 : 0 ≤ T := by have := HA.out.1; omega
        have hTm : T ≤ 1099511627776 := HA.out.2.1
        have hpb := HA.out.2.2.2.2.2.1 _ (gi_mem hpx)
        have hp0 : 0 ≤ gi xs p := hpb.1
        have hp1 : gi xs p ≤ T := hpb.2
        have HP := Lib.hid (And.intro (weight_in HO.out hpx) hpx)
        clear q1 q2 hc hc' hbl hbl' hpx hpb
        go_wp2
        go_loopw [6, 7] (fun s i wr => ∃ (k : Nat) (z : Int), k ≤ m ∧ i = .int .i64 k ∧ s = .int .i64 (gi xs p + z) ∧ z = Sg k (fun c => if gi ys c = (p : Int) then T - gi xs c else 0) ∧ ∃ q, wr = w2.drewN q) (fun s i wr => m - (intOf i).toNat)
        case atStart => exact ⟨0, 0, by omega, rfl, by simp, rfl, 0, rfl⟩
        case round =>
          clear cx
          obtain ⟨k, z, hk, rfl, rfl, hz, q, hw⟩ := hrel
          have c0 : wr.cell? ⟨w.heap.size, 0, none⟩ = some (.int .i64 T) := by rw [hw]; exact HS2.out.1
          have c1 : wr.cell? ⟨w.heap.size, 1, none⟩ = some (.slice (some ⟨a, off, none⟩) m c) := by rw [hw]; exact HS2.out.2.1
          have c2 : wr.cell? ⟨w.heap.size, 2, none⟩ = some (.slice (some ⟨a', off', none⟩) m d) := by rw [hw]; exact HS2.out.2.2.1
          have HW := Lib.hid hw
          have HZ := Lib.hid hz
          have hzb := wt_bound (T := T) (xs := xs) (ys := ys) (i := (p : Int)) (k := k) hT0 hTm (by omega) (fun j hj => HA.out.2.2.2.2.2.1 _ (gi_mem (by have := HR.out.2.2.1; omega)))
          rw [← hz] at hzb
          have hz0 : 0 ≤ z := hzb.1
          have hz1 : z ≤ 65536 * 1099511627776 := hzb.2
          clear hw hz hzb
          by_cases hlt : k < m
          · have hkx : k < xs.length := by have := HR.out.2.2.1; omega
            have hky : k < ys.length := by have := HR.out.2.2.2; omega
            have cx : wr.cell? ⟨a, off + k, none⟩ = some (.int .i64 (gi xs k)) := by rw [HW.out]; exact HC.out.1 k _ (nums_gi hkx)
            have cy : wr.cell? ⟨a', off' + k, none⟩ = some (.int .i64 (gi ys k)) := by rw [HW.out]; exact HC.out.2 k _ (nums_gi hky)
            have kn : (k : Int) < (m : Int) := by omega
            have hkb := HA.out.2.2.2.2.2.1 _ (gi_mem hkx)
            have hk0 : 0 ≤ gi xs k := hkb.1
            have hk1 : gi xs k ≤ T := hkb.2
            have HL := Lib.hid hlt
            clear hlt hkx hky hkb hk
            by_cases he : gi ys k = (p : Int)
            · have e1 : (gi ys k == (p : Int)) = true := by simpa using he
              have HE := Lib.hid he
              clear he
              go_wp2_with fail
              go_quiet (fail)
              go_wp2
              refine ⟨⟨k + 1, z + (T - gi xs k), by have := HL.out; omega, by go_num, ?_, ?_, ?_⟩, by have := HL.out; simp [intOf]; omega⟩
              · congr 1; omega
              · rw [show Sg (k + 1) (fun c => if gi ys c = (p : Int) then T - gi xs c else 0) = Sg k (fun c => if gi ys c = (p : Int) then T - gi xs c else 0) + (if gi ys k = (p : Int) then T - gi xs k else 0) from rfl, ← HZ.out, if_pos HE.out]
              · exact ⟨q + nq, by rw [HW.out, World.drewN_drewN]⟩
            · have e1 : (gi ys k == (p : Int)) = false := by simpa using he
              have HE := Lib.hid he
              clear he
              go_wp2
              refine ⟨⟨k + 1, z, by have := HL.out; omega, by go_num, rfl, ?_, q, HW.out⟩, by have := HL.out; simp [intOf]; omega⟩
              rw [show Sg (k + 1) (fun c => if gi ys c = (p : Int) then T - gi xs c else 0) = Sg k (fun c => if gi ys c = (p : Int) then T - gi xs c else 0) + (if gi ys k = (p : Int) then T - gi xs k else 0) from rfl, ← HZ.out, if_neg HE.out]
              omega
          · obtain rfl : k = m := by omega
            clear hlt hk
            go_wp2
            go_ret2
            refine ⟨tup2p ?_, by rw [HW.out]; exact below_dN HS2.out.2.2.2.2.2.2 _⟩
            rw [HP.out.1]
            unfold wt
            rw [Int.toNat_natCast, HR.out.2.2.1, ← HZ.out]
end Go.Proofs.Ytfcoeonabppjiaa
