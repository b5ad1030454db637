/- Chapter 12: Check, of both. (printed by gen_Md12.py) -/
import Derived.Test.YtchdjbbhhjjmkaaMc12
namespace Go.Proofs.Ytchdjbbhhjjmkaa
open Go.RowKit
set_option linter.unusedVariables false
set_option maxRecDepth 100000 in
set_option maxHeartbeats 1600000 in
/-- artesian/manifest.Check -/
theorem check_any {w : World} {A : Option Addr} {n c : Nat} {m : MF} (h : MA w A n c m) :
    Calls Try.prog 34 #[m.v A n c] w fun e w' => e = .returned (.int .i64 (mfE m)) ∧ Below w.heap.size w w' := by
  obtain ⟨z, s, k, d, t⟩ := m
  have hb1 := (Below.refl w.heap.size w).alloc (Nat.le_refl _) (.cells #[.int .i64 z, .int .i64 s, .int .i64 k, .int .i64 d, .slice A n c] 24)
  have hz := Bk.newA w 24 #[.int .i64 z, .int .i64 s, .int .i64 k, .int .i64 d, .slice A n c]
  have H := Lib.hid (And.intro h.1 (And.intro h.2.2.1 (And.intro h.2.2.2.1 (And.intro hb1 hz))))
  have HB := Lib.hid (show mfE ⟨z, s, k, d, t⟩ = if (win z 0 4294967295 && (win s 1 65535 && (win k 1 65536 && (decide (0 ≤ d) && (decide (t.length ≤ 10000) && (decide ((t.length : Int) ≤ k) && tabB t)))))) = true then 0 else 2 from rfl)
  have hn' : (n : Int) ≤ 17592186043904 := by have := h.2.2.1; omega
  have c0 := hz.cell 0
  have c1 := hz.cell 1
  have c2 := hz.cell 2
  have c3 := hz.cell 3
  have c4 := hz.cell 4
  clear h hb1 hz
  show Calls Try.prog 34 #[.agg #[.int .i64 z, .int .i64 s, .int .i64 k, .int .i64 d, .slice A n c]] w _
  go_enter Try.func34, Try.ntmps34
  go_wp2_with fail
  refine (within_any z 0 4294967295).mono ?_
  rintro e w' ⟨rfl, rfl⟩
  cases q0 : win z 0 4294967295 with
  | false =>
    have Q0 := Lib.hid q0
    clear q0
    go_wp2
    go_ret
    exact ⟨ret_int (by rw [HB.out, Q0.out]; simp), H.out.2.2.2.1⟩
  | true =>
    have Q0 := Lib.hid q0
    clear q0
    go_wp2_with fail
    refine (within_any s 1 65535).mono ?_
    rintro e w' ⟨rfl, rfl⟩
    cases q1 : win s 1 65535 with
    | false =>
      have Q1 := Lib.hid q1
      clear q1
      go_wp2
      go_ret
      exact ⟨ret_int (by rw [HB.out, Q0.out, Q1.out]; simp), H.out.2.2.2.1⟩
    | true =>
      have Q1 := Lib.hid q1
      clear q1
      go_wp2_with fail
      refine (within_any k 1 65536).mono ?_
      rintro e w' ⟨rfl, rfl⟩
      cases q2 : win k 1 65536 with
      | false =>
        have Q2 := Lib.hid q2
        clear q2
        go_wp2
        go_ret
        exact ⟨ret_int (by rw [HB.out, Q0.out, Q1.out, Q2.out]; simp), H.out.2.2.2.1⟩
      | true =>
        have Q2 := Lib.hid q2
        have kr := win_iff.1 q2
        clear q2
        by_cases hd : 0 ≤ d
        · have d1 : decide (d < 0) = false := by simp; omega
          have Q3 := Lib.hid (show decide (0 ≤ d) = true by simpa using hd)
          clear hd
          by_cases hk1 : k ≤ 10000
          · go_wp2_with fail
            refine (table_any (c := c) (H.out.1.alloc _) (by have := H.out.2.1; omega) _).mono ?_
            rintro e w' ⟨rfl, rfl⟩
            have Q4 := Lib.hid (show (decide ((n : Int) ≤ k) && tabB t) = (decide (t.length ≤ 10000) && (decide ((t.length : Int) ≤ k) && tabB t)) from by
              rw [H.out.2.2.1, ← Bool.and_assoc]
              congr 1
              rw [Bool.eq_iff_iff]
              simp only [Bool.and_eq_true, decide_eq_true_eq]
              omega)
            cases q5 : (decide ((n : Int) ≤ k) && tabB t) with
            | false =>
              rw [q5] at Q4
              clear q5 kr
              go_wp2
              go_ret
              exact ⟨ret_int (by rw [HB.out, Q0.out, Q1.out, Q2.out, Q3.out, ← Q4.out]; rfl), H.out.2.2.2.1⟩
            | true =>
              rw [q5] at Q4
              clear q5 kr
              go_wp2
              go_ret
              exact ⟨ret_int (by rw [HB.out, Q0.out, Q1.out, Q2.out, Q3.out, ← Q4.out]; rfl), H.out.2.2.2.1⟩
          · go_wp2_with fail
            refine (table_any (c := c) (H.out.1.alloc _) (by have := H.out.2.1; omega) _).mono ?_
            rintro e w' ⟨rfl, rfl⟩
            have Q4 := Lib.hid (show (decide ((n : Int) ≤ 10000) && tabB t) = (decide (t.length ≤ 10000) && (decide ((t.length : Int) ≤ k) && tabB t)) from by
              rw [H.out.2.2.1, ← Bool.and_assoc]
              congr 1
              rw [Bool.eq_iff_iff]
              simp only [Bool.and_eq_true, decide_eq_true_eq]
              omega)
            cases q5 : (decide ((n : Int) ≤ 10000) && tabB t) with
            | false =>
              rw [q5] at Q4
              clear q5 kr
              go_wp2
              go_ret
              exact ⟨ret_int (by rw [HB.out, Q0.out, Q1.out, Q2.out, Q3.out, ← Q4.out]; rfl), H.out.2.2.2.1⟩
            | true =>
              rw [q5] at Q4
              clear q5 kr
              go_wp2
              go_ret
              exact ⟨ret_int (by rw [HB.out, Q0.out, Q1.out, Q2.out, Q3.out, ← Q4.out]; rfl), H.out.2.2.2.1⟩
        · have d1 : decide (d < 0) = true := by simp; omega
          have Q3 := Lib.hid (show decide (0 ≤ d) = false by simpa using hd)
          clear hd kr
          go_wp2
          go_ret
          exact ⟨ret_int (by rw [HB.out, Q0.out, Q1.out, Q2.out, Q3.out]; simp), H.out.2.2.2.1⟩
set_option maxRecDepth 100000 in
set_option maxHeartbeats 1600000 in
/-- artesian/artesianref12.Check -/
theorem rcheck_any {w : World} {A : Option Addr} {n c : Nat} {m : MF} (h : MA w A n c m) :
    Calls Try.prog 36 #[m.v A n c] w fun e w' => e = .returned (.int .i64 (mfE m)) ∧ Below w.heap.size w w' := by
  obtain ⟨z, s, k, d, t⟩ := m
  have hb1 := (Below.refl w.heap.size w).alloc (Nat.le_refl _) (.cells #[.int .i64 z, .int .i64 s, .int .i64 k, .int .i64 d, .slice A n c] 24)
  have hz := Bk.newA w 24 #[.int .i64 z, .int .i64 s, .int .i64 k, .int .i64 d, .slice A n c]
  have H := Lib.hid (And.intro h.1 (And.intro h.2.2.1 (And.intro h.2.2.2.1 (And.intro hb1 hz))))
  have HB := Lib.hid (show mfE ⟨z, s, k, d, t⟩ = if (win z 0 4294967295 && (win s 1 65535 && (win k 1 65536 && (decide (0 ≤ d) && (decide (t.length ≤ 10000) && (decide ((t.length : Int) ≤ k) && tabB t)))))) = true then 0 else 2 from rfl)
  have hn' : (n : Int) ≤ 17592186043904 := by have := h.2.2.1; omega
  have c0 := hz.cell 0
  have c1 := hz.cell 1
  have c2 := hz.cell 2
  have c3 := hz.cell 3
  have c4 := hz.cell 4
  clear h hb1 hz
  show Calls Try.prog 36 #[.agg #[.int .i64 z, .int .i64 s, .int .i64 k, .int .i64 d, .slice A n c]] w _
  go_enter Try.func36, Try.ntmps36
  go_wp2_with fail
  refine (rwithin_any z 0 4294967295).mono ?_
  rintro e w' ⟨rfl, rfl⟩
  cases q0 : win z 0 4294967295 with
  | false =>
    have Q0 := Lib.hid q0
    clear q0
    go_wp2
    go_ret
    exact ⟨ret_int (by rw [HB.out, Q0.out]; simp), H.out.2.2.2.1⟩
  | true =>
    have Q0 := Lib.hid q0
    clear q0
    go_wp2_with fail
    refine (rwithin_any s 1 65535).mono ?_
    rintro e w' ⟨rfl, rfl⟩
    cases q1 : win s 1 65535 with
    | false =>
      have Q1 := Lib.hid q1
      clear q1
      go_wp2
      go_ret
      exact ⟨ret_int (by rw [HB.out, Q0.out, Q1.out]; simp), H.out.2.2.2.1⟩
    | true =>
      have Q1 := Lib.hid q1
      clear q1
      go_wp2_with fail
      refine (rwithin_any k 1 65536).mono ?_
      rintro e w' ⟨rfl, rfl⟩
      cases q2 : win k 1 65536 with
      | false =>
        have Q2 := Lib.hid q2
        clear q2
        go_wp2
        go_ret
        exact ⟨ret_int (by rw [HB.out, Q0.out, Q1.out, Q2.out]; simp), H.out.2.2.2.1⟩
      | true =>
        have Q2 := Lib.hid q2
        have kr := win_iff.1 q2
        clear q2
        by_cases hd : 0 ≤ d
        · have d1 : decide (d < 0) = false := by simp; omega
          have Q3 := Lib.hid (show decide (0 ≤ d) = true by simpa using hd)
          clear hd
          by_cases hL : n ≤ 10000
          · have e1 : decide ((n : Int) > 10000) = false := by simp; omega
            have e2 : decide ((10000 : Int) < (n : Int)) = false := by simp; omega
            have e3 : decide (10000 < n) = false := by simp; omega
            have Q4 := Lib.hid (show decide (t.length ≤ 10000) = true by rw [H.out.2.2.1]; simpa using hL)
            clear hL kr
            go_wp2_with fail
            refine (rtable_any (c := c) (H.out.1.alloc _) (by have := H.out.2.1; omega) _).mono ?_
            rintro e w' ⟨rfl, rfl⟩
            have Q6 := Lib.hid (show (decide ((n : Int) ≤ k) && tabB t) = (decide ((t.length : Int) ≤ k) && tabB t) from by rw [H.out.2.2.1])
            cases q5 : (decide ((n : Int) ≤ k) && tabB t) with
            | false =>
              rw [q5] at Q6
              clear q5
              go_wp2
              go_ret
              exact ⟨ret_int (by rw [HB.out, Q0.out, Q1.out, Q2.out, Q3.out, Q4.out, ← Q6.out]; rfl), H.out.2.2.2.1⟩
            | true =>
              rw [q5] at Q6
              clear q5
              go_wp2
              go_ret
              exact ⟨ret_int (by rw [HB.out, Q0.out, Q1.out, Q2.out, Q3.out, Q4.out, ← Q6.out]; rfl), H.out.2.2.2.1⟩
          · have e1 : decide ((n : Int) > 10000) = true := by simp; omega
            have e2 : decide ((10000 : Int) < (n : Int)) = true := by simp; omega
            have e3 : decide (10000 < n) = true := by simp; omega
            have Q4 := Lib.hid (show decide (t.length ≤ 10000) = false by rw [H.out.2.2.1]; simpa using hL)
            clear hL kr
            go_wp2
            go_ret
            exact ⟨ret_int (by rw [HB.out, Q0.out, Q1.out, Q2.out, Q3.out, Q4.out]; simp), H.out.2.2.2.1⟩
        · have d1 : decide (d < 0) = true := by simp; omega
          have Q3 := Lib.hid (show decide (0 ≤ d) = false by simpa using hd)
          clear hd kr
          go_wp2
          go_ret
          exact ⟨ret_int (by rw [HB.out, Q0.out, Q1.out, Q2.out, Q3.out]; simp), H.out.2.2.2.1⟩
end Go.Proofs.Ytchdjbbhhjjmkaa
