/- Chapter 11: the document's Check. -/
import Derived.Deep.CutBlock
import Derived.Test.YtpfamjgdfcnieaaPk11
namespace Go.Proofs.Ytpfamjgdfcnieaa
open Go.RowKit
set_option linter.unusedVariables false
theorem win_zero (x : Int) : win x 0 0 = (x == 0) := by
  unfold win
  by_cases h : x = 0
  · subst h; rfl
  · rw [beq_eq_false_iff_ne.2 h]; simp; omega
section
variable {w : World}
theorem number_any (n : Int) : Calls Try.prog 38 #[.int .i64 n] w fun e w' => e = .returned (.bool (win n 0 4294967295)) ∧ w' = w := by
  by_cases h1 : 0 ≤ n
  · have d1 : decide (n ≥ 0) = true := by simpa using h1
    have d2 : decide (0 ≤ n) = true := by simpa using h1
    have HW := Lib.hid (show win n 0 4294967295 = decide (n ≤ 4294967295) from by unfold win; simp [h1])
    clear h1
    go_enter Try.func38, Try.ntmps38
    go_wp2
    go_ret
    exact ⟨ret_bool (by rw [HW.out]), rfl⟩
  · have d1 : decide (n ≥ 0) = false := by simpa using h1
    have d2 : decide (0 ≤ n) = false := by simpa using h1
    have HW := Lib.hid (show win n 0 4294967295 = false from by unfold win; simp [h1])
    clear h1
    go_enter Try.func38, Try.ntmps38
    go_wp2
    go_ret
    exact ⟨ret_bool (by rw [HW.out]), rfl⟩
theorem dataIs_any (A : Option Addr) (n c : Nat) : Calls Try.prog 39 #[.slice A n c] w fun e w' => e = .returned (.bool (win (n : Int) 1 65535)) ∧ w' = w := by
  by_cases h1 : 1 ≤ n
  · have d1 : decide ((n : Int) ≥ 1) = true := by simp; omega
    have d2 : decide (1 ≤ (n : Int)) = true := by simp; omega
    have d3 : decide (1 ≤ n) = true := by simp; omega
    have HW := Lib.hid (show win (n : Int) 1 65535 = decide ((n : Int) ≤ 65535) from by unfold win; simp; omega)
    clear h1
    go_enter Try.func39, Try.ntmps39
    go_wp2
    go_ret
    exact ⟨ret_bool (by rw [HW.out]; try simp; try omega), rfl⟩
  · have d1 : decide ((n : Int) ≥ 1) = false := by simp; omega
    have d2 : decide (1 ≤ (n : Int)) = false := by simp; omega
    have d3 : decide (1 ≤ n) = false := by simp; omega
    have HW := Lib.hid (show win (n : Int) 1 65535 = false from by unfold win; simp; omega)
    clear h1
    go_enter Try.func39, Try.ntmps39
    go_wp2
    go_ret
    exact ⟨ret_bool (by rw [HW.out]), rfl⟩
end
/-- What the kinds say of block, number, reason, data. -/
def rbB (kd blk : Int) : Bool := win blk 0 (mst (fmB kd) 4294967295)
def rbI (kd id : Int) : Bool := win id 0 (mst (fmB kd && fmD kd) 4294967295)
def rbR (kd rsn : Int) : Bool := win rsn (fmR kd) (fmR kd * 15)
def rbD (kd : Int) (n : Nat) : Bool := win (n : Int) (mst (fmD kd) 1) (mst (fmD kd) 65535)
set_option maxRecDepth 100000 in
set_option maxHeartbeats 3200000 in
theorem rpcheck_any {w : World} {A : Option Addr} {n c : Nat} {p : PK} (h : PA w A n c p) :
    Calls Try.prog 15 #[p.v A n c] w fun e w' => e = .returned (.int .i64 (pkE p)) ∧ Below w.heap.size w w' := by
  obtain ⟨kd, ses, blk, id, rsn, dat⟩ := p
  obtain ⟨w1, hw1⟩ : ∃ w1, w1 = w.alloc (.cells #[.int .i64 kd, .int .i64 ses, .int .i64 blk, .int .i64 id, .int .i64 rsn, .slice A n c] 24) := ⟨_, rfl⟩
  have hM := PB.new h
  rw [← hw1] at hM
  have H1 := Lib.hid hM
  have hdl := h.2.2.2.1
  obtain ⟨c0, c1, c2, c3, c4, c5⟩ := cells6 hM.1
  simp only at c0 c1 c2 c3 c4 hdl
  clear h hM
  show Calls Try.prog 15 #[.agg #[.int .i64 kd, .int .i64 ses, .int .i64 blk, .int .i64 id, .int .i64 rsn, .slice A n c]] w _
  by_cases hk : 1 ≤ kd ∧ kd ≤ 5
  · have q1 : win kd 1 5 = true := win_iff.2 hk
    have HE := Lib.hid (show pkE ⟨kd, ses, blk, id, rsn, dat⟩ = if (win ses 0 4294967295 && (rbB kd blk && (rbI kd id && (rbR kd rsn && rbD kd n)))) = true then 0 else 2 from by
      unfold pkE pkB rbB rbI rbR rbD
      simp only
      rw [q1, hdl, Bool.true_and]
      congr 1
      cases win ses 0 4294967295 <;> cases win blk 0 (mst (fmB kd) 4294967295) <;> cases win id 0 (mst (fmB kd && fmD kd) 4294967295) <;> cases win (n : Int) (mst (fmD kd) 1) (mst (fmD kd) 65535) <;> cases win rsn (fmR kd) (fmR kd * 15) <;> rfl)
    go_enter Try.func15, Try.ntmps15
    go_wp2_with fail
    rw [← hw1]
    clear hw1
    go_wp2_with fail
    go_quiet (fail)
    have hM2 : PB w (w1.drewN nq) A n c ⟨kd, ses, blk, id, rsn, dat⟩ := H1.out.below (below_dN (Below.refl _ _) nq)
    clear c0 c1 c2 c3 c4 c5 H1
    obtain ⟨c0, c1, c2, c3, c4, c5⟩ := cells6 hM2.1
    simp only at c0 c1 c2 c3 c4
    have H2 := Lib.hid hM2
    clear hM2
    generalize w1.drewN nq = w2 at H2 c0 c1 c2 c3 c4 c5 ⊢
    go_upto_block 0 with fail
    go_cut [3, 4, 5, 6] (fun b i r o wx => b = .bool (rbB kd blk) ∧ i = .bool (rbI kd id) ∧ r = .bool (rbR kd rsn) ∧ o = .bool (rbD kd n) ∧ PB w wx A n c ⟨kd, ses, blk, id, rsn, dat⟩)
    case first =>
      clear HE q1
      rcases (show kd = 1 ∨ kd = 2 ∨ kd = 3 ∨ kd = 4 ∨ kd = 5 by omega) with rfl | rfl | rfl | rfl | rfl
      · go_wp2_with fail
        go_quiet (first | (go_at_call 38; exact Calls.quiet_of_same (number_any _)) | (go_at_call 39; exact Calls.quiet_of_same (dataIs_any _ _ _)))
        go_wp2_with fail
        go_meet
        exact ⟨rfl, rfl, by rw [show rbR 1 rsn = win rsn 0 0 from rfl, win_zero], rfl, H2.out.below (below_dN (Below.refl _ _) _)⟩
      · go_wp2_with fail
        refine (number_any blk).mono ?_
        rintro e w3 ⟨rfl, rfl⟩
        go_wp2_with fail
        go_meet
        exact ⟨rfl, by rw [show rbI 2 id = win id 0 0 from rfl, win_zero], by rw [show rbR 2 rsn = win rsn 0 0 from rfl, win_zero], by rw [show rbD 2 n = win (n : Int) 0 0 from rfl, win_zero], H2.out⟩
      · go_wp2_with fail
        go_meet
        exact ⟨by rw [show rbB 3 blk = win blk 0 0 from rfl, win_zero], by rw [show rbI 3 id = win id 0 0 from rfl, win_zero], by rw [show rbR 3 rsn = win rsn 0 0 from rfl, win_zero], by rw [show rbD 3 n = win (n : Int) 0 0 from rfl, win_zero], H2.out⟩
      · by_cases hr : 1 ≤ rsn
        · have d1 : decide (rsn ≥ 1) = true := by simpa using hr
          have d2 : decide (1 ≤ rsn) = true := by simpa using hr
          have HW := Lib.hid (show rbR 4 rsn = decide (rsn ≤ 15) from by rw [show rbR 4 rsn = win rsn 1 15 from rfl]; unfold win; simp [hr])
          clear hr
          go_wp2_with fail
          go_meet
          exact ⟨by rw [show rbB 4 blk = win blk 0 0 from rfl, win_zero], by rw [show rbI 4 id = win id 0 0 from rfl, win_zero], by rw [HW.out], by rw [show rbD 4 n = win (n : Int) 0 0 from rfl, win_zero], H2.out⟩
        · have d1 : decide (rsn ≥ 1) = false := by simpa using hr
          have d2 : decide (1 ≤ rsn) = false := by simpa using hr
          have HW := Lib.hid (show rbR 4 rsn = false from by rw [show rbR 4 rsn = win rsn 1 15 from rfl]; unfold win; simp [hr])
          clear hr
          go_wp2_with fail
          go_meet
          exact ⟨by rw [show rbB 4 blk = win blk 0 0 from rfl, win_zero], by rw [show rbI 4 id = win id 0 0 from rfl, win_zero], by rw [HW.out], by rw [show rbD 4 n = win (n : Int) 0 0 from rfl, win_zero], H2.out⟩
      · go_wp2_with fail
        refine (dataIs_any A n c).mono ?_
        rintro e w3 ⟨rfl, rfl⟩
        go_wp2_with fail
        go_meet
        exact ⟨by rw [show rbB 5 blk = win blk 0 0 from rfl, win_zero], by rw [show rbI 5 id = win id 0 0 from rfl, win_zero], by rw [show rbR 5 rsn = win rsn 0 0 from rfl, win_zero], rfl, H2.out⟩
    case rest =>
      obtain ⟨rfl, rfl, rfl, rfl, hM⟩ := hcut
      have H5 := Lib.hid hM
      clear c0 c1 c2 c3 c4 c5
      obtain ⟨c0, c1, c2, c3, c4, c5⟩ := cells6 hM.1
      simp only at c0 c1 c2 c3 c4
      clear hM
      generalize rbB kd blk = xb at HE ⊢
      generalize rbI kd id = xi at HE ⊢
      generalize rbR kd rsn = xr at HE ⊢
      generalize rbD kd n = xd at HE ⊢
      go_wp2_with fail
      refine (number_any ses).mono ?_
      rintro e w3 ⟨rfl, rfl⟩
      generalize win ses 0 4294967295 = xs at HE ⊢
      cases xs with
      | false =>
        go_wp2
        go_ret
        exact ⟨ret_int (by rw [HE.out]; first | rfl | simp), H5.out.2.2⟩
      | true =>
        cases xb with
        | false =>
          go_wp2
          go_ret
          exact ⟨ret_int (by rw [HE.out]; first | rfl | simp), H5.out.2.2⟩
        | true =>
          cases xi with
          | false =>
            go_wp2
            go_ret
            exact ⟨ret_int (by rw [HE.out]; first | rfl | simp), H5.out.2.2⟩
          | true =>
            cases xr with
            | false =>
              go_wp2
              go_ret
              exact ⟨ret_int (by rw [HE.out]; first | rfl | simp), H5.out.2.2⟩
            | true =>
              cases xd with
              | false =>
                go_wp2
                go_ret
                exact ⟨ret_int (by rw [HE.out]; first | rfl | simp), H5.out.2.2⟩
              | true =>
                go_wp2
                go_ret
                exact ⟨ret_int (by rw [HE.out]; first | rfl | simp), H5.out.2.2⟩
  · have HE := Lib.hid (show pkE ⟨kd, ses, blk, id, rsn, dat⟩ = 2 from by
      have q1 : win kd 1 5 = false := by
        cases hq : win kd 1 5 with
        | false => rfl
        | true => exact absurd (win_iff.1 hq) hk
      unfold pkE pkB; rw [q1]; rfl)
    have k1 : (kd == 1) = false := by rw [beq_eq_false_iff_ne]; omega
    have k2 : (kd == 2) = false := by rw [beq_eq_false_iff_ne]; omega
    have k3 : (kd == 3) = false := by rw [beq_eq_false_iff_ne]; omega
    have k4 : (kd == 4) = false := by rw [beq_eq_false_iff_ne]; omega
    have k5 : (kd == 5) = false := by rw [beq_eq_false_iff_ne]; omega
    clear hk
    go_enter Try.func15, Try.ntmps15
    go_wp2_with fail
    rw [← hw1]
    clear hw1
    go_wp2_with fail
    go_quiet (fail)
    go_wp2
    go_ret
    exact ⟨ret_int HE.out.symm, below_dN H1.out.2.2 _⟩
end Go.Proofs.Ytpfamjgdfcnieaa
