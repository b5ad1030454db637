/- Chapter 28: long. -/
import Derived.Test.YtchdjbbhhjjmkaaFv28
namespace Go.Proofs.Ytchdjbbhhjjmkaa
open Go.RowKit
set_option linter.unusedVariables false
section
variable {w : World} {A B : Option Addr} {n c l cc : Nat} {m : MF}
set_option maxRecDepth 100000 in
set_option maxHeartbeats 1600000 in
theorem longO_any : Calls Try.prog 9 #[m.v A n c, .slice B l cc] w fun e w' => ∃ b, e = .returned (.bool b) ∧ (b = false → l ≤ 500) ∧ Below w.heap.size w w' := by
  obtain ⟨z, s, k, d, t⟩ := m
  obtain ⟨w1, hw1⟩ : ∃ w1, w1 = w.alloc (.cells #[.int .i64 z, .int .i64 s, .int .i64 k, .int .i64 d, .slice A n c] 24) := ⟨_, rfl⟩
  have hb1 : Below w.heap.size w w1 := by rw [hw1]; exact (Below.refl _ _).alloc (Nat.le_refl _) _
  have hz1 : Bk w1 w.heap.size 24 [.int .i64 z, .int .i64 s, .int .i64 k, .int .i64 d, .slice A n c] := by rw [hw1]; exact Bk.newA w _ _
  obtain ⟨c0, c1, c2, c3, c4⟩ := cells5 hz1
  have H := Lib.hid hb1
  clear hb1 hz1
  show Calls Try.prog 9 #[.agg #[.int .i64 z, .int .i64 s, .int .i64 k, .int .i64 d, .slice A n c], .slice B l cc] w _
  by_cases h1 : 100 < n
  · have dh10 : decide ((n : Int) > 100) = true := by simp; omega
    have dh11 : decide (100 < (n : Int)) = true := by simp; omega
    have dh12 : decide (100 < n) = true := by simp; omega
    clear h1
    go_enter Try.func9, Try.ntmps9
    go_wp2_with fail
    rw [← hw1]
    clear hw1
    go_wp2
    go_ret
    exact ⟨_, rfl, (fun h => by cases h), H.out⟩
  · have dh10 : decide ((n : Int) > 100) = false := by simp; omega
    have dh11 : decide (100 < (n : Int)) = false := by simp; omega
    have dh12 : decide (100 < n) = false := by simp; omega
    clear h1
    by_cases h2 : 40 < k
    · have dh20 : decide (k > 40) = true := by simp; omega
      have dh21 : decide (40 < k) = true := by simp; omega
      clear h2
      by_cases h3 : k ≤ 65536
      · have dh30 : decide (k ≤ 65536) = true := by simp; omega
        clear h3
        go_enter Try.func9, Try.ntmps9
        go_wp2_with fail
        rw [← hw1]
        clear hw1
        go_wp2
        go_ret
        exact ⟨_, rfl, (fun h => by cases h), H.out⟩
      · have dh30 : decide (k ≤ 65536) = false := by simp; omega
        clear h3
        by_cases h4 : 40 < s
        · have dh40 : decide (s > 40) = true := by simp; omega
          have dh41 : decide (40 < s) = true := by simp; omega
          clear h4
          by_cases h5 : s ≤ 65535
          · have dh50 : decide (s ≤ 65535) = true := by simp; omega
            clear h5
            go_enter Try.func9, Try.ntmps9
            go_wp2_with fail
            rw [← hw1]
            clear hw1
            go_wp2
            go_ret
            exact ⟨_, rfl, (fun h => by cases h), H.out⟩
          · have dh50 : decide (s ≤ 65535) = false := by simp; omega
            clear h5
            by_cases hl : 500 < l
            · have e0 : decide ((l : Int) > 500) = true := by simp; omega
              have e1 : decide (500 < (l : Int)) = true := by simp; omega
              have e2 : decide (500 < l) = true := by simp; omega
              clear hl
              go_enter Try.func9, Try.ntmps9
              go_wp2_with fail
              rw [← hw1]
              clear hw1
              go_wp2
              go_ret
              exact ⟨_, rfl, (fun h => by cases h), H.out⟩
            · have e0 : decide ((l : Int) > 500) = false := by simp; omega
              have e1 : decide (500 < (l : Int)) = false := by simp; omega
              have e2 : decide (500 < l) = false := by simp; omega
              have HL := Lib.hid (show l ≤ 500 by omega)
              clear hl
              go_enter Try.func9, Try.ntmps9
              go_wp2_with fail
              rw [← hw1]
              clear hw1
              go_wp2
              go_ret
              exact ⟨_, rfl, (fun _ => HL.out), H.out⟩
        · have dh40 : decide (s > 40) = false := by simp; omega
          have dh41 : decide (40 < s) = false := by simp; omega
          clear h4
          by_cases hl : 500 < l
          · have e0 : decide ((l : Int) > 500) = true := by simp; omega
            have e1 : decide (500 < (l : Int)) = true := by simp; omega
            have e2 : decide (500 < l) = true := by simp; omega
            clear hl
            go_enter Try.func9, Try.ntmps9
            go_wp2_with fail
            rw [← hw1]
            clear hw1
            go_wp2
            go_ret
            exact ⟨_, rfl, (fun h => by cases h), H.out⟩
          · have e0 : decide ((l : Int) > 500) = false := by simp; omega
            have e1 : decide (500 < (l : Int)) = false := by simp; omega
            have e2 : decide (500 < l) = false := by simp; omega
            have HL := Lib.hid (show l ≤ 500 by omega)
            clear hl
            go_enter Try.func9, Try.ntmps9
            go_wp2_with fail
            rw [← hw1]
            clear hw1
            go_wp2
            go_ret
            exact ⟨_, rfl, (fun _ => HL.out), H.out⟩
    · have dh20 : decide (k > 40) = false := by simp; omega
      have dh21 : decide (40 < k) = false := by simp; omega
      clear h2
      by_cases h6 : 40 < s
      · have dh60 : decide (s > 40) = true := by simp; omega
        have dh61 : decide (40 < s) = true := by simp; omega
        clear h6
        by_cases h7 : s ≤ 65535
        · have dh70 : decide (s ≤ 65535) = true := by simp; omega
          clear h7
          go_enter Try.func9, Try.ntmps9
          go_wp2_with fail
          rw [← hw1]
          clear hw1
          go_wp2
          go_ret
          exact ⟨_, rfl, (fun h => by cases h), H.out⟩
        · have dh70 : decide (s ≤ 65535) = false := by simp; omega
          clear h7
          by_cases hl : 500 < l
          · have e0 : decide ((l : Int) > 500) = true := by simp; omega
            have e1 : decide (500 < (l : Int)) = true := by simp; omega
            have e2 : decide (500 < l) = true := by simp; omega
            clear hl
            go_enter Try.func9, Try.ntmps9
            go_wp2_with fail
            rw [← hw1]
            clear hw1
            go_wp2
            go_ret
            exact ⟨_, rfl, (fun h => by cases h), H.out⟩
          · have e0 : decide ((l : Int) > 500) = false := by simp; omega
            have e1 : decide (500 < (l : Int)) = false := by simp; omega
            have e2 : decide (500 < l) = false := by simp; omega
            have HL := Lib.hid (show l ≤ 500 by omega)
            clear hl
            go_enter Try.func9, Try.ntmps9
            go_wp2_with fail
            rw [← hw1]
            clear hw1
            go_wp2
            go_ret
            exact ⟨_, rfl, (fun _ => HL.out), H.out⟩
      · have dh60 : decide (s > 40) = false := by simp; omega
        have dh61 : decide (40 < s) = false := by simp; omega
        clear h6
        by_cases hl : 500 < l
        · have e0 : decide ((l : Int) > 500) = true := by simp; omega
          have e1 : decide (500 < (l : Int)) = true := by simp; omega
          have e2 : decide (500 < l) = true := by simp; omega
          clear hl
          go_enter Try.func9, Try.ntmps9
          go_wp2_with fail
          rw [← hw1]
          clear hw1
          go_wp2
          go_ret
          exact ⟨_, rfl, (fun h => by cases h), H.out⟩
        · have e0 : decide ((l : Int) > 500) = false := by simp; omega
          have e1 : decide (500 < (l : Int)) = false := by simp; omega
          have e2 : decide (500 < l) = false := by simp; omega
          have HL := Lib.hid (show l ≤ 500 by omega)
          clear hl
          go_enter Try.func9, Try.ntmps9
          go_wp2_with fail
          rw [← hw1]
          clear hw1
          go_wp2
          go_ret
          exact ⟨_, rfl, (fun _ => HL.out), H.out⟩
end
end Go.Proofs.Ytchdjbbhhjjmkaa
