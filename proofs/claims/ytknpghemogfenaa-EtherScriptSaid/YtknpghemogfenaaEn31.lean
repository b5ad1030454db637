/- Chapter 31: Now, Flying, Lost, Waiting of an ether; of none. -/
import Derived.Test.YtknpghemogfenaaEm31
import Derived.Conc.LoneSelectN
namespace Go.Proofs.Ytknpghemogfenaa
open Go.Conc Go.RowKit
set_option linter.unusedVariables false
section
variable {w : World} {base E : Nat} {m : EM}
theorem enone_em (h : Em w base E m) : Calls Try.prog 35 #[.pointer (some ⟨E, 0, none⟩)] w fun e w' => e = .returned (.bool false) ∧ w' = w := enone_made h.cell.2.2.2.2.2.1
theorem now_any (h : Em w base E m) : Calls Try.prog 23 #[.pointer (some ⟨E, 0, none⟩)] w fun e w' => e = .returned (.int .i64 m.now) ∧ w' = w := by
  have H := Lib.hid h
  have c2 := h.cell.2.2.1
  clear h
  go_enter Try.func23, Try.ntmps23
  go_wp2_with fail
  refine (enone_em H.out).mono ?_
  rintro e w1 ⟨rfl, rfl⟩
  go_wp2
  go_ret
  exact ⟨rfl, rfl⟩
theorem lost_any (h : Em w base E m) : Calls Try.prog 17 #[.pointer (some ⟨E, 0, none⟩)] w fun e w' => e = .returned (.int .i64 m.lost) ∧ w' = w := by
  have H := Lib.hid h
  have c2 := h.cell.2.2.2.2.2.2.2
  clear h
  go_enter Try.func17, Try.ntmps17
  go_wp2_with fail
  refine (enone_em H.out).mono ?_
  rintro e w1 ⟨rfl, rfl⟩
  go_wp2
  go_ret
  exact ⟨rfl, rfl⟩
theorem flying_any (h : Em w base E m) : Calls Try.prog 15 #[.pointer (some ⟨E, 0, none⟩)] w fun e w' => e = .returned (.int .i64 (m.l.length : Nat)) ∧ w' = w := by
  have H := Lib.hid h
  have c2 := h.cell.2.2.2.2.1
  obtain ⟨A, c, hv, hc, _⟩ := h.k.form
  rw [hv] at c2
  obtain ⟨n, hn⟩ : ∃ n, m.l.length = n := ⟨_, rfl⟩
  rw [hn] at c2 ⊢
  clear h hv hc hn
  go_enter Try.func15, Try.ntmps15
  go_wp2_with fail
  refine (enone_em H.out).mono ?_
  rintro e w1 ⟨rfl, rfl⟩
  go_wp2
  go_ret
  exact ⟨rfl, rfl⟩
def waitN (m : EM) (d : Int) : Nat := if d = 0 then m.b0.length else if d = 1 then m.b1.length else 0
theorem waiting_any (h : Em w base E m) (d : Int) : Calls Try.prog 29 #[.pointer (some ⟨E, 0, none⟩), .int .i64 d] w fun e w' => e = .returned (.int .i64 (waitN m d : Nat)) ∧ w' = w := by
  have H := Lib.hid h
  obtain ⟨_, _, _, _, _, k5, k6, _⟩ := h.cell
  obtain ⟨s0, r0, q0⟩ := h.c0
  obtain ⟨s1, r1, q1⟩ := h.c1
  by_cases h0 : d = 0
  · subst h0
    have hlen := fun ty => run_len_chan (P := Try.prog) 63 ty Try.underlying63 q0
    have HW := Lib.hid (show (waitN m 0 : Nat) = (m.b0.map BX.v).toArray.size from by simp [waitN])
    clear h q0 q1
    go_enter Try.func29, Try.ntmps29
    go_wp2_with fail
    refine (enone_em H.out).mono ?_
    rintro e w1 ⟨rfl, rfl⟩
    go_wp2_with fail
    refine (end_any 0).mono ?_
    rintro e w1 ⟨rfl, rfl⟩
    rw [show isEnd 0 = true from rfl]
    go_wp2
    go_ret
    exact ⟨by rw [HW.out]; simp, rfl⟩
  · by_cases h1 : d = 1
    · subst h1
      have hlen := fun ty => run_len_chan (P := Try.prog) 63 ty Try.underlying63 q1
      have HW := Lib.hid (show (waitN m 1 : Nat) = (m.b1.map BX.v).toArray.size from by simp [waitN])
      clear h q0 q1
      go_enter Try.func29, Try.ntmps29
      go_wp2_with fail
      refine (enone_em H.out).mono ?_
      rintro e w1 ⟨rfl, rfl⟩
      go_wp2_with fail
      refine (end_any 1).mono ?_
      rintro e w1 ⟨rfl, rfl⟩
      rw [show isEnd 1 = true from rfl]
      go_wp2
      go_ret
      exact ⟨by rw [HW.out]; simp, rfl⟩
    · have HD := Lib.hid (show isEnd d = false ∧ waitN m d = 0 from ⟨by unfold isEnd; simp [h0, h1], by unfold waitN; rw [if_neg h0, if_neg h1]⟩)
      clear h h0 h1 q0 q1
      go_enter Try.func29, Try.ntmps29
      go_wp2_with fail
      refine (enone_em H.out).mono ?_
      rintro e w1 ⟨rfl, rfl⟩
      go_wp2_with fail
      refine (end_any d).mono ?_
      rintro e w1 ⟨rfl, rfl⟩
      rw [HD.out.1]
      go_wp2
      go_ret
      exact ⟨by rw [HD.out.2]; rfl, rfl⟩
end
end Go.Proofs.Ytknpghemogfenaa
