/- artesiankit.KeptBytes. -/
import Derived.Test.YtpfamjgdfcnieaaG09
import Derived.BigRegion
namespace Go.Proofs.Ytpfamjgdfcnieaa
open Go.RowKit
set_option linter.unusedVariables false
set_option maxRecDepth 100000 in
set_option maxHeartbeats 8000000 in
theorem kept_any {w : World} {A A' : Option Addr} {n c c' : Nat} {b : List UInt8} (h : Rd w A (n + 4) (bys (b ++ spare))) (h' : Rd w A' n (bys b)) (hn : n ≤ 35184372088832) (hc : n + 4 ≤ c) :
    Calls Try.prog 21 #[.slice A n c, .slice A' n c'] w fun e w' => e = .returned (.bool true) ∧ Below w.heap.size w w' := by
  have hl : b.length = n := by have := h'.1; simpa [bys_length] using this
  obtain ⟨g, off, rfl, _, _⟩ := h.form (by omega)
  have hT : Rd w (some ⟨g, off, none⟩) n (bys b) := by
    have := h.take_ (k := n) (by omega)
    rw [bys_take, List.take_append_of_le_length (by omega), List.take_of_length_le (by omega)] at this
    exact this
  have hS : Rd w (some ⟨g, off + n, none⟩) 4 (bys spare) := by
    have := h.cut_at (k := n) (by omega) (A' := some ⟨g, off + n, none⟩) (by intro _; rfl)
    rw [show n + 4 - n = 4 from by omega, show (bys (b ++ spare)).drop n = bys spare from by rw [bys_append, List.drop_left' (by rw [bys_length, hl])]] at this
    exact this
  have n0 : (0 : Int) ≤ (n : Int) := by omega
  have n1 : (n : Int) ≤ (c : Int) := by omega
  have n4 : (n : Int) + 4 ≤ (c : Int) := by omega
  have n5 : (n : Int) ≤ 35184372088832 := by omega
  have t1 := run_bytes_text (P := Try.prog) (c := c) hT 22 5 9 Try.underlying22 Try.underlying5 Try.underlying9
  have t2 := run_bytes_text (P := Try.prog) (c := c') h' 22 5 9 Try.underlying22 Try.underlying5 Try.underlying9
  have t3 := run_bytes_text (P := Try.prog) (c := c - n) hS 22 5 9 Try.underlying22 Try.underlying5 Try.underlying9
  have d1 := run_bytes_text (P := Try.prog) (c := c) (w := w.drew) (hT.drewN 1) 22 5 9 Try.underlying22 Try.underlying5 Try.underlying9
  have d2 := run_bytes_text (P := Try.prog) (c := c') (w := w.drew) (h'.drewN 1) 22 5 9 Try.underlying22 Try.underlying5 Try.underlying9
  have d3 := run_bytes_text (P := Try.prog) (c := c - n) (w := w.drew) (hS.drewN 1) 22 5 9 Try.underlying22 Try.underlying5 Try.underlying9
  obtain ⟨w2, hw2⟩ : ∃ w2 : World, w2 = (w.alloc (.cells #[.int .u8 201, .int .u8 202, .int .u8 203, .int .u8 204] 5)).drew := ⟨_, rfl⟩
  have hT2 : Rd w2 (some ⟨g, off, none⟩) n (bys b) := by rw [hw2]; exact (hT.alloc _).drewN 1
  have h2' : Rd w2 A' n (bys b) := by rw [hw2]; exact (h'.alloc _).drewN 1
  have hS2 : Rd w2 (some ⟨g, off + n, none⟩) 4 (bys spare) := by rw [hw2]; exact (hS.alloc _).drewN 1
  have hL2 : Rd w2 (some ⟨w.heap.size, 0, none⟩) 4 (bys spare) := by rw [hw2]; exact (Rd.lit _ _ _ _ rfl _ rfl _ rfl).drewN 1
  have e1 := run_bytes_text (P := Try.prog) (c := c) hT2 22 5 9 Try.underlying22 Try.underlying5 Try.underlying9
  have e2 := run_bytes_text (P := Try.prog) (c := c') h2' 22 5 9 Try.underlying22 Try.underlying5 Try.underlying9
  have e3 := run_bytes_text (P := Try.prog) (c := c - n) hS2 22 5 9 Try.underlying22 Try.underlying5 Try.underlying9
  have e4 := run_bytes_text (P := Try.prog) (c := 4) hL2 22 5 9 Try.underlying22 Try.underlying5 Try.underlying9
  rw [hw2] at e1 e2 e3 e4
  clear hT2 h2' hS2 hL2 hw2
  go_enter Try.func21, Try.ntmps21
  go_upto_region 2 with fail
  clear h h' hT hS
  go_region
  go_wp2_with fail
  go_ret
  exact ⟨rfl, below_dN ((Below.refl _ _).alloc (Nat.le_refl _) _) 1⟩
end Go.Proofs.Ytpfamjgdfcnieaa
