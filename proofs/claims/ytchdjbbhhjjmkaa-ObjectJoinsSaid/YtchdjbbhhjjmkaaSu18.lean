/- block: Sum. -/
import Derived.Test.YtchdjbbhhjjmkaaCu18
namespace Go.Proofs.Ytchdjbbhhjjmkaa
open Go.RowKit Go.Shelf
set_option linter.unusedVariables false
attribute [local go_sem] Oper.semAt_some
theorem run_make_bytes (m : Nat) (hm : m ≤ 1000000) (w : World) : (Instr.makeSlice 32 (.int .i64 (m : Int)) (.int .i64 (m : Int))).run Try.prog w = .ok (.slice (some ⟨w.heap.size, 0, none⟩) m m) (w.alloc (.cells (bys (List.replicate m 0)).toArray 5)) := by
  obtain ⟨i0, hi0, hz0, hz1, hz2⟩ := info_parts u8_info
  have := run_make (P := Try.prog) w 32 5 i0 (.int .u8 0) Try.underlying32 hi0 hz0 .i64 .i64 m m (by omega) (by omega) (by rw [hz2]; omega) (by omega)
  rw [hz1] at this
  simp only [Int.toNat_natCast] at this
  rw [show madeCells (Value.int .u8 0).cells (m * 1) = (bys (List.replicate m 0)).toArray from by rw [← zeros_bys]] at this
  exact this
theorem bk_ne {w : World} {g g' : Nat} {t t' : TypeId} {cs cs' : List Value} (h : Bk w g t cs) (h' : Bk w g' t' cs') (hne : t ≠ t') : g ≠ g' := by
  intro e
  subst e
  unfold Bk at h h'
  rw [h] at h'
  injection h' with h'; injection h' with _ h'
  exact hne h'
end Go.Proofs.Ytchdjbbhhjjmkaa
