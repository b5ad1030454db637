/- Chapter 31: comes: what it does to an end's box. Printed by gen_Ec31.py. -/
import Derived.Test.YtknpghemogfenaaB14
import Derived.Conc.LoneSelect
namespace Go.Proofs.Ytknpghemogfenaa
open Go.Conc Go.RowKit
set_option linter.unusedVariables false
set_option maxRecDepth 100000 in
set_option maxHeartbeats 1600000 in
theorem comes0_room {w : World} {E C s r n c : Nat} {A : Option Addr} {buf : Array Value} {lost : Int} (hc : w.cell? ⟨E, 5, none⟩ = some (.chan (some C))) (hl : w.cell? ⟨E, 7, none⟩ = some (.int .i64 lost)) (hf : w.frozen? ⟨E, 7, none⟩ = false) (hl0 : 0 ≤ lost) (hl1 : lost ≤ 1000000000)
    (hb : w.heap[C]? = some (.chan 1000 buf false s r false)) (hr : buf.size < 1000) :
    Calls Try.prog 38 #[.pointer (some ⟨E, 0, none⟩), .int .i64 0, .slice A n c] w fun e w' => e = .returned (.tuple #[]) ∧ w' = w.setChan C 1000 (buf.push (.slice A n c)) false (s + 1) r false := by
  refine calls_of_loneTo fun cs => ?_
  have e : Frame.enter Try.prog 38 #[.pointer (some ⟨E, 0, none⟩), .int .i64 0, .slice A n c] .normal = (base 38).at ⟨#[.pointer (some ⟨E, 0, none⟩), .int .i64 0, .slice A n c, undef, undef, undef, undef, undef, undef, undef, undef, undef, undef, undef, undef, undef, undef, undef, undef, undef, undef, undef, undef], []⟩ [.code (Try.f38.body.getD .skip)] := by
    simp [Frame.enter, Frame.at, Try.func38, base, Try.f38]
  rw [e]
  refine LoneTo.goes (n := 15) ?_
  simp only [Try.f38, Option.getD_some]
  s_c stepG_seq
  s_c stepG_seq
  s_reg
  s_op
  s_op
  s_op
  s_op
  s_op
  s_op
  s_c stepG_region_end
  s_reg
  s_op
  s_c stepG_region_end
  s_c stepG_seq
  s_reg
  s_stop
  refine LoneTo.step (step_lone_select_send_room (c := C) (cap := 1000) (buf := buf) (s := s) (r := r) (tm := false) (stepG_comm (cases := #[scase C (.slice A n c) (.slice none 0 0)]) (blocking := false) (shape := .select) (w' := w) rfl rfl (by decide) (by simp [go_sem, execOp, scase, Act.eval])) hb hr) ?_
  rw [Frame.finish_at]
  walk_nrm
  refine LoneTo.goes (n := 8) ?_
  s_op
  s_op
  s_c stepG_region_end
  s_c stepG_block
  s_cond true
  s_c stepG_skip
  s_c stepG_inBlock
  s_c stepG_end
  s_stop
  exact LoneTo.done ⟨.returned (.tuple #[]), _, rfl, ⟨rfl, rfl⟩, rfl, rfl, rfl, rfl, _, Try.func38, by simp [results, Try.f38, Frame.at]⟩
set_option maxRecDepth 100000 in
set_option maxHeartbeats 1600000 in
theorem comes0_full {w : World} {E C s r n c : Nat} {A : Option Addr} {buf : Array Value} {lost : Int} (hc : w.cell? ⟨E, 5, none⟩ = some (.chan (some C))) (hl : w.cell? ⟨E, 7, none⟩ = some (.int .i64 lost)) (hf : w.frozen? ⟨E, 7, none⟩ = false) (hl0 : 0 ≤ lost) (hl1 : lost ≤ 1000000000)
    (hb : w.heap[C]? = some (.chan 1000 buf false s r false)) (hr : 1000 ≤ buf.size) :
    Calls Try.prog 38 #[.pointer (some ⟨E, 0, none⟩), .int .i64 0, .slice A n c] w fun e w' => e = .returned (.tuple #[]) ∧ w' = w.setCell ⟨E, 7, none⟩ (.int .i64 (lost + 1)) := by
  refine calls_of_loneTo fun cs => ?_
  have e : Frame.enter Try.prog 38 #[.pointer (some ⟨E, 0, none⟩), .int .i64 0, .slice A n c] .normal = (base 38).at ⟨#[.pointer (some ⟨E, 0, none⟩), .int .i64 0, .slice A n c, undef, undef, undef, undef, undef, undef, undef, undef, undef, undef, undef, undef, undef, undef, undef, undef, undef, undef, undef, undef], []⟩ [.code (Try.f38.body.getD .skip)] := by
    simp [Frame.enter, Frame.at, Try.func38, base, Try.f38]
  rw [e]
  refine LoneTo.goes (n := 15) ?_
  simp only [Try.f38, Option.getD_some]
  s_c stepG_seq
  s_c stepG_seq
  s_reg
  s_op
  s_op
  s_op
  s_op
  s_op
  s_op
  s_c stepG_region_end
  s_reg
  s_op
  s_c stepG_region_end
  s_c stepG_seq
  s_reg
  s_stop
  refine LoneTo.step (step_lone_select_send_full (c := C) (cap := 1000) (buf := buf) (s := s) (r := r) (tm := false) (stepG_comm (cases := #[scase C (.slice A n c) (.slice none 0 0)]) (blocking := false) (shape := .select) (w' := w) rfl rfl (by decide) (by simp [go_sem, execOp, scase, Act.eval])) hb hr) ?_
  rw [Frame.finish_at]
  walk_nrm
  have hw : IntKind.i64.wrap (lost + 1) = lost + 1 := by rw [IntKind.wrap_i64]; omega
  refine LoneTo.goes (n := 17) ?_
  s_op
  s_op
  s_c stepG_region_end
  s_c stepG_block
  s_cond false
  s_reg
  s_op
  s_op
  s_op
  s_op
  s_op
  s_op
  s_op
  s_op
  s_c stepG_region_end
  s_c stepG_inBlock
  s_c stepG_end
  s_stop
  exact LoneTo.done ⟨.returned (.tuple #[]), _, rfl, ⟨rfl, rfl⟩, rfl, rfl, rfl, rfl, _, Try.func38, by simp [results, Try.f38, Frame.at]⟩
set_option maxRecDepth 100000 in
set_option maxHeartbeats 1600000 in
theorem comes1_room {w : World} {E C s r n c : Nat} {A : Option Addr} {buf : Array Value} {lost : Int} (hc : w.cell? ⟨E, 6, none⟩ = some (.chan (some C))) (hl : w.cell? ⟨E, 7, none⟩ = some (.int .i64 lost)) (hf : w.frozen? ⟨E, 7, none⟩ = false) (hl0 : 0 ≤ lost) (hl1 : lost ≤ 1000000000)
    (hb : w.heap[C]? = some (.chan 1000 buf false s r false)) (hr : buf.size < 1000) :
    Calls Try.prog 38 #[.pointer (some ⟨E, 0, none⟩), .int .i64 1, .slice A n c] w fun e w' => e = .returned (.tuple #[]) ∧ w' = w.setChan C 1000 (buf.push (.slice A n c)) false (s + 1) r false := by
  refine calls_of_loneTo fun cs => ?_
  have e : Frame.enter Try.prog 38 #[.pointer (some ⟨E, 0, none⟩), .int .i64 1, .slice A n c] .normal = (base 38).at ⟨#[.pointer (some ⟨E, 0, none⟩), .int .i64 1, .slice A n c, undef, undef, undef, undef, undef, undef, undef, undef, undef, undef, undef, undef, undef, undef, undef, undef, undef, undef, undef, undef], []⟩ [.code (Try.f38.body.getD .skip)] := by
    simp [Frame.enter, Frame.at, Try.func38, base, Try.f38]
  rw [e]
  refine LoneTo.goes (n := 15) ?_
  simp only [Try.f38, Option.getD_some]
  s_c stepG_seq
  s_c stepG_seq
  s_reg
  s_op
  s_op
  s_op
  s_op
  s_op
  s_op
  s_c stepG_region_end
  s_reg
  s_op
  s_c stepG_region_end
  s_c stepG_seq
  s_reg
  s_stop
  refine LoneTo.step (step_lone_select_send_room (c := C) (cap := 1000) (buf := buf) (s := s) (r := r) (tm := false) (stepG_comm (cases := #[scase C (.slice A n c) (.slice none 0 0)]) (blocking := false) (shape := .select) (w' := w) rfl rfl (by decide) (by simp [go_sem, execOp, scase, Act.eval])) hb hr) ?_
  rw [Frame.finish_at]
  walk_nrm
  refine LoneTo.goes (n := 8) ?_
  s_op
  s_op
  s_c stepG_region_end
  s_c stepG_block
  s_cond true
  s_c stepG_skip
  s_c stepG_inBlock
  s_c stepG_end
  s_stop
  exact LoneTo.done ⟨.returned (.tuple #[]), _, rfl, ⟨rfl, rfl⟩, rfl, rfl, rfl, rfl, _, Try.func38, by simp [results, Try.f38, Frame.at]⟩
set_option maxRecDepth 100000 in
set_option maxHeartbeats 1600000 in
theorem comes1_full {w : World} {E C s r n c : Nat} {A : Option Addr} {buf : Array Value} {lost : Int} (hc : w.cell? ⟨E, 6, none⟩ = some (.chan (some C))) (hl : w.cell? ⟨E, 7, none⟩ = some (.int .i64 lost)) (hf : w.frozen? ⟨E, 7, none⟩ = false) (hl0 : 0 ≤ lost) (hl1 : lost ≤ 1000000000)
    (hb : w.heap[C]? = some (.chan 1000 buf false s r false)) (hr : 1000 ≤ buf.size) :
    Calls Try.prog 38 #[.pointer (some ⟨E, 0, none⟩), .int .i64 1, .slice A n c] w fun e w' => e = .returned (.tuple #[]) ∧ w' = w.setCell ⟨E, 7, none⟩ (.int .i64 (lost + 1)) := by
  refine calls_of_loneTo fun cs => ?_
  have e : Frame.enter Try.prog 38 #[.pointer (some ⟨E, 0, none⟩), .int .i64 1, .slice A n c] .normal = (base 38).at ⟨#[.pointer (some ⟨E, 0, none⟩), .int .i64 1, .slice A n c, undef, undef, undef, undef, undef, undef, undef, undef, undef, undef, undef, undef, undef, undef, undef, undef, undef, undef, undef, undef], []⟩ [.code (Try.f38.body.getD .skip)] := by
    simp [Frame.enter, Frame.at, Try.func38, base, Try.f38]
  rw [e]
  refine LoneTo.goes (n := 15) ?_
  simp only [Try.f38, Option.getD_some]
  s_c stepG_seq
  s_c stepG_seq
  s_reg
  s_op
  s_op
  s_op
  s_op
  s_op
  s_op
  s_c stepG_region_end
  s_reg
  s_op
  s_c stepG_region_end
  s_c stepG_seq
  s_reg
  s_stop
  refine LoneTo.step (step_lone_select_send_full (c := C) (cap := 1000) (buf := buf) (s := s) (r := r) (tm := false) (stepG_comm (cases := #[scase C (.slice A n c) (.slice none 0 0)]) (blocking := false) (shape := .select) (w' := w) rfl rfl (by decide) (by simp [go_sem, execOp, scase, Act.eval])) hb hr) ?_
  rw [Frame.finish_at]
  walk_nrm
  have hw : IntKind.i64.wrap (lost + 1) = lost + 1 := by rw [IntKind.wrap_i64]; omega
  refine LoneTo.goes (n := 17) ?_
  s_op
  s_op
  s_c stepG_region_end
  s_c stepG_block
  s_cond false
  s_reg
  s_op
  s_op
  s_op
  s_op
  s_op
  s_op
  s_op
  s_op
  s_c stepG_region_end
  s_c stepG_inBlock
  s_c stepG_end
  s_stop
  exact LoneTo.done ⟨.returned (.tuple #[]), _, rfl, ⟨rfl, rfl⟩, rfl, rfl, rfl, rfl, _, Try.func38, by simp [results, Try.f38, Frame.at]⟩
end Go.Proofs.Ytknpghemogfenaa
