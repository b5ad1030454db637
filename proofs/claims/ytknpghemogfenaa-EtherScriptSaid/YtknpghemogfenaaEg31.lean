/- Chapter 31: (*Ether).Get: the first out of an end's box, or why there is none. Printed by gen_Eg31.py. -/
import Derived.Test.YtknpghemogfenaaEr31
namespace Go.Proofs.Ytknpghemogfenaa
open Go.Conc Go.RowKit
set_option linter.unusedVariables false
theorem get_bad {w : World} {E C : Nat} {d : Int} (hc : w.cell? ⟨E, 5, none⟩ = some (.chan (some C))) (hd : isEnd d = false) :
    Calls Try.prog 20 #[.pointer (some ⟨E, 0, none⟩), .int .i64 d] w fun e w' => e = .returned (.tuple #[.slice none 0 0, .int .i64 2]) ∧ w' = w := by
  have HC := Lib.hid (And.intro hc hd)
  clear hc hd
  go_enter Try.func20, Try.ntmps20
  go_wp2_with fail
  refine (enone_made HC.out.1).mono ?_
  rintro e w1 ⟨rfl, rfl⟩
  go_wp2_with fail
  refine (end_any d).mono ?_
  rintro e w2 ⟨rfl, rfl⟩
  rw [HC.out.2]
  go_wp2
  go_ret2
  exact ⟨rfl, rfl⟩
theorem get_nil {w : World} {d : Int} :
    Calls Try.prog 20 #[.pointer none, .int .i64 d] w fun e w' => e = .returned (.tuple #[.slice none 0 0, .int .i64 1]) ∧ w' = w := by
  go_enter Try.func20, Try.ntmps20
  go_wp2_with fail
  refine enone_nil.mono ?_
  rintro e w1 ⟨rfl, rfl⟩
  go_wp2
  go_ret2
  exact ⟨rfl, rfl⟩
theorem get_zero {w : World} {E : Nat} {d : Int} (hc : w.cell? ⟨E, 5, none⟩ = some (.chan none)) :
    Calls Try.prog 20 #[.pointer (some ⟨E, 0, none⟩), .int .i64 d] w fun e w' => e = .returned (.tuple #[.slice none 0 0, .int .i64 1]) ∧ w' = w := by
  have HC := Lib.hid hc
  clear hc
  go_enter Try.func20, Try.ntmps20
  go_wp2_with fail
  refine (enone_zero HC.out).mono ?_
  rintro e w1 ⟨rfl, rfl⟩
  go_wp2
  go_ret2
  exact ⟨rfl, rfl⟩
set_option maxRecDepth 100000 in
set_option maxHeartbeats 1600000 in
theorem get0_some {w : World} {E C C5 s r : Nat} {x : Value} {xs : List Value} (hc : w.cell? ⟨E, 5, none⟩ = some (.chan (some C))) (hb : w.heap[C]? = some (.chan 1000 (x :: xs).toArray false s r false)) :
    Calls Try.prog 20 #[.pointer (some ⟨E, 0, none⟩), .int .i64 0] w fun e w' => e = .returned (.tuple #[x, .int .i64 0]) ∧ w' = w.setChan C 1000 xs.toArray false s (r + 1) false := by
  refine calls_of_loneTo fun cs => ?_
  have e : Frame.enter Try.prog 20 #[.pointer (some ⟨E, 0, none⟩), .int .i64 0] .normal = (base 20).at ⟨#[.pointer (some ⟨E, 0, none⟩), .int .i64 0, undef, undef, undef, undef, undef, undef, undef, undef, undef, undef, undef, undef, undef, undef, undef, undef, undef, undef, undef, undef, undef, undef, undef], []⟩ [.code (Try.f20.body.getD .skip)] := by
    simp [Frame.enter, Frame.at, Try.func20, base, Try.f20]
  rw [e]
  refine LoneTo.goes (n := 11) ?_
  simp only [Try.f20, Option.getD_some]
  s_c stepG_seq
  s_reg
  s_op
  s_op
  s_c stepG_region_end
  s_c stepG_seq
  s_c stepG_block
  s_c stepG_seq
  s_reg
  s_op
  s_in
  refine goes_enterC rfl rfl (by decide) rfl Try.func35 (by kernel_rfl) rfl ⟨trivial, ?_⟩
  s_stop
  walk_nrm
  refine loneTo_call (enone_made hc) ?_
  rintro e w1 ⟨rfl, rfl⟩
  refine ⟨_, rfl, ?_⟩
  rw [Frame.finish_at]
  walk_nrm
  refine LoneTo.goes (n := 7) ?_
  s_op
  s_c stepG_region_end
  s_cond false
  s_c stepG_seq
  s_reg
  s_op
  s_in
  refine goes_enterC rfl rfl (by decide) rfl Try.func33 (by kernel_rfl) rfl ⟨trivial, ?_⟩
  s_stop
  walk_nrm
  refine loneTo_call (end_any 0) ?_
  rintro e w1 ⟨rfl, rfl⟩
  refine ⟨_, rfl, ?_⟩
  rw [Frame.finish_at]
  walk_nrm
  rw [show isEnd 0 = true from rfl]
  refine LoneTo.goes (n := 17) ?_
  s_op
  s_op
  s_c stepG_region_end
  s_cond false
  s_c stepG_skip
  s_c stepG_inBlock
  s_c stepG_seq
  s_reg
  s_op
  s_op
  s_op
  s_op
  s_op
  s_op
  s_c stepG_region_end
  s_c stepG_seq
  s_reg
  s_stop
  have e1 : ((x :: xs).toArray.extract 1 (x :: xs).toArray.size) = xs.toArray := by simp
  have e2 : (x :: xs).toArray.getD 0 undef = x := by simp
  refine LoneTo.step (step_lone_select_recv_buf (c := C) (cap := 1000) (buf := (x :: xs).toArray) (closed := false) (s := s) (r := r) (tm := false) (z := .slice none 0 0) (stepG_comm (cases := #[rcase C (.slice none 0 0)]) (blocking := false) (shape := .select) (w' := w1) rfl rfl (by decide) (by simp [go_sem, rcase])) hb (by simp)) ?_
  rw [Frame.finish_at, e1, e2]
  walk_nrm
  refine LoneTo.goes (n := 17) ?_
  s_op
  s_op
  s_c stepG_region_end
  s_c stepG_block
  s_cond true
  s_c stepG_seq
  s_reg
  s_op
  s_op
  s_c stepG_region_end
  s_c stepG_seq
  s_reg
  s_op
  s_op
  s_op
  s_c stepG_region_end
  s_c stepG_ret'
  s_stop
  exact LoneTo.done ⟨.returned (.tuple #[x, .int .i64 0]), _, rfl, ⟨rfl, rfl⟩, rfl, rfl, rfl, rfl, _, Try.func20, by simp [results, Try.f20, Frame.at]⟩
set_option maxRecDepth 100000 in
set_option maxHeartbeats 1600000 in
theorem get0_none {w : World} {E C C5 s r : Nat} (hc : w.cell? ⟨E, 5, none⟩ = some (.chan (some C))) (hb : w.heap[C]? = some (.chan 1000 #[] false s r false)) :
    Calls Try.prog 20 #[.pointer (some ⟨E, 0, none⟩), .int .i64 0] w fun e w' => e = .returned (.tuple #[.slice none 0 0, .int .i64 14]) ∧ w' = w := by
  refine calls_of_loneTo fun cs => ?_
  have e : Frame.enter Try.prog 20 #[.pointer (some ⟨E, 0, none⟩), .int .i64 0] .normal = (base 20).at ⟨#[.pointer (some ⟨E, 0, none⟩), .int .i64 0, undef, undef, undef, undef, undef, undef, undef, undef, undef, undef, undef, undef, undef, undef, undef, undef, undef, undef, undef, undef, undef, undef, undef], []⟩ [.code (Try.f20.body.getD .skip)] := by
    simp [Frame.enter, Frame.at, Try.func20, base, Try.f20]
  rw [e]
  refine LoneTo.goes (n := 11) ?_
  simp only [Try.f20, Option.getD_some]
  s_c stepG_seq
  s_reg
  s_op
  s_op
  s_c stepG_region_end
  s_c stepG_seq
  s_c stepG_block
  s_c stepG_seq
  s_reg
  s_op
  s_in
  refine goes_enterC rfl rfl (by decide) rfl Try.func35 (by kernel_rfl) rfl ⟨trivial, ?_⟩
  s_stop
  walk_nrm
  refine loneTo_call (enone_made hc) ?_
  rintro e w1 ⟨rfl, rfl⟩
  refine ⟨_, rfl, ?_⟩
  rw [Frame.finish_at]
  walk_nrm
  refine LoneTo.goes (n := 7) ?_
  s_op
  s_c stepG_region_end
  s_cond false
  s_c stepG_seq
  s_reg
  s_op
  s_in
  refine goes_enterC rfl rfl (by decide) rfl Try.func33 (by kernel_rfl) rfl ⟨trivial, ?_⟩
  s_stop
  walk_nrm
  refine loneTo_call (end_any 0) ?_
  rintro e w1 ⟨rfl, rfl⟩
  refine ⟨_, rfl, ?_⟩
  rw [Frame.finish_at]
  walk_nrm
  rw [show isEnd 0 = true from rfl]
  refine LoneTo.goes (n := 17) ?_
  s_op
  s_op
  s_c stepG_region_end
  s_cond false
  s_c stepG_skip
  s_c stepG_inBlock
  s_c stepG_seq
  s_reg
  s_op
  s_op
  s_op
  s_op
  s_op
  s_op
  s_c stepG_region_end
  s_c stepG_seq
  s_reg
  s_stop
  refine LoneTo.step (step_lone_select_default (c := C) (cap := 1000) (s := s) (r := r) (tm := false) (z := .slice none 0 0) (stepG_comm (cases := #[rcase C (.slice none 0 0)]) (blocking := false) (shape := .select) (w' := w1) rfl rfl (by decide) (by simp [go_sem, rcase])) hb) ?_
  rw [Frame.finish_at]
  walk_nrm
  refine LoneTo.goes (n := 11) ?_
  s_op
  s_op
  s_c stepG_region_end
  s_c stepG_block
  s_cond false
  s_c stepG_seq
  s_reg
  s_op
  s_op
  s_c stepG_region_end
  s_c stepG_ret'
  s_stop
  exact LoneTo.done ⟨.returned (.tuple #[.slice none 0 0, .int .i64 14]), _, rfl, ⟨rfl, rfl⟩, rfl, rfl, rfl, rfl, _, Try.func20, by simp [results, Try.f20, Frame.at]⟩
set_option maxRecDepth 100000 in
set_option maxHeartbeats 1600000 in
theorem get1_some {w : World} {E C C5 s r : Nat} {x : Value} {xs : List Value} (hc : w.cell? ⟨E, 6, none⟩ = some (.chan (some C))) (h5 : w.cell? ⟨E, 5, none⟩ = some (.chan (some C5))) (hb : w.heap[C]? = some (.chan 1000 (x :: xs).toArray false s r false)) :
    Calls Try.prog 20 #[.pointer (some ⟨E, 0, none⟩), .int .i64 1] w fun e w' => e = .returned (.tuple #[x, .int .i64 0]) ∧ w' = w.setChan C 1000 xs.toArray false s (r + 1) false := by
  refine calls_of_loneTo fun cs => ?_
  have e : Frame.enter Try.prog 20 #[.pointer (some ⟨E, 0, none⟩), .int .i64 1] .normal = (base 20).at ⟨#[.pointer (some ⟨E, 0, none⟩), .int .i64 1, undef, undef, undef, undef, undef, undef, undef, undef, undef, undef, undef, undef, undef, undef, undef, undef, undef, undef, undef, undef, undef, undef, undef], []⟩ [.code (Try.f20.body.getD .skip)] := by
    simp [Frame.enter, Frame.at, Try.func20, base, Try.f20]
  rw [e]
  refine LoneTo.goes (n := 11) ?_
  simp only [Try.f20, Option.getD_some]
  s_c stepG_seq
  s_reg
  s_op
  s_op
  s_c stepG_region_end
  s_c stepG_seq
  s_c stepG_block
  s_c stepG_seq
  s_reg
  s_op
  s_in
  refine goes_enterC rfl rfl (by decide) rfl Try.func35 (by kernel_rfl) rfl ⟨trivial, ?_⟩
  s_stop
  walk_nrm
  refine loneTo_call (enone_made h5) ?_
  rintro e w1 ⟨rfl, rfl⟩
  refine ⟨_, rfl, ?_⟩
  rw [Frame.finish_at]
  walk_nrm
  refine LoneTo.goes (n := 7) ?_
  s_op
  s_c stepG_region_end
  s_cond false
  s_c stepG_seq
  s_reg
  s_op
  s_in
  refine goes_enterC rfl rfl (by decide) rfl Try.func33 (by kernel_rfl) rfl ⟨trivial, ?_⟩
  s_stop
  walk_nrm
  refine loneTo_call (end_any 1) ?_
  rintro e w1 ⟨rfl, rfl⟩
  refine ⟨_, rfl, ?_⟩
  rw [Frame.finish_at]
  walk_nrm
  rw [show isEnd 1 = true from rfl]
  refine LoneTo.goes (n := 17) ?_
  s_op
  s_op
  s_c stepG_region_end
  s_cond false
  s_c stepG_skip
  s_c stepG_inBlock
  s_c stepG_seq
  s_reg
  s_op
  s_op
  s_op
  s_op
  s_op
  s_op
  s_c stepG_region_end
  s_c stepG_seq
  s_reg
  s_stop
  have e1 : ((x :: xs).toArray.extract 1 (x :: xs).toArray.size) = xs.toArray := by simp
  have e2 : (x :: xs).toArray.getD 0 undef = x := by simp
  refine LoneTo.step (step_lone_select_recv_buf (c := C) (cap := 1000) (buf := (x :: xs).toArray) (closed := false) (s := s) (r := r) (tm := false) (z := .slice none 0 0) (stepG_comm (cases := #[rcase C (.slice none 0 0)]) (blocking := false) (shape := .select) (w' := w1) rfl rfl (by decide) (by simp [go_sem, rcase])) hb (by simp)) ?_
  rw [Frame.finish_at, e1, e2]
  walk_nrm
  refine LoneTo.goes (n := 17) ?_
  s_op
  s_op
  s_c stepG_region_end
  s_c stepG_block
  s_cond true
  s_c stepG_seq
  s_reg
  s_op
  s_op
  s_c stepG_region_end
  s_c stepG_seq
  s_reg
  s_op
  s_op
  s_op
  s_c stepG_region_end
  s_c stepG_ret'
  s_stop
  exact LoneTo.done ⟨.returned (.tuple #[x, .int .i64 0]), _, rfl, ⟨rfl, rfl⟩, rfl, rfl, rfl, rfl, _, Try.func20, by simp [results, Try.f20, Frame.at]⟩
set_option maxRecDepth 100000 in
set_option maxHeartbeats 1600000 in
theorem get1_none {w : World} {E C C5 s r : Nat} (hc : w.cell? ⟨E, 6, none⟩ = some (.chan (some C))) (h5 : w.cell? ⟨E, 5, none⟩ = some (.chan (some C5))) (hb : w.heap[C]? = some (.chan 1000 #[] false s r false)) :
    Calls Try.prog 20 #[.pointer (some ⟨E, 0, none⟩), .int .i64 1] w fun e w' => e = .returned (.tuple #[.slice none 0 0, .int .i64 14]) ∧ w' = w := by
  refine calls_of_loneTo fun cs => ?_
  have e : Frame.enter Try.prog 20 #[.pointer (some ⟨E, 0, none⟩), .int .i64 1] .normal = (base 20).at ⟨#[.pointer (some ⟨E, 0, none⟩), .int .i64 1, undef, undef, undef, undef, undef, undef, undef, undef, undef, undef, undef, undef, undef, undef, undef, undef, undef, undef, undef, undef, undef, undef, undef], []⟩ [.code (Try.f20.body.getD .skip)] := by
    simp [Frame.enter, Frame.at, Try.func20, base, Try.f20]
  rw [e]
  refine LoneTo.goes (n := 11) ?_
  simp only [Try.f20, Option.getD_some]
  s_c stepG_seq
  s_reg
  s_op
  s_op
  s_c stepG_region_end
  s_c stepG_seq
  s_c stepG_block
  s_c stepG_seq
  s_reg
  s_op
  s_in
  refine goes_enterC rfl rfl (by decide) rfl Try.func35 (by kernel_rfl) rfl ⟨trivial, ?_⟩
  s_stop
  walk_nrm
  refine loneTo_call (enone_made h5) ?_
  rintro e w1 ⟨rfl, rfl⟩
  refine ⟨_, rfl, ?_⟩
  rw [Frame.finish_at]
  walk_nrm
  refine LoneTo.goes (n := 7) ?_
  s_op
  s_c stepG_region_end
  s_cond false
  s_c stepG_seq
  s_reg
  s_op
  s_in
  refine goes_enterC rfl rfl (by decide) rfl Try.func33 (by kernel_rfl) rfl ⟨trivial, ?_⟩
  s_stop
  walk_nrm
  refine loneTo_call (end_any 1) ?_
  rintro e w1 ⟨rfl, rfl⟩
  refine ⟨_, rfl, ?_⟩
  rw [Frame.finish_at]
  walk_nrm
  rw [show isEnd 1 = true from rfl]
  refine LoneTo.goes (n := 17) ?_
  s_op
  s_op
  s_c stepG_region_end
  s_cond false
  s_c stepG_skip
  s_c stepG_inBlock
  s_c stepG_seq
  s_reg
  s_op
  s_op
  s_op
  s_op
  s_op
  s_op
  s_c stepG_region_end
  s_c stepG_seq
  s_reg
  s_stop
  refine LoneTo.step (step_lone_select_default (c := C) (cap := 1000) (s := s) (r := r) (tm := false) (z := .slice none 0 0) (stepG_comm (cases := #[rcase C (.slice none 0 0)]) (blocking := false) (shape := .select) (w' := w1) rfl rfl (by decide) (by simp [go_sem, rcase])) hb) ?_
  rw [Frame.finish_at]
  walk_nrm
  refine LoneTo.goes (n := 11) ?_
  s_op
  s_op
  s_c stepG_region_end
  s_c stepG_block
  s_cond false
  s_c stepG_seq
  s_reg
  s_op
  s_op
  s_c stepG_region_end
  s_c stepG_ret'
  s_stop
  exact LoneTo.done ⟨.returned (.tuple #[.slice none 0 0, .int .i64 14]), _, rfl, ⟨rfl, rfl⟩, rfl, rfl, rfl, rfl, _, Try.func20, by simp [results, Try.f20, Frame.at]⟩
end Go.Proofs.Ytknpghemogfenaa
