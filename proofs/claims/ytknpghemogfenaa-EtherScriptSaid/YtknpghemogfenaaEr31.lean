/- Chapter 31: what is an end, what may be so late; whether nobody made it; a call inside a walk of the machine. -/
import Derived.Test.YtknpghemogfenaaB14
import Derived.Conc.LoneSelect
namespace Go.Proofs.Ytknpghemogfenaa
open Go.Conc Go.RowKit
set_option linter.unusedVariables false
/-- In a walk of the machine: a call, by its contract. -/
theorem loneTo_call {P : Program} {Q : Goroutine → World → Prop} {f : FuncId} {args : Array Value} {w : World} {R : Ending → World → Prop} {c : Frame} {cs : List Frame} (h : Calls P f args w R)
    (hR : ∀ e w', R e w' → ∃ v, e = .returned v ∧ LoneTo P Q (G (c.finish v) cs) w') : LoneTo P Q (G (Frame.enter P f args .normal) (c :: cs)) w := by
  obtain ⟨e, w', fr, hr, hcomes, hf, hl⟩ := h (c :: cs)
  obtain ⟨v, rfl, g', w'', hs, hq⟩ := hR e w' hr
  exact ⟨g', w'', Steps.trans hcomes (Steps.head (step_leave_returned hl) hs), hq⟩
/-- .. its entering, as it stands. -/
theorem goes_enterC {P : Program} {main : Bool} {b : Frame} {a : Act} {k : List Item} {cs : List Frame} {w : World} {ops : Array Oper} {i : Nat} {rest : List Nat} {o : Oper} {K : Goroutine → World → Array Event → Prop} {f : FuncId} {fn : Func} {c : Code} {args : Array Operand} {ats : Array TypeId}
    (ho : ops[i]? = some o) (hw : Region.wanted o (yielded ops a.tmps) = true) (hk : b.kind ≠ .early) (hop : o.op = .call { callee := .value (.func f), args, argTypes := ats })
    (hf : P.funcs[f]? = some fn) (hname : (fn.name == "runtime.NumGoroutine") = false) (hb : fn.body = some c)
    (h : K (G (Frame.enter P f (args.map a.eval) .normal) (b.at a (.inRegion ops (i :: rest) :: k) :: cs)) w #[]) :
    (stepG P main (G (b.at a (.inRegion ops (i :: rest) :: k)) cs) w).goes K := by
  have hb' : fn.body.isNone = false := by rw [hb]; rfl
  rw [stepG_enter ho hw hk (run_call_body hop hf hname hb')]
  have : listed P b.fn a o w = #[] := by unfold listed; rw [events_call_body hop hf hname hb']; exact seen_none P _
  rw [this]
  exact h
def isEnd (d : Int) : Bool := d == 0 || d == 1
def isLate (n : Int) : Bool := decide (0 ≤ n) && decide (n ≤ 10000)
theorem end_any {w : World} (d : Int) : Calls Try.prog 33 #[.int .i64 d] w fun e w' => e = .returned (.bool (isEnd d)) ∧ w' = w := by
  by_cases h : d = 0
  · subst h
    go_enter Try.func33, Try.ntmps33
    go_wp2
    go_ret
    exact ⟨rfl, rfl⟩
  · have dd : (d == 0) = false := by simpa using h
    have HE := Lib.hid (show isEnd d = (d == 1) from by unfold isEnd; rw [dd]; rfl)
    clear h
    go_enter Try.func33, Try.ntmps33
    go_wp2
    go_ret
    exact ⟨ret_bool (by rw [HE.out]), rfl⟩
theorem late_any {w : World} (n : Int) : Calls Try.prog 30 #[.int .i64 n] w fun e w' => e = .returned (.bool (isLate n)) ∧ w' = w := by
  by_cases h : 0 ≤ n
  · have d : decide (0 ≤ n) = true := by simpa using h
    have d' : decide (n ≥ 0) = true := by simpa using h
    have HE := Lib.hid (show isLate n = decide (n ≤ 10000) from by unfold isLate; rw [d]; rfl)
    clear h
    go_enter Try.func30, Try.ntmps30
    go_wp2
    go_ret
    exact ⟨ret_bool (by rw [HE.out]), rfl⟩
  · have d : decide (0 ≤ n) = false := by simpa using h
    have d' : decide (n ≥ 0) = false := by simpa using h
    have HE := Lib.hid (show isLate n = false from by unfold isLate; rw [d]; rfl)
    clear h
    go_enter Try.func30, Try.ntmps30
    go_wp2
    go_ret
    exact ⟨ret_bool (by rw [HE.out]), rfl⟩
theorem rend_any {w : World} (d : Int) : Calls Try.prog 41 #[.int .i64 d] w fun e w' => e = .returned (.bool (isEnd d)) ∧ w' = w := by
  by_cases h : d = 0
  · subst h
    go_enter Try.func41, Try.ntmps41
    go_wp2
    go_ret
    exact ⟨rfl, rfl⟩
  · have dd : (d == 0) = false := by simpa using h
    have HE := Lib.hid (show isEnd d = (d == 1) from by unfold isEnd; rw [dd]; rfl)
    clear h
    go_enter Try.func41, Try.ntmps41
    go_wp2
    go_ret
    exact ⟨ret_bool (by rw [HE.out]), rfl⟩
theorem rlate_any {w : World} (n : Int) : Calls Try.prog 40 #[.int .i64 n] w fun e w' => e = .returned (.bool (isLate n)) ∧ w' = w := by
  by_cases h : 0 ≤ n
  · have d : decide (0 ≤ n) = true := by simpa using h
    have d' : decide (n ≥ 0) = true := by simpa using h
    have HE := Lib.hid (show isLate n = decide (n ≤ 10000) from by unfold isLate; rw [d]; rfl)
    clear h
    go_enter Try.func40, Try.ntmps40
    go_wp2
    go_ret
    exact ⟨ret_bool (by rw [HE.out]), rfl⟩
  · have d : decide (0 ≤ n) = false := by simpa using h
    have d' : decide (n ≥ 0) = false := by simpa using h
    have HE := Lib.hid (show isLate n = false from by unfold isLate; rw [d]; rfl)
    clear h
    go_enter Try.func40, Try.ntmps40
    go_wp2
    go_ret
    exact ⟨ret_bool (by rw [HE.out]), rfl⟩
theorem ch_nil (o : Option Nat) (w : World) : (binOp .eql 63 (.chan o) (.chan none)).run Try.prog w = .ok (.bool (o == none)) w := by
  cases o <;> kernel_rfl
theorem enone_made {w : World} {E C : Nat} (hc : w.cell? ⟨E, 5, none⟩ = some (.chan (some C))) : Calls Try.prog 35 #[.pointer (some ⟨E, 0, none⟩)] w fun e w' => e = .returned (.bool false) ∧ w' = w := by
  have hch := fun (o : Option Nat) (w : World) => ch_nil o w
  go_enter Try.func35, Try.ntmps35
  go_wp2
  go_ret
  exact ⟨rfl, rfl⟩
theorem enone_nil {w : World} : Calls Try.prog 35 #[.pointer none] w fun e w' => e = .returned (.bool true) ∧ w' = w := by
  have hch := fun (o : Option Nat) (w : World) => ch_nil o w
  go_enter Try.func35, Try.ntmps35
  go_wp2
  go_ret
  exact ⟨rfl, rfl⟩
theorem enone_zero {w : World} {E : Nat} (hc : w.cell? ⟨E, 5, none⟩ = some (.chan none)) : Calls Try.prog 35 #[.pointer (some ⟨E, 0, none⟩)] w fun e w' => e = .returned (.bool true) ∧ w' = w := by
  have hch := fun (o : Option Nat) (w : World) => ch_nil o w
  go_enter Try.func35, Try.ntmps35
  go_wp2
  go_ret
  exact ⟨rfl, rfl⟩
end Go.Proofs.Ytknpghemogfenaa
