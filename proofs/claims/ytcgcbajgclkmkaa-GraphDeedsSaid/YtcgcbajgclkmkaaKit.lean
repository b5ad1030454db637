/- Functions of artesiankit and of Go's library that several chapters share: what each comes to. -/
import Derived.Test.YtcgcbajgclkmkaaRows
import Derived.Test.YtcgcbajgclkmkaaBase
namespace Go.Proofs.Ytcgcbajgclkmkaa
open Go.RowKit
set_option linter.unusedVariables false
theorem u8_info : (Try.prog.info? 5).map (fun i => (i.zero, i.size, i.bytes)) = some (some (.int .u8 0), 1, 1) := by kernel_rfl
theorem u8_size : (Try.prog.info? 5).map (·.size) = some 1 := by kernel_rfl
/-- artesiankit.Pick tells one of the numbers from 0 on below n. -/
def pick (x n : Int) : Int := if n ≤ 0 then 0 else x % n
theorem pick_nonneg {x n : Int} (hn : 0 < n) (h : 0 ≤ x.tmod n) : x.tmod n = x % n := by
  have h1 : x.tmod n < n := Int.tmod_lt_of_pos x hn
  have h2 := Int.tmod_add_mul_tdiv x n
  have h4 : x.tmod n % n = x.tmod n := Int.emod_eq_of_lt h h1
  rw [← h4]
  have : x = x.tmod n + n * x.tdiv n := h2.symm
  conv => rhs; rw [this]
  simp
theorem pick_neg {x n : Int} (hn : 0 < n) (h : x.tmod n < 0) : x.tmod n + n = x % n := by
  have h1 : -n < x.tmod n := Int.lt_tmod_of_pos x hn
  have h2 := Int.tmod_add_mul_tdiv x n
  have h4 : (x.tmod n + n) % n = x.tmod n + n := Int.emod_eq_of_lt (by omega) (by omega)
  rw [← h4]
  have : x = x.tmod n + n * x.tdiv n := h2.symm
  conv => rhs; rw [this]
  simp
theorem pick_any {w : World} (x n : Int) (hx : (Lit.int .i64 x).wf = true) (hn0 : 0 < n) (hn1 : n ≤ 1000000) :
    Calls Try.prog 16 #[.int .i64 x, .int .i64 n] w fun e w' => e = .returned (.int .i64 (x % n)) ∧ w = w' := by
  have hb := bounds_i64 hx
  have hnz : ¬ n = 0 := by omega
  have h1 : x.tmod n < n := Int.tmod_lt_of_pos x hn0
  have h2 : -n < x.tmod n := Int.lt_tmod_of_pos x hn0
  by_cases hneg : 0 ≤ x.tmod n
  · have HP := Lib.hid (pick_nonneg hn0 hneg)
    have hlt : decide (x.tmod n < 0) = false := by simp; omega
    clear hx
    go_enter Try.func16, Try.ntmps16
    go_wp2
    go_ret
    exact ⟨ret_int HP.out, rfl⟩
  · have hneg' : x.tmod n < 0 := by omega
    have HP := Lib.hid (pick_neg hn0 hneg')
    have hlt : decide (x.tmod n < 0) = true := by simpa using hneg'
    clear hneg
    go_enter Try.func16, Try.ntmps16
    go_wp2
    go_ret
    exact ⟨ret_int HP.out, rfl⟩
end Go.Proofs.Ytcgcbajgclkmkaa
