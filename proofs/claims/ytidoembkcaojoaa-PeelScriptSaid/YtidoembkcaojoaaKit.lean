/- Functions of artesiankit and of Go's library that several chapters share: what each comes to. -/
import Derived.Test.YtidoembkcaojoaaRows
import Derived.Test.YtidoembkcaojoaaBase
namespace Go.Proofs.Ytidoembkcaojoaa
open Go.RowKit
set_option linter.unusedVariables false
theorem u8_info : (Try.prog.info? 5).map (fun i => (i.zero, i.size, i.bytes)) = some (some (.int .u8 0), 1, 1) := by kernel_rfl
theorem u8_size : (Try.prog.info? 5).map (·.size) = some 1 := by kernel_rfl
/-- artesiankit.SameBytes -/
theorem same_any {w : World} {A A' : Option Addr} {n n' c c' : Nat} {l l' : List UInt8} (h : Rd w A n (bys l)) (h' : Rd w A' n' (bys l')) :
    Calls Try.prog 23 #[.slice A n c, .slice A' n' c'] w fun e w' => e = .returned (.bool (l == l')) ∧ w = w' := by
  have h1 := run_bytes_text (P := Try.prog) (c := c) h 22 5 9 Try.underlying22 Try.underlying5 Try.underlying9
  have h2 := run_bytes_text (P := Try.prog) (c := c') h' 22 5 9 Try.underlying22 Try.underlying5 Try.underlying9
  go_enter Try.func23, Try.ntmps23
  go_wp2
  go_ret
  exact ⟨rfl, rfl⟩
theorem same_true {w : World} {A A' : Option Addr} {n n' c c' : Nat} {l : List UInt8} (h : Rd w A n (bys l)) (h' : Rd w A' n' (bys l)) :
    Calls Try.prog 23 #[.slice A n c, .slice A' n' c'] w fun e w' => e = .returned (.bool true) ∧ w = w' :=
  (same_any h h').mono fun e w' ⟨h1, h2⟩ => ⟨by rw [h1]; simp, h2⟩
theorem copy_any {w : World} {A : Option Addr} {n c : Nat} {l : List UInt8} (h : Rd w A n (bys l)) (hn : n ≤ 140737488351232) :
    Calls Try.prog 17 #[.slice A n c] w fun e w' => ∃ v, e = .returned v ∧ w'.ownsRow w.heap.size 5 1 v n (bys l) ∧ Below w.heap.size w w' := by
  obtain ⟨i0, hi0, hz0, hz1, hz2⟩ := info_parts u8_info
  go_enter Try.func17, Try.ntmps17
  go_wp2_with (at_builtin; refine wpList_append_rd _ rfl (.tmp 3) (.tmp 4) _ rfl w.heap.size 5 i0 _ 1 1 Try.underlying22 hi0 hz0 hz1 hz2 rfl (by omega) _ 0 [] rfl (own_new0 w _ _ (Nat.le_refl _)) A n c (bys l) rfl (by simpa using h.alloc _) (bys_one l) (by simp only [maxLen]; omega) (by omega) (by simp) ?_; intro v1 w1 hown1 hg1 hat1)
  go_ret
  refine ⟨v1, rfl, by simpa using hown1, ((Below.refl _ _).alloc (Nat.le_refl _) _).grown hg1 (by simp) (fun k hk => ((own_new0 w 5 _ (Nat.le_refl _)).lt k hk).1)⟩
/-- slices.Clone -/
theorem clone_any {w : World} {A : Option Addr} {n c : Nat} {l : List UInt8} (h : Rd w A n (bys l)) (hn : n ≤ 140737488351232) :
    Calls Try.prog 42 #[.slice A n c] w fun e w' => ∃ v, e = .returned v ∧ w'.ownsRow w.heap.size 5 1 v n (bys l) ∧ Below w.heap.size w w' := by
  obtain ⟨i0, hi0, hz0, hz1, hz2⟩ := info_parts u8_info
  have hnil := Lib.run_eql_slice_nil (P := Try.prog) w 22 5 A n c 0 0 Try.underlying22
  rcases A with _ | a
  · have h0 : n = 0 := by
      rcases Nat.eq_zero_or_pos n with h0 | h0
      · exact h0
      · obtain ⟨b, off, e, _⟩ := h.form h0; cases e
    subst h0
    have hl : l = [] := List.eq_nil_of_length_eq_zero (by have := h.1; simpa [bys_length] using this)
    subst hl
    go_enter Try.func42, Try.ntmps42
    go_wp2
    go_ret
    exact ⟨_, rfl, World.ownsRow_nil _ _ _ _, Below.refl _ _⟩
  · go_enter Try.func42, Try.ntmps42
    go_wp2_with (at_builtin; refine wpList_append_rd _ rfl (.tmp 5) (.tmp 6) _ rfl w.heap.size 5 i0 _ 1 1 Try.underlying22 hi0 hz0 hz1 hz2 rfl (by omega) _ 0 [] rfl (own_new0 w _ _ (Nat.le_refl _)) (some a) n c (bys l) rfl (by simpa using h.alloc _) (bys_one l) (by simp only [maxLen]; omega) (by omega) (by simp) ?_; intro v1 w1 hown1 hg1 hat1)
    go_ret
    exact ⟨v1, rfl, by simpa using hown1, ((Below.refl _ _).alloc (Nat.le_refl _) _).grown hg1 (by simp) (fun k hk => ((own_new0 w 5 _ (Nat.le_refl _)).lt k hk).1)⟩

/-- artesiankit.OverBytes writes over bytes in place. -/
theorem bys_set_ (l : List UInt8) (k : Nat) (x : UInt8) : (bys l).set k (.int .u8 (x.toNat : Int)) = bys (l.set k x) := by simp [bys, List.map_set]
def over (l : List UInt8) : List UInt8 := l.map (· ^^^ 165)
theorem over_length (l : List UInt8) : (over l).length = l.length := by simp [over]
theorem over_take_succ {l : List UInt8} {k : Nat} (h : k < l.length) : over (l.take (k + 1)) = over (l.take k) ++ [l[k] ^^^ 165] := by
  rw [List.take_succ_eq_append_getElem h]; unfold over; rw [List.map_append]; rfl
theorem xor_165 (x : UInt8) : bits .xor .u8 (x.toNat : Int) 165 = ((x ^^^ 165).toNat : Int) := by
  have := u8_xor_nat x.toNat 165 x.toNat_lt (by omega)
  rw [UInt8.toNat_xor]; exact this
theorem over_any {w : World} {g off n c : Nat} {A : Option Addr} {l : List UInt8} (hm : Mut w A n g off (bys l)) (hn : n ≤ 140737488351232) :
    Calls Try.prog 33 #[.slice A n c] w fun e w' => e = .returned (.tuple #[]) ∧ Upd w w' g off (bys (over l)) := by
  have hl : l.length = n := by have := hm.1; simpa [bys_length] using this
  have HL := Lib.hid hl
  clear hl
  go_enter Try.func33, Try.ntmps33
  go_wp2
  go_loopw [2] (fun i wi => ∃ k : Nat, k ≤ n ∧ i = .int .i64 k ∧ Upd w wi g off (bys (over (l.take k)))) (fun i wi => n - (intOf i).toNat)
  case atStart => exact ⟨0, by omega, rfl, by rw [List.take_zero]; exact Upd.none_ (Below.refl _ _)⟩
  case round =>
    obtain ⟨k, hk, rfl, hui⟩ := hrel
    by_cases hlt : k < n
    · have hkX : k < l.length := by rw [HL.out]; exact hlt
      obtain ⟨rfl, t, cur, hbk, hfit, hcx⟩ := hm.2 (by omega)
      have hkl : (bys (over (l.take k))).length = k := by simp [bys, over]; omega
      have hfk : off + (bys (over (l.take k))).length ≤ cur.length := by omega
      have hbi := hui.2 _ _ hbk hfk
      have cx := hbi.cell (off + k)
      rw [spl_getElem? hfk, if_neg (by omega), ← List.getElem?_drop, ← List.getElem?_take_of_lt (j := n) (by omega), hcx, bys_get l k hkX] at cx
      have fx := hbi.frozen (off + k)
      have HS := Lib.hid (over_take_succ hkX)
      have k0 : (0 : Int) ≤ (k : Int) := by omega
      have km : (k : Int) < (n : Int) := by omega
      have lx : (l[k].toNat : Int) < 256 := by have := l[k].toNat_lt; omega
      have HB := Lib.hid (And.intro hui (And.intro hkl hfk))
      clear hui hkl hbi hbk hcx hm hfk
      go_wp2
      rw [xor_165]
      refine ⟨⟨k + 1, by omega, by go_num, ?_⟩, by simp [intOf]; omega⟩
      rw [HS.out, bys_append]
      refine (HB.out.1.append ?_)
      rw [HB.out.2.1]
      exact Upd.cell _ _ _ _
    · obtain rfl : k = n := by omega
      clear hm
      go_wp2
      go_end0
      refine ⟨rfl, ?_⟩
      rw [List.take_of_length_le (by rw [HL.out]; exact Nat.le_refl _)] at hui
      exact hui
/-- artesiankit.Pick tells one of the numbers from 0 on below n. -/
def pick (x n : Int) : Int := if n ≤ 0 then 0 else x % n
theorem pick_nonneg {x n : Int} (hn : 0 < n) (h : 0 ≤ x.tmod n) : x.tmod n = x % n := by
  have h1 : x.tmod n < n := Int.tmod_lt_of_pos x hn
  have h2 := Int.tmod_add_mul_tdiv x n
  have h4 : x.tmod n % n = x.tmod n := Int.emod_eq_of_lt h h1
  rw [← h4]
  have : x = x.tmod n + n * x.tdiv n := h2.symm
  conv => rhs; rw [this]
  simp
theorem pick_neg {x n : Int} (hn : 0 < n) (h : x.tmod n < 0) : x.tmod n + n = x % n := by
  have h1 : -n < x.tmod n := Int.lt_tmod_of_pos x hn
  have h2 := Int.tmod_add_mul_tdiv x n
  have h4 : (x.tmod n + n) % n = x.tmod n + n := Int.emod_eq_of_lt (by omega) (by omega)
  rw [← h4]
  have : x = x.tmod n + n * x.tdiv n := h2.symm
  conv => rhs; rw [this]
  simp
theorem pick_any {w : World} (x n : Int) (hx : (Lit.int .i64 x).wf = true) (hn0 : 0 < n) (hn1 : n ≤ 1000000) :
    Calls Try.prog 11 #[.int .i64 x, .int .i64 n] w fun e w' => e = .returned (.int .i64 (x % n)) ∧ w = w' := by
  have hb := bounds_i64 hx
  have hnz : ¬ n = 0 := by omega
  have h1 : x.tmod n < n := Int.tmod_lt_of_pos x hn0
  have h2 : -n < x.tmod n := Int.lt_tmod_of_pos x hn0
  by_cases hneg : 0 ≤ x.tmod n
  · have HP := Lib.hid (pick_nonneg hn0 hneg)
    have hlt : decide (x.tmod n < 0) = false := by simp; omega
    clear hx
    go_enter Try.func11, Try.ntmps11
    go_wp2
    go_ret
    exact ⟨ret_int HP.out, rfl⟩
  · have hneg' : x.tmod n < 0 := by omega
    have HP := Lib.hid (pick_neg hn0 hneg')
    have hlt : decide (x.tmod n < 0) = true := by simpa using hneg'
    clear hneg
    go_enter Try.func11, Try.ntmps11
    go_wp2
    go_ret
    exact ⟨ret_int HP.out, rfl⟩
end Go.Proofs.Ytidoembkcaojoaa
