/- Chapter 21: the sum of a block's symbols. -/
import Derived.Test.YtidoembkcaojoaaCl21
namespace Go.Proofs.Ytidoembkcaojoaa
open Go.RowKit
set_option linter.unusedVariables false
theorem run_make_two (w : World) : (Instr.makeSlice 22 (.int .i64 2) (.int .i64 2)).run Try.prog w = .ok (.slice (some ⟨w.heap.size, 0, none⟩) 2 2) (w.alloc (.cells #[.int .u8 0, .int .u8 0] 5)) := by
  obtain ⟨i0, hi0, hz0, hz1, hz2⟩ := info_parts u8_info
  have := run_make (P := Try.prog) w 22 5 i0 (.int .u8 0) Try.underlying22 hi0 hz0 .i64 .i64 2 2 (by omega) (by omega) (by rw [hz2]; omega) (by omega)
  rw [hz1] at this
  have e : madeCells (Value.int .u8 0).cells 2 = #[.int .u8 0, .int .u8 0] := made_one rfl 2
  simpa [e] using this
theorem sumZ_succ (blk : List (List UInt8)) (z : List UInt8) {l : List Int} {j : Nat} (hj : j < l.length) : sumZ blk z (l.take (j + 1)) = xorL (sumZ blk z (l.take j)) (xv blk (gi l j)) := by
  unfold sumZ
  rw [List.take_succ_eq_append_getElem hj, List.foldl_append, gi_get hj]; rfl
set_option maxRecDepth 100000 in
set_option maxHeartbeats 3200000 in
theorem sum_any {w : World} {A B : Option Addr} {k n c c' : Nat} {blk : List (List UInt8)} {l : List Int} (hB : Syms w A k blk) (hb : BlkOk k blk) (hr : Rd w B n (nums l)) (hl : ∀ x ∈ l, 0 ≤ x ∧ x < k) (hk : k ≤ 12) (hn : n ≤ 12) :
    Calls Try.prog 15 #[.slice A k c, .slice B n c'] w fun e w' => ∃ v, e = .returned v ∧ w'.ownsRow w.heap.size 5 1 v 2 (bys (sumB blk l)) ∧ Below w.heap.size w w' := by
  have hln : l.length = n := by have := hr.1; simpa [nums_length] using this
  have hmk := run_make_two
  have hn9 : (n : Int) ≤ 12 := by omega
  have H := Lib.hid (And.intro hB (And.intro hb (And.intro hr (And.intro hl hln))))
  have h0 : (w.alloc (.cells #[.int .u8 0, .int .u8 0] 5)).ownsRow w.heap.size 5 1 (.slice (some ⟨w.heap.size, 0, none⟩) 2 2) 2 (bys (sumZ blk [0, 0] (l.take 0))) := by
    refine own_mkN (cur := [.int .u8 0, .int .u8 0]) ?_ (Nat.le_refl _) (Nat.le_refl _) (by simp [maxLen]) rfl rfl
    exact Bk.newA w 5 #[.int .u8 0, .int .u8 0]
  have H0 := Lib.hid (And.intro h0 (show Below w.heap.size w (w.alloc (.cells #[.int .u8 0, .int .u8 0] 5)) from (Below.refl _ _).alloc (Nat.le_refl _) _))
  clear hB hb hr hl hln h0
  go_enter Try.func15, Try.ntmps15
  go_wp2_with fail
  go_loopw [5, 6] (fun v i wr => ∃ j : Nat, j ≤ n ∧ i = .int .i64 j ∧ wr.ownsRow w.heap.size 5 1 v 2 (bys (sumZ blk [0, 0] (l.take j))) ∧ Below w.heap.size w wr) (fun v i wr => n - (intOf i).toNat)
  case atStart => exact ⟨0, by omega, rfl, H0.out.1, H0.out.2⟩
  case round =>
    clear H0
    obtain ⟨j, hj, rfl, how, hbl⟩ := hrel
    by_cases hlt : j < n
    · have km : (j : Int) < (n : Int) := by omega
      have kd : decide ((j : Int) < (n : Int)) = true := decide_eq_true km
      have kd' : decide (j < n) = true := decide_eq_true hlt
      have j0 : (0 : Int) ≤ (j : Int) := by omega
      have hjl : j < l.length := by rw [H.out.2.2.2.2]; exact hlt
      have hs := sumZ_succ blk [0, 0] hjl
      have hmem : gi l j ∈ l := by rw [gi_get hjl]; exact List.getElem_mem hjl
      have hxr := H.out.2.2.2.1 _ hmem
      obtain ⟨x, hx⟩ : ∃ x : Nat, gi l j = x := ⟨(gi l j).toNat, by omega⟩
      rw [hx] at hs hxr
      obtain ⟨b, off, rfl, _, hcc⟩ := (H.out.2.2.1.below hbl).form (by omega)
      have cx := hcc j _ (nums_gi hjl)
      rw [hx] at cx
      obtain ⟨a, off', B', cc, rfl, _, cb, hrb, hcb, _⟩ := (H.out.1.below hbl).at_ (i := x) (by omega)
      have xk : (x : Int) < (k : Int) := by omega
      have x0 : (0 : Int) ≤ (x : Int) := by omega
      have hl2 : (blk.getD x []).length = 2 := by
        have := H.out.2.1.xv hxr
        unfold xv at this
        rw [Int.toNat_natCast] at this
        exact this
      have hxv : xv blk (x : Int) = blk.getD x [] := by unfold xv; rw [Int.toNat_natCast]
      rw [hl2] at cb hrb hcb
      rw [hxv] at hs
      have hz2 : (sumZ blk [0, 0] (l.take j)).length = 2 := sumZ_len H.out.2.1 _ _ rfl fun y hy => H.out.2.2.2.1 y (List.mem_of_mem_take hy)
      obtain ⟨V, cv, rfl⟩ := own_sl how
      have hq := xor_any (c := cv) (c' := cc) (Rd.of_own how) hrb (by decide) hcb
      have HQ := Lib.hid (And.intro hq (And.intro hs (And.intro hlt (And.intro hbl (And.intro hz2 hl2)))))
      clear hq hs hlt hbl hz2 hl2 hxv hrb hcb hcc hxr hx hmem hjl how hj
      go_wp2_with fail
      refine HQ.out.1.mono ?_
      rintro e w4 ⟨v4, rfl, ho4, hb4⟩
      have e4 : xorV (sumZ blk [0, 0] (l.take j)) (blk.getD x []) = sumZ blk [0, 0] (l.take (j + 1)) := by
        unfold xorV
        rw [if_pos (by rw [HQ.out.2.2.2.2.1, HQ.out.2.2.2.2.2]), HQ.out.2.1]
      have l4 : (xorV (sumZ blk [0, 0] (l.take j)) (blk.getD x [])).length = 2 := by
        unfold xorV
        rw [if_pos (by rw [HQ.out.2.2.2.2.1, HQ.out.2.2.2.2.2]), xorL_length _ _ (by rw [HQ.out.2.2.2.2.1, HQ.out.2.2.2.2.2]), HQ.out.2.2.2.2.1]
      rw [l4, e4] at ho4
      have H4 := Lib.hid (And.intro (own_mono ho4 HQ.out.2.2.2.1.size) (below_base HQ.out.2.2.2.1 hb4 HQ.out.2.2.2.1.size))
      clear ho4 hb4 e4 l4
      go_wp2_with fail
      exact ⟨⟨j + 1, HQ.out.2.2.1, by go_num, H4.out.1, H4.out.2⟩, by have := HQ.out.2.2.1; simp [intOf]; omega⟩
    · obtain rfl : j = n := by omega
      have kd : decide ((j : Int) < (j : Int)) = false := decide_eq_false (by omega)
      have kd' : decide (j < j) = false := decide_eq_false (by omega)
      have HW := Lib.hid (And.intro how hbl)
      clear how hbl hlt hj
      go_wp2_with fail
      go_ret
      refine ⟨_, rfl, ?_, HW.out.2⟩
      have := HW.out.1
      rw [List.take_of_length_le (by rw [H.out.2.2.2.2]; exact Nat.le_refl _)] at this
      exact this
end Go.Proofs.Ytidoembkcaojoaa
