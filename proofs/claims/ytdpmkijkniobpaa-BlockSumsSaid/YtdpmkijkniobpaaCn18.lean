/- Chapter 18: chosen. -/
import Derived.Test.YtdpmkijkniobpaaBa18
namespace Go.Proofs.Ytdpmkijkniobpaa
open Go.RowKit
set_option linter.unusedVariables false
theorem bit_test (b p : Nat) : (((b : Int) / 2 ^ p).tmod 2 == 1) = b.testBit p := by
  rw [Nat.testBit_eq_decide_div_mod_eq]
  have e : ((b : Int) / 2 ^ p).tmod 2 = ((b / 2 ^ p % 2 : Nat) : Int) := by
    rw [show ((2 : Int) ^ p) = ((2 ^ p : Nat) : Int) by simp, ← Int.natCast_ediv, show (2 : Int) = ((2 : Nat) : Int) from rfl, ← Int.ofNat_tmod]
  rw [e]
  by_cases h : b / 2 ^ p % 2 = 1
  · rw [h]; rfl
  · have h0 : b / 2 ^ p % 2 = 0 := by omega
    rw [h0]; rfl
def chs (k b : Nat) : List Int := ((List.range k).filter b.testBit).map fun (i : Nat) => (i : Int)
theorem chs_succ (k b : Nat) : chs (k + 1) b = chs k b ++ (if b.testBit k = true then [(k : Int)] else []) := by
  unfold chs
  rw [List.range_succ, List.filter_append, List.map_append]
  congr 1
  by_cases h : b.testBit k = true
  · rw [List.filter_cons_of_pos h, if_pos h]; rfl
  · rw [List.filter_cons_of_neg h, if_neg h]; rfl
theorem chs_len (k b : Nat) : (chs k b).length ≤ k := by
  unfold chs
  rw [List.length_map]
  exact Nat.le_trans (List.length_filter_le _ _) (by rw [List.length_range]; exact Nat.le_refl _)
set_option maxRecDepth 100000 in
set_option maxHeartbeats 1600000 in
/-- artesianlaw18.chosen -/
theorem chosen_any {w : World} (k : Nat) (hk : k ≤ 30) (b : Nat) (hb : b < 18446744073709551616) :
    Calls Try.prog 30 #[.int .i64 (k : Int), .int .u64 (b : Int)] w fun e w' => ∃ v, e = .returned v ∧ w'.ownsRow w.heap.size 3 1 v (chs k b).length (nums (chs k b)) ∧ Below w.heap.size w w' := by
  go_enter Try.func30, Try.ntmps30
  go_wp2
  go_loopw [5, 6] (fun v i wr => ∃ p : Nat, p ≤ k ∧ i = .int .i64 p ∧ wr.ownsRow w.heap.size 3 1 v (chs p b).length (nums (chs p b)) ∧ Below w.heap.size w wr) (fun v i wr => k - (intOf i).toNat)
  case atStart => exact ⟨0, by omega, rfl, World.ownsRow_nil _ _ _ _, Below.refl _ _⟩
  case round =>
    obtain ⟨p, hp, rfl, how, hbw⟩ := hrel
    by_cases hlt : p < k
    · have km : (p : Int) < (k : Int) := by omega
      have ht := bit_test b p
      have hll := chs_len p b
      have HF := chs_succ p b
      obtain ⟨F, hF⟩ : ∃ F, chs p b = F := ⟨_, rfl⟩
      rw [hF] at how HF hll
      obtain ⟨r, hr⟩ : ∃ r, F.length = r := ⟨_, rfl⟩
      rw [hr] at how hll
      have hw1 : IntKind.u64.wrap (p : Int) = (p : Int) := by rw [IntKind.wrap_u64]; omega
      cases hbit : b.testBit p with
      | true =>
        rw [hbit] at ht HF
        have HW := Lib.hid (And.intro how (And.intro hbw (And.intro hlt (And.intro hr HF))))
        clear hbw hlt hp hF hr hbit HF
        obtain ⟨i0, hi0, hz0, hz1, hz2⟩ := info_parts u3_info
        obtain ⟨Aw, cw, rfl, hvw⟩ := own_form how
        clear hvw how
        go_wp2_with (at_builtin; refine wpList_append_rd _ rfl (.tmp 18) (.tmp 20) _ rfl w.heap.size 3 i0 _ 1 8 Try.underlying33 hi0 hz0 hz1 hz2 rfl (by omega) _ r (nums F) rfl (own_below HW.out.1 ((Below.refl _ _).alloc (Nat.le_refl _) _)) (some ⟨wr.heap.size, 0, none⟩) 1 1 (nums [(p : Int)]) rfl (Rd.lit _ _ _ _ rfl 1 rfl _ rfl) (nums_one _) (by simp only [maxLen]; omega) (by omega) (by have := HW.out.2.1.size; rw [World.size_alloc]; omega) ?_; intro v1 w3 hown1 hg1 hat1; rw [← nums_append] at hown1)
        have hl1 : F.length + 1 = (F ++ [(p : Int)]).length := by simp
        exact ⟨⟨p + 1, by have := HW.out.2.2.1; omega, by go_num, by rw [HW.out.2.2.2.2, if_pos rfl, ← hl1, HW.out.2.2.2.1]; exact hown1, (HW.out.2.1.alloc HW.out.2.1.size _).grown hg1 (by have := HW.out.2.1.size; rw [World.size_alloc]; omega) (fun b e => (HW.out.1.lt b e).1)⟩, by have := HW.out.2.2.1; simp [intOf]; omega⟩
      | false =>
        rw [hbit] at ht HF
        have HW := Lib.hid (And.intro how (And.intro hbw (And.intro hlt (And.intro hr HF))))
        clear hbw hlt hp hF hr hbit HF how
        go_wp2
        exact ⟨⟨p + 1, by have := HW.out.2.2.1; omega, by go_num, by rw [HW.out.2.2.2.2, if_neg (by simp), List.append_nil, HW.out.2.2.2.1]; exact HW.out.1, HW.out.2.1⟩, by have := HW.out.2.2.1; simp [intOf]; omega⟩
    · obtain rfl : p = k := by omega
      have HW := Lib.hid (And.intro how hbw)
      clear how hbw hlt hp
      go_wp2
      go_ret
      exact ⟨_, rfl, HW.out.1, HW.out.2⟩
end Go.Proofs.Ytdpmkijkniobpaa
