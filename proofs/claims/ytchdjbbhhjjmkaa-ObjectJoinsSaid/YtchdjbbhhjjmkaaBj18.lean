/- block: Join; the document's Check, Join. -/
import Derived.Test.YtchdjbbhhjjmkaaBc18
namespace Go.Proofs.Ytchdjbbhhjjmkaa
open Go.RowKit
set_option linter.unusedVariables false
set_option maxRecDepth 100000 in
set_option maxHeartbeats 3200000 in
/-- the document's Check -/
theorem bkrcheck_any {w : World} {A : Option Addr} {n c : Nat} {xss : List (List UInt8)} (h : Syms w A n xss) (hn : n ≤ 5864062014634) :
    Calls Try.prog 47 #[.slice A n c] w fun e w' => e = .returned (.int .i64 (bkE xss)) ∧ Below w.heap.size w w' := by
  have hl := h.len
  have hn' : (n : Int) ≤ 5864062014634 := by omega
  rcases Nat.eq_zero_or_pos n with h0 | h0
  · subst h0
    have HE := Lib.hid (show bkE xss = 2 from by unfold bkE; rw [if_neg]; rw [bkB_iff]; omega)
    clear h hl
    go_enter Try.func47, Try.ntmps47
    go_wp2
    go_ret
    exact ⟨ret_int HE.out.symm, Below.refl _ _⟩
  · obtain ⟨a, off, B, cc, rfl, ha, c0, _, _, hm9⟩ := h.at_ h0
    rw [Nat.add_zero] at c0
    have d0 : decide ((n : Int) < 1) = false := by simp; omega
    have d0' : decide (n < 1) = false := by simp; omega
    obtain ⟨s, hs⟩ : ∃ s, (xss.getD 0 []).length = s := ⟨_, rfl⟩
    rw [hs] at c0 hm9
    have hm9' : (s : Int) ≤ 9223372036854775807 := by omega
    have k0 : 0 < n := h0
    have H := Lib.hid (And.intro h (And.intro hl (And.intro hs (And.intro ha (And.intro c0 h0)))))
    clear h hl hs ha hn h0
    by_cases h2 : 65536 < n
    · have d2 : decide ((n : Int) > 65536) = true := by simp; omega
      have d2' : decide ((65536 : Int) < (n : Int)) = true := by simp; omega
      have d2'' : decide (65536 < n) = true := by simpa using h2
      have HE := Lib.hid (show bkE xss = 2 from by unfold bkE; rw [if_neg]; rw [bkB_iff]; intro h; have := H.out.2.1; omega)
      clear h2 c0
      go_enter Try.func47, Try.ntmps47
      go_wp2
      go_ret
      exact ⟨ret_int HE.out.symm, Below.refl _ _⟩
    · have d2 : decide ((n : Int) > 65536) = false := by simp; omega
      have d2' : decide ((65536 : Int) < (n : Int)) = false := by simp; omega
      have d2'' : decide (65536 < n) = false := by simpa using h2
      by_cases h3 : s < 1
      · have d3 : decide ((s : Int) < 1) = true := by simp; omega
        have d3' : decide (s < 1) = true := by simpa using h3
        have HE := Lib.hid (show bkE xss = 2 from by unfold bkE; rw [if_neg]; rw [bkB_iff]; intro h; have := H.out.2.2.1; omega)
        clear h2 h3
        go_enter Try.func47, Try.ntmps47
        go_wp2
        go_ret
        exact ⟨ret_int HE.out.symm, Below.refl _ _⟩
      · have d3 : decide ((s : Int) < 1) = false := by simp; omega
        have d3' : decide (s < 1) = false := by simpa using h3
        by_cases h4 : 65535 < s
        · have d4 : decide ((s : Int) > 65535) = true := by simp; omega
          have d4' : decide ((65535 : Int) < (s : Int)) = true := by simp; omega
          have d4'' : decide (65535 < s) = true := by simpa using h4
          have HE := Lib.hid (show bkE xss = 2 from by unfold bkE; rw [if_neg]; rw [bkB_iff]; intro h; have := H.out.2.2.1; omega)
          clear h2 h3 h4
          go_enter Try.func47, Try.ntmps47
          go_wp2
          go_ret
          exact ⟨ret_int HE.out.symm, Below.refl _ _⟩
        · have d4 : decide ((s : Int) > 65535) = false := by simp; omega
          have d4' : decide ((65535 : Int) < (s : Int)) = false := by simp; omega
          have d4'' : decide (65535 < s) = false := by simpa using h4
          have HE := Lib.hid (show bkE xss = if (xss.all fun x => x.length == s) then 0 else 2 from by
            unfold bkE bkB
            rw [H.out.2.1, H.out.2.2.1, decide_eq_true (show 1 ≤ n ∧ n ≤ 65536 ∧ 1 ≤ s ∧ s ≤ 65535 by omega)]
            rfl)
          clear h2 h3 h4
          go_enter Try.func47, Try.ntmps47
          go_wp2
          clear c0
          go_loopw [3] (fun i wr => ∃ (q : Nat), q ≤ n ∧ i = .int .i64 q ∧ (xss.take q).all (fun x => x.length == s) = true ∧ Below w.heap.size w wr) (fun i wr => n - (intOf i).toNat)
          case atStart => exact ⟨0, by omega, rfl, by simp, Below.refl _ _⟩
          case round =>
            obtain ⟨q, hq, rfl, hall, hb⟩ := hrel
            have HA := Lib.hid (And.intro hall hb)
            clear hall
            have c0 := (hb.cell (p := ⟨a, off, none⟩) H.out.2.2.2.1).trans H.out.2.2.2.2.1
            by_cases hlt : q < n
            · obtain ⟨a', off', B', cc', e', _, c1, hr1, _, hm⟩ := H.out.1.at_ hlt
              injection e' with e'; injection e' with e1 e2
              subst e1; subst e2
              have c1 := (hb.cell (p := ⟨a, off + q, none⟩) H.out.2.2.2.1).trans c1
              have hx : q < xss.length := by rw [H.out.2.1]; exact hlt
              have hge := getD_at hx
              have km : (q : Int) < (n : Int) := by omega
              obtain ⟨m, hm'⟩ : ∃ m, (xss.getD q []).length = m := ⟨_, rfl⟩
              rw [hm'] at c1 hm
              have HL := Lib.hid (And.intro hlt (And.intro hx (show xss[q].length = m by rw [← hge, hm'])))
              clear hr1 hge hm' hlt hq hb
              by_cases he : m = s
              · subst he
                clear hm
                go_wp2_with fail
                go_quiet (fail)
                go_wp2
                exact ⟨⟨q + 1, by have := HL.out.1; omega, by go_num, by rw [List.take_succ_eq_append_getElem HL.out.2.1, List.all_append, HA.out.1]; simp [HL.out.2.2], below_dN HA.out.2 _⟩, by have := HL.out.1; simp [intOf]; omega⟩
              · have hd : ((m : Int) != (s : Int)) = true := by simp; omega
                have HX := Lib.hid (show (xss.all fun x => x.length == s) = false from by
                  rw [List.all_eq_false]
                  exact ⟨xss[q]'HL.out.2.1, List.getElem_mem _, by rw [HL.out.2.2]; simpa using he⟩)
                clear he hm
                go_wp2_with fail
                go_quiet (fail)
                go_wp2
                go_ret
                exact ⟨ret_int (by rw [HE.out, HX.out]; rfl), below_dN HA.out.2 _⟩
            · obtain rfl : q = n := by omega
              have HT := Lib.hid (show (xss.all fun x => x.length == s) = true from by have := HA.out.1; rwa [List.take_of_length_le (by rw [H.out.2.1]; exact Nat.le_refl _)] at this)
              clear hlt hq hb
              go_wp2
              go_ret
              exact ⟨ret_int (by rw [HE.out, HT.out]; rfl), HA.out.2⟩
/-- slices.Grow of nothing -/
theorem grow_any {w : World} (n : Nat) (hn : n ≤ 70368744177664) :
    Calls Try.prog 66 #[.slice none 0 0, .int .i64 (n : Int)] w fun e w' => ∃ v, e = .returned v ∧ w'.ownsRow w.heap.size 5 1 v 0 [] ∧ Below w.heap.size w w' := by
  have hd : decide ((n : Int) < 0) = false := by simp
  rcases Nat.eq_zero_or_pos n with h0 | h0
  · subst h0
    go_enter Try.func66, Try.ntmps66
    go_wp2
    go_ret
    exact ⟨_, rfl, World.ownsRow_nil _ _ _ _, Below.refl _ _⟩
  · have hd2 : decide ((n : Int) > 0) = true := by simp; omega
    have hd3 : decide ((0 : Int) < (n : Int)) = true := by simp; omega
    have hd4 : decide (0 < n) = true := by simpa using h0
    obtain ⟨i0, hi0, hz0, hz1, hz2⟩ := info_parts u8_info
    obtain ⟨v2, w2, hrun, hown2, hg2⟩ := run_append_zeros_own (P := Try.prog) w w.heap.size 32 3 32 5 i0 (.int .u8 0) .i64 .i64 Try.underlying32 Try.underlying3 hi0 hz0 hz1 rfl rfl hz2 (.slice none 0 0) 0 [] (World.ownsRow_nil _ _ _ _) n (by omega) (Nat.le_refl _)
    rw [Nat.zero_add] at hown2
    obtain ⟨A2, c2, rfl, hnc, _⟩ := own_form hown2
    have H := Lib.hid (And.intro hrun (And.intro hown2 (below_of_grownN hg2)))
    clear hrun hown2 hg2 h0
    go_enter Try.func66, Try.ntmps66
    go_wp2_with (at_builtin; refine Lib.wpList_append_run _ rfl (.tmp 20) (.tmp 21) _ _ rfl _ _ rfl rfl _ w2 H.out.1 ?_)
    go_ret
    exact ⟨_, rfl, by have := own_cut H.out.2.1 (Nat.zero_le _); rwa [List.take_zero] at this, H.out.2.2⟩
end Go.Proofs.Ytchdjbbhhjjmkaa
