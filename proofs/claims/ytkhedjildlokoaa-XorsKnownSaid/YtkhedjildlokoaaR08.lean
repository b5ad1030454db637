/- The document's answers for chapter 8, and the helpers of its statements. -/
import Derived.Test.YtkhedjildlokoaaX08
namespace Go.Proofs.Ytkhedjildlokoaa
open Go.RowKit
set_option linter.unusedVariables false
set_option maxHeartbeats 400000 in
theorem refXor_any {w : World} {n c n' c' : Nat} {A A' : Option Addr} {xs ys : List UInt8} (hx : Rd w A n (bys xs)) (hy : Rd w A' n' (bys ys)) (hn : n ≤ 140737488351232) :
    Calls Try.prog 18 #[.slice A n c, .slice A' n' c'] w (Told w (xorV xs ys) (xorE xs ys)) := by
  have hlx : xs.length = n := by have := hx.1; simpa [bys_length] using this
  have hly : ys.length = n' := by have := hy.1; simpa [bys_length] using this
  have HL := Lib.hid (And.intro hlx hly)
  clear hlx hly
  by_cases hne : n = n'
  · subst hne
    have hd : ((n : Int) != (n : Int)) = false := by simp
    obtain ⟨i0, hi0, hz0, hz1, hz2⟩ := info_parts u8_info
    go_enter Try.func18, Try.ntmps18
    go_wp2
    go_loopw [6, 7] (fun v i wr => ∃ k : Nat, k ≤ n ∧ i = .int .i64 k ∧ wr.ownsRow w.heap.size 5 1 v k (bys (xorL (xs.take k) (ys.take k))) ∧ Below w.heap.size w wr) (fun v i wr => n - (intOf i).toNat)
    case atStart => exact ⟨0, by omega, rfl, World.ownsRow_nil _ _ _ _, Below.refl _ _⟩
    case round =>
      obtain ⟨k, hk, rfl, hown, hb⟩ := hrel
      by_cases hlt : k < n
      · have hkX : k < xs.length := by have := HL.out; omega
        have hkY : k < ys.length := by have := HL.out; omega
        obtain ⟨b1, o1, rfl, hb1, hc1⟩ := hx.form (by omega)
        obtain ⟨b2, o2, rfl, hb2, hc2⟩ := hy.form (by omega)
        have hc1 := hc1 k _ (bys_get xs k hkX)
        have hc2 := hc2 k _ (bys_get ys k hkY)
        have cx := (hb.cell (p := ⟨b1, o1 + k, none⟩) hb1).trans hc1
        have cy := (hb.cell (p := ⟨b2, o2 + k, none⟩) hb2).trans hc2
        have HS := Lib.hid (xorL_take_succ hkX hkY)
        have k0 : (0 : Int) ≤ (k : Int) := by omega
        have kn : (k : Int) < (n : Int) := by omega
        have lx := byte_lt xs[k]
        have ly := byte_lt ys[k]
        have HF := Lib.hid (And.intro hx (And.intro hy (And.intro hown (And.intro hc1 hc2))))
        clear hc1 hc2 hx hy hown
        go_wp2_with fail
        go_region_held3 (fun w' => w'.cell? ⟨b1, o1 + k, none⟩ = some (.int .u8 (xs[k].toNat : Int)) ∧ w'.cell? ⟨b2, o2 + k, none⟩ = some (.int .u8 (ys[k].toNat : Int)))
          (first | go_keep | exact ⟨(hbw1.cell (p := ⟨b1, o1 + k, none⟩) hb1).trans HF.out.2.2.2.1, (hbw1.cell (p := ⟨b2, o2 + k, none⟩) hb2).trans HF.out.2.2.2.2⟩)
          ((refine step_append_rd (by rfl) (.tmp 19) (.tmp 29) _ (by rfl) w.heap.size 5 i0 _ 1 1 Try.underlying23 hi0 hz0 hz1 hz2 rfl (by omega) _ k _ (by rfl) (HF.out.2.2.1.drew.alloc _) _ 1 1 _ (by rfl) (Rd.one _ _ _) (by simp [Value.oneCell']) (by simp only [maxLen]; omega) (by omega) (by simp; have := hb.size; omega) ?_; intro v1 w1 hown1 hg1 hat1; have hbw1 := (hb.drew.alloc hb.size _).grown hg1 (by simp; have := hb.size; omega) (fun j hj => (HF.out.2.2.1.lt j hj).1)))
        go_wp2
        rw [xor_u8] at hown1
        refine ⟨⟨k + 1, by omega, by go_num, ?_, hbw1⟩, by simp [intOf]; omega⟩
        rw [HS.out, bys_append]
        exact hown1
      · obtain rfl : k = n := by omega
        have HF := Lib.hid (And.intro hx hy)
        clear hx hy
        go_wp2
        go_ret2
        refine ⟨_, ret_told (show (0 : Int) = xorE xs ys from by unfold xorE; rw [if_pos (by have := HL.out; omega)]), ?_, hb⟩
        have e1 : xs.take k = xs := List.take_of_length_le (by have := HL.out; omega)
        have e2 : ys.take k = ys := List.take_of_length_le (by have := HL.out; omega)
        rw [show xorV xs ys = xorL xs ys from by unfold xorV; rw [if_pos (by have := HL.out; omega)], xorL_length _ _ (by have := HL.out; omega), HL.out.1]
        rw [e1, e2] at hown
        exact hown
  · have hd : ((n : Int) != (n' : Int)) = true := by simp; omega
    go_enter Try.func18, Try.ntmps18
    go_wp2
    go_ret2
    refine ⟨_, ret_told (show (2 : Int) = xorE xs ys from by unfold xorE; rw [if_neg (by have := HL.out; omega)]), ?_, Below.refl _ _⟩
    rw [show xorV xs ys = [] from by unfold xorV; rw [if_neg (by have := HL.out; omega)]]
    exact World.ownsRow_nil _ _ _ _

theorem refAll_any {w : World} {n : Int} {L : Option Addr} {m c : Nat} {vs : List Value} {xss : List (List UInt8)} (hL : Rd w L m vs) (hR : Rows_ w vs xss) (hm : m ≤ 140737488351232) :
    Calls Try.prog 12 #[.int .i64 n, .slice L m c] w (Told w (allV n xss) (allE n xss)) := by
  by_cases hs : 0 ≤ n ∧ n ≤ 65535
  · obtain ⟨N, rfl⟩ := Int.eq_ofNat_of_zero_le hs.1
    have hN : N ≤ 65535 := by omega
    have hd1 : decide ((N : Int) < 0) = false := by simp
    have hd2 : decide ((65535 : Int) < (N : Int)) = false := by simp; omega
    have HV : Hid (allV N xss = (if xss.all (·.length == N) then sumL N xss else []) ∧ allE N xss = if xss.all (·.length == N) then 0 else 2) := by
      constructor
      · unfold allV; rw [if_pos hs]; rfl
      · unfold allE; rw [if_pos hs]; rfl
    have HM : Hid (m = xss.length) := by have := hL.1; have := hR.1; unfold Hid; omega
    obtain ⟨i0, hi0, hz0, hz1, hz2⟩ := info_parts u8_info
    go_enter Try.func12, Try.ntmps12
    go_wp2_with (at_make; refine wpList_make_full _ rfl _ _ 23 rfl w.heap.size 5 i0 (.int .u8 0) 1 Try.underlying23 hi0 hz0 hz1 .i64 .i64 _ _ N rfl rfl rfl rfl (by rw [hz2]; omega) (by simp only [maxLen]; omega) (Nat.le_refl _) ?_; intro w1 hown hg)
    have hown0 : w1.ownsRow w.heap.size 5 1 (.slice (some ⟨w.heap.size, 0, none⟩) N N) N (bys (sumL N (xss.take 0))) := by
      rw [zeros_bys] at hown
      exact hown
    have hb1 : Below w.heap.size w w1 := below_of_grownN hg
    clear hown hg
    go_loopw [6, 7] (fun v i wr => ∃ k : Nat, k ≤ m ∧ i = .int .i64 k ∧ Hid ((xss.take k).all (·.length == N) = true) ∧ wr.ownsRow w.heap.size 5 1 v N (bys (sumL N (xss.take k))) ∧ Below w.heap.size w wr) (fun v i wr => m - (intOf i).toNat)
    case atStart => exact ⟨0, by omega, rfl, by unfold Hid; simp, hown0, hb1⟩
    case round =>
      clear hown0 hb1
      obtain ⟨k, hk, rfl, HA, hown, hb⟩ := hrel
      by_cases hlt : k < m
      · have hkx : k < xss.length := by rw [← HM.out]; exact hlt
        obtain ⟨A', c', ev, hcr, hll, hrd⟩ := hR.at_ hkx
        obtain ⟨b, off, rfl, hbl, hc⟩ := hL.form (by omega)
        have hc' := (hb.cell (p := ⟨b, off + k, none⟩) hbl).trans (hc k _ ev)
        have HS := Lib.hid (all_take_succ hkx (fun x => x.length == N))
        have HT := Lib.hid (sumL_take_succ (n := N) hkx)
        clear hc
        have HF := Lib.hid (And.intro hL hR)
        clear hL hR ev
        obtain ⟨A1, c1, rfl, hc1, _, _, _⟩ := own_form hown
        have hrd1 := hrd.below hb
        have H := Lib.hid (refXor_any (c := c1) (c' := c') (Rd.of_own hown) hrd1 (by omega))
        clear hrd hrd1
        have HO := Lib.hid hown
        clear hown
        by_cases hlen : xss[k].length = N
        · have hE : xorE (sumL N (xss.take k)) xss[k] = 0 := by unfold xorE; rw [sumL_length HA.out, if_pos hlen.symm]
          have hV : xorV (sumL N (xss.take k)) xss[k] = sumL N (xss.take (k + 1)) := by unfold xorV; rw [sumL_length HA.out, if_pos hlen.symm, HT.out]
          have hX := H.out
          rw [hE, hV] at hX
          clear H
          have H := Lib.hid hX
          clear hX hE hV
          have HL := Lib.hid hlen
          clear hlen
          go_wp2_with (go_at_call 18; refine H.out.mono ?_; rintro e w2 ⟨v2, rfl, ho2, hb2⟩; have HU := Lib.hid (And.intro ho2 hb2); clear ho2 hb2)
          have hall := HS.out
          rw [HA.out, HL.out] at hall
          simp only [Bool.true_and, beq_self_eq_true] at hall
          have hown2 := own_mono HU.out.1 hb.size
          rw [sumL_length hall] at hown2
          exact ⟨⟨k + 1, by omega, by go_num, hall, hown2, below_base hb HU.out.2 hb.size⟩, by simp [intOf]; omega⟩
        · have hE : xorE (sumL N (xss.take k)) xss[k] = 2 := by unfold xorE; rw [sumL_length HA.out, if_neg (Ne.symm hlen)]
          have hX := H.out
          rw [hE] at hX
          clear H
          have H := Lib.hid hX
          clear hX hE
          go_wp2_with (go_at_call 18; refine H.out.mono ?_; rintro e w2 ⟨v2, rfl, ho2, hb2⟩; have HU := Lib.hid (And.intro ho2 hb2); clear ho2 hb2)
          go_ret2
          have hall : xss.all (·.length == N) = false := all_of_take hkx _ (by simpa using hlen)
          refine ⟨_, ret_told (show (2 : Int) = allE N xss from by rw [HV.out.2, hall]; simp), ?_, below_base hb HU.out.2 hb.size⟩
          rw [HV.out.1, hall]
          exact World.ownsRow_nil _ _ _ _
      · obtain rfl : k = m := by omega
        have HF := Lib.hid (And.intro hL hR)
        clear hL hR
        have HO := Lib.hid hown
        clear hown
        have e1 : xss.take k = xss := List.take_of_length_le (by rw [HM.out]; exact Nat.le_refl _)
        have hall := HA.out
        rw [e1] at hall
        have hown := HO.out
        rw [e1] at hown
        have HO' := Lib.hid (And.intro hall hown)
        clear hall hown e1
        by_cases hz : N = 0
        · subst hz
          go_wp2
          go_ret2
          refine ⟨_, ret_told (show (0 : Int) = allE ((0 : Nat) : Int) xss from by rw [HV.out.2, HO'.out.1]; simp), ?_, hb⟩
          rw [HV.out.1, HO'.out.1, if_pos rfl, show sumL 0 xss = [] from List.eq_nil_of_length_eq_zero (sumL_length HO'.out.1)]
          exact World.ownsRow_nil _ _ _ _
        · have hz' : ((N : Int) == 0) = false := by simp; omega
          go_wp2
          go_ret2
          refine ⟨_, ret_told (show (0 : Int) = allE N xss from by rw [HV.out.2, HO'.out.1]; simp), ?_, hb⟩
          rw [HV.out.1, HO'.out.1, if_pos rfl, sumL_length HO'.out.1]
          exact HO'.out.2
  · have hV : allV n xss = [] := by unfold allV; rw [if_neg hs]
    have hE : allE n xss = 3 := by unfold allE; rw [if_neg hs]
    rw [hV, hE]
    clear hV hE
    by_cases h0 : n < 0
    · have hd : decide (n < 0) = true := by simpa using h0
      go_enter Try.func12, Try.ntmps12
      go_wp2
      go_ret2
      exact ⟨_, rfl, World.ownsRow_nil _ _ _ _, Below.refl _ _⟩
    · have hd : decide (n < 0) = false := by simpa using h0
      have hd2 : decide (65535 < n) = true := by simp; omega
      go_enter Try.func12, Try.ntmps12
      go_wp2
      go_ret2
      exact ⟨_, rfl, World.ownsRow_nil _ _ _ _, Below.refl _ _⟩
theorem refPad_any {w : World} {A : Option Addr} {m c : Nat} {l : List UInt8} (h : Rd w A m (bys l)) (hm : m ≤ 35184372088832) (n : Int) :
    Calls Try.prog 14 #[.slice A m c, .int .i64 n] w (Told w (padV l n) (padE l n)) := by
  have hl : l.length = m := by have := h.1; simpa [bys_length] using this
  have HL := Lib.hid hl
  clear hl
  by_cases hs : 0 ≤ n ∧ n ≤ 65535
  · obtain ⟨N, rfl⟩ := Int.eq_ofNat_of_zero_le hs.1
    have hN : N ≤ 65535 := by omega
    have hd1 : decide ((N : Int) < 0) = false := by simp
    have hd2 : decide ((65535 : Int) < (N : Int)) = false := by simp; omega
    obtain ⟨i0, hi0, hz0, hz1, hz2⟩ := info_parts u8_info
    have HH := Lib.hid h
    clear h
    by_cases hlt : N < m
    · have hV : padV l N = [] := by unfold padV; rw [if_pos hs, if_neg (by have := HL.out; omega)]
      have hE : padE l N = 4 := by unfold padE; rw [if_pos hs, if_neg (by have := HL.out; omega)]
      rw [hV, hE]
      clear hV hE
      go_enter Try.func14, Try.ntmps14
      go_wp2
      go_ret2
      exact ⟨_, rfl, World.ownsRow_nil _ _ _ _, Below.refl _ _⟩
    · have hV : padV l N = l ++ List.replicate (N - m) 0 := by unfold padV; rw [if_pos hs, if_pos (by have := HL.out; omega), HL.out]; rfl
      have hE : padE l N = 0 := by unfold padE; rw [if_pos hs, if_pos (by have := HL.out; omega)]
      rw [hV, hE]
      clear hV hE
      obtain ⟨r, hr⟩ : ∃ r, N = m + r := ⟨N - m, by omega⟩
      subst hr
      have hsub : (m : Int) + (r : Int) - (m : Int) = (r : Int) := by omega
      rw [Nat.add_sub_cancel_left]
      go_enter Try.func14, Try.ntmps14
      go_wp2_with (first
        | (at_builtin; refine wpList_append_rd _ rfl (.tmp 16) (.tmp 17) _ rfl w.heap.size 5 i0 _ 1 1 Try.underlying23 hi0 hz0 hz1 hz2 rfl (by omega) _ 0 [] rfl (own_new0 w _ _ (Nat.le_refl _)) A m c (bys l) rfl (by simpa using HH.out.alloc _) (bys_one l) (by simp only [maxLen]; omega) (by omega) (by simp) ?_; intro v1 w1 hown1 hg1 hat1; have hb1 := ((Below.refl w.heap.size w).alloc (Nat.le_refl _) _).grown hg1 (by simp) (fun k hk => ((own_new0 w 5 _ (Nat.le_refl _)).lt k hk).1); have HB := Lib.hid (And.intro hown1 hb1); clear hown1 hb1 hg1 hat1; obtain ⟨v2, w2, hrun, hown2, hg2⟩ := run_append_zeros_own (P := Try.prog) w1 w.heap.size 23 3 23 5 i0 (.int .u8 0) .i64 .i64 Try.underlying23 Try.underlying3 hi0 hz0 hz1 rfl rfl hz2 _ _ _ HB.out.1 r (by omega) HB.out.2.size; have HC := Lib.hid (And.intro hrun (And.intro hown2 (HB.out.2.grown hg2 HB.out.2.size (fun j hj => (HB.out.1.lt j hj).1)))); clear hrun hown2 hg2)
        | (at_builtin; refine Lib.wpList_append_run _ rfl (.tmp 18) (.tmp 22) _ _ rfl _ _ rfl rfl v2 w2 HC.out.1 ?_))
      go_ret2
      refine ⟨_, rfl, ?_, HC.out.2.2⟩
      have e : bys (l ++ List.replicate r 0) = [] ++ bys l ++ List.replicate r (Value.int .u8 0) := by rw [bys_append]; simp [bys]
      rw [e, List.length_append, List.length_replicate, HL.out]
      have := HC.out.2.1
      rw [Nat.zero_add] at this
      exact this
  · have hV : padV l n = [] := by unfold padV; rw [if_neg hs]
    have hE : padE l n = 3 := by unfold padE; rw [if_neg hs]
    rw [hV, hE]
    clear hV hE
    by_cases h0 : n < 0
    · have hd : decide (n < 0) = true := by simpa using h0
      go_enter Try.func14, Try.ntmps14
      go_wp2
      go_ret2
      exact ⟨_, rfl, World.ownsRow_nil _ _ _ _, Below.refl _ _⟩
    · have hd : decide (n < 0) = false := by simpa using h0
      have hd2 : decide (65535 < n) = true := by simp; omega
      go_enter Try.func14, Try.ntmps14
      go_wp2
      go_ret2
      exact ⟨_, rfl, World.ownsRow_nil _ _ _ _, Below.refl _ _⟩

/-- 'sums' of the statements, where the sum is told. -/
theorem sums_any {w : World} {n : Int} {L A : Option Addr} {m c k d : Nat} {vs : List Value} {xss : List (List UInt8)} {want : List UInt8} (hL : Rd w L m vs) (hR : Rows_ w vs xss) (hm : m ≤ 140737488351232) (hw : Rd w A k (bys want)) (hE : allE n xss = 0) :
    Calls Try.prog 22 #[.int .i64 n, .slice A k d, .slice L m c] w fun e w' => e = .returned (.bool (allV n xss == want)) ∧ Below w.heap.size w w' := by
  have H := all_any (n := n) (c := c) hL hR hm
  rw [hE] at H
  have HH := Lib.hid H
  have HW := Lib.hid hw
  clear H hE hw hL hR
  go_enter Try.func22, Try.ntmps22
  go_wp2_with fail
  refine HH.out.mono ?_
  rintro e w2 ⟨v2, rfl, ho2, hb2⟩
  obtain ⟨A1, c1, rfl, hc1, _, _, _⟩ := own_form ho2
  have hr := Rd.of_own ho2
  have hr2 := HW.out.below hb2
  go_wp2_with (go_at_call 15; refine (same_any hr hr2).mono ?_; rintro e w' ⟨rfl, rfl⟩)
  go_ret
  exact ⟨rfl, hb2⟩
/-- 'awake' of the statements. -/
theorem awake_any (w : World) : Calls Try.prog 9 #[] w fun e w' => e = .returned (.bool true) ∧ Below w.heap.size w w' := by
  go_enter Try.func9, Try.ntmps9
  go_wp2_with fail
  refine (xor_any (xs := [1, 2, 3]) (ys := [3, 2, 1]) (by exact (Rd.lit _ _ _ _ rfl _ rfl _ rfl).alloc _) (by exact Rd.lit _ _ _ _ (by simp) _ rfl _ rfl) (by omega) (by omega)).mono ?_
  rintro e w2 ⟨v2, rfl, ho2, hb2⟩
  rw [show xorE [1, 2, 3] [3, 2, 1] = 0 from by decide]
  rw [show xorV [1, 2, 3] [3, 2, 1] = [2, 0, 2] from by decide] at ho2
  have hb3 : Below w.heap.size w w2 := below_base (((Below.refl _ _).alloc (Nat.le_refl _) _).alloc (by simp) _) hb2 (by simp; omega)
  obtain ⟨A1, c1, rfl, hc1, _, _, _⟩ := own_form ho2
  have hr := Rd.of_own ho2
  have HH := Lib.hid (And.intro hr hb3)
  clear ho2 hb2 hr hb3
  go_wp2_with fail
  refine (same_any (l := [2, 0, 2]) (l' := [2, 0, 2]) (by exact HH.out.1.alloc _) (by exact Rd.lit _ _ _ _ (by simp) _ rfl _ rfl)).mono ?_
  rintro e w' ⟨rfl, rfl⟩
  go_wp2_with fail
  refine (sums_any (want := [4, 6]) (xss := [[1, 2], [4, 4], [1, 0]]) (by exact Rd.lit _ _ _ _ (by simp) _ rfl _ rfl) (by
      exact (Rows_.cons (((Rd.lit _ _ _ _ (by simp) _ rfl _ rfl).alloc _).alloc _ |>.alloc _) (by omega) (by omega) (Rows_.cons ((Rd.lit _ _ _ _ (by simp) _ rfl _ rfl).alloc _ |>.alloc _) (by omega) (by omega) (Rows_.cons ((Rd.lit _ _ _ _ (by simp) _ rfl _ rfl).alloc _) (by omega) (by omega) (Rows_.nil _))))) (by omega)
    (by exact ((((Rd.lit _ _ _ _ (by simp) _ rfl _ rfl).alloc _).alloc _).alloc _).alloc _) (by decide)).mono ?_
  rintro e w3 ⟨rfl, hb4⟩
  have HB := Lib.hid (below_base (((((((HH.out.2.alloc HH.out.2.size _).alloc (by simp; have := HH.out.2.size; omega) _).alloc (by simp; have := HH.out.2.size; omega) _).alloc (by simp; have := HH.out.2.size; omega) _).alloc (by simp; have := HH.out.2.size; omega) _).alloc (by simp; have := HH.out.2.size; omega) _)) hb4 (by simp; have := HH.out.2.size; omega))
  clear hb4
  go_wp2
  go_ret
  exact ⟨ret_bool (by decide), HB.out⟩
end Go.Proofs.Ytkhedjildlokoaa
