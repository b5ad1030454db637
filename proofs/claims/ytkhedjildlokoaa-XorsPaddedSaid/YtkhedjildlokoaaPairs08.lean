/- XorsPairs: which sum two have, told, and added in place. -/
import Derived.Test.YtkhedjildlokoaaR08
namespace Go.Proofs.Ytkhedjildlokoaa
open Go.RowKit
set_option linter.unusedVariables false
/-- What stands behind 'in, by := room[:len(a)], CopyBytes(b)'. -/
def InBy (w3 w4 : World) (A2 : Option Addr) (n c2 n' : Nat) (ys : List UInt8) (s6 s7 : Value) : Prop :=
  s6 = .slice A2 n c2 ∧ w4.ownsRow w3.heap.size 5 1 s7 n' (bys ys) ∧ Below w3.heap.size w3 w4
theorem same_true {w : World} {A A' : Option Addr} {n n' c c' : Nat} {l : List UInt8} (h : Rd w A n (bys l)) (h' : Rd w A' n' (bys l)) :
    Calls Try.prog 15 #[.slice A n c, .slice A' n' c'] w fun e w' => e = .returned (.bool true) ∧ w = w' :=
  (same_any h h').mono fun e w' ⟨h1, h2⟩ => ⟨by rw [h1]; simp, h2⟩
set_option maxRecDepth 100000 in
set_option maxHeartbeats 1000000 in
theorem pairs_walk {w : World} {A A' : Option Addr} {n n' c c' : Nat} {xs ys : List UInt8} (hx : Rd w A n (bys xs)) (hy : Rd w A' n' (bys ys)) (hn : n ≤ 140737488351232) (hn' : n' ≤ 140737488351232) (hc : n ≤ c) (hc' : n' ≤ c') :
    Calls Try.prog 4 #[.slice A n c, .slice A' n' c'] w fun e w' => e = .returned (.bool true) ∧ Below w.heap.size w w' := by
  have HX := Lib.hid hx
  have HY := Lib.hid hy
  clear hx hy
  by_cases hbig : 300 < n ∨ 300 < n'
  · by_cases h1 : 300 < n
    · have hd : decide ((300 : Int) < (n : Int)) = true := by simp; omega
      go_enter Try.func4, Try.ntmps4
      go_wp2_with (go_at_call 9; refine (awake_any _).mono ?_; rintro e w1 ⟨rfl, hb⟩)
      go_ret
      exact ⟨rfl, hb⟩
    · have hd : decide ((300 : Int) < (n : Int)) = false := by simp; omega
      have hd' : decide ((300 : Int) < (n' : Int)) = true := by simp; omega
      go_enter Try.func4, Try.ntmps4
      go_wp2_with (go_at_call 9; refine (awake_any _).mono ?_; rintro e w1 ⟨rfl, hb⟩)
      go_ret
      exact ⟨rfl, hb⟩
  · have hd : decide ((300 : Int) < (n : Int)) = false := by simp; omega
    have hd' : decide ((300 : Int) < (n' : Int)) = false := by simp; omega
    have h3 : n ≤ 300 ∧ n' ≤ 300 := by omega
    obtain ⟨i0, hi0, hz0, hz1, hz2⟩ := info_parts u8_info
    go_enter Try.func4, Try.ntmps4
    go_wp2_with fail
    refine (copy_any HX.out hn).mono ?_
    rintro e w1 ⟨v1, rfl, ho1, hb1⟩
    have HO1 := Lib.hid (And.intro ho1 hb1)
    clear ho1 hb1
    go_upto_region 4 with (at_builtin; refine wpList_append_rd _ rfl (.tmp 24) (.tmp 25) _ rfl w.heap.size 5 i0 _ 1 1 Try.underlying23 hi0 hz0 hz1 hz2 rfl (by omega) v1 n _ rfl (HO1.out.1.alloc _) _ 3 3 (bys [5, 6, 7]) rfl (by exact Rd.lit _ _ _ _ rfl _ rfl _ rfl) (bys_one _) (by simp only [maxLen]; omega) (by omega) (by simp; have := HO1.out.2.size; omega) ?_; intro v2 w2 hown2 hg2 hat2)
    have hb2 := (HO1.out.2.alloc HO1.out.2.size _).grown hg2 (by simp; have := HO1.out.2.size; omega) (fun j hj => (HO1.out.1.lt j hj).1)
    rw [← bys_append] at hown2
    clear hg2 hat2
    obtain ⟨A2, c2, rfl, hc2, _, hl2, _⟩ := own_form hown2
    obtain ⟨g2, hm2, hg2, hgl2, _⟩ := Mut.of_own hown2
    have hgl2 := hgl2 (by omega)
    have HY2 := Lib.hid (HY.out.below (hb2.mono (Nat.le_refl _)))
    have HM2 := Lib.hid (And.intro hm2 (And.intro hown2 hb2))
    clear hm2 hown2 hb2 hl2
    have hcn : (n : Int) ≤ (c2 : Int) := by omega
    have hcn0 : (0 : Int) ≤ (n : Int) := by omega
    go_cut [6, 7] (fun s6 s7 w4 => InBy w2 w4 A2 n c2 n' ys s6 s7)
    case first =>
      go_region_with (go_at_call 10; refine (copy_any (l := ys) (by exact HY2.out) hn').mono ?_; rintro e w4 ⟨v7, rfl, ho4, hb4⟩)
      all_goals go_wp2_with fail
      all_goals go_meet
      exact ⟨rfl, ho4, below_undrew hb4⟩
    case rest =>
      obtain ⟨rfl, ho4, hb4⟩ := hcut
      obtain ⟨A3, c3, rfl, hc3, _, _, _⟩ := own_form ho4
      obtain ⟨g3, hm3, hg3, _, _⟩ := Mut.of_own ho4
      have hr4 := Rd.of_own ho4
      have hxin := (HM2.out.1.take_ (k := n) (by omega)).below hb4
      rw [bys_take, List.take_append_of_le_length (by have := HX.out.1; simp [bys] at this; omega), List.take_of_length_le (by have := HX.out.1; simp [bys] at this; omega)] at hxin
      have HC4 := Lib.hid (And.intro hr4 (And.intro hm3 (And.intro hb4 (And.intro ho4 hxin))))
      clear hr4 hm3 hb4 ho4 hxin
      go_wp2_with fail
      refine (xor_any HC4.out.2.2.2.2.rd HC4.out.1 (by omega) hc3).mono ?_
      rintro e w5 ⟨v8, rfl, ho5, hb5⟩
      obtain ⟨A5, c5, rfl, hc5, _, _, _⟩ := own_form ho5
      have HC5 := Lib.hid (And.intro ho5 hb5)
      clear ho5 hb5
      go_wp2_with fail
      refine (refXor_any (c := c) (c' := c') (((HX.out.below HM2.out.2.2).below HC4.out.2.2.1).below HC5.out.2) ((HY2.out.below HC4.out.2.2.1).below HC5.out.2) (by omega)).mono ?_
      rintro e w6 ⟨v10, rfl, ho6, hb6⟩
      obtain ⟨A6, c6, rfl, hc6, _, _, _⟩ := own_form ho6
      have HC6 := Lib.hid (And.intro ho6 hb6)
      clear ho6 hb6
      have hE : (xorE xs ys != xorE xs ys) = false := by simp
      have hE' : (xorE xs ys == xorE xs ys) = true := by simp
      have hx6 := own_below HC5.out.1 HC6.out.2
      have hy6 := HC6.out.1
      have hin6 := (HC4.out.2.2.2.2.below HC5.out.2).below HC6.out.2
      have hby6 := (HC4.out.2.1.below HC5.out.2).below HC6.out.2
      have hroom6 := ((HM2.out.1.below HC4.out.2.2.1).below HC5.out.2).below HC6.out.2
      have hb6 : Below w.heap.size w w6 := below_base (below_base (below_base HM2.out.2.2 HC4.out.2.2.1 HM2.out.2.2.size) HC5.out.2 (by have := HM2.out.2.2.size; have := HC4.out.2.2.1.size; omega)) HC6.out.2 (by have := HM2.out.2.2.size; have := HC4.out.2.2.1.size; have := HC5.out.2.size; omega)
      have ha6 := HX.out.below hb6
      have hbb6 := HY.out.below hb6
      obtain ⟨g5, hm5, hg5, hgl5, _⟩ := Mut.of_own HC5.out.1
      have hm5 := hm5.below HC6.out.2
      have hs4 : w2.heap.size ≤ wc.heap.size := HC4.out.2.2.1.size
      have HH := Lib.hid (And.intro hx6 (And.intro hy6 (And.intro hin6 (And.intro hby6 (And.intro hroom6 (And.intro hb6 (And.intro ha6 (And.intro hbb6 hm5))))))))
      have hs5 := HC5.out.2.size
      have hs6 := HC6.out.2.size
      have hg3lt : 0 < n' → g3 < wc.heap.size := fun h0 => by
        obtain ⟨e, t, cur, hb, _⟩ := HC4.out.2.1.2 h0
        exact hb.lt
      have HG3 := Lib.hid hg3lt
      clear hx6 hy6 hin6 hby6 hroom6 hb6 ha6 hbb6 hm5 hg3lt
      go_wp2_with fail
      refine (same_true (Rd.of_own HH.out.1) (Rd.of_own HH.out.2.1)).mono ?_
      rintro e w' ⟨rfl, rfl⟩
      go_wp2_with fail
      refine (same_true HH.out.2.2.1.rd HH.out.2.2.2.2.2.2.1).mono ?_
      rintro e w' ⟨rfl, rfl⟩
      go_wp2_with fail
      refine (zero_any HH.out.2.2.1.rd (by omega)).mono ?_
      rintro e w' ⟨rfl, rfl⟩
      go_wp2_with fail
      refine (refZero_any HH.out.2.2.2.2.2.2.1 (by omega)).mono ?_
      rintro e w' ⟨rfl, rfl⟩
      go_wp2_with fail
      have hvl : (xorV xs ys).length ≤ 140737488351232 := by
        have := HX.out.1; rw [bys_length] at this
        unfold xorV; split
        · rename_i h; rw [xorL_length _ _ h]; omega
        · simp
      refine (over_any HH.out.2.2.2.2.2.2.2.2 hvl).mono ?_
      rintro e w7 ⟨rfl, hu7⟩
      have HU7 := Lib.hid hu7
      clear hu7
      have hv0 : n ≠ n' → (xorV xs ys).length = 0 := fun h => by
        have h1 := HX.out.1; have h2 := HY.out.1; rw [bys_length] at h1 h2
        unfold xorV; rw [if_neg (by omega)]; rfl
      have hvn : (xorV xs ys).length ≤ n := by
        have h1 := HX.out.1; rw [bys_length] at h1
        unfold xorV; split
        · rename_i h; rw [xorL_length _ _ h]; omega
        · simp
      have hy7 := (Rd.of_own HH.out.2.1).grown HU7.out.1 (fun h0 a ha => by
        have := (own_ge HH.out.2.1 a ha).1; have := hgl5 h0; omega)
      have hin7 := HH.out.2.2.1.grown HU7.out.1 (by simp; omega)
      have hby7 : Mut w7 A3 n' g3 0 (bys ys) := by
        rcases Nat.eq_zero_or_pos n' with h0 | h0
        · subst h0; exact ⟨HH.out.2.2.2.1.1, fun h => absurd h (by omega)⟩
        · exact HH.out.2.2.2.1.grown HU7.out.1 (by have := HG3.out h0; simp; omega)
      have hroom7 := HH.out.2.2.2.2.1.grown HU7.out.1 (by simp; omega)
      have hb7 := HU7.out.below HH.out.2.2.2.2.2.1 HH.out.2.2.2.2.2.1.size (by omega)
      have HH7 := Lib.hid (And.intro hy7 (And.intro hin7 (And.intro hby7 (And.intro hroom7 hb7))))
      clear hy7 hin7 hby7 hroom7 hb7 hv0 hvn hvl
      go_wp2_with fail
      obtain ⟨A9, hA9, fA9⟩ := run_cut Try.underlying23 hi0 hz1 A2 (n + 3) c2 n n rfl .i64 (by omega) hc2
      rw [Nat.add_sub_cancel_left] at hA9
      have fA9' := fA9 (by omega)
      rw [(HM2.out.1.2 (by omega)).1, map_add] at fA9'
      have htail7 : Mut w7 A9 3 g2 (0 + n) (bys [5, 6, 7]) := by
        have h1 := HX.out.1; rw [bys_length] at h1
        have := HH7.out.2.2.2.1.drop_ (k := n) (by omega) (A' := A9) (fun _ => by rw [(HM2.out.1.2 (by omega)).1]; exact fA9')
        rw [Nat.add_sub_cancel_left, bys_drop, List.drop_append_of_le_length (by omega), List.drop_of_length_le (by omega)] at this
        exact this
      have HT7 := Lib.hid htail7
      clear htail7 fA9 fA9'
      by_cases hnn : n = n'
      · subst hnn
        have hE0 : xorE xs ys = 0 := by
          have h1 := HX.out.1; have h2 := HY.out.1; rw [bys_length] at h1 h2
          unfold xorE; rw [if_pos (by omega)]
        have hV0 : xorV xs ys = xorL xs ys := by
          have h1 := HX.out.1; have h2 := HY.out.1; rw [bys_length] at h1 h2
          unfold xorV; rw [if_pos (by omega)]
        have hVl : (xorL xs ys).length = n := by
          have h1 := HX.out.1; have h2 := HY.out.1; rw [bys_length] at h1 h2
          rw [xorL_length _ _ (by omega)]; exact h1
        refine (into_any HH7.out.2.1 HH7.out.2.2.1.rd (fun h0 a ha => by
          have := (HH7.out.2.2.1.2 h0).1; rw [ha] at this; cases this; show g3 ≠ g2; omega) (by omega) (by omega) hc3).mono ?_
        rintro e w8 ⟨rfl, hu8⟩
        have hin8 := HH7.out.2.1.upd hu8 (by rw [bys_length]; exact hVl)
        rw [← hV0] at hin8
        have hy8 := HH7.out.1.grown hu8.1 (fun h0 a ha => by
          have := (own_ge HH.out.2.1 a ha).1; omega)
        have hby8 : Mut w8 A3 n g3 0 (bys ys) := by
          rcases Nat.eq_zero_or_pos n with h0 | h0
          · subst h0; exact ⟨HH7.out.2.2.1.1, fun h => absurd h (by omega)⟩
          · exact HH7.out.2.2.1.grown hu8.1 (by simp; omega)
        have ht8 := HT7.out.apart hu8 (.inl (by rw [bys_length, hVl]; omega)) (fun _ t cs hcs => by
          obtain ⟨_, t', cur', hb', hl', _⟩ := HH7.out.2.2.2.1.2 (by omega)
          have := hcs.inj hb'; subst this
          rw [bys_length, hVl]; omega)
        have hb8 := hu8.below HH7.out.2.2.2.2 HH7.out.2.2.2.2.size hg2
        have HH8 := Lib.hid (And.intro hin8 (And.intro hy8 (And.intro hby8 (And.intro ht8 hb8))))
        clear hin8 hy8 hby8 ht8 hb8 hu8 hV0 hVl
        go_wp2_with fail
        refine (same_true HH8.out.1.rd HH8.out.2.1).mono ?_
        rintro e w' ⟨rfl, rfl⟩
        go_wp2_with fail
        refine (same_true HH8.out.2.2.1.rd (HY.out.below HH8.out.2.2.2.2)).mono ?_
        rintro e w' ⟨rfl, rfl⟩
        go_wp2_with fail
        refine (same_true (l := [5, 6, 7]) (by exact HH8.out.2.2.2.1.rd.alloc _) (by exact Rd.lit _ _ _ _ rfl _ rfl _ rfl)).mono ?_
        rintro e w' ⟨rfl, rfl⟩
        go_wp2_with fail
        refine (awake_any _).mono ?_
        rintro e w9 ⟨rfl, hb9⟩
        go_wp2
        go_ret
        exact ⟨rfl, below_base (HH8.out.2.2.2.2.alloc HH8.out.2.2.2.2.size _) hb9 (by simp; have := HH8.out.2.2.2.2.size; omega)⟩
      · have hE0 : xorE xs ys = 2 := by
          have h1 := HX.out.1; have h2 := HY.out.1; rw [bys_length] at h1 h2
          unfold xorE; rw [if_neg (by omega)]
        refine (into_no hnn).mono ?_
        rintro e w8 ⟨rfl, rfl⟩
        have hb8 := HH7.out.2.2.2.2
        have HH8 := Lib.hid hb8
        clear hb8
        go_wp2_with fail
        refine (same_true HH7.out.2.1.rd (HX.out.below HH8.out)).mono ?_
        rintro e w' ⟨rfl, rfl⟩
        go_wp2_with fail
        refine (same_true HH7.out.2.2.1.rd (HY.out.below HH8.out)).mono ?_
        rintro e w' ⟨rfl, rfl⟩
        go_wp2_with fail
        refine (same_true (l := [5, 6, 7]) (by exact HT7.out.rd.alloc _) (by exact Rd.lit _ _ _ _ rfl _ rfl _ rfl)).mono ?_
        rintro e w' ⟨rfl, rfl⟩
        go_wp2_with fail
        refine (awake_any _).mono ?_
        rintro e w9 ⟨rfl, hb9⟩
        go_wp2
        go_ret
        exact ⟨rfl, below_base (HH8.out.alloc HH8.out.size _) hb9 (by simp; have := HH8.out.size; omega)⟩
theorem pairs_stmt {w : World} {A A' : Option Addr} {n n' c c' : Nat} {xs ys : List UInt8} (h1 : Rd w A n (bys xs) ∧ n ≤ c ∧ n ≤ 140737488351232) (h2 : Rd w A' n' (bys ys) ∧ n' ≤ c' ∧ n' ≤ 140737488351232) :
    Calls Try.prog 4 #[.slice A n c, .slice A' n' c'] w fun e w' => e = .returned (.bool true) ∧ Below w.heap.size w w' :=
  pairs_walk h1.1 h2.1 h1.2.2 h2.2.2 h1.2.1 h2.2.1
end Go.Proofs.Ytkhedjildlokoaa
