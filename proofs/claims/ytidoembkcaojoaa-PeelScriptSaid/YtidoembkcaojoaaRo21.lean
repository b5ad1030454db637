/- Chapter 21: the document's decoder: Symbol, Block. -/
import Derived.Test.YtidoembkcaojoaaRn21
namespace Go.Proofs.Ytidoembkcaojoaa
open Go.RowKit
set_option linter.unusedVariables false
section
variable {w w' : World} {base D : Nat} {m : RM} {d : DS} {F : Nat → Prop}
theorem cell_new {w : World} {p : Addr} {v : Value} (h : w.cell? p = some v) (o : Obj) (hp : p.block < w.heap.size) : (w.alloc o).cell? p = some v := (World.cell?_alloc_lt w o p hp).trans h
set_option maxRecDepth 100000 in
set_option maxHeartbeats 1600000 in
/-- Symbol -/
theorem rsymbol_any (h : Rc w base D m d F) (hd : d.ok) (i : Int) : Calls Try.prog 54 #[.pointer (some ⟨D, 0, none⟩), .int .i64 i] w (SyPost w (syR d i).1 (syR d i).2) := by
  obtain ⟨K, hK⟩ : ∃ K, d.k = K := ⟨_, rfl⟩
  have hK9 : K ≤ 100 := by have := hd.k1; omega
  have c0 : w.cell? ⟨D, 0, none⟩ = some (.int .i64 (K : Nat)) := by rw [← hK]; exact h.e.cell 0
  have c4 : w.cell? ⟨D, 4, none⟩ = some (.slice (some ⟨m.IS, 0, none⟩) K K) := by rw [← hK]; exact h.e.cell 4
  by_cases h1 : i < 0
  · have d1 : decide (i < 0) = true := decide_eq_true h1
    have HE := Lib.hid (show syR d i = ([], 3) from by unfold syR; rw [if_neg (by omega)])
    clear h h1
    go_enter Try.func54, Try.ntmps54
    go_wp2_with fail
    go_ret2
    rw [HE.out]
    exact ⟨_, rfl, World.ownsRow_nil _ _ _ _, Below.refl _ _⟩
  · have d1 : decide (i < 0) = false := decide_eq_false h1
    obtain ⟨x, rfl⟩ : ∃ x : Nat, i = x := ⟨i.toNat, by omega⟩
    by_cases h2 : x < K
    · have d2 : decide ((x : Int) ≥ (K : Int)) = false := decide_eq_false (by omega)
      have d3 : decide ((K : Int) ≤ (x : Int)) = false := decide_eq_false (by omega)
      have d4 : decide (K ≤ x) = false := decide_eq_false (by omega)
      have xk : (x : Int) < (K : Int) := by omega
      have x0 : (0 : Int) ≤ (x : Int) := by omega
      have ci := h.isc hd (x := x) (by rw [hK]; exact h2)
      have hD := h.e.lt
      have hS := h.sb.lt
      cases hk : knw d.kn (x : Int) with
      | true =>
        rw [hk] at ci
        have c5 : w.cell? ⟨D, 5, none⟩ = some (.slice (some ⟨m.SB, 0, none⟩) K K) := by rw [← hK]; exact h.e.cell 5
        have cs := h.syc (x := x) (by rw [hK]; exact h2)
        unfold rsy at cs
        rw [hk, if_pos rfl] at cs
        have hsx := (h.sx x (by rw [hK]; exact h2) hk).1
        have hvl := hd.vs x (by rw [hK]; exact h2) hk
        obtain ⟨A, hA⟩ : ∃ A, (m.sy x).1 = A := ⟨_, rfl⟩
        obtain ⟨ca, hca⟩ : ∃ c, (m.sy x).2 = c := ⟨_, rfl⟩
        obtain ⟨s, hs⟩ : ∃ s, d.s = s := ⟨_, rfl⟩
        have hs9 : s ≤ 65535 := by have := hd.s1; omega
        rw [hA, hs] at hsx
        rw [hA, hca, hs] at cs
        have e0 := cell_new c5 (.cells #[] 5) hD
        have e1 := cell_new cs (.cells #[] 5) hS
        have HE := Lib.hid (show syR d (x : Int) = (d.vals.getD x [], 0) ∧ (d.vals.getD x []).length = s from ⟨by unfold syR xv; rw [if_pos (by omega), hk, Int.toNat_natCast]; rfl, by rw [hvl, hs]⟩)
        have HR := Lib.hid hsx
        obtain ⟨i0, hi0, hz0, hz1, hz2⟩ := info_parts u8_info
        clear h h1 h2 hk hsx hvl hA hca hs hK hD hS
        go_enter Try.func54, Try.ntmps54
        go_wp2_with (at_builtin; refine wpList_append_rd _ rfl (.tmp 24) (.tmp 31) _ rfl w.heap.size 5 i0 _ 1 1 Try.underlying22 hi0 hz0 hz1 hz2 rfl (by omega) _ 0 [] rfl (own_new0 w _ _ (Nat.le_refl _)) A s ca _ rfl (by rw [Nat.mul_one]; exact HR.out.alloc _) (bys_one _) (by simp only [maxLen]; omega) (by omega) (by show w.heap.size ≤ (w.alloc _).heap.size; rw [World.size_alloc]; omega) ?_; intro v1 w1 hown1 hg1 hat1; rw [Nat.zero_add, List.nil_append] at hown1)
        have hb1 : Below w.heap.size w w1 := ((Below.refl _ _).alloc (Nat.le_refl _) _).grown hg1 (by rw [World.size_alloc]; omega) (fun k hk => ((own_new0 w 5 _ (Nat.le_refl _)).lt k hk).1)
        go_ret2
        rw [HE.out.1]
        exact ⟨_, rfl, by show w1.ownsRow _ _ _ _ (d.vals.getD x []).length _; rw [HE.out.2]; exact hown1, hb1⟩
      | false =>
        rw [hk] at ci
        have HE := Lib.hid (show syR d (x : Int) = ([], 10) from by unfold syR; rw [if_pos (by omega), hk]; rfl)
        clear h h1 h2 hk
        go_enter Try.func54, Try.ntmps54
        go_wp2_with fail
        go_ret2
        rw [HE.out]
        exact ⟨_, rfl, World.ownsRow_nil _ _ _ _, Below.refl _ _⟩
    · have d2 : decide ((x : Int) ≥ (K : Int)) = true := decide_eq_true (by omega)
      have d3 : decide ((K : Int) ≤ (x : Int)) = true := decide_eq_true (by omega)
      have d4 : decide (K ≤ x) = true := decide_eq_true (by omega)
      have HE := Lib.hid (show syR d (x : Int) = ([], 3) from by unfold syR; rw [if_neg (by omega)])
      clear h h1 h2
      go_enter Try.func54, Try.ntmps54
      go_wp2_with fail
      go_ret2
      rw [HE.out]
      exact ⟨_, rfl, World.ownsRow_nil _ _ _ _, Below.refl _ _⟩
set_option maxRecDepth 100000 in
set_option maxHeartbeats 3200000 in
/-- Block -/
theorem rblock_any (h : Rc w base D m d F) (hd : d.ok) : Calls Try.prog 51 #[.pointer (some ⟨D, 0, none⟩)] w (BlPost w (blR d).1.length (blR d).1 (blR d).2) := by
  obtain ⟨u, hu⟩ : ∃ u, unk d.kn = u := ⟨_, rfl⟩
  have hlf := rleftN_any h hd
  rw [hu] at hlf
  have HN := Lib.hid hlf
  have hu9 : u ≤ 100 := by have h1 := knL_len d.kn; have h2 := hd.kl; have h3 := hd.k1; omega
  by_cases hz : u = 0
  · subst hz
    have hbl : blR d = (d.vals, 0) := if_pos hu
    obtain ⟨i0, hi0, hz0, hz1, hz2⟩ := info_parts ints2_info
    obtain ⟨i1, hy0, hy1, hy2, hy3⟩ := info_parts u8_info
    obtain ⟨K, hK⟩ : ∃ K, d.k = K := ⟨_, rfl⟩
    obtain ⟨s, hs⟩ : ∃ s, d.s = s := ⟨_, rfl⟩
    have hall : ∀ i, i < K → knw d.kn (i : Int) = true := fun i hi => unk_zero hu (by rw [hd.kl, hK]; exact hi)
    have hvl := hd.vl
    rw [hK] at hvl
    have hk9 : K ≤ 100 := by have := hd.k1; omega
    have hs9 : s ≤ 65535 := by have := hd.s1; omega
    have H := Lib.hid (And.intro h (And.intro hall (And.intro hvl (And.intro hd (And.intro hK hs)))))
    rw [hbl]
    show Calls _ _ _ _ (BlPost w d.vals.length d.vals 0)
    rw [hvl]
    clear h hd hall hvl hbl hlf hu hK hs
    go_enter Try.func51, Try.ntmps51
    go_wp2_with fail
    refine HN.out.mono ?_
    rintro e w1 ⟨rfl, hb1⟩
    have HB1 := Lib.hid hb1
    clear hb1
    go_wp2_with fail
    go_loopw [4, 5] (fun v i wr => ∃ (j : Nat) (vs : List Value), j ≤ K ∧ i = .int .i64 j ∧ wr.ownsRow w.heap.size 22 1 v j vs ∧ ORows wr w.heap.size vs (d.vals.take j) ∧ Below w.heap.size w wr) (fun v i wr => K - (intOf i).toNat)
    case atStart => exact ⟨0, [], by omega, rfl, World.ownsRow_nil _ _ _ _, ORows.nil _ _, HB1.out⟩
    case round =>
      obtain ⟨j, vs, hj, rfl, how, hor, hb⟩ := hrel
      have hRc := H.out.1.below hb
      have c0 : wr.cell? ⟨D, 0, none⟩ = some (.int .i64 (K : Nat)) := by rw [← H.out.2.2.2.2.1]; exact hRc.e.cell 0
      by_cases hlt : j < K
      · have km : (j : Int) < (K : Int) := by omega
        have kd : decide ((j : Int) < (K : Int)) = true := decide_eq_true km
        have kd' : decide (j < K) = true := decide_eq_true hlt
        have j0 : (0 : Int) ≤ (j : Int) := by omega
        have c5 : wr.cell? ⟨D, 5, none⟩ = some (.slice (some ⟨m.SB, 0, none⟩) K K) := by rw [← H.out.2.2.2.2.1]; exact hRc.e.cell 5
        have hjK : j < d.k := by rw [H.out.2.2.2.2.1]; exact hlt
        have cs := hRc.syc (x := j) hjK
        unfold rsy at cs
        rw [H.out.2.1 j hlt, if_pos rfl] at cs
        have hsx := (hRc.sx j hjK (H.out.2.1 j hlt)).1
        have hxl := H.out.2.2.2.1.vs j hjK (H.out.2.1 j hlt)
        obtain ⟨A, hA⟩ : ∃ A, (m.sy j).1 = A := ⟨_, rfl⟩
        obtain ⟨ca, hca⟩ : ∃ c, (m.sy j).2 = c := ⟨_, rfl⟩
        rw [hA, H.out.2.2.2.2.2] at hsx
        rw [hA, hca, H.out.2.2.2.2.2] at cs
        rw [H.out.2.2.2.2.2] at hxl
        have e0 := cell_new c5 (.cells #[] 5) hRc.e.lt
        have e1 := cell_new cs (.cells #[] 5) hRc.sb.lt
        have hjl : j < d.vals.length := by rw [H.out.2.2.1]; exact hlt
        have HT := Lib.hid (show d.vals.take (j + 1) = d.vals.take j ++ [d.vals.getD j []] from by rw [getD_at hjl, List.take_succ_eq_append_getElem hjl])
        obtain ⟨Av, cv, rfl⟩ := own_sl how
        have HW := Lib.hid (And.intro how (And.intro hor (And.intro hb (And.intro hlt (And.intro hxl hsx)))))
        clear how hor hb hlt hRc hsx hjl hxl hj hA hca hjK c5 cs
        go_upto_region 6 with (first
          | (at_builtin; refine wpList_append_rd _ rfl (.tmp 18) (.tmp 25) _ rfl wr.heap.size 5 i1 _ 1 1 Try.underlying22 hy0 hy1 hy2 hy3 rfl (by omega) _ 0 [] rfl (own_new0 wr _ _ (Nat.le_refl _)) A s ca _ rfl (by rw [Nat.mul_one]; exact HW.out.2.2.2.2.2.alloc _) (bys_one _) (by simp only [maxLen]; omega) (by omega) (by show wr.heap.size ≤ (wr.alloc _).heap.size; rw [World.size_alloc]; omega) ?_; intro v4 w4 hown4 hg4 hat4; rw [Nat.zero_add, List.nil_append] at hown4; obtain ⟨A4, c4', rfl⟩ := own_sl hown4; have hb4 : Below wr.heap.size wr w4 := ((Below.refl _ _).alloc (Nat.le_refl _) _).grown hg4 (by rw [World.size_alloc]; omega) (fun k hk => ((own_new0 wr 5 _ (Nat.le_refl _)).lt k hk).1); have H4 := Lib.hid (And.intro (own_below HW.out.1 hb4) (And.intro (HW.out.2.1.below hb4) (And.intro (below_base HW.out.2.2.1 hb4 HW.out.2.2.1.size) hown4))); clear hown4 hg4 hat4 hb4)
          | (at_builtin; refine wpList_append_rd _ rfl (.tmp 17) (.tmp 27) _ rfl w.heap.size 22 i0 _ 1 24 Try.underlying30 hi0 hz0 hz1 hz2 rfl (by omega) _ j vs rfl (own_below H4.out.1 ((Below.refl _ _).alloc (Nat.le_refl _) _)) (some ⟨w4.heap.size, 0, none⟩) 1 1 [.slice A4 s c4'] rfl (Rd.lit _ _ _ _ rfl 1 rfl _ rfl) slice_one (by simp only [maxLen]; omega) (by omega) (by have := H4.out.2.2.1.size; rw [World.size_alloc]; omega) ?_; intro v6 w6 hown6 hg6 hat6))
        have hc6 : Chg (fun b => (Value.slice Av j cv).ownBlock = some b) w4 w6 := ((Chg.refl _ w4).alloc _).trans (Chg.of_grown hg6 (S := fun b => (Value.slice Av j cv).ownBlock = some b) fun k e => e) fun _ _ x => x
        have hb6 := hc6.below H4.out.2.2.1 (fun b _ e => (H4.out.1.lt b e).1) H4.out.2.2.1.size
        have hor6 : ORows w6 w.heap.size (vs ++ [.slice A4 s c4']) (d.vals.take (j + 1)) := by
          rw [HT.out]
          have hm : (d.vals.getD j []).length = s := HW.out.2.2.2.2.1
          rw [← hm]
          refine ORows.snoc (B := wr.heap.size) ?_ ?_ HW.out.2.2.1.size ?_
          · refine ⟨H4.out.2.1.1, fun i y hy => ?_, H4.out.2.1.2.2⟩
            obtain ⟨A', c', h1, h2⟩ := H4.out.2.1.2.1 i y hy
            refine ⟨A', c', h1, hc6.own h2 fun b hb e => ?_⟩
            exact own_apart H4.out.1 h2 (by decide) b hb e
          · rw [hm]
            exact hc6.own H4.out.2.2.2 fun b hb e => own_apart H4.out.1 H4.out.2.2.2 (by decide) b hb e
          · intro i v b hv e
            exact (HW.out.2.1.blk i v b hv e).2
        go_wp2_with fail
        exact ⟨⟨j + 1, _, by have := HW.out.2.2.2.1; omega, by go_num, hown6, hor6, hb6⟩, by have := HW.out.2.2.2.1; simp [intOf]; omega⟩
      · obtain rfl : j = K := by omega
        have kd : decide ((j : Int) < (j : Int)) = false := decide_eq_false (by omega)
        have kd' : decide (j < j) = false := decide_eq_false (by omega)
        rw [List.take_of_length_le (by rw [H.out.2.2.1]; exact Nat.le_refl _)] at hor
        have HW := Lib.hid (And.intro how (And.intro hor hb))
        clear how hor hb hlt hj hRc
        go_wp2_with fail
        go_ret2
        exact ⟨_, vs, rfl, HW.out.1, HW.out.2.1, HW.out.2.2⟩
  · have hbl : blR d = ([], 10) := if_neg (by rw [hu]; exact hz)
    have d1 : decide ((u : Int) > 0) = true := decide_eq_true (by omega)
    have d2 : decide ((0 : Int) < (u : Int)) = true := decide_eq_true (by omega)
    have d3 : decide (0 < u) = true := decide_eq_true (by omega)
    rw [hbl]
    clear h hd hlf hu hbl hz
    go_enter Try.func51, Try.ntmps51
    go_wp2_with fail
    refine HN.out.mono ?_
    rintro e w1 ⟨rfl, hb1⟩
    have HB1 := Lib.hid hb1
    clear hb1
    go_wp2_with fail
    go_ret2
    exact ⟨_, [], rfl, World.ownsRow_nil _ _ _ _, ORows.nil _ _, HB1.out⟩
end
end Go.Proofs.Ytidoembkcaojoaa
