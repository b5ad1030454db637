/- XorsSums: which sum some have, and what a padded one is. -/
import Derived.Test.YtkhedjildlokoaaPairs08
namespace Go.Proofs.Ytkhedjildlokoaa
open Go.RowKit
set_option linter.unusedVariables false
theorem row_info : (Try.prog.info? 23).map (fun i => (i.zero, i.size, i.bytes)) = some (some (.slice none 0 0), 1, 24) := by kernel_rfl
/-- Where a row of the copies may lie: not where the list of them lies, and not beyond the heap's end. -/
def Off (v : Value) (w : World) (a : Addr) : Prop := some a.block ≠ v.ownBlock ∧ a.block < w.heap.size
def Copied (B : Nat) (v : Value) (k : Nat) (xss : List (List UInt8)) (w : World) : Prop :=
  ∃ vs, w.ownsRow B 23 1 v k vs ∧ RowsP (Off v w) w vs (xss.take k)
theorem copied_zero (B : Nat) (xss : List (List UInt8)) (w : World) : Copied B (.slice none 0 0) 0 xss w :=
  ⟨[], World.ownsRow_nil _ _ _ _, by rw [List.take_zero]; exact RowsP.nil _ _⟩
/-- One more row: a copy in new memory, then the append. -/
theorem copied_succ {B k : Nat} {v v' : Value} {xss : List (List UInt8)} {w w1 w2 : World} {A : Option Addr} {n c : Nat} {vs : List Value} (hk : k < xss.length) (hown : w.ownsRow B 23 1 v k vs) (hR : RowsP (Off v w) w vs (xss.take k))
    (ho1 : w1.ownsRow w.heap.size 5 1 (.slice A n c) n (bys xss[k])) (hb1 : Below w.heap.size w w1) (hnc : n ≤ c) (hn : n ≤ 100) (o : Obj)
    (hown2 : w2.ownsRow B 23 1 v' (k + 1) (vs ++ [.slice A n c])) (hg : (w1.alloc o).grownBy w2 v.ownBlock) (hat : v'.ownBlock = v.ownBlock ∨ v'.ownBlock = some (w1.alloc o).heap.size) : Copied B v' (k + 1) xss w2 := by
  refine ⟨_, hown2, ?_⟩
  rw [List.take_succ_eq_append_getElem hk]
  have h1 : RowsP (fun a => some a.block ≠ v.ownBlock ∧ a.block < w1.heap.size) w1 vs (xss.take k) :=
    (hR.below hb1).imp fun a ha => ⟨ha.1, Nat.lt_of_lt_of_le ha.2 hb1.size⟩
  have h2 := h1.snoc (Rd.of_own ho1) hnc (by omega) (fun a ha => by
    have := own_ge ho1 a ha
    refine ⟨fun e => ?_, this.2⟩
    have := (hown.lt a.block e.symm).2
    omega)
  have h3 := h2.below ((Below.refl w1.heap.size w1).alloc (Nat.le_refl _) o)
  have h4 := h3.grown hg (fun a ha => ha.1)
  have hs := hg.size
  rw [World.size_alloc] at hs
  refine h4.imp fun a ha => ⟨fun e => ?_, by omega⟩
  rcases hat with e' | e'
  · rw [e'] at e; exact ha.1 e
  · rw [e', World.size_alloc] at e
    have := Option.some.inj e
    omega
set_option maxRecDepth 100000 in
set_option maxHeartbeats 2000000 in
theorem sums_walk {w : World} {n : Int} {L A' : Option Addr} {m c n' c' : Nat} {vs : List Value} {xss : List (List UInt8)} {ys : List UInt8} (hwn : (Lit.int .i64 n).wf = true) (hL : Rd w L m vs) (hR : Rows_ w vs xss) (hc : m ≤ c) (hm : m ≤ 5864062014634)
    (hy : Rd w A' n' (bys ys)) (hn' : n' ≤ 140737488351232) (hc' : n' ≤ c') :
    Calls Try.prog 3 #[.int .i64 n, .slice L m c, .slice A' n' c'] w fun e w' => e = .returned (.bool true) ∧ Below w.heap.size w w' := by
  have HL := Lib.hid (And.intro hL hR)
  have HY := Lib.hid hy
  have HM : Hid (m = xss.length) := by have := hL.1; have := hR.1; unfold Hid; omega
  clear hL hR hy
  by_cases h1 : 20 < m
  · have hd : decide ((20 : Int) < (m : Int)) = true := by simp; omega
    go_enter Try.func3, Try.ntmps3
    go_wp2_with (go_at_call 9; refine (awake_any _).mono ?_; rintro e w1 ⟨rfl, hb⟩)
    go_ret
    exact ⟨rfl, hb⟩
  have hd1 : decide ((20 : Int) < (m : Int)) = false := by simp; omega
  by_cases h2 : 300 < n'
  · have hd : decide ((300 : Int) < (n' : Int)) = true := by simp; omega
    go_enter Try.func3, Try.ntmps3
    go_wp2_with (go_at_call 9; refine (awake_any _).mono ?_; rintro e w1 ⟨rfl, hb⟩)
    go_ret
    exact ⟨rfl, hb⟩
  have hd2 : decide ((300 : Int) < (n' : Int)) = false := by simp; omega
  by_cases h3 : 300 < n ∧ n ≤ 65535
  · have hd3 : decide (300 < n) = true := by simp; omega
    have hd4 : decide (n ≤ 65535) = true := by simp; omega
    go_enter Try.func3, Try.ntmps3
    go_wp2_with (go_at_call 9; refine (awake_any _).mono ?_; rintro e w1 ⟨rfl, hb⟩)
    go_ret
    exact ⟨rfl, hb⟩
  have hd3 : (decide (300 < n) && decide (n ≤ 65535)) = false := by
    rw [Bool.eq_false_iff]; intro h; simp at h; exact h3 h
  obtain ⟨i0, hi0, hz0, hz1, hz2⟩ := info_parts u8_info
  obtain ⟨i1, hi1, hy0, hy1, hy2⟩ := info_parts row_info
  go_enter Try.func3, Try.ntmps3
  go_upto_region 1 with fail
  go_cut [35] (fun s wx => s = .bool false ∧ wx = w)
  case first =>
    by_cases hn0 : 300 < n
    · have hd4 : decide (300 < n) = true := by simp; omega
      have hd5 : decide (n ≤ 65535) = false := by simp; omega
      clear hd3
      go_wp2_with fail
      go_meet
      exact ⟨rfl, rfl⟩
    · have hd4 : decide (300 < n) = false := by simp; omega
      clear hd3
      go_wp2_with fail
      go_meet
      exact ⟨rfl, rfl⟩
  case rest =>
    obtain ⟨rfl, rfl⟩ := hcut
    go_wp2_with fail
    go_loopw [7, 8] (fun v i wr => ∃ k : Nat, k ≤ m ∧ i = .int .i64 k ∧ Hid (Copied wc.heap.size v k xss wr) ∧ Below wc.heap.size wc wr) (fun v i wr => m - (intOf i).toNat)
    case atStart => exact ⟨0, by omega, rfl, copied_zero _ _ _, Below.refl _ _⟩
    case round =>
      obtain ⟨w, rfl⟩ : ∃ w, w = wc := ⟨_, rfl⟩
      obtain ⟨k, hk, rfl, HC, hb⟩ := hrel
      by_cases hlt : k < m
      · have hkx : k < xss.length := by rw [← HM.out]; exact hlt
        obtain ⟨A1, c1, ev, hcr, hll, hrd⟩ := HL.out.2.at_ hkx
        obtain ⟨b, off, rfl, hbl, hcc⟩ := HL.out.1.form (by omega)
        have hc' := (hb.cell (p := ⟨b, off + k, none⟩) hbl).trans (hcc k _ ev)
        have HB := Lib.hid (hrd.below hb)
        clear hcc ev hrd
        by_cases hlen : 100 < xss[k].length
        · have hd6 : decide ((100 : Int) < (xss[k].length : Int)) = true := by simp; omega
          go_wp2_with (go_at_call 9; refine (awake_any _).mono ?_; rintro e w1 ⟨rfl, hb1⟩)
          go_ret
          exact ⟨rfl, below_base hb hb1 hb.size⟩
        · have hd6 : decide ((100 : Int) < (xss[k].length : Int)) = false := by simp; omega
          have hx100 : xss[k].length ≤ 100 := by omega
          obtain ⟨vs', hown, hRP⟩ := HC.out
          have HO := Lib.hid (And.intro hown hRP)
          clear hown hRP HC
          go_wp2_with fail
          refine (copy_any HB.out (by omega)).mono ?_
          rintro e w1 ⟨v1, rfl, ho1, hb1⟩
          obtain ⟨A2, c2, rfl, hc2, _, _, _⟩ := own_form ho1
          have HO1 := Lib.hid (And.intro ho1 hb1)
          have hs1 := hb1.size
          have hs0 := hb.size
          clear ho1 hb1
          go_wp2_with (at_builtin; refine wpList_append_rd _ rfl (.tmp 50) (.tmp 56) _ rfl w.heap.size 23 i1 _ 1 24 Try.underlying22 hi1 hy0 hy1 hy2 rfl (by omega) u7 k vs' rfl ((own_below HO.out.1 HO1.out.2).alloc _) _ 1 1 [.slice A2 xss[k].length c2] rfl (by exact Rd.lit _ _ _ _ rfl _ rfl _ rfl) slice_one (by simp only [maxLen]; omega) (by omega) (by simp; omega) ?_; intro v3 w3 hown3 hg3 hat3)
          refine ⟨⟨k + 1, by omega, by go_num, ?_, ?_⟩, by simp [intOf]; omega⟩
          · exact copied_succ hkx HO.out.1 HO.out.2 HO1.out.1 HO1.out.2 hc2 hx100 _ hown3 hg3 hat3
          · exact ((below_base hb HO1.out.2 hs0).alloc (by omega) _).grown hg3 (by simp; omega) (fun j hj => (HO.out.1.lt j hj).1)
      · obtain rfl : k = m := by omega
        obtain ⟨vs', hown, hRP⟩ := HC.out
        have e1 : xss.take k = xss := List.take_of_length_le (by rw [HM.out]; exact Nat.le_refl _)
        rw [e1] at hRP
        obtain ⟨A7, c7, rfl, hc7, _, hl7, _⟩ := own_form hown
        have HO := Lib.hid (And.intro hown (And.intro hRP.rows hb))
        clear hown hRP HC hb e1 hl7
        go_wp2_with fail
        refine (copy_any (HY.out.below HO.out.2.2) hn').mono ?_
        rintro e w5 ⟨v9, rfl, ho9, hb5⟩
        obtain ⟨A9, c9, rfl, hc9, _, _, _⟩ := own_form ho9
        have hown5 := own_below HO.out.1 hb5
        have hrow5 := HO.out.2.1.below hb5
        have hbw5 := below_base HO.out.2.2 hb5 HO.out.2.2.size
        have H5 := Lib.hid (And.intro hown5 (And.intro hrow5 (And.intro ho9 hbw5)))
        clear hown5 hrow5 ho9 hbw5 hb5
        go_wp2_with fail
        refine (all_any (Rd.of_own H5.out.1) H5.out.2.1 (by omega)).mono ?_
        rintro e w6 ⟨v10, rfl, ho6, hb6⟩
        obtain ⟨A6, c6, rfl, hc6, _, _, _⟩ := own_form ho6
        have H6 := Lib.hid (And.intro ho6 hb6)
        clear ho6 hb6
        go_wp2_with fail
        refine (refAll_any (n := n) (c := c) ((HL.out.1.below H5.out.2.2.2).below H6.out.2) ((HL.out.2.below H5.out.2.2.2).below H6.out.2) (by omega)).mono ?_
        rintro e w7 ⟨v12, rfl, ho7, hb7⟩
        obtain ⟨A7', c7', rfl, hc7', _, _, _⟩ := own_form ho7
        have H7 := Lib.hid (And.intro ho7 hb7)
        clear ho7 hb7
        go_wp2_with fail
        refine (pad_any (((Rd.of_own H5.out.2.2.1).below H6.out.2).below H7.out.2) (by omega) n).mono ?_
        rintro e w8 ⟨v14, rfl, ho8, hb8⟩
        obtain ⟨A8, c8, rfl, hc8, _, _, _⟩ := own_form ho8
        have H8 := Lib.hid (And.intro ho8 hb8)
        clear ho8 hb8
        go_wp2_with fail
        refine (refPad_any (c := c') ((((HY.out.below H5.out.2.2.2).below H6.out.2).below H7.out.2).below H8.out.2) (by omega) n).mono ?_
        rintro e w9 ⟨v16, rfl, ho9, hb9⟩
        obtain ⟨A9', c9', rfl, hc9', _, _, _⟩ := own_form ho9
        have H9 := Lib.hid (And.intro ho9 hb9)
        clear ho9 hb9
        have hs5 := H5.out.2.2.2.size
        have hs6 := H6.out.2.size
        have hs7 := H7.out.2.size
        have hs8 := H8.out.2.size
        have hs9 := H9.out.2.size
        have hx9 := own_below (own_below (own_below H6.out.1 H7.out.2) H8.out.2) H9.out.2
        have hy9 := own_below (own_below H7.out.1 H8.out.2) H9.out.2
        have hp9 := own_below H8.out.1 H9.out.2
        have hq9 := H9.out.1
        have h69 : Below w6.heap.size w6 w9 := below_base (below_base H7.out.2 H8.out.2 hs7) H9.out.2 (by omega)
        have h59 : Below w5.heap.size w5 w9 := below_base H6.out.2 h69 hs6
        have hE1 : (allE n xss == allE n xss) = true := by simp
        have hE2 : (padE ys n == padE ys n) = true := by simp
        have HH := Lib.hid (And.intro hx9 (And.intro hy9 (And.intro hp9 (And.intro hq9 (And.intro h59 h69)))))
        clear hx9 hy9 hp9 hq9 h59 h69
        go_wp2_with fail
        refine (same_true (Rd.of_own HH.out.1) (Rd.of_own HH.out.2.1)).mono ?_
        rintro e w' ⟨rfl, rfl⟩
        go_wp2_with fail
        refine (same_true (Rd.of_own HH.out.2.2.1) (Rd.of_own HH.out.2.2.2.1)).mono ?_
        rintro e w' ⟨rfl, rfl⟩
        go_wp2_with fail
        obtain ⟨gx, hmx, hgx, hgx'⟩ := Mut.of_own_below H6.out.1 HH.out.2.2.2.2.2 (by omega)
        obtain ⟨gp, hmp, hgp, hgp'⟩ := Mut.of_own_below H8.out.1 H9.out.2 (by omega)
        have hne : gp ≠ gx ∨ ((padV ys n).length = 0) := by omega
        refine (over_any hmx (by
          have : (allV n xss).length ≤ 65535 := by
            unfold allV; split
            · split
              · rename_i h _; rw [sumL_length (by assumption)]; omega
              · simp
            · simp
          omega)).mono ?_
        rintro e w10 ⟨rfl, hu10⟩
        have hmp10 : Mut w10 A8 (padV ys n).length gp 0 (bys (padV ys n)) := by
          rcases hne with h | h
          · exact hmp.grown hu10.1 (by simpa using h)
          · exact ⟨by rw [bys_length], fun h' => absurd h' (by omega)⟩
        have h510 := hu10.below HH.out.2.2.2.2.1 HH.out.2.2.2.2.1.size hgx
        have H10 := Lib.hid (And.intro hmp10 h510)
        clear hmp10 h510 hu10 hmx hmp hne hgx' hgp'
        go_wp2_with fail
        refine (over_any H10.out.1 (by
          have : (padV ys n).length ≤ 140737488351232 := by
            have hl : ys.length = n' := by have := HY.out.1; rw [bys_length] at this; exact this
            unfold padV; split
            · split
              · simp; omega
              · simp
            · simp
          exact this)).mono ?_
        rintro e w11 ⟨rfl, hu11⟩
        have H11 := Lib.hid (hu11.below H10.out.2 H10.out.2.size (by omega))
        clear hu11
        go_wp2_with fail
        go_loopw [18, 19] (fun v i wr => ∃ j : Nat, j ≤ k ∧ v = .bool true ∧ i = .int .i64 j ∧ Hid (Below w5.heap.size w5 wr)) (fun v i wr => k - (intOf i).toNat)
        case atStart => exact ⟨0, by omega, rfl, rfl, H11⟩
        case round =>
          obtain ⟨w12, rfl⟩ : ∃ w12, w12 = wr := ⟨_, rfl⟩
          obtain ⟨j, hj, rfl, rfl, HB⟩ := hrel
          by_cases hlt2 : j < k
          · have hjx : j < xss.length := by rw [← HM.out]; exact hlt2
            obtain ⟨Aj, cj, evj, _, _, hrj⟩ := (H5.out.2.1.below HB.out).at_ hjx
            obtain ⟨Bj, dj, evj', _, _, hrj'⟩ := ((HL.out.2.below H5.out.2.2.2).below HB.out).at_ hjx
            obtain ⟨b1, o1, rfl, hbl1, hc1⟩ := ((Rd.of_own H5.out.1).below HB.out).form (by omega)
            obtain ⟨b2, o2, rfl, hbl2, hc2⟩ := ((HL.out.1.below H5.out.2.2.2).below HB.out).form (by omega)
            have hcj := hc1 j _ evj
            have hcj' := hc2 j _ evj'
            have HS := Lib.hid (And.intro hrj hrj')
            clear hc1 hc2 evj evj' hrj hrj'
            have j0 : (0 : Int) ≤ (j : Int) := by omega
            have jk : (j : Int) < (k : Int) := by omega
            go_wp2_with fail
            go_quiet ((go_at_call 15; exact Calls.quiet_of_same ((same_true (by exact HS.out.1) (by exact HS.out.2)).mono fun e w' h => ⟨h.1, h.2.symm⟩)))
            go_wp2_with fail
            refine ⟨⟨j + 1, by omega, rfl, by go_num, below_dN HB.out _⟩, by simp [intOf]; omega⟩
          · obtain rfl : j = k := by omega
            go_wp2_with fail
            refine (same_true ((Rd.of_own H5.out.2.2.1).below HB.out) ((HY.out.below H5.out.2.2.2).below HB.out)).mono ?_
            rintro e w' ⟨rfl, rfl⟩
            go_wp2_with fail
            refine (awake_any _).mono ?_
            rintro e w13 ⟨rfl, hb13⟩
            go_wp2
            go_ret
            exact ⟨rfl, below_base (below_base H5.out.2.2.2 HB.out hs5) hb13 (by have := HB.out.size; omega)⟩
theorem sums_stmt {w : World} {n : Int} {L A' : Option Addr} {m c n' c' : Nat} {vs : List Value} {xss : List (List UInt8)} {ys : List UInt8} (hwn : (Lit.int .i64 n).wf = true) (h1 : Rd w L m vs ∧ Rows_ w vs xss ∧ m ≤ c ∧ m ≤ 5864062014634 ∧ ∀ x ∈ xss, x.length ≤ 140737488351232)
    (h2 : Rd w A' n' (bys ys) ∧ n' ≤ c' ∧ n' ≤ 140737488351232) :
    Calls Try.prog 3 #[.int .i64 n, .slice L m c, .slice A' n' c'] w fun e w' => e = .returned (.bool true) ∧ Below w.heap.size w w' :=
  sums_walk hwn h1.1 h1.2.1 h1.2.2.1 h1.2.2.2.1 h2.1 h2.2.2 h2.2.1
end Go.Proofs.Ytkhedjildlokoaa
