/- block: the document's Join and Sum. -/
import Derived.Test.YtdpmkijkniobpaaBk18
namespace Go.Proofs.Ytdpmkijkniobpaa
open Go.RowKit
set_option linter.unusedVariables false
section
variable {w : World} {A : Option Addr} {n c : Nat} {xss : List (List UInt8)}
set_option maxRecDepth 100000 in
set_option maxHeartbeats 3200000 in
/-- the document's Join -/
theorem rjoin_any (h : Syms w A n xss) (hn : n ≤ 5864062014634) (z : Int) :
    Calls Try.prog 19 #[.slice A n c, .int .i64 z] w (Told w (jnV xss z) (jnE xss z)) := by
  have HC := Lib.hid (And.intro (rcheck_any (c := c) h hn) (And.intro h h.len))
  cases hb : bkB xss with
  | false =>
    have hE : jnE xss z = 2 := by unfold jnE; rw [hb]; rfl
    rw [jn_no hE (by omega), hE]
    have HE := Lib.hid (show bkE xss = 2 from by unfold bkE; rw [hb]; rfl)
    clear h hb hE hn
    go_enter Try.func19, Try.ntmps19
    go_wp2_with fail
    refine HC.out.1.mono ?_
    rintro e w1 ⟨rfl, hb1⟩
    rw [HE.out]
    have HB := Lib.hid hb1
    clear hb1
    go_wp2
    go_ret2
    exact ⟨_, rfl, World.ownsRow_nil _ _ _ _, HB.out⟩
  | true =>
    have hok := bkB_iff.1 hb
    have HE := Lib.hid (show bkE xss = 0 from by unfold bkE; rw [hb]; rfl)
    have HO := Lib.hid hok
    by_cases hz : z < 0
    · have hE : jnE xss z = 3 := by unfold jnE; rw [hb, if_pos rfl, if_pos hz]
      rw [jn_no hE (by omega), hE]
      have d1 : decide (z < 0) = true := by simpa using hz
      clear h hb hE hn hok hz
      go_enter Try.func19, Try.ntmps19
      go_wp2_with fail
      refine HC.out.1.mono ?_
      rintro e w1 ⟨rfl, hb1⟩
      rw [HE.out]
      have HB := Lib.hid hb1
      clear hb1
      go_wp2
      go_ret2
      exact ⟨_, rfl, World.ownsRow_nil _ _ _ _, HB.out⟩
    · have d1 : decide (z < 0) = false := by simpa using hz
      obtain ⟨m, rfl⟩ : ∃ m : Nat, z = m := ⟨z.toNat, by omega⟩
      have h0 : 0 < n := by rw [← HC.out.2.2]; exact hok.1.1
      obtain ⟨a, off, B, cc, rfl, ha, c0, _, _, _⟩ := h.at_ h0
      rw [Nat.add_zero] at c0
      have hl := h.len
      obtain ⟨s, hs⟩ : ∃ s, (xss.getD 0 []).length = s := ⟨_, rfl⟩
      rw [hs] at c0
      have hsz : 1 ≤ n ∧ n ≤ 65536 ∧ 1 ≤ s ∧ s ≤ 65535 := by have := hok.1; omega
      have hmul : n * s ≤ 4294967296 := by
        have := Nat.mul_le_mul hsz.2.1 hsz.2.2.2
        omega
      have hw : IntKind.i64.wrap ((n : Int) * (s : Int)) = ((n * s : Nat) : Int) := by rw [← Int.natCast_mul, IntKind.wrap_i64]; omega
      by_cases hlong : n * s < m
      · have hE : jnE xss m = 4 := by unfold jnE; rw [hb, if_pos rfl, if_neg hz, hl, hs, if_pos (by omega)]
        rw [jn_no hE (by omega), hE]
        have d2 : decide ((m : Int) > ((n * s : Nat) : Int)) = true := by simp; omega
        have d3 : decide (((n * s : Nat) : Int) < (m : Int)) = true := by simp; omega
        have d4 : decide (n * s < m) = true := by simpa using hlong
        have d5 : decide ((m : Int) > (n : Int) * (s : Int)) = true := by rw [← Int.natCast_mul]; exact d2
        have d6 : decide ((n : Int) * (s : Int) < (m : Int)) = true := by rw [← Int.natCast_mul]; exact d3
        clear h hb hE hn hok hz hlong hs hl hmul hsz
        go_enter Try.func19, Try.ntmps19
        go_wp2_with fail
        refine HC.out.1.mono ?_
        rintro e w1 ⟨rfl, hb1⟩
        rw [HE.out]
        have HB := Lib.hid hb1
        have c1 := (hb1.cell (p := ⟨a, off, none⟩) ha).trans c0
        clear hb1 c0
        go_wp2
        go_ret2
        exact ⟨_, rfl, World.ownsRow_nil _ _ _ _, HB.out⟩
      · have hE : jnE xss m = 0 := by unfold jnE; rw [hb, if_pos rfl, if_neg hz, hl, hs, if_neg (by omega)]
        have hV : jnV xss m = xss.flatten.take m := by unfold jnV; rw [hE, if_pos rfl, Int.toNat_natCast]
        rw [hV, hE]
        have hfl : xss.flatten.length = n * s := by rw [flat_eq hok.2, hl, hs]
        have HM := Lib.hid (And.intro hfl (And.intro (show m ≤ n * s by omega) (And.intro h (And.intro hl (And.intro (show ∀ x ∈ xss, x.length ≤ 65535 from fun x hx => by rw [hok.2 x hx]; exact hok.1.2.2.2) hsz)))))
        have d2 : decide ((m : Int) > ((n * s : Nat) : Int)) = false := by simp; omega
        have d3 : decide (((n * s : Nat) : Int) < (m : Int)) = false := by simp; omega
        have d4 : decide (n * s < m) = false := by simpa using hlong
        have d5 : decide ((m : Int) > (n : Int) * (s : Int)) = false := by rw [← Int.natCast_mul]; exact d2
        have d6 : decide ((n : Int) * (s : Int) < (m : Int)) = false := by rw [← Int.natCast_mul]; exact d3
        obtain ⟨i0, hi0, hz0, hz1, hz2⟩ := info_parts u8_info
        have hn' : (n : Int) ≤ 65536 := by omega
        clear h hb hE hV hn hok hz hlong hs hl hmul hsz hfl
        go_enter Try.func19, Try.ntmps19
        go_wp2_with fail
        refine HC.out.1.mono ?_
        rintro e w1 ⟨rfl, hb1⟩
        rw [HE.out]
        have HB := Lib.hid hb1
        have c1 := (hb1.cell (p := ⟨a, off, none⟩) ha).trans c0
        clear hb1 c0
        go_wp2
        clear c1 hw d1 d2 d3 d4 d5 d6
        go_loopw [6, 7] (fun v i wq => ∃ j : Nat, j ≤ n ∧ i = .int .i64 j ∧ wq.ownsRow w.heap.size 5 1 v (xss.take j).flatten.length (bys (xss.take j).flatten) ∧ Below w.heap.size w wq) (fun v i wq => n - (intOf i).toNat)
        case atStart => exact ⟨0, by omega, rfl, World.ownsRow_nil _ _ _ _, HB.out⟩
        case round =>
          obtain ⟨j, hj, rfl, how, hb⟩ := hrel
          by_cases hlt : j < n
          · obtain ⟨a', off', B', cc', e', _, c1, hr1, _, _⟩ := HM.out.2.2.1.at_ hlt
            injection e' with e'; injection e' with e1 e2
            subst e1; subst e2
            have c1 := (hb.cell (p := ⟨a, off + j, none⟩) ha).trans c1
            have hr1 := hr1.below hb
            have hkl : j < xss.length := by rw [HM.out.2.2.2.1]; exact hlt
            have hf := flat_take_succ hkl
            have hbt := HM.out.2.2.2.2.1 _ (List.getElem_mem hkl)
            rw [← getD_at hkl] at hbt
            have hfl := flat_le HM.out.2.2.2.2.1 j
            have km : (j : Int) < (n : Int) := by omega
            obtain ⟨x, hx⟩ : ∃ x, xss.getD j [] = x := ⟨_, rfl⟩
            rw [hx] at c1 hf hbt hr1
            obtain ⟨mm, hm⟩ : ∃ m, x.length = m := ⟨_, rfl⟩
            obtain ⟨F, hF⟩ : ∃ m, (xss.take j).flatten = m := ⟨_, rfl⟩
            rw [hm] at c1 hbt hr1
            rw [hF] at hf hfl how
            obtain ⟨q, hq⟩ : ∃ m, F.length = m := ⟨_, rfl⟩
            rw [hq] at hfl how
            have hq2 : q + mm ≤ 4294967296 := by
              have : j * 65535 ≤ 65535 * 65535 := Nat.mul_le_mul_right _ (by omega)
              omega
            have HL := Lib.hid (And.intro hlt (And.intro hf (And.intro hm (And.intro hq (And.intro how (And.intro hb hr1))))))
            obtain ⟨Av, cv, rfl, _⟩ := own_form how
            clear hf hm hx hF hq hfl hkl hj hlt how hb hr1 hbt
            go_wp2_with (at_builtin; refine wpList_append_rd _ rfl (.tmp 31) (.tmp 35) _ rfl w.heap.size 5 i0 _ 1 1 Try.underlying22 hi0 hz0 hz1 hz2 rfl (by omega) _ q (bys F) rfl HL.out.2.2.2.2.1 B' mm cc' (bys x) rfl (by rw [Nat.mul_one]; exact HL.out.2.2.2.2.2.2) (bys_one x) (by simp only [maxLen]; omega) (by omega) HL.out.2.2.2.2.2.1.size ?_; intro v6 w6 hown6 hg6 hat6; rw [← bys_append] at hown6)
            refine ⟨⟨j + 1, by have := HL.out.1; omega, by go_num, by rw [HL.out.2.1, List.length_append, HL.out.2.2.1, HL.out.2.2.2.1]; exact hown6, HL.out.2.2.2.2.2.1.grown hg6 HL.out.2.2.2.2.2.1.size fun k hk => (HL.out.2.2.2.2.1.lt k hk).1⟩, by have := HL.out.1; simp [intOf]; omega⟩
          · obtain rfl : j = n := by omega
            have htk : xss.take j = xss := List.take_of_length_le (by rw [HM.out.2.2.2.1]; exact Nat.le_refl _)
            rw [htk] at how
            obtain ⟨A2, c2, rfl, hc2, ho3⟩ := own_take (m := 0) how (k := m) (by rw [HM.out.1]; exact HM.out.2.1)
            have hml : m ≤ xss.flatten.length := by rw [HM.out.1]; exact HM.out.2.1
            have hmc : m ≤ c2 := by omega
            have HW := Lib.hid (And.intro ho3 hb)
            clear how hb hlt hj htk ho3
            go_wp2
            go_ret2
            exact ⟨_, rfl, HW.out.1, HW.out.2⟩
/-- Sets of symbols. -/
def bkS (k : Int) : Int → List Int → Bool
  | _, [] => true
  | last, x :: l => if x ≤ last ∨ k ≤ x then false else bkS k x l
theorem bkS_cons (k last x : Int) (l : List Int) : bkS k last (x :: l) = if x ≤ last ∨ k ≤ x then false else bkS k x l := rfl
/-- What Sum tells. -/
def smE (xss : List (List UInt8)) (set : List Int) : Int := if bkB xss then (if set = [] ∨ bkS xss.length (-1) set = false then 3 else 0) else 2
def smL (xss : List (List UInt8)) (set : List Int) : List UInt8 := sumL (xss.getD 0 []).length (set.map fun i => xss.getD i.toNat [])
def smV (xss : List (List UInt8)) (set : List Int) : List UInt8 := if smE xss set = 0 then smL xss set else []
theorem sm_no {xss : List (List UInt8)} {set : List Int} {E : Int} (h : smE xss set = E) (hE : E ≠ 0) : smV xss set = [] := by unfold smV; rw [h, if_neg hE]
theorem smL_succ {xss : List (List UInt8)} {set : List Int} {j : Nat} (hj : j < set.length) : smL xss (set.take (j + 1)) = xorL (smL xss (set.take j)) (xss.getD (gi set j).toNat []) := by
  unfold smL sumL
  rw [List.take_succ_eq_append_getElem hj, List.map_append, List.foldl_append, gi_get hj]; rfl
theorem smL_len {xss : List (List UInt8)} (hx : ∀ x ∈ xss, x.length = (xss.getD 0 []).length) {set : List Int} (hs : ∀ x ∈ set, 0 ≤ x ∧ x.toNat < xss.length) : (smL xss set).length = (xss.getD 0 []).length := by
  unfold smL
  apply sumL_length
  rw [List.all_eq_true]
  intro x h
  obtain ⟨i, hi, rfl⟩ := List.mem_map.1 h
  rw [beq_iff_eq, getD_at (hs i hi).2]
  exact hx _ (List.getElem_mem _)
set_option maxRecDepth 100000 in
set_option maxHeartbeats 6400000 in
/-- the document's Sum -/
theorem rsum_any {B : Option Addr} {m d : Nat} {set : List Int} (h : Syms w A n xss) (hn : n ≤ 5864062014634) (hr : Rd w B m (nums set)) (hm : m ≤ 1000000) :
    Calls Try.prog 21 #[.slice A n c, .slice B m d] w (Told w (smV xss set) (smE xss set)) := by
  have hsl : set.length = m := by have := hr.1; simpa [nums_length] using this
  have HC := Lib.hid (And.intro (rcheck_any (c := c) h hn) (And.intro h h.len))
  cases hb : bkB xss with
  | false =>
    have hE : smE xss set = 2 := by unfold smE; rw [hb]; rfl
    rw [sm_no hE (by omega), hE]
    have HE := Lib.hid (show bkE xss = 2 from by unfold bkE; rw [hb]; rfl)
    clear h hb hE hn hr hsl
    go_enter Try.func21, Try.ntmps21
    go_wp2_with fail
    refine HC.out.1.mono ?_
    rintro e w1 ⟨rfl, hb1⟩
    rw [HE.out]
    have HB := Lib.hid hb1
    clear hb1
    go_wp2
    go_ret2
    exact ⟨_, rfl, World.ownsRow_nil _ _ _ _, HB.out⟩
  | true =>
    have hok := bkB_iff.1 hb
    have HE := Lib.hid (show bkE xss = 0 from by unfold bkE; rw [hb]; rfl)
    rcases Nat.eq_zero_or_pos m with h0 | h0
    · subst h0
      have he : set = [] := List.eq_nil_of_length_eq_zero hsl
      have hE : smE xss set = 3 := by unfold smE; rw [hb, if_pos rfl, if_pos (.inl he)]
      rw [sm_no hE (by omega), hE]
      clear h hb hE hn hr hsl hok he
      go_enter Try.func21, Try.ntmps21
      go_wp2_with fail
      refine HC.out.1.mono ?_
      rintro e w1 ⟨rfl, hb1⟩
      rw [HE.out]
      have HB := Lib.hid hb1
      clear hb1
      go_wp2
      go_ret2
      exact ⟨_, rfl, World.ownsRow_nil _ _ _ _, HB.out⟩
    · have hne : set ≠ [] := fun e => by rw [e] at hsl; simp at hsl; omega
      have hd0 : ((m : Int) == 0) = false := by simp; omega
      have hn0 : 0 < n := by rw [← HC.out.2.2]; exact hok.1.1
      obtain ⟨a, off0, B0, cc, rfl, ha, c0, _, _, _⟩ := h.at_ hn0
      rw [Nat.add_zero] at c0
      have hl := h.len
      obtain ⟨s, hs⟩ : ∃ s, (xss.getD 0 []).length = s := ⟨_, rfl⟩
      rw [hs] at c0
      have hsz : 1 ≤ n ∧ n ≤ 65536 ∧ 1 ≤ s ∧ s ≤ 65535 := by have := hok.1; omega
      obtain ⟨i0, hi0, hz0, hz1, hz2⟩ := info_parts u8_info
      have HO := Lib.hid (And.intro hb (And.intro (show bkS xss.length (-1) set = bkS n (-1) set from by rw [hl]) (And.intro hok.2 (And.intro hs hne))))
      have H := Lib.hid (And.intro hr (And.intro hsz (And.intro h (And.intro hl (And.intro hs hsl)))))
      have hm' : (m : Int) ≤ 1000000 := by omega
      have hn' : (n : Int) ≤ 65536 := by omega
      have hs' : s ≤ 65535 := hsz.2.2.2
      clear h hb hn hr hsl hok hne hs hl hsz h0
      go_enter Try.func21, Try.ntmps21
      go_wp2_with fail
      refine HC.out.1.mono ?_
      rintro e w1 ⟨rfl, hb1⟩
      rw [HE.out]
      have HB1 := Lib.hid hb1
      have c1 := (hb1.cell (p := ⟨a, off0, none⟩) ha).trans c0
      clear hb1 c0
      go_wp2_with (at_make; refine wpList_make_full _ rfl _ _ 22 rfl w1.heap.size 5 i0 (.int .u8 0) 1 Try.underlying22 hi0 hz0 hz1 .i64 .i64 _ _ s rfl rfl rfl rfl (by rw [hz2]; omega) (by simp only [maxLen]; omega) (Nat.le_refl _) ?_; intro w2 hown hg; rw [zeros_bys] at hown; have H2 := Lib.hid (And.intro (own_mono hown HB1.out.size) (below_base HB1.out (below_of_grownN hg) HB1.out.size)); clear hown hg)
      clear c1
      go_loopw [6, 7] (fun v i wr => ∃ (j : Nat) (last : Int), j ≤ m ∧ i = .int .i64 j ∧ (j = 0 → last = -1) ∧ (0 < j → last = gi set (j - 1) ∧ 0 ≤ last) ∧ bkS n last (set.drop j) = bkS n (-1) set ∧ wr.ownsRow w.heap.size 5 1 v s (bys (smL xss (set.take j))) ∧ Below w.heap.size w wr ∧ ∀ x ∈ set.take j, 0 ≤ x ∧ x.toNat < xss.length) (fun v i wr => m - (intOf i).toNat)
      case atStart => exact ⟨0, -1, by omega, rfl, fun _ => rfl, fun h => by omega, rfl, by rw [List.take_zero]; unfold smL sumL; rw [HO.out.2.2.2.1]; exact H2.out.1, H2.out.2, fun x hx => by simp at hx⟩
      case round =>
        obtain ⟨j, last, hj, rfl, h0, h1, ho, how, hb, hall⟩ := hrel
        clear H2
        by_cases hlt : j < m
        · obtain ⟨b, off, rfl, hbl, hcc⟩ := (H.out.1.below hb).form (by omega)
          have hjl : j < set.length := by rw [H.out.2.2.2.2.2]; exact hlt
          have cx := hcc j _ (nums_gi hjl)
          rw [List.drop_eq_getElem_cons hjl, ← gi_get hjl, bkS_cons] at ho
          have km : (j : Int) < (m : Int) := by omega
          obtain ⟨x, hx⟩ : ∃ x, gi set j = x := ⟨_, rfl⟩
          rw [hx] at cx ho
          by_cases g1 : x < 0
          · have d1 : decide (x < 0) = true := by simpa using g1
            have hwit : x ≤ last := by
              rcases Nat.eq_zero_or_pos j with e | e
              · rw [h0 e]; omega
              · have := (h1 e).2; omega
            cases j with
            | zero =>
              have k0 : 0 < m := hlt
              have cx0 : wr.cell? ⟨b, off, none⟩ = some (.int .i64 x) := cx
              have HB := Lib.hid (And.intro (show smE xss set = 3 from by unfold smE; rw [HO.out.1, if_pos rfl, if_pos (.inr (show bkS xss.length (-1) set = false from by rw [HO.out.2.1, ← ho, if_pos (.inl hwit)]))]) hb)
              clear hcc hbl ho h0 h1 hx hjl hj hlt hb how hall g1 hwit
              go_wp2_with fail
              go_quiet (fail)
              go_wp2
              go_ret2
              rw [sm_no HB.out.1 (by omega), HB.out.1]
              exact ⟨_, rfl, World.ownsRow_nil _ _ _ _, below_dN HB.out.2 _⟩
            | succ j =>
              have HB := Lib.hid (And.intro (show smE xss set = 3 from by unfold smE; rw [HO.out.1, if_pos rfl, if_pos (.inr (show bkS xss.length (-1) set = false from by rw [HO.out.2.1, ← ho, if_pos (.inl hwit)]))]) hb)
              clear hcc hbl ho h0 h1 hx hjl hj hlt hb how hall g1 hwit
              go_wp2_with fail
              go_quiet (fail)
              go_wp2
              go_ret2
              rw [sm_no HB.out.1 (by omega), HB.out.1]
              exact ⟨_, rfl, World.ownsRow_nil _ _ _ _, below_dN HB.out.2 _⟩
          · have d1 : decide (x < 0) = false := by simpa using g1
            by_cases g2 : (n : Int) ≤ x
            · have d2 : decide (x ≥ (n : Int)) = true := by simpa using g2
              have d3 : decide ((n : Int) ≤ x) = true := by simpa using g2
              cases j with
              | zero =>
                have k0 : 0 < m := hlt
                have cx0 : wr.cell? ⟨b, off, none⟩ = some (.int .i64 x) := cx
                have HB := Lib.hid (And.intro (show smE xss set = 3 from by unfold smE; rw [HO.out.1, if_pos rfl, if_pos (.inr (show bkS xss.length (-1) set = false from by rw [HO.out.2.1, ← ho, if_pos (.inr g2)]))]) hb)
                clear hcc hbl ho h0 h1 hx hjl hj hlt hb how hall g1 g2
                go_wp2_with fail
                go_quiet (fail)
                go_wp2
                go_ret2
                rw [sm_no HB.out.1 (by omega), HB.out.1]
                exact ⟨_, rfl, World.ownsRow_nil _ _ _ _, below_dN HB.out.2 _⟩
              | succ j =>
                have HB := Lib.hid (And.intro (show smE xss set = 3 from by unfold smE; rw [HO.out.1, if_pos rfl, if_pos (.inr (show bkS xss.length (-1) set = false from by rw [HO.out.2.1, ← ho, if_pos (.inr g2)]))]) hb)
                clear hcc hbl ho h0 h1 hx hjl hj hlt hb how hall g1 g2
                go_wp2_with fail
                go_quiet (fail)
                go_wp2
                go_ret2
                rw [sm_no HB.out.1 (by omega), HB.out.1]
                exact ⟨_, rfl, World.ownsRow_nil _ _ _ _, below_dN HB.out.2 _⟩
            · have d2 : decide (x ≥ (n : Int)) = false := by simpa using g2
              have d3 : decide ((n : Int) ≤ x) = false := by simpa using g2
              obtain ⟨p, rfl⟩ : ∃ p : Nat, x = p := ⟨x.toNat, by omega⟩
              have hp : p < xss.length := by rw [H.out.2.2.2.1]; omega
              have d4 : decide (n ≤ p) = false := by simp; omega
              cases j with
              | zero =>
                have e0 := h0 rfl
                subst e0
                rw [if_neg (by omega)] at ho
                have d5 : decide (((0 : Nat) : Int) > 0) = false := by simp
                have d6 : decide ((0 : Int) < ((0 : Nat) : Int)) = false := by simp
                have k0 : 0 < m := hlt
                have cx0 : wr.cell? ⟨b, off, none⟩ = some (.int .i64 (p : Int)) := cx
                have HK := Lib.hid (And.intro ho (And.intro hb (And.intro hlt (And.intro hx (And.intro how (And.intro hp hall))))))
                have HS := Lib.hid (smL_succ (xss := xss) hjl)
                obtain ⟨a2, off2, B2, cc2, e2, ha2, c2, hr2, hcc2, _⟩ := H.out.2.2.1.at_ (i := p) (by have := H.out.2.2.2.1; omega)
                have hxl2 : (xss.getD p []).length = s := by rw [getD_at (by have := H.out.2.2.2.1; omega), HO.out.2.2.1 _ (List.getElem_mem _), HO.out.2.2.2.1]
                rw [hxl2] at c2 hr2 hcc2
                have c2 := (hb.cell (p := ⟨a2, off2 + p, none⟩) ha2).trans c2
                have hlen : (smL xss (set.take 0)).length = s := by rw [smL_len HO.out.2.2.1 hall, HO.out.2.2.2.1]
                have HR2 := Lib.hid (And.intro (hr2.below hb) (And.intro hxl2 hlen))
                have kp : (p : Int) < (n : Int) := by omega
                injection e2 with e2; injection e2 with q1 q2
                subst q1; subst q2
                clear hcc hbl ho h0 h1 hx hjl hj hlt hb how hall hp hxl2 hlen hr2 g1 g2
                go_wp2_with fail
                go_quiet (fail)
                have ho7 := own_below HK.out.2.2.2.2.1 (below_dN (Below.refl wr.heap.size wr) nq)
                obtain ⟨A7, c7, rfl, _⟩ := own_form ho7
                have H7 := Lib.hid (And.intro ho7 (And.intro (below_dN HK.out.2.1 nq) (HR2.out.1.drewN nq)))
                have cx7 : (wr.drewN nq).cell? ⟨b, off, none⟩ = some (.int .i64 (p : Int)) := cx0
                have c27 : (wr.drewN nq).cell? ⟨a, off0 + p, none⟩ = some (.slice B2 s cc2) := c2
                clear ho7 c2 cx cx0
                generalize wr.drewN nq = w7 at H7 cx7 c27 ⊢
                have HQ := Lib.hid (refXor_any (c := c7) (c' := cc2) (Rd.of_own H7.out.1) H7.out.2.2 (by omega))
                go_wp2_with fail
                refine HQ.out.mono ?_
                rintro e w8 ⟨v8, rfl, ho8, hb8⟩
                have hxv : xorV (smL xss (set.take 0)) (xss.getD p []) = smL xss (set.take (0 + 1)) := by
                  unfold xorV
                  rw [if_pos (by rw [HR2.out.2.1, HR2.out.2.2]), HS.out, HK.out.2.2.2.1, Int.toNat_natCast]
                have hlen2 : (smL xss (set.take (0 + 1))).length = s := by rw [← hxv]; unfold xorV; rw [if_pos (by rw [HR2.out.2.1, HR2.out.2.2]), xorL_length _ _ (by rw [HR2.out.2.1, HR2.out.2.2]), HR2.out.2.2]
                rw [hxv, hlen2] at ho8
                have H8 := Lib.hid (And.intro (own_mono ho8 H7.out.2.1.size) (below_base H7.out.2.1 hb8 H7.out.2.1.size))
                clear ho8 hb8 cx7 c27 hxv hlen2
                go_wp2
                exact ⟨⟨0 + 1, (p : Int), by have := HK.out.2.2.1; omega, by go_num, fun h => by omega, fun _ => ⟨HK.out.2.2.2.1.symm, by omega⟩, HK.out.1, H8.out.1, H8.out.2, fun x hx => by
                  have hjl : 0 < set.length := by rw [H.out.2.2.2.2.2]; exact HK.out.2.2.1
                  rw [List.take_succ_eq_append_getElem hjl, List.mem_append, List.mem_singleton] at hx
                  rcases hx with hx | rfl
                  · exact HK.out.2.2.2.2.2.2 x hx
                  · rw [← gi_get hjl, HK.out.2.2.2.1]; exact ⟨by omega, by rw [Int.toNat_natCast]; exact HK.out.2.2.2.2.2.1⟩⟩, by have := HK.out.2.2.1; simp [intOf]; omega⟩
              | succ i' =>
                have e1 := h1 (by omega)
                have d5 : decide (((i' + 1 : Nat) : Int) > 0) = true := by simp
                have d6 : decide ((0 : Int) < ((i' + 1 : Nat) : Int)) = true := by simp
                have cy := hcc i' _ (nums_gi (by omega))
                have hl2 : gi set i' = last := by rw [e1.1]; rfl
                rw [hl2] at cy
                have hw1 : IntKind.i64.wrap (((i' + 1 : Nat) : Int) - 1) = (i' : Int) := by rw [IntKind.wrap_i64]; omega
                have hw2 : wrap64 (((i' + 1 : Nat) : Int) - 1) = (i' : Int) := by unfold wrap64; omega
                have ki : (i' : Int) < (m : Int) := by omega
                have kj : (i' : Int) ≤ 1000000 := by omega
                by_cases g3 : (p : Int) ≤ last
                · have d7 : decide ((p : Int) ≤ last) = true := by simpa using g3
                  have HB := Lib.hid (And.intro (show smE xss set = 3 from by unfold smE; rw [HO.out.1, if_pos rfl, if_pos (.inr (show bkS xss.length (-1) set = false from by rw [HO.out.2.1, ← ho, if_pos (.inl g3)]))]) hb)
                  clear hcc hbl ho h0 h1 hx hjl hj hlt hb how hall g1 g2 g3 e1 hl2 hp
                  go_wp2_with fail
                  go_quiet (fail)
                  go_wp2
                  go_ret2
                  rw [sm_no HB.out.1 (by omega), HB.out.1]
                  exact ⟨_, rfl, World.ownsRow_nil _ _ _ _, below_dN HB.out.2 _⟩
                · have d7 : decide ((p : Int) ≤ last) = false := by simpa using g3
                  rw [if_neg (by omega)] at ho
                  have HK := Lib.hid (And.intro ho (And.intro hb (And.intro hlt (And.intro hx (And.intro how (And.intro hp hall))))))
                  have HS := Lib.hid (smL_succ (xss := xss) hjl)
                  obtain ⟨a2, off2, B2, cc2, e2, ha2, c2, hr2, hcc2, _⟩ := H.out.2.2.1.at_ (i := p) (by have := H.out.2.2.2.1; omega)
                  have hxl2 : (xss.getD p []).length = s := by rw [getD_at (by have := H.out.2.2.2.1; omega), HO.out.2.2.1 _ (List.getElem_mem _), HO.out.2.2.2.1]
                  rw [hxl2] at c2 hr2 hcc2
                  have c2 := (hb.cell (p := ⟨a2, off2 + p, none⟩) ha2).trans c2
                  have hlen : (smL xss (set.take (i' + 1))).length = s := by rw [smL_len HO.out.2.2.1 hall, HO.out.2.2.2.1]
                  have HR2 := Lib.hid (And.intro (hr2.below hb) (And.intro hxl2 hlen))
                  have kp : (p : Int) < (n : Int) := by omega
                  injection e2 with e2; injection e2 with q1 q2
                  subst q1; subst q2
                  clear hcc hbl ho h0 h1 hx hjl hj hlt hb how hall hp hxl2 hlen hr2 g1 g2 g3 e1 hl2
                  go_wp2_with fail
                  go_quiet (fail)
                  have ho7 := own_below HK.out.2.2.2.2.1 (below_dN (Below.refl wr.heap.size wr) nq)
                  obtain ⟨A7, c7, rfl, _⟩ := own_form ho7
                  have H7 := Lib.hid (And.intro ho7 (And.intro (below_dN HK.out.2.1 nq) (HR2.out.1.drewN nq)))
                  have cx7 : (wr.drewN nq).cell? ⟨b, off + (i' + 1), none⟩ = some (.int .i64 (p : Int)) := cx
                  have c27 : (wr.drewN nq).cell? ⟨a, off0 + p, none⟩ = some (.slice B2 s cc2) := c2
                  clear ho7 c2 cx cy
                  generalize wr.drewN nq = w7 at H7 cx7 c27 ⊢
                  have HQ := Lib.hid (refXor_any (c := c7) (c' := cc2) (Rd.of_own H7.out.1) H7.out.2.2 (by omega))
                  go_wp2_with fail
                  refine HQ.out.mono ?_
                  rintro e w8 ⟨v8, rfl, ho8, hb8⟩
                  have hxv : xorV (smL xss (set.take (i' + 1))) (xss.getD p []) = smL xss (set.take ((i' + 1) + 1)) := by
                    unfold xorV
                    rw [if_pos (by rw [HR2.out.2.1, HR2.out.2.2]), HS.out, HK.out.2.2.2.1, Int.toNat_natCast]
                  have hlen2 : (smL xss (set.take ((i' + 1) + 1))).length = s := by rw [← hxv]; unfold xorV; rw [if_pos (by rw [HR2.out.2.1, HR2.out.2.2]), xorL_length _ _ (by rw [HR2.out.2.1, HR2.out.2.2]), HR2.out.2.2]
                  rw [hxv, hlen2] at ho8
                  have H8 := Lib.hid (And.intro (own_mono ho8 H7.out.2.1.size) (below_base H7.out.2.1 hb8 H7.out.2.1.size))
                  clear ho8 hb8 cx7 c27 hxv hlen2
                  go_wp2
                  exact ⟨⟨(i' + 1) + 1, (p : Int), by have := HK.out.2.2.1; omega, by go_num, fun h => by omega, fun _ => ⟨HK.out.2.2.2.1.symm, by omega⟩, HK.out.1, H8.out.1, H8.out.2, fun x hx => by
                    have hjl : (i' + 1) < set.length := by rw [H.out.2.2.2.2.2]; exact HK.out.2.2.1
                    rw [List.take_succ_eq_append_getElem hjl, List.mem_append, List.mem_singleton] at hx
                    rcases hx with hx | rfl
                    · exact HK.out.2.2.2.2.2.2 x hx
                    · rw [← gi_get hjl, HK.out.2.2.2.1]; exact ⟨by omega, by rw [Int.toNat_natCast]; exact HK.out.2.2.2.2.2.1⟩⟩, by have := HK.out.2.2.1; simp [intOf]; omega⟩
        · obtain rfl : j = m := by omega
          have htk : set.take j = set := List.take_of_length_le (by rw [H.out.2.2.2.2.2]; exact Nat.le_refl _)
          rw [List.drop_eq_nil_of_le (by rw [H.out.2.2.2.2.2]; exact Nat.le_refl _)] at ho
          have hE : smE xss set = 0 := by
            unfold smE
            rw [HO.out.1, if_pos rfl, if_neg]
            rintro (e | e)
            · exact HO.out.2.2.2.2 e
            · rw [HO.out.2.1, ← ho] at e; cases e
          have hV : smV xss set = smL xss set := by unfold smV; rw [hE, if_pos rfl]
          rw [htk] at how hall
          have hlen : (smL xss set).length = s := by rw [smL_len HO.out.2.2.1 hall, HO.out.2.2.2.1]
          have HW := Lib.hid (And.intro how (And.intro hb (And.intro hE (And.intro hV hlen))))
          clear how hb hlt hj htk hE hV hlen hall ho h0 h1
          go_wp2
          go_ret2
          rw [HW.out.2.2.1, HW.out.2.2.2.1]
          exact ⟨_, rfl, by rw [HW.out.2.2.2.2]; exact HW.out.1, HW.out.2.1⟩
end
end Go.Proofs.Ytdpmkijkniobpaa
