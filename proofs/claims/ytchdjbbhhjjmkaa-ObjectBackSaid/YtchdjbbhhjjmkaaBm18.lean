/- block: the document's Join and Sum. -/
import Derived.Test.YtchdjbbhhjjmkaaBk18
namespace Go.Proofs.Ytchdjbbhhjjmkaa
open Go.RowKit
set_option linter.unusedVariables false
section
variable {w : World} {A : Option Addr} {n c : Nat} {xss : List (List UInt8)}
set_option maxRecDepth 100000 in
set_option maxHeartbeats 3200000 in
/-- the document's Join -/
theorem rjoin_any (h : Syms w A n xss) (hn : n ≤ 5864062014634) (z : Int) :
    Calls Try.prog 48 #[.slice A n c, .int .i64 z] w (Told w (jnV xss z) (jnE xss z)) := by
  have HC := Lib.hid (And.intro (bkrcheck_any (c := c) h hn) (And.intro h h.len))
  cases hb : bkB xss with
  | false =>
    have hE : jnE xss z = 2 := by unfold jnE; rw [hb]; rfl
    rw [jn_no hE (by omega), hE]
    have HE := Lib.hid (show bkE xss = 2 from by unfold bkE; rw [hb]; rfl)
    clear h hb hE hn
    go_enter Try.func48, Try.ntmps48
    go_wp2_with fail
    refine HC.out.1.mono ?_
    rintro e w1 ⟨rfl, hb1⟩
    rw [HE.out]
    have HB := Lib.hid hb1
    clear hb1
    go_wp2
    go_ret2
    exact ⟨_, rfl, World.ownsRow_nil _ _ _ _, HB.out⟩
  | true =>
    have hok := bkB_iff.1 hb
    have HE := Lib.hid (show bkE xss = 0 from by unfold bkE; rw [hb]; rfl)
    have HO := Lib.hid hok
    by_cases hz : z < 0
    · have hE : jnE xss z = 3 := by unfold jnE; rw [hb, if_pos rfl, if_pos hz]
      rw [jn_no hE (by omega), hE]
      have d1 : decide (z < 0) = true := by simpa using hz
      clear h hb hE hn hok hz
      go_enter Try.func48, Try.ntmps48
      go_wp2_with fail
      refine HC.out.1.mono ?_
      rintro e w1 ⟨rfl, hb1⟩
      rw [HE.out]
      have HB := Lib.hid hb1
      clear hb1
      go_wp2
      go_ret2
      exact ⟨_, rfl, World.ownsRow_nil _ _ _ _, HB.out⟩
    · have d1 : decide (z < 0) = false := by simpa using hz
      obtain ⟨m, rfl⟩ : ∃ m : Nat, z = m := ⟨z.toNat, by omega⟩
      have h0 : 0 < n := by rw [← HC.out.2.2]; exact hok.1.1
      obtain ⟨a, off, B, cc, rfl, ha, c0, _, _, _⟩ := h.at_ h0
      rw [Nat.add_zero] at c0
      have hl := h.len
      obtain ⟨s, hs⟩ : ∃ s, (xss.getD 0 []).length = s := ⟨_, rfl⟩
      rw [hs] at c0
      have hsz : 1 ≤ n ∧ n ≤ 65536 ∧ 1 ≤ s ∧ s ≤ 65535 := by have := hok.1; omega
      have hmul : n * s ≤ 4294967296 := by
        have := Nat.mul_le_mul hsz.2.1 hsz.2.2.2
        omega
      have hw : IntKind.i64.wrap ((n : Int) * (s : Int)) = ((n * s : Nat) : Int) := by rw [← Int.natCast_mul, IntKind.wrap_i64]; omega
      by_cases hlong : n * s < m
      · have hE : jnE xss m = 4 := by unfold jnE; rw [hb, if_pos rfl, if_neg hz, hl, hs, if_pos (by omega)]
        rw [jn_no hE (by omega), hE]
        have d2 : decide ((m : Int) > ((n * s : Nat) : Int)) = true := by simp; omega
        have d3 : decide (((n * s : Nat) : Int) < (m : Int)) = true := by simp; omega
        have d4 : decide (n * s < m) = true := by simpa using hlong
        have d5 : decide ((m : Int) > (n : Int) * (s : Int)) = true := by rw [← Int.natCast_mul]; exact d2
        have d6 : decide ((n : Int) * (s : Int) < (m : Int)) = true := by rw [← Int.natCast_mul]; exact d3
        clear h hb hE hn hok hz hlong hs hl hmul hsz
        go_enter Try.func48, Try.ntmps48
        go_wp2_with fail
        refine HC.out.1.mono ?_
        rintro e w1 ⟨rfl, hb1⟩
        rw [HE.out]
        have HB := Lib.hid hb1
        have c1 := (hb1.cell (p := ⟨a, off, none⟩) ha).trans c0
        clear hb1 c0
        go_wp2
        go_ret2
        exact ⟨_, rfl, World.ownsRow_nil _ _ _ _, HB.out⟩
      · have hE : jnE xss m = 0 := by unfold jnE; rw [hb, if_pos rfl, if_neg hz, hl, hs, if_neg (by omega)]
        have hV : jnV xss m = xss.flatten.take m := by unfold jnV; rw [hE, if_pos rfl, Int.toNat_natCast]
        rw [hV, hE]
        have hfl : xss.flatten.length = n * s := by rw [flat_eq hok.2, hl, hs]
        have HM := Lib.hid (And.intro hfl (And.intro (show m ≤ n * s by omega) (And.intro h (And.intro hl (And.intro (show ∀ x ∈ xss, x.length ≤ 65535 from fun x hx => by rw [hok.2 x hx]; exact hok.1.2.2.2) hsz)))))
        have d2 : decide ((m : Int) > ((n * s : Nat) : Int)) = false := by simp; omega
        have d3 : decide (((n * s : Nat) : Int) < (m : Int)) = false := by simp; omega
        have d4 : decide (n * s < m) = false := by simpa using hlong
        have d5 : decide ((m : Int) > (n : Int) * (s : Int)) = false := by rw [← Int.natCast_mul]; exact d2
        have d6 : decide ((n : Int) * (s : Int) < (m : Int)) = false := by rw [← Int.natCast_mul]; exact d3
        obtain ⟨i0, hi0, hz0, hz1, hz2⟩ := info_parts u8_info
        have hn' : (n : Int) ≤ 65536 := by omega
        clear h hb hE hV hn hok hz hlong hs hl hmul hsz hfl
        go_enter Try.func48, Try.ntmps48
        go_wp2_with fail
        refine HC.out.1.mono ?_
        rintro e w1 ⟨rfl, hb1⟩
        rw [HE.out]
        have HB := Lib.hid hb1
        have c1 := (hb1.cell (p := ⟨a, off, none⟩) ha).trans c0
        clear hb1 c0
        go_wp2
        clear c1 hw d1 d2 d3 d4 d5 d6
        go_loopw [6, 7] (fun v i wq => ∃ j : Nat, j ≤ n ∧ i = .int .i64 j ∧ wq.ownsRow w.heap.size 5 1 v (xss.take j).flatten.length (bys (xss.take j).flatten) ∧ Below w.heap.size w wq) (fun v i wq => n - (intOf i).toNat)
        case atStart => exact ⟨0, by omega, rfl, World.ownsRow_nil _ _ _ _, HB.out⟩
        case round =>
          obtain ⟨j, hj, rfl, how, hb⟩ := hrel
          by_cases hlt : j < n
          · obtain ⟨a', off', B', cc', e', _, c1, hr1, _, _⟩ := HM.out.2.2.1.at_ hlt
            injection e' with e'; injection e' with e1 e2
            subst e1; subst e2
            have c1 := (hb.cell (p := ⟨a, off + j, none⟩) ha).trans c1
            have hr1 := hr1.below hb
            have hkl : j < xss.length := by rw [HM.out.2.2.2.1]; exact hlt
            have hf := flat_take_succ hkl
            have hbt := HM.out.2.2.2.2.1 _ (List.getElem_mem hkl)
            rw [← getD_at hkl] at hbt
            have hfl := flat_le HM.out.2.2.2.2.1 j
            have km : (j : Int) < (n : Int) := by omega
            obtain ⟨x, hx⟩ : ∃ x, xss.getD j [] = x := ⟨_, rfl⟩
            rw [hx] at c1 hf hbt hr1
            obtain ⟨mm, hm⟩ : ∃ m, x.length = m := ⟨_, rfl⟩
            obtain ⟨F, hF⟩ : ∃ m, (xss.take j).flatten = m := ⟨_, rfl⟩
            rw [hm] at c1 hbt hr1
            rw [hF] at hf hfl how
            obtain ⟨q, hq⟩ : ∃ m, F.length = m := ⟨_, rfl⟩
            rw [hq] at hfl how
            have hq2 : q + mm ≤ 4294967296 := by
              have : j * 65535 ≤ 65535 * 65535 := Nat.mul_le_mul_right _ (by omega)
              omega
            have HL := Lib.hid (And.intro hlt (And.intro hf (And.intro hm (And.intro hq (And.intro how (And.intro hb hr1))))))
            obtain ⟨Av, cv, rfl, _⟩ := own_form how
            clear hf hm hx hF hq hfl hkl hj hlt how hb hr1 hbt
            go_wp2_with (at_builtin; refine wpList_append_rd _ rfl (.tmp 31) (.tmp 35) _ rfl w.heap.size 5 i0 _ 1 1 Try.underlying32 hi0 hz0 hz1 hz2 rfl (by omega) _ q (bys F) rfl HL.out.2.2.2.2.1 B' mm cc' (bys x) rfl (by rw [Nat.mul_one]; exact HL.out.2.2.2.2.2.2) (bys_one x) (by simp only [maxLen]; omega) (by omega) HL.out.2.2.2.2.2.1.size ?_; intro v6 w6 hown6 hg6 hat6; rw [← bys_append] at hown6)
            refine ⟨⟨j + 1, by have := HL.out.1; omega, by go_num, by rw [HL.out.2.1, List.length_append, HL.out.2.2.1, HL.out.2.2.2.1]; exact hown6, HL.out.2.2.2.2.2.1.grown hg6 HL.out.2.2.2.2.2.1.size fun k hk => (HL.out.2.2.2.2.1.lt k hk).1⟩, by have := HL.out.1; simp [intOf]; omega⟩
          · obtain rfl : j = n := by omega
            have htk : xss.take j = xss := List.take_of_length_le (by rw [HM.out.2.2.2.1]; exact Nat.le_refl _)
            rw [htk] at how
            obtain ⟨A2, c2, rfl, hc2, ho3⟩ := own_take (m := 0) how (k := m) (by rw [HM.out.1]; exact HM.out.2.1)
            have hml : m ≤ xss.flatten.length := by rw [HM.out.1]; exact HM.out.2.1
            have hmc : m ≤ c2 := by omega
            have HW := Lib.hid (And.intro ho3 hb)
            clear how hb hlt hj htk ho3
            go_wp2
            go_ret2
            exact ⟨_, rfl, HW.out.1, HW.out.2⟩
/-- Sets of symbols. -/
def bkS (k : Int) : Int → List Int → Bool
  | _, [] => true
  | last, x :: l => if x ≤ last ∨ k ≤ x then false else bkS k x l
theorem bkS_cons (k last x : Int) (l : List Int) : bkS k last (x :: l) = if x ≤ last ∨ k ≤ x then false else bkS k x l := rfl
/-- What Sum tells. -/
def smE (xss : List (List UInt8)) (set : List Int) : Int := if bkB xss then (if set = [] ∨ bkS xss.length (-1) set = false then 3 else 0) else 2
def smL (xss : List (List UInt8)) (set : List Int) : List UInt8 := sumL (xss.getD 0 []).length (set.map fun i => xss.getD i.toNat [])
def smV (xss : List (List UInt8)) (set : List Int) : List UInt8 := if smE xss set = 0 then smL xss set else []
theorem sm_no {xss : List (List UInt8)} {set : List Int} {E : Int} (h : smE xss set = E) (hE : E ≠ 0) : smV xss set = [] := by unfold smV; rw [h, if_neg hE]
theorem smL_succ {xss : List (List UInt8)} {set : List Int} {j : Nat} (hj : j < set.length) : smL xss (set.take (j + 1)) = xorL (smL xss (set.take j)) (xss.getD (gi set j).toNat []) := by
  unfold smL sumL
  rw [List.take_succ_eq_append_getElem hj, List.map_append, List.foldl_append, gi_get hj]; rfl
theorem smL_len {xss : List (List UInt8)} (hx : ∀ x ∈ xss, x.length = (xss.getD 0 []).length) {set : List Int} (hs : ∀ x ∈ set, 0 ≤ x ∧ x.toNat < xss.length) : (smL xss set).length = (xss.getD 0 []).length := by
  unfold smL
  apply sumL_length
  rw [List.all_eq_true]
  intro x h
  obtain ⟨i, hi, rfl⟩ := List.mem_map.1 h
  rw [beq_iff_eq, getD_at (hs i hi).2]
  exact hx _ (List.getElem_mem _)
end
end Go.Proofs.Ytchdjbbhhjjmkaa
