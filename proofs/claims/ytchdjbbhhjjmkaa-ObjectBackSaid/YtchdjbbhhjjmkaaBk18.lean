/- block: Join; the document's Join. -/
import Derived.Test.YtchdjbbhhjjmkaaBj18
namespace Go.Proofs.Ytchdjbbhhjjmkaa
open Go.RowKit
set_option linter.unusedVariables false
theorem flat_take_succ {xss : List (List UInt8)} {k : Nat} (hk : k < xss.length) : (xss.take (k + 1)).flatten = (xss.take k).flatten ++ xss.getD k [] := by
  rw [List.take_succ_eq_append_getElem hk, List.flatten_append, getD_at hk]; simp
theorem flat_le {xss : List (List UInt8)} {b : Nat} (hx : ∀ x ∈ xss, x.length ≤ b) (k : Nat) : (xss.take k).flatten.length ≤ k * b := by
  induction k with
  | zero => simp
  | succ k ih =>
    rcases Nat.lt_or_ge k xss.length with h | h
    · rw [flat_take_succ h, List.length_append]
      have := hx _ (List.getElem_mem h)
      rw [getD_at h, Nat.succ_mul]; omega
    · rw [List.take_of_length_le (by omega)]
      rw [List.take_of_length_le h] at ih
      rw [Nat.succ_mul]; omega
theorem flat_eq {xss : List (List UInt8)} {b : Nat} (hx : ∀ x ∈ xss, x.length = b) : xss.flatten.length = xss.length * b := by
  induction xss with
  | nil => simp
  | cons x l ih =>
    rw [List.flatten_cons, List.length_append, ih (fun y hy => hx y (List.mem_cons_of_mem _ hy)), hx x (List.mem_cons_self ..), List.length_cons, Nat.succ_mul]; omega
set_option maxRecDepth 100000 in
set_option maxHeartbeats 3200000 in
/-- slices.Concat -/
theorem concat_any {w : World} {A : Option Addr} {n c : Nat} {xss : List (List UInt8)} (h : Syms w A n xss) (hn : n ≤ 65536) (hx : ∀ x ∈ xss, x.length ≤ 65535) :
    Calls Try.prog 59 #[.slice A n c] w fun e w' => ∃ v, e = .returned v ∧ w'.ownsRow w.heap.size 5 1 v xss.flatten.length (bys xss.flatten) ∧ Below w.heap.size w w' := by
  have H := Lib.hid (And.intro h (And.intro h.len hx))
  have hn' : (n : Int) ≤ 65536 := by omega
  obtain ⟨i0, hi0, hz0, hz1, hz2⟩ := info_parts u8_info
  clear h hx
  go_enter Try.func59, Try.ntmps59
  go_wp2
  go_loopw [3, 11] (fun v i wr => ∃ k : Nat, k ≤ n ∧ i = .int .i64 k ∧ v = .int .i64 ((xss.take k).flatten.length : Nat) ∧ w = wr) (fun v i wr => n - (intOf i).toNat)
  case atStart => exact ⟨0, by omega, rfl, rfl, rfl⟩
  case round =>
    obtain ⟨k, hk, rfl, rfl, rfl⟩ := hrel
    have hfl := flat_le H.out.2.2 k
    by_cases hlt : k < n
    · obtain ⟨a, off, B, cc, rfl, ha, c1, _, _, _⟩ := H.out.1.at_ hlt
      have hkl : k < xss.length := by rw [H.out.2.1]; exact hlt
      have hf := flat_take_succ hkl
      have hbt := H.out.2.2 _ (List.getElem_mem hkl)
      rw [← getD_at hkl] at hbt
      have km : (k : Int) < (n : Int) := by omega
      have hs : (xss.take (k + 1)).flatten.length = (xss.take k).flatten.length + (xss.getD k []).length := by rw [hf, List.length_append]
      obtain ⟨m, hm⟩ : ∃ m, (xss.getD k []).length = m := ⟨_, rfl⟩
      obtain ⟨q, hq⟩ : ∃ m, (xss.take k).flatten.length = m := ⟨_, rfl⟩
      rw [hm] at c1 hbt hs
      rw [hq] at hs hfl ⊢
      have hq2 : q + m ≤ 4294967296 := by
        have : k * 65535 ≤ 65535 * 65535 := Nat.mul_le_mul_right _ (by omega)
        omega
      have hw : IntKind.i64.wrap ((q : Int) + (m : Int)) = ((q + m : Nat) : Int) := by rw [IntKind.wrap_i64]; omega
      have hd : decide (((q + m : Nat) : Int) < 0) = false := by simp; omega
      have HL := Lib.hid (And.intro hlt hs)
      clear hf hm hq hfl hkl hk hlt hs
      go_wp2
      exact ⟨⟨k + 1, by have := HL.out.1; omega, by go_num, by rw [HL.out.2, Int.natCast_add], trivial⟩, by have := HL.out.1; simp [intOf]; omega⟩
    · obtain rfl : k = n := by omega
      have htk : xss.take k = xss := List.take_of_length_le (by rw [H.out.2.1]; exact Nat.le_refl _)
      rw [htk] at hfl ⊢
      have hq2 : xss.flatten.length ≤ 4294967296 := by
        have : k * 65535 ≤ 65536 * 65535 := Nat.mul_le_mul_right _ hn
        omega
      have HQ := Lib.hid hq2
      obtain ⟨q, hq⟩ : ∃ m, xss.flatten.length = m := ⟨_, rfl⟩
      rw [hq] at hq2 ⊢
      have HG := Lib.hid (grow_any (w := w) q (by omega))
      have HQq := Lib.hid hq
      clear hfl hlt hk htk hq
      go_wp2_with fail
      refine HG.out.mono ?_
      rintro e w2 ⟨v2, rfl, ho2, hb2⟩
      have H2 := Lib.hid (And.intro ho2 hb2)
      clear ho2 hb2
      go_wp2
      go_loopw [6, 27] (fun v i wq => ∃ j : Nat, j ≤ k ∧ i = .int .i64 j ∧ wq.ownsRow w.heap.size 5 1 v (xss.take j).flatten.length (bys (xss.take j).flatten) ∧ Below w.heap.size w wq) (fun v i wq => k - (intOf i).toNat)
      case atStart => exact ⟨0, by omega, rfl, H2.out.1, H2.out.2⟩
      case round =>
        obtain ⟨j, hj, rfl, how, hb⟩ := hrel
        by_cases hlt : j < k
        · obtain ⟨a, off, B, cc, rfl, ha, c1, hr1, _, _⟩ := H.out.1.at_ hlt
          have c1 := (hb.cell (p := ⟨a, off + j, none⟩) ha).trans c1
          have hr1 := hr1.below hb
          have hkl : j < xss.length := by rw [H.out.2.1]; exact hlt
          have hf := flat_take_succ hkl
          have hbt := H.out.2.2 _ (List.getElem_mem hkl)
          rw [← getD_at hkl] at hbt
          have hfl := flat_le H.out.2.2 j
          have km : (j : Int) < (k : Int) := by omega
          obtain ⟨x, hx⟩ : ∃ x, xss.getD j [] = x := ⟨_, rfl⟩
          rw [hx] at c1 hf hbt hr1
          obtain ⟨m, hm⟩ : ∃ m, x.length = m := ⟨_, rfl⟩
          obtain ⟨F, hF⟩ : ∃ m, (xss.take j).flatten = m := ⟨_, rfl⟩
          rw [hm] at c1 hbt hr1
          rw [hF] at hf hfl how
          obtain ⟨q, hq⟩ : ∃ m, F.length = m := ⟨_, rfl⟩
          rw [hq] at hfl how
          have hq2 : q + m ≤ 4294967296 := by
            have : j * 65535 ≤ 65535 * 65535 := Nat.mul_le_mul_right _ (by omega)
            omega
          have HL := Lib.hid (And.intro hlt (And.intro hf (And.intro hm (And.intro hq (And.intro how (And.intro hb hr1))))))
          obtain ⟨Av, cv, rfl, _⟩ := own_form how
          clear hf hm hx hF hq hfl hkl hj hlt how hb hr1 hbt
          go_wp2_with (at_builtin; refine wpList_append_rd _ rfl (.tmp 31) (.tmp 32) _ rfl w.heap.size 5 i0 _ 1 1 Try.underlying32 hi0 hz0 hz1 hz2 rfl (by omega) _ q (bys F) rfl HL.out.2.2.2.2.1 B m cc (bys x) rfl (by rw [Nat.mul_one]; exact HL.out.2.2.2.2.2.2) (bys_one x) (by simp only [maxLen]; omega) (by omega) HL.out.2.2.2.2.2.1.size ?_; intro v6 w6 hown6 hg6 hat6; rw [← bys_append] at hown6)
          refine ⟨⟨j + 1, by have := HL.out.1; omega, by go_num, by rw [HL.out.2.1, List.length_append, HL.out.2.2.1, HL.out.2.2.2.1]; exact hown6, HL.out.2.2.2.2.2.1.grown hg6 HL.out.2.2.2.2.2.1.size fun k hk => (HL.out.2.2.2.2.1.lt k hk).1⟩, by have := HL.out.1; simp [intOf]; omega⟩
        · obtain rfl : j = k := by omega
          have htk : xss.take j = xss := List.take_of_length_le (by rw [H.out.2.1]; exact Nat.le_refl _)
          rw [htk] at how
          have HW := Lib.hid (And.intro how hb)
          clear how hb hlt hj htk
          go_wp2
          go_ret
          exact ⟨_, rfl, HW.out.1, HW.out.2⟩
/-- What Join tells. -/
def jnE (xss : List (List UInt8)) (z : Int) : Int := if bkB xss then (if z < 0 then 3 else if ((xss.length * (xss.getD 0 []).length : Nat) : Int) < z then 4 else 0) else 2
def jnV (xss : List (List UInt8)) (z : Int) : List UInt8 := if jnE xss z = 0 then xss.flatten.take z.toNat else []
theorem jn_no {xss : List (List UInt8)} {z E : Int} (h : jnE xss z = E) (hE : E ≠ 0) : jnV xss z = [] := by unfold jnV; rw [h, if_neg hE]
section
variable {w : World} {A : Option Addr} {n c : Nat} {xss : List (List UInt8)}
theorem own_take {w : World} {base m : Nat} {v : Value} {l : List UInt8} {k : Nat} (h : w.ownsRow base 5 1 v l.length (bys l)) (hk : k ≤ l.length) : ∃ A c, v = .slice A l.length c ∧ l.length ≤ c ∧ w.ownsRow base 5 1 (.slice A k c) (l.take k).length (bys (l.take k)) := by
  obtain ⟨A, c, rfl, hc, _⟩ := own_form h
  refine ⟨A, c, rfl, hc, ?_⟩
  have := own_cut h hk
  rw [bys_take] at this
  rw [List.length_take, Nat.min_eq_left hk]
  exact this
set_option maxRecDepth 100000 in
set_option maxHeartbeats 3200000 in
/-- Join -/
theorem join_any (h : Syms w A n xss) (hn : n ≤ 5864062014634) (z : Int) :
    Calls Try.prog 46 #[.slice A n c, .int .i64 z] w (Told w (jnV xss z) (jnE xss z)) := by
  have HC := Lib.hid (And.intro (bkcheck_any (c := c) h hn) (And.intro h h.len))
  cases hb : bkB xss with
  | false =>
    have hE : jnE xss z = 2 := by unfold jnE; rw [hb]; rfl
    rw [jn_no hE (by omega), hE]
    have HE := Lib.hid (show bkE xss = 2 from by unfold bkE; rw [hb]; rfl)
    clear h hb hE hn
    go_enter Try.func46, Try.ntmps46
    go_wp2_with fail
    refine HC.out.1.mono ?_
    rintro e w1 ⟨rfl, hb1⟩
    rw [HE.out]
    have HB := Lib.hid hb1
    clear hb1
    go_wp2
    go_ret2
    exact ⟨_, rfl, World.ownsRow_nil _ _ _ _, HB.out⟩
  | true =>
    have hok := bkB_iff.1 hb
    have HE := Lib.hid (show bkE xss = 0 from by unfold bkE; rw [hb]; rfl)
    have HO := Lib.hid hok
    by_cases hz : z < 0
    · have hE : jnE xss z = 3 := by unfold jnE; rw [hb, if_pos rfl, if_pos hz]
      rw [jn_no hE (by omega), hE]
      have d1 : decide (z < 0) = true := by simpa using hz
      clear h hb hE hn hok hz
      go_enter Try.func46, Try.ntmps46
      go_wp2_with fail
      refine HC.out.1.mono ?_
      rintro e w1 ⟨rfl, hb1⟩
      rw [HE.out]
      have HB := Lib.hid hb1
      clear hb1
      go_wp2
      go_ret2
      exact ⟨_, rfl, World.ownsRow_nil _ _ _ _, HB.out⟩
    · have d1 : decide (z < 0) = false := by simpa using hz
      obtain ⟨m, rfl⟩ : ∃ m : Nat, z = m := ⟨z.toNat, by omega⟩
      have h0 : 0 < n := by rw [← HC.out.2.2]; exact hok.1.1
      obtain ⟨a, off, B, cc, rfl, ha, c0, _, _, _⟩ := h.at_ h0
      rw [Nat.add_zero] at c0
      have hl := h.len
      obtain ⟨s, hs⟩ : ∃ s, (xss.getD 0 []).length = s := ⟨_, rfl⟩
      rw [hs] at c0
      have hsz : 1 ≤ n ∧ n ≤ 65536 ∧ 1 ≤ s ∧ s ≤ 65535 := by have := hok.1; omega
      have hmul : n * s ≤ 4294967296 := by
        have := Nat.mul_le_mul hsz.2.1 hsz.2.2.2
        omega
      have hw : IntKind.i64.wrap ((n : Int) * (s : Int)) = ((n * s : Nat) : Int) := by rw [← Int.natCast_mul, IntKind.wrap_i64]; omega
      by_cases hlong : n * s < m
      · have hE : jnE xss m = 4 := by unfold jnE; rw [hb, if_pos rfl, if_neg hz, hl, hs, if_pos (by omega)]
        rw [jn_no hE (by omega), hE]
        have d2 : decide ((m : Int) > ((n * s : Nat) : Int)) = true := by simp; omega
        have d3 : decide (((n * s : Nat) : Int) < (m : Int)) = true := by simp; omega
        have d4 : decide (n * s < m) = true := by simpa using hlong
        have d5 : decide ((m : Int) > (n : Int) * (s : Int)) = true := by rw [← Int.natCast_mul]; exact d2
        have d6 : decide ((n : Int) * (s : Int) < (m : Int)) = true := by rw [← Int.natCast_mul]; exact d3
        clear h hb hE hn hok hz hlong hs hl hmul hsz
        go_enter Try.func46, Try.ntmps46
        go_wp2_with fail
        refine HC.out.1.mono ?_
        rintro e w1 ⟨rfl, hb1⟩
        rw [HE.out]
        have HB := Lib.hid hb1
        have c1 := (hb1.cell (p := ⟨a, off, none⟩) ha).trans c0
        clear hb1 c0
        go_wp2
        go_ret2
        exact ⟨_, rfl, World.ownsRow_nil _ _ _ _, HB.out⟩
      · have hE : jnE xss m = 0 := by unfold jnE; rw [hb, if_pos rfl, if_neg hz, hl, hs, if_neg (by omega)]
        have hV : jnV xss m = xss.flatten.take m := by unfold jnV; rw [hE, if_pos rfl, Int.toNat_natCast]
        rw [hV, hE]
        have hfl : xss.flatten.length = n * s := by rw [flat_eq hok.2, hl, hs]
        have HM := Lib.hid (And.intro hfl (show m ≤ n * s by omega))
        have d2 : decide ((m : Int) > ((n * s : Nat) : Int)) = false := by simp; omega
        have d3 : decide (((n * s : Nat) : Int) < (m : Int)) = false := by simp; omega
        have d4 : decide (n * s < m) = false := by simpa using hlong
        have d5 : decide ((m : Int) > (n : Int) * (s : Int)) = false := by rw [← Int.natCast_mul]; exact d2
        have d6 : decide ((n : Int) * (s : Int) < (m : Int)) = false := by rw [← Int.natCast_mul]; exact d3
        have hcat := fun w1 (hb : Below w.heap.size w w1) => concat_any (w := w1) (c := c) (HC.out.2.1.below hb) hsz.2.1 (fun x hx => by rw [hok.2 x hx]; exact hok.1.2.2.2)
        have HX := Lib.hid hcat
        clear h hb hE hV hn hok hz hlong hs hl hmul hsz hfl hcat
        go_enter Try.func46, Try.ntmps46
        go_wp2_with fail
        refine HC.out.1.mono ?_
        rintro e w1 ⟨rfl, hb1⟩
        rw [HE.out]
        have HB := Lib.hid hb1
        have c1 := (hb1.cell (p := ⟨a, off, none⟩) ha).trans c0
        clear hb1 c0
        go_wp2_with fail
        refine (HX.out w1 HB.out).mono ?_
        rintro e w2 ⟨v2, rfl, ho2, hb2⟩
        obtain ⟨A2, c2, rfl, hc2, ho3⟩ := own_take (m := 0) ho2 (k := m) (by rw [HM.out.1]; exact HM.out.2)
        have hml : m ≤ xss.flatten.length := by rw [HM.out.1]; exact HM.out.2
        have hmc : m ≤ c2 := by omega
        have H2 := Lib.hid (And.intro ho3 hb2)
        clear ho2 ho3 hb2 c1 hw
        go_wp2
        go_ret2
        exact ⟨_, rfl, own_mono H2.out.1 HB.out.size, below_base HB.out H2.out.2 HB.out.size⟩
end
end Go.Proofs.Ytchdjbbhhjjmkaa
