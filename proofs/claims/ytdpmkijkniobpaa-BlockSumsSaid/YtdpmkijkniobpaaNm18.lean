/- block: named, the iterator. -/
import Derived.Test.YtdpmkijkniobpaaCu18
namespace Go.Proofs.Ytdpmkijkniobpaa
open Go.RowKit Go.Shelf
set_option linter.unusedVariables false
attribute [local go_sem] Oper.semAt_some
set_option maxRecDepth 100000 in
set_option maxHeartbeats 2000000 in
theorem named_in (n : Nat) (w : World) (A A1 : Option Addr) (l c l1 c1 b : Nat) :
    CallsIn Fence.wide n Try.prog 35 #[.slice A l c, .slice A1 l1 c1, .pointer (some ⟨b, 0, none⟩)] w fun e w' => e = .returned (.func (.func 43) #[] #[.pointer (some ⟨w.heap.size + 1, 0, none⟩), .pointer (some ⟨w.heap.size, 0, none⟩), .pointer (some ⟨w.heap.size + 1 + 1, 0, none⟩)]) ∧ w' = ((w.alloc (.cells #[.slice A l c] 25)).alloc (.cells #[.slice A1 l1 c1] 33)).alloc (.cells #[.pointer (some ⟨b, 0, none⟩)] 58) := by
  refine callsIn_of_wp Try.func35 rfl trivial ?_ rfl
  simp only [Try.ntmps35, List.size_toArray, List.length_cons, List.length_nil, Nat.reduceAdd, Nat.reduceSub, Array.replicate_succ, Array.replicate_zero, List.push_toArray, List.append_toArray, List.nil_append, List.cons_append]
  gi_wp2
  go_ret
  exact ⟨rfl, rfl⟩
/-- What the iterator reads. -/
structure NmF (B1 B2 B3 Bd a off k cap m md : Nat) (A1 : Option Addr) (rows : List Value) (set : List Int) (W : World) : Prop where
  s : W.cell? ⟨B1, 0, none⟩ = some (.slice A1 m md)
  y : W.cell? ⟨B2, 0, none⟩ = some (.slice (some ⟨a, off, none⟩) k cap)
  p : W.cell? ⟨B3, 0, none⟩ = some (.pointer (some ⟨Bd, 0, none⟩))
  d : ∃ b, Bk W Bd 4 [.bool b]
  r : Rd W (some ⟨a, off, none⟩) k rows
  t : Rd W A1 m (nums set)
def nmE (Bd m k : Nat) (set : List Int) (xs : List Nat) (W : World) : Prop :=
  (bkS (k : Int) (-1) set = true ∧ xs = set.map Int.toNat ∧ (m ≠ 0 → Bk W Bd 4 [.bool false])) ∨ (bkS (k : Int) (-1) set = false ∧ Bk W Bd 4 [.bool true])
set_option maxRecDepth 100000 in
set_option maxHeartbeats 4000000 in
theorem named1_in (n : Nat) (hn : 1 ≤ n) (l B B1 B2 B3 Bd a off k cap m md : Nat) (A1 : Option Addr) (rows : List Value) (set : List Int) (hk : k ≤ 65536) (hm : m ≤ 1000000) (hrow : ∀ v ∈ rows, ∃ C q r, v = .slice C q r)
    (I J : List Nat → World → Prop) (hIF : ∀ pre W, I pre W → NmF B1 B2 B3 Bd a off k cap m md A1 rows set W) (hIb : ∀ pre W b, I pre W → 0 < m → I pre (W.setCell ⟨Bd, 0, none⟩ (.bool b)))
    (W : World) (hJI : ∀ pre W, J pre W → I pre W) (hJc : ∀ pre W W', J pre W → I pre W' → KeepsFrom B W W' → J pre W')
    (hY : ∀ pre x W1, x < k → J pre W1 → YieldAt Fence.wide (n - 1) Try.prog l #[rows.getD x undef] W1 fun e W' => e = .returned (.bool true) ∧ J (pre ++ [x]) W' ∧ (∀ cs, Bk W1 Bd 4 cs → Bk W' Bd 4 cs)) (h0 : J [] W) :
    CallsIn Fence.wide n Try.prog 43 #[.func (.yield l) #[] #[], .pointer (some ⟨B1, 0, none⟩), .pointer (some ⟨B2, 0, none⟩), .pointer (some ⟨B3, 0, none⟩)] W fun e W' => (∃ v, e = .returned v) ∧ ∃ xs, J xs W' ∧ nmE Bd m k set xs W' := by
  have HF := hIF _ _ (hJI _ _ h0)
  have hsl : set.length = m := by have := HF.t.1; simpa [nums_length] using this
  have hrl : rows.length = k := HF.r.1
  have HX := Lib.hid (And.intro hsl (And.intro hrl hrow))
  have c1 := HF.s
  have hm' : (m : Int) ≤ 1000000 := by omega
  refine callsIn_of_wp Try.func43 rfl trivial ?_ rfl
  simp only [Try.ntmps43, List.size_toArray, List.length_cons, List.length_nil, Nat.reduceAdd, Nat.reduceSub, Array.replicate_succ, Array.replicate_zero, List.push_toArray, List.append_toArray, List.nil_append, List.cons_append]
  clear HF hsl hrl hrow
  gi_wp2
  clear c1
  gi_loopw [5, 10] (fun q i wr => ∃ (j : Nat) (last : Int), j ≤ m ∧ i = .int .i64 (j : Int) ∧ q = .int .i64 last ∧ -1 ≤ last ∧ last ≤ 1000000 ∧ bkS (k : Int) last (set.drop j) = bkS (k : Int) (-1) set ∧ J ((set.take j).map Int.toNat) wr ∧ (0 < j → Bk wr Bd 4 [.bool false]))
    (fun q i _ => m - (intOf i).toNat)
  case atStart => exact ⟨0, -1, Nat.zero_le _, rfl, rfl, by omega, by omega, rfl, h0, fun h => by omega⟩
  case round =>
    obtain ⟨j, last, hj, rfl, rfl, hl1, hl2, hbk, hJs, hbd⟩ := hrel
    by_cases hlt : j < m
    · have HF := hIF _ _ (hJI _ _ hJs)
      obtain ⟨a1, off1, hA1, ha1, hcc⟩ := HF.t.form (by omega)
      subst hA1
      have hjl : j < set.length := by rw [HX.out.1]; exact hlt
      have cx := hcc j _ (nums_gi hjl)
      rw [List.drop_eq_getElem_cons hjl, ← gi_get hjl, bkS_cons] at hbk
      have km : (j : Int) < (m : Int) := by omega
      have cy := HF.y
      have cp := HF.p
      obtain ⟨b0, hb0⟩ := HF.d
      have cd := hb0.cell 0
      have fd := hb0.frozen 0
      have hpos : 0 < m := by omega
      obtain ⟨x, hx⟩ : ∃ x, gi set j = x := ⟨_, rfl⟩
      rw [hx] at cx hbk
      have hJ1 : ∀ b, J ((set.take j).map Int.toNat) (wr.setCell ⟨Bd, 0, none⟩ (.bool b)) := fun b => hJc _ _ _ hJs (hIb _ _ _ (hJI _ _ hJs) hpos) ((KeepsOthers.setCell _ _ _).from _)
      have hB1 : ∀ b, Bk (wr.setCell ⟨Bd, 0, none⟩ (.bool b)) Bd 4 [.bool b] := fun b => hb0.set_ 0 (.bool b)
      by_cases g1 : x ≤ last
      · have d1 : decide (x ≤ last) = true := by simpa using g1
        rw [if_pos (.inl g1)] at hbk
        have HB := Lib.hid (And.intro (hJ1 true) (And.intro (hB1 true) hbk.symm))
        have c2 := (hB1 true).cell 0
        have cp2 := (hIF _ _ (hJI _ _ (hJ1 true))).p
        clear hJs hJ1 hB1 hbd hbk g1 hb0 HF hcc hj hlt hjl hx
        gi_wp2
        refine ⟨fun _ h => (by cases h), ?_⟩
        gi_wp2
        refine bodyPost_ret (results_none rfl _ _ _) rfl ?_
        exact ⟨⟨_, rfl⟩, _, HB.out.1, .inr ⟨HB.out.2.2, HB.out.2.1⟩⟩
      · have d1 : decide (x ≤ last) = false := by simpa using g1
        by_cases g2 : (k : Int) ≤ x
        · have d2 : decide (x ≥ (k : Int)) = true := by simpa using g2
          have d3 : decide ((k : Int) ≤ x) = true := by simpa using g2
          rw [if_pos (.inr g2)] at hbk
          have HB := Lib.hid (And.intro (hJ1 true) (And.intro (hB1 true) hbk.symm))
          have c2 := (hB1 true).cell 0
          have cp2 := (hIF _ _ (hJI _ _ (hJ1 true))).p
          clear hJs hJ1 hB1 hbd hbk g1 g2 hb0 HF hcc hj hlt hjl hx
          gi_wp2
          refine ⟨fun _ h => (by cases h), ?_⟩
          gi_wp2
          refine bodyPost_ret (results_none rfl _ _ _) rfl ?_
          exact ⟨⟨_, rfl⟩, _, HB.out.1, .inr ⟨HB.out.2.2, HB.out.2.1⟩⟩
        · have d2 : decide (x ≥ (k : Int)) = false := by simpa using g2
          have d3 : decide ((k : Int) ≤ x) = false := by simpa using g2
          obtain ⟨p, rfl⟩ : ∃ p : Nat, x = p := ⟨x.toNat, by omega⟩
          have d4 : decide (k ≤ p) = false := by simp; omega
          rw [if_neg (by omega)] at hbk
          have hpk : p < k := by omega
          have kp : (p : Int) < (k : Int) := by omega
          obtain ⟨fn, tmps, assign, body, hy, hR⟩ := hY _ p _ hpk (hJ1 false)
          have hF2 := hIF _ _ (hJI _ _ (hJ1 false))
          have c2 := (hB1 false).cell 0
          have cp2 := hF2.p
          have cy2 := hF2.y
          obtain ⟨a2, off2, hA2, ha2, hcr⟩ := hF2.r.form (by omega)
          injection hA2 with hA2; injection hA2 with q1 q2
          subst q1; subst q2
          have hpr : p < rows.length := by rw [HX.out.2.1]; exact hpk
          have cr := hcr p _ (List.getElem?_eq_getElem hpr)
          obtain ⟨C, qq, rr, hCr⟩ := HX.out.2.2 _ (List.getElem_mem hpr)
          rw [show rows.getD p undef = .slice C qq rr from by rw [List.getD_eq_getElem?_getD, List.getElem?_eq_getElem hpr]; exact hCr] at hy
          rw [hCr] at cr
          have HB := Lib.hid (And.intro (hB1 false) (And.intro hbk (And.intro hlt (And.intro hjl hx))))
          clear hJs hJ1 hB1 hbd hbk g1 g2 hb0 HF hcc hj hlt hjl hx hF2 hcr ha2 hCr hpr hpk
          gi_wp2
          refine hR.mono ?_
          rintro e W3 ⟨rfl, hJ3, hk3⟩
          have H3 := Lib.hid (And.intro hJ3 (hk3 _ HB.out.1))
          clear hJ3 hk3 hR hy
          gi_wp2
          refine ⟨⟨j + 1, p, by have := HB.out.2.2.1; omega, by go_num, rfl, by omega, by omega, HB.out.2.1, ?_, fun _ => H3.out.2⟩, by have := HB.out.2.2.1; simp [intOf]; omega⟩
          rw [List.take_succ_eq_append_getElem HB.out.2.2.2.1, List.map_append, ← gi_get HB.out.2.2.2.1, HB.out.2.2.2.2]
          exact H3.out.1
    · obtain rfl : j = m := by omega
      have hbt : bkS (k : Int) (-1) set = true := by rw [← hbk, List.drop_eq_nil_of_le (by rw [HX.out.1]; exact Nat.le_refl _)]; rfl
      rw [List.take_of_length_le (by rw [HX.out.1]; exact Nat.le_refl _)] at hJs
      have HB := Lib.hid (And.intro hJs (And.intro hbt hbd))
      clear hJs hbt hbd hbk hlt hj
      gi_wp2
      go_end0
      exact ⟨⟨_, rfl⟩, _, HB.out.1, .inl ⟨HB.out.2.1, rfl, fun h => HB.out.2.2 (by omega)⟩⟩
end Go.Proofs.Ytdpmkijkniobpaa
