/- slices.Chunk: the iterator. -/
import Derived.Test.YtchdjbbhhjjmkaaRf
import Derived.Test.YtchdjbbhhjjmkaaBm18
namespace Go.Proofs.Ytchdjbbhhjjmkaa
open Go.RowKit Go.Shelf
set_option linter.unusedVariables false
attribute [local go_sem] Oper.semAt_some
set_option maxRecDepth 100000 in
set_option maxHeartbeats 2000000 in
theorem chunk_in (n : Nat) (A : Option Addr) (len cap s : Nat) (hs : 1 ≤ s) (w : World) :
    CallsIn Fence.wide n Try.prog 55 #[.slice A len cap, .int .i64 (s : Int)] w fun e w' => e = .returned (.func (.func 63) #[] #[.pointer (some ⟨w.heap.size, 0, none⟩), .pointer (some ⟨w.heap.size + 1, 0, none⟩)]) ∧ w' = (w.alloc (.cells #[.slice A len cap] 32)).alloc (.cells #[.int .i64 (s : Int)] 3) := by
  have hd : decide ((s : Int) < 1) = false := by simp; omega
  have hd' : decide (s < 1) = false := by simp; omega
  refine callsIn_of_wp Try.func55 rfl trivial ?_ rfl
  simp only [Try.ntmps55, List.size_toArray, List.length_cons, List.length_nil, Nat.reduceAdd, Nat.reduceSub, Array.replicate_succ, Array.replicate_zero, List.push_toArray, List.append_toArray, List.nil_append, List.cons_append]
  gi_wp2
  go_ret
  exact ⟨rfl, rfl⟩
/-- A chunk, as a value. -/
def ckV (a off len s i : Nat) : Value := .slice (some ⟨a, off + i * s, none⟩) (min s (len - i * s)) (min s (len - i * s))
set_option maxRecDepth 100000 in
set_option maxHeartbeats 4000000 in
theorem chunk1_in (n : Nat) (hn : 1 ≤ n) (l B1 B2 n₀ a off len cap s N : Nat) (A : Option Addr) (S : Nat → Prop) (hs : 1 ≤ s ∧ s ≤ 65535) (hl : len ≤ 1000000000) (hcap : len ≤ cap) (hN : len ≤ N * s) (hA : 0 < len → A = some ⟨a, off, none⟩)
    (hB1 : B1 < n₀ ∧ ¬ S B1) (hB2 : B2 < n₀ ∧ ¬ S B2) (J Jx : List Nat → World → Prop) (hJd : ∀ pre W, J pre W → J pre W.drew)
    (hY : ∀ pre x W, J pre W → pre.length < N → YieldAt Fence.wide (n - 1) Try.prog l #[ckV a off len s x] W fun e W' =>
      (e = .returned (.bool true) ∧ J (pre ++ [x]) W' ∧ KpS S n₀ W W') ∨ (e = .returned (.bool false) ∧ Jx (pre ++ [x]) W'))
    (W : World) (c1 : W.cell? ⟨B1, 0, none⟩ = some (.slice A len cap)) (c2 : W.cell? ⟨B2, 0, none⟩ = some (.int .i64 (s : Int))) (h0 : J [] W) :
    CallsIn Fence.wide n Try.prog 63 #[.func (.yield l) #[] #[], .pointer (some ⟨B1, 0, none⟩), .pointer (some ⟨B2, 0, none⟩)] W fun e W' => (∃ v, e = .returned v) ∧ ((∃ k, len ≤ k * s ∧ (k = 0 ∨ (k - 1) * s < len) ∧ J (List.range k) W') ∨ ∃ pre, Jx pre W') := by
  refine callsIn_of_wp Try.func63 rfl trivial ?_ rfl
  simp only [Try.ntmps63, List.size_toArray, List.length_cons, List.length_nil, Nat.reduceAdd, Nat.reduceSub, Array.replicate_succ, Array.replicate_zero, List.push_toArray, List.append_toArray, List.nil_append, List.cons_append]
  gi_wp2
  gi_loopw [4] (fun i wr => ∃ k : Nat, (k = 0 ∨ (k - 1) * s < len) ∧ i = .int .i64 ((k * s : Nat) : Int) ∧ J (List.range k) wr ∧ KpS S n₀ W wr)
    (fun i _ => len - (intOf i).toNat)
  case atStart => exact ⟨0, .inl rfl, by simp, h0, KpS.refl _ _ _⟩
  case round =>
    obtain ⟨k, hk, rfl, hJs, hkp⟩ := hrel
    have c1 := (hkp.cell (p := ⟨B1, 0, none⟩) hB1.1 hB1.2).trans c1
    have c2 := (hkp.cell (p := ⟨B2, 0, none⟩) hB2.1 hB2.2).trans c2
    by_cases hlt : k * s < len
    · obtain rfl := hA (by omega)
      have hkN : k < N := by
        rcases Nat.lt_or_ge k N with h | h
        · exact h
        · have := Nat.mul_le_mul_right s h; omega
      obtain ⟨fn, tmps, assign, body, hy, hR⟩ := hY _ k wr.drew (hJd _ _ hJs) (by rw [List.length_range]; exact hkN)
      have km : ((k * s : Nat) : Int) < (len : Int) := by omega
      obtain ⟨i, hi⟩ : ∃ i, k * s = i := ⟨_, rfl⟩
      have hck : ckV a off len s k = .slice (some ⟨a, off + i, none⟩) (min s (len - i)) (min s (len - i)) := by unfold ckV; rw [hi]
      rw [hck] at hy
      rw [hi] at km hlt ⊢
      have hiB : i ≤ 1000000000 := by omega
      obtain ⟨m, hm, hif⟩ : ∃ m : Nat, min s (len - i) = m ∧ (if len - i < s then ((len - i : Nat) : Int) else (s : Int)) = (m : Int) := ⟨min s (len - i), rfl, by split <;> omega⟩
      have hm2 : 1 ≤ m ∧ i + m ≤ len ∧ m ≤ s := by omega
      rw [hm] at hy
      have hw : IntKind.i64.wrap ((i : Int) + (m : Int)) = ((i + m : Nat) : Int) := by rw [IntKind.wrap_i64]; omega
      have k1 : i + m ≤ cap := by omega
      have k2 : (i : Int) + (m : Int) ≤ (cap : Int) := by omega
      have k3 : i ≤ len := by omega
      have HK := Lib.hid (And.intro hkp (And.intro hlt (And.intro hi hm2)))
      clear hkp hlt hk hJs hm hm2
      gi_wp2
      gi_region_with (fail)
      all_goals gi_wp2
      all_goals (
        refine hR.mono ?_
        rintro e W3 (⟨rfl, hJ3, hk3⟩ | ⟨rfl, hJx3⟩)
        · have c23 := (hk3.cell (p := ⟨B2, 0, none⟩) hB2.1 hB2.2).trans (show wr.drew.cell? ⟨B2, 0, none⟩ = some (.int .i64 (s : Int)) from c2)
          have hw2 : IntKind.i64.wrap ((i : Int) + (s : Int)) = ((i + s : Nat) : Int) := by rw [IntKind.wrap_i64]; omega
          have H3 := Lib.hid (And.intro hJ3 hk3)
          clear hJ3 hk3 hR hy hw k1 k2 k3 hif c1 c2
          gi_wp2
          refine ⟨⟨k + 1, .inr (by rw [Nat.add_sub_cancel, HK.out.2.2.1]; exact HK.out.2.1), ?_, by rw [List.range_succ]; exact H3.out.1, (HK.out.1.trans (KpS.drew _ _ _)).trans H3.out.2⟩, by have := HK.out.2.1; simp [intOf]; omega⟩
          rw [Nat.succ_mul, HK.out.2.2.1]
          first | rfl | (congr 1; omega)
        · gi_wp2
          refine bodyPost_ret (results_none rfl _ _ _) rfl ?_
          exact ⟨⟨_, rfl⟩, .inr ⟨_, hJx3⟩⟩)
    · have HX := Lib.hid (show ∃ k, len ≤ k * s ∧ (k = 0 ∨ (k - 1) * s < len) ∧ J (List.range k) wr from ⟨k, by omega, hk, hJs⟩)
      have km : ¬ (((k * s : Nat) : Int) < (len : Int)) := by omega
      obtain ⟨i, hi⟩ : ∃ i, k * s = i := ⟨_, rfl⟩
      rw [hi] at km ⊢
      have d1 : decide ((i : Int) < (len : Int)) = false := by simpa using km
      have d2 : decide (i < len) = false := by simp at km ⊢; omega
      clear hlt hk hJs hkp km hi
      gi_wp2
      go_end0
      exact ⟨⟨_, rfl⟩, .inl HX.out⟩
end Go.Proofs.Ytchdjbbhhjjmkaa
