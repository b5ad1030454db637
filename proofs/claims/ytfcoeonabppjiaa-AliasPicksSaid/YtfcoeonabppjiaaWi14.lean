/- told: the iterator over an alias's places. -/
import Derived.RangeFuncNested
import Derived.RangeFuncBound
import Derived.RangeFuncBox
import Derived.RangeFuncCalls
import Derived.RangeFuncLeaves
import Derived.Shelf.Abstract
import Derived.Shelf.RegionOpen
import Derived.OwnWalkIn
import Derived.TacticsInMore
import Derived.LoopNIn
import Derived.LoopIn
import Derived.Stop.RegionWithIn
import Derived.Test.YtfcoeonabppjiaaB14
import Derived.Test.YtfcoeonabppjiaaT14
namespace Go.Proofs.Ytfcoeonabppjiaa
open Go.RowKit Go.Shelf
set_option linter.unusedVariables false
attribute [local go_sem] Oper.semAt_some
/-- What comes of the first k columns. -/
def toldL (T : Int) (xs ys : List Int) : Nat → List (Int × Int)
  | 0 => []
  | k + 1 => toldL T xs ys k ++ [((k : Int), gi xs k), (gi ys k, T - gi xs k)]
theorem toldL_length (T : Int) (xs ys : List Int) : ∀ k, (toldL T xs ys k).length = 2 * k
  | 0 => rfl
  | k + 1 => by rw [toldL, List.length_append, toldL_length T xs ys k]; simp; omega
/-- Below n₀, block S alone may have changed. -/
def KpB (S n₀ : Nat) (A B : World) : Prop := ∀ k, k < n₀ → k ≠ S → B.heap[k]? = A.heap[k]?
theorem KpB.refl (S n₀ : Nat) (A : World) : KpB S n₀ A A := fun _ _ _ => rfl
theorem KpB.trans {S n₀ : Nat} {A B C : World} (h : KpB S n₀ A B) (k : KpB S n₀ B C) : KpB S n₀ A C := fun i h1 h2 => (k i h1 h2).trans (h i h1 h2)
theorem KpB.cell {S n₀ : Nat} {A B : World} (h : KpB S n₀ A B) {p : Addr} (h1 : p.block < n₀) (h2 : p.block ≠ S) : B.cell? p = A.cell? p := World.cell?_of_block (w := A) (h p.block h1 h2)
theorem kpB_b {S n₀ : Nat} {w : World} (hn : n₀ ≤ w.heap.size) (W : World) (l : Nat) (o o' : Obj) (hl : w.heap.size ≤ l) (h : W.heap[l]? = some o) (_ : o.isCells = false) (_ : o.isWalk = false) : KpB S n₀ W (W.putObj l o') :=
  fun i h1 h2 => (belowK_b hn W l o o' hl h (by assumption) (by assumption)).block i h1
set_option maxRecDepth 100000 in
set_option maxHeartbeats 2000000 in
/-- alias.told -/
theorem told_in (n : Nat) (v0 v1 v2 : Value) (w : World) :
    CallsIn Fence.wide n Try.prog 36 #[.agg #[v0, v1, v2]] w fun e w' => e = .returned (.func (.func 38) #[] #[.pointer (some ⟨w.heap.size, 0, none⟩)]) ∧ w' = w.alloc (.cells #[v0, v1, v2] 26) := by
  refine callsIn_of_wp Try.func36 rfl trivial ?_ rfl
  simp only [Try.ntmps36, List.size_toArray, List.length_cons, List.length_nil, Nat.reduceAdd, Nat.reduceSub, Array.replicate_succ, Array.replicate_zero, List.push_toArray, List.append_toArray, List.nil_append, List.cons_append]
  gi_wp2
  go_ret
  exact ⟨rfl, rfl⟩
set_option maxRecDepth 100000 in
set_option maxHeartbeats 4000000 in
/-- What told hands back, for every loop body. -/
theorem told1_in (n : Nat) (hn : 1 ≤ n) (l Bs S n₀ a off a' off' m c d : Nat) (T : Int) (xs ys : List Int) (hx : xs.length = m) (hy : ys.length = m) (hm : m ≤ 65536) (hT0 : 0 ≤ T) (hTm : T ≤ 1099511627776) (hxb : ∀ x ∈ xs, 0 ≤ x ∧ x ≤ T)
    (hB : Bs < n₀ ∧ Bs ≠ S) (ha : a < n₀ ∧ a ≠ S) (ha' : a' < n₀ ∧ a' ≠ S) (J Jx : List (Int × Int) → World → Prop) (hJd : ∀ pre W, J pre W → J pre W.drew)
    (hY : ∀ pre x W, J pre W → pre.length < 2 * m → YieldAt Fence.wide (n - 1) Try.prog l #[.int .i64 x.1, .int .i64 x.2] W fun e W' =>
      (e = .returned (.bool true) ∧ J (pre ++ [x]) W' ∧ KpB S n₀ W W') ∨ (e = .returned (.bool false) ∧ Jx (pre ++ [x]) W'))
    (W : World) (c0 : W.cell? ⟨Bs, 0, none⟩ = some (.int .i64 T)) (c1 : W.cell? ⟨Bs, 1, none⟩ = some (.slice (some ⟨a, off, none⟩) m c)) (c2 : W.cell? ⟨Bs, 2, none⟩ = some (.slice (some ⟨a', off', none⟩) m d))
    (hc : ∀ (j : Nat) u, (nums xs)[j]? = some u → W.cell? ⟨a, off + j, none⟩ = some u) (hc' : ∀ (j : Nat) u, (nums ys)[j]? = some u → W.cell? ⟨a', off' + j, none⟩ = some u) (h0 : J [] W) :
    CallsIn Fence.wide n Try.prog 38 #[.func (.yield l) #[] #[], .pointer (some ⟨Bs, 0, none⟩)] W fun e W' => (∃ v, e = .returned v) ∧ (J (toldL T xs ys m) W' ∨ ∃ pre, Jx pre W') := by
  refine callsIn_of_wp Try.func38 rfl trivial ?_ rfl
  simp only [Try.ntmps38, List.size_toArray, List.length_cons, List.length_nil, Nat.reduceAdd, Nat.reduceSub, Array.replicate_succ, Array.replicate_zero, List.push_toArray, List.append_toArray, List.nil_append, List.cons_append]
  have HC := Lib.hid (And.intro hc hc')
  have HX := Lib.hid (And.intro hx (And.intro hy hxb))
  clear hc hc' hx hy hxb
  gi_wp2
  gi_loopw [8] (fun i wr => ∃ k : Nat, k ≤ m ∧ i = .int .i64 k ∧ J (toldL T xs ys k) wr ∧ KpB S n₀ W wr)
    (fun i _ => m - (intOf i).toNat)
  case atStart => exact ⟨0, Nat.zero_le _, rfl, h0, KpB.refl _ _ _⟩
  case round =>
    obtain ⟨k, hk, rfl, hJs, hkp⟩ := hrel
    by_cases hlt : k < m
    · have cx : wr.cell? ⟨a, off + k, none⟩ = some (.int .i64 (gi xs k)) := (hkp.cell (p := ⟨a, off + k, none⟩) ha.1 ha.2).trans (HC.out.1 k _ (nums_gi (by rw [HX.out.1]; exact hlt)))
      obtain ⟨fn, tmps, assign, body, hy, hR⟩ := hY _ ((k : Int), gi xs k) wr.drew (hJd _ _ hJs) (by rw [toldL_length]; omega)
      dsimp only at hy
      have km : (k : Int) < (m : Int) := by omega
      have hxk := HX.out.2.2 _ (gi_mem (l := xs) (i := k) (by rw [HX.out.1]; exact hlt))
      have hx0 : 0 ≤ gi xs k := hxk.1
      have hx1 : gi xs k ≤ T := hxk.2
      have hwr : IntKind.i64.wrap (T - gi xs k) = T - gi xs k := by rw [IntKind.wrap_i64]; omega
      clear hxk
      have HK := Lib.hid (And.intro hkp hlt)
      have HY := Lib.hid hY
      clear hY hkp hlt hk hJs
      gi_wp2
      (gi_region_with (first
        | (refine hR.mono ?_; rintro e W3 (⟨rfl, hJ3, hk3⟩ | ⟨rfl, hJx3⟩); rotate_left; (dsimp only; rename_i hKx; refine hKx _ _ ?_; refine wpAnyIn_take (i := 4) (v := Value.bool true) rfl rfl (by kernel_rfl) (by kernel_rfl) (by kernel_rfl) (fun _ _ _ h => h) ⟨Or.inl ⟨by rfl, fun w => by rfl⟩, fun _ => rfl⟩ ?_; go_simp; refine wpAnyIn_take (i := 5) (v := Value.bool true) rfl rfl (by kernel_rfl) (by kernel_rfl) (by kernel_rfl) (fun _ _ _ h => h) ⟨Or.inl ⟨by rfl, fun w => by rfl⟩, fun _ => rfl⟩ ?_; go_simp; refine wpAnyIn_take (i := 6) (v := undef) rfl rfl (by kernel_rfl) (by kernel_rfl) (by kernel_rfl) (fun _ _ _ h => h) ⟨Or.inr ⟨by rfl, rfl⟩, fun _ => rfl⟩ ?_; go_simp; refine wpAnyIn_take (i := 7) (v := undef) rfl rfl (by kernel_rfl) (by kernel_rfl) (by kernel_rfl) (fun _ _ _ h => h) ⟨Or.inr ⟨by rfl, rfl⟩, fun _ => rfl⟩ ?_; go_simp; refine wpAnyIn_take (i := 8) (v := undef) rfl rfl (by kernel_rfl) (by kernel_rfl) (by kernel_rfl) (fun _ _ _ h => h) ⟨Or.inr ⟨by rfl, rfl⟩, fun _ => rfl⟩ ?_; go_simp; refine wpAnyIn_take (i := 9) (v := undef) rfl rfl (by kernel_rfl) (by kernel_rfl) (by kernel_rfl) (fun _ _ _ h => h) ⟨Or.inr ⟨by rfl, rfl⟩, fun _ => rfl⟩ ?_; go_simp; refine wpAnyIn_take (i := 10) (v := undef) rfl rfl (by kernel_rfl) (by kernel_rfl) (by kernel_rfl) (fun _ _ _ h => h) ⟨Or.inr ⟨by rfl, rfl⟩, fun _ => rfl⟩ ?_; go_simp; refine wpAnyIn_take (i := 11) (v := undef) rfl rfl (by kernel_rfl) (by kernel_rfl) (by kernel_rfl) (fun _ _ _ h => h) ⟨Or.inr ⟨by rfl, rfl⟩, fun _ => rfl⟩ ?_; go_simp; refine wpAnyIn_take (i := 12) (v := undef) rfl rfl (by kernel_rfl) (by kernel_rfl) (by kernel_rfl) (fun _ _ _ h => h) ⟨Or.inr ⟨by rfl, rfl⟩, fun _ => rfl⟩ ?_; go_simp; refine wpAnyIn_take (i := 13) (v := undef) rfl rfl (by kernel_rfl) (by kernel_rfl) (by kernel_rfl) (fun _ _ _ h => h) ⟨Or.inr ⟨by rfl, rfl⟩, fun _ => rfl⟩ ?_; go_simp; refine wpAnyIn_take (i := 14) (v := undef) rfl rfl (by kernel_rfl) (by kernel_rfl) (by kernel_rfl) (fun _ _ _ h => h) ⟨Or.inr ⟨by rfl, rfl⟩, fun _ => rfl⟩ ?_; go_simp; refine wpAnyIn_take (i := 15) (v := undef) rfl rfl (by kernel_rfl) (by kernel_rfl) (by kernel_rfl) (fun _ _ _ h => h) ⟨Or.inr ⟨by rfl, rfl⟩, fun _ => rfl⟩ ?_; go_simp; refine wpAnyIn_take (i := 16) (v := undef) rfl rfl (by kernel_rfl) (by kernel_rfl) (by kernel_rfl) (fun _ _ _ h => h) ⟨Or.inr ⟨by rfl, rfl⟩, fun _ => rfl⟩ ?_; go_simp; refine wpAnyIn_take (i := 17) (v := undef) rfl rfl (by kernel_rfl) (by kernel_rfl) (by kernel_rfl) (fun _ _ _ h => h) ⟨Or.inr ⟨by rfl, rfl⟩, fun _ => rfl⟩ ?_; go_simp; refine wpAnyIn_take (i := 18) (v := Value.bool true) rfl rfl (by kernel_rfl) (by kernel_rfl) (by kernel_rfl) (fun _ _ _ h => h) ⟨Or.inl ⟨by rfl, fun w => by rfl⟩, fun _ => rfl⟩ ?_; go_simp; refine wpAnyIn_done (by kernel_rfl) ?_ _; gi_wp2; refine bodyPost_ret (results_none rfl _ _ _) rfl ?_; exact ⟨⟨_, rfl⟩, .inr ⟨_, hJx3⟩⟩); obtain ⟨fn2, tmps2, assign2, body2, hy2, hR2⟩ := HY.out _ (gi ys k, T - gi xs k) W3 hJ3 (by rw [List.length_append, toldL_length]; simp; have := HK.out.2; omega); dsimp only at hy2; have hkp3 := HK.out.1.trans hk3; have d0 := (hkp3.cell (p := ⟨Bs, 0, none⟩) hB.1 hB.2).trans c0; have d2 := (hkp3.cell (p := ⟨Bs, 2, none⟩) hB.1 hB.2).trans c2; have dy : W3.cell? ⟨a', off' + k, none⟩ = some (.int .i64 (gi ys k)) := (hkp3.cell (p := ⟨a', off' + k, none⟩) ha'.1 ha'.2).trans (HC.out.2 k _ (nums_gi (by rw [HX.out.2.1]; exact HK.out.2))); have HK3 := Lib.hid hkp3; clear hkp3 hk3 hR hy)
        | (refine hR2.mono ?_; rintro e W4 (⟨rfl, hJ4, hk4⟩ | ⟨rfl, hJx4⟩); rotate_left; (dsimp only; rename_i hKx; refine hKx _ _ ?_; refine wpAnyIn_take (i := 17) (v := Value.bool true) rfl rfl (by kernel_rfl) (by kernel_rfl) (by kernel_rfl) (fun _ _ _ h => h) ⟨Or.inl ⟨by rfl, fun w => by rfl⟩, fun _ => rfl⟩ ?_; go_simp; refine wpAnyIn_take (i := 18) (v := Value.bool true) rfl rfl (by kernel_rfl) (by kernel_rfl) (by kernel_rfl) (fun _ _ _ h => h) ⟨Or.inl ⟨by rfl, fun w => by rfl⟩, fun _ => rfl⟩ ?_; go_simp; refine wpAnyIn_done (by kernel_rfl) ?_ _; gi_wp2; refine bodyPost_ret (results_none rfl _ _ _) rfl ?_; exact ⟨⟨_, rfl⟩, .inr ⟨_, hJx4⟩⟩))))
      all_goals gi_wp2
      all_goals go_roundw
      all_goals (first | exact ⟨k + 1, by have := HK.out.2; omega, by go_num, by rw [show toldL T xs ys (k + 1) = (toldL T xs ys k ++ [((k : Int), gi xs k)]) ++ [(gi ys k, T - gi xs k)] from by simp [toldL]]; exact hJ4, HK3.out.trans hk4⟩ | skip)
      all_goals (have := HK.out.2; simp [intOf]; omega)
    · obtain rfl : k = m := by omega
      gi_wp2
      go_end0
      exact ⟨⟨_, rfl⟩, .inl hJs⟩
end Go.Proofs.Ytfcoeonabppjiaa
