/- TopLeft: limbs: down, Cmp. TopLeft: limbs: Sub, Len, Check, One. -/
import Derived.RangeFuncNested
import Derived.RangeFuncBound
import Derived.RangeFuncBox
import Derived.RangeFuncCalls
import Derived.RangeFuncLeaves
import Derived.RangeFuncWrites
import Derived.Shelf.Abstract
import Derived.Shelf.RegionOpen
import Derived.OwnWalkIn
import Derived.TacticsInMore
import Derived.LoopNIn
import Derived.LoopIn
import Derived.Stop.RegionWithIn
import Derived.Test.YtlhipaffhehcnaaGreatT18
namespace Go.Proofs.YtlhipaffhehcnaaGreat
open Go.RowKit Go.Shelf
set_option linter.unusedVariables false
attribute [local go_sem] Oper.semAt_some
theorem chg_row {W W' : World} {row : Option Nat} (hg : W.grownBy W' row) (hr : ∀ r, row = some r → ∃ o : Obj, W.heap[r]? = some o ∧ o.isCells = false) : Chg (fun b => row = some b) W W' ∧ ∀ {b t cs}, Bk W b t cs → ¬ (row = some b) :=
  ⟨Chg.of_grown hg fun k e => e, fun {b t cs} hb e => by
    obtain ⟨o, h1, h2⟩ := hr b e
    rw [hb] at h1; injection h1 with h1; subst h1; cases h2⟩
theorem yes_no {e : Ending} {p r : Prop} (h : (e = .returned (.bool true) ∧ p) ∨ (e = .returned (.bool false) ∧ r)) : ∃ q : Bool, e = .returned (.bool q) ∧ ((q = true ∧ p) ∨ (q = false ∧ r)) := by
  rcases h with ⟨rfl, h⟩ | ⟨rfl, h⟩
  · exact ⟨true, rfl, .inl ⟨rfl, h⟩⟩
  · exact ⟨false, rfl, .inr ⟨rfl, h⟩⟩
set_option maxRecDepth 100000 in
theorem down_in (n : Nat) (A B : Option Addr) (x c y d : Nat) (w : World) : CallsIn Fence.wide n Tryz.prog 127 #[.slice A x c, .slice B y d] w fun e w' => e = .returned (.func (.func 155) #[] #[.pointer (some ⟨w.heap.size, 0, none⟩), .pointer (some ⟨w.heap.size + 1, 0, none⟩)]) ∧
      w' = (w.alloc (.cells #[.slice A x c] 36)).alloc (.cells #[.slice B y d] 36) := by
  refine callsIn_of_wp Tryz.func127 rfl trivial ?_ rfl
  simp only [Tryz.ntmps127, List.size_toArray, List.length_cons, List.length_nil, Nat.reduceAdd, Nat.reduceSub, Array.replicate_succ, Array.replicate_zero, List.push_toArray, List.append_toArray, List.nil_append, List.cons_append]
  gi_wp2
  go_ret
  exact ⟨rfl, rfl⟩
set_option maxRecDepth 100000 in
set_option maxHeartbeats 4000000 in
/-- What down hands back. -/
theorem down1_in (n : Nat) (hn : 1 ≤ n) (y B1 B2 : Nat) {A B : Option Addr} {a b c d m : Nat} (hm : max (ln a) (ln b) = m) (J Jx : List Unit → World → Prop) (hJ : ∀ pre W W', J pre W → Below W.heap.size W W' → J pre W')
    (hY : ∀ pre x W, J pre W → pre.length < m → YieldAt Fence.wide (n - 1) Tryz.prog y #[.int .u64 (a : Int), .int .u64 (b : Int)] W fun e W' =>
      (e = .returned (.bool true) ∧ J (pre ++ [x]) W') ∨ (e = .returned (.bool false) ∧ Jx (pre ++ [x]) W'))
    (W : World) (h1 : Bk W B1 36 [.slice A (ln a) c]) (h2 : Bk W B2 36 [.slice B (ln b) d]) (ha : Rd W A (ln a) (dg a)) (hb : Rd W B (ln b) (dg b)) (h0 : J [] W) :
    CallsIn Fence.wide n Tryz.prog 155 #[.func (.yield y) #[] #[], .pointer (some ⟨B1, 0, none⟩), .pointer (some ⟨B2, 0, none⟩)] W fun e W' => (∃ v, e = .returned v) ∧ (J (List.replicate m ()) W' ∨ (m = 1 ∧ Jx [()] W')) := by
  have c1 := h1.cell 0
  have c2 := h2.cell 0
  have la := ln_le a
  have lb := ln_le b
  have hm1 : m ≤ 1 := by omega
  have hmx : ∀ (w : World) (ts : Array TypeId) (t : TypeId), (Builtin.max_ ts t #[.int .i64 ((ln a : Nat) : Int), .int .i64 ((ln b : Nat) : Int)]).run Tryz.prog w = .ok (.int .i64 (m : Int)) w := fun w ts t => by
    rw [run_max_int2]
    congr 2
    split <;> omega
  have HD1 := Lib.hid (fun (W' : World) (h : Below W.heap.size W W') i => digit_any (w := W') (c := c) (ha.below h) i)
  have HD2 := Lib.hid (fun (W' : World) (h : Below W.heap.size W W') i => digit_any (w := W') (c := d) (hb.below h) i)
  obtain ⟨x, hx⟩ : ∃ x, ln a = x := ⟨_, rfl⟩
  obtain ⟨z, hz⟩ : ∃ z, ln b = z := ⟨_, rfl⟩
  have HX := Lib.hid (And.intro hx (And.intro hz (And.intro hJ (And.intro hY h0))))
  rw [hx] at hmx HD1 c1
  rw [hz] at hmx HD2 c2
  have hw : IntKind.i64.wrap ((m : Int) - 1) = (m : Int) - 1 := by rw [IntKind.wrap_i64]; omega
  clear h1 h2 ha hb h0 hJ hY la lb hm hx hz
  refine callsIn_of_wp Tryz.func155 rfl trivial ?_ rfl
  simp only [Tryz.ntmps155, List.size_toArray, List.length_cons, List.length_nil, Nat.reduceAdd, Nat.reduceSub, Array.replicate_succ, Array.replicate_zero, List.push_toArray, List.append_toArray, List.nil_append, List.cons_append]
  gi_wp2
  gi_loopw [4] (fun i wr => (m = 0 ∧ i = .int .i64 (-1) ∧ wr = W) ∨ (m = 1 ∧ i = .int .i64 0 ∧ wr = W) ∨ (m = 1 ∧ i = .int .i64 (-1) ∧ J [()] wr)) (fun i _ => ((intOf i) + 1).toNat)
  case atStart =>
    rcases Nat.eq_zero_or_pos m with h | h
    · subst h; exact .inl ⟨rfl, rfl, rfl⟩
    · obtain rfl : m = 1 := by omega
      exact .inr (.inl ⟨rfl, rfl, rfl⟩)
  case round =>
    rcases hrel with ⟨rfl, rfl, rfl⟩ | ⟨rfl, rfl, rfl⟩ | ⟨rfl, rfl, hJ⟩
    · gi_wp2
      go_end0
      exact ⟨⟨_, rfl⟩, .inl HX.out.2.2.2.2⟩
    · obtain ⟨fn, tmps, assign, body, hy, hR⟩ := HX.out.2.2.2.1 [] () wr.drew (HX.out.2.2.1 _ _ _ HX.out.2.2.2.2 (Below.refl _ _).drew) (by decide)
      have hD1 := HD1.out wr.drew (Below.refl _ _).drew 0
      have hD2 := HD2.out wr.drew (Below.refl _ _).drew 0
      clear HD1 HD2
      gi_wp2
      gi_region_with (first
        | (refine ⟨trivial, ?_⟩; refine ((callsIn_wide (n := n - 1)).2 hD1).mono ?_; rintro e w3 ⟨rfl, rfl⟩; clear hD1)
        | (refine ⟨trivial, ?_⟩; refine ((callsIn_wide (n := n - 1)).2 hD2).mono ?_; rintro e w3 ⟨rfl, rfl⟩; clear hD2)
        | (refine hR.mono ?_; intro e W3 h3; obtain ⟨q, rfl, hq⟩ := yes_no h3; clear h3))
      all_goals (have HQ := Lib.hid hq; clear hq)
      all_goals gi_wp2
      all_goals (rename_i hqq)
      all_goals (rcases HQ.out with ⟨hq, hJ3⟩ | ⟨hq, hJ3⟩)
      all_goals (first | (exfalso; rw [hq] at hqq; cases hqq; done) | skip)
      all_goals (first
        | (refine bodyPost_ret (results_none rfl _ _ _) rfl ?_; exact ⟨⟨_, rfl⟩, .inr hJ3⟩)
        | (refine ⟨⟨_, _, _, _, _, _, _, _, _, _, _, _, _, _, .inr (.inr ⟨trivial, rfl, hJ3⟩), rfl⟩, ?_⟩; simp [intOf]))
    · gi_wp2
      go_end0
      exact ⟨⟨_, rfl⟩, .inl hJ⟩
theorem down_stops (n : Nat) (hn : 1 ≤ n) {B1 B2 : Nat} {A B : Option Addr} {a b c d m : Nat} (hm : max (ln a) (ln b) = m) (w : World) (h1 : Bk w B1 36 [.slice A (ln a) c]) (h2 : Bk w B2 36 [.slice B (ln b) d]) (ha : Rd w A (ln a) (dg a)) (hb : Rd w B (ln b) (dg b)) :
    SeqStopsK Fence.wide n Tryz.prog 155 #[.pointer (some ⟨B1, 0, none⟩), .pointer (some ⟨B2, 0, none⟩)] (fun _ : Unit => #[.int .u64 (a : Int), .int .u64 (b : Int)]) (fun _ _ => True) (fun p => p = List.replicate m ()) (fun p => m = 1 ∧ p = [()]) m w := fun y J Jx W hW hJ _ hY h0 => by
  refine (down1_in n hn y B1 B2 hm J Jx (fun pre W W' h hb => hJ pre W W' none h (grownBy_of_below hb) (fun r e => by cases e)) (fun pre x W h hl => (hY pre x W h hl).mono ?_) W (h1.belowS hW) (h2.belowS hW) (ha.below hW) (hb.below hW) h0).mono ?_
  · rintro e W' (⟨h1, h2, _⟩ | h)
    · exact .inl ⟨h1, h2⟩
    · exact .inr h
  · rintro e W' ⟨he, h | ⟨h1, h2⟩⟩
    · exact ⟨he, .inl ⟨_, rfl, h⟩⟩
    · exact ⟨he, .inr ⟨_, ⟨h1, rfl⟩, h2⟩⟩
/-- How two numbers compare. -/
def cmpN (a b : Nat) : Int := if a < b then -1 else if b < a then 1 else 0
structure CmI (w0 : World) (a b : Nat) (pre : List Unit) (W : World) : Prop where
  r : Bk W w0.heap.size 3 [.int .i64 0]
  e : pre ≠ [] → a = b
  b : Below w0.heap.size w0 W
structure CmX (w0 : World) (a b : Nat) (c : Code) (pre : List Unit) (W : World) : Prop where
  c : c = .ret
  r : Bk W w0.heap.size 3 [.int .i64 (cmpN a b)]
  b : Below w0.heap.size w0 W
section
variable {w0 W W' : World} {a b : Nat} {pre : List Unit}
theorem CmI.grown (h : CmI w0 a b pre W) {row : Option Nat} (hg : W.grownBy W' row) (hr : ∀ r, row = some r → w0.heap.size ≤ r ∧ ∃ o : Obj, W.heap[r]? = some o ∧ o.isCells = false) : CmI w0 a b pre W' := by
  obtain ⟨hc, hb⟩ := chg_row hg (fun r e => (hr r e).2)
  exact ⟨hc.bk h.r (hb h.r), h.e, h.b.grown hg h.b.size (fun k e => (hr k e).1)⟩
theorem CmX.grown {c : Code} (h : CmX w0 a b c pre W) {row : Option Nat} (hg : W.grownBy W' row) (hr : ∀ r, row = some r → w0.heap.size ≤ r ∧ ∃ o : Obj, W.heap[r]? = some o ∧ o.isCells = false) : CmX w0 a b c pre W' := by
  obtain ⟨hc, hb⟩ := chg_row hg (fun r e => (hr r e).2)
  exact ⟨h.c, hc.bk h.r (hb h.r), h.b.grown hg h.b.size (fun k e => (hr k e).1)⟩
end
set_option maxRecDepth 100000 in
set_option maxHeartbeats 4000000 in
/-- limbs.Cmp -/
theorem lCmp_any {w : World} {va vb : Value} {a b : Nat} (ha : NV w va a) (hb : NV w vb b) : Calls Tryz.prog 95 #[va, vb] w fun e w' => e = .returned (.int .i64 (cmpN a b)) ∧ Below w.heap.size w w' := by
  obtain ⟨A, c, rfl, hA1, hA2⟩ := ha
  obtain ⟨B, d, rfl, hB1, hB2⟩ := hb
  obtain ⟨m, hm⟩ : ∃ m, max (ln a) (ln b) = m := ⟨_, rfl⟩
  obtain ⟨x, hx⟩ : ∃ x, ln a = x := ⟨_, rfl⟩
  obtain ⟨z, hz⟩ : ∃ z, ln b = z := ⟨_, rfl⟩
  have H := Lib.hid (And.intro hA2 (And.intro hB2 (And.intro hm (And.intro hx hz))))
  rw [hx, hz]
  clear hA1 hB1 hA2 hB2 hm hx hz
  refine (callsIn_wide (n := 5)).1 ?_
  refine callsIn_of_wp_marks Tryz.func95 rfl trivial ?_ rfl
  simp only [Tryz.ntmps95, List.size_toArray, List.length_cons, List.length_nil, Nat.reduceAdd, Nat.reduceSub, Array.replicate_succ, Array.replicate_zero, List.push_toArray, List.append_toArray, List.nil_append, List.cons_append]
  gi_wp2_with (first | (refine ⟨trivial, ?_⟩; gi_at_call 127; refine (down_in 4 _ _ _ _ _ _ _).mono ?_; rintro e w' ⟨rfl, rfl⟩))
  obtain ⟨w1, hw1⟩ : ∃ w1, ((w.alloc (.cells #[.int .i64 0] 3)).alloc (.cells #[.slice A x c] 36)).alloc (.cells #[.slice B z d] 36) = w1 := ⟨_, rfl⟩
  rw [hw1]
  have hb1 : Below w.heap.size w w1 := by rw [← hw1]; exact (((Below.refl _ _).alloc (Nat.le_refl _) _).alloc (by simp) _).alloc (by simp; omega) _
  have k0 : Bk w1 w.heap.size 3 [.int .i64 0] := by rw [← hw1]; exact ((Bk.newA w 3 #[.int .i64 0]).alloc _).alloc _
  have k1 : Bk w1 (w.heap.size + 1) 36 [.slice A (ln a) c] := by
    have := (Bk.newA (w.alloc (.cells #[.int .i64 0] 3)) 36 #[.slice A x c]).alloc (.cells #[.slice B z d] 36)
    rw [World.size_alloc] at this
    rw [← hw1, H.out.2.2.2.1]; exact this
  have k2 : Bk w1 (w.heap.size + 1 + 1) 36 [.slice B (ln b) d] := by
    have := Bk.newA ((w.alloc (.cells #[.int .i64 0] 3)).alloc (.cells #[.slice A x c] 36)) 36 #[.slice B z d]
    rw [World.size_alloc, World.size_alloc] at this
    rw [← hw1, H.out.2.2.2.2]; exact this
  have hs := down_stops 4 (by omega) H.out.2.2.1 w1 k1 k2 (H.out.1.below hb1) (H.out.2.1.below hb1)
  have HI := Lib.hid (show CmI w a b [] w1 from ⟨k0, fun h => absurd rfl h, hb1⟩)
  clear hw1 hb1 k0 k1 k2
  have hro : Fence.wide.round = none := rfl
  have h15 : 1 ≤ 5 := by decide
  refine wpIn_rangeFunc_ownG hro h15 (gf := 155) (lb := #[.pointer (some ⟨w.heap.size + 1, 0, none⟩), .pointer (some ⟨w.heap.size + 1 + 1, 0, none⟩)]) ?hg trivial (enters_of Tryz.func155 (by kernel_rfl) rfl)
    hs (fun _ _ => trivial) ?hkb (Below.refl _ _) ?hps
    (fun pre W => CmI w a b pre W) (fun c pre W => CmX w a b c pre W)
    (fun pre W W' row hs hg hr => hs.grown hg (fun r e => ⟨Nat.le_trans HI.out.b.size (hr r e).1, (hr r e).2⟩))
    (fun c pre W W' row hs hg hr => hs.grown hg (fun r e => ⟨Nat.le_trans HI.out.b.size (hr r e).1, (hr r e).2⟩))
    HI.out
    (fun _ => { tmps := #[.slice A x c, .slice B z d, undef, undef, .pointer (some ⟨w.heap.size, 0, none⟩), .int .u64 (a : Int), .int .u64 (b : Int), .slice A x c, .slice B z d, .func (.func 155) #[] #[.pointer (some ⟨w.heap.size + 1, 0, none⟩), .pointer (some ⟨w.heap.size + 1 + 1, 0, none⟩)], .int .u64 (a : Int), .int .u64 (b : Int), undef, undef, undef, undef, undef, undef, undef, undef], defers := [] }) ?assign ?body ?done ?stop
  case hg => rfl
  case hps => intro x; rfl
  case hkb => intros; trivial
  case assign =>
    intro l x W K hK
    gi_wp2
    exact hK
  case body =>
    intro y pre x W hI hpl
    have c0 := hI.r.cell 0
    have f0 := hI.r.frozen 0
    have H2 := Lib.hid hI
    clear hI
    by_cases h1 : a < b
    · have d1 : decide ((a : Int) < (b : Int)) = true := decide_eq_true (by omega)
      have d2 : decide (a < b) = true := decide_eq_true h1
      have HE := Lib.hid (show cmpN a b = -1 from if_pos h1)
      clear h1
      gi_wp2
      exact ⟨(KeepsOthers.setCell _ _ _).from _, ⟨rfl, by rw [HE.out]; exact H2.out.r.set_ 0 _, H2.out.b.setCell (p := ⟨w.heap.size, 0, none⟩) (Nat.le_refl _) _⟩⟩
    · have d1 : decide ((a : Int) < (b : Int)) = false := decide_eq_false (by omega)
      have d2 : decide (a < b) = false := decide_eq_false h1
      by_cases h2 : b < a
      · have d3 : decide ((b : Int) < (a : Int)) = true := decide_eq_true (by omega)
        have d4 : decide (b < a) = true := decide_eq_true h2
        have d5 : decide ((a : Int) > (b : Int)) = true := decide_eq_true (by omega)
        have HE := Lib.hid (show cmpN a b = 1 from (if_neg h1).trans (if_pos h2))
        clear h1 h2
        gi_wp2
        exact ⟨(KeepsOthers.setCell _ _ _).from _, ⟨rfl, by rw [HE.out]; exact H2.out.r.set_ 0 _, H2.out.b.setCell (p := ⟨w.heap.size, 0, none⟩) (Nat.le_refl _) _⟩⟩
      · have d3 : decide ((b : Int) < (a : Int)) = false := decide_eq_false (by omega)
        have d4 : decide (b < a) = false := decide_eq_false h2
        have d5 : decide ((a : Int) > (b : Int)) = false := decide_eq_false (by omega)
        have HE := Lib.hid (show a = b by omega)
        clear h1 h2
        gi_wp2
        exact ⟨(KeepsOthers.refl _).from _, trivial, ⟨H2.out.r, fun _ => HE.out, H2.out.b⟩⟩
  case done =>
    intro D xs W hD hS hI hKD
    subst hS
    have hE : cmpN a b = 0 := by
      have hab : a = b := by
        rcases Nat.eq_zero_or_pos m with h | h
        · have h3 := H.out.2.2.1
          rw [h] at h3
          have ha0 : a = 0 := by
            rcases Nat.eq_zero_or_pos a with e | e
            · exact e
            · rw [ln_pos e] at h3; omega
          have hb0 : b = 0 := by
            rcases Nat.eq_zero_or_pos b with e | e
            · exact e
            · rw [ln_pos e] at h3; omega
          omega
        · refine hI.e ?_
          intro e
          have := congrArg List.length e
          simp at this
          omega
      unfold cmpN
      rw [if_neg (by omega), if_neg (by omega)]
    have HEE := Lib.hid hE
    have c0 := hI.r.cell 0
    have f0 := hI.r.frozen 0
    have HW := Lib.hid (And.intro ((KeepsOthers.setCell W ⟨w.heap.size, 0, none⟩ (.int .i64 0)).same D _ hKD rfl) (And.intro (hI.r.set_ 0 (.int .i64 0)) (hI.b.setCell (p := ⟨w.heap.size, 0, none⟩) (Nat.le_refl _) (.int .i64 0))))
    have HD := Lib.hid (show w.heap.size ≤ D from Nat.le_trans HI.out.b.size hD)
    clear hE hI hKD hD hs
    gi_wp2
    have hr : ∀ r, some D = some r → ∃ o : Obj, (W.setCell ⟨w.heap.size, 0, none⟩ (.int .i64 0)).heap[r]? = some o ∧ o.isCells = false := fun r e => by cases e; exact ⟨_, HW.out.1, rfl⟩
    obtain ⟨hch, hbk⟩ := chg_row (grownBy_putObj' (W.setCell ⟨w.heap.size, 0, none⟩ (.int .i64 0)) D (.deferred none)) hr
    have e1 := (hch.bk HW.out.2.1 (hbk HW.out.2.1)).cell 0
    refine ⟨by simp, .inl ⟨_, _, rfl, run_takeDeferred HW.out.1, ?_⟩⟩
    refine ⟨.int .i64 0, by simp [results, Tryz.results95, go_sem, e1], by rw [HEE.out], ?_⟩
    exact HW.out.2.2.trans (belowK_b (w := w) (Nat.le_refl _) _ D _ _ HD.out HW.out.1 rfl rfl)
  case stop =>
    intro D c' pre W hD hS hX hKD
    obtain ⟨rfl, r1, hb⟩ := hX
    have HD := Lib.hid (show w.heap.size ≤ D from Nat.le_trans HI.out.b.size hD)
    clear hs
    gi_wp2
    have hr : ∀ r, some D = some r → ∃ o : Obj, W.heap[r]? = some o ∧ o.isCells = false := fun r e => by cases e; exact ⟨_, hKD, rfl⟩
    obtain ⟨hch, hbk⟩ := chg_row (grownBy_putObj' W D (.deferred none)) hr
    have e1 := (hch.bk r1 (hbk r1)).cell 0
    refine ⟨by simp, .inl ⟨_, _, rfl, run_takeDeferred hKD, ?_⟩⟩
    refine ⟨.int .i64 (cmpN a b), by simp [results, Tryz.results95, go_sem, e1], rfl, ?_⟩
    exact hb.trans (belowK_b (w := w) (Nat.le_refl _) _ D _ _ HD.out hKD rfl rfl)
end Go.Proofs.YtlhipaffhehcnaaGreat
namespace Go.Proofs.YtlhipaffhehcnaaGreat
open Go.RowKit
set_option linter.unusedVariables false
theorem cell_below2 {w w' : World} {p : Addr} {u : Value} {n : Nat} (hb : Below n w w') (hn : p.block < n) (h : w.cell? p = some u) : w'.cell? p = some u := (hb.cell hn).trans h
set_option maxRecDepth 100000 in
theorem lSub_lo {w : World} {va vb : Value} {a b : Nat} (ha : NV w va a) (hb : NV w vb b) (h : a < b) : Calls Tryz.prog 129 #[va, vb] w fun e w' => e = .returned (.tuple #[.slice none 0 0, .int .i64 3]) ∧ Below w.heap.size w w' := by
  have HC := Lib.hid (lCmp_any ha hb)
  have HE := Lib.hid (show cmpN a b = -1 from if_pos h)
  obtain ⟨A, c, rfl, hA1, hA2⟩ := ha
  obtain ⟨B, d, rfl, hB1, hB2⟩ := hb
  obtain ⟨x, hx⟩ : ∃ x, ln a = x := ⟨_, rfl⟩
  obtain ⟨z, hz⟩ : ∃ z, ln b = z := ⟨_, rfl⟩
  rw [hx, hz] at HC ⊢
  clear hA1 hB1 hA2 hB2 hx hz h
  go_enter Tryz.func129, Tryz.ntmps129
  go_wp2_with fail
  refine HC.out.mono ?_
  rintro e w1 ⟨rfl, hb1⟩
  rw [HE.out]
  go_wp2_with fail
  go_ret2
  exact ⟨rfl, hb1⟩
set_option maxRecDepth 100000 in
theorem lSub_any {w : World} {va vb : Value} {a b : Nat} (ha : NV w va a) (hb : NV w vb b) (h : b ≤ a) (h63 : a < 9223372036854775808) : Calls Tryz.prog 129 #[va, vb] w fun e w' => ∃ v, e = .returned (.tuple #[v, .int .i64 0]) ∧ NV w' v (a - b) ∧ Below w.heap.size w w' := by
  have HC := Lib.hid (lCmp_any ha hb)
  obtain ⟨A, c, rfl, hA1, hA2⟩ := ha
  obtain ⟨B, d, rfl, hB1, hB2⟩ := hb
  obtain ⟨k, hk, hk0⟩ : ∃ k : Int, cmpN a b = k ∧ 0 ≤ k := ⟨_, rfl, by unfold cmpN; rw [if_neg (by omega)]; split <;> decide⟩
  have dk : decide (k < 0) = false := decide_eq_false (by omega)
  rw [hk] at HC
  clear hk hk0
  rcases Nat.eq_zero_or_pos a with h0 | h0
  · subst h0
    obtain rfl : b = 0 := by omega
    rw [ln_zero] at HC hA1 hA2 hB1 hB2 ⊢
    have hc : (0 : Int) ≤ (c : Int) := by omega
    clear hA1 hA2 hB1 hB2 h h63
    go_enter Tryz.func129, Tryz.ntmps129
    go_wp2_with fail
    refine HC.out.mono ?_
    rintro e w1 ⟨rfl, hb1⟩
    have HB := Lib.hid hb1
    clear hb1
    go_wp2_with fail
    refine (room_any (n := 0) (w := w1) (by omega)).mono ?_
    rintro e w2 ⟨O, co, rfl, hco, hown, hb2⟩
    have hraw : RawV w2 O 0 0 := ⟨⟨rfl, fun h => absurd h (by omega)⟩, fun _ => rfl⟩
    have H2 := Lib.hid (And.intro (below_base HB.out hb2 HB.out.size) (trimmed_any (c := co) hraw (by omega) (by omega)))
    clear hco hown hb2 hraw
    go_wp2_with fail
    go_loopg [7] 1 (fun q v wr => v = .int .i64 0 ∧ wr = w2)
    case atStart => exact ⟨rfl, rfl⟩
    case round =>
      obtain ⟨rfl, rfl⟩ := hrel
      go_wp2_with fail
      refine H2.out.2.mono ?_
      rintro e w3 ⟨rfl, rfl, _⟩
      go_wp2_with fail
      refine (clipN_any (w := wr) O 0 co (by omega)).mono ?_
      rintro e w3 ⟨rfl, rfl⟩
      go_wp2_with fail
      go_ret2
      exact ⟨_, rfl, ⟨O, 0, rfl, Nat.le_refl _, ⟨rfl, fun h => absurd h (by omega)⟩⟩, H2.out.1⟩
  · rw [ln_pos h0] at HC hA1 hA2 ⊢
    rw [dg_pos h0] at hA2
    obtain ⟨ab, ao, rfl, hab, hac⟩ := hA2.form (by omega)
    have ca : w.cell? ⟨ab, ao, none⟩ = some (.int .u64 (a : Int)) := hac 0 _ rfl
    have hc : (1 : Int) ≤ (c : Int) := by omega
    obtain ⟨x, hx⟩ : ∃ x, ln b = x := ⟨_, rfl⟩
    have HB := Lib.hid (And.intro hB2 (And.intro hx (And.intro h (And.intro h63 (And.intro h0 ca)))))
    rw [hx] at HC ⊢
    clear hB1 hB2 hx h h63 hA1 hA2 hab hac ca h0
    go_enter Tryz.func129, Tryz.ntmps129
    go_wp2_with fail
    refine HC.out.mono ?_
    rintro e w1 ⟨rfl, hb1⟩
    have HB1 := Lib.hid hb1
    clear hb1
    go_wp2_with fail
    refine (room_any (n := 1) (w := w1) (by omega)).mono ?_
    rintro e w2 ⟨O, co, rfl, hco, hown, hb2⟩
    obtain ⟨g, cur, rfl, hg, _⟩ := own_formN hown (by omega)
    have hcoi : (1 : Int) ≤ (co : Int) := by omega
    have H2 := Lib.hid (And.intro (below_base HB1.out hb2 HB1.out.size) (And.intro hown (And.intro hco (Nat.le_trans HB1.out.size hg))))
    clear hco hown hb2 hg
    go_wp2_with fail
    go_loopw [7, 8] (fun p q wr => q = .int .u64 0 ∧ ((p = .int .i64 0 ∧ wr = w2) ∨ (p = .int .i64 1 ∧ wr.ownsRow w1.heap.size 102 1 (.slice (some ⟨g, 0, none⟩) 1 co) 1 [.int .u64 ((a - b : Nat) : Int)] ∧ Below w.heap.size w wr))) (fun p q wr => 1 - (intOf p).toNat)
    case atStart => exact ⟨rfl, .inl ⟨rfl, rfl⟩⟩
    case round =>
      obtain ⟨rfl, ⟨rfl, rfl⟩ | ⟨rfl, hown, hb⟩⟩ := hrel
      · have hD := digit_any (c := d) ((HB.out.1.below H2.out.1).below (Below.refl wr.heap.size wr).drew) 0
        rw [HB.out.2.1, if_pos rfl] at hD
        have hD := Lib.hid hD
        obtain ⟨u0, cx, fx⟩ := own_cellE H2.out.2.1 (i := 0) (by simp)
        have ca := cell_below2 H2.out.1 (World.block_lt_of_cell? _ _ HB.out.2.2.2.2.2) HB.out.2.2.2.2.2
        have hsub := fun w => sub64_run (x := (a : Int)) (y := (b : Int)) (by omega) (by have := HB.out.2.2.1; omega) (by have := HB.out.2.2.2.1; omega) w
        rw [show (a : Int) - (b : Int) = ((a - b : Nat) : Int) from by have := HB.out.2.2.1; omega] at hsub
        have hs := own_setN H2.out.2.1 (i := 0) (by simp) (.int .u64 ((a - b : Nat) : Int))
        have hb' := H2.out.1.setCell (p := ⟨g, 0, none⟩) (by show w.heap.size ≤ g; exact H2.out.2.2.2) (.int .u64 ((a - b : Nat) : Int))
        have HE := Lib.hid (And.intro hs hb')
        generalize ((a - b : Nat) : Int) = xs at hsub HE
        clear hs hb'
        have cx2 : wr.drew.cell? ⟨g, 0, none⟩ = some u0 := cx
        have fx2 : wr.drew.frozen? ⟨g, 0, none⟩ = false := fx
        have ca2 : wr.drew.cell? ⟨ab, ao, none⟩ = some (.int .u64 (a : Int)) := ca
        go_wp2_with fail
        go_region_with (go_at_call 156; refine hD.out.mono ?_; rintro e w3 ⟨rfl, rfl⟩)
        all_goals go_wp2_with fail
        all_goals (refine ⟨⟨rfl, .inr ⟨?_, ?_, ?_⟩⟩, ?_⟩)
        all_goals (first | rfl | exact HE.out.1 | exact HE.out.2 | exact HE.out.2.drew | (show 1 - (1 : Int).toNat < 1 - (0 : Int).toNat; decide) | skip)
      · have hraw : RawV wr (some ⟨g, 0, none⟩) 1 (a - b) := ⟨Rd.of_own hown, fun e => by omega⟩
        have HT := Lib.hid (And.intro (trimmed_any (c := co) hraw (H2.out.2.2.1) (by omega)) (And.intro hb hraw))
        clear hown hb hraw
        go_wp2_with fail
        refine HT.out.1.mono ?_
        rintro e w3 ⟨rfl, rfl, hx⟩
        have HC := Lib.hid (And.intro hx (clipN_any (w := wr) (some ⟨g, 0, none⟩) (ln (a - b)) co (by have := H2.out.2.2.1; omega)))
        clear hx
        go_wp2_with fail
        refine HC.out.2.mono ?_
        rintro e w3 ⟨rfl, rfl⟩
        go_wp2_with fail
        go_ret2
        have hr : Rd wr (some ⟨g, 0, none⟩) (ln (a - b)) (dg (a - b)) := by
          have := HT.out.2.2.1.take_ HC.out.1
          rw [rows_take HC.out.1, rows_ln] at this
          exact this
        exact ⟨_, rfl, ⟨_, _, rfl, Nat.le_refl _, hr⟩, HT.out.2.1⟩
theorem bitLenAux_le : ∀ f x, Lib.bitLenAux f x ≤ f
  | 0, _ => Nat.le_refl _
  | f + 1, x => by
    unfold Lib.bitLenAux
    split
    · omega
    · have := bitLenAux_le f (x / 2); omega
theorem bitLen_pos {n : Nat} (h : 0 < n) : 0 < Lib.bitLen n := by
  unfold Lib.bitLen Lib.bitLenAux
  rw [if_neg (by omega)]
  omega
set_option maxRecDepth 100000 in
/-- limbs.Len -/
theorem lLen_any {w : World} {v : Value} {n : Nat} (h : NV w v n) (h63 : n < 9223372036854775808) : Calls Tryz.prog 90 #[v] w fun e w' => e = .returned (.int .i64 (Lib.bitLen n : Nat)) ∧ w = w' := by
  obtain ⟨A, c, rfl, hA1, hA2⟩ := h
  have HT := Lib.hid (trimmed_any (NV.raw hA2) hA1 (by have := ln_le n; omega))
  rcases Nat.eq_zero_or_pos n with h0 | h0
  · subst h0
    rw [ln_zero] at HT ⊢
    clear hA1 hA2
    go_enter Tryz.func90, Tryz.ntmps90
    go_wp2_with fail
    refine HT.out.mono ?_
    rintro e w3 ⟨rfl, rfl, hx⟩
    go_wp2_with fail
    go_ret
    exact ⟨rfl, rfl⟩
  · rw [ln_pos h0] at HT hA1 hA2 ⊢
    rw [dg_pos h0] at hA2
    obtain ⟨ab, ao, rfl, hab, hac⟩ := hA2.form (by omega)
    have ca : w.cell? ⟨ab, ao, none⟩ = some (.int .u64 (n : Int)) := hac 0 _ rfl
    have hc : (1 : Int) ≤ (c : Int) := by omega
    have HB := Lib.hid (bits_len64 (n : Int) w (by omega) (by omega))
    have hL : Lib.bitLen n ≤ 64 := bitLenAux_le 64 n
    have hw : IntKind.i64.wrap (0 + ((Lib.bitLen n : Nat) : Int)) = ((Lib.bitLen n : Nat) : Int) := by rw [IntKind.wrap_i64]; omega
    have hw2 : IntKind.i64.wrap ((Lib.bitLen n : Nat) : Int) = ((Lib.bitLen n : Nat) : Int) := by rw [IntKind.wrap_i64]; omega
    clear hA1 hA2 hab hac h63
    go_enter Tryz.func90, Tryz.ntmps90
    go_wp2_with fail
    refine HT.out.mono ?_
    rintro e w3 ⟨rfl, rfl, hx⟩
    clear h0 hx
    go_wp2_with fail
    refine HB.out.mono ?_
    rintro e w3 ⟨rfl, rfl⟩
    rw [Int.toNat_natCast]
    go_wp2_with fail
    go_ret
    exact ⟨rfl, rfl⟩
set_option maxRecDepth 100000 in
/-- limbs.Check -/
theorem lCheck_any {w : World} {v : Value} {n : Nat} (h : NV w v n) : Calls Tryz.prog 94 #[v] w fun e w' => e = .returned (.int .i64 0) ∧ w = w' := by
  obtain ⟨A, c, rfl, hA1, hA2⟩ := h
  rcases Nat.eq_zero_or_pos n with h0 | h0
  · subst h0
    rw [ln_zero]
    clear hA1 hA2
    go_enter Tryz.func94, Tryz.ntmps94
    go_wp2_with fail
    go_ret
    exact ⟨rfl, rfl⟩
  · rw [ln_pos h0] at hA1 hA2 ⊢
    rw [dg_pos h0] at hA2
    obtain ⟨ab, ao, rfl, hab, hac⟩ := hA2.form (by omega)
    have ca : w.cell? ⟨ab, ao, none⟩ = some (.int .u64 (n : Int)) := hac 0 _ rfl
    have hc : (1 : Int) ≤ (c : Int) := by omega
    have e1 : ((n : Int) == 0) = false := by simp; omega
    clear hA1 hA2 hab hac h0
    go_enter Tryz.func94, Tryz.ntmps94
    go_wp2_with fail
    go_ret
    exact ⟨rfl, rfl⟩
set_option maxRecDepth 100000 in
/-- limbs.One -/
theorem lOne_any {w : World} {v : Value} {n : Nat} (h : NV w v n) : Calls Tryz.prog 71 #[v] w fun e w' => e = .returned (.tuple #[.int .u64 (n : Int), .bool true]) ∧ w = w' := by
  obtain ⟨A, c, rfl, hA1, hA2⟩ := h
  have HT := Lib.hid (trimmed_any (NV.raw hA2) hA1 (by have := ln_le n; omega))
  rcases Nat.eq_zero_or_pos n with h0 | h0
  · subst h0
    rw [ln_zero] at HT ⊢
    clear hA1 hA2
    go_enter Tryz.func71, Tryz.ntmps71
    go_wp2_with fail
    refine HT.out.mono ?_
    rintro e w3 ⟨rfl, rfl, hx⟩
    go_wp2_with fail
    go_ret2
    exact ⟨rfl, rfl⟩
  · rw [ln_pos h0] at HT hA1 hA2 ⊢
    rw [dg_pos h0] at hA2
    obtain ⟨ab, ao, rfl, hab, hac⟩ := hA2.form (by omega)
    have ca : w.cell? ⟨ab, ao, none⟩ = some (.int .u64 (n : Int)) := hac 0 _ rfl
    have hc : (1 : Int) ≤ (c : Int) := by omega
    clear hA1 hA2 hab hac
    go_enter Tryz.func71, Tryz.ntmps71
    go_wp2_with fail
    refine HT.out.mono ?_
    rintro e w3 ⟨rfl, rfl, hx⟩
    clear h0 hx
    go_wp2_with fail
    go_ret2
    exact ⟨rfl, rfl⟩
end Go.Proofs.YtlhipaffhehcnaaGreat
