/- TopLeft: a range over a function: the laws. TopLeft: chance: the small functions. -/
import Derived.RangeFuncNested
import Derived.RangeFuncBound
import Derived.RangeFuncBox
import Derived.RangeFuncCalls
import Derived.RangeFuncLeaves
import Derived.RangeFuncWrites
import Derived.Shelf.Abstract
import Derived.Shelf.RegionOpen
import Derived.OwnWalkIn
import Derived.TacticsInMore
import Derived.LoopNIn
import Derived.LoopIn
import Derived.Stop.RegionWithIn
import Derived.Test.YtlhipaffhehcnaaGreatT25
namespace Go.Proofs.YtlhipaffhehcnaaGreat
open Go.RowKit Go.Shelf
set_option linter.unusedVariables false
/-- What a change keeps: cells, and whatever lies below B, but for the blocks of S, which hold no digits. -/
structure Kq (B : Nat) (S : Nat → Prop) (W W' : World) : Prop where
  os : W'.os = W.os
  tape : W'.tape = W.tape
  output : W'.output = W.output
  size : W.heap.size ≤ W'.heap.size
  keep : ∀ (k : Nat) (o : Obj), W.heap[k]? = some o → ¬ S k → (k < B ∨ o.isCells = true) → W'.heap[k]? = some o
  num : ∀ (g : Nat) (c : Array Value) (t : TypeId) (z : Nat × Nat), S g → W.heap[g]? = some (.cells c t z) → ∀ (i : Nat) (x : Int), c[i]? ≠ some (.int .u64 x)
def Nq (_ : Nat) : Prop := False
section
variable {B : Nat} {S T : Nat → Prop} {W W1 W' : World}
theorem Kq.refl (B : Nat) (W : World) : Kq B Nq W W := ⟨rfl, rfl, rfl, Nat.le_refl _, fun _ _ h _ _ => h, fun _ _ _ _ h => h.elim⟩
theorem Kq.trans (h : Kq B S W W1) (h' : Kq B T W1 W') : Kq B (fun g => S g ∨ T g) W W' :=
  ⟨h'.os.trans h.os, h'.tape.trans h.tape, h'.output.trans h.output, Nat.le_trans h.size h'.size,
   fun k o hk hs hc => h'.keep k o (h.keep k o hk (fun q => hs (.inl q)) hc) (fun q => hs (.inr q)) hc,
   fun g c t z hs hg => by
    by_cases q : S g
    · exact h.num g c t z q hg
    · rcases hs with hs | hs
      · exact absurd hs q
      · exact h'.num g c t z hs (h.keep g _ hg q (.inr rfl))⟩
theorem Kq.mono (h : Kq B S W W') (hS : ∀ g, S g ↔ T g) : Kq B T W W' :=
  ⟨h.os, h.tape, h.output, h.size, fun k o hk hs => h.keep k o hk (fun q => hs ((hS k).1 q)), fun g c t z hs => h.num g c t z ((hS g).2 hs)⟩
theorem Kq.both (h : Kq B S W W1) (h' : Kq B S W1 W') : Kq B S W W' := (h.trans h').mono fun g => by simp
theorem Kq.left (h : Kq B Nq W W1) (h' : Kq B S W1 W') : Kq B S W W' := (h.trans h').mono fun g => by simp [Nq]
theorem Kq.right (h : Kq B S W W1) (h' : Kq B Nq W1 W') : Kq B S W W' := (h.trans h').mono fun g => by simp [Nq]
theorem Kq.of_below (B : Nat) (h : Below W.heap.size W W') : Kq B Nq W W' :=
  ⟨h.os, h.tape, h.output, h.size, fun k o hk _ _ => (h.block k (Array.getElem?_eq_some_iff.1 hk).1).trans hk, fun _ _ _ _ h => h.elim⟩
theorem Kq.lower {B' : Nat} (h : Kq B S W W') (hB : B' ≤ B) : Kq B' S W W' := ⟨h.os, h.tape, h.output, h.size, fun k o hk hs hc => h.keep k o hk hs (hc.imp (fun q => by omega) id), h.num⟩
theorem Kq.put {l : Nat} {o o' : Obj} (hl : B ≤ l) (h : W.heap[l]? = some o) (ho : o.isCells = false) : Kq B Nq W (W.putObj l o') :=
  ⟨rfl, rfl, rfl, by simp, fun k q hk _ hc => by
    by_cases e : k = l
    · subst e
      rw [h] at hk
      injection hk with hk
      subst hk
      rcases hc with hc | hc
      · omega
      · rw [ho] at hc; cases hc
    · exact (World.putObj_heap_other (by omega)).trans hk, fun _ _ _ _ h => h.elim⟩
theorem Kq.bk (h : Kq B S W W') {g : Nat} {t : TypeId} {cs : List Value} (hb : Bk W g t cs) (hg : ¬ S g) : Bk W' g t cs := h.keep g _ hb hg (.inr rfl)
theorem cell_cells {W : World} {p : Addr} {v : Value} (h : W.cell? p = some v) : ∃ c t z, W.heap[p.block]? = some (.cells c t z) ∧ c[p.off]? = some v := by
  unfold World.cell? at h
  split at h
  · rename_i c t z e
    refine ⟨c, t, z, e, ?_⟩
    split at h
    · cases h
    · exact h
  · cases h
theorem Kq.cell (h : Kq B S W W') {p : Addr} {v : Value} (hc : W.cell? p = some v) (hs : ¬ S p.block) : W'.cell? p = some v := by
  obtain ⟨c, t, z, e, _⟩ := cell_cells hc
  rw [World.cell?_of_block (w := W) ((h.keep _ _ e hs (.inr rfl)).trans e.symm)]
  exact hc
theorem Kq.rd (h : Kq B S W W') {A : Option Addr} {n : Nat} {xs : List Value} (hr : Rd W A n xs) (hA : ∀ a, A = some a → ¬ S a.block) : Rd W' A n xs :=
  ⟨hr.1, fun hn => by
    obtain ⟨b, off, rfl, hb, hc⟩ := hr.form hn
    exact ⟨b, off, rfl, fun j u hu => h.cell (hc j u hu) (show ¬ S b from hA ⟨b, off, none⟩ rfl)⟩⟩
theorem Kq.nv (h : Kq B S W W') {v : Value} {n : Nat} (hv : NV W v n) : NV W' v n := by
  obtain ⟨A, c, rfl, h1, h2⟩ := hv
  refine ⟨A, c, rfl, h1, ?_⟩
  rcases Nat.eq_zero_or_pos n with h0 | h0
  · subst h0
    exact ⟨rfl, fun h => absurd h (by rw [ln_zero]; omega)⟩
  · refine h.rd h2 fun a ha hs => ?_
    rw [ln_pos h0, dg_pos h0] at h2
    obtain ⟨b, off, e, _, h3⟩ := h2.form (by omega)
    rw [e] at ha
    injection ha with ha
    subst ha
    have h4 := h3 0 _ rfl
    obtain ⟨c, t, z, e5, e6⟩ := cell_cells h4
    exact h.num _ c t z hs e5 _ _ e6
theorem Kq.qv (h : Kq B S W W') {v : Value} {q : Q} (hv : QV W v q) : QV W' v q := by
  obtain ⟨u, t, e, h1, h2⟩ := hv
  exact ⟨u, t, e, h.nv h1, h.nv h2⟩
theorem Kq.all3 (h : Kq B S W W') : ∀ {l : List R3} {qs : List Q}, All3 W l qs → All3 W' l qs
  | [], [], _ => trivial
  | r :: l, q :: qs, hh => ⟨h.qv hh.1, Kq.all3 h hh.2⟩
  | [], _ :: _, h => h
  | _ :: _, [], h => h
theorem Kq.tb (h : Kq B S W W') {A : Option Addr} {n : Nat} {t : List Nat} (ht : Tb W A n t) (hA : ∀ a, A = some a → ¬ S a.block) : Tb W' A n t := ⟨h.rd ht.1 hA, ht.2⟩
/-- What lay ahead of all of it is as it was. -/
theorem Kq.below {n : Nat} {w0 : World} (h : Kq B S W W') (hb : Below n w0 W) (hn : n ≤ w0.heap.size) (hB : n ≤ B) (hS : ∀ k, S k → n ≤ k) : Below n w0 W' :=
  ⟨h.os.trans hb.os, h.tape.trans hb.tape, h.output.trans hb.output, Nat.le_trans hb.size h.size, fun k hk => by
    have hk0 : k < w0.heap.size := by omega
    have e : w0.heap[k]? = some w0.heap[k] := Array.getElem?_eq_getElem hk0
    have e2 := (hb.block k hk).trans e
    rw [e]
    exact h.keep k _ e2 (fun q => by have := hS k q; omega) (.inl (by omega))⟩
theorem Kq.chg {w0 : World} (h : Kq B T W W') (hc : Chg S w0 W) (hB : w0.heap.size ≤ B) (hT : ∀ k, T k → S k) : Chg S w0 W' :=
  ⟨h.below hc.1 (Nat.zero_le _) (Nat.zero_le _) (fun _ _ => Nat.zero_le _), fun k hk hs => by
    have e : w0.heap[k]? = some w0.heap[k] := Array.getElem?_eq_getElem hk
    have e2 := (hc.2 k hk hs).trans e
    rw [e]
    exact h.keep k _ e2 (fun q => hs (hT k q)) (.inl (by omega))⟩
theorem Kq.set_ {g : Nat} {t : TypeId} {cs : List Value} (B : Nat) (hb : Bk W g t cs) (hc : ∀ (i : Nat) (x : Int), cs[i]? ≠ some (.int .u64 x)) (o : Nat) (u : Value) : Kq B (fun k => k = g) W (W.setCell ⟨g, o, none⟩ u) :=
  ⟨rfl, rfl, rfl, by simp [World.setCell], fun k q hk hs _ => (Below.heap_setCell W ⟨g, o, none⟩ u k hs).trans hk, fun k c t z e hk => by
    subst e
    unfold Bk at hb
    rw [hb] at hk
    injection hk with hk
    injection hk with h1 _ _
    subst h1
    intro i x
    have := hc i x
    simpa using this⟩
/-- A change of one's own blocks, from one world to another. -/
theorem Kq.of_chg {g : Nat → Prop} (B : Nat) (h : Chg g W W') (hn : ∀ (k : Nat) (c : Array Value) (t : TypeId) (z : Nat × Nat), g k → W.heap[k]? = some (.cells c t z) → ∀ (i : Nat) (x : Int), c[i]? ≠ some (.int .u64 x)) : Kq B g W W' :=
  ⟨h.1.os, h.1.tape, h.1.output, h.1.size, fun k o hk hs _ => (h.2 k (Array.getElem?_eq_some_iff.1 hk).1 hs).trans hk, hn⟩
end
theorem Kq.widen {B : Nat} {S : Nat → Prop} {W W' : World} (h : Kq B Nq W W') (hn : ∀ (g : Nat) (c : Array Value) (t : TypeId) (z : Nat × Nat), S g → W.heap[g]? = some (.cells c t z) → ∀ (i : Nat) (x : Int), c[i]? ≠ some (.int .u64 x)) : Kq B S W W' :=
  ⟨h.os, h.tape, h.output, h.size, fun k o hk _ => h.keep k o hk (fun q => q), hn⟩
theorem num_of_bk {W : World} {g0 : Nat} {t0 : TypeId} {cs : List Value} (hb : Bk W g0 t0 cs) (hc : ∀ (i : Nat) (x : Int), cs[i]? ≠ some (.int .u64 x)) : ∀ (g : Nat) (c : Array Value) (t : TypeId) (z : Nat × Nat), g = g0 → W.heap[g]? = some (.cells c t z) → ∀ (i : Nat) (x : Int), c[i]? ≠ some (.int .u64 x) := by
  intro g c t z e hk
  subst e
  unfold Bk at hb
  rw [hb] at hk
  injection hk with hk
  injection hk with h1 _ _
  subst h1
  intro i x
  have := hc i x
  simpa using this
theorem keepsFrom_below {B : Nat} {W W' : World} (h : Below W.heap.size W W') : KeepsFrom B W W' := ⟨h.size, fun k o _ hk _ => (h.block k (Array.getElem?_eq_some_iff.1 hk).1).trans hk⟩
theorem keepsFrom_chg {B : Nat} {S : Nat → Prop} {W W' : World} (h : Chg S W W') (hS : ∀ k o, S k → B ≤ k → W.heap[k]? = some o → o.isCells = true) : KeepsFrom B W W' :=
  ⟨h.size, fun k o hB hk ho => (h.2 k (Array.getElem?_eq_some_iff.1 hk).1 (fun q => by rw [hS k o q hB hk] at ho; cases ho)).trans hk⟩
/-- What an iterator promises: it yields N times, the i-th time what Ok says. -/
def IterN (F : Fence) (n : Nat) (P : Program) (gf : Nat) (lb : Array Value) (B : Nat) (S T : Nat → Prop) (Ok : Nat → Array Value → World → Prop) (N : Nat) (w : World) : Prop :=
  ∀ (l : Nat) (J : Nat → World → Prop) (Jx : World → Prop) (W : World), Kq B Nq w W →
    (∀ i W W', J i W → Kq B S W W' → KeepsFrom B W W' → J i W') → (∀ W W', Jx W → Kq B S W W' → KeepsFrom B W W' → Jx W') →
    (∀ i x W1, i < N → J i W1 → Ok i x W1 → YieldAt F (n - 1) P l x W1 fun e W' => Kq B T W1 W' ∧ ((e = .returned (.bool true) ∧ J (i + 1) W') ∨ (e = .returned (.bool false) ∧ Jx W'))) →
    J 0 W → CallsIn F n P gf (#[.func (.yield l) #[] #[]] ++ lb) W fun e W' => (∃ v, e = .returned v) ∧ (J N W' ∨ Jx W')
/-- What a body of a round must leave. -/
def stPost (B : Nat) (T : Nat → Prop) (R : World → Prop) (Ix : Code → World → Prop) (W : World) : Exit → Act → World → Prop
  | .normal, _, W' => KeepsFrom B W W' ∧ Kq B T W W' ∧ R W'
  | .ret, _, W' => KeepsFrom B W W' ∧ Kq B T W W' ∧ Ix .ret W'
  | .exit id, _, W' => KeepsFrom B W W' ∧ Kq B T W W' ∧ Ix (.exit id) W'
  | _, _, _ => False
section
variable {F : Fence} {n : Nat} {P : Program}
theorem range_st {g : Operand} {ps : Array Tmp} {assign body : Code} {Q : Exit → Act → World → Prop} {a : Act} {w : World} (S T : Nat → Prop)
    (hro : F.round = none) (h1 : 1 ≤ n) {gf : Nat} {lb : Array Value} (hg : a.eval g = .func (.func gf) #[] lb) (hFg : F.fn gf) (eg : ∀ args w, (callFunc gf args).run P w = .ok (.enter gf args) w)
    (I : Nat → World → Prop) (Ok : Nat → Array Value → World → Prop) (N : Nat) (Ix : Code → World → Prop)
    (hps : ∀ i x W, Ok i x W → x.size = ps.size)
    (hI : ∀ i W W', I i W → Kq w.heap.size S W W' → I i W') (hI0 : ∀ i W W', I i W → Kq w.heap.size Nq W W' → I i W') (hIx : ∀ c W W', Ix c W → Kq w.heap.size S W W' → Ix c W') (hIx0 : ∀ c W W', Ix c W → Kq w.heap.size Nq W W' → Ix c W')
    (h0 : I 0 w) (hseq : IterN F (n - 1) P gf lb w.heap.size S T Ok N w)
    (Ax : Nat → Array Value → Act → World → Prop) (hAx : ∀ i x a' W W', Ax i x a' W → Kq w.heap.size Nq W W' → Ax i x a' W')
    (hassign : ∀ (l i : Nat) (x : Array Value) (W : World) (K : Act → World → Prop), I i W → Ok i x W → (∀ a' W', KeepsFrom w.heap.size W W' → Kq w.heap.size T W W' → I i W' → Ax i x a' W' → K a' W') →
      assign.wpIn (F.inRound l) (n - 1 - 1) P (Exit.then K (fun _ _ _ => False)) { tmps := (ps.zip x).foldl (fun t (p, v) => t.setIfInBounds p v) a.tmps, defers := [] } W)
    (hbody : ∀ (l i : Nat) (x : Array Value) (a' : Act) (W : World), w.heap.size ≤ l → (∃ r, W.heap[l]? = some (.loop r)) → i < N → I i W → Ax i x a' W → body.wpIn (F.inRound l) (n - 1 - 1) P (stPost w.heap.size T (I (i + 1)) Ix W) a' W)
    (hdone : ∀ (D : Nat) (W : World), w.heap.size ≤ D → I N W → W.heap[D]? = some (.deferred (some [])) → Q .normal { a with defers := { target := .collected D, args := #[] } :: a.defers } W)
    (hstop : ∀ (D : Nat) (c : Code) (W : World), w.heap.size ≤ D → Ix c W → W.heap[D]? = some (.deferred (some [])) → c.wpIn F n P Q { a with defers := { target := .collected D, args := #[] } :: a.defers } W) :
    (Code.rangeFunc g ps assign body).wpIn F n P Q a w := by
  refine wpIn_rangeFunc ?_
  intro fn hfn
  rw [hro]
  obtain ⟨rec, hrec⟩ : ∃ rec : LoopState → Option Code → Loop, rec = fun st pe => { state := st, pending := pe, fn, tmps := a.tmps, params := ps, assign, body, defers := w.heap.size } := ⟨_, rfl⟩
  obtain ⟨W1, hW1⟩ : ∃ W1, (w.alloc (.deferred (some []))).alloc (.loop (rec .ready none)) = W1 := ⟨_, rfl⟩
  have hL1 : W1.heap[w.heap.size + 1]? = some (.loop (rec .ready none)) := by
    rw [← hW1]; have := World.alloc_heap_new (w.alloc (.deferred (some []))) (.loop (rec .ready none)); rwa [World.size_alloc] at this
  have hK1 : W1.heap[w.heap.size]? = some (.deferred (some [])) := by
    rw [← hW1]; exact (Below.heap_alloc _ _ _ (by simp)).trans (World.alloc_heap_new w _)
  have hkc1 : Kq w.heap.size Nq w W1 := by
    rw [← hW1]; exact Kq.of_below _ (((Below.refl _ w).alloc (Nat.le_refl _) _).alloc (by simp) _)
  have hI1 : I 0 W1 := hI0 _ _ _ h0 hkc1
  refine ⟨w.heap.size + 1, [{ target := .collected w.heap.size, args := #[] }], W1, { target := .fn (.func gf) lb, args := #[.func (.yield (w.heap.size + 1)) #[] #[]] }, W1, gf,
    #[.func (.yield (w.heap.size + 1)) #[] #[]] ++ lb, W1, ?_, ?_, ?_, ?_, fun _ => h1, ?_⟩
  · rw [← hW1, hrec]; exact run_enterLoop_outer _ _ _ _ _
  · simp only [resolve, hg]
    simp [go_sem]
  · intro f' hf'; simp [Target.leads] at hf'; subst hf'; exact hFg
  · simp [invoke, go_sem, eg]
  · refine (hseq (w.heap.size + 1)
      (fun i W => I i W ∧ W.heap[w.heap.size + 1]? = some (.loop (rec .ready none)) ∧ W.heap[w.heap.size]? = some (.deferred (some [])))
      (fun W => ∃ c, Ix c W ∧ W.heap[w.heap.size + 1]? = some (.loop (rec .done (some c))) ∧ W.heap[w.heap.size]? = some (.deferred (some [])))
      W1 hkc1
      (fun i A B h hkc hkf => ⟨hI i A B h.1 hkc, hkf.same _ _ (by omega) h.2.1 rfl, hkf.same _ _ (Nat.le_refl _) h.2.2 rfl⟩)
      (fun A B h hkc hkf => by
        obtain ⟨c, hc, hl, hk⟩ := h
        exact ⟨c, hIx c A B hc hkc, hkf.same _ _ (by omega) hl rfl, hkf.same _ _ (Nat.le_refl _) hk rfl⟩)
      ?_ ⟨hI1, hL1, hK1⟩).mono ?_
    · rintro i x W hiN ⟨hi, hl, hk⟩ hok
      have hlt : w.heap.size + 1 < W.heap.size := (Array.getElem?_eq_some_iff.1 hl).1
      have hy := run_yield (P := P) (args := x) hl (by rw [hrec]; exact hps i x W hok)
      rw [hrec] at hy
      refine ⟨fn, _, assign, body, hy, roundIn_of_wpIn hfn (hassign _ i x W _ hi hok ?_)⟩
      clear hy
      intro a' Wa hkfa hkca hia hax
      replace hl := hkfa.same _ _ (by omega) hl rfl
      replace hk := hkfa.same _ _ (Nat.le_refl _) hk rfl
      replace hlt : w.heap.size + 1 < Wa.heap.size := (Array.getElem?_eq_some_iff.1 hl).1
      refine ⟨_, run_beginRound hl (by rw [hrec]), ?_⟩
      have hl2 : (Wa.putObj (w.heap.size + 1) (.loop { rec .ready none with state := .busy })).heap[w.heap.size + 1]? = some (.loop { rec .ready none with state := .busy }) := World.putObj_heap_same hlt
      have hk2 : (Wa.putObj (w.heap.size + 1) (.loop { rec .ready none with state := .busy })).heap[w.heap.size]? = some (.deferred (some [])) := (World.putObj_heap_other (by omega)).trans hk
      have hw2 : Kq w.heap.size Nq Wa (Wa.putObj (w.heap.size + 1) (.loop { rec .ready none with state := .busy })) := Kq.put (by omega) hl rfl
      refine wpIn_mono (hbody _ i x a' _ (by omega) ⟨_, hl2⟩ hiN (hI0 _ _ _ hia hw2) (hAx _ _ _ _ _ hax hw2)) ?_
      have fin : ∀ (jump : Option Code) (W3 : World), KeepsFrom w.heap.size (Wa.putObj (w.heap.size + 1) (.loop { rec .ready none with state := .busy })) W3 →
          (Instr.endRound (w.heap.size + 1) jump).run P W3 = .ok (.bool jump.isNone) (W3.putObj (w.heap.size + 1) (.loop (rec (if jump.isNone then .ready else .done) jump))) ∧
          W3.heap[w.heap.size + 1]? = some (.loop { rec .ready none with state := .busy }) ∧
          (W3.putObj (w.heap.size + 1) (.loop (rec (if jump.isNone then .ready else .done) jump))).heap[w.heap.size + 1]? = some (.loop (rec (if jump.isNone then .ready else .done) jump)) ∧
          (W3.putObj (w.heap.size + 1) (.loop (rec (if jump.isNone then .ready else .done) jump))).heap[w.heap.size]? = some (.deferred (some [])) := fun jump W3 hk3 => by
        have hl3 := hk3.same _ _ (by omega) hl2 rfl
        have := run_endRound (P := P) jump hl3
        rw [hrec] at this ⊢
        exact ⟨this, by rw [hrec] at hl3; exact hl3, World.putObj_heap_same (Array.getElem?_eq_some_iff.1 hl3).1, (World.putObj_heap_other (by omega)).trans (hk3.same _ _ (Nat.le_refl _) hk2 rfl)⟩
      rintro e a3 W3 hp
      cases e with
      | normal =>
        obtain ⟨hk3, hkp3, hi3⟩ := hp
        obtain ⟨hr, hl3, hl4, hk4⟩ := fin none W3 hk3
        exact ⟨_, _, hr, (hkca.both (hw2.left hkp3)).right (Kq.put (by omega) hl3 rfl), .inl ⟨rfl, hI0 _ _ _ hi3 (Kq.put (by omega) hl3 rfl), hl4, hk4⟩⟩
      | ret =>
        obtain ⟨hk3, hkp3, hi3⟩ := hp
        obtain ⟨hr, hl3, hl4, hk4⟩ := fin (some .ret) W3 hk3
        exact ⟨_, _, hr, (hkca.both (hw2.left hkp3)).right (Kq.put (by omega) hl3 rfl), .inr ⟨rfl, .ret, hIx0 _ _ _ hi3 (Kq.put (by omega) hl3 rfl), hl4, hk4⟩⟩
      | exit id =>
        obtain ⟨hk3, hkp3, hi3⟩ := hp
        obtain ⟨hr, hl3, hl4, hk4⟩ := fin (some (.exit id)) W3 hk3
        exact ⟨_, _, hr, (hkca.both (hw2.left hkp3)).right (Kq.put (by omega) hl3 rfl), .inr ⟨rfl, .exit id, hIx0 _ _ _ hi3 (Kq.put (by omega) hl3 rfl), hl4, hk4⟩⟩
      | goto t => exact hp.elim
      | panic ch => exact hp.elim
      | outgrown => exact hp.elim
    · rintro e W2 ⟨⟨v, rfl⟩, (⟨hi, hl, hk⟩ | ⟨c, hi, hl, hk⟩)⟩
      · exact ⟨none, _, by have := run_endLoop (P := P) hl (by rw [hrec]; simp); rw [hrec] at this; exact this, hdone _ _ (Nat.le_refl _) (hI0 _ _ _ hi (Kq.put (by omega) hl rfl)) ((World.putObj_heap_other (by omega)).trans hk)⟩
      · exact ⟨some c, _, by have := run_endLoop (P := P) hl (by rw [hrec]; simp); rw [hrec] at this; exact this, hstop _ c _ (Nat.le_refl _) (hIx0 _ _ _ hi (Kq.put (by omega) hl rfl)) ((World.putObj_heap_other (by omega)).trans hk)⟩
end
end Go.Proofs.YtlhipaffhehcnaaGreat
namespace Go.Proofs.YtlhipaffhehcnaaGreat
open Go.RowKit
set_option linter.unusedVariables false
theorem sg_abs (s : Bool) (n : Nat) : (sg s n).natAbs = n := by
  unfold sg
  split <;> simp
theorem qlow_ok {z : Int} {d : Nat} (hd : 0 < d) (hz : z.natAbs < 2147483648) (hd2 : d < 2147483648) : (qlow z d).ok = true := by
  have hg : 0 < qg z d := Nat.gcd_pos_of_pos_right _ hd
  have e : (qlow z d).z.natAbs = z.natAbs / qg z d := sg_abs _ _
  have e2 : (qlow z d).d = d / qg z d := rfl
  have h1 := Nat.div_le_self z.natAbs (qg z d)
  have h2 := Nat.div_le_self d (qg z d)
  have h3 : 0 < d / qg z d := Nat.div_pos (Nat.le_of_dvd hd (Nat.gcd_dvd_right _ _)) hg
  have h4 : Nat.gcd (z.natAbs / qg z d) (d / qg z d) = 1 := by
    unfold qg
    exact Nat.gcd_div_gcd_div_gcd_of_pos_right hd
  unfold Q.ok
  rw [e, e2, h4]
  simp only [Bool.and_eq_true, Nat.blt_eq]
  exact ⟨h3, rfl, by omega, by omega⟩
theorem qlow_nat (n d : Nat) : qlow (n : Int) d = ⟨((n / Nat.gcd n d : Nat) : Int), d / Nat.gcd n d⟩ := by
  unfold qlow qg
  rw [decide_eq_false (by omega), Int.natAbs_natCast]
  rfl
theorem pair_q {w : World} {n d : Nat} (hd : 0 < d) (h1 : n < 4294967296) (h2 : d < 4294967296) : Calls Tryz.prog 23 #[.int .i64 (n : Nat), .int .i64 (d : Nat)] w fun e w' => ∃ v, e = .returned (.tuple #[v, .int .i64 0]) ∧ QV w' v (qlow (n : Int) d) ∧ Below w.heap.size w w' := by
  rw [qlow_nat]
  exact pair_any hd h1 h2
/-- Sums and products, looked at. -/
def addO (l : List Q) : Option Q := if allOk l then qfold qsum ⟨0, 1⟩ l else none
def mulO (l : List Q) : Option Q := if allOk l then qfold qprod ⟨1, 1⟩ l else none
theorem qfold_ok {F : Q → Q → Q} {s t : Q} {l : List Q} (hs : s.ok = true) (h : qfold F s l = some t) : t.ok = true := by
  induction l generalizing s with
  | nil => injection h with h; rw [← h]; exact hs
  | cons q l ih =>
    unfold qfold at h
    split at h
    · rename_i hq; exact ih hq h
    · cases h
theorem addO_ok {l : List Q} {t : Q} (h : addO l = some t) : t.ok = true := by
  unfold addO at h
  split at h
  · exact qfold_ok rfl h
  · cases h
theorem add_o {w : World} {t : Q} {A : Option Addr} {n c : Nat} {qs : List Q} (hl : QR w A n qs) (hn : n ≤ 1000000) (hnc : n ≤ c) (hf : addO qs = some t) : Calls Tryz.prog 11 #[.slice A n c] w fun e w' => ∃ v, e = .returned (.tuple #[v, .int .i64 0]) ∧ QV w' v t ∧ Below w.heap.size w w' := by
  unfold addO at hf
  split at hf
  · rename_i h; exact add_q hl hn hnc h hf
  · cases hf
theorem mul_o {w : World} {t : Q} {A : Option Addr} {n c : Nat} {qs : List Q} (hl : QR w A n qs) (hn : n ≤ 1000000) (hnc : n ≤ c) (hf : mulO qs = some t) : Calls Tryz.prog 12 #[.slice A n c] w fun e w' => ∃ v, e = .returned (.tuple #[v, .int .i64 0]) ∧ QV w' v t ∧ Below w.heap.size w w' := by
  unfold mulO at hf
  split at hf
  · rename_i h; exact mul_q hl hn hnc h hf
  · cases hf
/-- A new block of fractions. -/
theorem QR.new {w : World} {rs : List R3} {qs : List Q} (h : All3 w rs qs) : QR (w.alloc (.cells (r3s rs).toArray 40)) (some ⟨w.heap.size, 0, none⟩) rs.length qs :=
  ⟨rs, rfl, Rd.of_bk (Bk.new w 40 (r3s rs)) (by rw [r3s_len]; omega) (by rw [List.drop_zero, List.take_of_length_le (by rw [r3s_len]; omega)]), h.below ((Below.refl _ _).alloc (Nat.le_refl _) _)⟩
theorem QR.new2 {w : World} {r s : R3} {a b : Q} (h1 : QV w r.v a) (h2 : QV w s.v b) : QR (w.alloc (.cells #[.bool r.s, .slice r.A r.m r.c, .slice r.B r.n r.d, .bool s.s, .slice s.A s.m s.c, .slice s.B s.n s.d] 40)) (some ⟨w.heap.size, 0, none⟩) 2 [a, b] :=
  QR.new (rs := [r, s]) (qs := [a, b]) ⟨h1, h2, trivial⟩
theorem QR.new3 {w : World} {r s u : R3} {a b c : Q} (h1 : QV w r.v a) (h2 : QV w s.v b) (h3 : QV w u.v c) : QR (w.alloc (.cells #[.bool r.s, .slice r.A r.m r.c, .slice r.B r.n r.d, .bool s.s, .slice s.A s.m s.c, .slice s.B s.n s.d, .bool u.s, .slice u.A u.m u.c, .slice u.B u.n u.d] 40)) (some ⟨w.heap.size, 0, none⟩) 3 [a, b, c] :=
  QR.new (rs := [r, s, u]) (qs := [a, b, c]) ⟨h1, h2, h3, trivial⟩
/-- Of numbers below 0 or too large: none. -/
def chooseI (n : Nat) (k : Int) : Nat := if k < 0 then 0 else choose n k.toNat
theorem chooseI_nat (n k : Nat) : chooseI n (k : Int) = choose n k := by unfold chooseI; rw [if_neg (by omega)]; rfl
theorem chooseI_no {n : Nat} {k : Int} (h : k < 0 ∨ (n : Int) < k) : chooseI n k = 0 := by
  unfold chooseI
  split
  · rfl
  · unfold choose; rw [if_pos (by omega)]
theorem chooseI_le {n : Nat} {k : Int} (hn : n ≤ 8) : chooseI n k ≤ 70 := by
  by_cases h : k < 0 ∨ (n : Int) < k
  · rw [chooseI_no h]; omega
  · obtain ⟨j, rfl⟩ : ∃ j : Nat, k = (j : Int) := ⟨k.toNat, by omega⟩
    rw [chooseI_nat]
    exact (choose_bd n hn j (by omega)).2
set_option maxRecDepth 100000 in
theorem choose_i {w : World} {n : Nat} {k : Int} (hn : n ≤ 8) (hk0 : -8 ≤ k) (hk1 : k ≤ 8) : Calls Tryz.prog 48 #[.int .i64 (n : Nat), .int .i64 k] w fun e w' => ∃ v, e = .returned (.tuple #[v, .int .i64 0]) ∧ NV w' v (chooseI n k) ∧ Below w.heap.size w w' := by
  by_cases hin : 0 ≤ k ∧ k ≤ (n : Int)
  · obtain ⟨j, rfl⟩ : ∃ j : Nat, k = (j : Int) := ⟨k.toNat, by omega⟩
    rw [chooseI_nat]
    exact choose_any hn (by omega)
  · rw [chooseI_no (by omega)]
    have d1 : decide ((n : Int) < 0) = false := decide_eq_false (by omega)
    have d2 : decide ((n : Int) > 65536) = false := decide_eq_false (by omega)
    have d2' : decide (65536 < (n : Int)) = false := decide_eq_false (by omega)
    by_cases h0 : k < 0
    · have d3 : decide (k < 0) = true := decide_eq_true h0
      clear hin h0
      go_enter Tryz.func48, Tryz.ntmps48
      go_wp2_with fail
      go_ret2
      exact ⟨_, rfl, NV.nil _, Below.refl _ _⟩
    · have d3 : decide (k < 0) = false := decide_eq_false h0
      have d4 : decide (k > (n : Int)) = true := decide_eq_true (by omega)
      have d4' : decide ((n : Int) < k) = true := decide_eq_true (by omega)
      clear hin h0
      go_enter Tryz.func48, Tryz.ntmps48
      go_wp2_with fail
      go_ret2
      exact ⟨_, rfl, NV.nil _, Below.refl _ _⟩
set_option maxRecDepth 100000 in
/-- chance.pair -/
theorem cpair_any {w : World} {n d : Nat} (hd : 0 < d) (h1 : n < 4294967296) (h2 : d < 4294967296) : Calls Tryz.prog 122 #[.int .i64 (n : Nat), .int .i64 (d : Nat)] w fun e w' => ∃ v, e = .returned v ∧ QV w' v (qlow (n : Int) d) ∧ Below w.heap.size w w' := by
  have hb0 : Below w.heap.size w (w.alloc (.cells #[.bool false, .slice none 0 0, .slice none 0 0] 40)) := (Below.refl _ _).alloc (Nat.le_refl _) _
  have k0 := Bk.newA w 40 #[.bool false, .slice none 0 0, .slice none 0 0]
  have H0 := Lib.hid (And.intro hb0 (And.intro k0 (And.intro hd (And.intro h1 h2))))
  clear hb0 k0 hd h1 h2
  go_enter Tryz.func122, Tryz.ntmps122
  go_wp2_with fail
  refine (pair_q H0.out.2.2.1 H0.out.2.2.2.1 H0.out.2.2.2.2).mono ?_
  rintro e w1 ⟨v, rfl, hv, hb1⟩
  obtain ⟨r, rfl⟩ := hv.r3
  have hb2 := below_base H0.out.1 hb1 H0.out.1.size
  have hbA := hb2.alloc hb2.size (.cells #[.bool r.s, .slice r.A r.m r.c, .slice r.B r.n r.d] 40)
  have kA := (H0.out.2.1.belowS hb1).alloc (.cells #[.bool r.s, .slice r.A r.m r.c, .slice r.B r.n r.d] 40)
  obtain ⟨_, _, _, s0, s1, s2⟩ := cells_rat kA
  have HF := Lib.hid (fin_rat kA (hv.below ((Below.refl _ _).alloc (Nat.le_refl _) _)) hbA (Nat.le_refl _))
  clear hv hb1 hb2 hbA kA
  unfold R3.v
  go_wp2_with fail
  refine bodyPost_ret (ret_rat27 rfl rfl HF.out.1) rfl ?_
  exact ⟨_, rfl, HF.out.2⟩
set_option maxRecDepth 100000 in
set_option maxHeartbeats 1000000 in
/-- chance.plus -/
theorem cplus_any {w : World} {va vb : Value} {a b t : Q} (ha : QV w va a) (hb : QV w vb b) (ht : addO [a, b] = some t) : Calls Tryz.prog 150 #[va, vb] w fun e w' => ∃ v, e = .returned v ∧ QV w' v t ∧ Below w.heap.size w w' := by
  obtain ⟨r, rfl⟩ := ha.r3
  obtain ⟨s, rfl⟩ := hb.r3
  obtain ⟨w1, hw1⟩ : ∃ w1, ((w.alloc (.cells #[.bool r.s, .slice r.A r.m r.c, .slice r.B r.n r.d] 40)).alloc (.cells #[.bool s.s, .slice s.A s.m s.c, .slice s.B s.n s.d] 40)).alloc (.cells #[.bool false, .slice none 0 0, .slice none 0 0] 40) = w1 := ⟨_, rfl⟩
  have hB := BxS.new w (.bool r.s) (.slice r.A r.m r.c) (.slice r.B r.n r.d) (.bool s.s) (.slice s.A s.m s.c) (.slice s.B s.n s.d)
  rw [hw1] at hB
  obtain ⟨g, hg⟩ : ∃ g, w.heap.size = g := ⟨_, rfl⟩
  rw [hg] at hB
  have HB := Lib.hid hB
  obtain ⟨c0, c1, c2, c3, c4, c5⟩ := hB.cellz
  have HQ := Lib.hid (And.intro (QR.new2 (ha.below hB.l) (hb.below hB.l)) ht)
  clear ha hb ht hB
  unfold R3.v
  go_enter Tryz.func150, Tryz.ntmps150
  go_wp2_with fail
  refine (add_o HQ.out.1 (by decide) (Nat.le_refl _) HQ.out.2).mono ?_
  rintro e w2 ⟨v, rfl, hv, hb2⟩
  obtain ⟨u, rfl⟩ := hv.r3
  have hB2 := HB.out.alloc_below hb2
  have hB3 := hB2.allocd (.cells #[.bool u.s, .slice u.A u.m u.c, .slice u.B u.n u.d] 40)
  obtain ⟨_, _, _, s0, s1, s2⟩ := cells_rat hB3.r
  have HF := Lib.hid (hB3.fin (hv.below ((Below.refl _ _).alloc (Nat.le_refl _) _)))
  clear hv hb2 hB2 hB3 c0 c1 c2 c3 c4 c5
  unfold R3.v
  go_wp2_with fail
  refine bodyPost_ret (ret_rat27 rfl rfl HF.out.1) rfl ?_
  exact ⟨_, rfl, HF.out.2⟩
/-- The chance that a set of d meets just j of u. -/
def meetsQ (k u j d : Nat) : Q := qlow ((chooseI u j * chooseI (k - u) ((d : Int) - (j : Int)) : Nat) : Int) (choose k d)
set_option maxRecDepth 100000 in
set_option maxHeartbeats 1000000 in
/-- chance.meets -/
theorem meets_any {w : World} {k u j d : Nat} (hk : k ≤ 8) (hu : u ≤ k) (hj : j ≤ 8) (hd : d ≤ k) : Calls Tryz.prog 149 #[.int .i64 (k : Nat), .int .i64 (u : Nat), .int .i64 (j : Nat), .int .i64 (d : Nat)] w fun e w' => ∃ v, e = .returned v ∧ QV w' v (meetsQ k u j d) ∧ Below w.heap.size w w' := by
  have hb0 : Below w.heap.size w (w.alloc (.cells #[.bool false, .slice none 0 0, .slice none 0 0] 40)) := (Below.refl _ _).alloc (Nat.le_refl _) _
  have k0 := Bk.newA w 40 #[.bool false, .slice none 0 0, .slice none 0 0]
  have p1 := chooseI_le (n := u) (k := (j : Int)) (by omega)
  have p2 := chooseI_le (n := k - u) (k := (d : Int) - (j : Int)) (by omega)
  have p3 := choose_bd k hk d hd
  have p4 : chooseI u j * chooseI (k - u) ((d : Int) - (j : Int)) ≤ 70 * 70 := Nat.mul_le_mul p1 p2
  have hw1 : IntKind.i64.wrap ((k : Int) - (u : Int)) = ((k - u : Nat) : Int) := by rw [IntKind.wrap_i64]; omega
  have hw2 : IntKind.i64.wrap ((d : Int) - (j : Int)) = (d : Int) - (j : Int) := by rw [IntKind.wrap_i64]; omega
  have he1 : (k : Int) - (u : Int) = ((k - u : Nat) : Int) := by omega
  have HC1 := Lib.hid (fun (W : World) => choose_i (w := W) (n := u) (k := (j : Int)) (by omega) (by omega) (by omega))
  have HC2 := Lib.hid (fun (W : World) => choose_i (w := W) (n := k - u) (k := (d : Int) - (j : Int)) (by omega) (by omega) (by omega))
  have HC3 := Lib.hid (fun (W : World) => choose_any (w := W) hk hd)
  have H0 := Lib.hid (And.intro hb0 (And.intro k0 (And.intro p1 (And.intro p2 (And.intro p3 p4)))))
  have hkI : (k : Int) ≤ 8 := by omega
  have huI : (u : Int) ≤ (k : Int) := by omega
  have hjI : (j : Int) ≤ 8 := by omega
  have hdI : (d : Int) ≤ (k : Int) := by omega
  unfold meetsQ
  obtain ⟨a, ha⟩ : ∃ a, chooseI u j = a := ⟨_, rfl⟩
  obtain ⟨b, hb⟩ : ∃ b, chooseI (k - u) ((d : Int) - (j : Int)) = b := ⟨_, rfl⟩
  rw [ha] at H0 HC1 ⊢
  rw [hb] at H0 HC2 ⊢
  clear hb0 k0 p1 p2 p3 p4 hk hu hj hd ha hb
  go_enter Tryz.func149, Tryz.ntmps149
  go_wp2_with fail
  refine (HC1.out _).mono ?_
  rintro e w1 ⟨v1, rfl, hv1, hb1⟩
  have H1 := Lib.hid (And.intro (below_base H0.out.1 hb1 H0.out.1.size) (And.intro (H0.out.2.1.belowS hb1) hv1))
  obtain ⟨A1, m1, c1, rfl⟩ := hv1.form
  clear hv1 hb1
  go_wp2_with fail
  refine (HC2.out _).mono ?_
  rintro e w2 ⟨v2, rfl, hv2, hb2⟩
  have H2 := Lib.hid (And.intro (below_base H1.out.1 hb2 H1.out.1.size) (And.intro (H1.out.2.1.belowS hb2) (And.intro (H1.out.2.2.below hb2) hv2)))
  obtain ⟨A2, m2, c2, rfl⟩ := hv2.form
  clear hv2 hb2
  go_wp2_with fail
  refine (HC3.out _).mono ?_
  rintro e w3 ⟨v3, rfl, hv3, hb3⟩
  have H3 := Lib.hid (And.intro (below_base H2.out.1 hb3 H2.out.1.size) (And.intro (H2.out.2.1.belowS hb3) (And.intro (tMul_any (H2.out.2.2.1.below hb3) (H2.out.2.2.2.below hb3) (by have := H0.out; omega) (by have := H0.out; omega) (by have := H0.out; omega)) hv3)))
  obtain ⟨A3, m3, c3, rfl⟩ := hv3.form
  clear hv3 hb3
  go_wp2_with fail
  refine H3.out.2.2.1.mono ?_
  rintro e w4 ⟨v4, rfl, hv4, hb4⟩
  have H4 := Lib.hid (And.intro (below_base H3.out.1 hb4 H3.out.1.size) (And.intro (H3.out.2.1.belowS hb4) (And.intro (sMake_any false hv4) (H3.out.2.2.2.below hb4))))
  obtain ⟨A4, m4, c4, rfl⟩ := hv4.form
  clear hv4 hb4
  go_wp2_with fail
  refine H4.out.2.2.1.mono ?_
  rintro e w5 ⟨v5, rfl, hv5, hb5⟩
  have H5 := Lib.hid (And.intro (below_base H4.out.1 hb5 H4.out.1.size) (And.intro (H4.out.2.1.belowS hb5) (rMake_any hv5 (H4.out.2.2.2.below hb5) (by have := H0.out; omega) (by rw [sg_abs]; have := H0.out; omega) (by have := H0.out; omega))))
  obtain ⟨b5, A5, m5, c5, rfl⟩ := hv5.form
  clear hv5 hb5
  go_wp2_with fail
  refine H5.out.2.2.mono ?_
  rintro e w6 ⟨v6, rfl, hv6, hb6⟩
  have hv6q : QV w6 v6 (qlow ((a * b : Nat) : Int) (choose k d)) := hv6
  obtain ⟨r, rfl⟩ := hv6q.r3
  have hb06 := below_base H5.out.1 hb6 H5.out.1.size
  have hbA := hb06.alloc hb06.size (.cells #[.bool r.s, .slice r.A r.m r.c, .slice r.B r.n r.d] 40)
  have kA := (H5.out.2.1.belowS hb6).alloc (.cells #[.bool r.s, .slice r.A r.m r.c, .slice r.B r.n r.d] 40)
  obtain ⟨_, _, _, s0, s1, s2⟩ := cells_rat kA
  have HF := Lib.hid (fin_rat kA (hv6q.below ((Below.refl _ _).alloc (Nat.le_refl _) _)) hbA (Nat.le_refl _))
  clear hv6 hv6q hb6 hb06 hbA kA
  unfold R3.v
  go_wp2_with fail
  refine bodyPost_ret (ret_rat27 rfl rfl HF.out.1) rfl ?_
  exact ⟨_, rfl, HF.out.2⟩
set_option maxRecDepth 100000 in
/-- chance.refuses, of what is fine -/
theorem crefuses_any {w : World} {A : Option Addr} {n c k u : Nat} {t : List Nat} (h : Tb w A n t) (hk : k ≤ 8) (hu : u ≤ k) (ht : tOk t k = true) : Calls Tryz.prog 117 #[.slice A n c, .int .i64 (k : Nat), .int .i64 (u : Nat)] w fun e w' => e = .returned (.int .i64 0) ∧ w = w' := by
  obtain ⟨h1, _, _⟩ := tOk_len ht
  have HC := Lib.hid (solCheck_any (c := c) h (show k ≤ 65536 by omega))
  rw [chkN_yes ht] at HC
  have d1 : decide ((k : Int) < 1) = false := decide_eq_false (by omega)
  have d2 : decide ((k : Int) > 1024) = false := decide_eq_false (by omega)
  have d2' : decide (1024 < (k : Int)) = false := decide_eq_false (by omega)
  have d3 : decide ((u : Int) < 0) = false := decide_eq_false (by omega)
  have d4 : decide ((u : Int) > (k : Int)) = false := decide_eq_false (by omega)
  have d4' : decide ((k : Int) < (u : Int)) = false := decide_eq_false (by omega)
  have d4'' : decide (k < u) = false := decide_eq_false (by omega)
  clear h hk hu ht h1
  go_enter Tryz.func117, Tryz.ntmps117
  go_wp2_with fail
  refine HC.out.mono ?_
  rintro e w1 ⟨rfl, rfl⟩
  go_wp2_with fail
  go_ret
  exact ⟨rfl, rfl⟩
end Go.Proofs.YtlhipaffhehcnaaGreat
