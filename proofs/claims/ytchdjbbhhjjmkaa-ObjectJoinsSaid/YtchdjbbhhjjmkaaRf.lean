/- A range over a function: which blocks a round may change. -/
import Derived.RangeFuncNested
import Derived.RangeFuncBound
import Derived.RangeFuncBox
import Derived.RangeFuncCalls
import Derived.RangeFuncLeaves
import Derived.Shelf.Abstract
import Derived.Shelf.RegionOpen
import Derived.OwnWalkIn
import Derived.TacticsInMore
import Derived.LoopNIn
import Derived.LoopIn
import Derived.Stop.RegionWithIn
import Derived.Test.YtchdjbbhhjjmkaaSm
namespace Go.Proofs.Ytchdjbbhhjjmkaa
open Go.RowKit Go.Shelf
set_option linter.unusedVariables false
/-- Below n₀, the blocks of S alone may have changed. -/
def KpS (S : Nat → Prop) (n₀ : Nat) (A B : World) : Prop := ∀ k, k < n₀ → ¬ S k → B.heap[k]? = A.heap[k]?
theorem KpS.refl (S : Nat → Prop) (n₀ : Nat) (A : World) : KpS S n₀ A A := fun _ _ _ => rfl
theorem KpS.trans {S : Nat → Prop} {n₀ : Nat} {A B C : World} (h : KpS S n₀ A B) (k : KpS S n₀ B C) : KpS S n₀ A C := fun i h1 h2 => (k i h1 h2).trans (h i h1 h2)
theorem KpS.cell {S : Nat → Prop} {n₀ : Nat} {A B : World} (h : KpS S n₀ A B) {p : Addr} (h1 : p.block < n₀) (h2 : ¬ S p.block) : B.cell? p = A.cell? p := World.cell?_of_block (w := A) (h p.block h1 h2)
theorem KpS.below {S : Nat → Prop} {n₀ : Nat} {A B : World} (h : Below A.heap.size A B) (hn : n₀ ≤ A.heap.size) : KpS S n₀ A B := fun k hk _ => h.block k (by omega)
theorem KpS.drew (S : Nat → Prop) (n₀ : Nat) (A : World) : KpS S n₀ A A.drew := fun _ _ _ => rfl
theorem kpS_b {S : Nat → Prop} {n₀ : Nat} {w : World} (hn : n₀ ≤ w.heap.size) (W : World) (l : Nat) (o o' : Obj) (hl : w.heap.size ≤ l) (h : W.heap[l]? = some o) (_ : o.isCells = false) (_ : o.isWalk = false) : KpS S n₀ W (W.putObj l o') :=
  fun i h1 h2 => (belowK_b hn W l o o' hl h (by assumption) (by assumption)).block i h1
/-- An append within a region that draws its order, inside a fence. -/
theorem stepIn_append_rd {F : Fence} {n' : Nat} {P : Program} {ops : Array Oper} {o : Oper} {a : Act} {w : World} {K : Act → World → Prop} {Q : Exit → Act → World → Prop} {E : Prop} (hgd : o.guard = none) (s x : Operand) (t : TypeId)
    (ho : o.op = .call { callee := .builtin .append, args := #[s, x], argTypes := #[t, t] })
    (base : Nat) (e : TypeId) (i : TypeInfo) (z : Value) (size bytes : Nat) (ht : P.underlying t = some (.slice e)) (hi : P.info? e = some i) (hz : i.zero = some z)
    (hsize : i.size = size) (hby : i.bytes = bytes) (hzs : z.cells.size = size) (hsz : 0 < size)
    (v : Value) (n : Nat) (xs : List Value) (hs : a.eval s = v) (hown : w.ownsRow base e size v n xs)
    (A : Option Addr) (m c : Nat) (news : List Value) (hx : a.eval x = .slice A m c) (hr : Rd w A (m * size) news) (h1 : ∀ u ∈ news, u.oneCell' = true)
    (h63 : n + m ≤ maxLen) (hbytes : (n + m) * bytes ≤ 140737488355328) (hbase : base ≤ w.heap.size)
    (h : ∀ v' w', w'.ownsRow base e size v' (n + m) (xs ++ news) → w.grownBy w' v.ownBlock → (v'.ownBlock = v.ownBlock ∨ v'.ownBlock = some w.heap.size) → K (a.put o.dst v') w') :
    if Region.wanted o (yielded ops a.tmps) = true then Oper.wpIn F n' P o a w K Q else E := by
  have hw : Region.wanted o (yielded ops a.tmps) = true := by simp [Region.wanted, hgd]
  rw [if_pos hw]
  obtain ⟨v', w', hrun, h2, h3, h4⟩ := run_append_rd (P := P) w base t o.type e i z size bytes ht hi hz hsize hby hzs hsz v n xs hown A m c news hr h1 h63 hbytes hbase
  unfold Oper.wpIn
  refine ⟨?_, ?_⟩
  · simp [Oper.about, ho, resolve, Target.leads, Sem.run_pure]
  · rw [Oper.semAt_plain F _ _ (by rw [ho]; intro c hc'; cases hc')]
    simp [execOp, ho, resolve, invoke, builtin, hs, hx, hrun, Result.andThen]
    exact h v' w' h2 h3 h4
/-- What a body of a round that always goes on must leave. -/
def goesOn (B : Nat) (Kp : World → World → Prop) (R : World → Prop) (W : World) : Exit → Act → World → Prop
  | .normal, _, W' => KeepsFrom B W W' ∧ Kp W W' ∧ R W'
  | _, _, _ => False
/-- A range over a function whose iterator may write into its caller's memory: what the iterator keeps is told beside it; no round leaves the loop. -/
theorem range_writes {F : Fence} {n : Nat} {P : Program} {α : Type} {g : Operand} {ps : Array Tmp} {assign body : Code} {Q : Exit → Act → World → Prop} {a : Act} {w : World}
    (hro : F.round = none) (h1 : 1 ≤ n) {gf : Nat} {lb : Array Value} (hg : a.eval g = .func (.func gf) #[] lb) (hFg : F.fn gf) (eg : ∀ args w, (callFunc gf args).run P w = .ok (.enter gf args) w)
    {encs : α → Array Value} (hps : ∀ x, (encs x).size = ps.size) (ok : α → Prop) (Kp : World → World → Prop) (I : List α → World → Prop) (E : List α → World → Prop) (hKt : ∀ {A B C : World}, Kp A B → Kp B C → Kp A C)
    (hput : ∀ (W : World) (l : Nat) (o o' : Obj), w.heap.size ≤ l → W.heap[l]? = some o → o.isCells = false → (∀ pre, I pre W → I pre (W.putObj l o')) ∧ (∀ pre, E pre W → E pre (W.putObj l o')) ∧ Kp W (W.putObj l o'))
    (hnew : ∀ (W : World) (o : Obj) pre, I pre W → I pre (W.alloc o)) (h0 : I [] w)
    (hseq : ∀ (l : Nat) (J : List α → World → Prop) (W : World), (∀ pre W, J pre W → I pre W) → (∀ pre W W', J pre W → I pre W' → KeepsFrom w.heap.size W W' → J pre W') →
      (∀ pre x W1, ok x → J pre W1 → YieldAt F (n - 1 - 1) P l (encs x) W1 fun e W' => e = .returned (.bool true) ∧ J (pre ++ [x]) W' ∧ Kp W1 W') → J [] W →
      CallsIn F (n - 1) P gf (#[.func (.yield l) #[] #[]] ++ lb) W fun e W' => (∃ v, e = .returned v) ∧ ∃ xs, J xs W' ∧ E xs W')
    (a₁ : α → Act)
    (hassign : ∀ (l : Nat) (x : α) (W : World) (K : Act → World → Prop), K (a₁ x) W →
      assign.wpIn (F.inRound l) (n - 1 - 1) P (Exit.then K (fun _ _ _ => False)) { tmps := (ps.zip (encs x)).foldl (fun t (p, v) => t.setIfInBounds p v) a.tmps, defers := [] } W)
    (hbody : ∀ (l : Nat) (pre : List α) (x : α) (W : World), ok x → I pre W → body.wpIn (F.inRound l) (n - 1 - 1) P (goesOn w.heap.size Kp (I (pre ++ [x])) W) (a₁ x) W)
    (hdone : ∀ (D : Nat) (xs : List α) (W : World), w.heap.size ≤ D → I xs W → E xs W → W.heap[D]? = some (.deferred (some [])) → Q .normal { a with defers := { target := .collected D, args := #[] } :: a.defers } W) :
    (Code.rangeFunc g ps assign body).wpIn F n P Q a w := by
  refine wpIn_rangeFunc fun fn hfn => ?_
  rw [hro]
  obtain ⟨R, hR⟩ : ∃ R : LoopState → Loop, R = fun st => { state := st, pending := none, fn, tmps := a.tmps, params := ps, assign, body, defers := w.heap.size } := ⟨_, rfl⟩
  obtain ⟨L, hL⟩ : ∃ L, w.heap.size + 1 = L := ⟨_, rfl⟩
  have hD : ((w.alloc (.deferred (some []))).alloc (.loop (R .ready))).heap[w.heap.size]? = some (.deferred (some [])) := (Below.heap_alloc _ _ _ (by simp)).trans (World.alloc_heap_new w _)
  have hl : ((w.alloc (.deferred (some []))).alloc (.loop (R .ready))).heap[L]? = some (.loop (R .ready)) := by
    have := World.alloc_heap_new (w.alloc (.deferred (some []))) (.loop (R .ready))
    rw [World.size_alloc, hL] at this
    exact this
  have hi := hnew _ (.loop (R .ready)) _ (hnew _ (.deferred (some [])) _ h0)
  have henter := run_enterLoop_outer (P := P) (w := w) fn a.tmps ps assign body
  rw [show (Loop.mk .ready none fn a.tmps ps assign body w.heap.size) = R .ready from by rw [hR]] at henter
  rw [hL] at henter
  refine ⟨L, _, _, { target := .fn (.func gf) lb, args := #[.func (.yield L) #[] #[]] }, (w.alloc (.deferred (some []))).alloc (.loop (R .ready)), gf, #[.func (.yield L) #[] #[]] ++ lb, (w.alloc (.deferred (some []))).alloc (.loop (R .ready)), henter, ?_, ?_, ?_, fun _ => h1, ?_⟩
  · simp only [resolve, hg]
    simp [go_sem]
  · intro f' hf'
    simp [Target.leads] at hf'
    subst hf'
    exact hFg
  · simp [invoke, go_sem, eg]
  · refine (hseq L (fun pre W => I pre W ∧ W.heap[L]? = some (.loop (R .ready)) ∧ W.heap[w.heap.size]? = some (.deferred (some []))) _ (fun _ _ h => h.1)
      (fun pre W W' h h' hk => ⟨h', hk.same _ _ (by omega) h.2.1 rfl, hk.same _ _ (Nat.le_refl _) h.2.2 rfl⟩) ?_ ⟨hi, hl, hD⟩).mono ?_
    · rintro pre x W hx ⟨hi, hl, hD⟩
      have hlt := (Array.getElem?_eq_some_iff.1 hl).1
      have hy := run_yield (P := P) (args := encs x) hl (by rw [hR]; exact hps x)
      rw [hR] at hy
      refine ⟨fn, _, assign, body, hy, roundIn_of_wpIn hfn (hassign _ x W _ ⟨_, run_beginRound hl (by rw [hR]), ?_⟩)⟩
      refine wpIn_mono (hbody _ pre x _ hx ((hput W L _ _ (by omega) hl rfl).1 _ hi)) ?_
      rintro e a3 W3 hp
      cases e with
      | normal =>
        obtain ⟨hk, hkp, hi3⟩ := hp
        have hl3 := hk.same L _ (by omega) (World.putObj_heap_same hlt) rfl
        have hD3 := hk.same w.heap.size _ (Nat.le_refl _) ((World.putObj_heap_other (by omega)).trans hD) rfl
        have hend := run_endRound (P := P) none hl3
        have hL4 : (W3.putObj L (.loop (R .ready))).heap[L]? = some (.loop (R .ready)) := World.putObj_heap_same (Array.getElem?_eq_some_iff.1 hl3).1
        refine ⟨_, _, hend, rfl, ?_⟩
        have hq : W3.putObj L (.loop { (({ R .ready with state := .busy } : Loop)) with state := if (none : Option Code).isNone then .ready else .done, pending := none }) = W3.putObj L (.loop (R .ready)) := by rw [hR]; rfl
        rw [hq]
        exact ⟨⟨(hput W3 L _ _ (by omega) hl3 rfl).1 _ hi3, hL4, (World.putObj_heap_other (by omega)).trans hD3⟩, hKt (hKt (hput W L _ _ (by omega) hl rfl).2.2 hkp) (hput W3 L _ _ (by omega) hl3 rfl).2.2⟩
      | ret => exact hp.elim
      | exit id => exact hp.elim
      | goto t => exact hp.elim
      | panic ch => exact hp.elim
      | outgrown => exact hp.elim
    · rintro e W2 ⟨⟨v, rfl⟩, xs, ⟨hi, hl, hD⟩, hE⟩
      have hend := run_endLoop (P := P) hl (by rw [hR]; simp)
      refine ⟨none, _, by rw [hend, hR], hdone _ xs _ (Nat.le_refl _) ((hput W2 L _ _ (by omega) hl rfl).1 _ hi) ((hput W2 L _ _ (by omega) hl rfl).2.1 _ hE) ((World.putObj_heap_other (by omega)).trans hD)⟩
end Go.Proofs.Ytchdjbbhhjjmkaa
