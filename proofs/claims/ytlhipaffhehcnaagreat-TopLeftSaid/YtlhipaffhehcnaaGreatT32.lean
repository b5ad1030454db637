/- TopLeft: the law of a range over a function whose iterator writes some blocks of S (printed by gen_Ua27.py). TopLeft: the law of a range over a function whose body stops by itself (printed by gen_Ue27.py). TopLeft: words for ripple.next. TopLeft: a drawn region in a round of a range over a function. -/
import Derived.Test.YtlhipaffhehcnaaGreatT31
namespace Go.Proofs.YtlhipaffhehcnaaGreat
open Go.RowKit Go.Shelf
set_option linter.unusedVariables false
/-- What an iterator promises: it yields N times, the i-th time what Ok says. -/
def IterY (F : Fence) (n : Nat) (P : Program) (gf : Nat) (lb : Array Value) (B : Nat) (S T : Nat → Prop) (Ok : Nat → Array Value → World → Prop) (N : Nat) (w : World) : Prop :=
  ∀ (l : Nat) (J : Nat → World → Prop) (Jx : World → Prop) (W : World), Kq B Nq w W →
    (∀ i W W', J i W → Kx B S W W' → KeepsFrom B W W' → J i W') → (∀ W W', Jx W → Kx B S W W' → KeepsFrom B W W' → Jx W') →
    (∀ i x W1, i < N → J i W1 → Ok i x W1 → YieldAt F (n - 1) P l x W1 fun e W' => Kx B T W1 W' ∧ ((e = .returned (.bool true) ∧ J (i + 1) W') ∨ (e = .returned (.bool false) ∧ Jx W'))) →
    J 0 W → CallsIn F n P gf (#[.func (.yield l) #[] #[]] ++ lb) W fun e W' => (∃ v, e = .returned v) ∧ (J N W' ∨ Jx W')
section
variable {F : Fence} {n : Nat} {P : Program}
theorem range_stY {g : Operand} {ps : Array Tmp} {assign body : Code} {Q : Exit → Act → World → Prop} {a : Act} {w : World} (S T : Nat → Prop)
    (hro : F.round = none) (h1 : 1 ≤ n) {gf : Nat} {lb : Array Value} (hg : a.eval g = .func (.func gf) #[] lb) (hFg : F.fn gf) (eg : ∀ args w, (callFunc gf args).run P w = .ok (.enter gf args) w)
    (I : Nat → World → Prop) (Ok : Nat → Array Value → World → Prop) (N : Nat) (Ix : Code → World → Prop)
    (hps : ∀ i x W, Ok i x W → x.size = ps.size)
    (hI : ∀ i W W', I i W → Kx w.heap.size S W W' → I i W') (hI0 : ∀ i W W', I i W → Kq w.heap.size Nq W W' → I i W') (hIx : ∀ c W W', Ix c W → Kx w.heap.size S W W' → Ix c W') (hIx0 : ∀ c W W', Ix c W → Kq w.heap.size Nq W W' → Ix c W')
    (h0 : I 0 w) (hseq : IterY F (n - 1) P gf lb w.heap.size S T Ok N w)
    (Ax : Nat → Array Value → Act → World → Prop) (hAx : ∀ i x a' W W', Ax i x a' W → Kq w.heap.size Nq W W' → Ax i x a' W')
    (hassign : ∀ (l i : Nat) (x : Array Value) (W : World) (K : Act → World → Prop), I i W → Ok i x W → (∀ a' W', KeepsFrom w.heap.size W W' → Kx w.heap.size T W W' → I i W' → Ax i x a' W' → K a' W') →
      assign.wpIn (F.inRound l) (n - 1 - 1) P (Exit.then K (fun _ _ _ => False)) { tmps := (ps.zip x).foldl (fun t (p, v) => t.setIfInBounds p v) a.tmps, defers := [] } W)
    (hbody : ∀ (l i : Nat) (x : Array Value) (a' : Act) (W : World), w.heap.size ≤ l → (∃ r, W.heap[l]? = some (.loop r)) → i < N → I i W → Ax i x a' W → body.wpIn (F.inRound l) (n - 1 - 1) P (stPostX w.heap.size T (I (i + 1)) Ix W) a' W)
    (hdone : ∀ (D : Nat) (W : World), w.heap.size ≤ D → I N W → W.heap[D]? = some (.deferred (some [])) → Q .normal { a with defers := { target := .collected D, args := #[] } :: a.defers } W)
    (hstop : ∀ (D : Nat) (c : Code) (W : World), w.heap.size ≤ D → Ix c W → W.heap[D]? = some (.deferred (some [])) → c.wpIn F n P Q { a with defers := { target := .collected D, args := #[] } :: a.defers } W) :
    (Code.rangeFunc g ps assign body).wpIn F n P Q a w := by
  refine wpIn_rangeFunc ?_
  intro fn hfn
  rw [hro]
  obtain ⟨rec, hrec⟩ : ∃ rec : LoopState → Option Code → Loop, rec = fun st pe => { state := st, pending := pe, fn, tmps := a.tmps, params := ps, assign, body, defers := w.heap.size } := ⟨_, rfl⟩
  obtain ⟨W1, hW1⟩ : ∃ W1, (w.alloc (.deferred (some []))).alloc (.loop (rec .ready none)) = W1 := ⟨_, rfl⟩
  have hL1 : W1.heap[w.heap.size + 1]? = some (.loop (rec .ready none)) := by
    rw [← hW1]; have := World.alloc_heap_new (w.alloc (.deferred (some []))) (.loop (rec .ready none)); rwa [World.size_alloc] at this
  have hK1 : W1.heap[w.heap.size]? = some (.deferred (some [])) := by
    rw [← hW1]; exact (Below.heap_alloc _ _ _ (by simp)).trans (World.alloc_heap_new w _)
  have hkc1 : Kq w.heap.size Nq w W1 := by
    rw [← hW1]; exact Kq.of_below _ (((Below.refl _ w).alloc (Nat.le_refl _) _).alloc (by simp) _)
  have hI1 : I 0 W1 := hI0 _ _ _ h0 hkc1
  refine ⟨w.heap.size + 1, [{ target := .collected w.heap.size, args := #[] }], W1, { target := .fn (.func gf) lb, args := #[.func (.yield (w.heap.size + 1)) #[] #[]] }, W1, gf,
    #[.func (.yield (w.heap.size + 1)) #[] #[]] ++ lb, W1, ?_, ?_, ?_, ?_, fun _ => h1, ?_⟩
  · rw [← hW1, hrec]; exact run_enterLoop_outer _ _ _ _ _
  · simp only [resolve, hg]
    simp [go_sem]
  · intro f' hf'; simp [Target.leads] at hf'; subst hf'; exact hFg
  · simp [invoke, go_sem, eg]
  · refine (hseq (w.heap.size + 1)
      (fun i W => I i W ∧ W.heap[w.heap.size + 1]? = some (.loop (rec .ready none)) ∧ W.heap[w.heap.size]? = some (.deferred (some [])))
      (fun W => ∃ c, Ix c W ∧ W.heap[w.heap.size + 1]? = some (.loop (rec .done (some c))) ∧ W.heap[w.heap.size]? = some (.deferred (some [])))
      W1 hkc1
      (fun i A B h hkc hkf => ⟨hI i A B h.1 hkc, hkf.same _ _ (by omega) h.2.1 rfl, hkf.same _ _ (Nat.le_refl _) h.2.2 rfl⟩)
      (fun A B h hkc hkf => by
        obtain ⟨c, hc, hl, hk⟩ := h
        exact ⟨c, hIx c A B hc hkc, hkf.same _ _ (by omega) hl rfl, hkf.same _ _ (Nat.le_refl _) hk rfl⟩)
      ?_ ⟨hI1, hL1, hK1⟩).mono ?_
    · rintro i x W hiN ⟨hi, hl, hk⟩ hok
      have hlt : w.heap.size + 1 < W.heap.size := (Array.getElem?_eq_some_iff.1 hl).1
      have hy := run_yield (P := P) (args := x) hl (by rw [hrec]; exact hps i x W hok)
      rw [hrec] at hy
      refine ⟨fn, _, assign, body, hy, roundIn_of_wpIn hfn (hassign _ i x W _ hi hok ?_)⟩
      clear hy
      intro a' Wa hkfa hkca hia hax
      replace hl := hkfa.same _ _ (by omega) hl rfl
      replace hk := hkfa.same _ _ (Nat.le_refl _) hk rfl
      replace hlt : w.heap.size + 1 < Wa.heap.size := (Array.getElem?_eq_some_iff.1 hl).1
      refine ⟨_, run_beginRound hl (by rw [hrec]), ?_⟩
      have hl2 : (Wa.putObj (w.heap.size + 1) (.loop { rec .ready none with state := .busy })).heap[w.heap.size + 1]? = some (.loop { rec .ready none with state := .busy }) := World.putObj_heap_same hlt
      have hk2 : (Wa.putObj (w.heap.size + 1) (.loop { rec .ready none with state := .busy })).heap[w.heap.size]? = some (.deferred (some [])) := (World.putObj_heap_other (by omega)).trans hk
      have hw2 : Kq w.heap.size Nq Wa (Wa.putObj (w.heap.size + 1) (.loop { rec .ready none with state := .busy })) := Kq.put (by omega) hl rfl
      refine wpIn_mono (hbody _ i x a' _ (by omega) ⟨_, hl2⟩ hiN (hI0 _ _ _ hia hw2) (hAx _ _ _ _ _ hax hw2)) ?_
      have fin : ∀ (jump : Option Code) (W3 : World), KeepsFrom w.heap.size (Wa.putObj (w.heap.size + 1) (.loop { rec .ready none with state := .busy })) W3 →
          (Instr.endRound (w.heap.size + 1) jump).run P W3 = .ok (.bool jump.isNone) (W3.putObj (w.heap.size + 1) (.loop (rec (if jump.isNone then .ready else .done) jump))) ∧
          W3.heap[w.heap.size + 1]? = some (.loop { rec .ready none with state := .busy }) ∧
          (W3.putObj (w.heap.size + 1) (.loop (rec (if jump.isNone then .ready else .done) jump))).heap[w.heap.size + 1]? = some (.loop (rec (if jump.isNone then .ready else .done) jump)) ∧
          (W3.putObj (w.heap.size + 1) (.loop (rec (if jump.isNone then .ready else .done) jump))).heap[w.heap.size]? = some (.deferred (some [])) := fun jump W3 hk3 => by
        have hl3 := hk3.same _ _ (by omega) hl2 rfl
        have := run_endRound (P := P) jump hl3
        rw [hrec] at this ⊢
        exact ⟨this, by rw [hrec] at hl3; exact hl3, World.putObj_heap_same (Array.getElem?_eq_some_iff.1 hl3).1, (World.putObj_heap_other (by omega)).trans (hk3.same _ _ (Nat.le_refl _) hk2 rfl)⟩
      rintro e a3 W3 hp
      cases e with
      | normal =>
        obtain ⟨hk3, hkp3, hi3⟩ := hp
        obtain ⟨hr, hl3, hl4, hk4⟩ := fin none W3 hk3
        exact ⟨_, _, hr, (hkca.both (hkp3.after hw2)).right (Kq.put (by omega) hl3 rfl), .inl ⟨rfl, hI0 _ _ _ hi3 (Kq.put (by omega) hl3 rfl), hl4, hk4⟩⟩
      | ret =>
        obtain ⟨hk3, hkp3, hi3⟩ := hp
        obtain ⟨hr, hl3, hl4, hk4⟩ := fin (some .ret) W3 hk3
        exact ⟨_, _, hr, (hkca.both (hkp3.after hw2)).right (Kq.put (by omega) hl3 rfl), .inr ⟨rfl, .ret, hIx0 _ _ _ hi3 (Kq.put (by omega) hl3 rfl), hl4, hk4⟩⟩
      | exit id =>
        obtain ⟨hk3, hkp3, hi3⟩ := hp
        obtain ⟨hr, hl3, hl4, hk4⟩ := fin (some (.exit id)) W3 hk3
        exact ⟨_, _, hr, (hkca.both (hkp3.after hw2)).right (Kq.put (by omega) hl3 rfl), .inr ⟨rfl, .exit id, hIx0 _ _ _ hi3 (Kq.put (by omega) hl3 rfl), hl4, hk4⟩⟩
      | goto t => exact hp.elim
      | panic ch => exact hp.elim
      | outgrown => exact hp.elim
    · rintro e W2 ⟨⟨v, rfl⟩, (⟨hi, hl, hk⟩ | ⟨c, hi, hl, hk⟩)⟩
      · exact ⟨none, _, by have := run_endLoop (P := P) hl (by rw [hrec]; simp); rw [hrec] at this; exact this, hdone _ _ (Nat.le_refl _) (hI0 _ _ _ hi (Kq.put (by omega) hl rfl)) ((World.putObj_heap_other (by omega)).trans hk)⟩
      · exact ⟨some c, _, by have := run_endLoop (P := P) hl (by rw [hrec]; simp); rw [hrec] at this; exact this, hstop _ c _ (Nat.le_refl _) (hIx0 _ _ _ hi (Kq.put (by omega) hl rfl)) ((World.putObj_heap_other (by omega)).trans hk)⟩
end
end Go.Proofs.YtlhipaffhehcnaaGreat
namespace Go.Proofs.YtlhipaffhehcnaaGreat
open Go.RowKit Go.Shelf
set_option linter.unusedVariables false
set_option linter.unusedSimpArgs false
/-- What an iterator promises: it yields N times, the i-th time what Ok says. -/
def IterZ (F : Fence) (n : Nat) (P : Program) (gf : Nat) (lb : Array Value) (B : Nat) (S T : Nat → Prop) (Ok : Nat → Array Value → World → Prop) (N M : Nat) (w : World) : Prop :=
  ∀ (l : Nat) (J : Nat → World → Prop) (Jx : World → Prop) (W : World), Kq B Nq w W → (∀ i W, J i W → i ≤ M) →
    (∀ i W W', J i W → Kx B S W W' → KeepsFrom B W W' → J i W') → (∀ W W', Jx W → Kx B S W W' → KeepsFrom B W W' → Jx W') →
    (∀ i x W1, i < N → J i W1 → Ok i x W1 → YieldAt F (n - 1) P l x W1 fun e W' => Kx B T W1 W' ∧ ((e = .returned (.bool true) ∧ J (i + 1) W') ∨ (e = .returned (.bool false) ∧ Jx W'))) →
    J 0 W → CallsIn F n P gf (#[.func (.yield l) #[] #[]] ++ lb) W fun e W' => (∃ v, e = .returned v) ∧ (J N W' ∨ Jx W')
section
variable {F : Fence} {n : Nat} {P : Program}
theorem range_stZ {g : Operand} {ps : Array Tmp} {assign body : Code} {Q : Exit → Act → World → Prop} {a : Act} {w : World} (S T : Nat → Prop)
    (hro : F.round = none) (h1 : 1 ≤ n) {gf : Nat} {lb : Array Value} (hg : a.eval g = .func (.func gf) #[] lb) (hFg : F.fn gf) (eg : ∀ args w, (callFunc gf args).run P w = .ok (.enter gf args) w)
    (I : Nat → World → Prop) (Ok : Nat → Array Value → World → Prop) (N : Nat) (Ix : Code → World → Prop)
    (hps : ∀ i x W, Ok i x W → x.size = ps.size)
    (hI : ∀ i W W', I i W → Kx w.heap.size S W W' → I i W') (hI0 : ∀ i W W', I i W → Kq w.heap.size Nq W W' → I i W') (hIx : ∀ c W W', Ix c W → Kx w.heap.size S W W' → Ix c W') (hIx0 : ∀ c W W', Ix c W → Kq w.heap.size Nq W W' → Ix c W')
    (M : Nat) (hIM : ∀ i W, I i W → i ≤ M) (h0 : I 0 w) (hseq : IterZ F (n - 1) P gf lb w.heap.size S T Ok N M w)
    (Ax : Nat → Array Value → Act → World → Prop) (hAx : ∀ i x a' W W', Ax i x a' W → Kq w.heap.size Nq W W' → Ax i x a' W')
    (hassign : ∀ (l i : Nat) (x : Array Value) (W : World) (K : Act → World → Prop), I i W → Ok i x W → (∀ a' W', KeepsFrom w.heap.size W W' → Kx w.heap.size T W W' → I i W' → Ax i x a' W' → K a' W') →
      assign.wpIn (F.inRound l) (n - 1 - 1) P (Exit.then K (fun _ _ _ => False)) { tmps := (ps.zip x).foldl (fun t (p, v) => t.setIfInBounds p v) a.tmps, defers := [] } W)
    (hbody : ∀ (l i : Nat) (x : Array Value) (a' : Act) (W : World), w.heap.size ≤ l → (∃ r, W.heap[l]? = some (.loop r)) → i < N → I i W → Ax i x a' W → body.wpIn (F.inRound l) (n - 1 - 1) P (stPostX w.heap.size T (I (i + 1)) Ix W) a' W)
    (hdone : ∀ (D : Nat) (W : World), w.heap.size ≤ D → I N W → W.heap[D]? = some (.deferred (some [])) → Q .normal { a with defers := { target := .collected D, args := #[] } :: a.defers } W)
    (hstop : ∀ (D : Nat) (c : Code) (W : World), w.heap.size ≤ D → Ix c W → W.heap[D]? = some (.deferred (some [])) → c.wpIn F n P Q { a with defers := { target := .collected D, args := #[] } :: a.defers } W) :
    (Code.rangeFunc g ps assign body).wpIn F n P Q a w := by
  refine wpIn_rangeFunc ?_
  intro fn hfn
  rw [hro]
  obtain ⟨rec, hrec⟩ : ∃ rec : LoopState → Option Code → Loop, rec = fun st pe => { state := st, pending := pe, fn, tmps := a.tmps, params := ps, assign, body, defers := w.heap.size } := ⟨_, rfl⟩
  obtain ⟨W1, hW1⟩ : ∃ W1, (w.alloc (.deferred (some []))).alloc (.loop (rec .ready none)) = W1 := ⟨_, rfl⟩
  have hL1 : W1.heap[w.heap.size + 1]? = some (.loop (rec .ready none)) := by
    rw [← hW1]; have := World.alloc_heap_new (w.alloc (.deferred (some []))) (.loop (rec .ready none)); rwa [World.size_alloc] at this
  have hK1 : W1.heap[w.heap.size]? = some (.deferred (some [])) := by
    rw [← hW1]; exact (Below.heap_alloc _ _ _ (by simp)).trans (World.alloc_heap_new w _)
  have hkc1 : Kq w.heap.size Nq w W1 := by
    rw [← hW1]; exact Kq.of_below _ (((Below.refl _ w).alloc (Nat.le_refl _) _).alloc (by simp) _)
  have hI1 : I 0 W1 := hI0 _ _ _ h0 hkc1
  refine ⟨w.heap.size + 1, [{ target := .collected w.heap.size, args := #[] }], W1, { target := .fn (.func gf) lb, args := #[.func (.yield (w.heap.size + 1)) #[] #[]] }, W1, gf,
    #[.func (.yield (w.heap.size + 1)) #[] #[]] ++ lb, W1, ?_, ?_, ?_, ?_, fun _ => h1, ?_⟩
  · rw [← hW1, hrec]; exact run_enterLoop_outer _ _ _ _ _
  · simp only [resolve, hg]
    simp [go_sem]
  · intro f' hf'; simp [Target.leads] at hf'; subst hf'; exact hFg
  · simp [invoke, go_sem, eg]
  · refine (hseq (w.heap.size + 1)
      (fun i W => I i W ∧ W.heap[w.heap.size + 1]? = some (.loop (rec .ready none)) ∧ W.heap[w.heap.size]? = some (.deferred (some [])))
      (fun W => ∃ c, Ix c W ∧ W.heap[w.heap.size + 1]? = some (.loop (rec .done (some c))) ∧ W.heap[w.heap.size]? = some (.deferred (some [])))
      W1 hkc1 (fun i W h => hIM i W h.1)
      (fun i A B h hkc hkf => ⟨hI i A B h.1 hkc, hkf.same _ _ (by omega) h.2.1 rfl, hkf.same _ _ (Nat.le_refl _) h.2.2 rfl⟩)
      (fun A B h hkc hkf => by
        obtain ⟨c, hc, hl, hk⟩ := h
        exact ⟨c, hIx c A B hc hkc, hkf.same _ _ (by omega) hl rfl, hkf.same _ _ (Nat.le_refl _) hk rfl⟩)
      ?_ ⟨hI1, hL1, hK1⟩).mono ?_
    · rintro i x W hiN ⟨hi, hl, hk⟩ hok
      have hlt : w.heap.size + 1 < W.heap.size := (Array.getElem?_eq_some_iff.1 hl).1
      have hy := run_yield (P := P) (args := x) hl (by rw [hrec]; exact hps i x W hok)
      rw [hrec] at hy
      refine ⟨fn, _, assign, body, hy, roundIn_of_wpIn hfn (hassign _ i x W _ hi hok ?_)⟩
      clear hy
      intro a' Wa hkfa hkca hia hax
      replace hl := hkfa.same _ _ (by omega) hl rfl
      replace hk := hkfa.same _ _ (Nat.le_refl _) hk rfl
      replace hlt : w.heap.size + 1 < Wa.heap.size := (Array.getElem?_eq_some_iff.1 hl).1
      refine ⟨_, run_beginRound hl (by rw [hrec]), ?_⟩
      have hl2 : (Wa.putObj (w.heap.size + 1) (.loop { rec .ready none with state := .busy })).heap[w.heap.size + 1]? = some (.loop { rec .ready none with state := .busy }) := World.putObj_heap_same hlt
      have hk2 : (Wa.putObj (w.heap.size + 1) (.loop { rec .ready none with state := .busy })).heap[w.heap.size]? = some (.deferred (some [])) := (World.putObj_heap_other (by omega)).trans hk
      have hw2 : Kq w.heap.size Nq Wa (Wa.putObj (w.heap.size + 1) (.loop { rec .ready none with state := .busy })) := Kq.put (by omega) hl rfl
      refine wpIn_mono (hbody _ i x a' _ (by omega) ⟨_, hl2⟩ hiN (hI0 _ _ _ hia hw2) (hAx _ _ _ _ _ hax hw2)) ?_
      have fin : ∀ (jump : Option Code) (W3 : World), KeepsFrom w.heap.size (Wa.putObj (w.heap.size + 1) (.loop { rec .ready none with state := .busy })) W3 →
          (Instr.endRound (w.heap.size + 1) jump).run P W3 = .ok (.bool jump.isNone) (W3.putObj (w.heap.size + 1) (.loop (rec (if jump.isNone then .ready else .done) jump))) ∧
          W3.heap[w.heap.size + 1]? = some (.loop { rec .ready none with state := .busy }) ∧
          (W3.putObj (w.heap.size + 1) (.loop (rec (if jump.isNone then .ready else .done) jump))).heap[w.heap.size + 1]? = some (.loop (rec (if jump.isNone then .ready else .done) jump)) ∧
          (W3.putObj (w.heap.size + 1) (.loop (rec (if jump.isNone then .ready else .done) jump))).heap[w.heap.size]? = some (.deferred (some [])) := fun jump W3 hk3 => by
        have hl3 := hk3.same _ _ (by omega) hl2 rfl
        have := run_endRound (P := P) jump hl3
        rw [hrec] at this ⊢
        exact ⟨this, by rw [hrec] at hl3; exact hl3, World.putObj_heap_same (Array.getElem?_eq_some_iff.1 hl3).1, (World.putObj_heap_other (by omega)).trans (hk3.same _ _ (Nat.le_refl _) hk2 rfl)⟩
      rintro e a3 W3 hp
      cases e with
      | normal =>
        obtain ⟨hk3, hkp3, hi3⟩ := hp
        obtain ⟨hr, hl3, hl4, hk4⟩ := fin none W3 hk3
        exact ⟨_, _, hr, (hkca.both (hkp3.after hw2)).right (Kq.put (by omega) hl3 rfl), .inl ⟨rfl, hI0 _ _ _ hi3 (Kq.put (by omega) hl3 rfl), hl4, hk4⟩⟩
      | ret =>
        obtain ⟨hk3, hkp3, hi3⟩ := hp
        obtain ⟨hr, hl3, hl4, hk4⟩ := fin (some .ret) W3 hk3
        exact ⟨_, _, hr, (hkca.both (hkp3.after hw2)).right (Kq.put (by omega) hl3 rfl), .inr ⟨rfl, .ret, hIx0 _ _ _ hi3 (Kq.put (by omega) hl3 rfl), hl4, hk4⟩⟩
      | exit id =>
        obtain ⟨hk3, hkp3, hi3⟩ := hp
        obtain ⟨hr, hl3, hl4, hk4⟩ := fin (some (.exit id)) W3 hk3
        exact ⟨_, _, hr, (hkca.both (hkp3.after hw2)).right (Kq.put (by omega) hl3 rfl), .inr ⟨rfl, .exit id, hIx0 _ _ _ hi3 (Kq.put (by omega) hl3 rfl), hl4, hk4⟩⟩
      | goto t => exact hp.elim
      | panic ch => exact hp.elim
      | outgrown => exact hp.elim
    · rintro e W2 ⟨⟨v, rfl⟩, (⟨hi, hl, hk⟩ | ⟨c, hi, hl, hk⟩)⟩
      · exact ⟨none, _, by have := run_endLoop (P := P) hl (by rw [hrec]; simp); rw [hrec] at this; exact this, hdone _ _ (Nat.le_refl _) (hI0 _ _ _ hi (Kq.put (by omega) hl rfl)) ((World.putObj_heap_other (by omega)).trans hk)⟩
      · exact ⟨some c, _, by have := run_endLoop (P := P) hl (by rw [hrec]; simp); rw [hrec] at this; exact this, hstop _ c _ (Nat.le_refl _) (hIx0 _ _ _ hi (Kq.put (by omega) hl rfl)) ((World.putObj_heap_other (by omega)).trans hk)⟩
end
end Go.Proofs.YtlhipaffhehcnaaGreat
namespace Go.Proofs.YtlhipaffhehcnaaGreat
open Go.RowKit Go.Shelf
set_option linter.unusedVariables false
/-- A closure of shares. -/
structure Cl where
  b1 : Nat
  b3 : Nat
  b5 : Nat
  b6 : Nat
  r1 : R3
  r3 : R3
  p : Q
def Cl.F (x : Cl) (a b : Rw) (k : Nat) : Prop := foot x.b1 x.b3 x.b5 x.b6 a b k
structure R4 where
  a : Rw
  b : Rw
  c : Rw
  d : Rw
structure Nxc where
  n : Nat
  L : Nat
  G : Nat
  g8 : Nat
  g9 : Nat
  z14 : Nat
  z15 : Nat
  bp : Nat
  bv : Value
  bu : Value
  x : Cl
  y : Cl
theorem foot_mv {b1 b3 b5 b6 N k : Nat} {a b a' b' : Rw} (ha : a'.g = a.g ∨ N ≤ a'.g) (hb : b'.g = b.g ∨ N ≤ b'.g) (h : foot b1 b3 b5 b6 a' b' k) : foot b1 b3 b5 b6 a b k ∨ N ≤ k := by
  rcases h with (e | e | e) | e
  · exact .inl (.inl (.inl e))
  · rcases ha with e2 | e2
    · exact .inl (.inl (.inr (.inl (e.trans e2))))
    · exact .inr (by omega)
  · rcases hb with e2 | e2
    · exact .inl (.inl (.inr (.inr (e.trans e2))))
    · exact .inr (by omega)
  · exact .inl (.inr e)
theorem own_mv {b5 N k : Nat} {a b a' b' : Rw} (ha : a'.g = a.g ∨ N ≤ a'.g) (hb : b'.g = b.g ∨ N ≤ b'.g) (h : own b5 a' b' k) : own b5 a b k ∨ N ≤ k := by
  rcases h with e | e | e
  · exact .inl (.inl e)
  · rcases ha with e2 | e2
    · exact .inl (.inr (.inl (e.trans e2)))
    · exact .inr (by omega)
  · rcases hb with e2 | e2
    · exact .inl (.inr (.inr (e.trans e2)))
    · exact .inr (by omega)
theorem own_type {W : World} {b5 : Nat} {a b : Rw} (h : PwS W b5 0 a b) {g : Nat} {t : TypeId} {cs : List Value} (hb : Bk W g t cs) (h1 : t ≠ 40) (h2 : t ≠ 174) : ¬ own b5 a b g := by
  obtain ⟨_, h3⟩ := h.ra.bk
  obtain ⟨_, h4⟩ := h.rb.bk
  rintro (e | e | e)
  · exact (hb.ne_of_type h.k h2) e
  · exact (hb.ne_of_type h3 h1) e
  · exact (hb.ne_of_type h4 h1) e
/-- next, under way. -/
structure Rn (X : Nxc) (W0 W : World) (R0 R : R4) (l : List Q) (zs : List (Nat × R3 × Q)) : Prop where
  k8 : Bk W X.g8 60 [.int .i64 0, .slice none 0 0]
  k9 : Bk W X.g9 60 [.int .i64 (X.n : Nat), .slice (some ⟨X.G, 0, none⟩) X.L X.L]
  kp : Bk W X.bp 60 [X.bv, X.bu]
  gb : GB W X.G [] l
  kf : Bk W X.z14 41 [.func (.func 120) #[] #[.pointer (some ⟨X.x.b6, 0, none⟩), .pointer (some ⟨X.x.b1, 0, none⟩), .pointer (some ⟨X.x.b3, 0, none⟩)]]
  kg : Bk W X.z15 41 [.func (.func 120) #[] #[.pointer (some ⟨X.y.b6, 0, none⟩), .pointer (some ⟨X.y.b1, 0, none⟩), .pointer (some ⟨X.y.b3, 0, none⟩)]]
  s : ShS W X.x.b1 X.x.b3 X.x.b5 X.x.b6 X.x.r1 X.x.r3 R.a R.b X.x.p (lackQ X.x.p)
  u : ShS W X.y.b1 X.y.b3 X.y.b5 X.y.b6 X.y.r1 X.y.r3 R.c R.d X.y.p (lackQ X.y.p)
  dj : ∀ k, X.x.F R.a R.b k → ¬ X.y.F R.c R.d k
  dG : ¬ X.x.F R.a R.b X.G ∧ ¬ X.y.F R.c R.d X.G
  zb : ∀ z ∈ zs, Bk W z.1 40 z.2.1.cells ∧ QV W z.2.1.v z.2.2 ∧ ¬ X.x.F R.a R.b z.1 ∧ ¬ X.y.F R.c R.d z.1 ∧ z.1 ≠ X.G
  zd : (zs.map (·.1)).Nodup
  chg : Chg (fun k => k = X.G ∨ own X.x.b5 R0.a R0.b k ∨ own X.y.b5 R0.c R0.d k) W0 W
  nr : (R.a.g = R0.a.g ∨ W0.heap.size ≤ R.a.g) ∧ (R.b.g = R0.b.g ∨ W0.heap.size ≤ R.b.g) ∧ (R.c.g = R0.c.g ∨ W0.heap.size ≤ R.c.g) ∧ (R.d.g = R0.d.g ∨ W0.heap.size ≤ R.d.g)
section
variable {X : Nxc} {W0 W W' : World} {R0 R : R4} {l : List Q} {zs : List (Nat × R3 × Q)}
theorem Rn.below (h : Rn X W0 W R0 R l zs) (hb : Below W.heap.size W W') : Rn X W0 W' R0 R l zs :=
  ⟨h.k8.belowS hb, h.k9.belowS hb, h.kp.belowS hb, h.gb.below hb, h.kf.belowS hb, h.kg.belowS hb, h.s.below hb, h.u.below hb, h.dj, h.dG, fun z hz => ⟨(h.zb z hz).1.belowS hb, (h.zb z hz).2.1.below hb, (h.zb z hz).2.2⟩, h.zd, h.chg.trans (Chg.of_below (S := fun k => k = X.G ∨ own X.x.b5 R0.a R0.b k ∨ own X.y.b5 R0.c R0.d k) hb) (fun _ _ e => e), h.nr⟩
theorem Rn.allocd (h : Rn X W0 W R0 R l zs) (o : Obj) : Rn X W0 (W.alloc o) R0 R l zs := h.below (bl_allocd (Below.refl _ _) o)
theorem Rn.drew (h : Rn X W0 W R0 R l zs) : Rn X W0 W.drew R0 R l zs := h.below (Below.refl _ _).drew
/-- A base anew. -/
theorem Rn.here (h : Rn X W0 W R0 R l zs) : Rn X W W R R l zs :=
  ⟨h.k8, h.k9, h.kp, h.gb, h.kf, h.kg, h.s, h.u, h.dj, h.dG, h.zb, h.zd, Chg.refl _ _, ⟨.inl rfl, .inl rfl, .inl rfl, .inl rfl⟩⟩
theorem Rn.kq0 {B : Nat} (h : Rn X W0 W R0 R l zs) (hk : Kq B Nq W W') : Rn X W' W' R R l zs :=
  ⟨hk.bk h.k8 id, hk.bk h.k9 id, hk.bk h.kp id, h.gb.kq hk id, hk.bk h.kf id, hk.bk h.kg id, h.s.kq hk (fun _ _ e => e), h.u.kq hk (fun _ _ e => e), h.dj, h.dG, fun z hz => ⟨hk.bk (h.zb z hz).1 id, hk.qv (h.zb z hz).2.1, (h.zb z hz).2.2⟩, h.zd, Chg.refl _ _, ⟨.inl rfl, .inl rfl, .inl rfl, .inl rfl⟩⟩
theorem Rn.drop {zs' : List (Nat × R3 × Q)} (h : Rn X W0 W R0 R l zs) (hs : zs'.Sublist zs) : Rn X W0 W R0 R l zs' :=
  ⟨h.k8, h.k9, h.kp, h.gb, h.kf, h.kg, h.s, h.u, h.dj, h.dG, fun z hz => h.zb z (hs.subset hz), (hs.map _).nodup h.zd, h.chg, h.nr⟩
theorem Rn.fx (h : Rn X W0 W R0 R l zs) {k : Nat} (e : own X.x.b5 R.a R.b k) : ¬ X.y.F R.c R.d k := h.dj k (.inl e)
theorem Rn.share_x {a' b' : Rw} (h : Rn X W0 W R0 R l zs) (hs : ShS W' X.x.b1 X.x.b3 X.x.b5 X.x.b6 X.x.r1 X.x.r3 a' b' X.x.p (lackQ X.x.p)) (ha : a'.g = R.a.g ∨ W.heap.size ≤ a'.g) (hb : b'.g = R.b.g ∨ W.heap.size ≤ b'.g) (hc : Chg (own X.x.b5 R.a R.b) W W') : Rn X W0 W' R0 ⟨a', b', R.c, R.d⟩ l zs := by
  have hk := Kq.of_chg 0 hc h.s.ps.num
  have hmv : ∀ k, X.x.F a' b' k → X.x.F R.a R.b k ∨ W.heap.size ≤ k := fun k e => foot_mv ha hb e
  have hz0 := h.chg.size
  refine ⟨hk.bk h.k8 (own_type h.s.ps h.k8 (by decide) (by decide)), hk.bk h.k9 (own_type h.s.ps h.k9 (by decide) (by decide)), hk.bk h.kp (own_type h.s.ps h.kp (by decide) (by decide)), h.gb.kq hk (fun e => h.dG.1 (.inl e)), hk.bk h.kf (own_type h.s.ps h.kf (by decide) (by decide)), hk.bk h.kg (own_type h.s.ps h.kg (by decide) (by decide)), hs, h.u.kq hk (fun k hf e => h.dj k (.inl e) hf), ?_, ⟨?_, h.dG.2⟩, ?_, h.zd, h.chg.trans hc ?_, ?_⟩
  · intro k e f
    rcases hmv k e with e | e
    · exact h.dj k e f
    · have := h.u.lt k f
      omega
  · intro e
    rcases hmv _ e with e | e
    · exact h.dG.1 e
    · have := h.gb.lt
      omega
  · intro z hz
    obtain ⟨z1, z2, z3, z4, z5⟩ := h.zb z hz
    refine ⟨hk.bk z1 (fun e => z3 (.inl e)), hk.qv z2, fun e => ?_, z4, z5⟩
    rcases hmv _ e with e | e
    · exact z3 e
    · have := z1.lt
      omega
  · intro k hk e
    rcases own_mv h.nr.1 h.nr.2.1 e with e | e
    · exact .inr (.inl e)
    · omega
  · exact ⟨ha.elim (fun e => by rw [e]; exact h.nr.1) (fun e => .inr (by show W0.heap.size ≤ a'.g; omega)), hb.elim (fun e => by rw [e]; exact h.nr.2.1) (fun e => .inr (by show W0.heap.size ≤ b'.g; omega)), h.nr.2.2⟩
theorem Rn.share_y {c' d' : Rw} (h : Rn X W0 W R0 R l zs) (hs : ShS W' X.y.b1 X.y.b3 X.y.b5 X.y.b6 X.y.r1 X.y.r3 c' d' X.y.p (lackQ X.y.p)) (ha : c'.g = R.c.g ∨ W.heap.size ≤ c'.g) (hb : d'.g = R.d.g ∨ W.heap.size ≤ d'.g) (hc : Chg (own X.y.b5 R.c R.d) W W') : Rn X W0 W' R0 ⟨R.a, R.b, c', d'⟩ l zs := by
  have hk := Kq.of_chg 0 hc h.u.ps.num
  have hmv : ∀ k, X.y.F c' d' k → X.y.F R.c R.d k ∨ W.heap.size ≤ k := fun k e => foot_mv ha hb e
  have hz0 := h.chg.size
  refine ⟨hk.bk h.k8 (own_type h.u.ps h.k8 (by decide) (by decide)), hk.bk h.k9 (own_type h.u.ps h.k9 (by decide) (by decide)), hk.bk h.kp (own_type h.u.ps h.kp (by decide) (by decide)), h.gb.kq hk (fun e => h.dG.2 (.inl e)), hk.bk h.kf (own_type h.u.ps h.kf (by decide) (by decide)), hk.bk h.kg (own_type h.u.ps h.kg (by decide) (by decide)), h.s.kq hk (fun k hf e => h.dj k hf (.inl e)), hs, ?_, ⟨h.dG.1, ?_⟩, ?_, h.zd, h.chg.trans hc ?_, ?_⟩
  · intro k f e
    rcases hmv k e with e | e
    · exact h.dj k f e
    · have := h.s.lt k f
      omega
  · intro e
    rcases hmv _ e with e | e
    · exact h.dG.2 e
    · have := h.gb.lt
      omega
  · intro z hz
    obtain ⟨z1, z2, z3, z4, z5⟩ := h.zb z hz
    refine ⟨hk.bk z1 (fun e => z4 (.inl e)), hk.qv z2, z3, fun e => ?_, z5⟩
    rcases hmv _ e with e | e
    · exact z4 e
    · have := z1.lt
      omega
  · intro k hk e
    rcases own_mv h.nr.2.2.1 h.nr.2.2.2 e with e | e
    · exact .inr (.inr e)
    · omega
  · exact ⟨h.nr.1, h.nr.2.1, ha.elim (fun e => by rw [e]; exact h.nr.2.2.1) (fun e => .inr (by show W0.heap.size ≤ c'.g; omega)), hb.elim (fun e => by rw [e]; exact h.nr.2.2.2) (fun e => .inr (by show W0.heap.size ≤ d'.g; omega))⟩
theorem gb_type {g G : Nat} {t : TypeId} {cs tl : List Value} (h : Bk W g t cs) (hg : GB W G tl l) (ht : t ≠ 40) : g ≠ G := by
  obtain ⟨rs, h1, _⟩ := hg
  exact h.ne_of_type h1 ht
theorem Rn.put {i : Nat} {r : R3} {q : Q} (h : Rn X W0 W R0 R l zs) (hi : i < l.length) (hq : QV W r.v q) : Rn X W0 (s3 W X.G (i * 3) r) R0 R (l.set i q) zs := by
  obtain ⟨hgb, hk⟩ := h.gb.put (fun i x => by simp) hi hq
  refine ⟨(hk 0).bk h.k8 (gb_type h.k8 h.gb (by decide)), (hk 0).bk h.k9 (gb_type h.k9 h.gb (by decide)), (hk 0).bk h.kp (gb_type h.kp h.gb (by decide)), hgb, (hk 0).bk h.kf (gb_type h.kf h.gb (by decide)), (hk 0).bk h.kg (gb_type h.kg h.gb (by decide)), h.s.kq (hk 0) (fun k hf e => h.dG.1 (by rw [← e]; exact hf)), h.u.kq (hk 0) (fun k hf e => h.dG.2 (by rw [← e]; exact hf)), h.dj, h.dG, ?_, h.zd, h.chg.trans (chg_s3 W X.G (i * 3) r) (fun k _ e => .inl e), h.nr⟩
  intro z hz
  obtain ⟨z1, z2, z3⟩ := h.zb z hz
  exact ⟨(hk 0).bk z1 z3.2.2, (hk 0).qv z2, z3⟩
/-- A new box. -/
theorem Rn.box {z : Nat} {r : R3} {q : Q} (h : Rn X W0 W R0 R l zs) (hb : Below W.heap.size W W') (hz : Bk W' z 40 r.cells) (hq : QV W' r.v q) (hn : W.heap.size ≤ z) : Rn X W0 W' R0 R l ((z, r, q) :: zs) := by
  have h' := h.below hb
  refine ⟨h'.k8, h'.k9, h'.kp, h'.gb, h'.kf, h'.kg, h'.s, h'.u, h'.dj, h'.dG, ?_, ?_, h'.chg, h'.nr⟩
  · intro y hy
    rcases List.mem_cons.1 hy with e | e
    · subst e
      refine ⟨hz, hq, fun e => ?_, fun e => ?_, fun e => ?_⟩
      · have := h.s.lt _ e
        simp at this
        omega
      · have := h.u.lt _ e
        simp at this
        omega
      · have := h.gb.lt
        simp at e
        omega
    · exact h'.zb y e
  · simp only [List.map_cons]
    refine List.nodup_cons.2 ⟨fun e => ?_, h.zd⟩
    obtain ⟨y, hy, e⟩ := List.mem_map.1 e
    have := (h.zb y hy).1.lt
    have e' : y.1 = z := e
    omega
/-- A box is filled. -/
theorem Rn.fill {z : Nat} {r0 r : R3} {q0 q : Q} (h : Rn X W0 W R0 R l ((z, r0, q0) :: zs)) (hq : QV W r.v q) (hz0 : W0.heap.size ≤ z) : Rn X W0 (set3 W z r) R0 R l ((z, r, q) :: zs) := by
  obtain ⟨z1, z2, z3, z4, z5⟩   := h.zb (z, r0, q0) (by simp)
  have z1' : Bk W z 40 r0.cells := z1
  have hk := kq_set3 (B := 0) (Below.refl _ _) z1' r
  have hnd := List.nodup_cons.1 h.zd
  refine ⟨hk.bk h.k8 (h.k8.ne_of_type z1' (by decide)), hk.bk h.k9 (h.k9.ne_of_type z1' (by decide)), hk.bk h.kp (h.kp.ne_of_type z1' (by decide)), h.gb.kq hk (Ne.symm z5), hk.bk h.kf (h.kf.ne_of_type z1' (by decide)), hk.bk h.kg (h.kg.ne_of_type z1' (by decide)), h.s.kq hk (fun k hf e => z3 (by rw [← e]; exact hf)), h.u.kq hk (fun k hf e => z4 (by rw [← e]; exact hf)), h.dj, h.dG, ?_, h.zd, h.chg.trans (chg_set3 W z r) (fun k hk e => by omega), h.nr⟩
  intro y hy
  rcases List.mem_cons.1 hy with e | e
  · subst e
    exact ⟨z1'.set3 r, hq.set3 z1' r, z3, z4, z5⟩
  · obtain ⟨y1, y2, y3⟩ := h.zb y (List.mem_cons_of_mem _ e)
    refine ⟨hk.bk y1 (fun e2 => hnd.1 ?_), hk.qv y2, y3⟩
    have e2' : y.1 = z := e2
    show z ∈ zs.map (·.1)
    rw [← e2']
    exact List.mem_map_of_mem (f := (·.1)) e
end
theorem bk_cells {W : World} {g : Nat} {t : TypeId} {cs : List Value} {o : Obj} (h : Bk W g t cs) (ho : W.heap[g]? = some o) : o.isCells = true := by
  have := ho.symm.trans h
  cases Option.some.inj this
  rfl
theorem own_cells {W : World} {b5 k : Nat} {a b : Rw} {o : Obj} (h : PwS W b5 0 a b) (e : own b5 a b k) (ho : W.heap[k]? = some o) : o.isCells = true := by
  obtain ⟨_, h3⟩ := h.ra.bk
  obtain ⟨_, h4⟩ := h.rb.bk
  rcases e with e | e | e <;> subst e
  · exact bk_cells h.k ho
  · exact bk_cells h3 ho
  · exact bk_cells h4 ho
/-- What a round of next comes to, laid open for the iterator. -/
theorem Rn.kx {B m : Nat} {X : Nxc} {W0 W : World} {R0 R : R4} {l l0 : List Q} {zs : List (Nat × R3 × Q)} (h : Rn X W0 W R0 R l zs) (h0 : Rn X W0 W0 R0 R0 l0 []) (hm : ∀ k, k = X.G ∨ X.x.F R0.a R0.b k ∨ X.y.F R0.c R0.d k → m ≤ k) :
    Kx B (fun k => m ≤ k ∧ k ≠ X.bp) W0 W ∧ KeepsFrom B W0 W := by
  refine ⟨(Kq.of_chg B h.chg ?_).x ?_, keepsFrom_chg h.chg ?_⟩
  · intro k c t z e ho
    rcases e with e | e | e
    · exact h0.gb.num (fun i x => by simp) k c t z e ho
    · exact h0.s.ps.num k c t z e ho
    · exact h0.u.ps.num k c t z e ho
  · intro k e
    refine ⟨hm k (e.imp id (fun e => e.imp .inl .inl)), fun e2 => ?_⟩
    subst e2
    rcases e with e | e | e
    · exact gb_type h0.kp h0.gb (by decide) e
    · exact own_type h0.s.ps h0.kp (by decide) (by decide) e
    · exact own_type h0.u.ps h0.kp (by decide) (by decide) e
  · intro k o e _ ho
    rcases e with e | e | e
    · obtain ⟨_, h1, _⟩ := h0.gb
      subst e
      exact bk_cells h1 ho
    · exact own_cells h0.s.ps e ho
    · exact own_cells h0.u.ps e ho
end Go.Proofs.YtlhipaffhehcnaaGreat
namespace Go.Proofs.YtlhipaffhehcnaaGreat
open Go.RowKit Go.Shelf
set_option linter.unusedVariables false
section
variable {P : Program} {ops : Array Oper} {Q : Exit → Act → World → Prop} {md : Region.Mode} {S : World → Prop} {l n : Nat}
theorem rowsRound {row : String} {args : Array Value} {w : World} {R : Value → World → Prop} (h : Rows P row args w R) : RowsIn (Fence.wide.inRound l) n P row args w R := by
  intro c cs _
  obtain ⟨v, w', r, s⟩ := h c cs
  exact ⟨v, w', r, stepsIn_wide.2 s⟩
theorem operRound {o : Oper} {K : Act → World → Prop} {a : Act} {w : World} (hd : ∀ c, o.op ≠ .defer c) (h : o.wp P a w K Q) : o.wpIn (Fence.wide.inRound l) n P a w K Q := by
  unfold Oper.wp at h
  unfold Oper.wpIn
  refine ⟨fun f _ => trivial, ?_⟩
  rw [Oper.semAt_eq _ _ _ hd]
  generalize (execOp a.eval o).run P w = r at h ⊢
  cases r with
  | ok x w' =>
    cases x with
    | value v => exact h
    | skip => exact h
    | defer d => exact h
    | enter f args => exact ⟨fun e => (by cases e), CallsIn.inRound l (callsIn_wide.2 h)⟩
    | row row args => exact ⟨fun e => (by cases e), rowsRound h⟩
    | _ => exact h.elim
  | halt x w' =>
    cases x with
    | panic v => exact h
    | _ => exact h.elim
/-- No operation of the region defers. -/
def noDefer (ops : Array Oper) : Bool := ops.all fun o => match o.op with
  | .defer _ => false
  | _ => true
theorem noDefer_spec (h : noDefer ops = true) {i : Nat} {o : Oper} (ho : ops[i]? = some o) (c : Call) : o.op ≠ .defer c := by
  intro e
  unfold noDefer at h
  have := Array.all_eq_true_iff_forall_mem.1 h o (Array.mem_of_getElem? ho)
  rw [e] at this
  cases this
theorem opRound {i : Nat} {K : Act → World → Prop} {a : Act} {w : World} (hd : noDefer ops = true) (hQ : ¬ LetsOut Q) (h : wpOp P ops Q i K a w) : wpOpIn (Fence.wide.inRound l) n P ops Q i K a w := by
  unfold wpOp at h
  unfold wpOpIn
  cases ho : ops[i]? with
  | none => rw [ho] at h; exact h
  | some o =>
    rw [ho] at h
    simp only at h ⊢
    split
    · rename_i hw
      rw [if_pos hw] at h
      rcases h with h | h
      · exact operRound (noDefer_spec hd ho) h
      · exact absurd h.2 hQ
    · rename_i hw
      rw [if_neg hw] at h
      exact ⟨fun f _ => trivial, h⟩
theorem anyRound (hd : noDefer ops = true) (hQ : ¬ LetsOut Q) : ∀ (fuel : Nat) (listed : Array Bool) (a : Act) (w : World), wpAny P md ops Q fuel listed a w → wpAnyIn (Fence.wide.inRound l) n P md ops Q fuel listed a w
  | 0, _, _, _, h => h
  | fuel + 1, _, _, _, h => ⟨h.1, fun i hi => opRound hd hQ (wpOp_mono (fun a' w' h' => anyRound hd hQ fuel _ a' w' h') (h.2 i hi))⟩
/-- The normal way alone. -/
def NormR (R : Act → World → Prop) : Exit → Act → World → Prop
  | .normal, a, w => R a w
  | _, _, _ => False
theorem NormR.imp {Q : Exit → Act → World → Prop} : ∀ (e : Exit) (a : Act) (w : World), NormR (Q .normal) e a w → Q e a w := fun e a w h => by
  cases e <;> first | exact h | exact (h : False).elim
theorem NormR.no {R : Act → World → Prop} : ¬ LetsOut (NormR R) := fun ⟨_, _, h⟩ => h
/-- A drawn region in a round, by the plain walk in which S is held. -/
theorem region_round {id : Nat} {a : Act} {w : World} (hm : P.follows .mixedOrders = true) (hd : noDefer ops = true) (hS : S w.drew)
    (h : S w.drew → wpAnyH P .any ops (NormR (Q .normal)) S ops.size (Array.replicate ops.size false) a w.drew) : (Code.region id ops true).wpIn (Fence.wide.inRound l) n P Q a w :=
  wpIn_mono (wpIn_region_any hm (anyRound hd NormR.no _ _ _ _ (wpAny_of_held _ _ _ _ (h hS)))) NormR.imp
end
end Go.Proofs.YtlhipaffhehcnaaGreat
