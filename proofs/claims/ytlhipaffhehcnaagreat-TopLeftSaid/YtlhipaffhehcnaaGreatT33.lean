/- TopLeft: the law of a range over a function that may itself be within an iterator: what the body owns is told round by round. -/
import Derived.Test.YtlhipaffhehcnaaGreatT31
namespace Go.Proofs.YtlhipaffhehcnaaGreat
open Go.RowKit Go.Shelf
set_option linter.unusedVariables false
set_option linter.unusedSimpArgs false
section
variable {B l : Nat} {S T U : Nat → Prop} {W W1 W' : World}
theorem Kq.putl (B : Nat) {l : Nat} {o o' : Obj} (h : W.heap[l]? = some o) (ho : o.isCells = false) : Kq B (fun k => k = l) W (W.putObj l o') :=
  ⟨rfl, rfl, rfl, by simp, fun k q hk hs _ => (World.putObj_heap_other hs).trans hk, fun g c t z hg hk => by
    subst hg
    rw [h] at hk
    injection hk with hk
    subst hk
    cases ho⟩
theorem Kx.low {B' : Nat} (h : Kx B S W W') (hB : B' ≤ B) : Kx B' S W W' := by
  obtain ⟨R, h1, h2⟩ := h
  exact ⟨R, h1.lower hB, h2⟩
theorem Kx.to (h : Kx B S W W') (hS : ∀ k, S k → T k) : Kx B T W W' := by
  obtain ⟨R, h1, h2⟩ := h
  exact ⟨R, h1, fun k e => hS k (h2 k e)⟩
theorem Kx.at_ (h : Kx B S W W') {k : Nat} {o : Obj} (hk : W.heap[k]? = some o) (hs : ¬ S k) (hB : k < B) : W'.heap[k]? = some o := by
  obtain ⟨R, h1, h2⟩ := h
  exact h1.keep k o hk (fun e => hs (h2 k e)) (.inl hB)
theorem Kx.size (h : Kx B S W W') : W.heap.size ≤ W'.heap.size := by
  obtain ⟨R, h1, h2⟩ := h
  exact h1.size
end
/-- What an iterator promises, whatever the body owns (U: what it owns then). -/
def IterU (F : Fence) (n : Nat) (P : Program) (gf : Nat) (lb : Array Value) (V : Nat → Prop) (Ok : Nat → (Nat → Prop) → Array Value → World → Prop) (N : Nat) (w : World) : Prop :=
  ∀ (l : Nat) (J : Nat → (Nat → Prop) → World → Prop) (Jx : (Nat → Prop) → World → Prop) (U : Nat → Prop) (W : World), Kq w.heap.size Nq w W → l < W.heap.size → ¬ V l → (∀ k, V k → ¬ U k) →
    (∀ i U W1, J i U W1 → (∃ r, W1.heap[l]? = some (.loop r)) ∧ ∀ k, U k → k < W1.heap.size) →
    (∀ i U W1 W2, J i U W1 → Kq W.heap.size Nq W1 W2 → J i U W2) → (∀ U W1 W2, Jx U W1 → Kq W.heap.size Nq W1 W2 → Jx U W2) →
    (∀ i U x W1, i < N → J i U W1 → Ok i U x W1 → YieldAt F (n - 1) P l x W1 fun e W' => ∃ U', (∀ k, U' k → U k ∨ W1.heap.size ≤ k) ∧ Kx W1.heap.size (fun k => U k ∨ k = l) W1 W' ∧ ((e = .returned (.bool true) ∧ J (i + 1) U' W') ∨ (e = .returned (.bool false) ∧ Jx U' W'))) →
    J 0 U W → CallsIn F n P gf (#[.func (.yield l) #[] #[]] ++ lb) W fun e W' => (∃ v, e = .returned v) ∧ ∃ U', J N U' W' ∨ Jx U' W'
/-- What a body of a round must leave. -/
def stPostU (U : Nat → Prop) (R : (Nat → Prop) → World → Prop) (Ix : Code → (Nat → Prop) → World → Prop) (W : World) : Exit → Act → World → Prop
  | .normal, _, W' => ∃ U', (∀ k, U' k → U k ∨ W.heap.size ≤ k) ∧ Kx W.heap.size U W W' ∧ R U' W'
  | .ret, _, W' => ∃ U', (∀ k, U' k → U k ∨ W.heap.size ≤ k) ∧ Kx W.heap.size U W W' ∧ Ix .ret U' W'
  | .exit id, _, W' => ∃ U', (∀ k, U' k → U k ∨ W.heap.size ≤ k) ∧ Kx W.heap.size U W W' ∧ Ix (.exit id) U' W'
  | _, _, _ => False
section
variable {F : Fence} {n : Nat} {P : Program}
theorem range_stU {g : Operand} {ps : Array Tmp} {assign body : Code} {Q : Exit → Act → World → Prop} {a : Act} {w : World}
    (hro : F.round = none) (h1 : 1 ≤ n) {gf : Nat} {lb : Array Value} (hg : a.eval g = .func (.func gf) #[] lb) (hFg : F.fn gf) (eg : ∀ args w, (callFunc gf args).run P w = .ok (.enter gf args) w)
    (I : Nat → (Nat → Prop) → World → Prop) (Ok : Nat → (Nat → Prop) → Array Value → World → Prop) (N : Nat) (Ix : Code → (Nat → Prop) → World → Prop)
    (hps : ∀ i U x W, Ok i U x W → x.size = ps.size) (hIU : ∀ i U W, I i U W → ∀ k, U k → k < W.heap.size)
    (hI0 : ∀ i U W W', I i U W → Kq w.heap.size Nq W W' → I i U W') (hIx0 : ∀ c U W W', Ix c U W → Kq w.heap.size Nq W W' → Ix c U W')
    {U0 : Nat → Prop} (V : Nat → Prop) (hV : ∀ k, V k → k < w.heap.size ∧ ¬ U0 k) (h0 : I 0 U0 w) (hseq : IterU F (n - 1) P gf lb V Ok N w)
    (Ax : Nat → (Nat → Prop) → Array Value → Act → World → Prop) (hAx : ∀ i U x a' W W', Ax i U x a' W → Kq w.heap.size Nq W W' → Ax i U x a' W')
    (hassign : ∀ (l i : Nat) (x : Array Value) (U : Nat → Prop) (W : World) (K : Act → World → Prop), I i U W → Ok i U x W → (∀ a' W', Kq W.heap.size Nq W W' → Ax i U x a' W' → K a' W') →
      assign.wpIn (F.inRound l) (n - 1 - 1) P (Exit.then K (fun _ _ _ => False)) { tmps := (ps.zip x).foldl (fun t (p, v) => t.setIfInBounds p v) a.tmps, defers := [] } W)
    (hbody : ∀ (l i : Nat) (x : Array Value) (a' : Act) (U : Nat → Prop) (W : World), w.heap.size ≤ l → ¬ U l → i < N → I i U W → Ax i U x a' W → body.wpIn (F.inRound l) (n - 1 - 1) P (stPostU U (I (i + 1)) Ix W) a' W)
    (hdone : ∀ (D : Nat) (U : Nat → Prop) (W : World), w.heap.size ≤ D → ¬ U D → I N U W → W.heap[D]? = some (.deferred (some [])) → Q .normal { a with defers := { target := .collected D, args := #[] } :: a.defers } W)
    (hstop : ∀ (D : Nat) (c : Code) (U : Nat → Prop) (W : World), w.heap.size ≤ D → Ix c U W → W.heap[D]? = some (.deferred (some [])) → c.wpIn F n P Q { a with defers := { target := .collected D, args := #[] } :: a.defers } W) :
    (Code.rangeFunc g ps assign body).wpIn F n P Q a w := by
  refine wpIn_rangeFunc ?_
  intro fn hfn
  rw [hro]
  obtain ⟨rec, hrec⟩ : ∃ rec : LoopState → Option Code → Loop, rec = fun st pe => { state := st, pending := pe, fn, tmps := a.tmps, params := ps, assign, body, defers := w.heap.size } := ⟨_, rfl⟩
  obtain ⟨W1, hW1⟩ : ∃ W1, (w.alloc (.deferred (some []))).alloc (.loop (rec .ready none)) = W1 := ⟨_, rfl⟩
  have hL1 : W1.heap[w.heap.size + 1]? = some (.loop (rec .ready none)) := by
    rw [← hW1]; have := World.alloc_heap_new (w.alloc (.deferred (some []))) (.loop (rec .ready none)); rwa [World.size_alloc] at this
  have hK1 : W1.heap[w.heap.size]? = some (.deferred (some [])) := by
    rw [← hW1]; exact (Below.heap_alloc _ _ _ (by simp)).trans (World.alloc_heap_new w _)
  have hz1 : W1.heap.size = w.heap.size + 2 := by rw [← hW1]; simp
  have hkc1 : Kq w.heap.size Nq w W1 := by
    rw [← hW1]; exact Kq.of_below _ (((Below.refl _ w).alloc (Nat.le_refl _) _).alloc (by simp) _)
  have hI1 : I 0 U0 W1 := hI0 _ _ _ _ h0 hkc1
  have hU1 := hIU _ _ _ h0
  refine ⟨w.heap.size + 1, [{ target := .collected w.heap.size, args := #[] }], W1, { target := .fn (.func gf) lb, args := #[.func (.yield (w.heap.size + 1)) #[] #[]] }, W1, gf,
    #[.func (.yield (w.heap.size + 1)) #[] #[]] ++ lb, W1, ?_, ?_, ?_, ?_, fun _ => h1, ?_⟩
  · rw [← hW1, hrec]; exact run_enterLoop_outer _ _ _ _ _
  · simp only [resolve, hg]
    simp [go_sem]
  · intro f' hf'; simp [Target.leads] at hf'; subst hf'; exact hFg
  · simp [invoke, go_sem, eg]
  · refine (hseq (w.heap.size + 1)
      (fun i U W => I i U W ∧ W.heap[w.heap.size + 1]? = some (.loop (rec .ready none)) ∧ W.heap[w.heap.size]? = some (.deferred (some [])) ∧ ¬ U (w.heap.size + 1) ∧ ¬ U w.heap.size)
      (fun U W => ∃ c, Ix c U W ∧ W.heap[w.heap.size + 1]? = some (.loop (rec .done (some c))) ∧ W.heap[w.heap.size]? = some (.deferred (some [])))
      U0 W1 hkc1 (by omega) (fun e => by have := (hV _ e).1; omega) (fun k e => (hV k e).2)
      (fun i U W h => ⟨⟨_, h.2.1⟩, hIU _ _ _ h.1⟩)
      (fun i U A B h hk => ⟨hI0 i U A B h.1 (hk.lower (by omega)), hk.keep _ _ h.2.1 id (.inl (by omega)), hk.keep _ _ h.2.2.1 id (.inl (by omega)), h.2.2.2⟩)
      (fun U A B h hk => by
        obtain ⟨c, hc, hl, hkk⟩ := h
        exact ⟨c, hIx0 c U A B hc (hk.lower (by omega)), hk.keep _ _ hl id (.inl (by omega)), hk.keep _ _ hkk id (.inl (by omega))⟩)
      ?_ ⟨hI1, hL1, hK1, fun e => by have := hU1 _ e; omega, fun e => by have := hU1 _ e; omega⟩).mono ?_
    · rintro i U x W hiN ⟨hi, hl, hk, hul, hud⟩ hok
      have hlt0 : w.heap.size + 1 < W.heap.size := (Array.getElem?_eq_some_iff.1 hl).1
      have hy := run_yield (P := P) (args := x) hl (by rw [hrec]; exact hps i U x W hok)
      rw [hrec] at hy
      refine ⟨fn, _, assign, body, hy, roundIn_of_wpIn hfn (hassign _ i x U W _ hi hok ?_)⟩
      clear hy
      intro a' Wa hka hax
      replace hl := hka.keep _ _ hl id (.inl (by omega))
      replace hk := hka.keep _ _ hk id (.inl (by omega))
      have hza := hka.size
      have hlt : w.heap.size + 1 < Wa.heap.size := (Array.getElem?_eq_some_iff.1 hl).1
      refine ⟨_, run_beginRound hl (by rw [hrec]), ?_⟩
      have hl2 : (Wa.putObj (w.heap.size + 1) (.loop { rec .ready none with state := .busy })).heap[w.heap.size + 1]? = some (.loop { rec .ready none with state := .busy }) := World.putObj_heap_same hlt
      have hk2 : (Wa.putObj (w.heap.size + 1) (.loop { rec .ready none with state := .busy })).heap[w.heap.size]? = some (.deferred (some [])) := (World.putObj_heap_other (by omega)).trans hk
      have hw2 : Kq w.heap.size Nq Wa (Wa.putObj (w.heap.size + 1) (.loop { rec .ready none with state := .busy })) := Kq.put (by omega) hl rfl
      have hp2 : Kq W.heap.size (fun k => k = w.heap.size + 1) Wa (Wa.putObj (w.heap.size + 1) (.loop { rec .ready none with state := .busy })) := Kq.putl _ hl rfl
      have hz2 : (Wa.putObj (w.heap.size + 1) (.loop { rec .ready none with state := .busy })).heap.size = Wa.heap.size := by simp
      generalize hWb : Wa.putObj (w.heap.size + 1) (.loop { rec .ready none with state := .busy }) = Wb at *
      refine wpIn_mono (hbody _ i x a' U Wb (by omega) hul hiN (hI0 _ _ _ _ (hI0 _ _ _ _ hi (hka.lower (by omega))) hw2) (hAx _ _ _ _ _ _ hax hw2)) ?_
      have fin : ∀ (jump : Option Code) (W3 : World), Kx Wb.heap.size U Wb W3 →
          (Instr.endRound (w.heap.size + 1) jump).run P W3 = .ok (.bool jump.isNone) (W3.putObj (w.heap.size + 1) (.loop (rec (if jump.isNone then .ready else .done) jump))) ∧
          W3.heap[w.heap.size + 1]? = some (.loop { rec .ready none with state := .busy }) ∧
          (W3.putObj (w.heap.size + 1) (.loop (rec (if jump.isNone then .ready else .done) jump))).heap[w.heap.size + 1]? = some (.loop (rec (if jump.isNone then .ready else .done) jump)) ∧
          (W3.putObj (w.heap.size + 1) (.loop (rec (if jump.isNone then .ready else .done) jump))).heap[w.heap.size]? = some (.deferred (some [])) ∧
          Kx W.heap.size (fun k => U k ∨ k = w.heap.size + 1) W (W3.putObj (w.heap.size + 1) (.loop (rec (if jump.isNone then .ready else .done) jump))) := fun jump W3 hk3 => by
        have hl3 := hk3.at_ hl2 hul (by omega)
        have hd3 := hk3.at_ hk2 hud (by omega)
        have := run_endRound (P := P) jump hl3
        rw [hrec] at this ⊢
        refine ⟨this, by rw [hrec] at hl3; exact hl3, World.putObj_heap_same (Array.getElem?_eq_some_iff.1 hl3).1, (World.putObj_heap_other (by omega)).trans hd3, ?_⟩
        have e1 : Kx W.heap.size (fun k => U k ∨ k = w.heap.size + 1) W Wb := (hka.left hp2).x (fun k e => .inr e)
        have e2 : Kx W.heap.size (fun k => U k ∨ k = w.heap.size + 1) Wb W3 := (hk3.low (by omega)).to (fun k e => .inl e)
        have e3 := (Kq.putl (o' := .loop (({ state := (if jump.isNone then .ready else .done), pending := jump, fn, tmps := a.tmps, params := ps, assign, body, defers := w.heap.size } : Loop))) W.heap.size hl3 rfl).x (T := fun k => U k ∨ k = w.heap.size + 1) (fun k e => .inr e)
        exact (e1.both e2).both e3
      rintro e a3 W3 hp
      cases e with
      | normal =>
        obtain ⟨U', hU', hkp3, hi3⟩ := hp
        obtain ⟨hr, hl3, hl4, hk4, hkk⟩ := fin none W3 hkp3
        exact ⟨_, _, hr, U', fun k e => (hU' k e).imp id (fun e => by omega), hkk, .inl ⟨rfl, hI0 _ _ _ _ hi3 (Kq.put (by omega) hl3 rfl), hl4, hk4, fun e => by rcases hU' _ e with e | e; exact hul e; omega, fun e => by rcases hU' _ e with e | e; exact hud e; omega⟩⟩
      | ret =>
        obtain ⟨U', hU', hkp3, hi3⟩ := hp
        obtain ⟨hr, hl3, hl4, hk4, hkk⟩ := fin (some .ret) W3 hkp3
        exact ⟨_, _, hr, U', fun k e => (hU' k e).imp id (fun e => by omega), hkk, .inr ⟨rfl, .ret, hIx0 _ _ _ _ hi3 (Kq.put (by omega) hl3 rfl), hl4, hk4⟩⟩
      | exit id =>
        obtain ⟨U', hU', hkp3, hi3⟩ := hp
        obtain ⟨hr, hl3, hl4, hk4, hkk⟩ := fin (some (.exit id)) W3 hkp3
        exact ⟨_, _, hr, U', fun k e => (hU' k e).imp (fun e => e) (fun e => by omega), hkk, .inr ⟨rfl, .exit id, hIx0 _ _ _ _ hi3 (Kq.put (by omega) hl3 rfl), hl4, hk4⟩⟩
      | goto t => exact hp.elim
      | panic ch => exact hp.elim
      | outgrown => exact hp.elim
    · rintro e W2 ⟨⟨v, rfl⟩, U', (⟨hi, hl, hk, _, hud⟩ | ⟨c, hi, hl, hk⟩)⟩
      · exact ⟨none, _, by have := run_endLoop (P := P) hl (by rw [hrec]; simp); rw [hrec] at this; exact this, hdone _ U' _ (Nat.le_refl _) hud (hI0 _ _ _ _ hi (Kq.put (by omega) hl rfl)) ((World.putObj_heap_other (by omega)).trans hk)⟩
      · exact ⟨some c, _, by have := run_endLoop (P := P) hl (by rw [hrec]; simp); rw [hrec] at this; exact this, hstop _ c U' _ (Nat.le_refl _) (hIx0 _ _ _ _ hi (Kq.put (by omega) hl rfl)) ((World.putObj_heap_other (by omega)).trans hk)⟩
end
/-- The marks that ranges over functions have left. -/
def dfr (D : Nat) : Deferred := { target := .collected D, args := #[] }
def Cds (W : World) (Ds : List Nat) : Prop := Ds.Nodup ∧ ∀ D ∈ Ds, W.heap[D]? = some (.deferred (some []))
theorem Cds.kx {W W' : World} {Ds : List Nat} {B : Nat} {T : Nat → Prop} (h : Cds W Ds) (hk : Kx B T W W') (hB : ∀ D ∈ Ds, D < B ∧ ¬ T D) : Cds W' Ds :=
  ⟨h.1, fun D hD => hk.at_ (h.2 D hD) (hB D hD).2 (hB D hD).1⟩
theorem Cds.lt {W : World} {Ds : List Nat} (h : Cds W Ds) : ∀ D ∈ Ds, D < W.heap.size := fun D hD => (Array.getElem?_eq_some_iff.1 (h.2 D hD)).1
theorem Cds.kq {W W' : World} {Ds : List Nat} {B : Nat} (h : Cds W Ds) (hk : Kq B Nq W W') (hB : ∀ D ∈ Ds, D < B) : Cds W' Ds :=
  ⟨h.1, fun D hD => hk.keep D _ (h.2 D hD) id (.inl (hB D hD))⟩
theorem Cds.below {W W' : World} {Ds : List Nat} (h : Cds W Ds) (hb : Below W.heap.size W W') : Cds W' Ds := h.kq (Kq.of_below W.heap.size hb) h.lt
theorem Cds.cons {W : World} {Ds : List Nat} {D : Nat} (h : Cds W Ds) (hD : W.heap[D]? = some (.deferred (some []))) (hn : D ∉ Ds) : Cds W (D :: Ds) :=
  ⟨List.nodup_cons.2 ⟨hn, h.1⟩, fun x hx => by
    rcases List.mem_cons.1 hx with e | e
    · subst e; exact hD
    · exact h.2 x e⟩
theorem leaves_cds {F : Fence} {n : Nat} {P : Program} {fn : Func} {tmps : Array Value} {R : Ending → World → Prop} {B : Nat} : ∀ (Ds : List Nat) (w : World), Cds w Ds → (∀ D ∈ Ds, B ≤ D) →
    (∀ w', Kq B Nq w w' → LeavesIn F n P fn tmps R [] .returning w') → LeavesInM F n P fn tmps R (Ds.map dfr) .returning w
  | [], w, _, _, hR => hR w (Kq.refl _ _)
  | D :: Ds, w, h, hB, hR => by
    have hD := h.2 D (by simp)
    have hnd := List.nodup_cons.1 h.1
    refine ⟨by simp, .inl ⟨D, _, rfl, run_takeDeferred hD, ?_⟩⟩
    have hk : Kq B Nq w (w.putObj D (.deferred none)) := Kq.put (hB D (by simp)) hD rfl
    refine leaves_cds Ds _ ⟨hnd.2, fun x hx => ?_⟩ (fun x hx => hB x (by simp [hx])) (fun w' hw' => hR w' (hk.both hw'))
    exact (World.putObj_heap_other (by rintro rfl; exact hnd.1 hx)).trans (h.2 x (by simp [hx]))
/-- How deep the fence is counts for nothing where it is wide. -/
theorem yield_n {P : Program} {l n n' : Nat} {args : Array Value} {W : World} {R : Ending → World → Prop} (h : YieldAt Fence.wide n P l args W R) : YieldAt Fence.wide n' P l args W R := by
  obtain ⟨fn, tmps, assign, body, h1, h2, h3⟩ := h
  exact ⟨fn, tmps, assign, body, h1, h2, fun c cs hr => h3 c cs (room_wide _)⟩
end Go.Proofs.YtlhipaffhehcnaaGreat
