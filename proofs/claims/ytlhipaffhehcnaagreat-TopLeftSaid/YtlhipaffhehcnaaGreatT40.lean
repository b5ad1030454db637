/- TopLeft: mass.Sets. -/
import Derived.Test.YtlhipaffhehcnaaGreatT39
namespace Go.Proofs.YtlhipaffhehcnaaGreat
open Go.RowKit Go.Shelf
set_option linter.unusedVariables false
set_option linter.unusedSimpArgs false
attribute [local go_sem] Oper.semAt_some
/-- An append inside a fence. -/
theorem wpListIn_append_run {F : Fence} {n' : Nat} {P : Program} {w : World} {ops : Array Oper} {rest : List Oper} {o : Oper} {a : Act} {Q : Exit → Act → World → Prop} (hgd : o.guard = none) (s x : Operand) (t : TypeId)
    (ho : o.op = .call { callee := .builtin .append, args := #[s, x], argTypes := #[t, t] }) {v y : Value} (hs : a.eval s = v) (hx : a.eval x = y) {v' : Value} {w' : World} (hrun : (Builtin.append_ #[t, t] o.type #[v, y]).run P w = .ok v' w')
    (h : wpListIn F n' P ops Q rest (a.put o.dst v') w') : wpListIn F n' P ops Q (o :: rest) a w := by
  refine wpListIn_plain hgd fun K hK' => ?_
  unfold Oper.wpIn
  refine ⟨?_, ?_⟩
  · simp [Oper.about, ho, resolve, Target.leads, Sem.run_pure]
  · rw [Oper.semAt_plain F _ _ (by rw [ho]; intro c hc'; cases hc')]
    simp [execOp, ho, resolve, invoke, builtin, hs, hx, hrun, Result.andThen]
    exact hK' _ _ h
/-- A row of headers that grows. -/
def OutV (W : World) (base : Nat) (v : Value) (hs : List Hd) : Prop :=
  (v = .slice none 0 0 ∧ hs = []) ∨ ∃ g c tl, v = .slice (some ⟨g, 0, none⟩) hs.length c ∧ base ≤ g ∧ Bk W g 22 (hds hs ++ tl) ∧ tl.length = c - hs.length ∧ hs.length ≤ c ∧ c ≤ maxLen ∧ NoU tl ∧ 1 ≤ hs.length
theorem hds_no (hs : List Hd) {tl : List Value} (ht : NoU tl) : NoU (hds hs ++ tl) := by
  intro i x h
  rcases Nat.lt_or_ge i (hds hs).length with hi | hi
  · rw [List.getElem?_append_left hi] at h
    obtain ⟨hd, _, e⟩ := List.mem_map.1 (List.mem_of_getElem? h)
    cases e
  · rw [List.getElem?_append_right hi] at h
    exact ht _ _ h
section
variable {W W' : World} {base : Nat} {v : Value} {hs : List Hd}
theorem OutV.kx {B : Nat} {T : Nat → Prop} (h : OutV W base v hs) (hk : Kx B T W W') (hT : ∀ g, v.ownBlock = some g → ¬ T g) : OutV W' base v hs := by
  rcases h with h | ⟨g, c, tl, hv, hb, hk2, h3⟩
  · exact .inl h
  · exact .inr ⟨g, c, tl, hv, hb, hk.bk hk2 (hT g (by rw [hv]; rfl)), h3⟩
theorem OutV.blk (h : OutV W base v hs) {g : Nat} (hg : v.ownBlock = some g) : base ≤ g ∧ ∃ cur, Bk W g 22 cur ∧ NoU cur := by
  rcases h with ⟨h0, _⟩ | ⟨g', c, tl, hv, hb, hk2, _, _, _, h6, _⟩
  · rw [h0] at hg; cases hg
  · rw [hv] at hg
    have : some g' = some g := hg
    obtain rfl := Option.some.inj this
    exact ⟨hb, _, hk2, hds_no hs h6⟩
theorem OutV.form (h : OutV W base v hs) : ∃ A c, v = .slice A hs.length c ∧ hs.length ≤ c ∧ Rd W A hs.length (hds hs) := by
  rcases h with ⟨rfl, rfl⟩ | ⟨g, c, tl, rfl, hb, hk2, h3, h4, _⟩
  · exact ⟨none, 0, rfl, Nat.le_refl _, Rd.nil _ _⟩
  · have hl : (hds hs).length = hs.length := by simp [hds]
    exact ⟨_, c, rfl, h4, Rd.of_bk hk2 (by rw [List.length_append, hl]; omega) (by rw [List.drop_zero, List.take_left' hl])⟩
/-- One header more. -/
theorem run_append_h {s c1 : Nat} {hd : Hd} (h : OutV W base v hs) (hn : hs.length ≤ 1000000) (hb : base ≤ W.heap.size) (hk : Bk W s 22 [hd.v]) :
    ∃ v' W', (Builtin.append_ #[27, 27] 27 #[v, .slice (some ⟨s, 0, none⟩) 1 c1]).run Tryz.prog W = .ok v' W' ∧ OutV W' base v' (hs ++ [hd]) ∧ Chg (fun k => v.ownBlock = some k) W W' ∧ (v'.ownBlock = v.ownBlock ∨ v'.ownBlock = some W.heap.size) := by
  obtain ⟨i0, hi0, hz0, hz1, hz2⟩ := info_parts27 sl_info
  have hnews : ∀ (j : Nat) u, [hd.v][j]? = some u → W.cell? ((⟨s, 0, none⟩ : Addr).add j) = some u := by
    intro j u hu
    rw [Addr.add_lit, Nat.zero_add, hk.cell]
    exact hu
  have hlr : [hd.v].length = 1 * i0.size := by rw [hz1]; rfl
  have hone : ∀ u ∈ [hd.v], u.oneCell' = true := by intro u hu; rw [List.mem_singleton.1 hu]; rfl
  have hzn : ∀ k, NoU (Builtin.zeroCells (Value.cells (.slice none 0 0)) k).toList := by
    intro k i x h
    have e3 : ∀ u ∈ (Builtin.zeroCells (Value.cells (.slice none 0 0)) k).toList, u = .slice none 0 0 := by
      intro u hu
      simp [Builtin.zeroCells, Value.cells] at hu
      obtain ⟨a, ha, e⟩ := hu
      rw [← e]
      have : a % 1 = 0 := Nat.mod_one a
      simp [this]
    have := e3 _ (List.mem_of_getElem? h)
    cases this
  have hzl : ∀ k, (Builtin.zeroCells (Value.cells (.slice none 0 0)) k).size = k := by intro k; simp [Builtin.zeroCells, Value.cells]
  have hl : (hds hs).length = hs.length := by simp [hds]
  have h63 : hs.length + 1 ≤ maxLen := by simp only [maxLen]; omega
  rcases h with ⟨rfl, rfl⟩ | ⟨g, c, tl, rfl, hbg, hkg, htl, hnc, hcm, hno, h1⟩
  · have hr := run_append_nil (P := Tryz.prog) W 27 27 22 i0 _ Tryz.underlying27 hi0 hz0 ⟨s, 0, none⟩ 1 c1 [hd.v] hlr hnews (by decide) (by decide) (by rw [hz2]; decide)
    obtain ⟨K, hK⟩ : ∃ K, grownCap W 1 0 22 = K := ⟨_, rfl⟩
    have hK1 : 1 ≤ K := by rw [← hK]; exact grownCap_ge W 1 0 _
    have hK2 : K ≤ maxLen := by rw [← hK]; exact grownCap_le_maxLen W 1 0 _ (by simp only [maxLen]; omega)
    rw [hK] at hr
    have hbk : Bk (W.drew.alloc (.cells ([hd.v].toArray ++ Builtin.zeroCells (Value.cells (.slice none 0 0)) (K - 1)) 22)) W.heap.size 22 (hds [hd] ++ (Builtin.zeroCells (Value.cells (.slice none 0 0)) (K - 1)).toList) := by
      have := Bk.newA W.drew 22 ([hd.v].toArray ++ Builtin.zeroCells (Value.cells (.slice none 0 0)) (K - 1))
      simpa [hds] using this
    exact ⟨_, _, hr, .inr ⟨W.heap.size, K, _, rfl, hb, hbk, by rw [Array.length_toList, hzl]; rfl, hK1, hK2, hzn _, Nat.le_refl _⟩, Chg.of_below (bl_allocd ((Below.refl _ _).drew) _), .inr rfl⟩
  · by_cases hroom : hs.length + 1 ≤ c
    · have hfit : hs.length * i0.size + [hd.v].length ≤ (hds hs ++ tl).toArray.size := by
        rw [hz1]
        simp only [List.size_toArray, List.length_append, hl, htl, List.length_singleton]
        omega
      have hr := run_append_room (P := Tryz.prog) W 27 27 22 i0 Tryz.underlying27 hi0 g hs.length c (hds hs ++ tl).toArray hkg ⟨s, 0, none⟩ 1 c1 [hd.v] hlr hnews hone hroom hfit
      have hcs : ((hds hs ++ tl).toArray.toList.take (hs.length * i0.size) ++ [hd.v] ++ (hds hs ++ tl).toArray.toList.drop (hs.length * i0.size + [hd.v].length)) = hds (hs ++ [hd]) ++ tl.drop 1 := by
        rw [hz1, Nat.mul_one, List.length_singleton]
        rw [List.take_left' hl, List.drop_append, List.drop_of_length_le (by omega), hl, List.nil_append, show hs.length + 1 - hs.length = 1 from by omega]
        simp [hds]
      rw [hcs] at hr
      refine ⟨_, _, hr, .inr ⟨g, c, tl.drop 1, by rw [List.length_append]; rfl, hbg, setRow_heap W g _ _ 22 _ hkg, by rw [List.length_drop, List.length_append, htl, List.length_singleton]; omega, by rw [List.length_append]; exact hroom, hcm, fun i x => by rw [List.getElem?_drop]; exact hno _ x, by rw [List.length_append, List.length_singleton]; omega⟩, ⟨⟨rfl, rfl, rfl, by simp, fun k hk => absurd hk (Nat.not_lt_zero _)⟩, fun k _ hk => setRow_other W g k _ (fun e => hk (by rw [e]; rfl))⟩, .inl rfl⟩
    · have holds : ∀ (j : Nat) u, (hds hs)[j]? = some u → W.cell? ((⟨g, 0, none⟩ : Addr).add j) = some u := by
        intro j u hu
        rw [Addr.add_lit, Nat.zero_add, hkg.cell, List.getElem?_append_left (List.getElem?_eq_some_iff.1 hu).1]
        exact hu
      have hr := run_append_grow (P := Tryz.prog) W 27 27 22 i0 _ Tryz.underlying27 hi0 hz0 ⟨g, 0, none⟩ hs.length c (hds hs) (by rw [hl, hz1, Nat.mul_one]) holds ⟨s, 0, none⟩ 1 c1 [hd.v] hlr hnews (by omega) (by simp only [maxLen] at h63; omega) (growslice_fits (by omega) (by rw [hz2]; omega))
      obtain ⟨K, hK⟩ : ∃ K, grownCap W (hs.length + 1) c 22 = K := ⟨_, rfl⟩
      have hK1 : hs.length + 1 ≤ K := by rw [← hK]; exact grownCap_ge W (hs.length + 1) c _
      have hK2 : K ≤ maxLen := by rw [← hK]; exact grownCap_le_maxLen W (hs.length + 1) c _ h63
      rw [hK] at hr
      have hbk : Bk (W.drew.alloc (.cells ((hds hs).toArray ++ [hd.v].toArray ++ Builtin.zeroCells (Value.cells (.slice none 0 0)) (K - (hs.length + 1))) 22)) W.heap.size 22 (hds (hs ++ [hd]) ++ (Builtin.zeroCells (Value.cells (.slice none 0 0)) (K - (hs.length + 1))).toList) := by
        have := Bk.newA W.drew 22 ((hds hs).toArray ++ [hd.v].toArray ++ Builtin.zeroCells (Value.cells (.slice none 0 0)) (K - (hs.length + 1)))
        simpa [hds] using this
      refine ⟨_, _, hr, .inr ⟨W.heap.size, K, _, by rw [List.length_append]; rfl, hb, hbk, by rw [Array.length_toList, hzl, List.length_append]; rfl, by rw [List.length_append]; exact hK1, hK2, hzn _, by rw [List.length_append, List.length_singleton]; omega⟩, Chg.of_below (bl_allocd ((Below.refl _ _).drew) _), .inr rfl⟩
end
def segS (t : List Nat) (k i : Nat) : List (List Nat) := if t.getD i 0 = 0 then [] else ofS k (i + 1) 0 []
def setsS (t : List Nat) (k : Nat) : List (List Nat) := (List.range t.length).flatMap (segS t k)
/-- What Sets owns. -/
def StU (b4 b5 b6 : Nat) (v : Value) (x : Nat) : Prop := x = b4 ∨ x = b5 ∨ x = b6 ∨ v.ownBlock = some x
/-- Sets, so far. -/
structure StL (w : World) (A : Option Addr) (nt b4 b5 b6 : Nat) (t : List Nat) (ls : List (List Nat)) (v : Value) (hs : List Hd) (Ds : List Nat) (W : World) : Prop where
  k4 : Bk W b4 27 [.slice none 0 0]
  k5 : Bk W b5 25 [.int .i64 0]
  k6 : Bk W b6 27 [v]
  o : OutV W (b6 + 1) v hs
  ll : LL W hs ls
  tb : Tb W A nt t
  l : Below w.heap.size w W
  dj : ∀ x, HB hs x → ¬ StU b4 b5 b6 v x
  b : w.heap.size ≤ b4 ∧ b4 < b5 ∧ b5 < b6 ∧ ∀ a, A = some a → a.block < w.heap.size
  c : Cds W Ds
  d : ∀ D ∈ Ds, w.heap.size ≤ D
section
variable {w W W' : World} {A : Option Addr} {nt b4 b5 b6 : Nat} {t : List Nat} {ls : List (List Nat)} {v : Value} {hs : List Hd} {Ds : List Nat}
theorem StL.ne (h : StL w A nt b4 b5 b6 t ls v hs Ds W) : ∀ D ∈ Ds, ¬ StU b4 b5 b6 v D := by
  intro D hD e
  have h1 := h.c.2 D hD
  rcases e with e | e | e | e
  · subst e
    have := h1.symm.trans h.k4
    cases Option.some.inj this
  · subst e
    have := h1.symm.trans h.k5
    cases Option.some.inj this
  · subst e
    have := h1.symm.trans h.k6
    cases Option.some.inj this
  · obtain ⟨_, cur, h2, _⟩ := h.o.blk e
    have := h1.symm.trans h2
    cases Option.some.inj this
theorem StL.kq {B : Nat} (h : StL w A nt b4 b5 b6 t ls v hs Ds W) (hk : Kq B Nq W W') (hB : w.heap.size ≤ B) (hD : ∀ D ∈ Ds, D < B) : StL w A nt b4 b5 b6 t ls v hs Ds W' :=
  ⟨hk.bk h.k4 id, hk.bk h.k5 id, hk.bk h.k6 id, h.o.kx (T := Nq) (hk.x (fun _ e => e)) (fun _ _ e => e), h.ll.kq hk, hk.tb h.tb (fun _ _ e => e), hk.below h.l (Nat.le_refl _) hB (fun _ e => e.elim), h.dj, h.b, h.c.kq hk hD, h.d⟩
theorem StL.below (h : StL w A nt b4 b5 b6 t ls v hs Ds W) (hb : Below W.heap.size W W') : StL w A nt b4 b5 b6 t ls v hs Ds W' := h.kq (Kq.of_below W.heap.size hb) h.l.size h.c.lt
theorem StL.ult (h : StL w A nt b4 b5 b6 t ls v hs Ds W) : ∀ x, StU b4 b5 b6 v x → x < W.heap.size := by
  rintro x (e | e | e | e)
  · subst e; exact h.k4.lt
  · subst e; exact h.k5.lt
  · subst e; exact h.k6.lt
  · obtain ⟨_, _, h2, _⟩ := h.o.blk e
    exact h2.lt
end
theorem Kx.rd {B : Nat} {T : Nat → Prop} {W W' : World} (h : Kx B T W W') {A : Option Addr} {n : Nat} {xs : List Value} (hr : Rd W A n xs) (hA : ∀ a, A = some a → ¬ T a.block) : Rd W' A n xs := by
  obtain ⟨S, h1, k1⟩ := h
  exact h1.rd hr (fun a ha e => hA a ha (k1 _ e))
theorem StL.app {w W w6 : World} {A : Option Addr} {nt b4 b5 b6 : Nat} {t : List Nat} {ls : List (List Nat)} {v v6 : Value} {hs : List Hd} {Ds : List Nat} {o : Obj} {hd : Hd} {l : List Nat} (h : StL w A nt b4 b5 b6 t ls v hs Ds W) (hr : OutV w6 (b6 + 1) v6 (hs ++ [hd])) (hc : Chg (fun k => v.ownBlock = some k) (W.alloc o) w6) (hat : v6.ownBlock = v.ownBlock ∨ v6.ownBlock = some (W.alloc o).heap.size) (h1 : l.length = hd.n) (h2 : 0 < hd.n) (h3 : hd.n ≤ hd.c) (h4 : Rd W hd.A hd.n (wts l)) (h5 : ∀ a, hd.A = some a → ¬ StU b4 b5 b6 v a.block) :
    StL w A nt b4 b5 b6 t (ls ++ [l]) v6 (hs ++ [hd]) Ds (w6.setCell ⟨b6, 0, none⟩ v6) ∧ (∀ x, StU b4 b5 b6 v6 x → StU b4 b5 b6 v x ∨ W.heap.size ≤ x) ∧ Kx W.heap.size (StU b4 b5 b6 v) W (w6.setCell ⟨b6, 0, none⟩ v6) := by
  have hob : ∀ g, v.ownBlock = some g → b6 + 1 ≤ g := fun g hg => (h.o.blk hg).1
  have hob6 : ∀ g, v6.ownBlock = some g → b6 + 1 ≤ g := fun g hg => (hr.blk hg).1
  have ha : Below W.heap.size W (W.alloc o) := bl_allocd (Below.refl _ _) o
  have hsa : (W.alloc o).heap.size = W.heap.size + 1 := World.size_alloc _ _
  have hcc : Chg (fun k => k = b6 ∨ v.ownBlock = some k) W (w6.setCell ⟨b6, 0, none⟩ v6) := ((Chg.of_below (S := fun k => k = b6 ∨ v.ownBlock = some k) ha).trans hc (fun k _ e => .inr e)).trans (chg_set1 w6 b6 v6) (fun k _ e => .inl e)
  have nov : NoU [v] := by
    obtain ⟨A0, c0, e, _⟩ := h.o.form
    intro i x
    rw [e]
    rcases i with _ | i <;> simp
  have hkx : Kx W.heap.size (fun k => k = b6 ∨ v.ownBlock = some k) W (w6.setCell ⟨b6, 0, none⟩ v6) := (Kq.of_chg W.heap.size hcc (fun k c t z e ho => by
    rcases e with e | e
    · exact num_of_bk h.k6 nov k c t z e ho
    · obtain ⟨_, cur, k1, k2⟩ := h.o.blk e
      exact num_of_bk k1 k2 k c t z rfl ho)).x (fun _ e => e)
  have k66 : Bk w6 b6 27 [v] := hc.bk (h.k6.alloc o) (fun e => by have := hob _ e; omega)
  have hb := h.b
  refine ⟨⟨hkx.bk h.k4 ?_, hkx.bk h.k5 ?_, k66.set_ 0 v6, hr.kx ((Kq.set_ 0 k66 nov 0 v6).x (T := fun k => k = b6) (fun _ e => e)) (fun g hg e => by have := hob6 g hg; omega), (h.ll.kx hkx ?_).snoc h1 h2 h3 (hkx.rd h4 (fun a ha e => h5 a ha (e.elim (fun e => .inr (.inr (.inl e))) (fun e => .inr (.inr (.inr e)))))), ?_, ?_, ?_, h.b, h.c.kx hkx (fun D hD => ⟨h.c.lt D hD, fun e => h.ne D hD (e.elim (fun e => .inr (.inr (.inl e))) (fun e => .inr (.inr (.inr e))))⟩), h.d⟩, ?_, hkx.to (fun x e => e.elim (fun e => .inr (.inr (.inl e))) (fun e => .inr (.inr (.inr e))))⟩
  · rintro (e | e)
    · omega
    · have := hob _ e; omega
  · rintro (e | e)
    · omega
    · have := hob _ e; omega
  · rintro x hx (e | e)
    · exact h.dj x hx (.inr (.inr (.inl e)))
    · exact h.dj x hx (.inr (.inr (.inr e)))
  · have hS : h.tb.1 = h.tb.1 := rfl
    obtain ⟨S, q1, q2⟩ := hkx
    exact q1.tb h.tb (fun a ha2 e => by
      have h9 := hb.2.2.2 a ha2
      rcases q2 _ e with e | e
      · omega
      · have := hob _ e; omega)
  · exact hcc.below h.l (fun k _ e => by
      rcases e with e | e
      · omega
      · have := hob _ e; omega) h.l.size
  · rintro x ⟨g, hg, a, ha2, e⟩
    have hxl : x < W.heap.size ∧ ¬ StU b4 b5 b6 v x := by
      rcases List.mem_append.1 hg with q | q
      · have hx : HB hs x := ⟨g, q, a, ha2, e⟩
        exact ⟨h.ll.lt x hx, h.dj x hx⟩
      · rw [List.mem_singleton.1 q] at ha2
        subst e
        exact ⟨h4.lt h2 a ha2, h5 a ha2⟩
    rintro (e2 | e2 | e2 | e2)
    · exact hxl.2 (.inl e2)
    · exact hxl.2 (.inr (.inl e2))
    · exact hxl.2 (.inr (.inr (.inl e2)))
    rcases hat with q | q
    · rw [q] at e2
      exact hxl.2 (.inr (.inr (.inr e2)))
    · rw [q] at e2
      injection e2 with e2
      omega
  · rintro x (e | e | e | e)
    · exact .inl (.inl e)
    · exact .inl (.inr (.inl e))
    · exact .inl (.inr (.inr (.inl e)))
    · rcases hat with q | q
      · rw [q] at e; exact .inl (.inr (.inr (.inr e)))
      · rw [q] at e
        injection e with e
        exact .inr (by omega)
theorem ret_sets {fn : Func} {p q : Tmp} {tmps : Array Value} {w : World} {g i : Nat} {v : Value} {x : Int} (hr : fn.results = #[.cell p 27, .cell q 25]) (hp : tmps.getD p undef = .pointer (some ⟨g, 0, none⟩)) (hq : tmps.getD q undef = .pointer (some ⟨i, 0, none⟩))
    (h1 : Bk w g 27 [v]) (h2 : Bk w i 25 [.int .i64 x]) : (results fn tmps).run Tryz.prog w = .ok (.tuple #[v, .int .i64 x]) w := by
  have c := h1.cell 0
  simp at c
  have e1 : (loadVar 27 ⟨g, 0, none⟩).run Tryz.prog w = .ok v w := by simp [loadVar, go_sem, c]
  rw [Array.getD_eq_getD_getElem?] at hp hq
  simp only [results, hr]
  simp [Sem.run_bind, Result.andThen, hp, hq, asAddr, lv_errno h2, e1]
set_option maxRecDepth 100000 in
set_option maxHeartbeats 8000000 in
/-- mass.Sets -/
theorem sets_any {w : World} {A : Option Addr} {nt nc k : Nat} {t : List Nat} (h : Tb w A nt t) (hk : k ≤ 8) (ht : tOk t k = true) (hlen : (setsS t k).length ≤ 4000) :
    Calls Tryz.prog 7 #[.slice A nt nc, .int .i64 (k : Nat)] w fun e w' => ∃ A' c' hs, e = .returned (.tuple #[.slice A' hs.length c', .int .i64 0]) ∧ hs.length ≤ c' ∧ Rd w' A' hs.length (hds hs) ∧ LL w' hs (setsS t k) ∧ Below w.heap.size w w' := by
  obtain ⟨i0, hi0, hz0, hz1, hz2⟩ := info_parts27 sl_info
  obtain ⟨w2, hw2⟩ : ∃ w2, (w.alloc (.cells #[.slice none 0 0] 27)).alloc (.cells #[.int .i64 0] 25) = w2 := ⟨_, rfl⟩
  obtain ⟨w1, hw1⟩ : ∃ w1, w2.alloc (.cells #[.slice none 0 0] 27) = w1 := ⟨_, rfl⟩
  obtain ⟨b4, hb4⟩ : ∃ b4, w.heap.size = b4 := ⟨_, rfl⟩
  have hb2 : Below w.heap.size w w2 := by rw [← hw2]; exact bl_allocd (bl_allocd (Below.refl _ _) _) _
  have hs2 : w2.heap.size = b4 + 1 + 1 := by rw [← hw2]; simp [hb4]
  have hb1 : Below w.heap.size w w1 := by rw [← hw1]; exact bl_allocd hb2 _
  have k4 : Bk w1 b4 27 [.slice none 0 0] := by rw [← hw1, ← hw2, ← hb4]; exact ((Bk.newA w 27 #[.slice none 0 0]).alloc _).alloc _
  have k5 : Bk w1 (b4 + 1) 25 [.int .i64 0] := by
    have := (Bk.new2 w (.cells #[.slice none 0 0] 27) 25 #[.int .i64 0]).alloc (.cells #[.slice none 0 0] 27)
    rw [hw2, hw1, hb4] at this
    exact this
  have k6 : Bk w1 (b4 + 1 + 1) 27 [.slice none 0 0] := by rw [← hw1, ← hs2]; exact Bk.newA w2 27 #[.slice none 0 0]
  have hnt : nt ≤ 3 := h.2.2.1
  have hn1 : 1 ≤ nt := by have := (tOk_len ht).2.1; have := h.2.1; omega
  have H1 := Lib.hid (show StL w A nt b4 (b4 + 1) (b4 + 1 + 1) t [] (.slice none 0 0) [] [] w1 from ⟨k4, k5, k6, (.inl ⟨rfl, rfl⟩), trivial, h.below hb1, hb1, fun x ⟨_, hh, _⟩ => by simp at hh, ⟨by omega, by omega, by omega, fun a ha => by
    subst ha
    exact h.1.lt (by omega) a rfl⟩, ⟨List.nodup_nil, fun D hD => by simp at hD⟩, fun D hD => by simp at hD⟩)
  have HP := Lib.hid (And.intro (h.below hb2) (And.intro hk (And.intro ht (And.intro hlen (And.intro hnt (And.intro hn1 hb4))))))
  have hntI : (nt : Int) ≤ 3 := by omega
  have hkI : (k : Int) ≤ 8 := by omega
  clear h hk ht hlen hb2 hb1 k4 k5 k6 hnt hn1
  refine (callsIn_wide (n := 10)).1 ?_
  refine callsIn_of_wp_marks Tryz.func7 rfl trivial ?_ rfl
  simp only [Tryz.ntmps7, List.size_toArray, List.length_cons, List.length_nil, Nat.reduceAdd, Nat.reduceSub, Array.replicate_succ, Array.replicate_zero, List.push_toArray, List.append_toArray, List.nil_append, List.cons_append]
  gi_wp2
  have HC := Lib.hid (solCheck_any (c := nc) (k := k) HP.out.1 (by have := HP.out.2.1; omega))
  rw [chkN_yes HP.out.2.2.1] at HC
  refine ⟨trivial, ((callsIn_wide).2 HC.out).mono ?_⟩
  rintro e wx ⟨rfl, rfl⟩
  clear hw2 hb4
  gi_wp2
  clear hw1
  have HN := Lib.hid HP.out.2.2.2.2.2
  refine wpIn_loop (fun a' w' => ∃ (i : Nat) (v : Value) (hs : List Hd) (Ds : List Nat) (u7 u8 u9 u17 u18 u19 u20 u21 u22 u23 u24 u25 u26 u27 u28 u29 u30 u31 u32 u33 u34 u35 u36 : Value), (i ≤ nt ∧ StL w A nt b4 (b4 + 1) (b4 + 1 + 1) t ((List.range i).flatMap (segS t k)) v hs Ds w') ∧ a' = ⟨List.toArray (.slice A nt nc :: .int .i64 (k : Nat) :: undef :: undef :: .pointer (some ⟨b4, 0, none⟩) :: .pointer (some ⟨b4 + 1, 0, none⟩) :: .pointer (some ⟨b4 + 1 + 1, 0, none⟩) :: u7 :: u8 :: u9 :: .slice A nt nc :: .int .i64 (k : Nat) :: .int .i64 0 :: .bool false :: .slice A nt nc :: .int .i64 (nt : Nat) :: .int .i64 (i : Nat) :: u17 :: u18 :: u19 :: u20 :: u21 :: u22 :: u23 :: u24 :: u25 :: u26 :: u27 :: u28 :: u29 :: u30 :: u31 :: u32 :: u33 :: u34 :: u35 :: u36 :: []), Ds.map dfr⟩) (fun a' _ => 40 - (intOf (a'.tmps.getD 16 undef)).toNat) ?_ ?_
  · exact ⟨0, _, [], [], undef, undef, undef, undef, undef, undef, undef, undef, undef, undef, undef, undef, undef, undef, undef, undef, undef, undef, undef, undef, undef, undef, undef, ⟨Nat.zero_le _, H1.out⟩, rfl⟩
  · rintro a' wr ⟨i, v, hs, Ds, u7, u8, u9, u17, u18, u19, u20, u21, u22, u23, u24, u25, u26, u27, u28, u29, u30, u31, u32, u33, u34, u35, u36, ⟨hi, hL⟩, rfl⟩
    have HL := Lib.hid (And.intro hL hi)
    by_cases hlt : i < nt
    · obtain ⟨tb, toff, rfl, _, htc⟩ := hL.tb.form (by omega)
      have hit : i < t.length := by rw [hL.tb.2.1]; exact hlt
      have hx := htc i hit
      obtain ⟨x, hxe⟩ : ∃ x, t[i] = x := ⟨_, rfl⟩
      have hx3 : x ≤ 3 := by rw [← hxe]; exact hL.tb.get hlt
      rw [hxe] at hx
      have hgd : t.getD i 0 = x := by rw [List.getD_eq_getElem?_getD, List.getElem?_eq_getElem hit, hxe]; rfl
      have hltI : (i : Int) < (nt : Int) := by omega
      have hiI : (i : Int) ≤ 3 := by omega
      have HLT := Lib.hid (And.intro hlt hgd)
      by_cases hx0 : x = 0
      · have hxb : ((x : Int) == 0) = true := by simp; omega
        have HX := Lib.hid hx0
        clear hL hi htc hit hxe hx3 hgd hlt hx0
        gi_wp2
        refine ⟨⟨i + 1, v, hs, Ds, _, _, _, _, _, _, _, _, _, _, _, _, _, _, _, _, _, _, _, _, _, _, _, ⟨HLT.out.1, ?_⟩, rfl⟩, by simp [intOf]; omega⟩
        rw [List.range_succ, List.flatMap_append]
        have hseg : segS t k i = [] := by unfold segS; rw [HLT.out.2, if_pos HX.out]
        simp only [List.flatMap_cons, List.flatMap_nil, hseg, List.append_nil]
        exact HL.out.1
      · have hxb : ((x : Int) == 0) = false := by simp; omega
        have HX := Lib.hid hx0
        obtain ⟨i1, hi1⟩ : ∃ i1, i + 1 = i1 := ⟨_, rfl⟩
        have hwi : IntKind.i64.wrap ((i : Int) + 1) = (i1 : Int) := by rw [IntKind.wrap_i64]; omega
        have hwi2 : (i : Int) + 1 = (i1 : Int) := by omega
        have hwi3 : IntKind.i64.wrap (i1 : Int) = (i1 : Int) := by rw [IntKind.wrap_i64]; omega
        have HI := Lib.hid hi1
        clear hL hi htc hit hxe hx3 hgd hlt hx0 hi1
        gi_wp2
        refine ⟨trivial, ((callsIn_wide).2 (mof_any (w := wr) (A := none) (n := 0) (c := 0) (sm := []) (k := k) (fr := 0) (d := i1) (Rd.nil _ _) (Nat.le_refl _) (fun _ => rfl))).mono ?_⟩
        rintro e w3 ⟨rfl, hf3, hb3⟩
        obtain ⟨b, hbb⟩ : ∃ b, wr.heap.size = b := ⟨_, rfl⟩
        rw [hbb] at hf3 ⊢
        have H3 := Lib.hid (And.intro hf3 (And.intro (HL.out.1.below hb3) (And.intro hb3.size hbb)))
        clear hf3 hb3 hbb hwi hwi2 hwi3 hx
        gi_wp2
        have HF := Lib.hid (show segS t k i = ofS k i1 0 [] by unfold segS; rw [HLT.out.2, if_neg HX.out, HI.out])
        have HB0 := Lib.hid (show ((List.range i).flatMap (segS t k)).length + (ofS k i1 0 []).length ≤ 4000 by
          have h1 := pre_succ (segS t k) i
          rw [HF.out] at h1
          have h2 : ((List.range (i + 1)).flatMap (segS t k)).length ≤ (setsS t k).length := by
            unfold setsS
            rw [HL.out.1.tb.2.1]
            have e : List.range nt = List.range (i + 1) ++ (List.range (nt - (i + 1))).map (i + 1 + ·) := by
              rw [← List.range_add, show i + 1 + (nt - (i + 1)) = nt from by have := HLT.out.1; omega]
            rw [e, List.flatMap_append, List.length_append]
            omega
          have := HP.out.2.2.2.1
          omega)
        refine range_stU rfl (by decide) (gf := 42) (lb := #[.pointer (some ⟨b + 1 + 1, 0, none⟩), .pointer (some ⟨b + 1 + 1 + 1, 0, none⟩), .pointer (some ⟨b + 1, 0, none⟩), .pointer (some ⟨b, 0, none⟩)]) rfl trivial (enters_of Tryz.func42 (by kernel_rfl) rfl)
          (fun i' V' W' => ∃ v' hs', (∀ x, V' x ↔ StU b4 (b4 + 1) (b4 + 1 + 1) v' x) ∧ StL w (some ⟨tb, toff, none⟩) nt b4 (b4 + 1) (b4 + 1 + 1) t ((List.range i).flatMap (segS t k) ++ (ofS k i1 0 []).take i') v' hs' Ds W')
          (OkS (ofS k i1 0 [])) (ofS k i1 0 []).length (fun _ _ _ => False) ?hps ?hIU ?hI0 ?hIx0 (U0 := StU b4 (b4 + 1) (b4 + 1 + 1) v) (OfV none (b + 1 + 1) (b + 1 + 1 + 1) (b + 1) b) ?hV ?h0 ?hseq
          (fun i' V' x' a' W' => ∃ A3 c3 ls, x' = #[.slice A3 (List.length ls) c3] ∧ (ofS k i1 0 [])[i']? = some ls ∧ ls.length ≤ c3 ∧ Rd W' A3 ls.length (wts ls) ∧ (∀ a, A3 = some a → ¬ V' a.block) ∧ a' = { tmps := List.toArray (.slice (some ⟨tb, toff, none⟩) nt nc :: .int .i64 (k : Nat) :: undef :: undef :: .pointer (some ⟨b4, 0, none⟩) :: .pointer (some ⟨b4 + 1, 0, none⟩) :: .pointer (some ⟨b4 + 1 + 1, 0, none⟩) :: .int .i64 (i : Nat) :: .int .i64 (x : Nat) :: .slice A3 ls.length c3 :: .slice (some ⟨tb, toff, none⟩) nt nc :: .int .i64 (k : Nat) :: .int .i64 0 :: .bool false :: .slice (some ⟨tb, toff, none⟩) nt nc :: .int .i64 (nt : Nat) :: .int .i64 (i : Nat) :: .bool true :: .int .i64 (i : Nat) :: .pointer (some ⟨tb, toff + i, none⟩) :: .int .i64 (x : Nat) :: .int .i64 (x : Nat) :: .bool false :: .int .i64 (k : Nat) :: .int .i64 (i : Nat) :: .int .i64 (i1 : Nat) :: .func (.func 42) #[] #[.pointer (some ⟨b + 1 + 1, 0, none⟩), .pointer (some ⟨b + 1 + 1 + 1, 0, none⟩), .pointer (some ⟨b + 1, 0, none⟩), .pointer (some ⟨b, 0, none⟩)] :: .slice A3 ls.length c3 :: u28 :: u29 :: u30 :: u31 :: u32 :: u33 :: u34 :: u35 :: u36 :: []), defers := [] }) ?hAx ?hassign ?hbody ?hdone ?hstop
        case hps =>
          rintro i' V' x' W' ⟨A3, c3, ls, rfl, _⟩
          rfl
        case hIU =>
          rintro i' V' W' ⟨v', hs', hVU, hSL⟩ y hy
          exact hSL.ult y ((hVU y).1 hy)
        case hI0 =>
          rintro i' V' W2 W3 ⟨v', hs', hVU, hSL⟩ hk
          exact ⟨v', hs', hVU, hSL.kq hk H3.out.2.1.l.size H3.out.2.1.c.lt⟩
        case hIx0 => exact fun _ _ _ _ h _ => h.elim
        case hV =>
          intro y hy
          refine ⟨H3.out.1.lt hy, ?_⟩
          have hyr : b ≤ y := by
            rcases hy with e | e | e | e | ⟨a, ha, e⟩
            · omega
            · omega
            · omega
            · omega
            · cases ha
          intro e
          have := HL.out.1.ult y e
          have := H3.out.2.2.2
          omega
        case h0 => exact ⟨v, hs, fun y => Iff.rfl, by rw [List.take_zero, List.append_nil]; exact H3.out.2.1⟩
        case hseq => exact of_iter i1 (by decide) H3.out.1 (by have := HI.out; omega) (by have := HI.out; omega) HP.out.2.1 (by decide)
        case hAx =>
          rintro i' V' x' a' W2 W3 ⟨A3, c3, ls, h1, h2, h3, h4, h5, h6⟩ hk
          exact ⟨A3, c3, ls, h1, h2, h3, hk.rd h4 (fun a _ e => e), h5, h6⟩
        case hassign =>
          rintro l2 i' x' V' W2 K' hI' ⟨A3, c3, ls, rfl, h2, h3, h4, h5⟩ hK'
          have HK := Lib.hid hK'
          have HO := Lib.hid (And.intro h2 (And.intro h3 (And.intro h4 h5)))
          clear hK' h2 h3 h4 h5 hI'
          gi_wp2
          exact HK.out _ _ (Kq.refl _ _) ⟨A3, c3, ls, rfl, HO.out.1, HO.out.2.1, HO.out.2.2.1, HO.out.2.2.2, rfl⟩
        case hbody =>
          rintro l2 i' x' a' V' W2 hl2 hVl hiN ⟨v', hs', hVU, hSL⟩ ⟨A3, c3, ls, rfl, h2, h3, h4, h5, rfl⟩
          have hlen : hs'.length ≤ 4000 := by
            rw [hSL.ll.len, List.length_append, List.length_take]
            have := HB0.out
            omega
          obtain ⟨Av, cv, hv, hnc, _⟩ := hSL.o.form
          subst hv
          have c6 := hSL.k6.cell 0
          simp at c6
          have hn4 : ((hs'.length : Int) == 4096) = false := by simp; omega
          have hne : ¬ ((hs'.length : Int) = 4096) := by omega
          have hls : 0 < ls.length := by
            rw [ofS_len k i1 0 [] ls (List.mem_of_getElem? h2)]
            have := HI.out
            omega
          obtain ⟨v6, w6, hrun, hO6, hC6, hat6⟩ := run_append_h (s := W2.heap.size) (c1 := 1) (W := W2.alloc (.cells #[.slice A3 ls.length c3] 22)) (hd := ⟨A3, ls.length, c3⟩) (hSL.o.kx (T := Nq) ((Kq.of_below 0 (bl_allocd (Below.refl _ _) _)).x (fun _ e => e)) (fun _ _ e => e)) (by omega) (by have := hSL.k6.lt; rw [World.size_alloc]; omega) (Bk.newA W2 22 #[.slice A3 ls.length c3])
          obtain ⟨A6, cc6, hv6, _, _⟩ := hO6.form
          obtain ⟨n6, hn6⟩ : ∃ n6, (hs' ++ [(⟨A3, ls.length, c3⟩ : Hd)]).length = n6 := ⟨_, rfl⟩
          rw [hn6] at hv6
          subst hv6
          clear hn6
          have k66 : Bk w6 (b4 + 1 + 1) 27 [.slice Av hs'.length cv] := hC6.bk (hSL.k6.alloc _) (fun e => by have := (hSL.o.blk e).1; omega)
          obtain ⟨s6, f6, _⟩ := cells1 k66
          have happ := hSL.app hO6 hC6 hat6 rfl hls h3 h4 (fun a ha e => h5 a ha ((hVU _).2 e))
          have HAP := Lib.hid (And.intro happ (And.intro hVU (And.intro h2 hiN)))
          clear hl2 hVl hSL hVU h2 h3 h4 h5 hnc hO6 hC6 hat6 happ hls hiN hlen k66
          gi_wp2_with (gi_at_builtin; refine wpListIn_append_run rfl (.tmp 31) (.tmp 33) _ rfl rfl rfl hrun ?_)
          obtain ⟨⟨a1, a2, a3⟩, hVU, h2, hiN⟩ := HAP.out
          refine ⟨StU b4 (b4 + 1) (b4 + 1 + 1) (.slice A6 n6 cc6), fun y e => (a2 y e).imp (fun e => (hVU y).2 e) id, a3.to (fun y e => (hVU y).2 e), .slice A6 n6 cc6, hs' ++ [⟨A3, ls.length, c3⟩], fun y => Iff.rfl, ?_⟩
          rw [List.append_assoc] at a1
          have hti : (ofS k i1 0 []).take i' ++ [ls] = (ofS k i1 0 []).take (i' + 1) := by
            rw [List.take_add_one, h2]
            rfl
          rw [hti] at a1
          exact a1
        case hdone =>
          rintro D V' W2 hD hVD ⟨v', hs', hVU, hSL⟩ hKD
          have HB := Lib.hid (And.intro hVU (And.intro hSL (And.intro hKD (And.intro hD hVD))))
          have hwi : IntKind.i64.wrap ((i : Int) + 1) = (i1 : Int) := by rw [IntKind.wrap_i64]; have := HI.out; omega
          have hwi2 : (i : Int) + 1 = (i1 : Int) := by have := HI.out; omega
          clear hVU hSL hKD hD hVD
          gi_wp2
          obtain ⟨hVU, hSL, hKD, hD, hVD⟩ := HB.out
          have hDn : D ∉ Ds := fun e => by have := H3.out.2.1.c.lt D e; omega
          refine ⟨⟨i1, v', hs', D :: Ds, _, _, _, _, _, _, _, _, _, _, _, _, _, _, _, _, _, _, _, _, _, _, _, ⟨by have := HI.out; have := HLT.out.1; omega, ?_⟩, rfl⟩, by simp [intOf]; have := HI.out; omega⟩
          rw [← HI.out, List.range_succ, List.flatMap_append]
          simp only [List.flatMap_cons, List.flatMap_nil, HF.out, List.append_nil]
          rw [List.take_length] at hSL
          refine ⟨hSL.k4, hSL.k5, hSL.k6, hSL.o, hSL.ll, hSL.tb, hSL.l, hSL.dj, hSL.b, hSL.c.cons hKD hDn, fun y e => ?_⟩
          rcases List.mem_cons.1 e with e | e
          · subst e
            have := H3.out.2.1.l.size
            omega
          · exact hSL.d y e
        case hstop => exact fun _ _ _ _ _ h _ => h.elim
    · have hin : i = nt := by omega
      subst hin
      obtain ⟨Av, cv, hv, hnc, hrd⟩ := hL.o.form
      subst hv
      have k6 := hL.k6.cell 0
      have k4 := cells1 hL.k4
      have k5 := cells1 hL.k5
      simp at k6
      have HV := Lib.hid (And.intro hnc hrd)
      have hirr : ¬ ((i : Int) < (i : Int)) := by omega
      clear hL hi hlt hnc hrd
      gi_wp2
      have hL := HL.out.1
      have hb := hL.b
      have hcc : Chg (fun k => k = b4 ∨ k = b4 + 1) wr ((wr.setCell ⟨b4, 0, none⟩ (.slice Av hs.length cv)).setCell ⟨b4 + 1, 0, none⟩ (.int .i64 0)) := ((chg_set1 wr b4 (.slice Av hs.length cv)).mono (T := fun k => k = b4 ∨ k = b4 + 1) (fun k _ e => .inl e)).trans (chg_set1 _ (b4 + 1) (.int .i64 0)) (fun k _ e => .inr e)
      have hkx : Kx wr.heap.size (fun k => k = b4 ∨ k = b4 + 1) wr _ := (Kq.of_chg wr.heap.size hcc (fun k c t z e ho => by
        rcases e with e | e
        · exact num_of_bk hL.k4 (fun i x => by rcases i with _ | i <;> simp) k c t z e ho
        · exact num_of_bk hL.k5 (no_u64_int _) k c t z e ho)).x (fun _ e => e)
      have kk4 := (chg_set1 (wr.setCell ⟨b4, 0, none⟩ (.slice Av hs.length cv)) (b4 + 1) (.int .i64 0)).bk (hL.k4.set_ 0 (.slice Av hs.length cv)) (by omega)
      have kk5 := Bk.set_ ((chg_set1 wr b4 (.slice Av hs.length cv)).bk hL.k5 (by omega)) 0 (.int .i64 0)
      have hU : ∀ x, (x = b4 ∨ x = b4 + 1) → StU b4 (b4 + 1) (b4 + 1 + 1) (.slice Av hs.length cv) x := fun x e => e.elim .inl (fun e => .inr (.inl e))
      have hlk := hL.ll.kx hkx (fun x hx e => hL.dj x hx (hU x e))
      have hrk := hkx.rd HV.out.2 (fun a ha e => by
        have h9 := (hL.o.blk (g := a.block) (by rw [ha]; rfl)).1
        omega)
      have hbl := hcc.below hL.l (fun k _ e => by omega) hL.l.size
      refine leaves_cds (B := w.heap.size) Ds _ (hL.c.kx hkx (fun D hD => ⟨hL.c.lt D hD, fun e => hL.ne D hD (hU D e)⟩)) hL.d (fun w' hk => ⟨_, ret_sets rfl rfl rfl (hk.bk kk4 id) (hk.bk kk5 id), Av, cv, hs, rfl, HV.out.1, hk.rd hrk (fun a _ e => e), ?_, hk.below hbl (Nat.le_refl _) (Nat.le_refl _) (fun k e => e.elim)⟩)
      have := hlk.kq hk
      unfold setsS
      rw [hL.tb.2.1]
      exact this
end Go.Proofs.YtlhipaffhehcnaaGreat
