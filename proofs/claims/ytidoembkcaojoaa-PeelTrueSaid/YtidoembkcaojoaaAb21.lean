/- Chapter 21: a packet is added: its steps in memory. -/
import Derived.Test.YtidoembkcaojoaaAa21
namespace Go.Proofs.Ytidoembkcaojoaa
open Go.RowKit Go.Maps
set_option linter.unusedVariables false
theorem addKey_le (xs : List Lit) : ∀ acc : List Lit, (xs.foldl Maps.addKey acc).length ≤ acc.length + xs.length := by
  induction xs with
  | nil => intro acc; simp
  | cons x xs ih =>
    intro acc
    have h1 := ih (Maps.addKey acc x)
    have h2 : (Maps.addKey acc x).length ≤ acc.length + 1 := by
      unfold Maps.addKey
      split <;> simp
    rw [List.foldl_cons, List.length_cons]
    omega
theorem map_small {w : World} {b n : Nat} {ids : List Int} (h : w.ownsMap Try.prog 3 unitElem b n (idD ids)) : w.ownsMap Try.prog 3 unitElem b ids.length (idD ids) := by
  have hs : Maps.size (idD ids) ≤ ids.length := by
    unfold idD
    rw [Maps.size_setOf _ _ (fun x hx => by
      obtain ⟨i, _, rfl⟩ := List.mem_map.1 hx
      trivial)]
    have := addKey_le (ids.map (Lit.int .i64)) []
    simpa using this
  obtain ⟨es, clock, hb, F, _, hD⟩ := h
  refine ⟨es, clock, hb, F, ?_, hD⟩
  have e1 : Maps.size (idD ids) = es.size := by rw [hD]; simp [Maps.size, Go.length_sorted]
  omega
section
variable {w w' w0 w1 w2 w3 wx : World} {base D : Nat} {m m1 m2 m3 : DM} {c c1 c2 : DC} {F F1 F2 F3 : Nat → Prop}
theorem came_step (h : Dp w base D m c F) (hz : c.ids.length < 1000000) {id : Int} (hm : w'.ownsMap Try.prog 3 unitElem m.M (c.ids.length + 1) ((idD c.ids).put (Lit.int .i64 id) (.agg []))) (hg : w.grownBy w' (some m.M)) :
    ∃ m1, Dp w' base D m1 { c with ids := c.ids ++ [id] } F ∧ Turn w m F w' m1 F := by
  have h0 : Dp w base D { m with mn := c.ids.length } c F := { h with mp := map_small h.mp, mq := by show c.ids.length ≤ _; omega }
  rw [← idD_snoc] at hm
  obtain ⟨h1, h2⟩ := h0.came (id := id) hm hg hz
  exact ⟨_, h1, Turn.same (m1 := m) h2 (fun b hb => .inl hb) rfl⟩
theorem not_all {b : Nat} (h : ¬ m.all F b) : ¬ F b ∧ m.tag b = none := ⟨fun e => h (.inl e), Classical.byContradiction fun e => h (.inr e)⟩
/-- The graph is handed the set. -/
theorem add_step {d : DS} {A : Option Addr} {n cA : Nat} {set : List Int} (h : Dp w base D m (d.dc []) F) (hd : d.ok) (hs : setB d.k set = true) (hf : ¬ d.most ≤ d.sets.length) (hN : d.sets.length < 1000) (hr : Rd w A n (nums set)) (hn : n ≤ 1000000) (hA : 0 < n → ∀ a, A = some a → ¬ m.all F a.block) :
    Calls Try.prog 41 #[.pointer (some ⟨m.G, 0, none⟩), .slice A n cA] w fun e w' => e = .returned (.tuple #[.int .i64 (d.sets.length : Nat), .int .i64 ((rst d.kn set).length : Nat), .int .i64 0]) ∧
      ∃ m1, m1.M = m.M ∧ Dp w' base D m1 { d.dc [] with sets := d.sets ++ [set] } F ∧ Turn w m F w' m1 F ∧ Rd w' A n (nums set) ∧ w.heap.size ≤ w'.heap.size ∧ Chg (fun b => m.tag b ≠ none) w w' := by
  refine (add_gr h.gr hr hn (fun h0 a ha => (not_all (hA h0 a ha)).2) (by show d.sets.length < _; omega)).mono ?_
  rintro e w' ⟨rfl, tag', L', hg, hc, ht⟩
  have e1 : setB d.kn.length set ≠ false := by rw [hd.kl, hs]; simp
  have e2 : ¬ (d.sets.length : Int) = d.most := by omega
  have hR : adR d.kn d.sets d.most set = ((d.sets.length : Int), ((rst d.kn set).length : Int), 0) := by unfold adR; rw [if_neg e1, if_neg e2]
  have hS : adS d.kn d.sets d.most set = d.sets ++ [set] := by unfold adS; rw [if_neg e1, if_neg e2]
  refine ⟨?_, ?_⟩
  · show Ending.returned (.tuple #[.int .i64 (adR d.kn d.sets d.most set).1, .int .i64 (adR d.kn d.sets d.most set).2.1, .int .i64 (adR d.kn d.sets d.most set).2.2]) = _
    rw [hR]
  · have hg' : Gr w' base m.G tag' L' d.kn (d.sets ++ [set]) d.most := by rw [← hS]; exact hg
    obtain ⟨h1, h2⟩ := h.graph hg' hd.kl hc ht
    refine ⟨{ m with tag := tag', L := L' }, rfl, h1, Turn.of h2 (fun b hb => .inl hb) (fun b hb => ?_), hc.rd0 hr fun a ha h0 e => e (not_all (hA h0 a ha)).2, hc.size, hc⟩
    rcases Nat.lt_or_ge b w.heap.size with hl | hl
    · left; rw [← ht b hl]; exact hb
    · exact .inr hl
/-- While the rest is reckoned. -/
def AQ (w : World) (base D : Nat) (m : DM) (F : Nat → Prop) (A : Option Addr) (n : Nat) (set : List Int) (A7 : Option Addr) (c7 : Nat) (c : DC) (wx : World) (u : List UInt8) : Prop :=
  ∃ m1 F1, Dp wx base D m1 c F1 ∧ Turn w m F wx m1 F1 ∧ wx.ownsRow w.heap.size 5 1 (.slice A7 c.s c7) c.s (bys u) ∧ (∀ a, A7 = some a → ¬ m1.all F1 a.block) ∧ Rd wx A n (nums set) ∧ (0 < n → ∀ a, A = some a → a.block < w.heap.size)
theorem AQ.see {A : Option Addr} {n : Nat} {set : List Int} {A7 : Option Addr} {c7 : Nat} {u : List UInt8} (h : AQ w base D m F A n set A7 c7 c wx u) (hn : set.length = n) (hS : ∀ x ∈ set, 0 ≤ x ∧ x < c.k) (hu : u.length = c.s) (hv : ∀ i, i < c.k → knw c.sk (i : Int) = true → (c.vals.getD i []).length = c.s) {j : Nat} (hj : j < n) :
    ∃ (x SB b off : Nat) (sv : Value), gi set j = (x : Nat) ∧ x < c.k ∧ A = some ⟨b, off, none⟩ ∧ wx.cell? ⟨b, off + j, none⟩ = some (.int .i64 (x : Nat)) ∧ wx.cell? ⟨D, 4, none⟩ = some (.slice (some ⟨SB, 0, none⟩) c.k c.k) ∧ wx.cell? ⟨SB, x, none⟩ = some sv ∧
      (knw c.sk (x : Int) = false → sv = .slice none 0 0) ∧
      (knw c.sk (x : Int) = true → ∃ gs cs, sv = .slice (some ⟨gs, 0, none⟩) c.s cs ∧ Calls Try.prog 43 #[.slice A7 c.s c7, .slice (some ⟨gs, 0, none⟩) c.s cs] wx fun e w' => e = .returned (.int .i64 0) ∧ AQ w base D m F A n set A7 c7 c w' (xorL u (xv c.vals x))) := by
  obtain ⟨m1, F1, h1, h2, h3, h4, h5, h6⟩ := h
  have hjl : j < set.length := by omega
  have hmem : gi set j ∈ set := by rw [gi_get hjl]; exact List.getElem_mem hjl
  obtain ⟨hx0, hxk⟩ := hS _ hmem
  obtain ⟨x, hx⟩ : ∃ x : Nat, gi set j = x := ⟨(gi set j).toNat, by omega⟩
  have hxk' : x < c.k := by omega
  obtain ⟨b, off, rfl, hbl, hcc⟩ := h5.form (by omega)
  have cx := hcc j _ (nums_gi hjl)
  rw [hx] at cx
  refine ⟨x, m1.SB, b, off, syv c m1 x, hx, hxk', rfl, cx, h1.c4, h1.symc hxk', fun hk => Dp.symn hk, fun hk => ?_⟩
  obtain ⟨gs, cs, e1, e2, e3, e4, e5⟩ := h1.symk hxk' hk
  refine ⟨gs, cs, e2, ?_⟩
  have hs1 := h1.s1
  obtain ⟨g, cur, hA7, hg0, hg1, _, hc7, _⟩ := own_formN h3 (by omega)
  obtain ⟨g', hm, _, _, hup⟩ := Mut.of_own (A := A7) (c := c7) h3
  obtain ⟨hA, _⟩ := hm.2 (by omega)
  rw [hA7] at hA
  injection hA with hA
  injection hA with hA
  subst hA
  have hgn : ¬ m1.all F1 g := h4 _ hA7
  have hsg : gs ≠ g := fun e => hgn (.inl (by rw [← e]; exact h1.fy x hxk' hk ⟨gs, 0, none⟩ (by rw [e1])))
  refine (into_any hm e5 (fun _ a ha => by injection ha with ha; rw [← ha]; exact hsg) (by omega) hc7 e3).mono ?_
  rintro e w' ⟨rfl, hup'⟩
  have hcg := upd_chg hup'
  refine ⟨rfl, m1, F1, h1.other hcg fun b hb e => hgn (e ▸ hb), ⟨h2.1.trans hcg fun k hk e => by omega, h2.2⟩, ?_, h4, hcg.rd0 h5 fun a ha h0 e => by have := h6 h0 a ha; omega, h6⟩
  exact hup w' (bys (xorL u (xv c.vals (x : Int)))) (by
    rw [bys_length, xorL_length _ _ (by
      rw [hu]
      show c.s = (c.vals.getD ((x : Int)).toNat []).length
      rw [Int.toNat_natCast, hv x hxk' hk]), hu]) (by
    unfold xv
    rw [Int.toNat_natCast]; exact hup')
theorem AQ.below {A : Option Addr} {n : Nat} {set : List Int} {A7 : Option Addr} {c7 : Nat} {u : List UInt8} (h : AQ w base D m F A n set A7 c7 c wx u) (hb : Below wx.heap.size wx w') : AQ w base D m F A n set A7 c7 c w' u := by
  obtain ⟨m1, F1, h1, h2, h3, h4, h5, h6⟩ := h
  exact ⟨m1, F1, h1.below hb, h2.trans (Turn.below hb), own_below h3 hb, h4, h5.below hb, h6⟩
theorem Turn.trans' (h : Turn w1 m1 F1 w2 m2 F2) (hc : Chg F2 w2 w3) {m4 : DM} {F4 : Nat → Prop} (hF : ∀ b, F4 b → F2 b ∨ w1.heap.size ≤ b) (ht : m4.tag = m2.tag) : Turn w1 m1 F1 w3 m4 F4 := by
  refine ⟨h.1.trans hc fun k hk e => (h.2 k (.inl e)).elim id fun e2 => by omega, fun b hb => ?_⟩
  rcases hb with hb | hb
  · exact (hF b hb).elim (fun e => h.2 b (.inl e)) .inr
  · exact h.2 b (.inr (by rw [← ht]; exact hb))
/-- The rest is appended. -/
theorem AQ.lay {A : Option Addr} {n : Nat} {set : List Int} {A7 : Option Addr} {c7 : Nat} {u : List UInt8} (h : AQ w base D m F A n set A7 c7 c wx u) (hbs : base ≤ w.heap.size) (o : Obj) :
    ∃ (LA : Option Addr) (lc : Nat) (lf : List Value), lf.length = c.lefts.length ∧ wx.cell? ⟨D, 3, none⟩ = some (.slice LA c.lefts.length lc) ∧ (wx.alloc o).ownsRow base 22 1 (.slice LA c.lefts.length lc) c.lefts.length lf ∧ base ≤ (wx.alloc o).heap.size ∧
      ∀ v1 w3, w3.ownsRow base 22 1 v1 (c.lefts.length + 1) (lf ++ [.slice A7 c.s c7]) → (wx.alloc o).grownBy w3 (Value.slice LA c.lefts.length lc).ownBlock → (v1.ownBlock = (Value.slice LA c.lefts.length lc).ownBlock ∨ v1.ownBlock = some (wx.alloc o).heap.size) →
        w3.cell? ⟨D, 3, none⟩ = some (.slice LA c.lefts.length lc) ∧ w3.frozen? ⟨D, 3, none⟩ = false ∧
        ∃ m' F', Dp (w3.setCell ⟨D, 3, none⟩ v1) base D m' { c with lefts := c.lefts ++ [u] } F' ∧ Turn w m F (w3.setCell ⟨D, 3, none⟩ v1) m' F' := by
  have hb0 : Below wx.heap.size wx (wx.alloc o) := (Below.refl _ _).alloc (Nat.le_refl _) _
  obtain ⟨m1, F1, g1, g2, g3, g4, g5, g6⟩ := h
  have h1 := g1.below hb0
  have h2 := g2.trans (Turn.below (m := m1) (F := F1) hb0)
  have h3 := own_below g3 hb0
  refine ⟨m1.LA, m1.lc, m1.lf.map (pbv c.s), by rw [List.length_map]; exact h1.ll, g1.c3, h1.lw, h1.bs, fun v1 w3 hr hg hat => ?_⟩
  obtain ⟨A1, c1, rfl⟩ := own_sl hr
  have hc : Chg (fun b => b ∈ blk m1.LA) (wx.alloc o) w3 := Chg.of_grown hg fun k hk => by
    cases hA : m1.LA with
    | none => rw [hA] at hk; cases hk
    | some a =>
      rw [hA] at hk
      injection hk with hk
      exact mem_blk.2 ⟨a, rfl, hk⟩
  have hDL : ¬ D ∈ blk m1.LA := fun e => by
    obtain ⟨a, ha, e⟩ := mem_blk.1 e
    exact (h1.tL ha).ne h1.tD (by decide) e
  have hE := hc.bk h1.e hDL
  obtain ⟨h7, h8⟩ := h1.lay (A := A7) (cc := c7) (u := u) (own_mono h3 hbs) (fun a ha => not_all (g4 a ha)) hr hc (fun a ha => by
    rcases hat with e | e
    · have e2 : (Value.slice m1.LA c.lefts.length m1.lc).ownBlock = some a.block := by rw [← e, ha]; rfl
      cases hA : m1.LA with
      | none => rw [hA] at e2; cases e2
      | some a' =>
        rw [hA] at e2
        injection e2 with e2
        exact .inl (mem_blk.2 ⟨a', rfl, e2⟩)
    · have e2 : some a.block = some (wx.alloc o).heap.size := by rw [← e, ha]; rfl
      injection e2 with e2
      exact .inr (by omega))
  · refine ⟨hE.cell 3, hE.frozen 3, _, _, h7, h2.trans' h8 ?_ rfl⟩
    intro b hb
    rcases hb with hb | ⟨a, ha, rfl⟩
    · rcases hb with hb | hb
      · exact .inl hb
      · exact .inr (by have := h2.1.size; omega)
    · exact .inr (own_lt h3 a ha).1
end
end Go.Proofs.Ytidoembkcaojoaa
