/- Chapter 21: a packet is added: memory; what is refused. Chapter 21: a packet is added: its steps in memory. Chapter 21: a packet is added: its walk. -/
import Derived.Test.YtlhipaffhehcnaaGreatT14
namespace Go.Proofs.YtlhipaffhehcnaaGreat
open Go.RowKit Go.Maps
set_option linter.unusedVariables false
theorem int_law : Keyed Tryz.prog 3 := int_keyed Tryz.underlying3
theorem zero_unit (w : World) : (zeroValue 132).run Tryz.prog w = .ok (.agg #[]) w := by kernel_rfl
theorem has_idD (ids : List Int) (id : Int) : Maps.has (idD ids) (Lit.int .i64 id) = decide (id ∈ ids) := by
  unfold idD
  rw [has_setOf _ _ _ (fun x hx => by
    obtain ⟨i, _, rfl⟩ := List.mem_map.1 hx
    trivial)]
  rw [Bool.eq_iff_iff, List.any_eq_true, decide_eq_true_eq]
  constructor
  · rintro ⟨x, hx, hk⟩
    obtain ⟨i, hi, rfl⟩ := List.mem_map.1 hx
    have : i = id := by simpa [Lit.sameKey] using hk
    rw [← this]; exact hi
  · intro h
    exact ⟨_, List.mem_map.2 ⟨id, h, rfl⟩, by simp [Lit.sameKey]⟩
theorem idD_snoc (ids : List Int) (id : Int) : idD (ids ++ [id]) = (idD ids).put (Lit.int .i64 id) (.agg []) := by
  unfold idD
  rw [List.map_append]
  exact setOf_snoc _ _ _
theorem RipX.rest {d : DS} (h : Stable d) : RipX d [] [] := ⟨fun e he => absurd he (by simp), fun p hp _ x hx => absurd hx (h p hp x)⟩
/-- What Add is handed. -/
structure AArgs (w : World) (base D : Nat) (m : DM) (F : Nat → Prop) (d : DS) (A : Option Addr) (n : Nat) (set : List Int) (B : Option Addr) (nb : Nat) (pay : List UInt8) (id : Int) : Prop where
  dp : Dp w base D m (d.dc []) F
  ok : d.ok
  rs : Rd w A n (nums set)
  rp : Rd w B nb (bys pay)
  nn : n ≤ 1000000
  nb : nb ≤ 140737488351232
  ds : d.sets.length < 1000
  wf : (Lit.int .i64 id).wf = true
set_option maxRecDepth 100000 in
set_option maxHeartbeats 3200000 in
theorem padd_bad {w : World} {base D : Nat} {m : DM} {F : Nat → Prop} {d : DS} {A B : Option Addr} {n nb cA cB : Nat} {set : List Int} {pay : List UInt8} {id : Int} (h : AArgs w base D m F d A n set B nb pay id) (he : d.err id set pay ≠ 0) :
    Calls Tryz.prog 37 #[.pointer (some ⟨D, 0, none⟩), .int .i64 id, .slice A n cA, .slice B nb cB] w fun e w' => e = .returned (.tuple #[.slice none 0 0, .int .i64 (d.err id set pay)]) ∧ Below w.heap.size w w' := by
  have hpl : pay.length = nb := by have := h.rp.1; simpa [bys_length] using this
  have c2 := h.dp.c2
  obtain ⟨bt, hbt⟩ : ∃ b, Maps.has (idD d.ids) (Lit.int .i64 id) = b := ⟨_, rfl⟩
  have hkey : keyOf Tryz.prog 3 (.int .i64 id) = some (Lit.int .i64 id) := keyOf_int_mk Tryz.underlying3 h.wf
  have c1 : (w.alloc (.cells #[] 132)).cell? ⟨D, 1, none⟩ = some (.int .i64 (d.s : Nat)) := (h.dp.below ((Below.refl _ _).alloc (Nat.le_refl _) _)).c1
  have H := Lib.hid (And.intro h (And.intro he (And.intro hbt hpl)))
  clear h he hbt hpl
  obtain ⟨s, hs⟩ : ∃ s, d.s = s := ⟨_, rfl⟩
  rw [hs] at c1
  have HS := Lib.hid hs
  have HB0 := Lib.hid (show Below w.heap.size w (w.alloc (.cells #[] 132)) from (Below.refl _ _).alloc (Nat.le_refl _) _)
  clear hs
  by_cases h1 : id < 0
  · have d1 : decide (id < 0) = true := decide_eq_true h1
    have HE := Lib.hid (show d.err id set pay = 3 from by unfold DS.err; rw [if_pos (.inl h1)])
    clear h1
    go_enter Tryz.func37, Tryz.ntmps37
    go_wp2_with fail
    refine (dnone_made H.out.1.dp.c0).mono ?_
    rintro e w1 ⟨rfl, rfl⟩
    go_wp2_with (at_lookup; refine wpList_lookup_own_unit _ rfl _ _ 124 rfl 3 132 int_law Tryz.underlying124 (zero_unit _) m.M m.mn (idD d.ids) rfl H.out.1.dp.mp _ (Lit.int .i64 id) rfl hkey ?_; rw [H.out.2.2.1])
    go_ret2
    exact ⟨by rw [HE.out]; rfl, HB0.out⟩
  · have d1 : decide (id < 0) = false := decide_eq_false h1
    by_cases h2 : 4294967295 < id
    · have d2 : decide (id > 4294967295) = true := decide_eq_true h2
      have d3 : decide (4294967295 < id) = true := decide_eq_true h2
      have HE := Lib.hid (show d.err id set pay = 3 from by unfold DS.err; rw [if_pos (.inr h2)])
      clear h1 h2
      go_enter Tryz.func37, Tryz.ntmps37
      go_wp2_with fail
      refine (dnone_made H.out.1.dp.c0).mono ?_
      rintro e w1 ⟨rfl, rfl⟩
      go_wp2_with (at_lookup; refine wpList_lookup_own_unit _ rfl _ _ 124 rfl 3 132 int_law Tryz.underlying124 (zero_unit _) m.M m.mn (idD d.ids) rfl H.out.1.dp.mp _ (Lit.int .i64 id) rfl hkey ?_; rw [H.out.2.2.1])
      go_ret2
      exact ⟨by rw [HE.out]; rfl, HB0.out⟩
    · have d2 : decide (id > 4294967295) = false := decide_eq_false h2
      have d3 : decide (4294967295 < id) = false := decide_eq_false h2
      have H1 := Lib.hid (show ¬ (id < 0 ∨ 4294967295 < id) from by omega)
      clear h1 h2
      go_enter Tryz.func37, Tryz.ntmps37
      go_wp2_with fail
      refine (dnone_made H.out.1.dp.c0).mono ?_
      rintro e w1 ⟨rfl, rfl⟩
      go_wp2_with (at_lookup; refine wpList_lookup_own_unit _ rfl _ _ 124 rfl 3 132 int_law Tryz.underlying124 (zero_unit _) m.M m.mn (idD d.ids) rfl H.out.1.dp.mp _ (Lit.int .i64 id) rfl hkey ?_; rw [H.out.2.2.1])
      have hset := isSet_any (cc := cA) (H.out.1.dp.below HB0.out) (H.out.1.rs.below HB0.out) H.out.1.nn (by have := H.out.1.ok.k1; show d.k ≤ _; omega)
      obtain ⟨sb, hsb⟩ : ∃ b, setB d.k set = b := ⟨_, rfl⟩
      have hset' : Calls Tryz.prog 76 #[.pointer (some ⟨D, 0, none⟩), .slice A n cA] (w.alloc (.cells #[] 132)) fun e w' => e = .returned (.bool sb) ∧ (w.alloc (.cells #[] 132)) = w' := by rw [← hsb]; exact hset
      have HT := Lib.hid (And.intro hset' hsb)
      clear hset hset' hsb
      refine HT.out.1.mono ?_
      rintro e wx ⟨rfl, rfl⟩
      cases sb
      · have HE := Lib.hid (show d.err id set pay = 2 from by unfold DS.err; rw [if_neg H1.out, if_pos (.inl HT.out.2)])
        clear HT
        go_wp2_with fail
        go_ret2
        exact ⟨by rw [HE.out]; rfl, HB0.out⟩
      · by_cases h3 : nb = s
        · subst h3
          have hb0 : (id < 0 ∨ 4294967295 < id) = False := eq_false H1.out
          have d4 : decide (nb ≠ nb) = false := decide_eq_false (by omega)
          have d5 : ((nb : Int) != (nb : Int)) = false := by simp
          have HE1 := Lib.hid (show ¬ (setB d.k set = false ∨ pay.length ≠ d.s) from by rw [HT.out.2, H.out.2.2.2, HS.out]; simp)
          cases bt
          · have HN := Lib.hid (show d.err id set pay = 9 ∧ d.most ≤ d.sets.length from by
              have he := H.out.2.1
              have hi : ¬ id ∈ d.ids := by have := H.out.2.2.1; rw [has_idD] at this; exact of_decide_eq_false this
              unfold DS.err at he ⊢
              rw [if_neg H1.out, if_neg HE1.out, if_neg hi] at he ⊢
              by_cases hf : d.most ≤ d.sets.length
              · rw [if_pos hf]; exact ⟨rfl, hf⟩
              · rw [if_neg hf] at he; exact absurd rfl he)
            have c0 := (H.out.1.dp.below HB0.out).c0
            have c6 := (H.out.1.dp.below HB0.out).c6
            obtain ⟨mo, hmo⟩ : ∃ mo, (d.dc []).most = mo := ⟨_, rfl⟩
            obtain ⟨N, hN⟩ : ∃ N, d.sets.length = N := ⟨_, rfl⟩
            rw [hmo] at c6
            have HM := Lib.hid (And.intro hmo hN)
            have hfull : mo ≤ (N : Int) := by rw [← hmo, ← hN]; exact HN.out.2
            have d6 : decide ((N : Int) ≥ mo) = true := decide_eq_true hfull
            have d7 : decide (mo ≤ (N : Int)) = true := decide_eq_true hfull
            clear hmo hN hfull HT hb0
            go_wp2_with fail
            go_quiet ((go_at_call 77; refine Calls.quiet_of_same (v := .int .i64 (N : Nat)) ((packets_gr (H.out.1.dp.below (below_dN HB0.out _)).gr).mono ?_); rintro e w' ⟨rfl, rfl⟩; exact ⟨by rw [← HM.out.2]; rfl, rfl⟩))
            go_wp2_with fail
            go_ret2
            exact ⟨by rw [HN.out.1]; rfl, below_dN HB0.out _⟩
          · have HE := Lib.hid (show d.err id set pay = 11 from by
              have hi : id ∈ d.ids := by have := H.out.2.2.1; rw [has_idD] at this; exact of_decide_eq_true this
              unfold DS.err; rw [if_neg H1.out, if_neg HE1.out, if_pos hi])
            clear HT hb0
            go_wp2_with fail
            go_ret2
            exact ⟨by rw [HE.out]; rfl, HB0.out⟩
        · have d4 : decide (nb ≠ s) = true := decide_eq_true h3
          have d5 : ((nb : Int) != (s : Int)) = true := by simp; omega
          have d6 : ((nb : Int) == (s : Int)) = false := by simp; omega
          have HE := Lib.hid (show d.err id set pay = 2 from by unfold DS.err; rw [if_neg H1.out, if_pos (.inr (by rw [H.out.2.2.2, HS.out]; exact h3))])
          clear HT h3
          go_wp2_with fail
          go_ret2
          exact ⟨by rw [HE.out]; rfl, HB0.out⟩
end Go.Proofs.YtlhipaffhehcnaaGreat
namespace Go.Proofs.YtlhipaffhehcnaaGreat
open Go.RowKit Go.Maps
set_option linter.unusedVariables false
theorem addKey_le (xs : List Lit) : ∀ acc : List Lit, (xs.foldl Maps.addKey acc).length ≤ acc.length + xs.length := by
  induction xs with
  | nil => intro acc; simp
  | cons x xs ih =>
    intro acc
    have h1 := ih (Maps.addKey acc x)
    have h2 : (Maps.addKey acc x).length ≤ acc.length + 1 := by
      unfold Maps.addKey
      split <;> simp
    rw [List.foldl_cons, List.length_cons]
    omega
theorem map_small {w : World} {b n : Nat} {ids : List Int} (h : w.ownsMap Tryz.prog 3 unitElem b n (idD ids)) : w.ownsMap Tryz.prog 3 unitElem b ids.length (idD ids) := by
  have hs : Maps.size (idD ids) ≤ ids.length := by
    unfold idD
    rw [Maps.size_setOf _ _ (fun x hx => by
      obtain ⟨i, _, rfl⟩ := List.mem_map.1 hx
      trivial)]
    have := addKey_le (ids.map (Lit.int .i64)) []
    simpa using this
  obtain ⟨es, clock, hb, F, _, hD⟩ := h
  refine ⟨es, clock, hb, F, ?_, hD⟩
  have e1 : Maps.size (idD ids) = es.size := by rw [hD]; simp [Maps.size, Go.length_sorted]
  omega
section
variable {w w' w0 w1 w2 w3 wx : World} {base D : Nat} {m m1 m2 m3 : DM} {c c1 c2 : DC} {F F1 F2 F3 : Nat → Prop}
theorem came_step (h : Dp w base D m c F) (hz : c.ids.length < 1000000) {id : Int} (hm : w'.ownsMap Tryz.prog 3 unitElem m.M (c.ids.length + 1) ((idD c.ids).put (Lit.int .i64 id) (.agg []))) (hg : w.grownBy w' (some m.M)) :
    ∃ m1, Dp w' base D m1 { c with ids := c.ids ++ [id] } F ∧ Turn w m F w' m1 F := by
  have h0 : Dp w base D { m with mn := c.ids.length } c F := { h with mp := map_small h.mp, mq := by show c.ids.length ≤ _; omega }
  rw [← idD_snoc] at hm
  obtain ⟨h1, h2⟩ := h0.came (id := id) hm hg hz
  exact ⟨_, h1, Turn.same (m1 := m) h2 (fun b hb => .inl hb) rfl⟩
theorem not_all {b : Nat} (h : ¬ m.all F b) : ¬ F b ∧ m.tag b = none := ⟨fun e => h (.inl e), Classical.byContradiction fun e => h (.inr e)⟩
/-- The graph is handed the set. -/
theorem add_step {d : DS} {A : Option Addr} {n cA : Nat} {set : List Int} (h : Dp w base D m (d.dc []) F) (hd : d.ok) (hs : setB d.k set = true) (hf : ¬ d.most ≤ d.sets.length) (hN : d.sets.length < 1000) (hr : Rd w A n (nums set)) (hn : n ≤ 1000000) (hA : 0 < n → ∀ a, A = some a → ¬ m.all F a.block) :
    Calls Tryz.prog 78 #[.pointer (some ⟨m.G, 0, none⟩), .slice A n cA] w fun e w' => e = .returned (.tuple #[.int .i64 (d.sets.length : Nat), .int .i64 ((rst d.kn set).length : Nat), .int .i64 0]) ∧
      ∃ m1, m1.M = m.M ∧ Dp w' base D m1 { d.dc [] with sets := d.sets ++ [set] } F ∧ Turn w m F w' m1 F ∧ Rd w' A n (nums set) ∧ w.heap.size ≤ w'.heap.size ∧ Chg (fun b => m.tag b ≠ none) w w' := by
  refine (add_gr h.gr hr hn (fun h0 a ha => (not_all (hA h0 a ha)).2) (by show d.sets.length < _; omega)).mono ?_
  rintro e w' ⟨rfl, tag', L', hg, hc, ht⟩
  have e1 : setB d.kn.length set ≠ false := by rw [hd.kl, hs]; simp
  have e2 : ¬ (d.sets.length : Int) = d.most := by omega
  have hR : adR d.kn d.sets d.most set = ((d.sets.length : Int), ((rst d.kn set).length : Int), 0) := by unfold adR; rw [if_neg e1, if_neg e2]
  have hS : adS d.kn d.sets d.most set = d.sets ++ [set] := by unfold adS; rw [if_neg e1, if_neg e2]
  refine ⟨?_, ?_⟩
  · show Ending.returned (.tuple #[.int .i64 (adR d.kn d.sets d.most set).1, .int .i64 (adR d.kn d.sets d.most set).2.1, .int .i64 (adR d.kn d.sets d.most set).2.2]) = _
    rw [hR]
  · have hg' : Gr w' base m.G tag' L' d.kn (d.sets ++ [set]) d.most := by rw [← hS]; exact hg
    obtain ⟨h1, h2⟩ := h.graph hg' hd.kl hc ht
    refine ⟨{ m with tag := tag', L := L' }, rfl, h1, Turn.of h2 (fun b hb => .inl hb) (fun b hb => ?_), hc.rd0 hr fun a ha h0 e => e (not_all (hA h0 a ha)).2, hc.size, hc⟩
    rcases Nat.lt_or_ge b w.heap.size with hl | hl
    · left; rw [← ht b hl]; exact hb
    · exact .inr hl
/-- While the rest is reckoned. -/
def AQ (w : World) (base D : Nat) (m : DM) (F : Nat → Prop) (A : Option Addr) (n : Nat) (set : List Int) (A7 : Option Addr) (c7 : Nat) (c : DC) (wx : World) (u : List UInt8) : Prop :=
  ∃ m1 F1, Dp wx base D m1 c F1 ∧ Turn w m F wx m1 F1 ∧ wx.ownsRow w.heap.size 5 1 (.slice A7 c.s c7) c.s (bys u) ∧ (∀ a, A7 = some a → ¬ m1.all F1 a.block) ∧ Rd wx A n (nums set) ∧ (0 < n → ∀ a, A = some a → a.block < w.heap.size)
theorem AQ.see {A : Option Addr} {n : Nat} {set : List Int} {A7 : Option Addr} {c7 : Nat} {u : List UInt8} (h : AQ w base D m F A n set A7 c7 c wx u) (hn : set.length = n) (hS : ∀ x ∈ set, 0 ≤ x ∧ x < c.k) (hu : u.length = c.s) (hv : ∀ i, i < c.k → knw c.sk (i : Int) = true → (c.vals.getD i []).length = c.s) {j : Nat} (hj : j < n) :
    ∃ (x SB b off : Nat) (sv : Value), gi set j = (x : Nat) ∧ x < c.k ∧ A = some ⟨b, off, none⟩ ∧ wx.cell? ⟨b, off + j, none⟩ = some (.int .i64 (x : Nat)) ∧ wx.cell? ⟨D, 4, none⟩ = some (.slice (some ⟨SB, 0, none⟩) c.k c.k) ∧ wx.cell? ⟨SB, x, none⟩ = some sv ∧
      (knw c.sk (x : Int) = false → sv = .slice none 0 0) ∧
      (knw c.sk (x : Int) = true → ∃ gs cs, sv = .slice (some ⟨gs, 0, none⟩) c.s cs ∧ Calls Tryz.prog 74 #[.slice A7 c.s c7, .slice (some ⟨gs, 0, none⟩) c.s cs] wx fun e w' => e = .returned (.int .i64 0) ∧ AQ w base D m F A n set A7 c7 c w' (xorL u (xv c.vals x))) := by
  obtain ⟨m1, F1, h1, h2, h3, h4, h5, h6⟩ := h
  have hjl : j < set.length := by omega
  have hmem : gi set j ∈ set := by rw [gi_get hjl]; exact List.getElem_mem hjl
  obtain ⟨hx0, hxk⟩ := hS _ hmem
  obtain ⟨x, hx⟩ : ∃ x : Nat, gi set j = x := ⟨(gi set j).toNat, by omega⟩
  have hxk' : x < c.k := by omega
  obtain ⟨b, off, rfl, hbl, hcc⟩ := h5.form (by omega)
  have cx := hcc j _ (nums_gi hjl)
  rw [hx] at cx
  refine ⟨x, m1.SB, b, off, syv c m1 x, hx, hxk', rfl, cx, h1.c4, h1.symc hxk', fun hk => Dp.symn hk, fun hk => ?_⟩
  obtain ⟨gs, cs, e1, e2, e3, e4, e5⟩ := h1.symk hxk' hk
  refine ⟨gs, cs, e2, ?_⟩
  have hs1 := h1.s1
  obtain ⟨g, cur, hA7, hg0, hg1, _, hc7, _⟩ := own_formN h3 (by omega)
  obtain ⟨g', hm, _, _, hup⟩ := Mut.of_own (A := A7) (c := c7) h3
  obtain ⟨hA, _⟩ := hm.2 (by omega)
  rw [hA7] at hA
  injection hA with hA
  injection hA with hA
  subst hA
  have hgn : ¬ m1.all F1 g := h4 _ hA7
  have hsg : gs ≠ g := fun e => hgn (.inl (by rw [← e]; exact h1.fy x hxk' hk ⟨gs, 0, none⟩ (by rw [e1])))
  refine (into_any hm e5 (fun _ a ha => by injection ha with ha; rw [← ha]; exact hsg) (by omega) hc7 e3).mono ?_
  rintro e w' ⟨rfl, hup'⟩
  have hcg := upd_chg hup'
  refine ⟨rfl, m1, F1, h1.other hcg fun b hb e => hgn (e ▸ hb), ⟨h2.1.trans hcg fun k hk e => by omega, h2.2⟩, ?_, h4, hcg.rd0 h5 fun a ha h0 e => by have := h6 h0 a ha; omega, h6⟩
  exact hup w' (bys (xorL u (xv c.vals (x : Int)))) (by
    rw [bys_length, xorL_length _ _ (by
      rw [hu]
      show c.s = (c.vals.getD ((x : Int)).toNat []).length
      rw [Int.toNat_natCast, hv x hxk' hk]), hu]) (by
    unfold xv
    rw [Int.toNat_natCast]; exact hup')
theorem AQ.below {A : Option Addr} {n : Nat} {set : List Int} {A7 : Option Addr} {c7 : Nat} {u : List UInt8} (h : AQ w base D m F A n set A7 c7 c wx u) (hb : Below wx.heap.size wx w') : AQ w base D m F A n set A7 c7 c w' u := by
  obtain ⟨m1, F1, h1, h2, h3, h4, h5, h6⟩ := h
  exact ⟨m1, F1, h1.below hb, h2.trans (Turn.below hb), own_below h3 hb, h4, h5.below hb, h6⟩
theorem Turn.trans' (h : Turn w1 m1 F1 w2 m2 F2) (hc : Chg F2 w2 w3) {m4 : DM} {F4 : Nat → Prop} (hF : ∀ b, F4 b → F2 b ∨ w1.heap.size ≤ b) (ht : m4.tag = m2.tag) : Turn w1 m1 F1 w3 m4 F4 := by
  refine ⟨h.1.trans hc fun k hk e => (h.2 k (.inl e)).elim id fun e2 => by omega, fun b hb => ?_⟩
  rcases hb with hb | hb
  · exact (hF b hb).elim (fun e => h.2 b (.inl e)) .inr
  · exact h.2 b (.inr (by rw [← ht]; exact hb))
/-- The rest is appended. -/
theorem AQ.lay {A : Option Addr} {n : Nat} {set : List Int} {A7 : Option Addr} {c7 : Nat} {u : List UInt8} (h : AQ w base D m F A n set A7 c7 c wx u) (hbs : base ≤ w.heap.size) (o : Obj) :
    ∃ (LA : Option Addr) (lc : Nat) (lf : List Value), lf.length = c.lefts.length ∧ wx.cell? ⟨D, 3, none⟩ = some (.slice LA c.lefts.length lc) ∧ (wx.alloc o).ownsRow base 83 1 (.slice LA c.lefts.length lc) c.lefts.length lf ∧ base ≤ (wx.alloc o).heap.size ∧
      ∀ v1 w3, w3.ownsRow base 83 1 v1 (c.lefts.length + 1) (lf ++ [.slice A7 c.s c7]) → (wx.alloc o).grownBy w3 (Value.slice LA c.lefts.length lc).ownBlock → (v1.ownBlock = (Value.slice LA c.lefts.length lc).ownBlock ∨ v1.ownBlock = some (wx.alloc o).heap.size) →
        w3.cell? ⟨D, 3, none⟩ = some (.slice LA c.lefts.length lc) ∧ w3.frozen? ⟨D, 3, none⟩ = false ∧
        ∃ m' F', Dp (w3.setCell ⟨D, 3, none⟩ v1) base D m' { c with lefts := c.lefts ++ [u] } F' ∧ Turn w m F (w3.setCell ⟨D, 3, none⟩ v1) m' F' := by
  have hb0 : Below wx.heap.size wx (wx.alloc o) := (Below.refl _ _).alloc (Nat.le_refl _) _
  obtain ⟨m1, F1, g1, g2, g3, g4, g5, g6⟩ := h
  have h1 := g1.below hb0
  have h2 := g2.trans (Turn.below (m := m1) (F := F1) hb0)
  have h3 := own_below g3 hb0
  refine ⟨m1.LA, m1.lc, m1.lf.map (pbv c.s), by rw [List.length_map]; exact h1.ll, g1.c3, h1.lw, h1.bs, fun v1 w3 hr hg hat => ?_⟩
  obtain ⟨A1, c1, rfl⟩ := own_sl hr
  have hc : Chg (fun b => b ∈ blk m1.LA) (wx.alloc o) w3 := Chg.of_grown hg fun k hk => by
    cases hA : m1.LA with
    | none => rw [hA] at hk; cases hk
    | some a =>
      rw [hA] at hk
      injection hk with hk
      exact mem_blk.2 ⟨a, rfl, hk⟩
  have hDL : ¬ D ∈ blk m1.LA := fun e => by
    obtain ⟨a, ha, e⟩ := mem_blk.1 e
    exact (h1.tL ha).ne h1.tD (by decide) e
  have hE := hc.bk h1.e hDL
  obtain ⟨h7, h8⟩ := h1.lay (A := A7) (cc := c7) (u := u) (own_mono h3 hbs) (fun a ha => not_all (g4 a ha)) hr hc (fun a ha => by
    rcases hat with e | e
    · have e2 : (Value.slice m1.LA c.lefts.length m1.lc).ownBlock = some a.block := by rw [← e, ha]; rfl
      cases hA : m1.LA with
      | none => rw [hA] at e2; cases e2
      | some a' =>
        rw [hA] at e2
        injection e2 with e2
        exact .inl (mem_blk.2 ⟨a', rfl, e2⟩)
    · have e2 : some a.block = some (wx.alloc o).heap.size := by rw [← e, ha]; rfl
      injection e2 with e2
      exact .inr (by omega))
  · refine ⟨hE.cell 3, hE.frozen 3, _, _, h7, h2.trans' h8 ?_ rfl⟩
    intro b hb
    rcases hb with hb | ⟨a, ha, rfl⟩
    · rcases hb with hb | hb
      · exact .inl hb
      · exact .inr (by have := h2.1.size; omega)
    · exact .inr (own_lt h3 a ha).1
end
end Go.Proofs.YtlhipaffhehcnaaGreat
namespace Go.Proofs.YtlhipaffhehcnaaGreat
open Go.RowKit Go.Maps
set_option linter.unusedVariables false
theorem addP_set (d : DS) (id : Int) (set : List Int) (pay : List UInt8) : (d.addP id set pay).set d.sets.length = set := by
  show (d.sets ++ [set]).getD d.sets.length [] = set
  simp [List.getD_eq_getElem?_getD]
theorem addP_lefts {d : DS} (hd : d.ok) (id : Int) (set : List Int) (pay : List UInt8) : (d.addP id set pay).lefts = d.lefts ++ [lv d.kn d.vals set pay] := by
  unfold DS.lefts
  have hl : (d.addP id set pay).sets.length = d.sets.length + 1 := by show (d.sets ++ [set]).length = _; rw [List.length_append]; rfl
  rw [hl, List.range_succ, List.map_append]
  congr 1
  · refine List.map_congr_left fun q hq => ?_
    have hq' : q < d.sets.length := by simpa using hq
    unfold DS.left DS.set DS.pay
    show lv d.kn d.vals ((d.sets ++ [set]).getD q []) ((d.pays ++ [pay]).getD q []) = _
    simp only [List.getD_eq_getElem?_getD, List.getElem?_append_left hq', List.getElem?_append_left (show q < d.pays.length by rw [hd.np]; exact hq')]
  · show [(d.addP id set pay).left d.sets.length] = _
    unfold DS.left
    rw [addP_set]
    have : (d.addP id set pay).pay d.sets.length = pay := by
      show (d.pays ++ [pay]).getD d.sets.length [] = pay
      rw [← hd.np]; simp [List.getD_eq_getElem?_getD]
    rw [this]; rfl
theorem err_ok {d : DS} {id : Int} {set : List Int} {pay : List UInt8} (h : d.err id set pay = 0) : ¬ (id < 0 ∨ 4294967295 < id) ∧ setB d.k set = true ∧ pay.length = d.s ∧ ¬ id ∈ d.ids ∧ ¬ d.most ≤ d.sets.length := by
  unfold DS.err at h
  split at h
  · cases h
  rename_i c1
  split at h
  · cases h
  rename_i c2
  split at h
  · cases h
  rename_i c3
  split at h
  · cases h
  rename_i c4
  refine ⟨c1, ?_, Decidable.byContradiction fun h => c2 (.inr h), c3, c4⟩
  cases hs : setB d.k set with
  | true => rfl
  | false => exact absurd (.inl hs) c2
theorem lv_succ (kn : List Bool) (vals : List (List UInt8)) {set : List Int} (p : List UInt8) {j : Nat} (hj : j < set.length) : lv kn vals (set.take (j + 1)) p = if knw kn (gi set j) then xorL (lv kn vals (set.take j) p) (xv vals (gi set j)) else lv kn vals (set.take j) p := by
  unfold lv
  rw [List.take_succ_eq_append_getElem hj, List.foldl_append, gi_get hj]; rfl
theorem Hl.base {w : World} {b0 b1 : Nat} {A : Nat → Prop} {v : Value} {l : List Int} (h : Hl w b1 A v l) (hb : b0 ≤ b1) : Hl w b0 A v l := ⟨own_mono h.1 hb, h.2⟩
def PaOk (w : World) (base D : Nat) (m : DM) (F : Nat → Prop) (d : DS) (id : Int) (set : List Int) (pay : List UInt8) (e : Ending) (w' : World) : Prop :=
  ∃ v out d' m' F', e = .returned (.tuple #[v, .int .i64 0]) ∧ Peels (d.addP id set pay) out d' ∧ Stable d' ∧ Dp w' base D m' (d'.dc []) F' ∧ Turn w m F w' m' F' ∧ Hl w' w.heap.size (m'.all F') v out
def DS.adc (d : DS) (id : Int) (set : List Int) : DC := { { d.dc [] with sets := d.sets ++ [set] } with ids := d.ids ++ [id] }
theorem adc_dc {d : DS} (hd : d.ok) (id : Int) {set : List Int} (pay : List UInt8) {n : Nat} (hn : set.length = n) : { d.adc id set with lefts := (d.adc id set).lefts ++ [lv d.kn d.vals (set.take n) pay] } = (d.addP id set pay).dc [] := by
  rw [List.take_of_length_le (by omega)]
  unfold DS.dc
  rw [addP_lefts hd]; rfl
theorem AQ.start {w w3 w4 : World} {base D : Nat} {m m3 : DM} {F : Nat → Prop} {A : Option Addr} {n : Nat} {set : List Int} {A7 : Option Addr} {c7 : Nat} {c : DC} {u : List UInt8} (hD : Dp w3 base D m3 c F) (hT : Turn w m F w3 m3 F) (hr0 : Rd w A n (nums set)) (hr : Rd w3 A n (nums set)) (ho : w4.ownsRow w3.heap.size 5 1 (.slice A7 c.s c7) c.s (bys u)) (hb : Below w3.heap.size w3 w4) : AQ w base D m F A n set A7 c7 c w4 u :=
  ⟨m3, F, hD.below hb, hT.trans (Turn.below hb), own_mono ho hT.1.size, fun a ha hAll => by have := (own_lt ho a ha).1; have := (hD.all_lt hAll).2; omega, hr.below hb, fun h0 a ha => hr0.lt h0 a ha⟩
/-- The end of an adding. -/
theorem pa_end {w w6 w' : World} {base D : Nat} {m m6 : DM} {F F6 : Nat → Prop} {d : DS} {id : Int} {set : List Int} {pay : List UInt8} (hT : Turn w m F w6 m6 F6) {e : Ending} (h : PkPost w6 base D m6 F6 (d.addP id set pay) e w') :
    ∃ v, e = .returned v ∧ PaOk w base D m F d id set pay (.returned (.tuple #[v, .int .i64 0])) w' := by
  obtain ⟨v, l, d', m', F', rfl, h1, h2, h3, h4, h5⟩ := h
  exact ⟨v, rfl, v, l, d', m', F', rfl, h1, h2, h3, hT.trans h4, h5.base hT.1.size⟩
set_option maxRecDepth 100000 in
set_option maxHeartbeats 3200000 in
theorem padd_ok {w : World} {base D : Nat} {m : DM} {F : Nat → Prop} {d : DS} {A B : Option Addr} {n nb cA cB : Nat} {set : List Int} {pay : List UInt8} {id : Int} (h : AArgs w base D m F d A n set B nb pay id) (hst : Stable d) (hA : 0 < n → ∀ a, A = some a → ¬ m.all F a.block) (hB : 0 < nb → ∀ a, B = some a → ¬ m.all F a.block) (he : d.err id set pay = 0) :
    Calls Tryz.prog 37 #[.pointer (some ⟨D, 0, none⟩), .int .i64 id, .slice A n cA, .slice B nb cB] w (PaOk w base D m F d id set pay) := by
  obtain ⟨e1, e2, e3, e4, e5⟩ := err_ok he
  have hpl : pay.length = nb := by have := h.rp.1; simpa [bys_length] using this
  obtain rfl : nb = d.s := by omega
  have hsl : set.length = n := by have := h.rs.1; simpa [nums_length] using this
  obtain ⟨i0, hi0, hz0, hz1, hz2⟩ := info_parts ints2_info
  have c2 := h.dp.c2
  have hbt : Maps.has (idD d.ids) (Lit.int .i64 id) = false := by rw [has_idD]; exact decide_eq_false e4
  have hkey : keyOf Tryz.prog 3 (.int .i64 id) = some (Lit.int .i64 id) := keyOf_int_mk Tryz.underlying3 h.wf
  have hb0 : Below w.heap.size w (w.alloc (.cells #[] 132)) := (Below.refl _ _).alloc (Nat.le_refl _) _
  have c1 : (w.alloc (.cells #[] 132)).cell? ⟨D, 1, none⟩ = some (.int .i64 (d.s : Nat)) := (h.dp.below hb0).c1
  have c0 := (h.dp.below hb0).c0
  have c6 := (h.dp.below hb0).c6
  have d1 : decide (id < 0) = false := decide_eq_false (by omega)
  have d2 : decide (id > 4294967295) = false := decide_eq_false (by omega)
  have d3 : decide (4294967295 < id) = false := decide_eq_false (by omega)
  obtain ⟨mo, hmo⟩ : ∃ mo, (d.dc []).most = mo := ⟨_, rfl⟩
  obtain ⟨N, hN⟩ : ∃ N, d.sets.length = N := ⟨_, rfl⟩
  rw [hmo] at c6
  have hfull : ¬ mo ≤ (N : Int) := by rw [← hmo, ← hN]; exact e5
  have d6 : decide ((N : Int) ≥ mo) = false := decide_eq_false hfull
  have d7 : decide (mo ≤ (N : Int)) = false := decide_eq_false hfull
  have hset := isSet_any (cc := cA) (h.dp.below hb0) (h.rs.below hb0) h.nn (by have := h.ok.k1; show d.k ≤ _; omega)
  rw [show setB (d.dc []).k set = true from e2] at hset
  have HT := Lib.hid hset
  have HB0 := Lib.hid hb0
  have HM := Lib.hid (And.intro hmo (And.intro hN (And.intro e2 e5)))
  have H := Lib.hid (And.intro h (And.intro hst (And.intro hA (And.intro hB (And.intro he (And.intro hbt (And.intro hpl hsl)))))))
  have ds5 : decide (d.s ≠ d.s) = false := decide_eq_false (by omega)
  clear h hst hA hB he hbt hpl hsl e1 e2 e3 e4 e5 hset hb0 hmo hN hfull
  go_enter Tryz.func37, Tryz.ntmps37
  go_wp2_with fail
  refine (dnone_made H.out.1.dp.c0).mono ?_
  rintro e w1 ⟨rfl, rfl⟩
  go_wp2_with (at_lookup; refine wpList_lookup_own_unit _ rfl _ _ 124 rfl 3 132 int_law Tryz.underlying124 (zero_unit _) m.M m.mn (idD d.ids) rfl H.out.1.dp.mp _ (Lit.int .i64 id) rfl hkey ?_; rw [H.out.2.2.2.2.2.1])
  refine HT.out.mono ?_
  rintro e wx ⟨rfl, rfl⟩
  go_wp2_with fail
  go_quiet ((go_at_call 77; refine Calls.quiet_of_same (v := .int .i64 (N : Nat)) ((packets_gr (H.out.1.dp.below (below_dN HB0.out _)).gr).mono ?_); rintro e w' ⟨rfl, rfl⟩; exact ⟨by rw [← HM.out.2.1]; rfl, rfl⟩))
  go_wp2_with fail
  have hb1 := below_dN HB0.out nq
  generalize (w.alloc (.cells #[] 132)).drewN nq = w1 at hb1 ⊢
  have HB1 := Lib.hid hb1
  have k0 := (H.out.1.dp.below hb1).c0
  clear hb1 c0 c1 c2 c6 d1 d2 d3 d6 d7 ds5 HT
  go_wp2_with fail
  refine (add_step (H.out.1.dp.below HB1.out) H.out.1.ok HM.out.2.2.1 (by have := HM.out.2.2.2; omega) H.out.1.ds (H.out.1.rs.below HB1.out) H.out.1.nn H.out.2.2.1).mono ?_
  rintro e w2 ⟨rfl, m1, eM, hD2, hT2, hr2, hz2, hc2⟩
  have k2 := hD2.c2
  have HA := Lib.hid (And.intro hD2 ((Turn.below (m := m) (F := F) HB1.out).trans hT2))
  have hids : d.ids.length ≤ 1000 := by have := H.out.1.ok.ni; have := H.out.1.ds; omega
  clear eM hD2 hT2 hr2 hz2 hc2 k0
  go_wp2_with (at_mapUpdate; refine wpList_mapUpdate_own _ rfl _ _ _ 124 rfl 3 132 int_law Tryz.underlying124 (unitElem (H := Unit)) m1.M d.ids.length (idD d.ids) rfl (map_small HA.out.1.mp) (by unfold maxLen; omega) _ _ _ rfl rfl hkey _ [] unitElem_mk ?_; intro w3 hown3 hg3)
  obtain ⟨m3, hD3, hT3⟩ := came_step (id := id) HA.out.1 (by show d.ids.length < _; omega) hown3 hg3
  have hTT := HA.out.2.trans hT3
  have hrs := hTT.1.rd0 H.out.1.rs (fun a ha h0 => H.out.2.2.1 h0 a ha)
  have hrp := hTT.1.rd0 H.out.1.rp (fun a ha h0 => H.out.2.2.2.1 h0 a ha)
  refine (clone_any hrp H.out.1.nb).mono ?_
  rintro e w4 ⟨v7, rfl, ho7, hb7⟩
  obtain ⟨A7, c7, rfl⟩ := own_sl ho7
  have hAQ : AQ w base D m F A n set A7 c7 (d.adc id set) w4 (lv d.kn d.vals (set.take 0) pay) := AQ.start (c := d.adc id set) hD3 hTT H.out.1.rs hrs ho7 hb7
  have HQ := Lib.hid hAQ
  clear hown3 hg3 hD3 hT3 hTT hrs hrp ho7 hb7 hAQ HA k2 HB1 HB0
  have hn9 : (n : Int) ≤ 1000000 := by have := H.out.1.nn; omega
  go_wp2_with fail
  go_loopw [83] (fun a wx => ∃ j : Nat, j ≤ n ∧ a = .int .i64 j ∧ AQ w base D m F A n set A7 c7 (d.adc id set) wx (lv d.kn d.vals (set.take j) pay)) (fun a wx => n - (intOf a).toNat)
  case atStart => exact ⟨0, by omega, rfl, HQ.out⟩
  case round =>
    obtain ⟨j, hj, rfl, hT⟩ := hrel
    have hS : Sset d.k set := HM.out.2.2.1
    by_cases hlt : j < n
    · obtain ⟨x, SB, b, off, sv, hx, hxk, rfl, cb, c4, cs, hno, hyes⟩ := hT.see (c := d.adc id set) H.out.2.2.2.2.2.2.2 (fun y hy => hS.inr y hy) (lv_length _ _ H.out.2.2.2.2.2.2.1 fun y hy hk => H.out.1.ok.vx (hS.inr y (List.mem_of_mem_take hy)) hk) (fun i hi hk => H.out.1.ok.vs i hi hk) hlt
      have hlv := lv_succ d.kn d.vals pay (show j < set.length from by rw [H.out.2.2.2.2.2.2.2]; exact hlt)
      rw [hx] at hlv
      have km : (j : Int) < (n : Int) := by omega
      have kd : decide ((j : Int) < (n : Int)) = true := decide_eq_true km
      have kd' : decide (j < n) = true := decide_eq_true hlt
      have j0 : (0 : Int) ≤ (j : Int) := by omega
      have xk : (x : Int) < (((d.adc id set).k : Nat) : Int) := by omega
      have x0 : (0 : Int) ≤ (x : Int) := by omega
      have HJ := Lib.hid hlt
      cases hk : knw d.kn (x : Int) with
      | false =>
        obtain rfl := hno hk
        rw [hk, if_neg (by simp)] at hlv
        have hq := neq_none
        have HT9 := Lib.hid (And.intro hT hlv)
        clear hno hyes hlv hT hx hxk hlt hk hS
        go_wp2_with fail
        exact ⟨⟨j + 1, HJ.out, by go_num, by rw [HT9.out.2]; exact HT9.out.1⟩, by have := HJ.out; simp [intOf]; omega⟩
      | true =>
        obtain ⟨gs, cs', rfl, hcall⟩ := hyes hk
        rw [hk, if_pos rfl] at hlv
        have hq := fun w => neq_some ⟨gs, 0, none⟩ (d.adc id set).s cs' w
        have HT9 := Lib.hid (And.intro hcall hlv)
        clear hno hyes hlv hT hx hxk hlt hk hS hcall
        go_wp2_with fail
        refine HT9.out.1.mono ?_
        rintro e w5 ⟨rfl, h5⟩
        have H5 := Lib.hid h5
        clear h5
        go_wp2_with fail
        exact ⟨⟨j + 1, HJ.out, by go_num, by rw [HT9.out.2]; exact H5.out⟩, by have := HJ.out; simp [intOf]; omega⟩
    · obtain rfl : j = n := by omega
      have kd : decide ((j : Int) < (j : Int)) = false := decide_eq_false (by omega)
      have kd' : decide (j < j) = false := decide_eq_false (by omega)
      obtain ⟨LA, lc, lf, hlf, c3, hown, hbs, hfin⟩ := hT.lay H.out.1.dp.bs (.cells #[.slice A7 (d.adc id set).s c7] 83)
      obtain ⟨q, hq⟩ : ∃ q, (d.adc id set).lefts.length = q := ⟨_, rfl⟩
      have hq1 : q ≤ 1000 := by
        rw [← hq]
        have : (d.adc id set).lefts.length = d.sets.length := lefts_length d
        rw [this]; have := H.out.1.ds; omega
      rw [hq] at c3 hown hfin
      rw [adc_dc H.out.1.ok id pay H.out.2.2.2.2.2.2.2] at hfin
      have HF := Lib.hid (And.intro hown (And.intro hbs hfin))
      obtain ⟨r, hr⟩ : ∃ r, (rst d.kn set).length = r := ⟨_, rfl⟩
      have HR := Lib.hid hr
      clear hT hlt hj hlf hown hbs hfin hq hS hr
      rw [HR.out]
      have HOK := Lib.hid (H.out.1.ok.addP H.out.2.2.2.2.1)
      have HRX := Lib.hid ((RipX.rest H.out.2.1).add id set pay)
      have hset : (d.addP id set pay).sets.getD d.sets.length [] = set := addP_set d id set pay
      have hlen : (d.addP id set pay).sets.length = d.sets.length + 1 := by show (d.sets ++ [set]).length = _; rw [List.length_append]; rfl
      have HL := Lib.hid (And.intro hset hlen)
      clear hset hlen
      by_cases h1 : r = 1
      · subst h1
        go_wp2_with (at_builtin; refine wpList_append_rd _ rfl (.tmp 109) (.tmp 111) _ rfl base 83 i0 _ 1 24 Tryz.underlying125 hi0 hz0 hz1 hz2 rfl (by omega) _ q lf rfl HF.out.1 (some ⟨wr.heap.size, 0, none⟩) 1 1 [.slice A7 (d.adc id set).s c7] rfl (Rd.lit _ _ _ _ rfl 1 rfl _ rfl) slice_one (by simp only [maxLen]; omega) (by omega) HF.out.2.1 ?_; intro v6 w6 hown6 hg6 hat6; obtain ⟨A9, c9, rfl⟩ := own_sl hown6; obtain ⟨k3, f3, hD6⟩ := HF.out.2.2 _ _ hown6 hg6 hat6; have H6 := Lib.hid hD6; clear hown6 hg6 hat6 hD6)
        obtain ⟨m6, F6, hD6, hT6⟩ := H6.out
        refine (waits_any hD6 (by simp [DS.dc]) (p := d.sets.length) (by show d.sets.length < (d.addP id set pay).sets.length; rw [HL.out.2]; omega)).mono ?_
        rintro e w7 ⟨rfl, hw7⟩
        obtain ⟨m7, F7, l7, hD7, hT7, hp7⟩ := hw7.turn
        obtain ⟨y, hy⟩ := List.length_eq_one_iff.1 HR.out
        have hym : y ∈ set := (mem_rst.1 (show y ∈ rst d.kn set by rw [hy]; exact List.mem_cons_self ..)).1
        have hS : Sset d.k set := HM.out.2.2.1
        have hyr := hS.inr y hym
        obtain ⟨y', rfl⟩ : ∃ y' : Nat, y = y' := ⟨y.toNat, by omega⟩
        have hwl : wtL d.kn (d.addP id set pay).sets d.sets.length = [⟨(y' : Int), (d.sets.length : Int)⟩] := wtL_one (by rw [HL.out.1]; exact hy)
        have hp8 : l7.Perm ([] ++ [⟨(y' : Int), (d.sets.length : Int)⟩]) := by rw [← hwl]; exact hp7
        have hrx : RipX (d.addP id set pay) l7 [] := (HRX.out.put (x := y') (by rw [HL.out.2]; omega) (show y' < d.k by omega) (by rw [addP_set]; exact hy) (e := ⟨(y' : Int), (d.sets.length : Int)⟩) rfl rfl).perm hp8
        have hl7 : l7.length ≤ 1000 := by have := hp8.length_eq; simp at this; omega
        have H7 := Lib.hid (And.intro (peel_any (d := d.addP id set pay) hD7 HOK.out (by rw [HL.out.2]; have := H.out.1.ds; omega) hl7 hrx) (hT6.trans hT7))
        clear hD6 hT6 hD7 hT7 hp7 hw7 hy hym hS hyr hwl hp8 hrx hl7
        go_wp2_with fail
        refine H7.out.1.mono ?_
        intro e w8 h8
        obtain ⟨v8, rfl, h9⟩ := pa_end H7.out.2 h8
        have H9 := Lib.hid h9
        clear h9 h8
        go_wp2_with fail
        go_ret2
        exact H9.out
      · have r1 : decide (r = 1) = false := decide_eq_false h1
        have r2 : ((r : Int) == 1) = false := by simp; omega
        have HR1 := Lib.hid h1
        clear h1
        go_wp2_with (at_builtin; refine wpList_append_rd _ rfl (.tmp 109) (.tmp 111) _ rfl base 83 i0 _ 1 24 Tryz.underlying125 hi0 hz0 hz1 hz2 rfl (by omega) _ q lf rfl HF.out.1 (some ⟨wr.heap.size, 0, none⟩) 1 1 [.slice A7 (d.adc id set).s c7] rfl (Rd.lit _ _ _ _ rfl 1 rfl _ rfl) slice_one (by simp only [maxLen]; omega) (by omega) HF.out.2.1 ?_; intro v6 w6 hown6 hg6 hat6; obtain ⟨A9, c9, rfl⟩ := own_sl hown6; obtain ⟨k3, f3, hD6⟩ := HF.out.2.2 _ _ hown6 hg6 hat6; have H6 := Lib.hid hD6; clear hown6 hg6 hat6 hD6)
        obtain ⟨m6, F6, hD6, hT6⟩ := H6.out
        have hrx : RipX (d.addP id set pay) [] [] := HRX.out.skip (p := d.sets.length) (ex := []) (by
          rw [addP_set]
          show (rst d.kn set).length ≠ 1
          rw [HR.out]; exact HR1.out)
        have H7 := Lib.hid (And.intro (peel_any (d := d.addP id set pay) hD6 HOK.out (by rw [HL.out.2]; have := H.out.1.ds; omega) (by simp) hrx) hT6)
        clear hD6 hT6 hrx
        go_wp2_with fail
        refine H7.out.1.mono ?_
        intro e w8 h8
        obtain ⟨v8, rfl, h9⟩ := pa_end H7.out.2 h8
        have H9 := Lib.hid h9
        clear h9 h8
        go_wp2_with fail
        go_ret2
        exact H9.out
end Go.Proofs.YtlhipaffhehcnaaGreat
