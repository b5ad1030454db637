/- Chapter 21: peeling: its steps in memory. -/
import Derived.Test.YtidoembkcaojoaaPw21
namespace Go.Proofs.Ytidoembkcaojoaa
open Go.RowKit Go.Maps
set_option linter.unusedVariables false
theorem neq_some (a : Addr) (n c : Nat) (w : World) : (binOp .neq 22 (.slice (some a) n c) (.slice none 0 0)).run Try.prog w = .ok (.bool true) w :=
  run_neq_slice_nil_any (P := Try.prog) w 22 5 (some a) n c 0 0 Try.underlying22
theorem neq_none (w : World) : (binOp .neq 22 (.slice none 0 0) (.slice none 0 0)).run Try.prog w = .ok (.bool false) w :=
  run_neq_slice_nil_any (P := Try.prog) w 22 5 none 0 0 0 0 Try.underlying22
def lfX (l0 : List (List UInt8)) (v : List UInt8) (qs : List Int) : List (List UInt8) := qs.foldl (fun l q => l.set q.toNat (xorL (l.getD q.toNat []) v)) l0
theorem lfX_length (v : List UInt8) : ∀ (qs : List Int) (l0 : List (List UInt8)), (lfX l0 v qs).length = l0.length
  | [], _ => rfl
  | q :: qs, l0 => by show (lfX (l0.set q.toNat _) v qs).length = _; rw [lfX_length v qs, List.length_set]
theorem lfX_succ (l0 : List (List UInt8)) (v : List UInt8) {qs : List Int} {j : Nat} (hj : j < qs.length) : lfX l0 v (qs.take (j + 1)) = (lfX l0 v (qs.take j)).set (gi qs j).toNat (xorL ((lfX l0 v (qs.take j)).getD (gi qs j).toNat []) v) := by
  unfold lfX
  rw [List.take_succ_eq_append_getElem hj, List.foldl_append, gi_get hj]; rfl
theorem getD_set {l : List (List UInt8)} {i j : Nat} {u : List UInt8} (hi : i < l.length) : (l.set i u).getD j [] = if i = j then u else l.getD j [] := by
  simp only [List.getD_eq_getElem?_getD, List.getElem?_set]
  by_cases e : i = j
  · subst e; simp [hi]
  · simp [e]
theorem lfX_get (v : List UInt8) : ∀ (qs : List Int) (l0 : List (List UInt8)) (i : Nat), qs.Nodup → (∀ q ∈ qs, 0 ≤ q ∧ q < l0.length) → (lfX l0 v qs).getD i [] = if (i : Int) ∈ qs then xorL (l0.getD i []) v else l0.getD i []
  | [], l0, i, _, _ => by simp [lfX]
  | q :: qs, l0, i, hd, hr => by
    rw [List.nodup_cons] at hd
    have hq := hr q (List.mem_cons_self ..)
    show (lfX (l0.set q.toNat _) v qs).getD i [] = _
    rw [lfX_get v qs _ i hd.2 (fun y hy => by rw [List.length_set]; exact hr y (List.mem_cons_of_mem _ hy)), getD_set (by omega)]
    by_cases e : q.toNat = i
    · have e' : q = (i : Int) := by omega
      subst e'
      rw [if_pos e, if_neg hd.1, if_pos (List.mem_cons_self ..), e]
    · have e' : ¬ (i : Int) = q := by omega
      rw [if_neg e]
      simp only [List.mem_cons, e', false_or]
theorem lefts_length (d : DS) : d.lefts.length = d.sets.length := by simp [DS.lefts]
theorem lefts_get {d : DS} {q : Nat} (hq : q < d.sets.length) : d.lefts.getD q [] = d.left q := by
  unfold DS.lefts
  rw [List.getD_eq_getElem?_getD, List.getElem?_map, List.getElem?_range hq]; rfl
theorem lfX_took {d : DS} (hd : d.ok) {x p : Nat} (hn : Next d x p) : lfX d.lefts (d.left p) (holds d.sets (x : Int)) = (d.took x p).lefts := by
  have hx := hn.lt hd
  apply List.ext_getElem?
  intro i
  have hl : (lfX d.lefts (d.left p) (holds d.sets (x : Int))).length = d.sets.length := by rw [lfX_length, lefts_length]
  have hl2 : (d.took x p).lefts.length = d.sets.length := lefts_length _
  rcases Nat.lt_or_ge i d.sets.length with hi | hi
  · have h1 := lfX_get (d.left p) (holds d.sets (x : Int)) d.lefts i (holds_nodup _ _) (fun q hq => by
      obtain ⟨a, rfl, ha, _⟩ := mem_holds.1 hq
      rw [lefts_length]; omega)
    have h2 : (d.took x p).lefts.getD i [] = (d.took x p).left i := lefts_get (d := d.took x p) hi
    have h3 : (d.took x p).left i = if (x : Int) ∈ d.set i then xorL (d.left i) (d.left p) else d.left i :=
      lv_set (by rw [hd.kl]; exact hx) (by rw [hd.vl]; exact hx) hn.mem.2 (d.left p) (d.set i) (d.pay i) (hd.sset hi).nodup fun y hy => ((hd.sset hi).inr y hy).1
    have h4 : ((i : Int) ∈ holds d.sets (x : Int)) ↔ ((x : Int) ∈ d.set i) := by
      constructor
      · intro h
        obtain ⟨a, ha, _, hm⟩ := mem_holds.1 h
        obtain rfl : i = a := by omega
        exact hm
      · intro h
        exact mem_holds.2 ⟨i, rfl, hi, h⟩
    rw [lefts_get hi] at h1
    simp only [h4] at h1
    rw [← h3, ← h2] at h1
    rw [List.getD_eq_getElem?_getD, List.getD_eq_getElem?_getD, List.getElem?_eq_getElem (by rw [hl]; exact hi), List.getElem?_eq_getElem (by rw [hl2]; exact hi)] at h1
    rw [List.getElem?_eq_getElem (by rw [hl]; exact hi), List.getElem?_eq_getElem (by rw [hl2]; exact hi)]
    simpa using h1
  · rw [List.getElem?_eq_none (by rw [hl]; exact hi), List.getElem?_eq_none (by rw [hl2]; exact hi)]
def DS.dc (d : DS) (rl : List HE) : DC := { s := d.s, k := d.k, most := d.most, kn := d.kn, sets := d.sets, ids := d.ids, lefts := d.lefts, sk := d.kn, vals := d.vals, rl := rl }
section
variable {w w' w0 w1 w2 w3 : World} {base D : Nat} {m m1 m2 m3 : DM} {c c1 c2 : DC} {F F1 F2 F3 : Nat → Prop}
/-- From one state of a decoder's memory to another one. -/
def Turn (w1 : World) (m1 : DM) (F1 : Nat → Prop) (w2 : World) (m2 : DM) (F2 : Nat → Prop) : Prop := Chg (m1.all F1) w1 w2 ∧ ∀ b, m2.all F2 b → m1.all F1 b ∨ w1.heap.size ≤ b
theorem Turn.below (hb : Below w1.heap.size w1 w2) : Turn w1 m F w2 m F := ⟨Chg.of_below hb, fun b h => .inl h⟩
theorem Turn.refl : Turn w1 m F w1 m F := ⟨Chg.refl _ _, fun b h => .inl h⟩
theorem Turn.trans (h : Turn w1 m1 F1 w2 m2 F2) (h' : Turn w2 m2 F2 w3 m3 F3) : Turn w1 m1 F1 w3 m3 F3 := by
  have hz := h.1.size
  refine ⟨h.1.trans h'.1 fun b hb ha => (h.2 b ha).elim id fun e => absurd hb (by omega), fun b hb => ?_⟩
  rcases h'.2 b hb with e | e
  · exact h.2 b e
  · exact .inr (Nat.le_trans hz e)
theorem Turn.apart (h : Turn w1 m1 F1 w2 m2 F2) {b : Nat} (hb : b < w1.heap.size) (hn : ¬ m1.all F1 b) : ¬ m2.all F2 b := fun e => (h.2 b e).elim hn (fun e => by omega)
theorem Turn.of (hc : Chg (m1.all F1) w1 w2) (hF : ∀ b, F2 b → F1 b ∨ w1.heap.size ≤ b) (ht : ∀ b, m2.tag b ≠ none → m1.tag b ≠ none ∨ w1.heap.size ≤ b) : Turn w1 m1 F1 w2 m2 F2 := ⟨hc, fun b hb => by
  rcases hb with hb | hb
  · exact (hF b hb).elim (fun e => .inl (.inl e)) .inr
  · exact (ht b hb).elim (fun e => .inl (.inr e)) .inr⟩
theorem Turn.same (hc : Chg F1 w1 w2) (hF : ∀ b, F2 b → F1 b ∨ w1.heap.size ≤ b) (ht : m2.tag = m1.tag) : Turn w1 m1 F1 w2 m2 F2 := Turn.of (hc.mono fun b _ hb => .inl hb) hF fun b hb => .inl (by rw [← ht]; exact hb)
/-- A row of numbers beside it. -/
def Hl (w : World) (b0 : Nat) (A : Nat → Prop) (v : Value) (l : List Int) : Prop := w.ownsRow b0 3 1 v l.length (nums l) ∧ ∀ b, v.ownBlock = some b → ¬ A b
theorem Hl.step {b0 : Nat} {v : Value} {l : List Int} (h : Hl w1 b0 (m1.all F1) v l) (t : Turn w1 m1 F1 w2 m2 F2) : Hl w2 b0 (m2.all F2) v l := by
  refine ⟨?_, fun b hb => t.apart ?_ (h.2 b hb)⟩
  · obtain ⟨A, cc, rfl⟩ := own_sl h.1
    exact t.1.own h.1 fun a ha => h.2 a.block (own_b1 ha)
  obtain ⟨⟨cs, hk⟩, _⟩ := own_ty h.1 hb
  exact hk.lt
theorem Hl.new {b0 : Nat} {v : Value} {l : List Int} (h : Dp w1 base D m1 c F1) (ho : w2.ownsRow w1.heap.size 3 1 v l.length (nums l)) (hb : b0 ≤ w1.heap.size) : Hl w2 b0 (m1.all F1) v l :=
  ⟨own_mono ho hb, fun b e hA => by have := (own_ty ho e).2; have := (h.all_lt hA).2; omega⟩
/-- A popped element's place. -/
def Bx (w : World) (K : Nat) (A : Nat → Prop) (x p : Nat) : Prop := w.cell? ⟨K, 0, none⟩ = some (.int .i64 (x : Nat)) ∧ w.cell? ⟨K, 1, none⟩ = some (.int .i64 (p : Nat)) ∧ K < w.heap.size ∧ ¬ A K
theorem Bx.step {K x p : Nat} (h : Bx w1 K (m1.all F1) x p) (t : Turn w1 m1 F1 w2 m2 F2) : Bx w2 K (m2.all F2) x p :=
  ⟨t.1.cell' h.1 h.2.2.2, t.1.cell' h.2.1 h.2.2.2, Nat.lt_of_lt_of_le h.2.2.1 t.1.size, t.apart h.2.2.1 h.2.2.2⟩
/-- The ripple is popped. -/
theorem Dp.pop (h : Dp w base D m c F) {q cc : Nat} {A : Option Addr} {l' : List HE} (hv : m.v = .slice A (q + 1) cc) (hf : HF w' base D ((dcells c m).set 5 (.slice A q cc)) 5 (.slice A q cc) l') (hp : (gx c.rl 0 :: l').Perm c.rl) (hH : Hp (keys l')) (hc : Chg (fun k => k = D ∨ (Value.slice A (q + 1) cc).ownBlock = some k) w w') :
    Dp w' base D { m with v := .slice A q cc } { c with rl := l' } (Gw F w w') ∧ Turn w m F w' { m with v := .slice A q cc } (Gw F w w') := by
  rw [← hv] at hc
  obtain ⟨h1, h2⟩ := h.rip hf hH (fun e he => h.ft e (hp.mem_iff.1 (List.mem_cons_of_mem _ he))) hc fun b hb => .inl (by rw [hv]; cases A <;> exact hb)
  exact ⟨h1, Turn.same h2 (fun b hb => hb.elim .inl fun e => .inr e.1) rfl⟩
/-- A symbol is stored. -/
theorem Dp.stored (h : Dp w base D m c F) (h1 : Dp w1 base D m c F) {x : Nat} (hx : x < c.k) (hsk : c.sk.length = c.k) (hk : knw c.sk (x : Int) = false) (hvl : c.vals.length = c.k) {A : Option Addr} {cc : Nat} {u : List UInt8} (ho : w1.ownsRow w.heap.size 5 1 (.slice A c.s cc) c.s (bys u)) (hb : Below w.heap.size w w1) :
    Dp (w1.setCell ⟨m.SB, x, none⟩ (.slice A c.s cc)) base D { m with sy := fun i => if i = x then (A, cc) else m.sy i } { c with sk := c.sk.set x true, vals := c.vals.set x u } (fun b => F b ∨ ∃ a, A = some a ∧ a.block = b) ∧ Turn w m F (w1.setCell ⟨m.SB, x, none⟩ (.slice A c.s cc)) { m with sy := fun i => if i = x then (A, cc) else m.sy i } (fun b => F b ∨ ∃ a, A = some a ∧ a.block = b) := by
  have hlt := own_lt ho
  obtain ⟨h2, h3⟩ := h1.sym (w0 := w) hx hsk hk hvl (own_mono ho h.bs) (fun a ha => by
    have := (hlt a ha).1
    refine ⟨fun e => by have := (h.fb _ e).2; omega, h.tag_new this⟩)
  refine ⟨h2, Turn.same ((Chg.of_below hb).trans h3 fun b _ e => e) (fun b hb => ?_) rfl⟩
  rcases hb with hb | ⟨a, ha, rfl⟩
  · exact .inl hb
  · exact .inr (hlt a ha).1
/-- The graph takes it. -/
theorem Dp.taken (h : Dp w base D m c F) {x : Nat} (hx : x < c.k) (hk : knw c.kn (x : Int) = false) {L' : GL} (hg : Gr w' base m.G m.tag L' (tkK c.kn (x : Int)) c.sets c.most) (hc : Chg (fun b => m.tag b ≠ none) w w') :
    Dp w' base D { m with L := L' } { c with kn := c.kn.set x true } F ∧ Turn w m F w' { m with L := L' } F := by
  have e : tkK c.kn (x : Int) = c.kn.set x true := by
    unfold tkK inK
    rw [hk, decide_eq_true (by rw [h.gk]; omega)]; rfl
  rw [e] at hg
  obtain ⟨h1, h2⟩ := h.graph (tag' := m.tag) hg (by rw [List.length_set]; exact h.gk) hc fun b _ => rfl
  exact ⟨h1, Turn.of h2 (fun b hb => .inl hb) fun b hb => .inl hb⟩
theorem WtPost.turn {p : Nat} (h : WtPost w base D m c F p w') : ∃ m' F' l', Dp w' base D m' { c with rl := l' } F' ∧ Turn w m F w' m' F' ∧ l'.Perm (c.rl ++ wtL c.kn c.sets p) := by
  obtain ⟨v', l', h1, h2, h3⟩ := h
  exact ⟨_, _, l', h1, Turn.same h2 (fun b hb => hb.elim .inl fun e => .inr e.1) rfl, h3⟩
/-- What a left is in memory. -/
theorem Dp.lf (h : Dp w base D m c F) {p : Nat} (hp : p < c.lefts.length) : ∃ g cc LA, m.lp p = (some ⟨g, 0, none⟩, cc) ∧ m.LA = some ⟨LA, 0, none⟩ ∧ w.cell? ⟨LA, p, none⟩ = some (.slice (some ⟨g, 0, none⟩) c.s cc) ∧ c.s ≤ cc ∧ w.ownsRow base 5 1 (.slice (some ⟨g, 0, none⟩) c.s cc) c.s (bys (c.lefts.getD p [])) := by
  have ho := h.lx p hp
  obtain ⟨A, cc, hs⟩ : ∃ A cc, m.lp p = (A, cc) := ⟨_, _, rfl⟩
  rw [hs] at ho
  obtain ⟨g, cur, hA, _, _, _, hnc, _⟩ := own_formN (A := A) (c := cc) ho (by have := h.s1; omega)
  subst hA
  have hlw := h.lw
  obtain ⟨LA, curL, hLA, _, _, _, _, _⟩ := own_formN hlw (by omega)
  have hr := (Rd.of_own hlw)
  rw [hLA] at hr
  have hcell := hr.cells p (pbv c.s (some ⟨g, 0, none⟩, cc)) (by
    rw [List.getElem?_map]
    have : m.lf[p]? = some (m.lp p) := by
      unfold DM.lp
      rw [List.getD_eq_getElem?_getD, List.getElem?_eq_getElem (by rw [h.ll]; exact hp)]; rfl
    rw [this, hs]; rfl)
  refine ⟨g, cc, LA, hs, hLA, ?_, hnc, ho⟩
  rw [Addr.add_lit, Nat.zero_add] at hcell
  exact hcell
/-- A left less by a symbol. -/
theorem Dp.lessT (h : Dp w base D m c F) {q : Nat} (hq : q < c.lefts.length) {g cc : Nat} (hg : m.lp q = (some ⟨g, 0, none⟩, cc)) {new : List UInt8} (hn : new.length = c.s) (hl : (c.lefts.getD q []).length = c.s) (hu : Upd w w' g 0 (bys new)) :
    Dp w' base D m { c with lefts := c.lefts.set q new } F ∧ Turn w m F w' m F := by
  have hcg := upd_chg hu
  have ho := h.lx q hq
  rw [hg] at ho
  obtain ⟨g', hm, _, _, hup⟩ := Mut.of_own (A := some ⟨g, 0, none⟩) (c := cc) ho
  obtain ⟨hA, _⟩ := hm.2 (by have := h.s1; omega)
  injection hA with hA
  injection hA with hA
  subst hA
  have ho2 : w'.ownsRow base 5 1 (.slice (some ⟨g, 0, none⟩) c.s cc) c.s (bys new) := hup w' (bys new) (by rw [bys_length, hn]) hu
  obtain ⟨h1, h2⟩ := h.less hq (fun a ha => by rw [hg] at ha; injection ha with ha; rw [← ha]) ⟨_, by rw [hg]⟩ hcg (by rw [hg]; exact ho2)
  exact ⟨h1, Turn.same h2 (fun b hb => .inl hb) rfl⟩
theorem ow_holds {kn : List Bool} {sets : List (List Int)} {x : Nat} (hx : x < kn.length) (hk : knw kn (x : Int) = false) : owL kn sets (x : Int) = holds sets (x : Int) := by
  unfold owL inK
  rw [decide_eq_true (by omega), Int.toNat_natCast]
  exact wts_at hk
theorem tk_known {kn : List Bool} {x : Nat} (hx : x < kn.length) (hk : knw kn (x : Int) = false) : tkE kn (x : Int) = 0 := by
  unfold tkE inK
  rw [decide_eq_true (by omega), hk]; rfl
theorem into_step (h : Dp w base D m c F) {q x : Nat} (hq : q < c.lefts.length) (hx : x < c.k) (hk : knw c.sk (x : Int) = true) {A6 : Option Addr} {d6 : Nat} (hsy : m.sy x = (A6, d6)) (hl : (c.lefts.getD q []).length = c.s) (hv : (c.vals.getD x []).length = c.s) :
    ∃ g cc LA, m.LA = some ⟨LA, 0, none⟩ ∧ w.cell? ⟨LA, q, none⟩ = some (.slice (some ⟨g, 0, none⟩) c.s cc) ∧ Calls Try.prog 43 #[.slice (some ⟨g, 0, none⟩) c.s cc, .slice A6 c.s d6] w fun e w' => e = .returned (.int .i64 0) ∧
      Dp w' base D m { c with lefts := c.lefts.set q (xorL (c.lefts.getD q []) (c.vals.getD x [])) } F ∧ Turn w m F w' m F := by
  obtain ⟨g, cc, LA, e1, e2, e3, e4, e5⟩ := h.lf hq
  refine ⟨g, cc, LA, e2, e3, ?_⟩
  have hs := h.s1
  obtain ⟨g', hm, _, _, _⟩ := Mut.of_own (A := some ⟨g, 0, none⟩) (c := cc) e5
  obtain ⟨hA, _⟩ := hm.2 (by omega)
  injection hA with hA
  injection hA with hA
  subst hA
  have ho := h.sx x hx hk
  rw [hsy] at ho
  have hr := own_rdN (A := A6) (c := d6) ho
  rw [Nat.mul_one] at hr
  refine (into_any hm hr.1 (fun _ a ha => ?_) (by omega) e4 hr.2).mono ?_
  · exact (h.ds q x hq hx hk ⟨g, 0, none⟩ a (by rw [e1]) (by rw [hsy]; exact ha)).symm
  · rintro e w' ⟨rfl, hu⟩
    exact ⟨rfl, h.lessT hq e1 (by rw [xorL_length _ _ (by rw [hl, hv]), hl]) hl hu⟩
/-- A round's state: the decoder, what is told, the popped element. -/
structure RS (w0 : World) (base D : Nat) (m : DM) (F : Nat → Prop) (v : Value) (l : List Int) (K x p : Nat) (w1 : World) (m1 : DM) (F1 : Nat → Prop) (c1 : DC) : Prop where
  dp : Dp w1 base D m1 c1 F1
  tn : Turn w0 m F w1 m1 F1
  hl : Hl w1 w0.heap.size (m1.all F1) v l
  bx : Bx w1 K (m1.all F1) x p
theorem RS.step {v : Value} {l : List Int} {K x p : Nat} (h : RS w0 base D m F v l K x p w1 m1 F1 c1) (hd : Dp w2 base D m2 c2 F2) (t : Turn w1 m1 F1 w2 m2 F2) : RS w0 base D m F v l K x p w2 m2 F2 c2 := ⟨hd, h.tn.trans t, h.hl.step t, h.bx.step t⟩
theorem RS.below {v : Value} {l : List Int} {K x p : Nat} (h : RS w0 base D m F v l K x p w1 m1 F1 c1) (hb : Below w1.heap.size w1 w2) : RS w0 base D m F v l K x p w2 m1 F1 c1 := h.step (h.dp.below hb) (Turn.below hb)
theorem RS.drawn {v : Value} {l : List Int} {K x p : Nat} (h : RS w0 base D m F v l K x p w1 m1 F1 c1) (n : Nat) : RS w0 base D m F v l K x p (w1.drewN n) m1 F1 c1 := h.below (below_dN (Below.refl _ _) n)
theorem RS.made {v : Value} {l : List Int} {x p : Nat} (hd : Dp w1 base D m1 c1 F1) (ht : Turn w0 m F w1 m1 F1) (hl : Hl w1 w0.heap.size (m1.all F1) v l) :
    RS w0 base D m F v l w1.heap.size x p (w1.alloc (.cells #[.int .i64 (x : Nat), .int .i64 (p : Nat)] 101)) m1 F1 c1 := by
  have hb : Below w1.heap.size w1 (w1.alloc (.cells #[.int .i64 (x : Nat), .int .i64 (p : Nat)] 101)) := (Below.refl _ _).alloc (Nat.le_refl _) _
  have hk : Bk (w1.alloc (.cells #[.int .i64 (x : Nat), .int .i64 (p : Nat)] 101)) w1.heap.size 101 [.int .i64 (x : Nat), .int .i64 (p : Nat)] := Bk.new _ _ _
  exact ⟨hd.below hb, ht.trans (Turn.below hb), hl.step (Turn.below hb), hk.cell 0, hk.cell 1, hk.lt, fun e => by have := (hd.all_lt e).2; omega⟩
end
end Go.Proofs.Ytidoembkcaojoaa
