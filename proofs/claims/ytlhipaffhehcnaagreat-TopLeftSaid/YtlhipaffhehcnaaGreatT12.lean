/- Chapter 21: a decoder in memory. -/
import Derived.Test.YtlhipaffhehcnaaGreatT11
namespace Go.Proofs.YtlhipaffhehcnaaGreat
open Go.RowKit Go.Maps
set_option linter.unusedVariables false
/-- What a decoder's memory says. -/
structure DC where
  s : Nat
  k : Nat
  most : Int
  kn : List Bool
  sets : List (List Int)
  ids : List Int
  lefts : List (List UInt8)
  sk : List Bool
  vals : List (List UInt8)
  rl : List HE
/-- Where it lies. -/
structure DM where
  G : Nat
  tag : Nat → Option Nat
  L : GL
  M : Nat
  mn : Nat
  LA : Option Addr
  lc : Nat
  lf : List (Option Addr × Nat)
  SB : Nat
  sy : Nat → Option Addr × Nat
  v : Value
def pbv (s : Nat) (b : Option Addr × Nat) : Value := .slice b.1 s b.2
def DM.lp (m : DM) (p : Nat) : Option Addr × Nat := m.lf.getD p (none, 0)
def syv (c : DC) (m : DM) (i : Nat) : Value := if knw c.sk (i : Int) then pbv c.s (m.sy i) else .slice none 0 0
def dcells (c : DC) (m : DM) : List Value := [.pointer (some ⟨m.G, 0, none⟩), .int .i64 (c.s : Nat), .map (some m.M), .slice m.LA c.lefts.length m.lc, .slice (some ⟨m.SB, 0, none⟩) c.k c.k, m.v, .int .i64 c.most]
def idD (ids : List Int) : DataW Unit := setOf (.agg []) (ids.map (Lit.int .i64))
structure Dp (w : World) (base D : Nat) (m : DM) (c : DC) (F : Nat → Prop) : Prop where
  e : Bk w D 129 (dcells c m)
  gr : Gr w base m.G m.tag m.L c.kn c.sets c.most
  gk : c.kn.length = c.k
  mp : w.ownsMap Tryz.prog 3 unitElem m.M m.mn (idD c.ids)
  mq : m.mn ≤ 1000000
  lw : w.ownsRow base 83 1 (.slice m.LA c.lefts.length m.lc) c.lefts.length (m.lf.map (pbv c.s))
  ll : m.lf.length = c.lefts.length
  lx : ∀ p, p < c.lefts.length → w.ownsRow base 5 1 (pbv c.s (m.lp p)) c.s (bys (c.lefts.getD p []))
  sb : Bk w m.SB 83 ((List.range c.k).map (syv c m))
  sx : ∀ i, i < c.k → knw c.sk (i : Int) = true → w.ownsRow base 5 1 (pbv c.s (m.sy i)) c.s (bys (c.vals.getD i []))
  rp : HR w base m.v c.rl
  hp : Hp (keys c.rl)
  ft : FitL c.rl
  dl : ∀ p q, p < c.lefts.length → q < c.lefts.length → p ≠ q → ∀ a b, (m.lp p).1 = some a → (m.lp q).1 = some b → a.block ≠ b.block
  ds : ∀ p i, p < c.lefts.length → i < c.k → knw c.sk (i : Int) = true → ∀ a b, (m.lp p).1 = some a → (m.sy i).1 = some b → a.block ≠ b.block
  ls : ∀ a, m.LA = some a → a.block ≠ m.SB
  fD : F D
  fM : F m.M
  fS : F m.SB
  fL : ∀ a, m.LA = some a → F a.block
  fv : ∀ b, m.v.ownBlock = some b → F b
  fl : ∀ p, p < c.lefts.length → ∀ a, (m.lp p).1 = some a → F a.block
  fy : ∀ i, i < c.k → knw c.sk (i : Int) = true → ∀ a, (m.sy i).1 = some a → F a.block
  tg : ∀ b, F b → m.tag b = none
  fb : ∀ b, F b → base ≤ b ∧ b < w.heap.size
  bs : base ≤ w.heap.size
  s1 : 1 ≤ c.s ∧ c.s ≤ 65535
  m1 : 1 ≤ c.most ∧ c.most ≤ 1048576
/-- All its blocks, the graph's too. -/
def DM.all (m : DM) (F : Nat → Prop) (b : Nat) : Prop := F b ∨ m.tag b ≠ none
section
variable {w w' w'' : World} {base D : Nat} {m : DM} {c : DC} {F F' S T : Nat → Prop}
theorem map_chg {b n : Nat} {Dd : DataW Unit} (h : w.ownsMap Tryz.prog 3 unitElem b n Dd) (hc : Chg S w w') (hS : ¬ S b) : w'.ownsMap Tryz.prog 3 unitElem b n Dd := by
  have hlt := h.lt
  obtain ⟨es, clock, hb, r⟩ := h
  exact ⟨es, clock, by rw [hc.2 b hlt hS]; exact hb, r⟩
theorem map_ne {b n g : Nat} {Dd : DataW Unit} {t : TypeId} (h : w.ownsMap Tryz.prog 3 unitElem b n Dd) (ht : Ty w g t) : g ≠ b := fun e => by
  obtain ⟨es, clock, hb, _⟩ := h
  obtain ⟨cs, hk⟩ := ht
  subst e
  unfold Bk at hk
  rw [hb] at hk
  cases hk
theorem Dp.tD (h : Dp w base D m c F) : Ty w D 129 := ⟨_, h.e⟩
theorem Dp.tS (h : Dp w base D m c F) : Ty w m.SB 83 := ⟨_, h.sb⟩
theorem Dp.tL (h : Dp w base D m c F) {a : Addr} (ha : m.LA = some a) : Ty w a.block 83 := (own_ty h.lw (own_b1 ha)).1
theorem Dp.tl (h : Dp w base D m c F) {p : Nat} (hp : p < c.lefts.length) {a : Addr} (ha : (m.lp p).1 = some a) : Ty w a.block 5 := (own_ty (h.lx p hp) (own_b1 ha)).1
theorem Dp.ty (h : Dp w base D m c F) {i : Nat} (hi : i < c.k) (hk : knw c.sk (i : Int) = true) {a : Addr} (ha : (m.sy i).1 = some a) : Ty w a.block 5 := (own_ty (h.sx i hi hk) (own_b1 ha)).1
theorem Dp.tv (h : Dp w base D m c F) {b : Nat} (hb : m.v.ownBlock = some b) : Ty w b 171 := (own_ty h.rp hb).1
/-- What else changes leaves it as it was. -/
theorem Dp.other (h : Dp w base D m c F) (hc : Chg S w w') (hS : ∀ b, m.all F b → ¬ S b) : Dp w' base D m c F :=
  have hF : ∀ b, F b → ¬ S b := fun b hb => hS b (.inl hb)
  { h with
    e := hc.bk h.e (hF _ h.fD)
    gr := h.gr.other hc fun b hb => hS b (.inr hb)
    mp := map_chg h.mp hc (hF _ h.fM)
    lw := hc.own h.lw fun a ha => hF _ (h.fL a ha)
    lx := fun p hp => hc.own (h.lx p hp) fun a ha => hF _ (h.fl p hp a ha)
    sb := hc.bk h.sb (hF _ h.fS)
    sx := fun i hi hk => hc.own (h.sx i hi hk) fun a ha => hF _ (h.fy i hi hk a ha)
    rp := h.rp.chg hc fun g hg => hF _ (h.fv g hg)
    fb := fun b hb => by have := h.fb b hb; have := hc.size; omega
    bs := Nat.le_trans h.bs hc.size }
theorem Dp.below (h : Dp w base D m c F) (hb : Below w.heap.size w w') : Dp w' base D m c F := h.other (Chg.of_below (S := fun _ => False) hb) fun _ _ e => e
theorem Dp.all_lt (h : Dp w base D m c F) {b : Nat} (hb : m.all F b) : base ≤ b ∧ b < w.heap.size := by
  rcases hb with hb | hb
  · exact h.fb b hb
  · exact h.gr.gm.lt b hb
def Gw (F : Nat → Prop) (w w' : World) (b : Nat) : Prop := F b ∨ (w.heap.size ≤ b ∧ b < w'.heap.size)
theorem Dp.tag_new (h : Dp w base D m c F) {b : Nat} (hb : w.heap.size ≤ b) : m.tag b = none := by
  cases ht : m.tag b with
  | none => rfl
  | some t => have := (h.gr.gm.lt b (by rw [ht]; simp)).2; omega
theorem Dp.gw (h : Dp w base D m c F) (hz : w.heap.size ≤ w'.heap.size) : (∀ b, Gw F w w' b → m.tag b = none) ∧ ∀ b, Gw F w w' b → base ≤ b ∧ b < w'.heap.size := by
  refine ⟨fun b hb => ?_, fun b hb => ?_⟩
  · rcases hb with hb | hb
    · exact h.tg b hb
    · exact h.tag_new hb.1
  · rcases hb with hb | hb
    · have := h.fb b hb; omega
    · have := h.bs; omega
/-- The ripple turns. -/
theorem Dp.rip (h : Dp w base D m c F) {v' : Value} {l' : List HE} (hf : HF w' base D ((dcells c m).set 5 v') 5 v' l') (hp : Hp (keys l')) (ht : FitL l') (hc : Chg (fun b => b = D ∨ m.v.ownBlock = some b) w w') (hv : ∀ b, v'.ownBlock = some b → m.v.ownBlock = some b ∨ w.heap.size ≤ b) :
    Dp w' base D { m with v := v' } { c with rl := l' } (Gw F w w') ∧ Chg F w w' := by
  have hz := hc.size
  obtain ⟨g1, g2⟩ := h.gw (w' := w') hz
  have ne : ∀ {b : Nat} {t : TypeId}, Ty w b t → t ≠ 129 → t ≠ 171 → ¬ (b = D ∨ m.v.ownBlock = some b) := fun {b t} hb h1 h2 hh => by
    rcases hh with e | e
    · exact hb.ne h.tD h1 e
    · exact hb.ne (h.tv e) h2 rfl
  have hcF : Chg F w w' := hc.mono fun b _ hb => by
    rcases hb with e | e
    · rw [e]; exact h.fD
    · exact h.fv b e
  refine ⟨{ h with
    e := hf.1, gr := h.gr.other hcF fun b hb hF => hb (h.tg b hF), mp := map_chg h.mp hc ?_, lw := hc.own h.lw fun a ha => ne (h.tL ha) (by decide) (by decide)
    lx := fun p hp => hc.own (h.lx p hp) fun a ha => ne (h.tl hp ha) (by decide) (by decide), sb := hc.bk h.sb (ne h.tS (by decide) (by decide))
    sx := fun i hi hk => hc.own (h.sx i hi hk) fun a ha => ne (h.ty hi hk ha) (by decide) (by decide), rp := hf.2.2.1, hp := hp, ft := ht
    fD := .inl h.fD, fM := .inl h.fM, fS := .inl h.fS, fL := fun a ha => .inl (h.fL a ha), fl := fun p hp a ha => .inl (h.fl p hp a ha), fy := fun i hi hk a ha => .inl (h.fy i hi hk a ha)
    fv := fun b hb => ?_, tg := g1, fb := g2, bs := Nat.le_trans h.bs hz }, hcF⟩
  · intro hh
    rcases hh with e | e
    · exact map_ne h.mp h.tD e.symm
    · exact map_ne h.mp (h.tv e) rfl
  · rcases hv b hb with e | e
    · exact .inl (h.fv b e)
    · have hb' := own_ty hf.2.2.1 hb
      obtain ⟨⟨cs, hk⟩, _⟩ := hb'
      exact .inr ⟨e, hk.lt⟩
theorem range_set {k x : Nat} (hx : x < k) {f g : Nat → Value} (h : ∀ i, i < k → i ≠ x → g i = f i) : (List.range k).map g = ((List.range k).map f).set x (g x) := by
  apply List.ext_getElem?
  intro i
  rw [List.getElem?_set]
  by_cases e : x = i
  · subst e
    rw [if_pos rfl, if_pos (by simpa using hx)]
    simp [hx]
  · rw [if_neg e]
    rcases Nat.lt_or_ge i k with hi | hi
    · simp [hi, h i hi (Ne.symm e)]
    · simp [Nat.not_lt.2 hi]
/-- A symbol becomes known: new memory holds it. -/
theorem Dp.sym (h : Dp w base D m c F) {w0 : World} {x : Nat} (hx : x < c.k) (hsk : c.sk.length = c.k) (hk : knw c.sk (x : Int) = false) (hvl : c.vals.length = c.k) {A : Option Addr} {cc : Nat} {u : List UInt8} (ho : w.ownsRow base 5 1 (.slice A c.s cc) c.s (bys u)) (hn : ∀ a, A = some a → ¬ F a.block ∧ m.tag a.block = none) :
    Dp (w.setCell ⟨m.SB, x, none⟩ (.slice A c.s cc)) base D { m with sy := fun i => if i = x then (A, cc) else m.sy i } { c with sk := c.sk.set x true, vals := c.vals.set x u } (fun b => F b ∨ ∃ a, A = some a ∧ a.block = b) ∧ Chg F w (w.setCell ⟨m.SB, x, none⟩ (.slice A c.s cc)) := by
  have hc : Chg (fun b => b = m.SB) w (w.setCell ⟨m.SB, x, none⟩ (.slice A c.s cc)) := (Chg.refl (fun b => b = m.SB) w).set_ rfl _ _
  have hz := hc.size
  have ne : ∀ {b : Nat} {t : TypeId}, Ty w b t → t ≠ 83 → ¬ b = m.SB := fun hb h1 e => hb.ne h.tS h1 e
  have hcF : Chg F w (w.setCell ⟨m.SB, x, none⟩ (.slice A c.s cc)) := hc.mono fun b _ e => by rw [e]; exact h.fS
  have hAlt : ∀ a, A = some a → base ≤ a.block ∧ a.block < w.heap.size := own_lt ho
  have hkn : ∀ i : Nat, knw (c.sk.set x true) (i : Int) = (knw c.sk (i : Int) || decide (i = x)) := fun i => by
    rw [knw_set (by rw [hsk]; exact hx) (by omega)]
    congr 1
    have : ((i : Int) = (x : Int)) ↔ i = x := by omega
    simp only [this]
  have hgv : ∀ i, (c.vals.set x u).getD i [] = if i = x then u else c.vals.getD i [] := fun i => by
    simp only [List.getD_eq_getElem?_getD, List.getElem?_set]
    by_cases e : x = i
    · subst e; simp [hvl, hx]
    · simp [e, Ne.symm e]
  have hknx : ∀ i, i < c.k → i ≠ x → knw (c.sk.set x true) (i : Int) = true → knw c.sk (i : Int) = true := fun i _ hne hh => by rw [hkn, decide_eq_false hne, Bool.or_false] at hh; exact hh
  refine ⟨{ h with
    e := hc.bk h.e (ne h.tD (by decide)), gr := h.gr.other hcF fun b hb hF => hb (h.tg b hF), mp := map_chg h.mp hc (fun e => map_ne h.mp h.tS e.symm), lw := hc.own h.lw fun a ha => h.ls a ha
    lx := fun p hp => hc.own (h.lx p hp) fun a ha => ne (h.tl hp ha) (by decide), sb := ?_, sx := fun i hi hki => ?_, rp := h.rp.chg hc fun g hg => ne (h.tv hg) (by decide)
    ds := fun p i hp hi hki a b ha hb => ?_, fD := .inl h.fD, fM := .inl h.fM, fS := .inl h.fS, fL := fun a ha => .inl (h.fL a ha), fv := fun b hb => .inl (h.fv b hb), fl := fun p hp a ha => .inl (h.fl p hp a ha)
    fy := fun i hi hki a ha => ?_, tg := fun b hb => ?_, fb := fun b hb => ?_, bs := Nat.le_trans h.bs hz }, hcF⟩
  · have hs := h.sb.set_ x (.slice A c.s cc)
    have e : (List.range c.k).map (syv { c with sk := c.sk.set x true, vals := c.vals.set x u } { m with sy := fun i => if i = x then (A, cc) else m.sy i }) = ((List.range c.k).map (syv c m)).set x (.slice A c.s cc) := by
      rw [range_set hx (f := syv c m) (g := syv { c with sk := c.sk.set x true, vals := c.vals.set x u } { m with sy := fun i => if i = x then (A, cc) else m.sy i })]
      · congr 1
        unfold syv
        simp only []
        rw [hkn, decide_eq_true rfl, Bool.or_true]
        simp [pbv]
      · intro i hi hne
        unfold syv
        simp only []
        rw [hkn, decide_eq_false hne, Bool.or_false, if_neg hne]
    show Bk _ m.SB _ ((List.range c.k).map _)
    rw [e]
    exact hs
  · by_cases e : i = x
    · subst e
      show World.ownsRow _ base _ 1 (pbv c.s (if i = i then (A, cc) else m.sy i)) c.s (bys ((c.vals.set i u).getD i []))
      rw [if_pos rfl, hgv, if_pos rfl]
      exact hc.own ho fun a ha => ne (own_ty ho (own_b1 ha)).1 (by decide)
    · have hk' := hknx i hi e hki
      show World.ownsRow _ base _ 1 (pbv c.s (if i = x then (A, cc) else m.sy i)) c.s (bys ((c.vals.set x u).getD i []))
      rw [if_neg e, hgv, if_neg e]
      exact hc.own (h.sx i hi hk') fun a ha => ne (h.ty hi hk' ha) (by decide)
  · by_cases e : i = x
    · subst e
      have hb' : A = some b := by have := hb; simp only [if_true] at this; exact this
      intro e2
      exact (hn b hb').1 (e2 ▸ h.fl p hp a ha)
    · have hb' : (m.sy i).1 = some b := by have := hb; simp only [if_neg e] at this; exact this
      exact h.ds p i hp hi (hknx i hi e hki) a b ha hb'
  · by_cases e : i = x
    · subst e
      have ha' : A = some a := by have := ha; simp only [if_true] at this; exact this
      exact .inr ⟨a, ha', rfl⟩
    · have ha' : (m.sy i).1 = some a := by have := ha; simp only [if_neg e] at this; exact this
      exact .inl (h.fy i hi (hknx i hi e hki) a ha')
  · rcases hb with hb | ⟨a, ha, rfl⟩
    · exact h.tg b hb
    · exact (hn a ha).2
  · rcases hb with hb | ⟨a, ha, rfl⟩
    · have := h.fb b hb; omega
    · have := hAlt a ha; omega
/-- A row of bytes that is less by a symbol. -/
theorem Dp.less (h : Dp w base D m c F) {q g : Nat} (hq : q < c.lefts.length) (hg : ∀ a, (m.lp q).1 = some a → a.block = g) (hg2 : ∃ a, (m.lp q).1 = some a) {new : List UInt8} (hu : Chg (fun b => b = g) w w') (ho : w'.ownsRow base 5 1 (pbv c.s (m.lp q)) c.s (bys new)) :
    Dp w' base D m { c with lefts := c.lefts.set q new } F ∧ Chg F w w' := by
  obtain ⟨a0, ha0⟩ := hg2
  have hgb := hg a0 ha0
  have htg := h.tl hq ha0
  rw [hgb] at htg
  have ne : ∀ {b : Nat} {t : TypeId}, Ty w b t → t ≠ 5 → ¬ b = g := fun hb h1 e => hb.ne htg h1 e
  have hFg : F g := by rw [← hgb]; exact h.fl q hq a0 ha0
  have hcF : Chg F w w' := hu.mono fun b _ e => by rw [e]; exact hFg
  have hz := hu.size
  have hlen : (c.lefts.set q new).length = c.lefts.length := List.length_set ..
  refine ⟨{ h with
    e := ?_, gr := h.gr.other hcF fun b hb hF => hb (h.tg b hF), mp := map_chg h.mp hu (fun e => map_ne h.mp htg e.symm), lw := ?_, ll := by rw [hlen]; exact h.ll
    lx := fun p hp => ?_, sb := hu.bk h.sb (ne h.tS (by decide)), sx := fun i hi hk => hu.own (h.sx i hi hk) fun a ha e => h.ds q i hq hi hk a0 a ha0 ha (by rw [hgb]; exact e.symm), rp := h.rp.chg hu fun b hb => ne (h.tv hb) (by decide)
    dl := fun p r hp hr => h.dl p r (by rw [← hlen]; exact hp) (by rw [← hlen]; exact hr), ds := fun p i hp => h.ds p i (by rw [← hlen]; exact hp), fl := fun p hp => h.fl p (by rw [← hlen]; exact hp)
    fb := fun b hb => by have := h.fb b hb; omega
    bs := Nat.le_trans h.bs hz }, hcF⟩
  · have := hu.bk h.e (ne h.tD (by decide))
    unfold dcells at this ⊢
    simp only [hlen]
    exact this
  · show w'.ownsRow _ _ _ (.slice m.LA (c.lefts.set q new).length m.lc) (c.lefts.set q new).length _
    rw [hlen]
    exact hu.own h.lw fun a ha => ne (h.tL ha) (by decide)
  · have hp' : p < c.lefts.length := by rw [← hlen]; exact hp
    show w'.ownsRow _ _ _ (pbv c.s (m.lp p)) c.s (bys ((c.lefts.set q new).getD p []))
    by_cases e : q = p
    · subst e
      have : (c.lefts.set q new).getD q [] = new := by simp [List.getD_eq_getElem?_getD, hq]
      rw [this]; exact ho
    · have : (c.lefts.set q new).getD p [] = c.lefts.getD p [] := by simp [List.getD_eq_getElem?_getD, e]
      rw [this]
      exact hu.own (h.lx p hp') fun a ha e2 => h.dl q p hq hp' e a0 a ha0 ha (by rw [hgb]; exact e2.symm)
/-- The graph turns. -/
theorem Dp.graph (h : Dp w base D m c F) {tag' : Nat → Option Nat} {L' : GL} {kn' : List Bool} {sets' : List (List Int)} (hg : Gr w' base m.G tag' L' kn' sets' c.most) (hk : kn'.length = c.k) (hc : Chg (fun b => m.tag b ≠ none) w w') (ht : ∀ b, b < w.heap.size → tag' b = m.tag b) :
    Dp w' base D { m with tag := tag', L := L' } { c with kn := kn', sets := sets' } F ∧ Chg (m.all F) w w' := by
  have hz := hc.size
  have hF : ∀ b, F b → ¬ (m.tag b ≠ none) := fun b hb hh => hh (h.tg b hb)
  exact ⟨{ h with
    e := hc.bk h.e (hF _ h.fD), gr := hg, gk := hk, mp := map_chg h.mp hc (hF _ h.fM), lw := hc.own h.lw fun a ha => hF _ (h.fL a ha), lx := fun p hp => hc.own (h.lx p hp) fun a ha => hF _ (h.fl p hp a ha)
    sb := hc.bk h.sb (hF _ h.fS), sx := fun i hi hk => hc.own (h.sx i hi hk) fun a ha => hF _ (h.fy i hi hk a ha), rp := h.rp.chg hc fun g hg => hF _ (h.fv g hg)
    tg := fun b hb => (ht b (h.fb b hb).2).trans (h.tg b hb), fb := fun b hb => by have := h.fb b hb; omega
    bs := Nat.le_trans h.bs hz }, hc.mono fun b _ hb => .inr hb⟩
/-- A number has come. -/
theorem Dp.came (h : Dp w base D m c F) {id : Int} (hm : w'.ownsMap Tryz.prog 3 unitElem m.M (m.mn + 1) (idD (c.ids ++ [id]))) (hg : w.grownBy w' (some m.M)) (hn : m.mn < 1000000) :
    Dp w' base D { m with mn := m.mn + 1 } { c with ids := c.ids ++ [id] } F ∧ Chg F w w' := by
  have hc : Chg (fun b => b = m.M) w w' := Chg.of_grown hg fun k hk => by injection hk with hk; exact hk.symm
  have hcF : Chg F w w' := hc.mono fun b _ e => by rw [e]; exact h.fM
  have hz := hc.size
  have ne : ∀ {b : Nat} {t : TypeId}, Ty w b t → ¬ b = m.M := fun hb e => map_ne h.mp hb e
  exact ⟨{ h with
    e := hc.bk h.e (ne h.tD), gr := h.gr.other hcF fun b hb hF => hb (h.tg b hF), mp := hm, mq := by show m.mn + 1 ≤ 1000000; omega, lw := hc.own h.lw fun a ha => ne (h.tL ha), lx := fun p hp => hc.own (h.lx p hp) fun a ha => ne (h.tl hp ha)
    sb := hc.bk h.sb (ne h.tS), sx := fun i hi hk => hc.own (h.sx i hi hk) fun a ha => ne (h.ty hi hk ha), rp := h.rp.chg hc fun g hg => ne (h.tv hg)
    fb := fun b hb => by have := h.fb b hb; omega
    bs := Nat.le_trans h.bs hz }, hcF⟩
/-- A payload more. -/
theorem Dp.lay (h : Dp w base D m c F) {A : Option Addr} {cc : Nat} {u : List UInt8} (ho : w.ownsRow base 5 1 (.slice A c.s cc) c.s (bys u)) (hn : ∀ a, A = some a → ¬ F a.block ∧ m.tag a.block = none) {A1 : Option Addr} {c1 : Nat}
    (hr : w'.ownsRow base 83 1 (.slice A1 (c.lefts.length + 1) c1) (c.lefts.length + 1) (m.lf.map (pbv c.s) ++ [.slice A c.s cc])) (hc : Chg (fun b => b ∈ blk m.LA) w w') (hat : ∀ a, A1 = some a → a.block ∈ blk m.LA ∨ w.heap.size ≤ a.block) :
    Dp (w'.setCell ⟨D, 3, none⟩ (.slice A1 (c.lefts.length + 1) c1)) base D { m with LA := A1, lc := c1, lf := m.lf ++ [(A, cc)] } { c with lefts := c.lefts ++ [u] } (fun b => Gw F w w' b ∨ ∃ a, A = some a ∧ a.block = b) ∧ Chg F w (w'.setCell ⟨D, 3, none⟩ (.slice A1 (c.lefts.length + 1) c1)) := by
  have hz := hc.size
  have hAlt : ∀ a, A = some a → base ≤ a.block ∧ a.block < w.heap.size := own_lt ho
  have neL : ∀ {b : Nat} {t : TypeId}, Ty w b t → t ≠ 83 → ¬ b ∈ blk m.LA := fun {b t} hb h1 e => by
    obtain ⟨a, ha, e⟩ := mem_blk.1 e
    subst e
    exact hb.ne (h.tL ha) h1 rfl
  have hSB : ¬ m.SB ∈ blk m.LA := fun e => by
    obtain ⟨a, ha, e⟩ := mem_blk.1 e
    exact h.ls a ha e
  have hE : Bk w' D 129 (dcells c m) := hc.bk h.e (neL h.tD (by decide))
  have hcE : Chg (fun b => b = D) w' (w'.setCell ⟨D, 3, none⟩ (.slice A1 (c.lefts.length + 1) c1)) := (Chg.refl (fun b => b = D) w').set_ rfl _ _
  have hz' := hcE.size
  have ne : ∀ {b : Nat} {t : TypeId}, Ty w' b t → t ≠ 129 → ¬ b = D := fun hb h1 e => hb.ne ⟨_, hE⟩ h1 e
  have hcF : Chg F w (w'.setCell ⟨D, 3, none⟩ (.slice A1 (c.lefts.length + 1) c1)) := (hc.mono (T := F) fun b _ hb => by
    obtain ⟨a, ha, e⟩ := mem_blk.1 hb
    rw [← e]; exact h.fL a ha).trans hcE fun b _ e => by rw [e]; exact h.fD
  obtain ⟨g1, g2⟩ := h.gw (w' := w') hz
  have tyw : ∀ {b : Nat} {t : TypeId}, Ty w b t → t ≠ 83 → Ty w' b t := fun hb h1 => hb.chg hc (neL hb h1)
  have hlp : ∀ p, p < c.lefts.length → (m.lf ++ [(A, cc)]).getD p (none, 0) = m.lp p := fun p hp => by
    unfold DM.lp
    simp only [List.getD_eq_getElem?_getD, List.getElem?_append_left (show p < m.lf.length by rw [h.ll]; exact hp)]
  have hlast : (m.lf ++ [(A, cc)]).getD c.lefts.length (none, 0) = (A, cc) := by
    rw [← h.ll]; simp [List.getD_eq_getElem?_getD]
  have hll : ∀ p, p < c.lefts.length → (c.lefts ++ [u]).getD p [] = c.lefts.getD p [] := fun p hp => by simp only [List.getD_eq_getElem?_getD, List.getElem?_append_left hp]
  have hlu : (c.lefts ++ [u]).getD c.lefts.length [] = u := by simp [List.getD_eq_getElem?_getD]
  have hlen : (c.lefts ++ [u]).length = c.lefts.length + 1 := by rw [List.length_append]; rfl
  have ho' := hc.own ho fun a ha => neL (own_ty ho (own_b1 ha)).1 (by decide)
  have ho2 := hcE.own ho' fun a ha => ne (own_ty ho' (own_b1 ha)).1 (by decide)
  refine ⟨{ h with
    e := ?_, gr := h.gr.other hcF fun b hb hF => hb (h.tg b hF), mp := map_chg (map_chg h.mp hc ?_) hcE ?_, lw := ?_, ll := by show (m.lf ++ [(A, cc)]).length = _; rw [hlen, List.length_append, h.ll]; rfl
    lx := fun p hp => ?_, sb := hcE.bk (hc.bk h.sb hSB) (ne (h.tS.chg hc hSB) (by decide)), sx := fun i hi hk => ?_, rp := (h.rp.chg hc fun g hg => neL (h.tv hg) (by decide)).chg hcE fun g hg => ne (tyw (h.tv hg) (by decide)) (by decide)
    dl := fun p q hp hq hpq a b ha hb => ?_, ds := fun p i hp hi hk a b ha hb => ?_, ls := fun a ha => ?_
    fD := .inl (.inl h.fD), fM := .inl (.inl h.fM), fS := .inl (.inl h.fS), fL := fun a ha => ?_, fv := fun b hb => .inl (.inl (h.fv b hb)), fl := fun p hp a ha => ?_, fy := fun i hi hk a ha => .inl (.inl (h.fy i hi hk a ha))
    tg := fun b hb => ?_, fb := fun b hb => ?_, bs := by have := h.bs; omega }, hcF⟩
  · have := hE.set_ 3 (.slice A1 (c.lefts.length + 1) c1)
    unfold dcells at this ⊢
    simp only [hlen]
    exact this
  · intro e
    obtain ⟨a, ha, e⟩ := mem_blk.1 e
    exact map_ne h.mp (h.tL ha) e
  · intro e
    exact map_ne h.mp h.tD e.symm
  · show World.ownsRow _ _ _ _ (.slice A1 (c.lefts ++ [u]).length c1) (c.lefts ++ [u]).length ((m.lf ++ [(A, cc)]).map (pbv c.s))
    rw [hlen, List.map_append]
    exact hcE.own hr fun a ha => ne (own_ty hr (own_b1 ha)).1 (by decide)
  · show World.ownsRow _ _ _ _ (pbv c.s ((m.lf ++ [(A, cc)]).getD p (none, 0))) c.s (bys ((c.lefts ++ [u]).getD p []))
    have hp' : p < c.lefts.length + 1 := by rw [← hlen]; exact hp
    rcases Nat.lt_or_ge p c.lefts.length with h1 | h1
    · rw [hlp p h1, hll p h1]
      exact hcE.own (hc.own (h.lx p h1) fun a ha => neL (h.tl h1 ha) (by decide)) fun a ha => ne (tyw (h.tl h1 ha) (by decide)) (by decide)
    · obtain rfl : p = c.lefts.length := by omega
      rw [hlast, hlu]
      exact ho2
  · exact hcE.own (hc.own (h.sx i hi hk) fun a ha => neL (h.ty hi hk ha) (by decide)) fun a ha => ne (tyw (h.ty hi hk ha) (by decide)) (by decide)
  · have hp' : p < c.lefts.length + 1 := by rw [← hlen]; exact hp
    have hq' : q < c.lefts.length + 1 := by rw [← hlen]; exact hq
    have ha' : ((m.lf ++ [(A, cc)]).getD p (none, 0)).1 = some a := ha
    have hb' : ((m.lf ++ [(A, cc)]).getD q (none, 0)).1 = some b := hb
    rcases Nat.lt_or_ge p c.lefts.length with h1 | h1 <;> rcases Nat.lt_or_ge q c.lefts.length with h2 | h2
    · rw [hlp p h1] at ha'; rw [hlp q h2] at hb'
      exact h.dl p q h1 h2 hpq a b ha' hb'
    · obtain rfl : q = c.lefts.length := by omega
      rw [hlp p h1] at ha'; rw [hlast] at hb'
      exact fun e => (hn b hb').1 (e ▸ h.fl p h1 a ha')
    · obtain rfl : p = c.lefts.length := by omega
      rw [hlp q h2] at hb'; rw [hlast] at ha'
      exact fun e => (hn a ha').1 (e ▸ h.fl q h2 b hb')
    · omega
  · have hp' : p < c.lefts.length + 1 := by rw [← hlen]; exact hp
    have ha' : ((m.lf ++ [(A, cc)]).getD p (none, 0)).1 = some a := ha
    rcases Nat.lt_or_ge p c.lefts.length with h1 | h1
    · rw [hlp p h1] at ha'
      exact h.ds p i h1 hi hk a b ha' hb
    · obtain rfl : p = c.lefts.length := by omega
      rw [hlast] at ha'
      exact fun e => (hn a ha').1 (e ▸ h.fy i hi hk b hb)
  · intro e
    rcases hat a ha with h1 | h1
    · obtain ⟨a', ha', e'⟩ := mem_blk.1 h1
      exact h.ls a' ha' (e'.trans e)
    · have := (h.fb _ h.fS).2
      have e' : a.block = m.SB := e
      omega
  · rcases hat a ha with h1 | h1
    · obtain ⟨a', ha', e'⟩ := mem_blk.1 h1
      rw [← e']; exact .inl (.inl (h.fL a' ha'))
    · exact .inl (.inr ⟨h1, (own_lt hr a ha).2⟩)
  · have hp' : p < c.lefts.length + 1 := by rw [← hlen]; exact hp
    have ha' : ((m.lf ++ [(A, cc)]).getD p (none, 0)).1 = some a := ha
    rcases Nat.lt_or_ge p c.lefts.length with h1 | h1
    · rw [hlp p h1] at ha'
      exact .inl (.inl (h.fl p h1 a ha'))
    · obtain rfl : p = c.lefts.length := by omega
      rw [hlast] at ha'
      exact .inr ⟨a, ha', rfl⟩
  · rcases hb with hb | ⟨a, ha, rfl⟩
    · exact g1 b hb
    · exact (hn a ha).2
  · rcases hb with hb | ⟨a, ha, rfl⟩
    · have := g2 b hb; omega
    · have := hAlt a ha; omega
end
end Go.Proofs.YtlhipaffhehcnaaGreat
