/- Chapter 21: peeling, plain. artesiankit.LentBytes, KeptBytes. Lists of bytes: SameSymbols, CopySymbols, OverSymbols, LongSymbols of artesiankit. Words for memory of chapter 21 (as in chapter 31). Printed by mk_Wd21.py. -/
import Derived.Test.YtlhipaffhehcnaaGreatT08
import Derived.Test.YtlhipaffhehcnaaGreatT09
import Derived.Test.YtlhipaffhehcnaaGreatT10
import Derived.Test.YtlhipaffhehcnaaGreatT04
import Derived.BigRegion
import Derived.Maps.Own
import Derived.Maps.OwnSet
import Derived.Maps.Views
import Derived.Carry
namespace Go.Proofs.YtlhipaffhehcnaaGreat
open Go.RowKit
set_option linter.unusedVariables false
def xv (vals : List (List UInt8)) (x : Int) : List UInt8 := vals.getD x.toNat []
/-- A payload, with the symbols that are known taken out. -/
def lv (kn : List Bool) (vals : List (List UInt8)) (set : List Int) (p : List UInt8) : List UInt8 := set.foldl (fun a x => if knw kn x then xorL a (xv vals x) else a) p
theorem xorL_swap (a b c : List UInt8) : xorL (xorL a b) c = xorL (xorL a c) b := by rw [xorL_assoc, xorL_comm b c, ← xorL_assoc]
theorem lv_xor (kn : List Bool) (vals : List (List UInt8)) : ∀ (set : List Int) (p v : List UInt8), lv kn vals set (xorL p v) = xorL (lv kn vals set p) v
  | [], p, v => rfl
  | x :: set, p, v => by
    show lv kn vals set (if knw kn x then xorL (xorL p v) (xv vals x) else xorL p v) = xorL (lv kn vals set (if knw kn x then xorL p (xv vals x) else p)) v
    cases knw kn x
    · exact lv_xor kn vals set p v
    · simp only [if_true]
      rw [xorL_swap, lv_xor kn vals set]
theorem xv_set {vals : List (List UInt8)} {i : Nat} (hi : i < vals.length) (v : List UInt8) {x : Int} (hx : 0 ≤ x) : xv (vals.set i v) x = if x = (i : Int) then v else xv vals x := by
  unfold xv
  simp only [List.getD_eq_getElem?_getD, List.getElem?_set]
  by_cases e : i = x.toNat
  · have e' : x = (i : Int) := by omega
    simp [e', hi]
  · have e' : ¬ (x = (i : Int)) := by omega
    simp [e, e']
/-- One more symbol is known. -/
theorem lv_set {kn : List Bool} {vals : List (List UInt8)} {i : Nat} (hi : i < kn.length) (hv : i < vals.length) (hk : knw kn (i : Int) = false) (v : List UInt8) : ∀ (set : List Int) (p : List UInt8), set.Nodup → (∀ x ∈ set, 0 ≤ x) →
    lv (kn.set i true) (vals.set i v) set p = if (i : Int) ∈ set then xorL (lv kn vals set p) v else lv kn vals set p
  | [], p, _, _ => rfl
  | x :: set, p, hd, h0 => by
    rw [List.nodup_cons] at hd
    have hx := h0 x (List.mem_cons_self ..)
    have ih := fun p => lv_set hi hv hk v set p hd.2 (fun y hy => h0 y (List.mem_cons_of_mem _ hy))
    show lv (kn.set i true) (vals.set i v) set (if knw (kn.set i true) x then xorL p (xv (vals.set i v) x) else p) = if (i : Int) ∈ x :: set then xorL (lv kn vals set (if knw kn x then xorL p (xv vals x) else p)) v else lv kn vals set (if knw kn x then xorL p (xv vals x) else p)
    rw [knw_set hi hx, xv_set hv v hx]
    by_cases e : x = (i : Int)
    · subst e
      rw [ih, if_neg hd.1, hk]
      simp [lv_xor]
    · have e2 : ((i : Int) ∈ x :: set) ↔ ((i : Int) ∈ set) := by simp [Ne.symm e]
      rw [if_neg e, decide_eq_false e, Bool.or_false, ih]
      simp only [e2]
theorem lv_length {kn : List Bool} {vals : List (List UInt8)} {s : Nat} : ∀ (set : List Int) (p : List UInt8), p.length = s → (∀ x ∈ set, knw kn x = true → (xv vals x).length = s) → (lv kn vals set p).length = s
  | [], p, hp, _ => hp
  | x :: set, p, hp, h => by
    show (lv kn vals set (if knw kn x then xorL p (xv vals x) else p)).length = s
    refine lv_length set _ ?_ fun y hy => h y (List.mem_cons_of_mem _ hy)
    split
    · rename_i hk
      rw [xorL_length _ _ (by rw [hp, h x (List.mem_cons_self ..) hk]), hp]
    · exact hp
/-- A decoder. -/
structure DS where
  k : Nat
  s : Nat
  most : Int
  ids : List Int
  sets : List (List Int)
  pays : List (List UInt8)
  kn : List Bool
  vals : List (List UInt8)
def DS.set (d : DS) (p : Nat) : List Int := d.sets.getD p []
def DS.pay (d : DS) (p : Nat) : List UInt8 := d.pays.getD p []
def DS.left (d : DS) (p : Nat) : List UInt8 := lv d.kn d.vals (d.set p) (d.pay p)
def DS.lefts (d : DS) : List (List UInt8) := (List.range d.sets.length).map d.left
structure DS.ok (d : DS) : Prop where
  k1 : 1 ≤ d.k ∧ d.k ≤ 100
  s1 : 1 ≤ d.s ∧ d.s ≤ 65535
  ni : d.ids.length = d.sets.length
  np : d.pays.length = d.sets.length
  nm : (d.sets.length : Int) ≤ d.most
  m1 : 1 ≤ d.most ∧ d.most ≤ 1048576
  kl : d.kn.length = d.k
  vl : d.vals.length = d.k
  ss : Ssets d.k d.sets
  pl : ∀ p ∈ d.pays, p.length = d.s
  vs : ∀ i, i < d.k → knw d.kn (i : Int) = true → (d.vals.getD i []).length = d.s
  id : ∀ i ∈ d.ids, 0 ≤ i ∧ i ≤ 4294967295
theorem DS.ok.vx {d : DS} (h : d.ok) {x : Int} (h0 : 0 ≤ x ∧ x < d.k) (hk : knw d.kn x = true) : (xv d.vals x).length = d.s := by
  obtain ⟨i, rfl⟩ : ∃ i : Nat, x = i := ⟨x.toNat, by omega⟩
  exact h.vs i (by omega) hk
theorem DS.ok.sset {d : DS} (h : d.ok) {p : Nat} (hp : p < d.sets.length) : Sset d.k (d.set p) := h.ss _ (getD_mem hp)
theorem DS.ok.payl {d : DS} (h : d.ok) {p : Nat} (hp : p < d.sets.length) : (d.pay p).length = d.s := by
  have : p < d.pays.length := by rw [h.np]; exact hp
  unfold DS.pay
  rw [List.getD_eq_getElem?_getD, List.getElem?_eq_getElem this]
  exact h.pl _ (List.getElem_mem this)
theorem DS.ok.leftl {d : DS} (h : d.ok) {p : Nat} (hp : p < d.sets.length) : (d.left p).length = d.s :=
  lv_length _ _ (h.payl hp) fun x hx hk => h.vx ((h.sset hp).inr x hx) hk
/-- The packet that tells the least symbol, the first of these. -/
def Next (d : DS) (x p : Nat) : Prop := p < d.sets.length ∧ rst d.kn (d.set p) = [(x : Int)] ∧ ∀ q (y : Int), q < d.sets.length → rst d.kn (d.set q) = [y] → (x : Int) < y ∨ ((x : Int) = y ∧ p ≤ q)
def Stable (d : DS) : Prop := ∀ q, q < d.sets.length → ∀ y, rst d.kn (d.set q) ≠ [y]
def DS.put (d : DS) (x : Nat) (v : List UInt8) : DS := { d with kn := d.kn.set x true, vals := d.vals.set x v }
def DS.took (d : DS) (x p : Nat) : DS := d.put x (d.left p)
theorem Next.uniq {d : DS} {x p y q : Nat} (h : Next d x p) (h' : Next d y q) : x = y ∧ p = q := by
  have h1 := h.2.2 q y h'.1 h'.2.1
  have h2 := h'.2.2 p x h.1 h.2.1
  omega
theorem Next.mem {d : DS} {x p : Nat} (h : Next d x p) : (x : Int) ∈ d.set p ∧ knw d.kn (x : Int) = false := mem_rst.1 (by rw [h.2.1]; exact List.mem_cons_self ..)
theorem Next.lt {d : DS} (hd : d.ok) {x p : Nat} (h : Next d x p) : x < d.k := by have := (hd.sset h.1).inr x h.mem.1; omega
theorem DS.ok.took {d : DS} (hd : d.ok) {x p : Nat} (h : Next d x p) : (d.took x p).ok := by
  have hx := h.lt hd
  refine { hd with kl := ?_, vl := ?_, vs := fun i hi hk => ?_ }
  · show (d.kn.set x true).length = d.k; rw [List.length_set]; exact hd.kl
  · show (d.vals.set x _).length = d.k; rw [List.length_set]; exact hd.vl
  · have hi' : i < d.k := hi
    show ((d.vals.set x (d.left p)).getD i []).length = d.s
    have e := xv_set (vals := d.vals) (i := x) (by rw [hd.vl]; exact hx) (d.left p) (x := (i : Int)) (by omega)
    unfold xv at e
    rw [Int.toNat_natCast] at e
    rw [e]
    by_cases e2 : (i : Int) = (x : Int)
    · rw [if_pos e2]; exact hd.leftl h.1
    · rw [if_neg e2]
      have hk' : knw (d.kn.set x true) (i : Int) = true := hk
      rw [knw_set (by rw [hd.kl]; exact hx) (by omega), decide_eq_false e2, Bool.or_false] at hk'
      exact hd.vs i hi' hk'
/-- What is told, one symbol behind the other. -/
inductive Peels : DS → List Int → DS → Prop
  | nil (d : DS) : Peels d [] d
  | cons {d d' : DS} {l : List Int} {x p : Nat} (h : Next d x p) (t : Peels (d.took x p) l d') : Peels d ((x : Int) :: l) d'
theorem Peels.snoc {d d' : DS} {l : List Int} {x p : Nat} (h : Peels d l d') (hn : Next d' x p) : Peels d (l ++ [(x : Int)]) (d'.took x p) := by
  induction h with
  | nil d => exact .cons hn (.nil _)
  | cons h t ih => exact .cons h (ih hn)
theorem Peels.uniq {d d1 : DS} {l1 : List Int} (h1 : Peels d l1 d1) (s1 : Stable d1) : ∀ {d2 : DS} {l2 : List Int}, Peels d l2 d2 → Stable d2 → l1 = l2 ∧ d1 = d2 := by
  induction h1 with
  | nil d =>
    intro d2 l2 h2 _
    cases h2 with
    | nil => exact ⟨rfl, rfl⟩
    | cons h t => exact absurd h.2.1 (s1 _ h.1 _)
  | cons h t ih =>
    intro d2 l2 h2 s2
    cases h2 with
    | nil => exact absurd h.2.1 (s2 _ h.1 _)
    | cons h' t' =>
      obtain ⟨rfl, rfl⟩ := h.uniq h'
      obtain ⟨rfl, rfl⟩ := ih s1 t' s2
      exact ⟨rfl, rfl⟩
theorem Peels.ok {d d' : DS} {l : List Int} (h : Peels d l d') : d.ok → d'.ok := by
  induction h with
  | nil d => exact id
  | cons h t ih => exact fun hd => ih (hd.took h)
theorem Peels.same {d d' : DS} {l : List Int} (h : Peels d l d') : d'.k = d.k ∧ d'.s = d.s ∧ d'.most = d.most ∧ d'.ids = d.ids ∧ d'.sets = d.sets ∧ d'.pays = d.pays := by
  induction h with
  | nil d => exact ⟨rfl, rfl, rfl, rfl, rfl, rfl⟩
  | cons h t ih => exact ih
theorem Peels.len {d d' : DS} {l : List Int} (h : Peels d l d') : d.ok → l.length + unk d'.kn = unk d.kn := by
  induction h with
  | nil d => intro _; simp
  | @cons d d' l x p h t ih =>
    intro hd
    have := ih (hd.took h)
    have h2 : unk (d.kn.set x true) + 1 = unk d.kn := unk_set (by rw [hd.kl]; exact h.lt hd) h.mem.2
    have h3 : unk (d.took x p).kn = unk (d.kn.set x true) := rfl
    rw [List.length_cons]
    omega
/-- A packet more. -/
def DS.addP (d : DS) (id : Int) (set : List Int) (pay : List UInt8) : DS := { d with ids := d.ids ++ [id], sets := d.sets ++ [set], pays := d.pays ++ [pay] }
def DS.err (d : DS) (id : Int) (set : List Int) (pay : List UInt8) : Int :=
  if id < 0 ∨ 4294967295 < id then 3 else if setB d.k set = false ∨ pay.length ≠ d.s then 2 else if id ∈ d.ids then 11 else if d.most ≤ d.sets.length then 9 else 0
theorem DS.ok.addP {d : DS} (hd : d.ok) {id : Int} {set : List Int} {pay : List UInt8} (h : d.err id set pay = 0) : (d.addP id set pay).ok := by
  unfold DS.err at h
  split at h
  · cases h
  rename_i c1
  split at h
  · cases h
  rename_i c2
  split at h
  · cases h
  split at h
  · cases h
  rename_i c4
  have c21 : setB d.k set = true := by cases hs : setB d.k set with | true => rfl | false => exact absurd (.inl hs) c2
  have c22 : pay.length = d.s := Decidable.byContradiction fun h => c2 (.inr h)
  have := hd.nm
  refine { hd with ni := ?_, np := ?_, nm := ?_, ss := ?_, pl := ?_, id := ?_ }
  · show (d.ids ++ [id]).length = (d.sets ++ [set]).length; rw [List.length_append, List.length_append, hd.ni]; rfl
  · show (d.pays ++ [pay]).length = (d.sets ++ [set]).length; rw [List.length_append, List.length_append, hd.np]; rfl
  · show ((d.sets ++ [set]).length : Int) ≤ d.most; rw [List.length_append]; simp; omega
  · intro l hl
    rcases List.mem_append.1 hl with e | e
    · exact hd.ss l e
    · rw [List.mem_singleton.1 e]; exact c21
  · intro l hl
    rcases List.mem_append.1 hl with e | e
    · exact hd.pl l e
    · rw [List.mem_singleton.1 e]; exact c22
  · intro i hi
    rcases List.mem_append.1 hi with e | e
    · exact hd.id i e
    · rw [List.mem_singleton.1 e]; omega
/-- What stands in the ripple: of each packet with one symbol left that symbol; else nothing but what is known. -/
def RipX (d : DS) (l : List HE) (ex : List Int) : Prop :=
  (∀ e ∈ l, ∃ x p : Nat, e.a = x ∧ e.b = p ∧ p < d.sets.length ∧ x < d.k ∧ (knw d.kn (x : Int) = true ∨ rst d.kn (d.set p) = [(x : Int)])) ∧
  ∀ p, p < d.sets.length → ¬ (p : Int) ∈ ex → ∀ x : Int, rst d.kn (d.set p) = [x] → ∃ e ∈ l, e.a = x ∧ e.b = p
theorem RipX.perm {d : DS} {l l' : List HE} {ex : List Int} (h : RipX d l ex) (hp : l'.Perm l) : RipX d l' ex :=
  ⟨fun e he => h.1 e (hp.mem_iff.1 he), fun p h1 h2 x h3 => by obtain ⟨e, he, h4⟩ := h.2 p h1 h2 x h3; exact ⟨e, hp.mem_iff.2 he, h4⟩⟩
theorem RipX.fit {d : DS} (hd : d.ok) {l : List HE} {ex : List Int} (h : RipX d l ex) : FitL l := fun e he => by
  obtain ⟨x, p, _, h2, h3, _⟩ := h.1 e he
  have := hd.nm; have := hd.m1
  exact ⟨by omega, by omega⟩
theorem key_lex {e f : HE} (he : e.fit) (hf : f.fit) (h : e.key ≤ f.key) : e.a < f.a ∨ (e.a = f.a ∧ e.b ≤ f.b) := by
  have h1 := he.1; have h2 := he.2; have h3 := hf.1; have h4 := hf.2
  unfold HE.key at h
  omega
theorem RipX.stable {d : DS} (h : RipX d [] []) : Stable d := fun q hq y hy => by
  obtain ⟨e, he, _⟩ := h.2 q hq (by simp) y hy
  simp at he
/-- What is popped is stale. -/
theorem RipX.stale {d : DS} {e : HE} {l : List HE} (h : RipX d (e :: l) []) (hk : knw d.kn e.a = true) : RipX d l [] :=
  ⟨fun f hf => h.1 f (List.mem_cons_of_mem _ hf), fun p h1 h2 x h3 => by
    obtain ⟨f, hf, h4, h5⟩ := h.2 p h1 h2 x h3
    rcases List.mem_cons.1 hf with e' | e'
    · subst e'
      have := (mem_rst.1 (by rw [h3]; exact List.mem_cons_self ..) : x ∈ d.set p ∧ knw d.kn x = false).2
      rw [← h4, hk] at this; cases this
    · exact ⟨f, e', h4, h5⟩⟩
/-- What is popped is next. -/
theorem RipX.next {d : DS} (hd : d.ok) {e : HE} {l : List HE} (h : RipX d (e :: l) []) (hk : knw d.kn e.a = false) (hm : ∀ f ∈ e :: l, e.key ≤ f.key) : ∃ x p : Nat, e.a = x ∧ e.b = p ∧ Next d x p := by
  have hf := h.fit hd
  obtain ⟨x, p, h1, h2, h3, h4, h5⟩ := h.1 e (List.mem_cons_self ..)
  refine ⟨x, p, h1, h2, h3, ?_, fun q y hq hy => ?_⟩
  · rcases h5 with h5 | h5
    · rw [h1, h5] at hk; cases hk
    · exact h5
  · obtain ⟨f, hfl, h6, h7⟩ := h.2 q hq (by simp) y hy
    have := key_lex (hf e (List.mem_cons_self ..)) (hf f hfl) (hm f hfl)
    omega
theorem rst_put {d : DS} (hd : d.ok) {x : Nat} (hx : x < d.k) (p : Nat) (hp : p < d.sets.length) : rst (d.kn.set x true) (d.set p) = (rst d.kn (d.set p)).filter fun y => !decide (y = (x : Int)) :=
  rst_set (by rw [hd.kl]; exact hx) ((hd.sset hp).inR (by have := hd.k1; omega))
/-- .. and what is left to be put in when it has been taken. -/
theorem RipX.took {d : DS} (hd : d.ok) {e : HE} {l : List HE} {x p : Nat} (h : RipX d (e :: l) []) (h1 : e.a = x) (h2 : e.b = p) (hn : Next d x p) : RipX (d.took x p) l (tkL d.kn d.sets (x : Int)) := by
  have hx := hn.lt hd
  have hkx := hn.mem.2
  refine ⟨fun f hf => ?_, fun q hq hex y hy => ?_⟩
  · obtain ⟨a, b, f1, f2, f3, f4, f5⟩ := h.1 f (List.mem_cons_of_mem _ hf)
    refine ⟨a, b, f1, f2, f3, f4, ?_⟩
    show knw (d.kn.set x true) (a : Int) = true ∨ rst (d.kn.set x true) (d.set b) = [(a : Int)]
    rw [knw_set (by rw [hd.kl]; exact hx) (by omega)]
    rcases f5 with f5 | f5
    · left; rw [f5]; rfl
    · by_cases ea : (a : Int) = (x : Int)
      · left; rw [decide_eq_true ea, Bool.or_true]
      · right
        rw [rst_put hd hx b f3, f5, List.filter_cons_of_pos (by simp [ea])]; rfl
  · have hq' : q < d.sets.length := hq
    have hy' : rst (d.kn.set x true) (d.set q) = [y] := hy
    have hS := hd.sset hq'
    by_cases hm : (x : Int) ∈ d.set q
    · refine absurd ?_ hex
      unfold tkL
      have hin : inK d.kn (x : Int) = true := decide_eq_true (by rw [hd.kl]; omega)
      rw [hin, hkx]
      refine List.mem_filter.2 ⟨mem_holds.2 ⟨q, rfl, hq', hm⟩, ?_⟩
      rw [Int.toNat_natCast, Int.toNat_natCast]
      show ((rst (d.kn.set x true) (d.set q)).length == 1) = true
      rw [hy']; rfl
    · rw [rst_put hd hx q hq'] at hy'
      have hnm : ∀ z ∈ rst d.kn (d.set q), z ≠ (x : Int) := fun z hz e => hm (e ▸ (mem_rst.1 hz).1)
      rw [List.filter_eq_self.2 (fun z hz => by simp [hnm z hz])] at hy'
      obtain ⟨f, hf, f1, f2⟩ := h.2 q hq' (by simp) y hy'
      rcases List.mem_cons.1 hf with e' | e'
      · subst e'
        exact absurd (show y = (x : Int) by rw [← f1, h1]) (hnm y (by rw [hy']; exact List.mem_cons_self ..))
      · exact ⟨f, e', f1, f2⟩
theorem not_in {q p : Nat} {ex : List Int} (hex : ¬ (q : Int) ∈ ex) (e : ¬ q = p) : ¬ (q : Int) ∈ (p : Int) :: ex := fun hc => by
  rcases List.mem_cons.1 hc with hc | hc
  · omega
  · exact hex hc
/-- A packet that waits is put in, if it has one symbol left. -/
theorem RipX.put {d : DS} {l : List HE} {p x : Nat} {ex : List Int} (h : RipX d l ((p : Int) :: ex)) (hp : p < d.sets.length) (hx : x < d.k) (hr : rst d.kn (d.set p) = [(x : Int)]) {e : HE} (h1 : e.a = x) (h2 : e.b = p) : RipX d (l ++ [e]) ex := by
  refine ⟨fun f hf => ?_, fun q hq hex y hy => ?_⟩
  · rcases List.mem_append.1 hf with hf | hf
    · exact h.1 f hf
    · rw [List.mem_singleton.1 hf]; exact ⟨x, p, h1, h2, hp, hx, .inr hr⟩
  · by_cases e' : q = p
    · subst e'
      refine ⟨e, List.mem_append_right _ (List.mem_singleton.2 rfl), ?_, h2⟩
      rw [hr] at hy; injection hy with hy; rw [h1, hy]
    · obtain ⟨f, hf, h3⟩ := h.2 q hq (not_in hex e') y hy
      exact ⟨f, List.mem_append_left _ hf, h3⟩
theorem RipX.skip {d : DS} {l : List HE} {p : Nat} {ex : List Int} (h : RipX d l ((p : Int) :: ex)) (hr : (rst d.kn (d.set p)).length ≠ 1) : RipX d l ex :=
  ⟨h.1, fun q hq hex y hy => by
    by_cases e : q = p
    · subst e; rw [hy] at hr; exact absurd rfl hr
    · exact h.2 q hq (not_in hex e) y hy⟩
/-- A new packet: all but it is as it was. -/
theorem RipX.add {d : DS} {l : List HE} (h : RipX d l []) (id : Int) (set : List Int) (pay : List UInt8) : RipX (d.addP id set pay) l [(d.sets.length : Int)] := by
  have hg : ∀ q, q < d.sets.length → (d.addP id set pay).set q = d.set q := fun q hq => by
    show (d.sets ++ [set]).getD q [] = d.sets.getD q []
    simp only [List.getD_eq_getElem?_getD, List.getElem?_append_left hq]
  have hlen : (d.addP id set pay).sets.length = d.sets.length + 1 := by show (d.sets ++ [set]).length = _; rw [List.length_append]; rfl
  refine ⟨fun e he => ?_, fun p hp hex x hx => ?_⟩
  · obtain ⟨x, p, h1, h2, h3, h4, h5⟩ := h.1 e he
    refine ⟨x, p, h1, h2, by omega, h4, ?_⟩
    rw [hg p h3]; exact h5
  · have hp' : p < d.sets.length := by
      have : ¬ (p : Int) = (d.sets.length : Int) := fun e => hex (List.mem_singleton.2 e)
      omega
    rw [hg p hp'] at hx
    exact h.2 p hp' (by simp) x hx
end Go.Proofs.YtlhipaffhehcnaaGreat
namespace Go.Proofs.YtlhipaffhehcnaaGreat
open Go.RowKit
set_option linter.unusedVariables false
def spare : List UInt8 := [201, 202, 203, 204]
end Go.Proofs.YtlhipaffhehcnaaGreat
namespace Go.Proofs.YtlhipaffhehcnaaGreat
open Go.RowKit
set_option linter.unusedVariables false
/-- A list of lists of bytes in memory. -/
def Syms (w : World) (A : Option Addr) (n : Nat) (xss : List (List UInt8)) : Prop := ∃ vs, Rd w A n vs ∧ Rows_ w vs xss
section
variable {w w' : World} {A : Option Addr} {n : Nat} {xss : List (List UInt8)}
theorem Syms.len (h : Syms w A n xss) : xss.length = n := by obtain ⟨vs, h1, h2⟩ := h; rw [← h2.1, h1.1]
theorem Syms.below (h : Syms w A n xss) (hb : Below w.heap.size w w') : Syms w' A n xss := by obtain ⟨vs, h1, h2⟩ := h; exact ⟨vs, h1.below hb, h2.below hb⟩
theorem Syms.at_ (h : Syms w A n xss) {i : Nat} (hi : i < n) : ∃ a off B c, A = some ⟨a, off, none⟩ ∧ a < w.heap.size ∧ w.cell? ⟨a, off + i, none⟩ = some (.slice B (xss.getD i []).length c) ∧ Rd w B (xss.getD i []).length (bys (xss.getD i [])) ∧ (xss.getD i []).length ≤ c ∧ (xss.getD i []).length ≤ 9223372036854775807 := by
  have hl := h.len
  obtain ⟨vs, h1, h2⟩ := h
  obtain ⟨a, off, e, ha, hc⟩ := h1.form (by omega)
  have hx : xss[i]? = some (xss.getD i []) := by rw [List.getD_eq_getElem?_getD, List.getElem?_eq_getElem (by omega)]; rfl
  obtain ⟨B, c, h3, h4, h6, h5⟩ := h2.2 i _ hx
  exact ⟨a, off, B, c, e, ha, hc i _ h3, h5, h4, h6⟩
end
/-- Lists of bytes, each in memory of its own. -/
def ORows (w : World) (base : Nat) (vs : List Value) (xss : List (List UInt8)) : Prop :=
  vs.length = xss.length ∧ (∀ (i : Nat) x, xss[i]? = some x → ∃ A c, vs[i]? = some (.slice A x.length c) ∧ w.ownsRow base 5 1 (.slice A x.length c) x.length (bys x)) ∧
    ∀ (i j : Nat) u v b, i < j → vs[i]? = some u → vs[j]? = some v → u.ownBlock = some b → v.ownBlock ≠ some b
section
variable {w w' : World} {base : Nat} {vs : List Value} {xss : List (List UInt8)}
theorem ORows.nil (w : World) (base : Nat) : ORows w base [] [] := ⟨rfl, fun i x h => by simp at h, fun i j u v b _ h => by simp at h⟩
theorem ORows.below (h : ORows w base vs xss) (hb : Below w.heap.size w w') : ORows w' base vs xss :=
  ⟨h.1, fun i x hx => by obtain ⟨A, c, h1, h2⟩ := h.2.1 i x hx; exact ⟨A, c, h1, own_below h2 hb⟩, h.2.2⟩
theorem ORows.rows (h : ORows w base vs xss) : Rows_ w vs xss :=
  ⟨h.1, fun i x hx => by
    obtain ⟨A, c, h1, h2⟩ := h.2.1 i x hx
    obtain ⟨A', c', e, h3, h4, _⟩ := own_form h2
    injection e with e1 e2 e3
    subst e1; subst e3
    exact ⟨A, c, h1, h3, by simp only [maxLen] at h4; omega, Rd.of_own h2⟩⟩
theorem ORows.chg (h : ORows w base vs xss) {S : Nat → Prop} (hc : Chg S w w') (hS : ∀ b, base ≤ b → b < w.heap.size → ¬ S b) : ORows w' base vs xss :=
  ⟨h.1, fun i x hx => by
    obtain ⟨A, c, h1, h2⟩ := h.2.1 i x hx
    exact ⟨A, c, h1, hc.own h2 fun a ha e => hS _ (own_ge h2 a ha).1 (own_ge h2 a ha).2 e⟩, h.2.2⟩
theorem ownB {A : Option Addr} {n c b : Nat} (h : (Value.slice A n c).ownBlock = some b) : ∃ a, A = some a ∧ a.block = b := by
  rcases A with _ | a
  · cases h
  · injection h with h; exact ⟨a, rfl, h⟩
theorem ORows.snoc (h : ORows w base vs xss) {A : Option Addr} {c : Nat} {x : List UInt8} {B : Nat} (hr : w.ownsRow B 5 1 (.slice A x.length c) x.length (bys x)) (hb : base ≤ B) (hB : ∀ (i : Nat) v b, vs[i]? = some v → v.ownBlock = some b → b < B) : ORows w base (vs ++ [.slice A x.length c]) (xss ++ [x]) := by
  refine ⟨by simp [h.1], fun i y hy => ?_, fun i j u v b hij hu hv e1 e2 => ?_⟩
  · rcases Nat.lt_or_ge i xss.length with e | e
    · rw [List.getElem?_append_left e] at hy
      obtain ⟨A', c', h1, h2⟩ := h.2.1 i y hy
      exact ⟨A', c', by rw [List.getElem?_append_left (by rw [h.1]; exact e)]; exact h1, h2⟩
    · rw [List.getElem?_append_right e] at hy
      have h0 : i - xss.length = 0 := by have := (List.getElem?_eq_some_iff.1 hy).1; simp at this; omega
      rw [h0] at hy; simp at hy; subst hy
      exact ⟨A, c, by rw [List.getElem?_append_right (by rw [h.1]; exact e), h.1, h0]; rfl, own_mono hr hb⟩
  · rcases Nat.lt_or_ge j vs.length with e | e
    · rw [List.getElem?_append_left e] at hv
      rw [List.getElem?_append_left (by omega)] at hu
      exact h.2.2 i j u v b hij hu hv e1 e2
    · have hj : j = vs.length := by have := (List.getElem?_eq_some_iff.1 hv).1; simp at this; omega
      subst hj
      rw [List.getElem?_append_left hij] at hu
      rw [List.getElem?_append_right (Nat.le_refl _), Nat.sub_self] at hv
      simp at hv; subst hv
      have h1 := hB i u b hu e1
      obtain ⟨a, ha, ha'⟩ := ownB e2
      have h2 := (own_ge hr a ha).1
      omega
theorem ORows.blk (h : ORows w base vs xss) : ∀ (i : Nat) v b, vs[i]? = some v → v.ownBlock = some b → base ≤ b ∧ b < w.heap.size := fun i v b hv e => by
  have hi : i < xss.length := by rw [← h.1]; exact (List.getElem?_eq_some_iff.1 hv).1
  obtain ⟨A, c, h1, h2⟩ := h.2.1 i _ (List.getElem?_eq_getElem hi)
  rw [hv] at h1; injection h1 with h1; subst h1
  obtain ⟨a, ha, ha'⟩ := ownB e
  rw [← ha']; exact own_ge h2 a ha
end
theorem ints2_info : (Tryz.prog.info? 83).map (fun i => (i.zero, i.size, i.bytes)) = some (some (.slice none 0 0), 1, 24) := by kernel_rfl
end Go.Proofs.YtlhipaffhehcnaaGreat
namespace Go.Proofs.YtlhipaffhehcnaaGreat
open Go.RowKit
set_option linter.unusedVariables false
def Ty (w : World) (g : Nat) (t : TypeId) : Prop := ∃ cs, Bk w g t cs
theorem Ty.ne {w : World} {g g' : Nat} {t t' : TypeId} (h : Ty w g t) (h' : Ty w g' t') (ht : t ≠ t') : g ≠ g' := fun e => by
  obtain ⟨a, h⟩ := h
  obtain ⟨b, h'⟩ := h'
  subst e
  unfold Bk at h h'
  rw [h] at h'
  injection h' with h'
  injection h' with h1 h2 h3
  exact ht h2
theorem Ty.chg {S : Nat → Prop} {w w' : World} {g : Nat} {t : TypeId} (h : Ty w g t) (hc : Chg S w w') (hS : ¬ S g) : Ty w' g t := by
  obtain ⟨a, h⟩ := h; exact ⟨a, hc.bk h hS⟩
theorem own_ty {w : World} {base n : Nat} {e : TypeId} {size : Nat} {v : Value} {xs : List Value} (h : w.ownsRow base e size v n xs) {g : Nat} (hg : v.ownBlock = some g) : Ty w g e ∧ base ≤ g := by
  rcases h.2 with ⟨rfl, _⟩ | ⟨g', cap, cur, rfl, hb, hh, _⟩
  · cases hg
  · injection hg with hg
    subst hg
    exact ⟨⟨cur.toList, hh⟩, hb⟩
def blk (A : Option Addr) : List Nat := match A with
  | some a => [a.block]
  | none => []
theorem mem_blk {A : Option Addr} {k : Nat} : k ∈ blk A ↔ ∃ a, A = some a ∧ a.block = k := by
  cases A <;> simp [blk, eq_comm]
theorem own_b1 {A : Option Addr} {a : Addr} {n c : Nat} (ha : A = some a) : (Value.slice A n c).ownBlock = some a.block := by rw [ha]; rfl
theorem own_rdN {w : World} {base size n c : Nat} {e : TypeId} {A : Option Addr} {xs : List Value} (h : w.ownsRow base e size (.slice A n c) n xs) : Rd w A (n * size) xs ∧ n ≤ c := by
  rcases h.2 with ⟨hv, h0⟩ | ⟨g, cap, cur, hv, hb, hh, hnc, hcm, hcs, ht⟩
  · injection hv with e1 e2 e3
    have h0' : n = 0 := h0
    subst h0'
    refine ⟨⟨h.1, fun h => absurd h (by omega)⟩, by omega⟩
  · injection hv with e1 e2 e3
    subst e1; subst e3
    have hbk : Bk w g e cur.toList := hh
    refine ⟨Rd.of_bk hbk ?_ (by simpa using ht), hnc⟩
    rw [Array.length_toList, hcs, Nat.zero_add]
    exact Nat.mul_le_mul_right _ hnc
theorem own_sl {w : World} {base size n : Nat} {e : TypeId} {v : Value} {xs : List Value} (h : w.ownsRow base e size v n xs) : ∃ A c, v = .slice A n c := by
  rcases h.2 with ⟨rfl, h0⟩ | ⟨g, cap, cur, rfl, _⟩
  · have h0' : n = 0 := h0
    exact ⟨none, 0, by rw [h0']⟩
  · exact ⟨_, cap, rfl⟩
theorem own_lt {w : World} {base n c : Nat} {e : TypeId} {size : Nat} {A : Option Addr} {xs : List Value} (h : w.ownsRow base e size (.slice A n c) n xs) : ∀ a, A = some a → base ≤ a.block ∧ a.block < w.heap.size := fun a ha => by
  obtain ⟨⟨cs, h1⟩, h2⟩ := own_ty h (g := a.block) (by rw [ha]; rfl)
  exact ⟨h2, h1.lt⟩
theorem Chg.cell' {S : Nat → Prop} {w w' : World} {p : Addr} {v : Value} (h : Chg S w w') (hc : w.cell? p = some v) (hp : ¬ S p.block) : w'.cell? p = some v := by
  have hl := World.block_lt_of_cell? _ _ hc
  have := h.2 p.block hl hp
  rw [← hc]
  unfold World.cell?
  rw [this]
theorem cell_below {w w' : World} {p : Addr} {u : Value} (hb : Below w.heap.size w w') (h : w.cell? p = some u) : w'.cell? p = some u := (hb.cell (World.block_lt_of_cell? w p h)).trans h
theorem Chg.rd0 {S : Nat → Prop} {w w' : World} {A : Option Addr} {n : Nat} {xs : List Value} (h : Chg S w w') (hr : Rd w A n xs) (hA : ∀ a, A = some a → 0 < n → ¬ S a.block) : Rd w' A n xs := by
  rcases Nat.eq_zero_or_pos n with h0 | h0
  · subst h0; exact ⟨hr.1, fun h => absurd h (Nat.lt_irrefl _)⟩
  · exact h.rd hr fun a ha => hA a ha h0
theorem upd_chg {w w' : World} {g off : Nat} {new : List Value} (h : Upd w w' g off new) : Chg (fun k => k = g) w w' := Chg.of_grown h.1 fun k hk => by injection hk with hk; exact hk.symm
theorem Mut.pre {w : World} {A : Option Addr} {n m g off : Nat} {xs : List Value} (h : Mut w A (n + m) g off xs) : Mut w A n g off (xs.take n) := by
  refine ⟨by rw [List.length_take, h.1]; omega, fun hn => ?_⟩
  obtain ⟨h1, t, cur, h2, h3, h4⟩ := h.2 (by omega)
  exact ⟨h1, t, cur, h2, by omega, by rw [← h4, List.take_take, Nat.min_eq_left (by omega)]⟩
end Go.Proofs.YtlhipaffhehcnaaGreat
