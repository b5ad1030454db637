/- Chapter 21: plain: sums of a block's symbols; what sets make known. -/
import Derived.Test.YtidoembkcaojoaaSl21
namespace Go.Proofs.Ytidoembkcaojoaa
open Go.RowKit
set_option linter.unusedVariables false
def sumZ (blk : List (List UInt8)) (z : List UInt8) (l : List Int) : List UInt8 := l.foldl (fun a x => xorL a (xv blk x)) z
def sumB (blk : List (List UInt8)) (l : List Int) : List UInt8 := sumZ blk [0, 0] l
/-- A block of symbols of two bytes each. -/
def BlkOk (k : Nat) (blk : List (List UInt8)) : Prop := blk.length = k ∧ ∀ b ∈ blk, b.length = 2
theorem BlkOk.xv {k : Nat} {blk : List (List UInt8)} (h : BlkOk k blk) {x : Int} (hx : 0 ≤ x ∧ x < k) : (xv blk x).length = 2 := by
  unfold Proofs.Ytidoembkcaojoaa.xv
  have : x.toNat < blk.length := by rw [h.1]; omega
  rw [List.getD_eq_getElem?_getD, List.getElem?_eq_getElem this]
  exact h.2 _ (List.getElem_mem this)
theorem sumZ_xor (blk : List (List UInt8)) : ∀ (l : List Int) (z b : List UInt8), sumZ blk (xorL z b) l = xorL (sumZ blk z l) b
  | [], z, b => rfl
  | x :: l, z, b => by
    show sumZ blk (xorL (xorL z b) (xv blk x)) l = xorL (sumZ blk (xorL z (xv blk x)) l) b
    rw [xorL_swap, sumZ_xor blk l]
theorem sumZ_len {k : Nat} {blk : List (List UInt8)} (hb : BlkOk k blk) : ∀ (l : List Int) (z : List UInt8), z.length = 2 → (∀ x ∈ l, 0 ≤ x ∧ x < k) → (sumZ blk z l).length = 2
  | [], z, hz, _ => hz
  | x :: l, z, hz, h => by
    have h1 := hb.xv (h x (List.mem_cons_self ..))
    exact sumZ_len hb l _ (by rw [xorL_length _ _ (by rw [hz, h1]), hz]) fun y hy => h y (List.mem_cons_of_mem _ hy)
theorem lv_sum {k : Nat} {blk vals : List (List UInt8)} {kn : List Bool} (hb : BlkOk k blk) (hv : ∀ x : Int, 0 ≤ x → x < k → knw kn x = true → xv vals x = xv blk x) : ∀ (l : List Int) (z : List UInt8), z.length = 2 → (∀ x ∈ l, 0 ≤ x ∧ x < k) → lv kn vals l (sumZ blk z l) = sumZ blk z (rst kn l)
  | [], z, _, _ => rfl
  | x :: l, z, hz, h => by
    have hx := h x (List.mem_cons_self ..)
    have hl : ∀ y ∈ l, 0 ≤ y ∧ y < k := fun y hy => h y (List.mem_cons_of_mem _ hy)
    have h1 := hb.xv hx
    show lv kn vals l (if knw kn x then xorL (sumZ blk (xorL z (xv blk x)) l) (xv vals x) else sumZ blk (xorL z (xv blk x)) l) = _
    cases hk : knw kn x with
    | true =>
      have hr : rst kn (x :: l) = rst kn l := by unfold rst; rw [List.filter_cons_of_neg (by rw [hk]; simp)]
      rw [if_pos rfl, sumZ_xor, hv x hx.1 hx.2 hk, xorL_back _ _ (by rw [sumZ_len hb l z hz hl, h1]), hr]
      exact lv_sum hb hv l z hz hl
    | false =>
      have hr : rst kn (x :: l) = x :: rst kn l := by unfold rst; rw [List.filter_cons_of_pos (by rw [hk]; rfl)]
      rw [if_neg (by simp), hr]
      exact lv_sum hb hv l _ (by rw [xorL_length _ _ (by rw [hz, h1]), hz]) hl
theorem zero_xor {b : List UInt8} (h : b.length = 2) : xorL [0, 0] b = b := by
  rw [xorL_comm]
  exact xorL_zero b 2 h
/-- Payloads and known symbols are the block's. -/
def Sound (blk : List (List UInt8)) (d : DS) : Prop := (∀ q, q < d.sets.length → d.pay q = sumB blk (d.set q)) ∧ ∀ x : Int, 0 ≤ x → x < d.k → knw d.kn x = true → xv d.vals x = xv blk x
theorem left_sound {blk : List (List UInt8)} {d : DS} (hd : d.ok) (hb : BlkOk d.k blk) (hs : Sound blk d) {x p : Nat} (hn : Next d x p) : d.left p = xv blk x := by
  unfold DS.left
  rw [hs.1 p hn.1]
  unfold sumB
  rw [lv_sum hb hs.2 _ _ rfl (fun y hy => (hd.sset hn.1).inr y hy), hn.2.1]
  have hx := hn.lt hd
  exact zero_xor (hb.xv (by omega))
theorem Sound.took {blk : List (List UInt8)} {d : DS} (hd : d.ok) (hb : BlkOk d.k blk) (hs : Sound blk d) {x p : Nat} (hn : Next d x p) : Sound blk (d.took x p) := by
  refine ⟨hs.1, fun y h0 h1 hk => ?_⟩
  have hx := hn.lt hd
  have hk' : knw (d.kn.set x true) y = true := hk
  show xv (d.vals.set x (d.left p)) y = xv blk y
  rw [xv_set (by rw [hd.vl]; exact hx) _ h0]
  by_cases e : y = (x : Int)
  · rw [if_pos e, e]; exact left_sound hd hb hs hn
  · rw [if_neg e]
    rw [knw_set (by rw [hd.kl]; exact hx) h0, decide_eq_false e, Bool.or_false] at hk'
    exact hs.2 y h0 h1 hk'
theorem Peels.sound {blk : List (List UInt8)} {d d' : DS} {l : List Int} (h : Peels d l d') : d.ok → BlkOk d.k blk → Sound blk d → Sound blk d' := by
  induction h with
  | nil d => exact fun _ _ h => h
  | cons hn t ih => exact fun hd hb hs => ih (hd.took hn) hb (hs.took hd hb hn)
theorem Sound.addP {blk : List (List UInt8)} {d : DS} (hd : d.ok) (hs : Sound blk d) (id : Int) (set : List Int) : Sound blk (d.addP id set (sumB blk set)) := by
  refine ⟨fun q hq => ?_, hs.2⟩
  have hl : (d.addP id set (sumB blk set)).sets.length = d.sets.length + 1 := by show (d.sets ++ [set]).length = _; rw [List.length_append]; rfl
  show (d.pays ++ [sumB blk set]).getD q [] = sumB blk ((d.sets ++ [set]).getD q [])
  simp only [List.getD_eq_getElem?_getD]
  rcases Nat.lt_or_ge q d.sets.length with h | h
  · rw [List.getElem?_append_left h, List.getElem?_append_left (by rw [hd.np]; exact h)]
    have := hs.1 q h
    unfold DS.pay DS.set at this
    simpa only [List.getD_eq_getElem?_getD] using this
  · obtain rfl : q = d.sets.length := by omega
    rw [List.getElem?_append_right (Nat.le_refl _), List.getElem?_append_right (by rw [hd.np]; exact Nat.le_refl _), hd.np, Nat.sub_self]
    rfl
/-- Nothing more becomes known. -/
def StK (k : Nat) (C : List Bool) (sets : List (List Int)) : Prop := C.length = k ∧ ∀ s ∈ sets, ∀ y, rst C s ≠ [y]
def Le (a b : List Bool) : Prop := ∀ i : Nat, knw a (i : Int) = true → knw b (i : Int) = true
theorem rst_le {a C : List Bool} (h : Le a C) {s : List Int} (h0 : ∀ x ∈ s, 0 ≤ x) : rst C s = (rst a s).filter fun x => !knw C x := by
  unfold rst
  rw [List.filter_filter]
  refine List.filter_congr fun x hx => ?_
  obtain ⟨i, rfl⟩ : ∃ i : Nat, x = i := ⟨x.toNat, by have := h0 x hx; omega⟩
  cases hc : knw C (i : Int) with
  | true => rfl
  | false =>
    cases ha : knw a (i : Int) with
    | false => rfl
    | true => rw [h i ha] at hc; cases hc
theorem StK.knows {k : Nat} {C a : List Bool} {sets : List (List Int)} (h : StK k C sets) (hl : Le a C) {s : List Int} (hs : s ∈ sets) (h0 : ∀ x ∈ s, 0 ≤ x) {x : Int} (hr : rst a s = [x]) : knw C x = true := by
  cases hc : knw C x with
  | true => rfl
  | false =>
    refine absurd ?_ (h.2 s hs x)
    rw [rst_le hl h0, hr, List.filter_cons_of_pos (by rw [hc]; rfl)]; rfl
/-- What is known has to be. -/
def Lst (d : DS) : Prop := ∀ C, StK d.k C d.sets → Le d.kn C
theorem Lst.took {d : DS} (hd : d.ok) (h : Lst d) {x p : Nat} (hn : Next d x p) : Lst (d.took x p) := fun C hC i hi => by
  have hx := hn.lt hd
  have hi' : knw (d.kn.set x true) (i : Int) = true := hi
  rw [knw_set (by rw [hd.kl]; exact hx) (by omega)] at hi'
  have hle := h C hC
  by_cases e : (i : Int) = (x : Int)
  · rw [e]
    exact StK.knows hC hle (getD_mem hn.1) (fun y hy => ((hd.sset hn.1).inr y hy).1) hn.2.1
  · rw [decide_eq_false e, Bool.or_false] at hi'
    exact hle i hi'
theorem Peels.lst {d d' : DS} {l : List Int} (h : Peels d l d') : d.ok → Lst d → Lst d' := by
  induction h with
  | nil d => exact fun _ h => h
  | cons hn t ih => exact fun hd hs => ih (hd.took hn) (hs.took hd hn)
theorem Lst.addP {d : DS} (h : Lst d) (id : Int) (set : List Int) (pay : List UInt8) : Lst (d.addP id set pay) := fun C hC => h C ⟨hC.1, fun s hs => hC.2 s (List.mem_append_left _ hs)⟩
theorem Stable.stk {d : DS} (hd : d.ok) (h : Stable d) : StK d.k d.kn d.sets := ⟨hd.kl, fun s hs y => by
  obtain ⟨q, hq, rfl⟩ := List.mem_iff_getElem.1 hs
  have := h q hq y
  unfold DS.set at this
  rw [List.getD_eq_getElem?_getD, List.getElem?_eq_getElem hq] at this
  exact this⟩
theorem kn_ext {a b : List Bool} (hl : a.length = b.length) (h1 : Le a b) (h2 : Le b a) : a = b := by
  apply List.ext_getElem hl
  intro i hi hj
  have e1 := knw_at hi
  have e2 := knw_at hj
  rw [List.getElem?_eq_getElem hi] at e1
  rw [List.getElem?_eq_getElem hj] at e2
  injection e1 with e1
  injection e2 with e2
  rw [e1, e2]
  cases ha : knw a (i : Int) with
  | true => rw [h1 i ha]
  | false =>
    cases hb : knw b (i : Int) with
    | false => rfl
    | true => rw [h2 i hb] at ha; cases ha
/-- The least of what is closed is what the decoder knows. -/
theorem closure_eq {d : DS} (hd : d.ok) (hs : Stable d) (hl : Lst d) {C : List Bool} (h1 : StK d.k C d.sets) (h2 : ∀ C', StK d.k C' d.sets → Le C C') : C = d.kn :=
  kn_ext (by rw [h1.1, hd.kl]) (h2 _ (hs.stk hd)) (hl C h1)
theorem knF_len (kn : List Bool) : ∀ j, j ≤ kn.length → (knF kn j).length + ((kn.take j).filter fun b => !b).length = j
  | 0, _ => rfl
  | j + 1, h => by
    have ih := knF_len kn j (by omega)
    have e := knw_at (show j < kn.length by omega)
    rw [List.getElem?_eq_getElem (by omega)] at e
    injection e with e
    rw [knF_succ, List.length_append, List.take_succ_eq_append_getElem (by omega), List.filter_append, List.length_append, e]
    cases knw kn (j : Int) <;> simp <;> omega
theorem knL_len (kn : List Bool) : (knL kn).length + unk kn = kn.length := by
  have := knF_len kn kn.length (Nat.le_refl _)
  rw [List.take_length] at this
  exact this
theorem mem_knL {kn : List Bool} {x : Int} : x ∈ knL kn ↔ ∃ i : Nat, x = i ∧ i < kn.length ∧ knw kn (i : Int) = true := by
  unfold knL knF
  simp only [List.mem_map, List.mem_filter, List.mem_range]
  constructor
  · rintro ⟨i, ⟨h1, h2⟩, rfl⟩; exact ⟨i, rfl, h1, h2⟩
  · rintro ⟨i, rfl, h1, h2⟩; exact ⟨i, ⟨h1, h2⟩, rfl⟩
/-- A decoder of a block's sums. -/
structure TI (k : Nat) (blk : List (List UInt8)) (d : DS) : Prop where
  ok : d.ok
  st : Stable d
  so : Sound blk d
  ls : Lst d
  kk : d.k = k
  ss : d.s = 2
  mm : d.most = 25
theorem TI.new {k : Nat} (hk : 1 ≤ k ∧ k ≤ 12) {blk : List (List UInt8)} : TI k blk (newD k 2 25) :=
  { ok := newD_ok (by omega) (by omega) (by omega), st := newD_stable _ _ _, kk := rfl, ss := rfl, mm := rfl
    so := ⟨fun q hq => by simp [newD] at hq, fun x _ _ hk => by rw [show (newD k 2 25).kn = List.replicate k false from rfl, knw_rep] at hk; cases hk⟩
    ls := fun C _ i hi => by rw [show (newD k 2 25).kn = List.replicate k false from rfl, knw_rep] at hi; cases hi }
theorem TI.err {k : Nat} {blk : List (List UInt8)} {d : DS} (h : TI k blk d) (hb : BlkOk k blk) {id : Int} {set : List Int} (hi : 0 ≤ id ∧ id ≤ 4294967295) (hs : Sset k set) (hf : ¬ id ∈ d.ids) (hm : d.sets.length < 25) : d.err id set (sumB blk set) = 0 := by
  unfold DS.err
  rw [if_neg (by omega), if_neg, if_neg hf, if_neg (by rw [h.mm]; omega)]
  rw [h.kk, h.ss]
  have h1 : setB k set = true := hs
  have h2 : (sumB blk set).length = 2 := sumZ_len hb _ _ rfl fun x hx => hs.inr x hx
  rw [h1, h2]; simp
theorem TI.add {k : Nat} {blk : List (List UInt8)} {d : DS} (h : TI k blk d) (hb : BlkOk k blk) {id : Int} {set : List Int} (he : d.err id set (sumB blk set) = 0) :
    ∃ out d', d.add id set (sumB blk set) = (out, 0, d') ∧ TI k blk d' ∧ d'.sets = d.sets ++ [set] ∧ d'.ids = d.ids ++ [id] ∧ out.length + unk d'.kn = unk d.kn := by
  obtain ⟨out, d', e, h1, h2⟩ := add_spec h.ok he
  have hok := h.ok.addP he
  obtain ⟨e1, e2, e3, e4, e5, _⟩ := h1.same
  have hb' : BlkOk (d.addP id set (sumB blk set)).k blk := by rw [show (d.addP id set (sumB blk set)).k = k from h.kk]; exact hb
  refine ⟨out, d', e, { ok := h1.ok hok, st := h2, so := h1.sound hok hb' (h.so.addP h.ok id set), ls := h1.lst hok (h.ls.addP _ _ _), kk := e1.trans h.kk, ss := e2.trans h.ss, mm := e3.trans h.mm }, e5, e4, h1.len hok⟩
end Go.Proofs.Ytidoembkcaojoaa
