/- Chapter 20: a graph's numbers, by what is known and the sets: plain. -/
import Derived.Test.YtidoembkcaojoaaAw20
namespace Go.Proofs.Ytidoembkcaojoaa
open Go.RowKit
set_option linter.unusedVariables false
theorem xr_nat (a b : Nat) (ha : a < 4611686018427387904) (hb : b < 4611686018427387904) : xr (a : Int) (b : Int) = ((a ^^^ b : Nat) : Int) := by
  have hx : a ^^^ b < 2 ^ 62 := Nat.xor_lt_two_pow (by omega) (by omega)
  show IntKind.i64.wrap ((BitVec.ofInt 64 (a : Int) ^^^ BitVec.ofInt 64 (b : Int)).toNat : Int) = _
  rw [BitVec.toNat_xor, ofInt_u64 a (by omega), ofInt_u64 b (by omega), IntKind.wrap_i64]
  omega
def xN (l : List Int) : Nat := l.foldl (fun a x => a ^^^ x.toNat) 0
theorem xN_from (l : List Int) : ∀ a : Nat, l.foldl (fun a x => a ^^^ x.toNat) a = a ^^^ xN l := by
  induction l with
  | nil => intro a; simp [xN]
  | cons x l ih =>
    intro a
    unfold xN
    rw [List.foldl_cons, List.foldl_cons, ih, ih, Nat.zero_xor, Nat.xor_assoc]
theorem xN_cons (x : Int) (l : List Int) : xN (x :: l) = x.toNat ^^^ xN l := by
  show l.foldl (fun a x => a ^^^ x.toNat) (0 ^^^ x.toNat) = _
  rw [xN_from, Nat.zero_xor]
def InR (l : List Int) : Prop := ∀ x ∈ l, 0 ≤ x ∧ x < 65536
theorem InR.tail {x : Int} {l : List Int} (h : InR (x :: l)) : InR l := fun y hy => h y (List.mem_cons_of_mem _ hy)
theorem InR.filter {l : List Int} (h : InR l) (f : Int → Bool) : InR (l.filter f) := fun y hy => h y (List.mem_filter.1 hy).1
theorem xN_lt : ∀ {l : List Int}, InR l → xN l < 65536
  | [], _ => by simp [xN]
  | x :: l, h => by
    rw [xN_cons]
    have h1 := h x (List.mem_cons_self ..)
    exact Nat.xor_lt_two_pow (n := 16) (by omega) (xN_lt h.tail)
theorem sumX_from : ∀ {l : List Int} {a : Nat}, InR l → a < 65536 → l.foldl xr (a : Int) = ((a ^^^ xN l : Nat) : Int)
  | [], a, _, _ => by simp [xN]
  | x :: l, a, h, ha => by
    have h1 := h x (List.mem_cons_self ..)
    obtain ⟨n, rfl⟩ : ∃ n : Nat, x = n := ⟨x.toNat, by omega⟩
    have hx : a ^^^ n < 65536 := Nat.xor_lt_two_pow (n := 16) (by omega) (by omega)
    rw [List.foldl_cons, xr_nat a n (by omega) (by omega), sumX_from h.tail hx, xN_cons, Int.toNat_natCast, Nat.xor_assoc]
theorem sumX_eq {l : List Int} (h : InR l) : sumX l = (xN l : Nat) := by
  have := sumX_from (a := 0) h (by omega)
  rw [Nat.zero_xor] at this
  exact this
theorem sumX_one {x : Int} (h : 0 ≤ x ∧ x < 65536) : sumX [x] = x := by
  rw [sumX_eq (fun y hy => by simp at hy; subst hy; exact h), xN_cons]
  simp [xN]
  omega
theorem xN_away {i : Int} : ∀ {l : List Int}, l.Nodup → i ∈ l → xN (l.filter fun x => !decide (x = i)) = xN l ^^^ i.toNat
  | [], _, h => by simp at h
  | x :: l, hd, h => by
    rw [List.nodup_cons] at hd
    by_cases e : x = i
    · subst e
      have : (l.filter fun y => !decide (y = x)) = l := List.filter_eq_self.2 fun y hy => by
        have : y ≠ x := fun e => hd.1 (e ▸ hy)
        simp [this]
      rw [List.filter_cons_of_neg (by simp), this, xN_cons, Nat.xor_comm (x.toNat ^^^ xN l), ← Nat.xor_assoc, Nat.xor_self, Nat.zero_xor]
    · have h' : i ∈ l := by
        rcases List.mem_cons.1 h with e' | e'
        · exact absurd e'.symm e
        · exact e'
      rw [List.filter_cons_of_pos (by simp [e]), xN_cons, xN_cons, xN_away hd.2 h', Nat.xor_assoc]
theorem knw_set {kn : List Bool} {i : Nat} (hi : i < kn.length) {x : Int} (hx : 0 ≤ x) : knw (kn.set i true) x = (knw kn x || decide (x = i)) := by
  unfold knw
  simp only [List.getD_eq_getElem?_getD, List.getElem?_set]
  by_cases e : i = x.toNat
  · have e' : x = i := by omega
    simp [e', hi]
  · have e' : ¬ (x = i) := by omega
    simp [e, e']
theorem rst_set {kn : List Bool} {i : Nat} (hi : i < kn.length) {l : List Int} (h : InR l) : rst (kn.set i true) l = (rst kn l).filter fun x => !decide (x = (i : Int)) := by
  unfold rst
  rw [List.filter_filter]
  refine List.filter_congr fun x hx => ?_
  rw [knw_set hi (h x hx).1]
  cases knw kn x <;> simp
theorem filter_away_len {i : Int} : ∀ {l : List Int}, l.Nodup → (l.filter fun x => !decide (x = i)).length + (if i ∈ l then 1 else 0) = l.length
  | [], _ => by simp
  | x :: l, hd => by
    rw [List.nodup_cons] at hd
    have ih := filter_away_len (i := i) hd.2
    by_cases e : x = i
    · subst e
      rw [if_neg hd.1] at ih
      rw [List.filter_cons_of_neg (by simp), if_pos (List.mem_cons_self ..), List.length_cons]
      omega
    · rw [List.filter_cons_of_pos (by simp [e]), List.length_cons, List.length_cons]
      have : (i ∈ x :: l) ↔ i ∈ l := by simp [Ne.symm e]
      simp only [this]
      omega
/-- Sets. -/
def Sset (k : Nat) (l : List Int) : Prop := setB k l = true
theorem okS_pairwise {k : Int} : ∀ {l : List Int} {last : Int}, okS k last l = true → l.Pairwise (· < ·)
  | [], _, _ => List.Pairwise.nil
  | x :: l, last, h => by
    unfold okS at h
    split at h
    · cases h
    · exact List.Pairwise.cons (fun y hy => (setB_inr h y hy).1) (okS_pairwise h)
theorem Sset.ok {k : Nat} {l : List Int} (h : Sset k l) : okS k (-1) l = true ∧ 0 < l.length := by
  unfold Sset setB at h
  rw [Bool.and_eq_true, decide_eq_true_iff] at h
  exact h
theorem Sset.inr {k : Nat} {l : List Int} (h : Sset k l) : ∀ x ∈ l, 0 ≤ x ∧ x < k := fun x hx => by have := setB_inr h.ok.1 x hx; omega
theorem Sset.inR {k : Nat} {l : List Int} (h : Sset k l) (hk : k ≤ 65536) : InR l := fun x hx => by have := h.inr x hx; omega
theorem Sset.nodup {k : Nat} {l : List Int} (h : Sset k l) : l.Nodup := (okS_pairwise h.ok.1).imp fun h => by omega
theorem rst_nodup {kn : List Bool} {l : List Int} (h : l.Nodup) : (rst kn l).Nodup := h.filter _
theorem mem_rst {kn : List Bool} {l : List Int} {x : Int} : x ∈ rst kn l ↔ x ∈ l ∧ knw kn x = false := by
  unfold rst
  rw [List.mem_filter]
  simp
/-- Which packets hold a symbol. -/
def holds (sets : List (List Int)) (i : Int) : List Int := ((List.range sets.length).filter fun p => decide (i ∈ sets.getD p [])).map fun (p : Nat) => (p : Int)
def wts (kn : List Bool) (sets : List (List Int)) (i : Nat) : List Int := if knw kn (i : Int) then [] else holds sets i
def unk (kn : List Bool) : Nat := (kn.filter fun b => !b).length
def edg (kn : List Bool) (sets : List (List Int)) : Nat := (sets.map fun l => (rst kn l).length).sum
def gOf (kn : List Bool) (sets : List (List Int)) (most : Int) : GM :=
  ⟨kn, wts kn sets, sets.map fun l => (l, ((rst kn l).length : Int), sumX (rst kn l)), most, unk kn, edg kn sets⟩
theorem GM.eq {a b : GM} (h1 : a.known = b.known) (h2 : ∀ i, a.waits i = b.waits i) (h3 : a.packs = b.packs) (h4 : a.most = b.most) (h5 : a.unknown = b.unknown) (h6 : a.edges = b.edges) : a = b := by
  obtain ⟨a1, a2, a3, a4, a5, a6⟩ := a
  obtain ⟨b1, b2, b3, b4, b5, b6⟩ := b
  simp only at h1 h2 h3 h4 h5 h6
  have : a2 = b2 := funext h2
  subst h1 this h3 h4 h5 h6
  rfl
theorem pk_gOf (kn : List Bool) (sets : List (List Int)) (most : Int) (p : Nat) : pk (gOf kn sets most) p = (sets.getD p [], ((rst kn (sets.getD p [])).length : Int), sumX (rst kn (sets.getD p []))) := by
  unfold pk gOf
  simp only [List.getD_eq_getElem?_getD, List.getElem?_map]
  rcases h : sets[p]? with _ | l
  · rfl
  · rfl
theorem gOf_zero (k : Nat) (most : Int) : gm0 k most = gOf (List.replicate k false) [] most := by
  refine GM.eq rfl (fun i => ?_) rfl rfl ?_ rfl
  · show [] = wts _ _ _
    unfold wts holds
    split <;> rfl
  · show (k : Int) = (unk (List.replicate k false) : Int)
    unfold unk
    rw [List.filter_replicate]
    simp
theorem mem_holds {sets : List (List Int)} {i n : Int} : n ∈ holds sets i ↔ ∃ p : Nat, n = p ∧ p < sets.length ∧ i ∈ sets.getD p [] := by
  unfold holds
  simp only [List.mem_map, List.mem_filter, List.mem_range, decide_eq_true_eq]
  constructor
  · rintro ⟨p, ⟨h1, h2⟩, rfl⟩; exact ⟨p, rfl, h1, h2⟩
  · rintro ⟨p, rfl, h1, h2⟩; exact ⟨p, ⟨h1, h2⟩, rfl⟩
theorem holds_nodup (sets : List (List Int)) (i : Int) : (holds sets i).Nodup := by
  unfold holds
  exact List.Pairwise.map _ (fun a b h => by intro e; exact h (by omega)) (List.nodup_range.filter _)
theorem holds_snoc (sets : List (List Int)) (l : List Int) (i : Int) : holds (sets ++ [l]) i = holds sets i ++ (if i ∈ l then [(sets.length : Int)] else []) := by
  unfold holds
  rw [List.length_append, List.length_singleton, List.range_succ, List.filter_append, List.map_append]
  congr 1
  · congr 1
    refine List.filter_congr fun p hp => ?_
    have hp' := List.mem_range.1 hp
    simp only [List.getD_eq_getElem?_getD, List.getElem?_append_left hp']
  · have e : (sets ++ [l]).getD sets.length [] = l := by simp [List.getD_eq_getElem?_getD]
    by_cases h : i ∈ l
    · rw [List.filter_cons_of_pos (by rw [e]; simpa using h), if_pos h]; rfl
    · rw [List.filter_cons_of_neg (by rw [e]; simpa using h), if_neg h]; rfl
theorem snoc_ind {α : Type} {P : List α → Prop} (h0 : P []) (h1 : ∀ l a, P l → P (l ++ [a])) (l : List α) : P l := by
  have : ∀ r : List α, P r.reverse := fun r => by
    induction r with
    | nil => exact h0
    | cons a r ih => rw [List.reverse_cons]; exact h1 _ _ ih
  have h := this l.reverse
  rwa [List.reverse_reverse] at h
theorem holds_len (sets : List (List Int)) (i : Int) : (holds sets i).length = sets.countP fun l => decide (i ∈ l) := by
  refine snoc_ind (P := fun sets => (holds sets i).length = sets.countP fun l => decide (i ∈ l)) rfl (fun l a ih => ?_) sets
  show (holds (l ++ [a]) i).length = _
  rw [holds_snoc, List.length_append, ih, List.countP_append]
  congr 1
  by_cases h : i ∈ a <;> simp [h]
theorem edg_snoc (kn : List Bool) (sets : List (List Int)) (l : List Int) : edg kn (sets ++ [l]) = edg kn sets + (rst kn l).length := by
  unfold edg
  simp
theorem addL_waits (n : Nat) (i : Nat) : ∀ {l : List Int} (s : GM), l.Nodup → (∀ x ∈ l, 0 ≤ x) → (addL n s l).waits i = s.waits i ++ (if (i : Int) ∈ l then [(n : Int)] else [])
  | [], s, _, _ => by simp [addL]
  | x :: l, s, hd, h0 => by
    rw [List.nodup_cons] at hd
    have h1 := h0 x (List.mem_cons_self ..)
    show (addL n (addW n s x) l).waits i = _
    rw [addL_waits n i (addW n s x) hd.2 (fun y hy => h0 y (List.mem_cons_of_mem _ hy))]
    unfold addW
    by_cases e : i = x.toNat
    · have e' : (i : Int) = x := by omega
      simp only [e, if_true]
      rw [if_neg (by rw [← e, e']; exact hd.1), if_pos (by rw [← e, e']; exact List.mem_cons_self ..), List.append_nil]
    · have e' : ¬ ((i : Int) = x) := by omega
      simp only [if_neg e]
      congr 1
      simp only [List.mem_cons, e', false_or]
/-- A packet is added. -/
theorem gOf_add {kn : List Bool} {sets : List (List Int)} {most : Int} {l : List Int} (hl : Sset kn.length l) : addG (gOf kn sets most) l = gOf kn (sets ++ [l]) most := by
  have hp := addL_parts (gOf kn sets most).packs.length (rst kn l) (gOf kn sets most)
  have hlen : (gOf kn sets most).packs.length = sets.length := by simp [gOf]
  refine GM.eq hp.1 (fun i => ?_) ?_ hp.2.2.1 hp.2.2.2.1 ?_
  · show (addL (gOf kn sets most).packs.length (gOf kn sets most) (rst kn l)).waits i = wts kn (sets ++ [l]) i
    rw [addL_waits _ i _ (rst_nodup hl.nodup) (fun x hx => (hl.inr x (mem_rst.1 hx).1).1), hlen]
    show wts kn sets i ++ _ = _
    unfold wts
    by_cases hk : knw kn (i : Int) = true
    · rw [if_pos hk, if_pos hk, if_neg (fun h => by have := (mem_rst.1 h).2; rw [hk] at this; cases this)]; rfl
    · rw [if_neg hk, if_neg hk, holds_snoc]
      congr 1
      have : (i : Int) ∈ rst kn l ↔ (i : Int) ∈ l := by
        rw [mem_rst]
        exact ⟨fun h => h.1, fun h => ⟨h, by simpa using hk⟩⟩
      simp only [this]
  · show (addL _ (gOf kn sets most) (rst kn l)).packs ++ _ = _
    rw [hp.2.1]
    simp [gOf]
  · show (edg kn sets : Int) + ((rst kn l).length : Nat) = (edg kn (sets ++ [l]) : Int)
    rw [edg_snoc]; omega
theorem getD_mem {sets : List (List Int)} {p : Nat} (h : p < sets.length) : sets.getD p [] ∈ sets := by
  rw [List.getD_eq_getElem?_getD, List.getElem?_eq_getElem h]; exact List.getElem_mem h
/-- What holds of sets. -/
def Ssets (k : Nat) (sets : List (List Int)) : Prop := ∀ l ∈ sets, Sset k l
theorem mem_cast {n : Int} {p : Nat} {l : List Int} (h0 : 0 ≤ n) (e : n.toNat = p) (h : n ∈ l) : (p : Int) ∈ l := by
  have : n = (p : Int) := by omega
  rw [← this]; exact h
theorem mem_cast' {n : Int} {p : Nat} {l : List Int} (h0 : 0 ≤ n) (e : n.toNat = p) (h : (p : Int) ∈ l) : n ∈ l := by
  have : n = (p : Int) := by omega
  rw [this]; exact h
theorem lessL_at (x : Int) : ∀ {l : List Int} (s : GM) {p : Nat}, l.Nodup → (∀ n ∈ l, 0 ≤ n ∧ n < s.packs.length) → (p : Int) ∈ l → pk (lessL x s l) p = ((pk s p).1, (pk s p).2.1 - 1, xr (pk s p).2.2 x)
  | [], s, p, _, _, h => by simp at h
  | n :: l, s, p, hd, hr, h => by
    rw [List.nodup_cons] at hd
    have hn := hr n (List.mem_cons_self ..)
    have hl : (lessS x s n).packs.length = s.packs.length := by simp [lessS, GM.upd]
    show pk (lessL x (lessS x s n) l) p = _
    rcases List.mem_cons.1 h with e | e
    · subst e
      rw [lessL_pk x l _ p (fun m hm => by have := hr m (List.mem_cons_of_mem _ hm); omega) (fun m hm e => by
        have h0 := hr m (List.mem_cons_of_mem _ hm)
        have : m = (p : Int) := by omega
        exact hd.1 (this ▸ hm))]
      unfold lessS
      rw [Int.toNat_natCast, pk_set (by omega), if_pos rfl]
    · rw [lessL_at x _ hd.2 (fun m hm => by rw [hl]; exact hr m (List.mem_cons_of_mem _ hm)) e]
      have : pk (lessS x s n) p = pk s p := by
        unfold lessS
        rw [pk_set (by omega), if_neg (fun e2 => hd.1 (mem_cast' hn.1 e2 e))]
      rw [this]
theorem wts_at {kn : List Bool} {sets : List (List Int)} {i : Nat} (hk : knw kn (i : Int) = false) : wts kn sets i = holds sets i := by unfold wts; rw [hk]; rfl
theorem edg_set {kn : List Bool} {sets : List (List Int)} {i : Nat} (hi : i < kn.length) (hz : kn.length ≤ 65536) (hs : Ssets kn.length sets) (hk : knw kn (i : Int) = false) : edg (kn.set i true) sets + (holds sets i).length = edg kn sets := by
  rw [holds_len]
  unfold edg
  induction sets with
  | nil => rfl
  | cons l r ih =>
    have hl := hs l (List.mem_cons_self ..)
    have ih' := ih (fun m hm => hs m (List.mem_cons_of_mem _ hm))
    rw [List.map_cons, List.map_cons, List.sum_cons, List.sum_cons, List.countP_cons, rst_set hi (hl.inR hz)]
    have h1 := filter_away_len (i := (i : Int)) (rst_nodup (kn := kn) hl.nodup)
    have h2 : ((i : Int) ∈ rst kn l) ↔ ((i : Int) ∈ l) := by
      rw [mem_rst]; exact ⟨fun h => h.1, fun h => ⟨h, hk⟩⟩
    simp only [h2] at h1
    simp only [decide_eq_true_eq]
    omega
theorem unk_set {kn : List Bool} {i : Nat} (hi : i < kn.length) (hk : knw kn (i : Int) = false) : unk (kn.set i true) + 1 = unk kn := by
  unfold unk
  induction kn generalizing i with
  | nil => simp at hi
  | cons b r ih =>
    cases i with
    | zero =>
      have : b = false := hk
      subst this
      simp
    | succ i =>
      have := ih (i := i) (by simpa using hi) (by
        have h := hk
        unfold knw at h ⊢
        simpa using h)
      rw [List.set_cons_succ]
      cases b <;> simp at this ⊢ <;> omega
/-- A symbol is taken. -/
theorem gOf_take {kn : List Bool} {sets : List (List Int)} {most : Int} {i : Nat} (hi : i < kn.length) (hz : kn.length ≤ 65536) (hs : Ssets kn.length sets) (hk : knw kn (i : Int) = false) : takeG (gOf kn sets most) i = gOf (kn.set i true) sets most := by
  have hw : (gOf kn sets most).waits i = holds sets i := wts_at hk
  have hlen : (gOf kn sets most).packs.length = sets.length := by simp [gOf]
  have hp := lessL_parts i (holds sets i) (gOf kn sets most)
  unfold takeG
  rw [hw]
  refine GM.eq ?_ (fun j => ?_) ?_ hp.2.2.2.1 ?_ ?_
  · show (lessL (i : Int) (gOf kn sets most) (holds sets i)).known.set i true = _
    rw [hp.1]; rfl
  · show (if j = i then [] else (lessL (i : Int) (gOf kn sets most) (holds sets i)).waits j) = wts (kn.set i true) sets j
    rw [hp.2.1]
    show (if j = i then [] else wts kn sets j) = wts (kn.set i true) sets j
    unfold wts
    rw [knw_set hi (by omega)]
    by_cases e : j = i
    · subst e; simp
    · have : ¬ ((j : Int) = (i : Int)) := by omega
      simp [e, this]
  · show (lessL (i : Int) (gOf kn sets most) (holds sets i)).packs = _
    have hr : ∀ n ∈ holds sets i, 0 ≤ n ∧ n < (gOf kn sets most).packs.length := fun n hn => by
      obtain ⟨p, rfl, h1, _⟩ := mem_holds.1 hn
      rw [hlen]; omega
    refine List.ext_getElem? fun p => ?_
    rcases Nat.lt_or_ge p sets.length with h | h
    · have e1 : (lessL (i : Int) (gOf kn sets most) (holds sets i)).packs[p]? = some (pk (lessL (i : Int) (gOf kn sets most) (holds sets i)) p) := by
        unfold pk
        rw [List.getD_eq_getElem?_getD, List.getElem?_eq_getElem (by rw [hp.2.2.1, hlen]; exact h)]; rfl
      have e2 : (gOf (kn.set i true) sets most).packs[p]? = some (pk (gOf (kn.set i true) sets most) p) := by
        unfold pk
        rw [List.getD_eq_getElem?_getD, List.getElem?_eq_getElem (by simpa [gOf] using h)]; rfl
      rw [e1, e2, pk_gOf]
      congr 1
      have hS := hs _ (getD_mem h)
      have hR := hS.inR hz
      rw [rst_set hi hR]
      by_cases hm : (p : Int) ∈ holds sets i
      · rw [lessL_at _ _ (holds_nodup _ _) hr hm, pk_gOf]
        obtain ⟨q, hq, _, hq2⟩ := mem_holds.1 hm
        obtain rfl : p = q := by omega
        have hmr : (i : Int) ∈ rst kn (sets.getD p []) := mem_rst.2 ⟨hq2, hk⟩
        have h1 := filter_away_len (i := (i : Int)) (rst_nodup (kn := kn) hS.nodup)
        rw [if_pos hmr] at h1
        have hRr : InR (rst kn (sets.getD p [])) := hR.filter _
        refine Prod.ext rfl (Prod.ext ?_ ?_)
        · show ((rst kn (sets.getD p [])).length : Int) - 1 = _
          simp only []
          omega
        · show xr (sumX (rst kn (sets.getD p []))) (i : Int) = sumX _
          rw [sumX_eq hRr, sumX_eq (hRr.filter _), xN_away (rst_nodup hS.nodup) hmr, Int.toNat_natCast, xr_nat _ _ (by have := xN_lt hRr; omega) (by omega)]
      · rw [lessL_pk _ _ _ _ (fun n hn => by have := hr n hn; omega) (fun n hn e => hm (mem_cast (hr n hn).1 e hn)), pk_gOf]
        have hni : ¬ ((i : Int) ∈ sets.getD p []) := fun h2 => hm (mem_holds.2 ⟨p, rfl, h, h2⟩)
        have : (rst kn (sets.getD p [])).filter (fun x => !decide (x = (i : Int))) = rst kn (sets.getD p []) := List.filter_eq_self.2 fun x hx => by
          have : x ≠ (i : Int) := fun e => hni (e ▸ (mem_rst.1 hx).1)
          simp [this]
        rw [this]
    · rw [List.getElem?_eq_none (by rw [hp.2.2.1, hlen]; exact h), List.getElem?_eq_none (by simpa [gOf] using h)]
  · show (lessL (i : Int) (gOf kn sets most) (holds sets i)).unknown - 1 = (unk (kn.set i true) : Int)
    rw [hp.2.2.2.2.1]
    have := unk_set hi hk
    show (unk kn : Int) - 1 = _
    omega
  · show (lessL (i : Int) (gOf kn sets most) (holds sets i)).edges - ((holds sets i).length : Nat) = (edg (kn.set i true) sets : Int)
    rw [hp.2.2.2.2.2]
    have := edg_set hi hz hs hk
    show (edg kn sets : Int) - _ = _
    omega
end Go.Proofs.Ytidoembkcaojoaa
