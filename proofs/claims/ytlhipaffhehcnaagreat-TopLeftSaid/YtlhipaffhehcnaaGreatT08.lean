/- Chapter 20: a graph's numbers, by what is known and the sets: plain. Chapter 20: a graph, by what is known and the sets: what each call comes to. -/
import Derived.Test.YtlhipaffhehcnaaGreatT07
namespace Go.Proofs.YtlhipaffhehcnaaGreat
open Go.RowKit
set_option linter.unusedVariables false
theorem xr_nat (a b : Nat) (ha : a < 4611686018427387904) (hb : b < 4611686018427387904) : xr (a : Int) (b : Int) = ((a ^^^ b : Nat) : Int) := by
  have hx : a ^^^ b < 2 ^ 62 := Nat.xor_lt_two_pow (by omega) (by omega)
  show IntKind.i64.wrap ((BitVec.ofInt 64 (a : Int) ^^^ BitVec.ofInt 64 (b : Int)).toNat : Int) = _
  rw [BitVec.toNat_xor, ofInt_u64 a (by omega), ofInt_u64 b (by omega), IntKind.wrap_i64]
  omega
def xN (l : List Int) : Nat := l.foldl (fun a x => a ^^^ x.toNat) 0
theorem xN_from (l : List Int) : ∀ a : Nat, l.foldl (fun a x => a ^^^ x.toNat) a = a ^^^ xN l := by
  induction l with
  | nil => intro a; simp [xN]
  | cons x l ih =>
    intro a
    unfold xN
    rw [List.foldl_cons, List.foldl_cons, ih, ih, Nat.zero_xor, Nat.xor_assoc]
theorem xN_cons (x : Int) (l : List Int) : xN (x :: l) = x.toNat ^^^ xN l := by
  show l.foldl (fun a x => a ^^^ x.toNat) (0 ^^^ x.toNat) = _
  rw [xN_from, Nat.zero_xor]
def InR (l : List Int) : Prop := ∀ x ∈ l, 0 ≤ x ∧ x < 65536
theorem InR.tail {x : Int} {l : List Int} (h : InR (x :: l)) : InR l := fun y hy => h y (List.mem_cons_of_mem _ hy)
theorem InR.filter {l : List Int} (h : InR l) (f : Int → Bool) : InR (l.filter f) := fun y hy => h y (List.mem_filter.1 hy).1
theorem xN_lt : ∀ {l : List Int}, InR l → xN l < 65536
  | [], _ => by simp [xN]
  | x :: l, h => by
    rw [xN_cons]
    have h1 := h x (List.mem_cons_self ..)
    exact Nat.xor_lt_two_pow (n := 16) (by omega) (xN_lt h.tail)
theorem sumX_from : ∀ {l : List Int} {a : Nat}, InR l → a < 65536 → l.foldl xr (a : Int) = ((a ^^^ xN l : Nat) : Int)
  | [], a, _, _ => by simp [xN]
  | x :: l, a, h, ha => by
    have h1 := h x (List.mem_cons_self ..)
    obtain ⟨n, rfl⟩ : ∃ n : Nat, x = n := ⟨x.toNat, by omega⟩
    have hx : a ^^^ n < 65536 := Nat.xor_lt_two_pow (n := 16) (by omega) (by omega)
    rw [List.foldl_cons, xr_nat a n (by omega) (by omega), sumX_from h.tail hx, xN_cons, Int.toNat_natCast, Nat.xor_assoc]
theorem sumX_eq {l : List Int} (h : InR l) : sumX l = (xN l : Nat) := by
  have := sumX_from (a := 0) h (by omega)
  rw [Nat.zero_xor] at this
  exact this
theorem sumX_one {x : Int} (h : 0 ≤ x ∧ x < 65536) : sumX [x] = x := by
  rw [sumX_eq (fun y hy => by simp at hy; subst hy; exact h), xN_cons]
  simp [xN]
  omega
theorem xN_away {i : Int} : ∀ {l : List Int}, l.Nodup → i ∈ l → xN (l.filter fun x => !decide (x = i)) = xN l ^^^ i.toNat
  | [], _, h => by simp at h
  | x :: l, hd, h => by
    rw [List.nodup_cons] at hd
    by_cases e : x = i
    · subst e
      have : (l.filter fun y => !decide (y = x)) = l := List.filter_eq_self.2 fun y hy => by
        have : y ≠ x := fun e => hd.1 (e ▸ hy)
        simp [this]
      rw [List.filter_cons_of_neg (by simp), this, xN_cons, Nat.xor_comm (x.toNat ^^^ xN l), ← Nat.xor_assoc, Nat.xor_self, Nat.zero_xor]
    · have h' : i ∈ l := by
        rcases List.mem_cons.1 h with e' | e'
        · exact absurd e'.symm e
        · exact e'
      rw [List.filter_cons_of_pos (by simp [e]), xN_cons, xN_cons, xN_away hd.2 h', Nat.xor_assoc]
theorem knw_set {kn : List Bool} {i : Nat} (hi : i < kn.length) {x : Int} (hx : 0 ≤ x) : knw (kn.set i true) x = (knw kn x || decide (x = i)) := by
  unfold knw
  simp only [List.getD_eq_getElem?_getD, List.getElem?_set]
  by_cases e : i = x.toNat
  · have e' : x = i := by omega
    simp [e', hi]
  · have e' : ¬ (x = i) := by omega
    simp [e, e']
theorem rst_set {kn : List Bool} {i : Nat} (hi : i < kn.length) {l : List Int} (h : InR l) : rst (kn.set i true) l = (rst kn l).filter fun x => !decide (x = (i : Int)) := by
  unfold rst
  rw [List.filter_filter]
  refine List.filter_congr fun x hx => ?_
  rw [knw_set hi (h x hx).1]
  cases knw kn x <;> simp
theorem filter_away_len {i : Int} : ∀ {l : List Int}, l.Nodup → (l.filter fun x => !decide (x = i)).length + (if i ∈ l then 1 else 0) = l.length
  | [], _ => by simp
  | x :: l, hd => by
    rw [List.nodup_cons] at hd
    have ih := filter_away_len (i := i) hd.2
    by_cases e : x = i
    · subst e
      rw [if_neg hd.1] at ih
      rw [List.filter_cons_of_neg (by simp), if_pos (List.mem_cons_self ..), List.length_cons]
      omega
    · rw [List.filter_cons_of_pos (by simp [e]), List.length_cons, List.length_cons]
      have : (i ∈ x :: l) ↔ i ∈ l := by simp [Ne.symm e]
      simp only [this]
      omega
/-- Sets. -/
def Sset (k : Nat) (l : List Int) : Prop := setB k l = true
theorem okS_pairwise {k : Int} : ∀ {l : List Int} {last : Int}, okS k last l = true → l.Pairwise (· < ·)
  | [], _, _ => List.Pairwise.nil
  | x :: l, last, h => by
    unfold okS at h
    split at h
    · cases h
    · exact List.Pairwise.cons (fun y hy => (setB_inr h y hy).1) (okS_pairwise h)
theorem Sset.ok {k : Nat} {l : List Int} (h : Sset k l) : okS k (-1) l = true ∧ 0 < l.length := by
  unfold Sset setB at h
  rw [Bool.and_eq_true, decide_eq_true_iff] at h
  exact h
theorem Sset.inr {k : Nat} {l : List Int} (h : Sset k l) : ∀ x ∈ l, 0 ≤ x ∧ x < k := fun x hx => by have := setB_inr h.ok.1 x hx; omega
theorem Sset.inR {k : Nat} {l : List Int} (h : Sset k l) (hk : k ≤ 65536) : InR l := fun x hx => by have := h.inr x hx; omega
theorem Sset.nodup {k : Nat} {l : List Int} (h : Sset k l) : l.Nodup := (okS_pairwise h.ok.1).imp fun h => by omega
theorem rst_nodup {kn : List Bool} {l : List Int} (h : l.Nodup) : (rst kn l).Nodup := h.filter _
theorem mem_rst {kn : List Bool} {l : List Int} {x : Int} : x ∈ rst kn l ↔ x ∈ l ∧ knw kn x = false := by
  unfold rst
  rw [List.mem_filter]
  simp
/-- Which packets hold a symbol. -/
def holds (sets : List (List Int)) (i : Int) : List Int := ((List.range sets.length).filter fun p => decide (i ∈ sets.getD p [])).map fun (p : Nat) => (p : Int)
def wtsG (kn : List Bool) (sets : List (List Int)) (i : Nat) : List Int := if knw kn (i : Int) then [] else holds sets i
def unk (kn : List Bool) : Nat := (kn.filter fun b => !b).length
def edg (kn : List Bool) (sets : List (List Int)) : Nat := (sets.map fun l => (rst kn l).length).sum
def gOf (kn : List Bool) (sets : List (List Int)) (most : Int) : GM :=
  ⟨kn, wtsG kn sets, sets.map fun l => (l, ((rst kn l).length : Int), sumX (rst kn l)), most, unk kn, edg kn sets⟩
theorem GM.eq {a b : GM} (h1 : a.known = b.known) (h2 : ∀ i, a.waits i = b.waits i) (h3 : a.packs = b.packs) (h4 : a.most = b.most) (h5 : a.unknown = b.unknown) (h6 : a.edges = b.edges) : a = b := by
  obtain ⟨a1, a2, a3, a4, a5, a6⟩ := a
  obtain ⟨b1, b2, b3, b4, b5, b6⟩ := b
  simp only at h1 h2 h3 h4 h5 h6
  have : a2 = b2 := funext h2
  subst h1 this h3 h4 h5 h6
  rfl
theorem pk_gOf (kn : List Bool) (sets : List (List Int)) (most : Int) (p : Nat) : pk (gOf kn sets most) p = (sets.getD p [], ((rst kn (sets.getD p [])).length : Int), sumX (rst kn (sets.getD p []))) := by
  unfold pk gOf
  simp only [List.getD_eq_getElem?_getD, List.getElem?_map]
  rcases h : sets[p]? with _ | l
  · rfl
  · rfl
theorem gOf_zero (k : Nat) (most : Int) : gm0 k most = gOf (List.replicate k false) [] most := by
  refine GM.eq rfl (fun i => ?_) rfl rfl ?_ rfl
  · show [] = wtsG _ _ _
    unfold wtsG holds
    split <;> rfl
  · show (k : Int) = (unk (List.replicate k false) : Int)
    unfold unk
    rw [List.filter_replicate]
    simp
theorem mem_holds {sets : List (List Int)} {i n : Int} : n ∈ holds sets i ↔ ∃ p : Nat, n = p ∧ p < sets.length ∧ i ∈ sets.getD p [] := by
  unfold holds
  simp only [List.mem_map, List.mem_filter, List.mem_range, decide_eq_true_eq]
  constructor
  · rintro ⟨p, ⟨h1, h2⟩, rfl⟩; exact ⟨p, rfl, h1, h2⟩
  · rintro ⟨p, rfl, h1, h2⟩; exact ⟨p, ⟨h1, h2⟩, rfl⟩
theorem holds_nodup (sets : List (List Int)) (i : Int) : (holds sets i).Nodup := by
  unfold holds
  exact List.Pairwise.map _ (fun a b h => by intro e; exact h (by omega)) (List.nodup_range.filter _)
theorem holds_snoc (sets : List (List Int)) (l : List Int) (i : Int) : holds (sets ++ [l]) i = holds sets i ++ (if i ∈ l then [(sets.length : Int)] else []) := by
  unfold holds
  rw [List.length_append, List.length_singleton, List.range_succ, List.filter_append, List.map_append]
  congr 1
  · congr 1
    refine List.filter_congr fun p hp => ?_
    have hp' := List.mem_range.1 hp
    simp only [List.getD_eq_getElem?_getD, List.getElem?_append_left hp']
  · have e : (sets ++ [l]).getD sets.length [] = l := by simp [List.getD_eq_getElem?_getD]
    by_cases h : i ∈ l
    · rw [List.filter_cons_of_pos (by rw [e]; simpa using h), if_pos h]; rfl
    · rw [List.filter_cons_of_neg (by rw [e]; simpa using h), if_neg h]; rfl
theorem snoc_ind {α : Type} {P : List α → Prop} (h0 : P []) (h1 : ∀ l a, P l → P (l ++ [a])) (l : List α) : P l := by
  have : ∀ r : List α, P r.reverse := fun r => by
    induction r with
    | nil => exact h0
    | cons a r ih => rw [List.reverse_cons]; exact h1 _ _ ih
  have h := this l.reverse
  rwa [List.reverse_reverse] at h
theorem holds_len (sets : List (List Int)) (i : Int) : (holds sets i).length = sets.countP fun l => decide (i ∈ l) := by
  refine snoc_ind (P := fun sets => (holds sets i).length = sets.countP fun l => decide (i ∈ l)) rfl (fun l a ih => ?_) sets
  show (holds (l ++ [a]) i).length = _
  rw [holds_snoc, List.length_append, ih, List.countP_append]
  congr 1
  by_cases h : i ∈ a <;> simp [h]
theorem edg_snoc (kn : List Bool) (sets : List (List Int)) (l : List Int) : edg kn (sets ++ [l]) = edg kn sets + (rst kn l).length := by
  unfold edg
  simp
theorem addL_waits (n : Nat) (i : Nat) : ∀ {l : List Int} (s : GM), l.Nodup → (∀ x ∈ l, 0 ≤ x) → (addL n s l).waits i = s.waits i ++ (if (i : Int) ∈ l then [(n : Int)] else [])
  | [], s, _, _ => by simp [addL]
  | x :: l, s, hd, h0 => by
    rw [List.nodup_cons] at hd
    have h1 := h0 x (List.mem_cons_self ..)
    show (addL n (addW n s x) l).waits i = _
    rw [addL_waits n i (addW n s x) hd.2 (fun y hy => h0 y (List.mem_cons_of_mem _ hy))]
    unfold addW
    by_cases e : i = x.toNat
    · have e' : (i : Int) = x := by omega
      simp only [e, if_true]
      rw [if_neg (by rw [← e, e']; exact hd.1), if_pos (by rw [← e, e']; exact List.mem_cons_self ..), List.append_nil]
    · have e' : ¬ ((i : Int) = x) := by omega
      simp only [if_neg e]
      congr 1
      simp only [List.mem_cons, e', false_or]
/-- A packet is added. -/
theorem gOf_add {kn : List Bool} {sets : List (List Int)} {most : Int} {l : List Int} (hl : Sset kn.length l) : addG (gOf kn sets most) l = gOf kn (sets ++ [l]) most := by
  have hp := addL_parts (gOf kn sets most).packs.length (rst kn l) (gOf kn sets most)
  have hlen : (gOf kn sets most).packs.length = sets.length := by simp [gOf]
  refine GM.eq hp.1 (fun i => ?_) ?_ hp.2.2.1 hp.2.2.2.1 ?_
  · show (addL (gOf kn sets most).packs.length (gOf kn sets most) (rst kn l)).waits i = wtsG kn (sets ++ [l]) i
    rw [addL_waits _ i _ (rst_nodup hl.nodup) (fun x hx => (hl.inr x (mem_rst.1 hx).1).1), hlen]
    show wtsG kn sets i ++ _ = _
    unfold wtsG
    by_cases hk : knw kn (i : Int) = true
    · rw [if_pos hk, if_pos hk, if_neg (fun h => by have := (mem_rst.1 h).2; rw [hk] at this; cases this)]; rfl
    · rw [if_neg hk, if_neg hk, holds_snoc]
      congr 1
      have : (i : Int) ∈ rst kn l ↔ (i : Int) ∈ l := by
        rw [mem_rst]
        exact ⟨fun h => h.1, fun h => ⟨h, by simpa using hk⟩⟩
      simp only [this]
  · show (addL _ (gOf kn sets most) (rst kn l)).packs ++ _ = _
    rw [hp.2.1]
    simp [gOf]
  · show (edg kn sets : Int) + ((rst kn l).length : Nat) = (edg kn (sets ++ [l]) : Int)
    rw [edg_snoc]; omega
theorem getD_mem {sets : List (List Int)} {p : Nat} (h : p < sets.length) : sets.getD p [] ∈ sets := by
  rw [List.getD_eq_getElem?_getD, List.getElem?_eq_getElem h]; exact List.getElem_mem h
/-- What holds of sets. -/
def Ssets (k : Nat) (sets : List (List Int)) : Prop := ∀ l ∈ sets, Sset k l
theorem mem_cast {n : Int} {p : Nat} {l : List Int} (h0 : 0 ≤ n) (e : n.toNat = p) (h : n ∈ l) : (p : Int) ∈ l := by
  have : n = (p : Int) := by omega
  rw [← this]; exact h
theorem mem_cast' {n : Int} {p : Nat} {l : List Int} (h0 : 0 ≤ n) (e : n.toNat = p) (h : (p : Int) ∈ l) : n ∈ l := by
  have : n = (p : Int) := by omega
  rw [this]; exact h
theorem lessL_at (x : Int) : ∀ {l : List Int} (s : GM) {p : Nat}, l.Nodup → (∀ n ∈ l, 0 ≤ n ∧ n < s.packs.length) → (p : Int) ∈ l → pk (lessL x s l) p = ((pk s p).1, (pk s p).2.1 - 1, xr (pk s p).2.2 x)
  | [], s, p, _, _, h => by simp at h
  | n :: l, s, p, hd, hr, h => by
    rw [List.nodup_cons] at hd
    have hn := hr n (List.mem_cons_self ..)
    have hl : (lessS x s n).packs.length = s.packs.length := by simp [lessS, GM.upd]
    show pk (lessL x (lessS x s n) l) p = _
    rcases List.mem_cons.1 h with e | e
    · subst e
      rw [lessL_pk x l _ p (fun m hm => by have := hr m (List.mem_cons_of_mem _ hm); omega) (fun m hm e => by
        have h0 := hr m (List.mem_cons_of_mem _ hm)
        have : m = (p : Int) := by omega
        exact hd.1 (this ▸ hm))]
      unfold lessS
      rw [Int.toNat_natCast, pk_set (by omega), if_pos rfl]
    · rw [lessL_at x _ hd.2 (fun m hm => by rw [hl]; exact hr m (List.mem_cons_of_mem _ hm)) e]
      have : pk (lessS x s n) p = pk s p := by
        unfold lessS
        rw [pk_set (by omega), if_neg (fun e2 => hd.1 (mem_cast' hn.1 e2 e))]
      rw [this]
theorem wts_at {kn : List Bool} {sets : List (List Int)} {i : Nat} (hk : knw kn (i : Int) = false) : wtsG kn sets i = holds sets i := by unfold wtsG; rw [hk]; rfl
theorem edg_set {kn : List Bool} {sets : List (List Int)} {i : Nat} (hi : i < kn.length) (hz : kn.length ≤ 65536) (hs : Ssets kn.length sets) (hk : knw kn (i : Int) = false) : edg (kn.set i true) sets + (holds sets i).length = edg kn sets := by
  rw [holds_len]
  unfold edg
  induction sets with
  | nil => rfl
  | cons l r ih =>
    have hl := hs l (List.mem_cons_self ..)
    have ih' := ih (fun m hm => hs m (List.mem_cons_of_mem _ hm))
    rw [List.map_cons, List.map_cons, List.sum_cons, List.sum_cons, List.countP_cons, rst_set hi (hl.inR hz)]
    have h1 := filter_away_len (i := (i : Int)) (rst_nodup (kn := kn) hl.nodup)
    have h2 : ((i : Int) ∈ rst kn l) ↔ ((i : Int) ∈ l) := by
      rw [mem_rst]; exact ⟨fun h => h.1, fun h => ⟨h, hk⟩⟩
    simp only [h2] at h1
    simp only [decide_eq_true_eq]
    omega
theorem unk_set {kn : List Bool} {i : Nat} (hi : i < kn.length) (hk : knw kn (i : Int) = false) : unk (kn.set i true) + 1 = unk kn := by
  unfold unk
  induction kn generalizing i with
  | nil => simp at hi
  | cons b r ih =>
    cases i with
    | zero =>
      have : b = false := hk
      subst this
      simp
    | succ i =>
      have := ih (i := i) (by simpa using hi) (by
        have h := hk
        unfold knw at h ⊢
        simpa using h)
      rw [List.set_cons_succ]
      cases b <;> simp at this ⊢ <;> omega
/-- A symbol is taken. -/
theorem gOf_take {kn : List Bool} {sets : List (List Int)} {most : Int} {i : Nat} (hi : i < kn.length) (hz : kn.length ≤ 65536) (hs : Ssets kn.length sets) (hk : knw kn (i : Int) = false) : takeG (gOf kn sets most) i = gOf (kn.set i true) sets most := by
  have hw : (gOf kn sets most).waits i = holds sets i := wts_at hk
  have hlen : (gOf kn sets most).packs.length = sets.length := by simp [gOf]
  have hp := lessL_parts i (holds sets i) (gOf kn sets most)
  unfold takeG
  rw [hw]
  refine GM.eq ?_ (fun j => ?_) ?_ hp.2.2.2.1 ?_ ?_
  · show (lessL (i : Int) (gOf kn sets most) (holds sets i)).known.set i true = _
    rw [hp.1]; rfl
  · show (if j = i then [] else (lessL (i : Int) (gOf kn sets most) (holds sets i)).waits j) = wtsG (kn.set i true) sets j
    rw [hp.2.1]
    show (if j = i then [] else wtsG kn sets j) = wtsG (kn.set i true) sets j
    unfold wtsG
    rw [knw_set hi (by omega)]
    by_cases e : j = i
    · subst e; simp
    · have : ¬ ((j : Int) = (i : Int)) := by omega
      simp [e, this]
  · show (lessL (i : Int) (gOf kn sets most) (holds sets i)).packs = _
    have hr : ∀ n ∈ holds sets i, 0 ≤ n ∧ n < (gOf kn sets most).packs.length := fun n hn => by
      obtain ⟨p, rfl, h1, _⟩ := mem_holds.1 hn
      rw [hlen]; omega
    refine List.ext_getElem? fun p => ?_
    rcases Nat.lt_or_ge p sets.length with h | h
    · have e1 : (lessL (i : Int) (gOf kn sets most) (holds sets i)).packs[p]? = some (pk (lessL (i : Int) (gOf kn sets most) (holds sets i)) p) := by
        unfold pk
        rw [List.getD_eq_getElem?_getD, List.getElem?_eq_getElem (by rw [hp.2.2.1, hlen]; exact h)]; rfl
      have e2 : (gOf (kn.set i true) sets most).packs[p]? = some (pk (gOf (kn.set i true) sets most) p) := by
        unfold pk
        rw [List.getD_eq_getElem?_getD, List.getElem?_eq_getElem (by simpa [gOf] using h)]; rfl
      rw [e1, e2, pk_gOf]
      congr 1
      have hS := hs _ (getD_mem h)
      have hR := hS.inR hz
      rw [rst_set hi hR]
      by_cases hm : (p : Int) ∈ holds sets i
      · rw [lessL_at _ _ (holds_nodup _ _) hr hm, pk_gOf]
        obtain ⟨q, hq, _, hq2⟩ := mem_holds.1 hm
        obtain rfl : p = q := by omega
        have hmr : (i : Int) ∈ rst kn (sets.getD p []) := mem_rst.2 ⟨hq2, hk⟩
        have h1 := filter_away_len (i := (i : Int)) (rst_nodup (kn := kn) hS.nodup)
        rw [if_pos hmr] at h1
        have hRr : InR (rst kn (sets.getD p [])) := hR.filter _
        refine Prod.ext rfl (Prod.ext ?_ ?_)
        · show ((rst kn (sets.getD p [])).length : Int) - 1 = _
          simp only []
          omega
        · show xr (sumX (rst kn (sets.getD p []))) (i : Int) = sumX _
          rw [sumX_eq hRr, sumX_eq (hRr.filter _), xN_away (rst_nodup hS.nodup) hmr, Int.toNat_natCast, xr_nat _ _ (by have := xN_lt hRr; omega) (by omega)]
      · rw [lessL_pk _ _ _ _ (fun n hn => by have := hr n hn; omega) (fun n hn e => hm (mem_cast (hr n hn).1 e hn)), pk_gOf]
        have hni : ¬ ((i : Int) ∈ sets.getD p []) := fun h2 => hm (mem_holds.2 ⟨p, rfl, h, h2⟩)
        have : (rst kn (sets.getD p [])).filter (fun x => !decide (x = (i : Int))) = rst kn (sets.getD p []) := List.filter_eq_self.2 fun x hx => by
          have : x ≠ (i : Int) := fun e => hni (e ▸ (mem_rst.1 hx).1)
          simp [this]
        rw [this]
    · rw [List.getElem?_eq_none (by rw [hp.2.2.1, hlen]; exact h), List.getElem?_eq_none (by simpa [gOf] using h)]
  · show (lessL (i : Int) (gOf kn sets most) (holds sets i)).unknown - 1 = (unk (kn.set i true) : Int)
    rw [hp.2.2.2.2.1]
    have := unk_set hi hk
    show (unk kn : Int) - 1 = _
    omega
  · show (lessL (i : Int) (gOf kn sets most) (holds sets i)).edges - ((holds sets i).length : Nat) = (edg (kn.set i true) sets : Int)
    rw [hp.2.2.2.2.2]
    have := edg_set hi hz hs hk
    show (edg kn sets : Int) - _ = _
    omega
end Go.Proofs.YtlhipaffhehcnaaGreat
namespace Go.Proofs.YtlhipaffhehcnaaGreat
open Go.RowKit
set_option linter.unusedVariables false
structure Gr (w : World) (base G : Nat) (tag : Nat → Option Nat) (L : GL) (kn : List Bool) (sets : List (List Int)) (most : Int) : Prop where
  gm : Gm w base G tag L (gOf kn sets most)
  ss : Ssets kn.length sets
  sz : sets.length ≤ 100000
section
variable {w w' : World} {base G : Nat} {tag : Nat → Option Nat} {L : GL} {kn : List Bool} {sets : List (List Int)} {most : Int}
theorem Gr.below (h : Gr w base G tag L kn sets most) (hb : Below w.heap.size w w') : Gr w' base G tag L kn sets most := ⟨h.gm.below hb, h.ss, h.sz⟩
theorem Gr.other (h : Gr w base G tag L kn sets most) {S : Nat → Prop} (hc : Chg S w w') (hS : ∀ b, tag b ≠ none → ¬ S b) : Gr w' base G tag L kn sets most := ⟨h.gm.other hc hS, h.ss, h.sz⟩
theorem Gr.kz (h : Gr w base G tag L kn sets most) : kn.length ≤ 65536 := h.gm.kz
theorem Gr.pl (h : Gr w base G tag L kn sets most) : (gOf kn sets most).packs.length = sets.length := by simp [gOf]
end
theorem edg_le {kn : List Bool} {sets : List (List Int)} (h : ∀ l ∈ sets, l.length ≤ 65536) : edg kn sets ≤ sets.length * 65536 := by
  unfold edg
  induction sets with
  | nil => simp
  | cons l r ih =>
    have h1 : (rst kn l).length ≤ l.length := List.length_filter_le _ _
    have h2 := h l (List.mem_cons_self ..)
    have := ih (fun m hm => h m (List.mem_cons_of_mem _ hm))
    rw [List.map_cons, List.sum_cons, List.length_cons]
    omega
theorem holds_le (sets : List (List Int)) (i : Int) : (holds sets i).length ≤ sets.length := by
  rw [holds_len]; exact List.countP_le_length
theorem wts_le (kn : List Bool) (sets : List (List Int)) (i : Nat) : (wtsG kn sets i).length ≤ sets.length := by
  unfold wtsG
  split
  · simp
  · exact holds_le _ _
/-- A strictly increasing list of numbers below k has at most k. -/
theorem asc_len {k : Nat} : ∀ {l : List Int} {last : Int}, -1 ≤ last → okS k last l = true → (l.length : Int) ≤ (k : Int) - 1 - last ∨ l = []
  | [], _, _, _ => .inr rfl
  | x :: l, last, h0, h => by
    unfold okS at h
    split at h
    · cases h
    · rename_i hc
      left
      rcases asc_len (last := x) (by omega) h with e | e
      · rw [List.length_cons]; omega
      · subst e; simp; omega
theorem Sset.len {k : Nat} {l : List Int} (h : Sset k l) : l.length ≤ k := by
  rcases asc_len (by omega) h.ok.1 with e | e
  · omega
  · rw [e]; simp
theorem unk_le (kn : List Bool) : unk kn ≤ kn.length := List.length_filter_le _ _
theorem knw_at {kn : List Bool} {i : Nat} (hi : i < kn.length) : kn[i]? = some (knw kn (i : Int)) := by
  unfold knw
  rw [Int.toNat_natCast, List.getD_eq_getElem?_getD, List.getElem?_eq_getElem hi]; rfl
section
variable {w : World} {base G : Nat} {tag : Nat → Option Nat} {L : GL} {kn : List Bool} {sets : List (List Int)} {most : Int}
def inK (kn : List Bool) (x : Int) : Bool := decide (0 ≤ x ∧ x < kn.length)
def tkE (kn : List Bool) (x : Int) : Int := if inK kn x then (if knw kn x then 11 else 0) else 3
def tkK (kn : List Bool) (x : Int) : List Bool := if inK kn x && !knw kn x then kn.set x.toNat true else kn
def tkL (kn : List Bool) (sets : List (List Int)) (x : Int) : List Int := if inK kn x && !knw kn x then (holds sets x).filter fun n => (rst (kn.set x.toNat true) (sets.getD n.toNat [])).length == 1 else []
def TgPost (w : World) (base G : Nat) (tag : Nat → Option Nat) (kn : List Bool) (sets : List (List Int)) (most x : Int) (e : Ending) (w' : World) : Prop :=
  ∃ v L', e = .returned (.tuple #[v, .int .i64 (tkE kn x)]) ∧ w'.ownsRow w.heap.size 3 1 v (tkL kn sets x).length (nums (tkL kn sets x)) ∧ Gr w' base G tag L' (tkK kn x) sets most ∧ Chg (fun b => tag b ≠ none) w w'
theorem last_one (h : Gr w base G tag L kn sets most) {i : Nat} (hi : i < kn.length) (hk : knw kn (i : Int) = false) {n : Int} (hn : n ∈ holds sets i) :
    lastOne (gOf kn sets most) n = ((rst (kn.set i true) (sets.getD n.toNat [])).length == 1) := by
  obtain ⟨p, rfl, hp, hm⟩ := mem_holds.1 hn
  have hS := h.ss _ (getD_mem hp)
  unfold lastOne
  rw [Int.toNat_natCast, pk_gOf, rst_set hi (hS.inR h.kz)]
  have h1 := filter_away_len (i := (i : Int)) (rst_nodup (kn := kn) hS.nodup)
  rw [if_pos (mem_rst.2 ⟨hm, hk⟩)] at h1
  rw [Bool.eq_iff_iff, beq_iff_eq, beq_iff_eq]
  show ((rst kn (sets.getD p [])).length : Int) - 1 = 1 ↔ _
  omega
theorem take_gr (h : Gr w base G tag L kn sets most) (x : Int) : Calls Tryz.prog 116 #[.pointer (some ⟨G, 0, none⟩), .int .i64 x] w (TgPost w base G tag kn sets most x) := by
  by_cases hx : 0 ≤ x ∧ x < kn.length
  · obtain ⟨i, rfl⟩ : ∃ i : Nat, x = i := ⟨x.toNat, by omega⟩
    have hi : i < kn.length := by omega
    have hin : inK kn (i : Int) = true := decide_eq_true hx
    have hg := knw_at hi
    cases hk : knw kn (i : Int) with
    | true =>
      rw [hk] at hg
      refine (take_known h.gm hi hg).mono ?_
      rintro e w' ⟨rfl, rfl⟩
      refine ⟨.slice none 0 0, L, ?_, ?_, ?_, Chg.refl _ _⟩
      · unfold tkE; rw [hin, hk]; rfl
      · unfold tkL; rw [hin, hk]; exact World.ownsRow_nil _ _ _ _
      · unfold tkK; rw [hin, hk]; exact h
    | false =>
      rw [hk] at hg
      have hw : (gOf kn sets most).waits i = holds sets i := wts_at hk
      have hlen := h.pl
      have hmem : ∀ n ∈ holds sets i, ∃ p : Nat, n = p ∧ p < sets.length ∧ (i : Int) ∈ sets.getD p [] := fun n hn => mem_holds.1 hn
      refine (take_ok h.gm hi hg ⟨by rw [hw]; exact holds_nodup _ _, fun n hn => ?_, fun n hn => ?_⟩ ?_ ?_).mono ?_
      · rw [hw] at hn
        obtain ⟨p, rfl, hp, _⟩ := hmem n hn
        rw [hlen]; omega
      · rw [hw] at hn
        obtain ⟨p, rfl, hp, hm⟩ := hmem n hn
        have hS := h.ss _ (getD_mem hp)
        rw [Int.toNat_natCast, pk_gOf]
        have h1 : 0 < (rst kn (sets.getD p [])).length := List.length_pos_of_mem (mem_rst.2 ⟨hm, hk⟩)
        have h2 : (rst kn (sets.getD p [])).length ≤ (sets.getD p []).length := List.length_filter_le _ _
        have h3 := hS.len
        have h4 := h.kz
        show (1 : Int) ≤ ((rst kn (sets.getD p [])).length : Int) ∧ ((rst kn (sets.getD p [])).length : Int) ≤ 1000000
        omega
      · have := edg_le (kn := kn) (sets := sets) (fun l hl => Nat.le_trans (h.ss l hl).len h.kz)
        have h2 := h.sz
        show -1000000000000 ≤ (edg kn sets : Int) ∧ (edg kn sets : Int) ≤ 1000000000000
        omega
      · have := unk_le kn
        have h2 := h.kz
        show 0 ≤ (unk kn : Int) ∧ (unk kn : Int) ≤ 1000000
        omega
      · rintro e w' ⟨v, L', rfl, h1, h2, h3⟩
        rw [hw] at h1
        have hf : (holds sets i).filter (lastOne (gOf kn sets most)) = tkL kn sets (i : Int) := by
          unfold tkL
          rw [hin, hk, Int.toNat_natCast]
          exact List.filter_congr fun n hn => last_one h hi hk hn
        rw [hf] at h1
        rw [gOf_take hi h.kz h.ss hk] at h2
        refine ⟨v, L', ?_, h1, ?_, h3⟩
        · unfold tkE; rw [hin, hk]; rfl
        · unfold tkK
          rw [hin, hk]
          exact ⟨h2, by rw [show (if (true && !false) = true then kn.set ((i : Int)).toNat true else kn).length = kn.length from by simp]; exact h.ss, h.sz⟩
  · have hin : inK kn x = false := decide_eq_false hx
    refine (take_range h.gm hx).mono ?_
    rintro e w' ⟨rfl, rfl⟩
    refine ⟨.slice none 0 0, L, ?_, ?_, ?_, Chg.refl _ _⟩
    · unfold tkE; rw [hin]; rfl
    · unfold tkL; rw [hin]; exact World.ownsRow_nil _ _ _ _
    · unfold tkK; rw [hin]; exact h
def rsL (kn : List Bool) (sets : List (List Int)) (x : Int) : List Int := if 0 ≤ x ∧ x < sets.length then rst kn (sets.getD x.toNat []) else []
def rsE (sets : List (List Int)) (x : Int) : Int := if 0 ≤ x ∧ x < sets.length then 0 else 3
theorem rest_gr (h : Gr w base G tag L kn sets most) (x : Int) : Calls Tryz.prog 111 #[.pointer (some ⟨G, 0, none⟩), .int .i64 x] w (LsPost w (rsL kn sets x) (rsE sets x)) := by
  have hlen := h.pl
  by_cases hx : 0 ≤ x ∧ x < sets.length
  · obtain ⟨p, rfl⟩ : ∃ p : Nat, x = p := ⟨x.toNat, by omega⟩
    have hp : p < sets.length := by omega
    have hS := h.ss _ (getD_mem hp)
    have hle : (rst kn (sets.getD p [])).length ≤ (sets.getD p []).length := List.length_filter_le _ _
    have h3 := hS.len
    have h4 := h.kz
    have e1 : rsL kn sets (p : Int) = restO (gOf kn sets most) p := by
      unfold rsL restO
      rw [if_pos hx, Int.toNat_natCast, pk_gOf]
      simp only []
      by_cases c0 : ((rst kn (sets.getD p [])).length : Int) = 0
      · rw [if_pos c0]; exact List.eq_nil_of_length_eq_zero (by omega)
      · rw [if_neg c0]
        by_cases c1 : ((rst kn (sets.getD p [])).length : Int) = 1
        · rw [if_pos c1]
          obtain ⟨a, ha⟩ := List.length_eq_one_iff.1 (show (rst kn (sets.getD p [])).length = 1 by omega)
          rw [ha, sumX_one]
          have : a ∈ rst kn (sets.getD p []) := by rw [ha]; exact List.mem_cons_self ..
          exact hS.inR h.kz a (mem_rst.1 this).1
        · rw [if_neg c1]; rfl
    have e2 : rsE sets (p : Int) = 0 := if_pos hx
    rw [e1, e2]
    refine rest_ok h.gm (by rw [hlen]; exact hp) ⟨?_, ?_, ?_⟩
    · rw [pk_gOf]
      show 0 ≤ ((rst kn (sets.getD p [])).length : Int) ∧ ((rst kn (sets.getD p [])).length : Int) ≤ 1000000
      omega
    · rw [pk_gOf]; exact ⟨hS.ok.2, by show (sets.getD p []).length ≤ _; omega⟩
    · rw [pk_gOf]; exact hS.inr
  · have e1 : rsL kn sets x = [] := if_neg hx
    have e2 : rsE sets x = 3 := if_neg hx
    rw [e1, e2]
    refine (rest_range h.gm (by rw [hlen]; exact hx)).mono ?_
    rintro e w' ⟨rfl, hb⟩
    exact ⟨_, rfl, World.ownsRow_nil _ _ _ _, hb⟩
def owL (kn : List Bool) (sets : List (List Int)) (x : Int) : List Int := if inK kn x then wtsG kn sets x.toNat else []
def owE (kn : List Bool) (x : Int) : Int := if inK kn x then 0 else 3
theorem of_gr (h : Gr w base G tag L kn sets most) (x : Int) : Calls Tryz.prog 115 #[.pointer (some ⟨G, 0, none⟩), .int .i64 x] w (LsPost w (owL kn sets x) (owE kn x)) := by
  have := of_any h.gm x
  have e1 : ofL (gOf kn sets most) x = owL kn sets x := by
    unfold ofL owL inK
    simp only [decide_eq_true_eq]; rfl
  have e2 : ofE (gOf kn sets most) x = owE kn x := by
    unfold ofE owE inK
    simp only [decide_eq_true_eq]; rfl
  rw [e1, e2] at this
  exact this
theorem unknown_gr (h : Gr w base G tag L kn sets most) : Calls Tryz.prog 81 #[.pointer (some ⟨G, 0, none⟩)] w fun e w' => e = .returned (.int .i64 (unk kn : Nat)) ∧ w = w' := unknown_any h.gm
theorem packets_gr (h : Gr w base G tag L kn sets most) : Calls Tryz.prog 77 #[.pointer (some ⟨G, 0, none⟩)] w fun e w' => e = .returned (.int .i64 (sets.length : Nat)) ∧ w = w' := by
  have := packets_any h.gm
  rw [h.pl] at this
  exact this
end
/-- What adding answers: a number, a rest, an error; the sets. -/
def adR (kn : List Bool) (sets : List (List Int)) (most : Int) (l : List Int) : Int × Int × Int :=
  if setB kn.length l = false then (0, 0, 2) else if (sets.length : Int) = most then (0, 0, 9) else (sets.length, (rst kn l).length, 0)
def adS (kn : List Bool) (sets : List (List Int)) (most : Int) (l : List Int) : List (List Int) :=
  if setB kn.length l = false then sets else if (sets.length : Int) = most then sets else sets ++ [l]
def AgrPost (w : World) (base G : Nat) (tag : Nat → Option Nat) (kn : List Bool) (sets : List (List Int)) (most : Int) (l : List Int) (e : Ending) (w' : World) : Prop :=
  e = .returned (.tuple #[.int .i64 (adR kn sets most l).1, .int .i64 (adR kn sets most l).2.1, .int .i64 (adR kn sets most l).2.2]) ∧ ∃ tag' L', Gr w' base G tag' L' kn (adS kn sets most l) most ∧ Chg (fun b => tag b ≠ none) w w' ∧ ∀ b, b < w.heap.size → tag' b = tag b
section
variable {w : World} {base G : Nat} {tag : Nat → Option Nat} {L : GL} {kn : List Bool} {sets : List (List Int)} {most : Int}
set_option maxRecDepth 100000 in
set_option maxHeartbeats 1600000 in
theorem add_bad {s : GM} (h : Gm w base G tag L s) {A : Option Addr} {n c : Nat} {l : List Int} (hr : Rd w A n (nums l)) (hn : n ≤ 1000000) (hs : setB s.known.length l = false) :
    Calls Tryz.prog 78 #[.pointer (some ⟨G, 0, none⟩), .slice A n c] w fun e w' => e = .returned (.tuple #[.int .i64 0, .int .i64 0, .int .i64 2]) ∧ w = w' := by
  have H := Lib.hid (And.intro h (And.intro hr (And.intro hn hs)))
  clear h hr hn hs
  go_enter Tryz.func78, Tryz.ntmps78
  go_wp2_with fail
  refine (none_made H.out.1).mono ?_
  rintro e w1 ⟨rfl, rfl⟩
  go_wp2_with fail
  refine (set_any H.out.1 H.out.2.1 H.out.2.2.1).mono ?_
  rintro e w1 ⟨rfl, rfl⟩
  rw [H.out.2.2.2]
  go_wp2
  go_ret3
  exact ⟨rfl, rfl⟩
set_option maxRecDepth 100000 in
set_option maxHeartbeats 1600000 in
theorem add_full {s : GM} (h : Gm w base G tag L s) {A : Option Addr} {n c : Nat} {l : List Int} (hr : Rd w A n (nums l)) (hn : n ≤ 1000000) (hs : setB s.known.length l = true) (hf : (s.packs.length : Int) = s.most) :
    Calls Tryz.prog 78 #[.pointer (some ⟨G, 0, none⟩), .slice A n c] w fun e w' => e = .returned (.tuple #[.int .i64 0, .int .i64 0, .int .i64 9]) ∧ Below w.heap.size w w' := by
  have H := Lib.hid (And.intro h (And.intro hr (And.intro hn hs)))
  have c2 := h.g.cell 2
  have c3 := h.g.cell 3
  obtain ⟨np, hnp⟩ : ∃ np, s.packs.length = np := ⟨_, rfl⟩
  obtain ⟨ms, hms⟩ : ∃ ms, s.most = ms := ⟨_, rfl⟩
  rw [hnp] at c2 hf
  rw [hms] at c3 hf
  have dm : ((np : Int) == ms) = true := by simpa using hf
  clear h hr hn hs hnp hms hf
  go_enter Tryz.func78, Tryz.ntmps78
  go_wp2_with fail
  refine (none_made H.out.1).mono ?_
  rintro e w1 ⟨rfl, rfl⟩
  go_wp2_with fail
  refine (set_any H.out.1 H.out.2.1 H.out.2.2.1).mono ?_
  rintro e w1 ⟨rfl, rfl⟩
  rw [H.out.2.2.2]
  go_wp2_with fail
  go_quiet (fail)
  go_wp2
  go_ret3
  exact ⟨rfl, below_dN (Below.refl _ _) _⟩
theorem add_gr (h : Gr w base G tag L kn sets most) {A : Option Addr} {n c : Nat} {l : List Int} (hr : Rd w A n (nums l)) (hn : n ≤ 1000000) (hA : 0 < n → ∀ a, A = some a → tag a.block = none) (hs : sets.length < 100000) :
    Calls Tryz.prog 78 #[.pointer (some ⟨G, 0, none⟩), .slice A n c] w (AgrPost w base G tag kn sets most l) := by
  have hl : l.length = n := by have := hr.1; simpa [nums_length] using this
  have hlen := h.pl
  cases hb : setB kn.length l with
  | false =>
    refine (add_bad h.gm hr hn hb).mono ?_
    rintro e w' ⟨rfl, rfl⟩
    refine ⟨?_, tag, L, ?_, Chg.refl _ _, fun _ _ => rfl⟩
    · unfold adR; rw [if_pos hb]
    · unfold adS; rw [if_pos hb]; exact h
  | true =>
    by_cases hf : (sets.length : Int) = most
    · refine (add_full h.gm hr hn hb (by rw [hlen]; exact hf)).mono ?_
      rintro e w' ⟨rfl, hbl⟩
      refine ⟨?_, tag, L, ?_, Chg.of_below hbl, fun _ _ => rfl⟩
      · unfold adR; rw [if_neg (by rw [hb]; simp), if_pos hf]
      · unfold adS; rw [if_neg (by rw [hb]; simp), if_pos hf]; exact h.below hbl
    · have hS : Sset kn.length l := hb
      have h3 := hS.len
      have h4 := h.kz
      refine (add_ok h.gm hr (by omega) (hA (by have := hS.ok.2; omega)) hb (by rw [hlen]; exact hf) (by rw [hlen]; exact h.sz) (fun i => Nat.le_trans (wts_le _ _ _) h.sz) ?_).mono ?_
      · have := edg_le (kn := kn) (sets := sets) (fun l hl => Nat.le_trans (h.ss l hl).len h.kz)
        have h2 := h.sz
        show -1000000000000 ≤ (edg kn sets : Int) ∧ (edg kn sets : Int) ≤ 1000000000000
        omega
      · rintro e w' ⟨rfl, tag', L', h1, h2, h5⟩
        rw [gOf_add hS] at h1
        refine ⟨?_, tag', L', ?_, h2, h5⟩
        · unfold adR; rw [if_neg (by rw [hb]; simp), if_neg hf, hlen]; rfl
        · unfold adS
          rw [if_neg (by rw [hb]; simp), if_neg hf]
          exact ⟨h1, fun m hm => by
            rcases List.mem_append.1 hm with e | e
            · exact h.ss m e
            · rw [List.mem_singleton] at e; subst e; exact hS, by simp; omega⟩
end
def NgrPost (w : World) (k most : Int) (e : Ending) (w' : World) : Prop :=
  if bad k most then e = .returned (.tuple #[.pointer none, .int .i64 3]) ∧ w' = w
  else ∃ G tag L, e = .returned (.tuple #[.pointer (some ⟨G, 0, none⟩), .int .i64 0]) ∧ Gr w' w.heap.size G tag L (List.replicate k.toNat false) [] most ∧ Below w.heap.size w w'
theorem new_gr {w : World} (k most : Int) : Calls Tryz.prog 72 #[.int .i64 k, .int .i64 most] w (NgrPost w k most) := by
  refine (new_any k most).mono ?_
  intro e w' h
  unfold NgPost at h
  unfold NgrPost
  split
  · rename_i hb; rw [if_pos hb] at h; exact h
  · rename_i hb
    rw [if_neg hb] at h
    obtain ⟨G, KB, WB, rfl, h1, h2⟩ := h
    rw [gOf_zero] at h1
    exact ⟨G, _, _, rfl, ⟨h1, fun l hl => by simp at hl, by simp⟩, h2⟩
end Go.Proofs.YtlhipaffhehcnaaGreat
