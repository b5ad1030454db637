/- The plain words of chapter 14: heaps of numbers. The plain words of chapter 14: how an alias is made. The plain words of chapter 8: the sum of two symbols, of several, padding. -/
import Derived.Test.YtlhipaffhehcnaaGreatT01
namespace Go.Proofs.YtlhipaffhehcnaaGreat
open Go.RowKit
set_option linter.unusedVariables false
/-- A list's number at a place. -/
def gi (l : List Int) (i : Nat) : Int := l.getD i 0
theorem gi_get {l : List Int} {i : Nat} (h : i < l.length) : gi l i = l[i] := by simp [gi, List.getD_eq_getElem?_getD, h]
theorem gi_set {l : List Int} {i : Nat} (h : i < l.length) (x : Int) (j : Nat) : gi (l.set i x) j = if i = j then x else gi l j := by
  simp only [gi, List.getD_eq_getElem?_getD, List.getElem?_set]
  by_cases e : i = j
  · subst e; simp [h]
  · simp [e]
theorem gi_take {l : List Int} {n j : Nat} (h : j < n) : gi (l.take n) j = gi l j := by
  simp only [gi, List.getD_eq_getElem?_getD, List.getElem?_take, if_pos h]
theorem gi_mem {l : List Int} {i : Nat} (h : i < l.length) : gi l i ∈ l := by rw [gi_get h]; exact List.getElem_mem h
theorem mem_gi {l : List Int} {x : Int} (h : x ∈ l) : ∃ i, i < l.length ∧ x = gi l i := by
  obtain ⟨i, hi, e⟩ := List.mem_iff_getElem.1 h
  exact ⟨i, hi, by rw [gi_get hi, e]⟩
/-- Two places exchanged. -/
def swp (l : List Int) (i j : Nat) : List Int := (l.set i (gi l j)).set j (gi l i)
theorem swp_length (l : List Int) (i j : Nat) : (swp l i j).length = l.length := by simp [swp]
theorem gi_swp {l : List Int} {i j : Nat} (hi : i < l.length) (hj : j < l.length) (m : Nat) : gi (swp l i j) m = if j = m then gi l i else if i = m then gi l j else gi l m := by
  unfold swp
  rw [gi_set (by simpa using hj), gi_set hi]
/-- A heap; a heap but for one place that may be too small; but for one that may be too great. -/
def Hp (l : List Int) : Prop := ∀ j, 0 < j → j < l.length → gi l ((j - 1) / 2) ≤ gi l j
def Up (l : List Int) (i : Nat) : Prop :=
  (∀ j, 0 < j → j < l.length → j ≠ i → gi l ((j - 1) / 2) ≤ gi l j) ∧ (∀ j, 0 < j → j < l.length → (j - 1) / 2 = i → 0 < i → gi l ((i - 1) / 2) ≤ gi l j)
def Dn (l : List Int) (i : Nat) : Prop :=
  (∀ j, 0 < j → j < l.length → (j - 1) / 2 ≠ i → gi l ((j - 1) / 2) ≤ gi l j) ∧ (∀ j, 0 < j → j < l.length → (j - 1) / 2 = i → 0 < i → gi l ((i - 1) / 2) ≤ gi l j)
theorem Hp.nil : Hp [] := fun j _ h => by simp at h
theorem gi_snoc {l : List Int} {j : Nat} (h : j < l.length) (x : Int) : gi (l ++ [x]) j = gi l j := by
  simp [gi, List.getD_eq_getElem?_getD, List.getElem?_append_left h]
theorem Up.snoc {l : List Int} (h : Hp l) (x : Int) : Up (l ++ [x]) l.length := by
  refine ⟨fun j h0 hl hne => ?_, fun j h0 hl hp => ?_⟩
  · have hj : j < l.length := by simp at hl; omega
    rw [gi_snoc hj, gi_snoc (by omega)]
    exact h j h0 hj
  · simp at hl; omega
theorem Up.stop {l : List Int} {i : Nat} (h : Up l i) (hs : i = 0 ∨ gi l ((i - 1) / 2) ≤ gi l i) : Hp l := by
  intro j h0 hl
  by_cases e : j = i
  · subst e; rcases hs with hs | hs
    · omega
    · exact hs
  · exact h.1 j h0 hl e
theorem Up.step {l : List Int} {i : Nat} (h : Up l i) (h0 : 0 < i) (hi : i < l.length) (hg : gi l i < gi l ((i - 1) / 2)) : Up (swp l ((i - 1) / 2) i) ((i - 1) / 2) := by
  have hu : (i - 1) / 2 < l.length := by omega
  refine ⟨fun j k0 hl hne => ?_, fun j k0 hl hp hq => ?_⟩
  · rw [swp_length] at hl
    rw [gi_swp hu hi, gi_swp hu hi]
    by_cases e1 : i = j
    · subst e1
      rw [if_pos rfl, if_neg (by omega), if_pos rfl]; omega
    · by_cases e2 : i = (j - 1) / 2
      · rw [if_pos e2, if_neg e1, if_neg (by omega)]
        exact h.2 j k0 hl e2.symm h0
      · have := h.1 j k0 hl (Ne.symm e1)
        rw [if_neg e2, if_neg e1, if_neg (Ne.symm hne)]
        by_cases e3 : (i - 1) / 2 = (j - 1) / 2
        · rw [if_pos e3]; rw [← e3] at this; omega
        · rw [if_neg e3]; exact this
  · rw [swp_length] at hl
    rw [gi_swp hu hi, gi_swp hu hi]
    have hpp := h.1 ((i - 1) / 2) hq hu (by omega)
    rw [if_neg (by omega), if_neg (by omega)]
    by_cases e1 : i = j
    · subst e1
      rw [if_pos rfl]; exact hpp
    · rw [if_neg e1, if_neg (by omega)]
      have := h.1 j k0 hl (Ne.symm e1)
      rw [hp] at this
      omega
theorem Dn.start {l : List Int} (h : Hp l) (x : Int) (n : Nat) : Dn ((l.set 0 x).take n) 0 := by
  refine ⟨fun j h0 hl hne => ?_, fun j h0 hl hp hq => by omega⟩
  simp at hl
  rw [gi_take (by omega), gi_take (by omega), gi_set (by omega), gi_set (by omega), if_neg (by omega), if_neg (by omega)]
  exact h j h0 (by omega)
theorem Dn.stop {l : List Int} {i : Nat} (h : Dn l i) (h1 : 2 * i + 1 < l.length → gi l i ≤ gi l (2 * i + 1)) (h2 : 2 * i + 2 < l.length → gi l i ≤ gi l (2 * i + 2)) : Hp l := by
  intro j h0 hl
  by_cases e : (j - 1) / 2 = i
  · rcases (show j = 2 * i + 1 ∨ j = 2 * i + 2 from by omega) with hj | hj
    · rw [e, hj]; exact h1 (by omega)
    · rw [e, hj]; exact h2 (by omega)
  · exact h.1 j h0 hl e
theorem Dn.step {l : List Int} {i k : Nat} (h : Dn l i) (hk : k < l.length) (hc : k = 2 * i + 1 ∨ k = 2 * i + 2) (hg : gi l k < gi l i)
    (h1 : 2 * i + 1 < l.length → gi l k ≤ gi l (2 * i + 1)) (h2 : 2 * i + 2 < l.length → gi l k ≤ gi l (2 * i + 2)) : Dn (swp l i k) k := by
  have hi : i < l.length := by omega
  refine ⟨fun j k0 hl hne => ?_, fun j k0 hl hp hq => ?_⟩
  · rw [swp_length] at hl
    rw [gi_swp hi hk, gi_swp hi hk, if_neg (Ne.symm hne)]
    by_cases e1 : k = j
    · subst e1
      rw [if_pos rfl, if_pos (by omega)]; omega
    · rw [if_neg e1]
      by_cases e2 : i = (j - 1) / 2
      · rw [if_pos e2, if_neg (by omega)]
        rcases (show j = 2 * i + 1 ∨ j = 2 * i + 2 from by omega) with hj | hj
        · rw [hj]; exact h1 (by omega)
        · rw [hj]; exact h2 (by omega)
      · rw [if_neg e2]
        by_cases e3 : i = j
        · subst e3
          rw [if_pos rfl]
          rcases Nat.eq_zero_or_pos i with z | z
          · omega
          · exact h.2 k (by omega) hk (by omega) z
        · rw [if_neg e3]; exact h.1 j k0 hl (Ne.symm e2)
  · rw [swp_length] at hl
    rw [gi_swp hi hk, gi_swp hi hk, if_neg (by omega), if_pos (by omega), if_neg (by omega), if_neg (by omega)]
    have := h.1 j k0 hl (by omega)
    rw [hp] at this
    exact this
theorem Hp.min {l : List Int} (h : Hp l) : ∀ (j : Nat), j < l.length → gi l 0 ≤ gi l j := by
  intro j
  induction j using Nat.strongRecOn with
  | ind j ih =>
    intro hj
    rcases Nat.eq_zero_or_pos j with h0 | h0
    · subst h0; exact Int.le_refl _
    · have a := ih ((j - 1) / 2) (by omega) (by omega)
      have b := h j h0 hj
      omega
end Go.Proofs.YtlhipaffhehcnaaGreat
namespace Go.Proofs.YtlhipaffhehcnaaGreat
open Go.RowKit
set_option linter.unusedVariables false
/-- The first number below n of which p holds; n: of none. -/
def findR (n : Nat) (p : Nat → Bool) : Nat := (List.range n).findIdx p
theorem findR_le (n : Nat) (p : Nat → Bool) : findR n p ≤ n := by
  have := List.findIdx_le_length (p := p) (xs := List.range n)
  simpa [findR] using this
theorem findR_not {n : Nat} {p : Nat → Bool} {j : Nat} (h : j < findR n p) : p j = false := by
  have := List.not_of_lt_findIdx (p := p) (xs := List.range n) h
  simpa using this
theorem findR_is {n : Nat} {p : Nat → Bool} (h : findR n p < n) : p (findR n p) = true := by
  have := List.findIdx_getElem (p := p) (xs := List.range n) (w := by simpa [findR] using h)
  simpa [findR] using this
/-- Sums over the numbers below n. -/
def Sg : Nat → (Nat → Int) → Int
  | 0, _ => 0
  | n + 1, f => Sg n f + f n
theorem Sg_congr {n : Nat} {f g : Nat → Int} (h : ∀ i, i < n → f i = g i) : Sg n f = Sg n g := by
  induction n with
  | zero => rfl
  | succ n ih => unfold Sg; rw [ih fun i hi => h i (by omega), h n (by omega)]
theorem Sg_le {n : Nat} {f : Nat → Int} (h : ∀ i, i < n → f i ≤ 0) : Sg n f ≤ 0 := by
  induction n with
  | zero => exact Int.le_refl _
  | succ n ih => have := ih fun i hi => h i (by omega); have := h n (by omega); unfold Sg; omega
theorem Sg_upd {n i : Nat} {f g : Nat → Int} (hi : i < n) (h : ∀ j, j < n → j ≠ i → g j = f j) : Sg n g = Sg n f + (g i - f i) := by
  induction n with
  | zero => omega
  | succ n ih =>
    unfold Sg
    by_cases e : i = n
    · subst e
      rw [Sg_congr (f := g) (g := f) fun j hj => h j (by omega) (by omega)]
      omega
    · rw [ih (by omega) fun j hj => h j (by omega), h n (by omega) (by omega)]
      omega
theorem Sg_upd2 {n i k : Nat} {f g : Nat → Int} (hi : i < n) (hk : k < n) (hik : i ≠ k) (h : ∀ j, j < n → j ≠ i → j ≠ k → g j = f j) : Sg n g = Sg n f + (g i - f i) + (g k - f k) := by
  have h1 : Sg n (fun j => if j = i then g i else f j) = Sg n f + (g i - f i) := by
    rw [Sg_upd (f := f) hi fun j _ hj => by simp [hj]]; simp
  rw [← h1, Sg_upd (f := fun j => if j = i then g i else f j) hk fun j hj hjk => ?_]
  · rw [if_neg (Ne.symm hik)]
  · split
    · next e => rw [e]
    · next e => exact h j hj e hjk
theorem Sg_some {n i : Nat} {f : Nat → Int} (h0 : Sg n f = 0) (hi : i < n) (hn : f i < 0) : ∃ j, j < n ∧ 0 < f j := by
  apply Decidable.byContradiction
  intro hc
  have hle : ∀ j, j < n → f j ≤ 0 := fun j hj => by
    apply Decidable.byContradiction
    intro hx
    exact hc ⟨j, hj, by omega⟩
  have h1 := Sg_upd (f := f) (g := fun j => if j = i then 0 else f j) hi fun j _ hj => by simp [hj]
  have h2 : Sg n (fun j => if j = i then 0 else f j) ≤ 0 := Sg_le fun j hj => by
    split
    · exact Int.le_refl _
    · exact hle j hj
  simp at h1
  omega
/-- What the making has: rests, cuts, others, and which columns are done. -/
structure AS where
  rest : List Int
  cut : List Int
  other : List Int
  done : List Bool
def gb (l : List Bool) (i : Nat) : Bool := l.getD i true
theorem gb_set {l : List Bool} {i : Nat} (h : i < l.length) (x : Bool) (j : Nat) : gb (l.set i x) j = if i = j then x else gb l j := by
  simp only [gb, List.getD_eq_getElem?_getD, List.getElem?_set]
  by_cases e : i = j
  · subst e; simp [h]
  · simp [e]
def belP (rest : List Int) (done : List Bool) (T : Int) (i : Nat) : Bool := !gb done i && decide (gi rest i < T)
def abvP (rest : List Int) (T : Int) (i : Nat) : Bool := decide (T < gi rest i)
def bel (rest : List Int) (done : List Bool) (T : Int) : Nat := findR rest.length (belP rest done T)
def abv (rest : List Int) (T : Int) : Nat := findR (rest.length - 1) (abvP rest T)
def aUpd (T : Int) (s : AS) (i k : Nat) : AS := ⟨s.rest.set k (gi s.rest k - (T - gi s.rest i)), s.cut.set i (gi s.rest i), s.other.set i (k : Int), s.done.set i true⟩
def aStep (T : Int) (s : AS) : AS := if bel s.rest s.done T < s.rest.length then aUpd T s (bel s.rest s.done T) (abv s.rest T) else s
def aIter (T : Int) : Nat → AS → AS
  | 0, s => s
  | n + 1, s => aStep T (aIter T n s)
def a0 (t : List Int) : AS := ⟨t.map fun w => (t.length : Int) * w, List.replicate t.length t.sum, (List.range t.length).map fun (i : Nat) => (i : Int), List.replicate t.length false⟩
structure AInv (T : Int) (m : Nat) (s : AS) : Prop where
  lr : s.rest.length = m
  lc : s.cut.length = m
  lo : s.other.length = m
  ld : s.done.length = m
  ge : ∀ i, i < m → 0 ≤ gi s.rest i
  le : ∀ i, i < m → gi s.rest i ≤ 65536 * 16777215
  dn : ∀ i, i < m → gb s.done i = true → gi s.rest i < T
  sm : Sg m (fun i => bif gb s.done i then 0 else gi s.rest i - T) = 0
theorem AInv.above {T : Int} {m : Nat} {s : AS} (h : AInv T m s) (hb : bel s.rest s.done T < m) :
    abv s.rest T < m ∧ T < gi s.rest (abv s.rest T) ∧ gb s.done (abv s.rest T) = false ∧ abv s.rest T ≠ bel s.rest s.done T ∧ gb s.done (bel s.rest s.done T) = false ∧ gi s.rest (bel s.rest s.done T) < T := by
  have hp : belP s.rest s.done T (bel s.rest s.done T) = true := findR_is (n := s.rest.length) (by show bel s.rest s.done T < s.rest.length; rw [h.lr]; exact hb)
  simp only [belP, Bool.and_eq_true, Bool.not_eq_true', decide_eq_true_eq] at hp
  obtain ⟨j, hj, hgt⟩ := Sg_some h.sm hb (by rw [hp.1]; simp; omega)
  have hjg : T < gi s.rest j := by
    cases hd : gb s.done j with
    | true => rw [hd] at hgt; simp at hgt
    | false => rw [hd] at hgt; simp at hgt; omega
  have ha : abv s.rest T < m ∧ T < gi s.rest (abv s.rest T) := by
    have hle := findR_le (s.rest.length - 1) (abvP s.rest T)
    rw [h.lr] at hle
    rcases Nat.lt_or_ge (abv s.rest T) (m - 1) with hlt | hge
    · have := findR_is (n := s.rest.length - 1) (p := abvP s.rest T) (by show abv s.rest T < s.rest.length - 1; rw [h.lr]; exact hlt)
      simp only [abvP, decide_eq_true_eq] at this
      exact ⟨by omega, this⟩
    · have hm1 : abv s.rest T = m - 1 := by
        have : abv s.rest T ≤ m - 1 := by unfold abv; rw [h.lr]; exact hle
        omega
      rcases Nat.lt_or_ge j (m - 1) with hjl | hjl
      · have := findR_not (n := s.rest.length - 1) (p := abvP s.rest T) (j := j) (by unfold abv at hm1; omega)
        simp only [abvP, decide_eq_false_iff_not] at this
        omega
      · rw [hm1, show m - 1 = j from by omega]
        exact ⟨by omega, hjg⟩
  refine ⟨ha.1, ha.2, ?_, fun e => by rw [e] at ha; omega, hp.1, hp.2⟩
  cases hd : gb s.done (abv s.rest T) with
  | false => rfl
  | true => have := h.dn _ ha.1 hd; omega
theorem AInv.upd {T : Int} {m : Nat} {s : AS} (h : AInv T m s) (hT : 0 < T) (hb : bel s.rest s.done T < m) : AInv T m (aStep T s) := by
  obtain ⟨ha, hgt, hda, hne, hdb, hlt⟩ := h.above hb
  have hge := h.ge _ hb
  have hle := h.le _ ha
  unfold aStep
  rw [if_pos (by rw [h.lr]; exact hb)]
  generalize bel s.rest s.done T = i at *
  generalize abv s.rest T = k at *
  have hk : k < s.rest.length := by rw [h.lr]; exact ha
  have hi : i < s.done.length := by rw [h.ld]; exact hb
  refine ⟨by simp [aUpd, h.lr], by simp [aUpd, h.lc], by simp [aUpd, h.lo], by simp [aUpd, h.ld], fun j hj => ?_, fun j hj => ?_, fun j hj hd => ?_, ?_⟩
  · simp only [aUpd]; rw [gi_set hk]; split
    · omega
    · exact h.ge j hj
  · simp only [aUpd]; rw [gi_set hk]; split
    · omega
    · exact h.le j hj
  · simp only [aUpd] at hd ⊢
    rw [gb_set hi] at hd
    rw [gi_set hk]
    split at hd
    · next e => subst e; rw [if_neg hne]; exact hlt
    · rw [if_neg (fun e => by subst e; rw [hda] at hd; cases hd)]; exact h.dn j hj hd
  · simp only [aUpd]
    rw [Sg_upd2 (f := fun i => bif gb s.done i then 0 else gi s.rest i - T) hb ha (Ne.symm hne) (fun j hj hji hjk => by rw [gb_set hi, gi_set hk, if_neg (Ne.symm hji), if_neg (Ne.symm hjk)]), h.sm]
    rw [gb_set hi, gb_set hi, gi_set hk, gi_set hk, if_pos rfl, if_pos rfl, if_neg hne, if_neg (Ne.symm hne), hda, hdb]
    simp
    omega
/-- So many rounds were gone. -/
def Reached (T : Int) (m : Nat) (s0 s : AS) (r : Nat) : Prop := s = aIter T r s0 ∧ AInv T m s ∧ s.done.countP (fun b => b) = r
theorem Reached.lt {T : Int} {m r : Nat} {s0 s : AS} (h : Reached T m s0 s r) (hb : bel s.rest s.done T < m) : r < m := by
  have h1 := (h.2.1.above hb).2.2.2.2.1
  have h2 := List.countP_le_length (p := fun b => b) (l := s.done)
  rw [h.2.2, h.2.1.ld] at h2
  rcases Nat.lt_or_ge r m with x | x
  · exact x
  · have e : s.done.countP (fun b => b) = s.done.length := by rw [h.2.2, h.2.1.ld]; omega
    rw [List.countP_eq_length] at e
    have hl : bel s.rest s.done T < s.done.length := by rw [h.2.1.ld]; exact hb
    have := e _ (List.getElem_mem hl)
    simp only [gb, List.getD_eq_getElem?_getD, List.getElem?_eq_getElem hl, Option.getD_some] at h1
    rw [h1] at this; cases this
theorem Reached.step {T : Int} {m r : Nat} {s0 s : AS} (h : Reached T m s0 s r) (hT : 0 < T) (hb : bel s.rest s.done T < m) : Reached T m s0 (aStep T s) (r + 1) := by
  refine ⟨by rw [h.1]; rfl, h.2.1.upd hT hb, ?_⟩
  have h1 := (h.2.1.above hb).2.2.2.2.1
  have hl : bel s.rest s.done T < s.done.length := by rw [h.2.1.ld]; exact hb
  unfold aStep
  rw [if_pos (by rw [h.2.1.lr]; exact hb)]
  simp only [aUpd]
  rw [List.countP_set hl, h.2.2]
  simp only [gb, List.getD_eq_getElem?_getD, List.getElem?_eq_getElem hl, Option.getD_some] at h1
  simp [h1]
theorem aIter_stay (T : Int) (s0 : AS) (r : Nat) (h : aStep T (aIter T r s0) = aIter T r s0) : ∀ d, aIter T (r + d) s0 = aIter T r s0
  | 0 => rfl
  | d + 1 => by
    show aStep T (aIter T (r + d) s0) = _
    rw [aIter_stay T s0 r h d, h]
theorem Reached.last {T : Int} {m r : Nat} {s0 s : AS} (h : Reached T m s0 s r) (hb : ¬ bel s.rest s.done T < m) : s = aIter T m s0 := by
  have h2 := List.countP_le_length (p := fun b => b) (l := s.done)
  rw [h.2.2, h.2.1.ld] at h2
  have hs : aStep T s = s := by unfold aStep; rw [if_neg (by rw [h.2.1.lr]; exact hb)]
  have := aIter_stay T s0 r (by rw [← h.1]; exact hs) (m - r)
  rw [show r + (m - r) = m from by omega] at this
  rw [this, h.1]
end Go.Proofs.YtlhipaffhehcnaaGreat
namespace Go.Proofs.YtlhipaffhehcnaaGreat
open Go.RowKit
set_option linter.unusedVariables false
def xorL (a b : List UInt8) : List UInt8 := List.zipWith (· ^^^ ·) a b
theorem xorL_length (a b : List UInt8) (h : a.length = b.length) : (xorL a b).length = a.length := by simp [xorL, h]
theorem xorL_nil (b : List UInt8) : xorL [] b = [] := rfl
theorem xorL_take (a b : List UInt8) (n : Nat) : (xorL a b).take n = xorL (a.take n) (b.take n) := by simp [xorL, List.take_zipWith]
theorem xorL_take_succ {a b : List UInt8} {k : Nat} (h : k < a.length) (h' : k < b.length) : xorL (a.take (k + 1)) (b.take (k + 1)) = xorL (a.take k) (b.take k) ++ [a[k] ^^^ b[k]] := by
  rw [← xorL_take, ← xorL_take, List.take_succ_eq_append_getElem (by simp [xorL]; omega)]
  congr 2
  simp [xorL]
theorem byte_lt (x : UInt8) : (x.toNat : Int) < 256 := by have := x.toNat_lt; omega
/-- What Xor, All and Pad tell, and which error. -/
def xorE (a b : List UInt8) : Int := if a.length = b.length then 0 else 2
def xorV (a b : List UInt8) : List UInt8 := if a.length = b.length then xorL a b else []
theorem xorL_comm (a b : List UInt8) : xorL a b = xorL b a := by
  unfold xorL; rw [List.zipWith_comm]; congr 1; funext x y; exact UInt8.xor_comm y x
theorem xorL_assoc : ∀ (a b c : List UInt8), xorL (xorL a b) c = xorL a (xorL b c)
  | [], b, c => by simp [xorL]
  | x :: a, [], c => by simp [xorL]
  | x :: a, y :: b, [] => by simp [xorL]
  | x :: a, y :: b, z :: c => by
    have := xorL_assoc a b c
    simp only [xorL, List.zipWith_cons_cons] at this ⊢
    rw [this, UInt8.xor_assoc]
end Go.Proofs.YtlhipaffhehcnaaGreat
