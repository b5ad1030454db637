/- The plain words of chapter 14: how an alias is made. -/
import Derived.Test.YtidoembkcaojoaaP14
namespace Go.Proofs.Ytidoembkcaojoaa
open Go.RowKit
set_option linter.unusedVariables false
/-- The first number below n of which p holds; n: of none. -/
def findR (n : Nat) (p : Nat → Bool) : Nat := (List.range n).findIdx p
theorem findR_le (n : Nat) (p : Nat → Bool) : findR n p ≤ n := by
  have := List.findIdx_le_length (p := p) (xs := List.range n)
  simpa [findR] using this
theorem findR_not {n : Nat} {p : Nat → Bool} {j : Nat} (h : j < findR n p) : p j = false := by
  have := List.not_of_lt_findIdx (p := p) (xs := List.range n) h
  simpa using this
theorem findR_is {n : Nat} {p : Nat → Bool} (h : findR n p < n) : p (findR n p) = true := by
  have := List.findIdx_getElem (p := p) (xs := List.range n) (w := by simpa [findR] using h)
  simpa [findR] using this
theorem findR_eq {n : Nat} {p : Nat → Bool} {i : Nat} (hi : i < n) (hp : p i = true) (hj : ∀ j, j < i → p j = false) : findR n p = i := by
  rcases Nat.lt_trichotomy (findR n p) i with h | h | h
  · have := findR_is (n := n) (p := p) (by omega)
    rw [hj _ h] at this; cases this
  · exact h
  · have := findR_not h
    rw [hp] at this; cases this
/-- Sums over the numbers below n. -/
def Sg : Nat → (Nat → Int) → Int
  | 0, _ => 0
  | n + 1, f => Sg n f + f n
theorem Sg_congr {n : Nat} {f g : Nat → Int} (h : ∀ i, i < n → f i = g i) : Sg n f = Sg n g := by
  induction n with
  | zero => rfl
  | succ n ih => unfold Sg; rw [ih fun i hi => h i (by omega), h n (by omega)]
theorem Sg_le {n : Nat} {f : Nat → Int} (h : ∀ i, i < n → f i ≤ 0) : Sg n f ≤ 0 := by
  induction n with
  | zero => exact Int.le_refl _
  | succ n ih => have := ih fun i hi => h i (by omega); have := h n (by omega); unfold Sg; omega
theorem Sg_ge {n : Nat} {f : Nat → Int} (h : ∀ i, i < n → 0 ≤ f i) : 0 ≤ Sg n f := by
  induction n with
  | zero => exact Int.le_refl _
  | succ n ih => have := ih fun i hi => h i (by omega); have := h n (by omega); unfold Sg; omega
theorem Sg_upd {n i : Nat} {f g : Nat → Int} (hi : i < n) (h : ∀ j, j < n → j ≠ i → g j = f j) : Sg n g = Sg n f + (g i - f i) := by
  induction n with
  | zero => omega
  | succ n ih =>
    unfold Sg
    by_cases e : i = n
    · subst e
      rw [Sg_congr (f := g) (g := f) fun j hj => h j (by omega) (by omega)]
      omega
    · rw [ih (by omega) fun j hj => h j (by omega), h n (by omega) (by omega)]
      omega
theorem Sg_upd2 {n i k : Nat} {f g : Nat → Int} (hi : i < n) (hk : k < n) (hik : i ≠ k) (h : ∀ j, j < n → j ≠ i → j ≠ k → g j = f j) : Sg n g = Sg n f + (g i - f i) + (g k - f k) := by
  have h1 : Sg n (fun j => if j = i then g i else f j) = Sg n f + (g i - f i) := by
    rw [Sg_upd (f := f) hi fun j _ hj => by simp [hj]]; simp
  rw [← h1, Sg_upd (f := fun j => if j = i then g i else f j) hk fun j hj hjk => ?_]
  · rw [if_neg (Ne.symm hik)]
  · split
    · next e => rw [e]
    · next e => exact h j hj e hjk
theorem Sg_some {n i : Nat} {f : Nat → Int} (h0 : Sg n f = 0) (hi : i < n) (hn : f i < 0) : ∃ j, j < n ∧ 0 < f j := by
  apply Decidable.byContradiction
  intro hc
  have hle : ∀ j, j < n → f j ≤ 0 := fun j hj => by
    apply Decidable.byContradiction
    intro hx
    exact hc ⟨j, hj, by omega⟩
  have h1 := Sg_upd (f := f) (g := fun j => if j = i then 0 else f j) hi fun j _ hj => by simp [hj]
  have h2 : Sg n (fun j => if j = i then 0 else f j) ≤ 0 := Sg_le fun j hj => by
    split
    · exact Int.le_refl _
    · exact hle j hj
  simp at h1
  omega
theorem Sg_add (n : Nat) (f g : Nat → Int) : Sg n (fun i => f i + g i) = Sg n f + Sg n g := by
  induction n with
  | zero => rfl
  | succ n ih => simp only [Sg]; rw [ih]; omega
theorem Sg_mul (n : Nat) (c : Int) (f : Nat → Int) : Sg n (fun i => c * f i) = c * Sg n f := by
  induction n with
  | zero => simp [Sg]
  | succ n ih => unfold Sg; rw [ih, Int.mul_add]
theorem Sg_const (n : Nat) (c : Int) : Sg n (fun _ => c) = n * c := by
  induction n with
  | zero => simp [Sg]
  | succ n ih => unfold Sg; rw [ih, Int.natCast_succ, Int.add_mul, Int.one_mul]
theorem gi_cons_succ (x : Int) (l : List Int) (i : Nat) : gi (x :: l) (i + 1) = gi l i := by simp [gi]
theorem Sg_shift (n : Nat) (f : Nat → Int) : Sg (n + 1) f = f 0 + Sg n (fun i => f (i + 1)) := by
  induction n with
  | zero => simp [Sg]
  | succ n ih =>
    rw [show Sg (n + 1 + 1) f = Sg (n + 1) f + f (n + 1) from rfl, ih]
    rw [show Sg (n + 1) (fun i => f (i + 1)) = Sg n (fun i => f (i + 1)) + f (n + 1) from rfl]
    omega
theorem Sg_sum (t : List Int) : Sg t.length (gi t) = t.sum := by
  induction t with
  | nil => rfl
  | cons x r ih =>
    rw [List.length_cons, Sg_shift, List.sum_cons, ← ih]
    rfl
/-- A table. -/
def tabOk (t : List Int) : Bool := decide (t.length ≤ 65536) && t.all (fun x => decide (0 ≤ x) && decide (x ≤ 16777215)) && t.any (fun x => decide (0 < x))
def tabMost (t : List Int) : Prop := ∀ x ∈ t, 0 ≤ x ∧ x ≤ 16777215
theorem tabOk_iff (t : List Int) : tabOk t = true ↔ t.length ≤ 65536 ∧ tabMost t ∧ ∃ x ∈ t, 0 < x := by
  simp [tabOk, tabMost, and_assoc]
theorem sum_bound {t : List Int} (h : tabMost t) : 0 ≤ t.sum ∧ t.sum ≤ t.length * 16777215 := by
  induction t with
  | nil => simp
  | cons x r ih =>
    have h1 := h x (by simp)
    have h2 := ih fun y hy => h y (by simp [hy])
    simp only [List.sum_cons, List.length_cons]
    omega
theorem sum_pos {t : List Int} (h : tabMost t) (hs : ∃ x ∈ t, 0 < x) : 0 < t.sum := by
  induction t with
  | nil => obtain ⟨x, hx, _⟩ := hs; simp at hx
  | cons x r ih =>
    have h1 := h x (by simp)
    have hr : tabMost r := fun y hy => h y (by simp [hy])
    have h2 := (sum_bound hr).1
    obtain ⟨y, hy, h0⟩ := hs
    simp only [List.sum_cons]
    rcases List.mem_cons.1 hy with e | e
    · subst e; omega
    · have := ih hr ⟨y, e, h0⟩; omega
theorem sum_zero {t : List Int} (h : tabMost t) (hs : ¬ ∃ x ∈ t, 0 < x) : t.sum = 0 := by
  induction t with
  | nil => rfl
  | cons x r ih =>
    have h1 := h x (by simp)
    have hr : tabMost r := fun y hy => h y (by simp [hy])
    rw [List.sum_cons, ih hr fun ⟨y, hy, h0⟩ => hs ⟨y, by simp [hy], h0⟩]
    have : ¬ 0 < x := fun h0 => hs ⟨x, by simp, h0⟩
    omega
/-- What the making has: rests, cuts, others, and which columns are done. -/
structure AS where
  rest : List Int
  cut : List Int
  other : List Int
  done : List Bool
def gb (l : List Bool) (i : Nat) : Bool := l.getD i true
theorem gb_set {l : List Bool} {i : Nat} (h : i < l.length) (x : Bool) (j : Nat) : gb (l.set i x) j = if i = j then x else gb l j := by
  simp only [gb, List.getD_eq_getElem?_getD, List.getElem?_set]
  by_cases e : i = j
  · subst e; simp [h]
  · simp [e]
def belP (rest : List Int) (done : List Bool) (T : Int) (i : Nat) : Bool := !gb done i && decide (gi rest i < T)
def abvP (rest : List Int) (T : Int) (i : Nat) : Bool := decide (T < gi rest i)
def bel (rest : List Int) (done : List Bool) (T : Int) : Nat := findR rest.length (belP rest done T)
def abv (rest : List Int) (T : Int) : Nat := findR (rest.length - 1) (abvP rest T)
def aUpd (T : Int) (s : AS) (i k : Nat) : AS := ⟨s.rest.set k (gi s.rest k - (T - gi s.rest i)), s.cut.set i (gi s.rest i), s.other.set i (k : Int), s.done.set i true⟩
def aStep (T : Int) (s : AS) : AS := if bel s.rest s.done T < s.rest.length then aUpd T s (bel s.rest s.done T) (abv s.rest T) else s
def aIter (T : Int) : Nat → AS → AS
  | 0, s => s
  | n + 1, s => aStep T (aIter T n s)
def a0 (t : List Int) : AS := ⟨t.map fun w => (t.length : Int) * w, List.replicate t.length t.sum, (List.range t.length).map fun (i : Nat) => (i : Int), List.replicate t.length false⟩
def mk (t : List Int) : AS := aIter t.sum t.length (a0 t)
structure AInv (T : Int) (m : Nat) (s : AS) : Prop where
  lr : s.rest.length = m
  lc : s.cut.length = m
  lo : s.other.length = m
  ld : s.done.length = m
  ge : ∀ i, i < m → 0 ≤ gi s.rest i
  le : ∀ i, i < m → gi s.rest i ≤ 65536 * 16777215
  dn : ∀ i, i < m → gb s.done i = true → gi s.rest i < T
  sm : Sg m (fun i => bif gb s.done i then 0 else gi s.rest i - T) = 0
theorem AInv.above {T : Int} {m : Nat} {s : AS} (h : AInv T m s) (hb : bel s.rest s.done T < m) :
    abv s.rest T < m ∧ T < gi s.rest (abv s.rest T) ∧ gb s.done (abv s.rest T) = false ∧ abv s.rest T ≠ bel s.rest s.done T ∧ gb s.done (bel s.rest s.done T) = false ∧ gi s.rest (bel s.rest s.done T) < T := by
  have hp : belP s.rest s.done T (bel s.rest s.done T) = true := findR_is (n := s.rest.length) (by show bel s.rest s.done T < s.rest.length; rw [h.lr]; exact hb)
  simp only [belP, Bool.and_eq_true, Bool.not_eq_true', decide_eq_true_eq] at hp
  obtain ⟨j, hj, hgt⟩ := Sg_some h.sm hb (by rw [hp.1]; simp; omega)
  have hjg : T < gi s.rest j := by
    cases hd : gb s.done j with
    | true => rw [hd] at hgt; simp at hgt
    | false => rw [hd] at hgt; simp at hgt; omega
  have ha : abv s.rest T < m ∧ T < gi s.rest (abv s.rest T) := by
    have hle := findR_le (s.rest.length - 1) (abvP s.rest T)
    rw [h.lr] at hle
    rcases Nat.lt_or_ge (abv s.rest T) (m - 1) with hlt | hge
    · have := findR_is (n := s.rest.length - 1) (p := abvP s.rest T) (by show abv s.rest T < s.rest.length - 1; rw [h.lr]; exact hlt)
      simp only [abvP, decide_eq_true_eq] at this
      exact ⟨by omega, this⟩
    · have hm1 : abv s.rest T = m - 1 := by
        have : abv s.rest T ≤ m - 1 := by unfold abv; rw [h.lr]; exact hle
        omega
      rcases Nat.lt_or_ge j (m - 1) with hjl | hjl
      · have := findR_not (n := s.rest.length - 1) (p := abvP s.rest T) (j := j) (by unfold abv at hm1; omega)
        simp only [abvP, decide_eq_false_iff_not] at this
        omega
      · rw [hm1, show m - 1 = j from by omega]
        exact ⟨by omega, hjg⟩
  refine ⟨ha.1, ha.2, ?_, fun e => by rw [e] at ha; omega, hp.1, hp.2⟩
  cases hd : gb s.done (abv s.rest T) with
  | false => rfl
  | true => have := h.dn _ ha.1 hd; omega
theorem AInv.upd {T : Int} {m : Nat} {s : AS} (h : AInv T m s) (hT : 0 < T) (hb : bel s.rest s.done T < m) : AInv T m (aStep T s) := by
  obtain ⟨ha, hgt, hda, hne, hdb, hlt⟩ := h.above hb
  have hge := h.ge _ hb
  have hle := h.le _ ha
  unfold aStep
  rw [if_pos (by rw [h.lr]; exact hb)]
  generalize bel s.rest s.done T = i at *
  generalize abv s.rest T = k at *
  have hk : k < s.rest.length := by rw [h.lr]; exact ha
  have hi : i < s.done.length := by rw [h.ld]; exact hb
  refine ⟨by simp [aUpd, h.lr], by simp [aUpd, h.lc], by simp [aUpd, h.lo], by simp [aUpd, h.ld], fun j hj => ?_, fun j hj => ?_, fun j hj hd => ?_, ?_⟩
  · simp only [aUpd]; rw [gi_set hk]; split
    · omega
    · exact h.ge j hj
  · simp only [aUpd]; rw [gi_set hk]; split
    · omega
    · exact h.le j hj
  · simp only [aUpd] at hd ⊢
    rw [gb_set hi] at hd
    rw [gi_set hk]
    split at hd
    · next e => subst e; rw [if_neg hne]; exact hlt
    · rw [if_neg (fun e => by subst e; rw [hda] at hd; cases hd)]; exact h.dn j hj hd
  · simp only [aUpd]
    rw [Sg_upd2 (f := fun i => bif gb s.done i then 0 else gi s.rest i - T) hb ha (Ne.symm hne) (fun j hj hji hjk => by rw [gb_set hi, gi_set hk, if_neg (Ne.symm hji), if_neg (Ne.symm hjk)]), h.sm]
    rw [gb_set hi, gb_set hi, gi_set hk, gi_set hk, if_pos rfl, if_pos rfl, if_neg hne, if_neg (Ne.symm hne), hda, hdb]
    simp
    omega
theorem a0_inv {t : List Int} (h : tabOk t = true) : AInv t.sum t.length (a0 t) := by
  obtain ⟨hl, hm, hs⟩ := (tabOk_iff t).1 h
  have hg : ∀ i, i < t.length → gi (a0 t).rest i = (t.length : Int) * gi t i := fun i hi => by
    rw [gi_get (by simpa [a0] using hi), gi_get hi]; simp [a0]
  have hd : ∀ i, i < t.length → gb (a0 t).done i = false := fun i hi => by
    simp [a0, gb, List.getD_eq_getElem?_getD, hi]
  refine ⟨by simp [a0], by simp [a0], by simp [a0], by simp [a0], fun i hi => ?_, fun i hi => ?_, fun i hi hx => ?_, ?_⟩
  · rw [hg i hi]; exact Int.mul_nonneg (by omega) (hm _ (gi_mem hi)).1
  · rw [hg i hi]; exact Int.mul_le_mul (by omega) (hm _ (gi_mem hi)).2 (hm _ (gi_mem hi)).1 (by omega)
  · rw [hd i hi] at hx; cases hx
  · rw [Sg_congr (g := fun i => (t.length : Int) * gi t i + (- t.sum)) fun i hi => by rw [hd i hi, hg i hi]; simp; omega]
    rw [Sg_add, Sg_mul, Sg_const, Sg_sum]
    rw [Int.mul_neg]; omega
/-- So many rounds were gone. -/
def Reached (T : Int) (m : Nat) (s0 s : AS) (r : Nat) : Prop := s = aIter T r s0 ∧ AInv T m s ∧ s.done.countP (fun b => b) = r
theorem Reached.init {t : List Int} (h : tabOk t = true) : Reached t.sum t.length (a0 t) (a0 t) 0 :=
  ⟨rfl, a0_inv h, by simp [a0, List.countP_replicate]⟩
theorem Reached.lt {T : Int} {m r : Nat} {s0 s : AS} (h : Reached T m s0 s r) (hb : bel s.rest s.done T < m) : r < m := by
  have h1 := (h.2.1.above hb).2.2.2.2.1
  have h2 := List.countP_le_length (p := fun b => b) (l := s.done)
  rw [h.2.2, h.2.1.ld] at h2
  rcases Nat.lt_or_ge r m with x | x
  · exact x
  · have e : s.done.countP (fun b => b) = s.done.length := by rw [h.2.2, h.2.1.ld]; omega
    rw [List.countP_eq_length] at e
    have hl : bel s.rest s.done T < s.done.length := by rw [h.2.1.ld]; exact hb
    have := e _ (List.getElem_mem hl)
    simp only [gb, List.getD_eq_getElem?_getD, List.getElem?_eq_getElem hl, Option.getD_some] at h1
    rw [h1] at this; cases this
theorem Reached.step {T : Int} {m r : Nat} {s0 s : AS} (h : Reached T m s0 s r) (hT : 0 < T) (hb : bel s.rest s.done T < m) : Reached T m s0 (aStep T s) (r + 1) := by
  refine ⟨by rw [h.1]; rfl, h.2.1.upd hT hb, ?_⟩
  have h1 := (h.2.1.above hb).2.2.2.2.1
  have hl : bel s.rest s.done T < s.done.length := by rw [h.2.1.ld]; exact hb
  unfold aStep
  rw [if_pos (by rw [h.2.1.lr]; exact hb)]
  simp only [aUpd]
  rw [List.countP_set hl, h.2.2]
  simp only [gb, List.getD_eq_getElem?_getD, List.getElem?_eq_getElem hl, Option.getD_some] at h1
  simp [h1]
theorem aIter_stay (T : Int) (s0 : AS) (r : Nat) (h : aStep T (aIter T r s0) = aIter T r s0) : ∀ d, aIter T (r + d) s0 = aIter T r s0
  | 0 => rfl
  | d + 1 => by
    show aStep T (aIter T (r + d) s0) = _
    rw [aIter_stay T s0 r h d, h]
theorem Reached.last {T : Int} {m r : Nat} {s0 s : AS} (h : Reached T m s0 s r) (hb : ¬ bel s.rest s.done T < m) : s = aIter T m s0 := by
  have h2 := List.countP_le_length (p := fun b => b) (l := s.done)
  rw [h.2.2, h.2.1.ld] at h2
  have hs : aStep T s = s := by unfold aStep; rw [if_neg (by rw [h.2.1.lr]; exact hb)]
  have := aIter_stay T s0 r (by rw [← h.1]; exact hs) (m - r)
  rw [show r + (m - r) = m from by omega] at this
  rw [this, h.1]
end Go.Proofs.Ytidoembkcaojoaa
