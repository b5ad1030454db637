/- Elements of a heap of container/heap: plain words; a row of them in memory. Printed by gen_He.py. -/
import Derived.Test.YtidoembkcaojoaaP14
import Derived.Test.YtidoembkcaojoaaB14
import Derived.Deep.MidRow
namespace Go.Proofs.Ytidoembkcaojoaa
open Go.RowKit
set_option linter.unusedVariables false
/-- An element: two numbers that tell which is first, and what it bears. -/
structure HE where
  a : Int
  b : Int
def HE.cells (e : HE) : List Value := [.int .i64 e.a, .int .i64 e.b]
def he0 : HE := ⟨0, 0⟩
def HE.key (e : HE) : Int := e.a * 1099511627776 + e.b
def HE.less (e f : HE) : Bool := decide (e.a < f.a) || (e.a == f.a && decide (e.b < f.b))
/-- Its second number is a small one. -/
def HE.fit (e : HE) : Prop := 0 ≤ e.b ∧ e.b < 1099511627776
theorem less_key {e f : HE} (he : e.fit) (hf : f.fit) : e.less f = decide (e.key < f.key) := by
  have h1 := he.1; have h2 := he.2; have h3 := hf.1; have h4 := hf.2
  rw [Bool.eq_iff_iff]
  unfold HE.less HE.key
  simp only [Bool.or_eq_true, Bool.and_eq_true, decide_eq_true_eq, beq_iff_eq]
  omega
def gx (l : List HE) (i : Nat) : HE := l.getD i he0
def keys (l : List HE) : List Int := l.map HE.key
theorem gx_get {l : List HE} {i : Nat} (h : i < l.length) : gx l i = l[i] := by simp [gx, List.getD_eq_getElem?_getD, h]
theorem gx_mem {l : List HE} {i : Nat} (h : i < l.length) : gx l i ∈ l := by rw [gx_get h]; exact List.getElem_mem h
theorem gx_some {l : List HE} {i : Nat} (h : i < l.length) : l[i]? = some (gx l i) := by rw [gx_get h]; exact List.getElem?_eq_getElem h
theorem gi_keys {l : List HE} {i : Nat} (h : i < l.length) : gi (keys l) i = (gx l i).key := by
  rw [gi_get (by simpa [keys] using h), gx_get h]; simp [keys]
theorem keys_length (l : List HE) : (keys l).length = l.length := by simp [keys]
def swx (l : List HE) (i j : Nat) : List HE := (l.set i (gx l j)).set j (gx l i)
theorem swx_length (l : List HE) (i j : Nat) : (swx l i j).length = l.length := by simp [swx]
theorem swx_perm {l : List HE} {i j : Nat} (hi : i < l.length) (hj : j < l.length) : (swx l i j).Perm l := by
  unfold swx; rw [gx_get hi, gx_get hj]; exact List.set_set_perm hi hj
theorem swx_keys {l : List HE} {i j : Nat} (hi : i < l.length) (hj : j < l.length) : keys (swx l i j) = swp (keys l) i j := by
  unfold swx swp
  rw [gi_keys hi, gi_keys hj]
  simp [keys, List.map_set]
theorem swx_get? {l : List HE} {i j : Nat} (hi : i < l.length) (hj : j < l.length) (m : Nat) : (swx l i j)[m]? = if j = m then some (gx l i) else if i = m then some (gx l j) else l[m]? := by
  unfold swx
  rw [List.getElem?_set, List.getElem?_set]
  simp only [List.length_set]
  by_cases e1 : j = m
  · subst e1; simp [hj]
  · rw [if_neg e1, if_neg e1]
    by_cases e2 : i = m
    · subst e2; simp [hi]
    · rw [if_neg e2, if_neg e2]
theorem gx_swx {l : List HE} {i j : Nat} (hi : i < l.length) (hj : j < l.length) (m : Nat) : gx (swx l i j) m = if j = m then gx l i else if i = m then gx l j else gx l m := by
  unfold gx
  rw [List.getD_eq_getElem?_getD, swx_get? hi hj]
  split
  · rfl
  · split
    · rfl
    · rw [List.getD_eq_getElem?_getD]
def FitL (l : List HE) : Prop := ∀ e ∈ l, e.fit
theorem FitL.perm {l l' : List HE} (h : FitL l) (hp : l'.Perm l) : FitL l' := fun e he => h e (hp.mem_iff.1 he)
theorem FitL.gx {l : List HE} (h : FitL l) {i : Nat} (hi : i < l.length) : (gx l i).fit := h _ (gx_mem hi)
/-- Their cells. -/
def ecs (l : List HE) : List Value := l.flatMap HE.cells
theorem cells_length (e : HE) : e.cells.length = 2 := rfl
theorem ecs_length (l : List HE) : (ecs l).length = l.length * 2 := by
  induction l with
  | nil => rfl
  | cons e l ih =>
    have : ecs (e :: l) = e.cells ++ ecs l := rfl
    rw [this, List.length_append, ih, cells_length, List.length_cons]; omega
theorem ecs_append (l l' : List HE) : ecs (l ++ l') = ecs l ++ ecs l' := List.flatMap_append
theorem ecs_get : ∀ {l : List HE} {i k : Nat}, i < l.length → k < 2 → (ecs l)[i * 2 + k]? = (gx l i).cells[k]?
  | [], i, k, h, _ => absurd h (Nat.not_lt_zero _)
  | e :: l, 0, k, h, hk => by
    have : ecs (e :: l) = e.cells ++ ecs l := rfl
    rw [this, List.getElem?_append_left (by rw [cells_length]; omega), Nat.zero_mul, Nat.zero_add]; rfl
  | e :: l, i + 1, k, h, hk => by
    have h1 : ecs (e :: l) = e.cells ++ ecs l := rfl
    rw [h1, List.getElem?_append_right (by rw [cells_length]; omega), cells_length, show (i + 1) * 2 + k - 2 = i * 2 + k from by omega]
    exact ecs_get (l := l) (Nat.lt_of_succ_lt_succ h) hk
theorem ecs_take (l : List HE) (n : Nat) : (ecs l).take (n * 2) = ecs (l.take n) := by
  by_cases hn : n ≤ l.length
  · have h := List.take_append_drop n l
    have h1 : ecs l = ecs (l.take n) ++ ecs (l.drop n) := by rw [← ecs_append, h]
    rw [h1, List.take_append_of_le_length (by rw [ecs_length, List.length_take]; omega), List.take_of_length_le (by rw [ecs_length, List.length_take]; omega)]
  · rw [List.take_of_length_le (by rw [ecs_length]; omega), List.take_of_length_le (by omega)]
theorem ecs_one (l : List HE) : ∀ u ∈ ecs l, u.oneCell' = true := by
  intro u hu
  obtain ⟨e, _, he⟩ := List.mem_flatMap.1 hu
  simp only [HE.cells, List.mem_cons, List.not_mem_nil, or_false] at he
  rcases he with rfl | rfl
  all_goals rfl
theorem cells_one (e : HE) : ∀ u ∈ e.cells, u.oneCell' = true := fun u hu => ecs_one [e] u (by simpa [ecs] using hu)
/-- A row of elements in memory. -/
def HR (w : World) (base : Nat) (v : Value) (l : List HE) : Prop := w.ownsRow base 101 2 v l.length (ecs l)
section
variable {w w' : World} {base : Nat} {v : Value} {l : List HE}
theorem HR.form (h : HR w base v l) : ∃ A c, v = .slice A l.length c ∧ l.length ≤ c ∧ (0 < l.length → ∃ g cur, A = some ⟨g, 0, none⟩ ∧ base ≤ g ∧ Bk w g 101 cur ∧ cur.length = c * 2 ∧ cur.take (l.length * 2) = ecs l) := by
  rcases h.2 with ⟨rfl, h2⟩ | ⟨g, cap, cur, rfl, hb, hh, hnc, hcm, hcs, ht⟩
  · have : l.length = 0 := h2
    exact ⟨none, 0, by rw [this], by omega, fun hp => absurd hp (by omega)⟩
  · exact ⟨_, cap, rfl, hnc, fun _ => ⟨g, cur.toList, rfl, hb, hh, by simpa using hcs, by simpa using ht⟩⟩
theorem HR.below (h : HR w base v l) (hb : Below w.heap.size w w') : HR w' base v l := own_below h hb
theorem HR.chg {S : Nat → Prop} (h : HR w base v l) (hc : Chg S w w') (hn : ∀ g, v.ownBlock = some g → ¬ S g) : HR w' base v l := by
  refine ⟨h.1, ?_⟩
  rcases h.2 with h2 | ⟨g, cap, cur, rfl, hb, hh, r⟩
  · exact .inl h2
  · exact .inr ⟨g, cap, cur, rfl, hb, (hc.2 g (Array.getElem?_eq_some_iff.1 hh).1 (hn g rfl)).trans hh, r⟩
/-- The cells at a place. -/
theorem HR.at_ (h : HR w base v l) {i : Nat} (hi : i < l.length) : ∃ g c, v = .slice (some ⟨g, 0, none⟩) l.length c ∧ g < w.heap.size ∧ w.rangeAt g (i * 2) (gx l i).cells ∧ w.there g (i * 2) 2 := by
  obtain ⟨A, c, rfl, hc, hf⟩ := h.form
  obtain ⟨g, cur, rfl, hb, hk, hl, ht⟩ := hf (by omega)
  have hlt : ∀ k, k < 2 → i * 2 + k < l.length * 2 := fun k hk => by omega
  have hget : ∀ k, k < 2 → w.cell? ⟨g, i * 2 + k, none⟩ = (gx l i).cells[k]? := fun k hk' => by
    rw [hk.cell, ← ecs_get hi hk', ← ht, List.getElem?_take, if_pos (hlt k hk')]
  refine ⟨g, c, rfl, hk.lt, fun k u hu => ?_, fun k hk' => ⟨?_, hk.frozen _⟩⟩
  · have hk' : k < 2 := (List.getElem?_eq_some_iff.1 hu).1
    rw [hget k hk']; exact hu
  · rw [hget k hk', List.getElem?_eq_getElem (by rw [cells_length]; exact hk')]; rfl
end
end Go.Proofs.Ytidoembkcaojoaa
