/- The plain law of chapter 14: what an alias made of a table weighs. -/
import Derived.Test.YtfcoeonabppjiaaQ14
namespace Go.Proofs.Ytfcoeonabppjiaa
open Go.RowKit
set_option linter.unusedVariables false
/-- How often a place is told. -/
def wt (T : Int) (xs ys : List Int) (i : Int) : Int := gi xs i.toNat + Sg xs.length (fun c => if gi ys c = i then T - gi xs c else 0)
def con (T : Int) (s : AS) (p c : Nat) : Int := bif gb s.done c then (if gi s.other c = (p : Int) then T - gi s.cut c else 0) else 0
/-- What holds behind each round. -/
structure Wi (T : Int) (t : List Int) (s : AS) : Prop where
  sums : ∀ p, p < t.length → (bif gb s.done p then gi s.cut p else gi s.rest p) + Sg t.length (con T s p) = (t.length : Int) * gi t p
  open_ : ∀ p, p < t.length → gb s.done p = false → gi s.cut p = T ∧ gi s.other p = (p : Int)
  cuts : ∀ p, p < t.length → 0 ≤ gi s.cut p ∧ gi s.cut p ≤ T
  others : ∀ p, p < t.length → 0 ≤ gi s.other p ∧ gi s.other p ≤ (t.length : Int) - 1
theorem Wi.start {t : List Int} (h : tabOk t = true) : Wi t.sum t (a0 t) := by
  obtain ⟨hl, hm, hs⟩ := (tabOk_iff t).1 h
  have hp := sum_pos hm hs
  have hd : ∀ i, i < t.length → gb (a0 t).done i = false := fun i hi => by
    simp [a0, gb, List.getD_eq_getElem?_getD, hi]
  have hg : ∀ i, i < t.length → gi (a0 t).rest i = (t.length : Int) * gi t i := fun i hi => by
    rw [gi_get (by simpa [a0] using hi), gi_get hi]; simp [a0]
  have hc : ∀ i, i < t.length → gi (a0 t).cut i = t.sum := fun i hi => by
    rw [gi_get (by simpa [a0] using hi)]; simp [a0]
  have ho : ∀ i, i < t.length → gi (a0 t).other i = (i : Int) := fun i hi => by
    rw [gi_get (by simpa [a0] using hi)]; simp [a0]
  refine ⟨fun p hp => ?_, fun p hp _ => ⟨hc p hp, ho p hp⟩, fun p hp => by rw [hc p hp]; omega, fun p hp => by rw [ho p hp]; omega⟩
  rw [hd p hp, cond_false, hg p hp, Sg_congr (g := fun _ => 0) fun c hc' => by unfold con; rw [hd c hc']; rfl, Sg_const]
  omega
theorem Wi.step {T : Int} {t : List Int} {s : AS} (h : Wi T t s) (hi : AInv T t.length s) (hT : 0 < T) : Wi T t (aStep T s) := by
  by_cases hb : bel s.rest s.done T < t.length
  · obtain ⟨ha, hgt, hda, hne, hdb, hlt⟩ := hi.above hb
    have hge := hi.ge _ hb
    unfold aStep
    rw [if_pos (by rw [hi.lr]; exact hb)]
    generalize bel s.rest s.done T = i at *
    generalize abv s.rest T = k at *
    have hk : k < s.rest.length := by rw [hi.lr]; exact ha
    have hid : i < s.done.length := by rw [hi.ld]; exact hb
    have hic : i < s.cut.length := by rw [hi.lc]; exact hb
    have hio : i < s.other.length := by rw [hi.lo]; exact hb
    have gd : ∀ x, gb (aUpd T s i k).done x = if i = x then true else gb s.done x := fun x => gb_set hid _ _
    have gc : ∀ x, gi (aUpd T s i k).cut x = if i = x then gi s.rest i else gi s.cut x := fun x => gi_set hic _ _
    have go : ∀ x, gi (aUpd T s i k).other x = if i = x then (k : Int) else gi s.other x := fun x => gi_set hio _ _
    have gr : ∀ x, gi (aUpd T s i k).rest x = if k = x then gi s.rest k - (T - gi s.rest i) else gi s.rest x := fun x => gi_set hk _ _
    refine ⟨fun p hp => ?_, fun p hp hd => ?_, fun p hp => ?_, fun p hp => ?_⟩
    · have h0 := h.sums p hp
      have hcon : Sg t.length (con T (aUpd T s i k) p) = Sg t.length (con T s p) + (if (k : Int) = (p : Int) then T - gi s.rest i else 0) := by
        rw [Sg_upd (f := con T s p) (i := i) hb fun j hj hji => by unfold con; rw [gd, gc, go, if_neg (Ne.symm hji), if_neg (Ne.symm hji), if_neg (Ne.symm hji)]]
        have e1 : con T s p i = 0 := by unfold con; rw [hdb]; rfl
        have e2 : con T (aUpd T s i k) p i = if (k : Int) = (p : Int) then T - gi s.rest i else 0 := by unfold con; rw [gd, gc, go, if_pos rfl, if_pos rfl, if_pos rfl, cond_true]
        rw [e1, e2]; omega
      rw [hcon, gd, gc, gr]
      by_cases e1 : i = p
      · subst e1
        rw [hdb, cond_false] at h0
        rw [if_pos rfl, if_pos rfl, cond_true, if_neg (by omega)]
        omega
      · rw [if_neg e1, if_neg e1]
        by_cases e2 : k = p
        · subst e2
          rw [hda, cond_false] at h0 ⊢
          rw [if_pos rfl, if_pos rfl]
          omega
        · rw [if_neg e2, if_neg (by omega)]
          omega
    · rw [gd] at hd
      by_cases e1 : i = p
      · rw [if_pos e1] at hd; cases hd
      · rw [if_neg e1] at hd
        rw [gc, go, if_neg e1, if_neg e1]
        exact h.open_ p hp hd
    · rw [gc]
      by_cases e1 : i = p
      · rw [if_pos e1]; omega
      · rw [if_neg e1]; exact h.cuts p hp
    · rw [go]
      by_cases e1 : i = p
      · rw [if_pos e1]; omega
      · rw [if_neg e1]; exact h.others p hp
  · unfold aStep
    rw [if_neg (by rw [hi.lr]; exact hb)]
    exact h
theorem aStep_inv' {T : Int} {m : Nat} {s : AS} (h : AInv T m s) (hT : 0 < T) : AInv T m (aStep T s) := by
  by_cases hb : bel s.rest s.done T < m
  · exact h.upd hT hb
  · unfold aStep; rw [if_neg (by rw [h.lr]; exact hb)]; exact h
theorem iter_all {t : List Int} (h : tabOk t = true) : ∀ k, AInv t.sum t.length (aIter t.sum k (a0 t)) ∧ Wi t.sum t (aIter t.sum k (a0 t))
  | 0 => ⟨a0_inv h, Wi.start h⟩
  | k + 1 => by
    obtain ⟨hl, hm, hs⟩ := (tabOk_iff t).1 h
    have ih := iter_all h k
    exact ⟨aStep_inv' ih.1 (sum_pos hm hs), ih.2.step ih.1 (sum_pos hm hs)⟩
/-- After as many rounds as there are columns, nothing is below. -/
theorem reach_all {t : List Int} (h : tabOk t = true) : ∀ k, (∃ r, Reached t.sum t.length (a0 t) (aIter t.sum k (a0 t)) r ∧ (r = k ∨ ¬ bel (aIter t.sum k (a0 t)).rest (aIter t.sum k (a0 t)).done t.sum < t.length))
  | 0 => ⟨0, Reached.init h, .inl rfl⟩
  | k + 1 => by
    obtain ⟨hl, hm, hs⟩ := (tabOk_iff t).1 h
    obtain ⟨r, hr, hk⟩ := reach_all h k
    by_cases hb : bel (aIter t.sum k (a0 t)).rest (aIter t.sum k (a0 t)).done t.sum < t.length
    · rcases hk with e | e
      · subst e; exact ⟨r + 1, hr.step (sum_pos hm hs) hb, .inl rfl⟩
      · exact absurd hb e
    · have e : aIter t.sum (k + 1) (a0 t) = aIter t.sum k (a0 t) := by
        show aStep _ _ = _
        unfold aStep; rw [if_neg (by rw [(iter_all h k).1.lr]; exact hb)]
      rw [e]
      exact ⟨r, hr, .inr hb⟩
theorem mk_last {t : List Int} (h : tabOk t = true) : ¬ bel (mk t).rest (mk t).done t.sum < t.length := by
  obtain ⟨r, hr, hk⟩ := reach_all h t.length
  intro hb
  have := hr.lt hb
  rcases hk with e | e
  · omega
  · exact e hb
/-- Of an alias that was made, each place weighs its weight, times how many there are. -/
theorem mk_exact {t : List Int} (h : tabOk t = true) {p : Nat} (hp : p < t.length) : wt t.sum (mk t).cut (mk t).other (p : Int) = (t.length : Int) * gi t p := by
  have hi : AInv t.sum t.length (mk t) := (iter_all h t.length).1
  have hw : Wi t.sum t (mk t) := (iter_all h t.length).2
  have hlast := mk_last h
  have hrest : ∀ i, i < t.length → gb (mk t).done i = false → gi (mk t).rest i = t.sum := fun i hil hd => by
    have hge : ∀ j, j < t.length → 0 ≤ (bif gb (mk t).done j then 0 else gi (mk t).rest j - t.sum) := fun j hj => by
      cases hdj : gb (mk t).done j with
      | true => simp
      | false =>
        rw [cond_false]
        apply Decidable.byContradiction
        intro hx
        apply hlast
        have hle : bel (mk t).rest (mk t).done t.sum ≤ j := by
          rcases Nat.lt_or_ge j (bel (mk t).rest (mk t).done t.sum) with y | y
          · have := findR_not y
            simp only [belP, hdj, Bool.not_false, Bool.true_and, decide_eq_false_iff_not] at this
            omega
          · exact y
        omega
    have h0 : Sg t.length (fun j => - (bif gb (mk t).done j then 0 else gi (mk t).rest j - t.sum)) = 0 := by
      rw [Sg_congr (g := fun j => (-1) * (bif gb (mk t).done j then 0 else gi (mk t).rest j - t.sum)) fun j _ => by omega, Sg_mul, hi.sm]; rfl
    apply Decidable.byContradiction
    intro hx
    have hgi := hge i hil
    rw [hd, cond_false] at hgi
    obtain ⟨j, hj, hpos⟩ := Sg_some h0 hil (by rw [hd, cond_false]; omega)
    have := hge j hj
    omega
  have h1 := hw.sums p hp
  unfold wt
  rw [Int.toNat_natCast, hi.lc]
  have e1 : (bif gb (mk t).done p then gi (mk t).cut p else gi (mk t).rest p) = gi (mk t).cut p := by
    cases hd : gb (mk t).done p with
    | true => rfl
    | false => rw [cond_false, hrest p hp hd, (hw.open_ p hp hd).1]
  have e2 : Sg t.length (con t.sum (mk t) p) = Sg t.length (fun c => if gi (mk t).other c = (p : Int) then t.sum - gi (mk t).cut c else 0) := Sg_congr fun c hc => by
    unfold con
    cases hd : gb (mk t).done c with
    | true => rfl
    | false => rw [cond_false, (hw.open_ c hc hd).1]; simp
  rw [← e2, ← h1]
  congr 1
  exact e1.symm
/-- The weights of all places together. -/
theorem sg_pick {n i : Nat} {v : Int} (hi : i < n) : Sg n (fun c => if (i : Int) = (c : Int) then v else 0) = v := by
  rw [Sg_upd (f := fun _ => 0) hi fun j _ hj => by rw [if_neg (by omega)], Sg_const]
  simp
theorem sg_swap (n m : Nat) (f : Nat → Nat → Int) : Sg n (fun i => Sg m (fun c => f i c)) = Sg m (fun c => Sg n (fun i => f i c)) := by
  induction n with
  | zero => rw [show (fun c => Sg 0 (fun i => f i c)) = fun _ => (0 : Int) from rfl, Sg_const]; simp [Sg]
  | succ n ih =>
    rw [show Sg (n + 1) (fun i => Sg m (fun c => f i c)) = Sg n (fun i => Sg m (fun c => f i c)) + Sg m (fun c => f n c) from rfl, ih, ← Sg_add]
    rfl
theorem wt_all {T : Int} {xs ys : List Int} (hl : ys.length = xs.length) (hy : ∀ y ∈ ys, 0 ≤ y ∧ y ≤ (xs.length : Int) - 1) : Sg xs.length (fun i => wt T xs ys (i : Int)) = (xs.length : Int) * T := by
  unfold wt
  rw [Sg_add (f := fun i => gi xs ((i : Int)).toNat) (g := fun i => Sg xs.length (fun c => if gi ys c = (i : Int) then T - gi xs c else 0)), sg_swap]
  have e1 : Sg xs.length (fun c => Sg xs.length (fun i => if gi ys c = (i : Int) then T - gi xs c else 0)) = Sg xs.length (fun c => T - gi xs c) := Sg_congr fun c hc => by
    have h := hy _ (gi_mem (l := ys) (i := c) (by omega))
    obtain ⟨k, hk⟩ : ∃ k : Nat, gi ys c = (k : Int) := ⟨(gi ys c).toNat, by omega⟩
    rw [hk]
    exact sg_pick (by omega)
  rw [e1, ← Sg_add, Sg_congr (g := fun _ => T) fun i _ => by rw [Int.toNat_natCast]; omega, Sg_const]
end Go.Proofs.Ytfcoeonabppjiaa
