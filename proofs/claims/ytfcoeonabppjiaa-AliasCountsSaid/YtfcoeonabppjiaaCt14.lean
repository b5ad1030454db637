/- Counting picks one by one: the plain law. -/
import Derived.Test.YtfcoeonabppjiaaEx14
namespace Go.Proofs.Ytfcoeonabppjiaa
open Go.RowKit
set_option linter.unusedVariables false
def pkN (xs ys : List Int) (c : Nat) (l : Int) : Int := if l < gi xs c then (c : Int) else gi ys c
theorem pick_pk {T : Int} {xs ys : List Int} {k : Nat} {lev : Int} (h : alOk T xs ys = true) (hk : k < xs.length) (h0 : 0 ≤ lev) (hl : lev < T) : pickV T xs ys k lev = (pkN xs ys k lev, 0) := by
  unfold pkN
  by_cases hc : lev < gi xs k
  · rw [if_pos hc]; exact pick_cut h hk h0 hl hc
  · rw [if_neg hc]; exact pick_other h hk h0 hl hc
theorem pkN_in {T : Int} {xs ys : List Int} {k : Nat} {lev : Int} (h : alOk T xs ys = true) (hk : k < xs.length) : ∃ p : Nat, p < xs.length ∧ pkN xs ys k lev = (p : Int) := by
  obtain ⟨_, _, _, _, hl, _, hy⟩ := (alOk_iff T xs ys).1 h
  have hb := hy (gi ys k) (gi_mem (by omega))
  unfold pkN
  split
  · exact ⟨k, hk, rfl⟩
  · exact ⟨(gi ys k).toNat, by omega, by omega⟩
def colN (xs ys : List Int) (c : Nat) (p : Int) (l : Int) : Int :=
  (if (c : Int) = p then (if l ≤ gi xs c then l else gi xs c) else 0) + (if gi ys c = p then (if l ≤ gi xs c then 0 else l - gi xs c) else 0)
def CtI (T : Int) (xs ys : List Int) (c : Nat) (l : Int) (often : List Int) : Prop :=
  often.length = xs.length ∧ ∀ p : Nat, p < xs.length → gi often p = Sg c (fun j => colN xs ys j (p : Int) T) + colN xs ys c (p : Int) l ∧ 0 ≤ gi often p ∧ gi often p ≤ (c : Int) * 1099511627776 + l
theorem al_ge {T : Int} {xs ys : List Int} (h : alOk T xs ys = true) (j : Nat) : 0 ≤ gi xs j := by
  obtain ⟨_, _, _, _, _, hx, _⟩ := (alOk_iff T xs ys).1 h
  rcases Nat.lt_or_ge j xs.length with e | e
  · exact (hx _ (gi_mem e)).1
  · unfold gi; rw [List.getD_eq_getElem?_getD, List.getElem?_eq_none e]; exact Int.le_refl _
theorem colN_zero {T : Int} {xs ys : List Int} (h : alOk T xs ys = true) (c : Nat) (p : Int) : colN xs ys c p 0 = 0 := by
  unfold colN
  rw [if_pos (al_ge h c), if_pos (al_ge h c)]
  split <;> split <;> rfl
theorem CtI.start {T : Int} {xs ys : List Int} (h : alOk T xs ys = true) : CtI T xs ys 0 0 (List.replicate xs.length 0) := by
  refine ⟨by simp, fun p hp => ?_⟩
  have e : gi (List.replicate xs.length 0) p = 0 := by rw [gi_get (by simpa using hp)]; simp
  rw [e, colN_zero h]
  exact ⟨rfl, Int.le_refl _, by omega⟩
theorem colN_step {T : Int} {xs ys : List Int} {c p : Nat} {l : Int} (h : alOk T xs ys = true) (hl : 0 ≤ l) : colN xs ys c (p : Int) (l + 1) = colN xs ys c (p : Int) l + (if pkN xs ys c l = (p : Int) then 1 else 0) := by
  have hg := al_ge h c
  unfold colN pkN
  generalize gi xs c = x at *
  generalize gi ys c = y at *
  by_cases a : l < x
  · rw [if_pos a, if_pos (show l + 1 ≤ x by omega), if_pos (show l ≤ x by omega), if_pos (show l + 1 ≤ x by omega), if_pos (show l ≤ x by omega)]
    split <;> split <;> omega
  · rw [if_neg a, if_neg (show ¬ l + 1 ≤ x by omega), if_neg (show ¬ l + 1 ≤ x by omega)]
    by_cases b : l = x
    · subst b
      rw [if_pos (Int.le_refl _), if_pos (Int.le_refl _)]
      split <;> split <;> omega
    · rw [if_neg (show ¬ l ≤ x by omega), if_neg (show ¬ l ≤ x by omega)]
      split <;> split <;> omega
theorem CtI.step {T : Int} {xs ys often : List Int} {c q : Nat} {l : Int} (h : alOk T xs ys = true) (hi : CtI T xs ys c l often) (hl : 0 ≤ l) (hq : q < xs.length) (hp : pkN xs ys c l = (q : Int)) :
    CtI T xs ys c (l + 1) (often.set q (gi often q + 1)) := by
  refine ⟨by simp [hi.1], fun p hpl => ?_⟩
  obtain ⟨e, lo, up⟩ := hi.2 p hpl
  rw [gi_set (by rw [hi.1]; exact hq), colN_step h hl, hp]
  by_cases b : q = p
  · subst b
    rw [if_pos rfl, if_pos rfl]
    omega
  · rw [if_neg b, if_neg (by omega)]
    omega
theorem CtI.col {T : Int} {xs ys often : List Int} {c : Nat} (h : alOk T xs ys = true) (hi : CtI T xs ys c T often) : CtI T xs ys (c + 1) 0 often := by
  refine ⟨hi.1, fun p hpl => ?_⟩
  obtain ⟨e, lo, up⟩ := hi.2 p hpl
  obtain ⟨_, hT, _⟩ := (alOk_iff T xs ys).1 h
  rw [colN_zero h]
  refine ⟨?_, lo, ?_⟩
  · show _ = (Sg c _ + colN xs ys c (p : Int) T) + 0
    omega
  · have : ((c + 1 : Nat) : Int) = (c : Int) + 1 := by omega
    rw [this, Int.add_mul]
    omega
theorem CtI.done {T : Int} {xs ys often : List Int} (h : alOk T xs ys = true) (hi : CtI T xs ys xs.length 0 often) {p : Nat} (hp : p < xs.length) : gi often p = wt T xs ys (p : Int) := by
  obtain ⟨_, _, _, _, _, hx, _⟩ := (alOk_iff T xs ys).1 h
  rw [(hi.2 p hp).1, colN_zero h]
  unfold wt
  have e1 : Sg xs.length (fun j => colN xs ys j (p : Int) T) = Sg xs.length (fun j => (if (p : Int) = (j : Int) then gi xs p else 0) + (if gi ys j = (p : Int) then T - gi xs j else 0)) := by
    refine Sg_congr fun j hj => ?_
    have hb := hx _ (gi_mem hj)
    unfold colN
    congr 1
    · by_cases a : (j : Int) = (p : Int)
      · obtain rfl : j = p := by omega
        rw [if_pos rfl, if_pos rfl]
        split <;> omega
      · rw [if_neg a, if_neg (by omega)]
    · split
      · split <;> omega
      · rfl
  rw [e1, Sg_add, sg_pick hp, Int.toNat_natCast]
  omega
theorem CtI.last {t often : List Int} (h : tabOk t = true) (hi : CtI t.sum (mk t).cut (mk t).other t.length 0 often) {p : Nat} (hp : p < t.length) : gi often p = gi t p * (t.length : Int) := by
  have hc := (mk_inv h).lc
  rw [← hc] at hi
  rw [hi.done (alOk_mk h) (by rw [hc]; exact hp), mk_exact h hp, Int.mul_comm]
end Go.Proofs.Ytfcoeonabppjiaa
