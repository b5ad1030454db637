/- Chapter 28: turn by turn (plain). -/
import Derived.Test.YtchdjbbhhjjmkaaOb28
namespace Go.Proofs.Ytchdjbbhhjjmkaa
open Go.RowKit
set_option linter.unusedVariables false
def cntR : Nat → (Nat → Bool) → Nat
  | 0, _ => 0
  | n + 1, q => cntR n q + (if q n = true then 1 else 0)
theorem cntR_mono {q r : Nat → Bool} : ∀ {n : Nat}, (∀ x, x < n → q x = true → r x = true) → cntR n q ≤ cntR n r
  | 0, _ => Nat.le_refl _
  | n + 1, h => by
    have ih := cntR_mono (n := n) (q := q) (r := r) fun x hx => h x (by omega)
    have hn := h n (by omega)
    simp only [cntR]
    by_cases e : q n = true
    · rw [if_pos e, if_pos (hn e)]; omega
    · rw [if_neg e]; split <;> omega
theorem cntR_lt {q r : Nat → Bool} {a : Nat} (ha : r a = true) (ha' : q a = false) : ∀ {n : Nat}, a < n → (∀ x, x < n → q x = true → r x = true) → cntR n q < cntR n r
  | 0, h, _ => absurd h (Nat.not_lt_zero _)
  | n + 1, han, h => by
    simp only [cntR]
    by_cases e : a = n
    · subst e
      have := cntR_mono (n := a) (q := q) (r := r) fun x hx => h x (by omega)
      rw [if_neg (by rw [ha']; decide), if_pos ha]; omega
    · have ih := cntR_lt ha ha' (n := n) (by omega) fun x hx => h x (by omega)
      have hn := h n (by omega)
      by_cases e2 : q n = true
      · rw [if_pos e2, if_pos (hn e2)]; omega
      · rw [if_neg e2]; split <;> omega
theorem cntR_set {q r : Nat → Bool} {a : Nat} (h1 : q a = false) (h2 : r a = true) (h3 : ∀ x, x ≠ a → r x = q x) : ∀ n : Nat, cntR n r = cntR n q + (if a < n then 1 else 0)
  | 0 => rfl
  | n + 1 => by
    have ih := cntR_set h1 h2 h3 n
    simp only [cntR, ih]
    by_cases e : a = n
    · subst e
      rw [h1, h2, if_neg (by omega), if_pos rfl, if_neg (by decide), if_pos (by omega)]
    · rw [h3 n (fun h => e h.symm)]
      by_cases e2 : a < n
      · rw [if_pos e2, if_pos (show a < n + 1 by omega)]; omega
      · rw [if_neg e2, if_neg (show ¬ a < n + 1 by omega)]; omega
def opn (l : List Bool) (x : Nat) : Bool := !(l.getD x true)
def sn (l : List Bool) (x : Nat) : Bool := l.getD x false
structure TnI (l : List Bool) (last0 : Int) (i o : Nat) (last : Int) (seen : List Bool) : Prop where
  len : seen.length = l.length
  cnt : cntR l.length (sn seen) = i
  off : ∀ j, j < l.length → (sn seen (tnP l.length last0 j) = true ↔ (j < o ∧ opn l (tnP l.length last0 j) = true))
  ol : o ≤ l.length
  nxt : ∀ t, tnP l.length last t = tnP l.length last0 (o + t)
theorem tnP_add (n : Nat) (last : Int) (j : Nat) : tnP n last (j + n) = tnP n last j := by
  unfold tnP
  rw [← Nat.add_assoc, Nat.add_mod_right]
theorem tnP_inj {n : Nat} {last : Int} {i j : Nat} (hi : i < n) (hj : j < n) (h : tnP n last i = tnP n last j) : i = j := by
  unfold tnP at h
  generalize (tnL n last).toNat + 1 = s at h
  have a := Nat.div_add_mod (s + i) n
  have b := Nat.div_add_mod (s + j) n
  rw [h] at a
  generalize (s + j) % n = r at a b
  generalize (s + i) / n = q at a
  generalize (s + j) / n = p at b
  rcases Nat.lt_trichotomy q p with e | e | e
  · have : n * (q + 1) ≤ n * p := Nat.mul_le_mul_left _ e
    rw [Nat.mul_add, Nat.mul_one] at this; omega
  · subst e; omega
  · have : n * (p + 1) ≤ n * q := Nat.mul_le_mul_left _ e
    rw [Nat.mul_add, Nat.mul_one] at this; omega
theorem tnP_surj {n : Nat} {last : Int} {x : Nat} (hx : x < n) : ∃ j, j < n ∧ tnP n last j = x := by
  unfold tnP
  generalize (tnL n last).toNat + 1 = s
  have hs := Nat.div_add_mod s n
  have hr : s % n < n := Nat.mod_lt _ (by omega)
  by_cases h : s % n ≤ x
  · refine ⟨x - s % n, by omega, ?_⟩
    have : s + (x - s % n) = x + n * (s / n) := by omega
    rw [this, Nat.add_mul_mod_self_left, Nat.mod_eq_of_lt hx]
  · refine ⟨x + n - s % n, by omega, ?_⟩
    have : s + (x + n - s % n) = x + n * (s / n + 1) := by rw [Nat.mul_add, Nat.mul_one]; omega
    rw [this, Nat.add_mul_mod_self_left, Nat.mod_eq_of_lt hx]
theorem tnP_last {n : Nat} {last0 : Int} {j : Nat} (h : j < n) (t : Nat) : tnP n ((tnP n last0 j : Nat) : Int) t = tnP n last0 (j + 1 + t) := by
  have hp := tnP_lt (n := n) (last := last0) (i := j) (by omega)
  have hL : tnL n ((tnP n last0 j : Nat) : Int) = ((tnP n last0 j : Nat) : Int) := by unfold tnL; rw [if_neg (by omega)]
  have : tnP n ((tnP n last0 j : Nat) : Int) t = (tnP n last0 j + 1 + t) % n := by
    show ((tnL n ((tnP n last0 j : Nat) : Int)).toNat + 1 + t) % n = _
    rw [hL, Int.toNat_natCast]
  rw [this]
  unfold tnP
  generalize (tnL n last0).toNat + 1 = s
  rw [Nat.add_assoc, Nat.mod_add_mod]
  congr 1
  omega
theorem TnI.start (l : List Bool) (last : Int) : TnI l last 0 0 last (List.replicate l.length false) := by
  have h0 : ∀ x, sn (List.replicate l.length false) x = false := fun x => by
    unfold sn
    rw [List.getD_eq_getElem?_getD]
    rcases Nat.lt_or_ge x l.length with e | e
    · rw [List.getElem?_replicate_of_lt e]; rfl
    · rw [List.getElem?_eq_none (by simpa using e)]; rfl
  refine ⟨by simp, ?_, fun j hj => ?_, Nat.zero_le _, fun t => by rw [Nat.zero_add]⟩
  · have : ∀ n, cntR n (sn (List.replicate l.length false)) = 0 := by
      intro n
      induction n with
      | zero => rfl
      | succ n ih => simp only [cntR, ih, h0 n]; rfl
    exact this _
  · rw [h0]
    constructor
    · intro h; cases h
    · intro h; omega
/-- The first of some numbers. -/
theorem first_of {q : Nat → Bool} : ∀ {n : Nat}, (∃ j, j < n ∧ q j = true) → ∃ j, j < n ∧ q j = true ∧ ∀ i, i < j → q i = false
  | 0, ⟨j, hj, _⟩ => absurd hj (Nat.not_lt_zero _)
  | n + 1, ⟨j, hj, hq⟩ => by
    by_cases h : ∃ j, j < n ∧ q j = true
    · obtain ⟨k, hk, h1, h2⟩ := first_of h
      exact ⟨k, by omega, h1, h2⟩
    · have hn : ∀ i, i < n → q i = false := fun i hi => by
        cases e : q i with
        | false => rfl
        | true => exact absurd ⟨i, hi, e⟩ h
      have : j = n := by
        rcases Nat.lt_or_ge j n with e | e
        · rw [hn j e] at hq; cases hq
        · omega
      subst this
      exact ⟨j, hj, hq, hn⟩
section
variable {l seen : List Bool} {last0 last : Int} {i o : Nat}
theorem opn_iff {x : Nat} : opn l x = true ↔ l.getD x true = false := by
  unfold opn
  cases l.getD x true <;> simp
theorem opn_lt {x : Nat} (h : opn l x = true) : x < l.length := by
  rcases Nat.lt_or_ge x l.length with e | e
  · exact e
  · rw [opn_iff, List.getD_eq_getElem?_getD, List.getElem?_eq_none e] at h; cases h
theorem TnI.sub (h : TnI l last0 i o last seen) {x : Nat} (hx : x < l.length) (hs : sn seen x = true) : opn l x = true := by
  obtain ⟨j, hj, rfl⟩ := tnP_surj (last := last0) hx
  exact ((h.off j hj).1 hs).2
theorem TnI.step (h : TnI l last0 i o last seen) (hi : i < cntR l.length (opn l)) :
    ∃ x, tnA l last = x ∧ tnB l last = true ∧ x < l.length ∧ l.getD x true = false ∧ sn seen x = false ∧ ∃ o', TnI l last0 (i + 1) o' (x : Int) (seen.set x true) := by
  have he : ∃ j, j < l.length ∧ (decide (o ≤ j) && opn l (tnP l.length last0 j)) = true := by
    refine Classical.byContradiction fun hn => ?_
    have : cntR l.length (opn l) ≤ cntR l.length (sn seen) := cntR_mono fun x hx hox => by
      obtain ⟨j, hj, rfl⟩ := tnP_surj (last := last0) hx
      rw [h.off j hj]
      refine ⟨?_, hox⟩
      rcases Nat.lt_or_ge j o with e | e
      · exact e
      · exact absurd ⟨j, hj, by rw [hox, Bool.and_true]; simpa using e⟩ hn
    rw [h.cnt] at this
    omega
  obtain ⟨j, hj, hq, hfirst⟩ := first_of he
  rw [Bool.and_eq_true, decide_eq_true_eq] at hq
  obtain ⟨hoj, hop⟩ := hq
  have hk : j - o < l.length := by omega
  have hpk : tnP l.length last (j - o) = tnP l.length last0 j := by rw [h.nxt, show o + (j - o) = j by omega]
  obtain ⟨t1, t2⟩ := tn_some (l := l) (last := last) hk (fun t ht => by
    have hf := hfirst (o + t) (by omega)
    rw [h.nxt]
    rw [Bool.and_eq_false_iff] at hf
    rcases hf with e | e
    · have := of_decide_eq_false e
      omega
    · unfold opn at e
      cases e2 : l.getD (tnP l.length last0 (o + t)) true with
      | true => rfl
      | false => rw [e2] at e; cases e) (by rw [hpk]; exact opn_iff.1 hop)
  have hxl := opn_lt hop
  have hns : sn seen (tnP l.length last0 j) = false := by
    cases e : sn seen (tnP l.length last0 j) with
    | false => rfl
    | true => have := ((h.off j hj).1 e).1; omega
  refine ⟨tnP l.length last0 j, by rw [t1, hpk], t2, hxl, opn_iff.1 hop, hns, j + 1, ?_⟩
  have hset1 : sn (seen.set (tnP l.length last0 j) true) (tnP l.length last0 j) = true := by
    unfold sn
    rw [List.getD_eq_getElem?_getD, List.getElem?_set_self (by rw [h.len]; exact hxl)]; rfl
  have hset2 : ∀ x, x ≠ tnP l.length last0 j → sn (seen.set (tnP l.length last0 j) true) x = sn seen x := fun x hx => by
    unfold sn
    rw [List.getD_eq_getElem?_getD, List.getD_eq_getElem?_getD, List.getElem?_set_ne (fun e => hx e.symm)]
  refine ⟨by rw [List.length_set]; exact h.len, ?_, fun t ht => ?_, by omega, fun t => ?_⟩
  · rw [cntR_set hns hset1 hset2, if_pos hxl, h.cnt]
  · by_cases e : t = j
    · subst e
      rw [hset1]
      exact ⟨fun _ => ⟨by omega, hop⟩, fun _ => rfl⟩
    · rw [hset2 _ (fun e2 => e (tnP_inj ht hj e2)), h.off t ht]
      constructor
      · rintro ⟨h1, h2⟩; exact ⟨by omega, h2⟩
      · rintro ⟨h1, h2⟩
        refine ⟨?_, h2⟩
        rcases Nat.lt_or_ge t o with e3 | e3
        · exact e3
        · have hf := hfirst t (by omega)
          rw [h2, Bool.and_true] at hf
          have := of_decide_eq_false hf
          omega
  · exact tnP_last hj t
theorem TnI.fin (h : TnI l last0 i o last seen) (hi : i = cntR l.length (opn l)) :
    (i = 0 → tnA l last = 0 ∧ tnB l last = false) ∧ (i ≠ 0 → tnB l last = true ∧ tnA l last < l.length ∧ sn seen (tnA l last) = true) := by
  have hall : ∀ x, opn l x = true → sn seen x = true := fun x hx => by
    cases e : sn seen x with
    | true => rfl
    | false =>
      have := cntR_lt (q := sn seen) (r := opn l) hx e (opn_lt hx) fun y hy => h.sub hy
      rw [h.cnt] at this
      omega
  refine ⟨fun h0 => tn_none fun t ht => ?_, fun h0 => ?_⟩
  · cases e : l.getD (tnP l.length last t) true with
    | true => rfl
    | false =>
      have hx := tnP_lt (n := l.length) (last := last) (i := t) (by omega)
      have := cntR_lt (q := fun _ => false) (r := opn l) (opn_iff.2 e) rfl hx fun y hy hh => (by cases hh)
      omega
  · have he : ∃ x, x < l.length ∧ opn l x = true := by
      refine Classical.byContradiction fun hn => ?_
      have := cntR_mono (n := l.length) (q := opn l) (r := fun _ => false) fun x hx hox => absurd ⟨x, hx, hox⟩ hn
      have h00 : ∀ n, cntR n (fun _ => false) = 0 := by
        intro n
        induction n with
        | zero => rfl
        | succ n ih => simp [cntR, ih]
      rw [h00] at this
      omega
    obtain ⟨x, hx, hox⟩ := he
    obtain ⟨j, hj, rfl⟩ := tnP_surj (last := last) hx
    obtain ⟨k, hk, h1, h2⟩ := first_of (q := fun t => opn l (tnP l.length last t)) ⟨j, hj, hox⟩
    obtain ⟨t1, t2⟩ := tn_some (l := l) (last := last) hk (fun t ht => by
      have e := h2 t ht
      simp only [opn] at e
      cases e2 : l.getD (tnP l.length last t) true with
      | true => rfl
      | false => rw [e2] at e; cases e) (opn_iff.1 h1)
    rw [t1]
    exact ⟨t2, opn_lt h1, hall _ h1⟩
end
end Go.Proofs.Ytchdjbbhhjjmkaa
