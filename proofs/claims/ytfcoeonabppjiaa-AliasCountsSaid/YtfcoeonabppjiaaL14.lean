/- Words for the making of an alias. -/
import Derived.Test.YtfcoeonabppjiaaK14
import Derived.Test.YtfcoeonabppjiaaG14
namespace Go.Proofs.Ytfcoeonabppjiaa
open Go.RowKit
set_option linter.unusedVariables false
/-- A list that is filled up to a place. -/
def pf (f : Nat → Int) (n k : Nat) : List Int := (List.range n).map fun i => if i < k then f i else 0
theorem pf_length (f : Nat → Int) (n k : Nat) : (pf f n k).length = n := by simp [pf]
theorem gi_pf {f : Nat → Int} {n k i : Nat} (h : i < n) : gi (pf f n k) i = if i < k then f i else 0 := by
  rw [gi_get (by simpa [pf] using h)]; simp [pf]
theorem pf_zero (f : Nat → Int) (n : Nat) : pf f n 0 = List.replicate n 0 :=
  eq_of_gi (by simp [pf]) fun j hj => by
    rw [pf_length] at hj
    rw [gi_pf hj, gi_get (by simpa using hj)]; simp
theorem pf_set (f : Nat → Int) {n k : Nat} (h : k < n) : (pf f n k).set k (f k) = pf f n (k + 1) :=
  eq_of_gi (by simp [pf]) fun j hj => by
    rw [List.length_set, pf_length] at hj
    rw [gi_set (by rw [pf_length]; exact h), gi_pf hj, gi_pf hj]
    by_cases e : k = j
    · subst e; simp
    · rw [if_neg e]
      by_cases e2 : j < k
      · rw [if_pos e2, if_pos (by omega)]
      · rw [if_neg e2, if_neg (by omega)]
theorem pf_rest (t : List Int) : pf (fun i => gi t i * (t.length : Int)) t.length t.length = (a0 t).rest :=
  eq_of_gi (by simp [pf, a0]) fun j hj => by
    rw [pf_length] at hj
    rw [gi_pf hj, if_pos hj, gi_get hj, gi_get (by simpa [a0] using hj), Int.mul_comm]; simp [a0]
theorem pf_cut (t : List Int) : pf (fun _ => t.sum) t.length t.length = (a0 t).cut :=
  eq_of_gi (by simp [pf, a0]) fun j hj => by
    rw [pf_length] at hj
    rw [gi_pf hj, gi_get (by simpa [a0] using hj), if_pos hj]; simp [a0]
theorem pf_other (t : List Int) : pf (fun i => (i : Int)) t.length t.length = (a0 t).other :=
  eq_of_gi (by simp [pf, a0]) fun j hj => by
    rw [pf_length] at hj
    rw [gi_pf hj, gi_get (by simpa [a0] using hj), if_pos hj]; simp [a0]
/-- A heap has just the places of which P holds. -/
def Has (P : Nat → Prop) (l : List Int) : Prop := l.Nodup ∧ ∀ x, x ∈ l ↔ ∃ i, P i ∧ x = (i : Int)
theorem Has.nil : Has (fun _ => False) [] := ⟨List.nodup_nil, fun x => by simp⟩
theorem Has.congr {P Q : Nat → Prop} {l : List Int} (h : Has P l) (hpq : ∀ i, P i ↔ Q i) : Has Q l :=
  ⟨h.1, fun x => (h.2 x).trans ⟨fun ⟨i, hi, e⟩ => ⟨i, (hpq i).1 hi, e⟩, fun ⟨i, hi, e⟩ => ⟨i, (hpq i).2 hi, e⟩⟩⟩
theorem Has.push {P : Nat → Prop} {l l' : List Int} (h : Has P l) {i : Nat} (hi : ¬ P i) (hp : l'.Perm ((i : Int) :: l)) : Has (fun j => P j ∨ j = i) l' := by
  refine ⟨hp.nodup_iff.2 (List.nodup_cons.2 ⟨fun hm => ?_, h.1⟩), fun x => ?_⟩
  · obtain ⟨j, hj, e⟩ := (h.2 _).1 hm
    have : i = j := by omega
    subst this; exact hi hj
  · rw [hp.mem_iff, List.mem_cons]
    constructor
    · rintro (e | hm)
      · exact ⟨i, .inr rfl, e⟩
      · obtain ⟨j, hj, e⟩ := (h.2 _).1 hm
        exact ⟨j, .inl hj, e⟩
    · rintro ⟨j, hj | hj, e⟩
      · exact .inr ((h.2 _).2 ⟨j, hj, e⟩)
      · subst hj; exact .inl e
theorem Has.pop {P : Nat → Prop} {l l' : List Int} (h : Has P l) {i : Nat} (hp : ((i : Int) :: l').Perm l) : Has (fun j => P j ∧ j ≠ i) l' := by
  have hn := List.nodup_cons.1 (hp.nodup_iff.2 h.1)
  refine ⟨hn.2, fun x => ?_⟩
  constructor
  · intro hm
    obtain ⟨j, hj, e⟩ := (h.2 _).1 (hp.mem_iff.1 (List.mem_cons_of_mem _ hm))
    exact ⟨j, ⟨hj, fun e2 => by subst e2; subst e; exact hn.1 hm⟩, e⟩
  · rintro ⟨j, ⟨hj, hne⟩, e⟩
    rcases List.mem_cons.1 (hp.mem_iff.2 ((h.2 x).2 ⟨j, hj, e⟩)) with e2 | hm
    · omega
    · exact hm
theorem Has.pos {P : Nat → Prop} {l : List Int} (h : Has P l) {i : Nat} (hi : P i) : 0 < l.length := by
  have := (h.2 _).2 ⟨i, hi, rfl⟩
  exact List.length_pos_of_mem this
theorem Has.first {P : Nat → Prop} {l : List Int} (h : Has P l) (hl : 0 < l.length) (hm : ∀ x ∈ l, gi l 0 ≤ x) : ∃ i, P i ∧ gi l 0 = (i : Int) ∧ ∀ j, P j → i ≤ j := by
  obtain ⟨i, hi, e⟩ := (h.2 _).1 (gi_mem hl)
  refine ⟨i, hi, e, fun j hj => ?_⟩
  have := hm _ ((h.2 _).2 ⟨j, hj, rfl⟩)
  omega
theorem Has.none {P : Nat → Prop} {l : List Int} (h : Has P l) (hl : l.length = 0) (i : Nat) : ¬ P i := fun hi => by have := h.pos hi; omega
theorem nil_of_len {l : List Int} (h : ¬ 0 < l.length) : l = [] := List.eq_nil_of_length_eq_zero (by omega)
/-- The fixed blocks of the making. -/
def Fx (w0 : World) (T : Int) (n R0 B C O R : Nat) (rest cut other : List Int) (w : World) : Prop :=
  Bk w R0 26 [.int .i64 0, .slice none 0 0, .slice none 0 0] ∧ Bk w B 26 [.int .i64 T, .slice (some ⟨C, 0, none⟩) n n, .slice (some ⟨O, 0, none⟩) n n] ∧ Bk w C 3 (nums cut) ∧ Bk w O 3 (nums other) ∧ Bk w R 3 (nums rest) ∧ Below w0.heap.size w0 w
section
variable {w0 w w' : World} {T : Int} {n R0 B C O R : Nat} {rest cut other : List Int}
theorem Fx.drewN (h : Fx w0 T n R0 B C O R rest cut other w) (q : Nat) : Fx w0 T n R0 B C O R rest cut other (w.drewN q) := ⟨h.1, h.2.1, h.2.2.1, h.2.2.2.1, h.2.2.2.2.1, below_dN h.2.2.2.2.2 q⟩
theorem Fx.drew (h : Fx w0 T n R0 B C O R rest cut other w) : Fx w0 T n R0 B C O R rest cut other w.drew := h.drewN 1
theorem Fx.chg {S : Nat → Prop} (h : Fx w0 T n R0 B C O R rest cut other w) (hc : Chg S w w') (h0 : ¬ S R0) (h1 : ¬ S B) (h2 : ¬ S C) (h3 : ¬ S O) (h4 : ¬ S R) (hS : ∀ k, S k → w0.heap.size ≤ k) : Fx w0 T n R0 B C O R rest cut other w' :=
  ⟨hc.bk h.1 h0, hc.bk h.2.1 h1, hc.bk h.2.2.1 h2, hc.bk h.2.2.2.1 h3, hc.bk h.2.2.2.2.1 h4, hc.below h.2.2.2.2.2 (fun k _ hs => hS k hs) h.2.2.2.2.2.size⟩
theorem Fx.setC (h : Fx w0 T n R0 B C O R rest cut other w) (h0 : R0 ≠ C) (h1 : B ≠ C) (h3 : O ≠ C) (h4 : R ≠ C) (hw : w0.heap.size ≤ C) (k : Nat) (x : Int) : Fx w0 T n R0 B C O R rest (cut.set k x) other (w.setCell ⟨C, k, none⟩ (.int .i64 x)) :=
  ⟨h.1.far (p := ⟨C, k, none⟩) h0 _, h.2.1.far (p := ⟨C, k, none⟩) h1 _, by rw [← nums_set]; exact h.2.2.1.set_ k _, h.2.2.2.1.far (p := ⟨C, k, none⟩) h3 _, h.2.2.2.2.1.far (p := ⟨C, k, none⟩) h4 _, h.2.2.2.2.2.setCell (p := ⟨C, k, none⟩) hw _⟩
theorem Fx.setO (h : Fx w0 T n R0 B C O R rest cut other w) (h0 : R0 ≠ O) (h1 : B ≠ O) (h3 : C ≠ O) (h4 : R ≠ O) (hw : w0.heap.size ≤ O) (k : Nat) (x : Int) : Fx w0 T n R0 B C O R rest cut (other.set k x) (w.setCell ⟨O, k, none⟩ (.int .i64 x)) :=
  ⟨h.1.far (p := ⟨O, k, none⟩) h0 _, h.2.1.far (p := ⟨O, k, none⟩) h1 _, h.2.2.1.far (p := ⟨O, k, none⟩) h3 _, by rw [← nums_set]; exact h.2.2.2.1.set_ k _, h.2.2.2.2.1.far (p := ⟨O, k, none⟩) h4 _, h.2.2.2.2.2.setCell (p := ⟨O, k, none⟩) hw _⟩
theorem Fx.setR (h : Fx w0 T n R0 B C O R rest cut other w) (h0 : R0 ≠ R) (h1 : B ≠ R) (h3 : C ≠ R) (h4 : O ≠ R) (hw : w0.heap.size ≤ R) (k : Nat) (x : Int) : Fx w0 T n R0 B C O R (rest.set k x) cut other (w.setCell ⟨R, k, none⟩ (.int .i64 x)) :=
  ⟨h.1.far (p := ⟨R, k, none⟩) h0 _, h.2.1.far (p := ⟨R, k, none⟩) h1 _, h.2.2.1.far (p := ⟨R, k, none⟩) h3 _, h.2.2.2.1.far (p := ⟨R, k, none⟩) h4 _, by rw [← nums_set]; exact h.2.2.2.2.1.set_ k _, h.2.2.2.2.2.setCell (p := ⟨R, k, none⟩) hw _⟩
end
/-- The places of the blocks. -/
def Ns (w0 : World) (R0 B C O R H1 H2 base : Nat) : Prop :=
  w0.heap.size ≤ R0 ∧ R0 < B ∧ R0 < C ∧ R0 < O ∧ B < R ∧ C < R ∧ O < R ∧ B ≠ C ∧ B ≠ O ∧ C ≠ O ∧ H1 = R + 1 ∧ H2 = R + 1 + 1 ∧ base = R + 1 + 1 + 1
theorem Hs.setCell {base H1 H2 g : Nat} {l1 l2 : List Int} {w : World} (h : Hs base H1 H2 l1 l2 w) (h1 : H1 ≠ g) (h2 : H2 ≠ g) (hb : g < base) (k : Nat) (x : Value) : Hs base H1 H2 l1 l2 (w.setCell ⟨g, k, none⟩ x) :=
  h.chg (S := fun k => k = g) ((Chg.refl (fun k => k = g) w).set_ (g := g) (show (fun k => k = g) g from rfl) k x) h1 h2 (fun k hk => by omega)
section
variable {w0 w w' : World} {T : Int} {n R0 B C O R H1 H2 base : Nat} {rest cut other : List Int}
theorem Fx.push1 (h : Fx w0 T n R0 B C O R rest cut other w) (hn : Ns w0 R0 B C O R H1 H2 base) (hc : Chg (fun j => j = H1 ∨ base ≤ j) w w') : Fx w0 T n R0 B C O R rest cut other w' := by
  obtain ⟨n1, n2, n3, n4, n5, n6, n7, n8, n9, n10, n11, n12, n13⟩ := hn
  exact h.chg hc (by omega) (by omega) (by omega) (by omega) (by omega) (fun k hk => by omega)
theorem Fx.push2 (h : Fx w0 T n R0 B C O R rest cut other w) (hn : Ns w0 R0 B C O R H1 H2 base) (hc : Chg (fun j => j = H2 ∨ base ≤ j) w w') : Fx w0 T n R0 B C O R rest cut other w' := by
  obtain ⟨n1, n2, n3, n4, n5, n6, n7, n8, n9, n10, n11, n12, n13⟩ := hn
  exact h.chg hc (by omega) (by omega) (by omega) (by omega) (by omega) (fun k hk => by omega)
end
theorem Has.stay {p : Nat → Prop} {l : List Int} {k : Nat} (h : Has (fun i => i < k ∧ p i) l) (hk : ¬ p k) : Has (fun i => i < k + 1 ∧ p i) l :=
  h.congr fun i => ⟨fun x => ⟨by omega, x.2⟩, fun x => ⟨by
    rcases (show i < k ∨ i = k from by omega) with y | y
    · exact y
    · subst y; exact absurd x.2 hk, x.2⟩⟩
theorem Has.grow {p : Nat → Prop} {l l' : List Int} {k : Nat} (h : Has (fun i => i < k ∧ p i) l) (hk : p k) (hp : l'.Perm ((k : Int) :: l)) : Has (fun i => i < k + 1 ∧ p i) l' :=
  (h.push (by omega) hp).congr fun i => ⟨fun x => by
    rcases x with x | x
    · exact ⟨by omega, x.2⟩
    · subst x; exact ⟨by omega, hk⟩, fun x => by
    rcases (show i < k ∨ i = k from by omega) with y | y
    · exact .inl ⟨y, x.2⟩
    · exact .inr y⟩
/-- What stands first in the heaps is what the algorithm takes. -/
theorem step_names {T : Int} {m : Nat} {s : AS} {l1 l2 : List Int} (hi : AInv T m s) (h1 : Has (fun i => i < m ∧ gb s.done i = false ∧ gi s.rest i < T) l1) (hl : 0 < l1.length) (hm1 : ∀ x ∈ l1, gi l1 0 ≤ x)
    (h2 : Has (fun i => i < m ∧ T < gi s.rest i) l2) (hm2 : ∀ x ∈ l2, gi l2 0 ≤ x) :
    bel s.rest s.done T < m ∧ gi l1 0 = (bel s.rest s.done T : Nat) ∧ 0 < l2.length ∧ gi l2 0 = (abv s.rest T : Nat) := by
  obtain ⟨i, ⟨hi1, hi2, hi3⟩, e1, hmin⟩ := h1.first hl hm1
  have hb : bel s.rest s.done T = i := findR_eq (by rw [hi.lr]; exact hi1) (by unfold belP; rw [hi2]; simpa using hi3) fun j hj => by
    cases hx : belP s.rest s.done T j with
    | false => rfl
    | true =>
      simp only [belP, Bool.and_eq_true, Bool.not_eq_true', decide_eq_true_eq] at hx
      have := hmin j ⟨by omega, hx.1, hx.2⟩
      omega
  have ha := hi.above (by rw [hb]; exact hi1)
  have hp2 := h2.pos ⟨ha.1, ha.2.1⟩
  obtain ⟨k, ⟨hk1, hk2⟩, e2, hmin2⟩ := h2.first hp2 hm2
  have hak : abv s.rest T = k := by
    have h3 := hmin2 _ ⟨ha.1, ha.2.1⟩
    rcases Nat.lt_or_ge k (abv s.rest T) with x | x
    · have := findR_not (n := s.rest.length - 1) (p := abvP s.rest T) x
      simp only [abvP, decide_eq_false_iff_not] at this
      omega
    · omega
  exact ⟨by omega, by rw [hb]; exact e1, hp2, by rw [hak]; exact e2⟩
section
variable {T : Int} {m : Nat} {s : AS} {i j : Nat} {l1 l1' l2 l2' l3 : List Int}
theorem upd_done (hd : s.done.length = m) (hi : i < m) (x : Nat) : gb (aUpd T s i j).done x = if i = x then true else gb s.done x := gb_set (by omega) _ _
theorem upd_rest (hr : s.rest.length = m) (hj : j < m) (x : Nat) : gi (aUpd T s i j).rest x = if j = x then gi s.rest j - (T - gi s.rest i) else gi s.rest x := gi_set (by omega) _ _
theorem has1 (hi : AInv T m s) (him : i < m) (hjm : j < m) (hji : j ≠ i) (hrj : T < gi s.rest j) (hv : ¬ gi s.rest j - (T - gi s.rest i) < T)
    (h1 : Has (fun x => x < m ∧ gb s.done x = false ∧ gi s.rest x < T) l1) (hp : ((i : Int) :: l1').Perm l1) : Has (fun x => x < m ∧ gb (aUpd T s i j).done x = false ∧ gi (aUpd T s i j).rest x < T) l1' :=
  (h1.pop hp).congr fun x => by
    rw [upd_done hi.ld him, upd_rest hi.lr hjm]
    by_cases e1 : i = x
    · subst e1; simp
    · rw [if_neg e1]
      by_cases e2 : j = x
      · subst e2; rw [if_pos rfl]; constructor
        · intro h; omega
        · intro h; omega
      · rw [if_neg e2]; constructor
        · intro h; exact h.1
        · intro h; exact ⟨h, Ne.symm e1⟩
theorem has1p (hi : AInv T m s) (him : i < m) (hjm : j < m) (hji : j ≠ i) (hrj : T < gi s.rest j) (hdj : gb s.done j = false) (hv : gi s.rest j - (T - gi s.rest i) < T)
    (h1 : Has (fun x => x < m ∧ gb s.done x = false ∧ gi s.rest x < T) l1) (hp : ((i : Int) :: l1').Perm l1) (hq : l3.Perm ((j : Int) :: l1')) : Has (fun x => x < m ∧ gb (aUpd T s i j).done x = false ∧ gi (aUpd T s i j).rest x < T) l3 :=
  ((h1.pop hp).push (i := j) (fun h => by have := h.1.2.2; omega) hq).congr fun x => by
    rw [upd_done hi.ld him, upd_rest hi.lr hjm]
    by_cases e1 : i = x
    · subst e1; simp; omega
    · rw [if_neg e1]
      by_cases e2 : j = x
      · subst e2; rw [if_pos rfl]; constructor
        · intro h; exact ⟨hjm, hdj, hv⟩
        · intro h; exact .inr rfl
      · rw [if_neg e2]; constructor
        · rintro (h | h)
          · exact h.1
          · exact absurd h.symm e2
        · intro h; exact .inl ⟨h, Ne.symm e1⟩
theorem has2 (hi : AInv T m s) (him : i < m) (hjm : j < m) (hrj : T < gi s.rest j) (hv : T < gi s.rest j - (T - gi s.rest i))
    (h2 : Has (fun x => x < m ∧ T < gi s.rest x) l2) : Has (fun x => x < m ∧ T < gi (aUpd T s i j).rest x) l2 :=
  h2.congr fun x => by
    rw [upd_rest hi.lr hjm]
    by_cases e2 : j = x
    · subst e2; rw [if_pos rfl]; constructor
      · intro h; exact ⟨h.1, hv⟩
      · intro h; exact ⟨h.1, hrj⟩
    · rw [if_neg e2]
theorem has2p (hi : AInv T m s) (him : i < m) (hjm : j < m) (hv : ¬ T < gi s.rest j - (T - gi s.rest i))
    (h2 : Has (fun x => x < m ∧ T < gi s.rest x) l2) (hp : ((j : Int) :: l2').Perm l2) : Has (fun x => x < m ∧ T < gi (aUpd T s i j).rest x) l2' :=
  (h2.pop hp).congr fun x => by
    rw [upd_rest hi.lr hjm]
    by_cases e2 : j = x
    · subst e2; rw [if_pos rfl]; constructor
      · intro h; exact absurd rfl h.2
      · intro h; exact absurd h.2 hv
    · rw [if_neg e2]; constructor
      · intro h; exact h.1
      · intro h; exact ⟨h, Ne.symm e2⟩
end
/-- With nothing below, nothing is left. -/
theorem step_none {T : Int} {m : Nat} {s : AS} {l1 : List Int} (hi : AInv T m s) (h1 : Has (fun i => i < m ∧ gb s.done i = false ∧ gi s.rest i < T) l1) (hl : ¬ 0 < l1.length) : ¬ bel s.rest s.done T < m := fun hb => by
  have ha := hi.above hb
  exact h1.none (by omega) _ ⟨hb, ha.2.2.2.2.1, ha.2.2.2.2.2⟩
end Go.Proofs.Ytfcoeonabppjiaa
