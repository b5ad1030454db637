/- Chapter 21: peeling as a function. -/
import Derived.Test.YtidoembkcaojoaaNw21
namespace Go.Proofs.Ytidoembkcaojoaa
open Go.RowKit
set_option linter.unusedVariables false
def nextN (d : DS) : Nat → Option (Nat × Nat)
  | 0 => none
  | n + 1 => match rst d.kn (d.set n) with
    | [y] => match nextN d n with
      | none => some (y.toNat, n)
      | some (x, q) => if y.toNat < x then some (y.toNat, n) else some (x, q)
    | _ => nextN d n
def DS.nx (d : DS) : Option (Nat × Nat) := nextN d d.sets.length
def peelF : Nat → DS → List Int × DS
  | 0, d => ([], d)
  | n + 1, d => match d.nx with
    | none => ([], d)
    | some (x, p) => ((x : Int) :: (peelF n (d.took x p)).1, (peelF n (d.took x p)).2)
def NextTo (d : DS) (n : Nat) : Option (Nat × Nat) → Prop
  | none => ∀ q, q < n → ∀ y, rst d.kn (d.set q) ≠ [y]
  | some (x, p) => p < n ∧ rst d.kn (d.set p) = [(x : Int)] ∧ ∀ q (y : Int), q < n → rst d.kn (d.set q) = [y] → (x : Int) < y ∨ ((x : Int) = y ∧ p ≤ q)
theorem rst_nat {d : DS} (hd : d.ok) {n : Nat} (hn : n < d.sets.length) {y : Int} (hy : rst d.kn (d.set n) = [y]) : 0 ≤ y ∧ y < d.k :=
  (hd.sset hn).inr y (mem_rst.1 (by rw [hy]; exact List.mem_cons_self ..)).1
theorem nextN_spec {d : DS} (hd : d.ok) : ∀ n, n ≤ d.sets.length → NextTo d n (nextN d n)
  | 0, _ => fun q hq => absurd hq (Nat.not_lt_zero _)
  | n + 1, hn => by
    have ih := nextN_spec hd n (by omega)
    unfold nextN
    split
    · rename_i y hy
      have hy0 := rst_nat hd (by omega) hy
      split
      · rename_i hx
        rw [hx] at ih
        refine ⟨by omega, by rw [hy]; congr 1; omega, fun q z hq hz => ?_⟩
        by_cases e : q = n
        · subst e
          rw [hy] at hz; injection hz with hz
          right; exact ⟨by omega, Nat.le_refl _⟩
        · exact absurd hz (ih q (by omega) z)
      · rename_i x q hx
        rw [hx] at ih
        obtain ⟨h1, h2, h3⟩ := ih
        split
        · rename_i hlt
          refine ⟨by omega, by rw [hy]; congr 1; omega, fun q' z hq hz => ?_⟩
          by_cases e : q' = n
          · subst e
            rw [hy] at hz; injection hz with hz
            right; exact ⟨by omega, Nat.le_refl _⟩
          · have := h3 q' z (by omega) hz
            omega
        · rename_i hlt
          refine ⟨by omega, h2, fun q' z hq hz => ?_⟩
          by_cases e : q' = n
          · subst e
            rw [hy] at hz; injection hz with hz
            omega
          · exact h3 q' z (by omega) hz
    · rename_i hno
      cases hx : nextN d n with
      | none =>
        rw [hx] at ih
        intro q hq y hy
        by_cases e : q = n
        · subst e; exact hno y hy
        · exact ih q (by omega) y hy
      | some xp =>
        obtain ⟨x, p⟩ := xp
        rw [hx] at ih
        obtain ⟨h1, h2, h3⟩ := ih
        refine ⟨by omega, h2, fun q z hq hz => ?_⟩
        by_cases e : q = n
        · subst e; exact absurd hz (hno z)
        · exact h3 q z (by omega) hz
theorem nx_some {d : DS} (hd : d.ok) {x p : Nat} (h : d.nx = some (x, p)) : Next d x p := by
  have := nextN_spec hd _ (Nat.le_refl _)
  unfold DS.nx at h
  rw [h] at this
  exact this
theorem nx_none {d : DS} (hd : d.ok) (h : d.nx = none) : Stable d := by
  have := nextN_spec hd _ (Nat.le_refl _)
  unfold DS.nx at h
  rw [h] at this
  exact this
theorem peelF_spec : ∀ (n : Nat) (d : DS), d.ok → unk d.kn < n → Peels d (peelF n d).1 (peelF n d).2 ∧ Stable (peelF n d).2
  | 0, d, _, h => absurd h (Nat.not_lt_zero _)
  | n + 1, d, hd, h => by
    unfold peelF
    split
    · rename_i hx
      exact ⟨.nil _, nx_none hd hx⟩
    · rename_i x p hx
      have hn := nx_some hd hx
      have h2 : unk (d.kn.set x true) + 1 = unk d.kn := unk_set (by rw [hd.kl]; exact hn.lt hd) hn.mem.2
      have h3 : unk (d.took x p).kn = unk (d.kn.set x true) := rfl
      have ih := peelF_spec n (d.took x p) (hd.took hn) (by omega)
      exact ⟨.cons hn ih.1, ih.2⟩
/-- What adding tells, its error, the decoder then. -/
def DS.add (d : DS) (id : Int) (set : List Int) (pay : List UInt8) : List Int × Int × DS :=
  if d.err id set pay = 0 then ((peelF (d.k + 1) (d.addP id set pay)).1, 0, (peelF (d.k + 1) (d.addP id set pay)).2) else ([], d.err id set pay, d)
theorem unk_lt {d : DS} (hd : d.ok) : unk d.kn < d.k + 1 := by have := unk_le d.kn; have := hd.kl; omega
theorem add_eq {d d' : DS} (hd : d.ok) {id : Int} {set : List Int} {pay : List UInt8} (he : d.err id set pay = 0) {out : List Int} (h : Peels (d.addP id set pay) out d') (hs : Stable d') : d.add id set pay = (out, 0, d') := by
  have hok := hd.addP he
  obtain ⟨h1, h2⟩ := peelF_spec (d.k + 1) (d.addP id set pay) hok (unk_lt hok)
  obtain ⟨e1, e2⟩ := h.uniq hs h1 h2
  unfold DS.add
  rw [if_pos he, ← e1, ← e2]
theorem add_spec {d : DS} (hd : d.ok) {id : Int} {set : List Int} {pay : List UInt8} (he : d.err id set pay = 0) : ∃ out d', d.add id set pay = (out, 0, d') ∧ Peels (d.addP id set pay) out d' ∧ Stable d' := by
  have hok := hd.addP he
  obtain ⟨h1, h2⟩ := peelF_spec (d.k + 1) (d.addP id set pay) hok (unk_lt hok)
  exact ⟨_, _, add_eq hd he h1 h2, h1, h2⟩
theorem dadd_bad {d : DS} {id : Int} {set : List Int} {pay : List UInt8} (he : d.err id set pay ≠ 0) : d.add id set pay = ([], d.err id set pay, d) := by unfold DS.add; rw [if_neg he]
theorem dadd_ok {d : DS} (hd : d.ok) (hs : Stable d) (id : Int) (set : List Int) (pay : List UInt8) : (d.add id set pay).2.2.ok ∧ Stable (d.add id set pay).2.2 := by
  by_cases he : d.err id set pay = 0
  · obtain ⟨out, d', e, h1, h2⟩ := add_spec hd he
    rw [e]
    exact ⟨h1.ok (hd.addP he), h2⟩
  · rw [dadd_bad he]; exact ⟨hd, hs⟩
/-- A decoder at rest, in a law's memory. -/
def Dw (w : World) (base D : Nat) (d : DS) (A : Nat → Prop) : Prop := ∃ m F, Dp w base D m (d.dc []) F ∧ d.ok ∧ Stable d ∧ ∀ b, m.all F b → A b
section
variable {w w' : World} {base D : Nat} {d : DS} {FA : Nat → Prop}
theorem Dw.other (h : Dw w base D d FA) {S : Nat → Prop} (hc : Chg S w w') (hS : ∀ b, FA b → ¬ S b) : Dw w' base D d FA := by
  obtain ⟨m, F, h1, h2, h3, h4⟩ := h
  exact ⟨m, F, h1.other hc fun b hb => hS b (h4 b hb), h2, h3, h4⟩
theorem Dw.below (h : Dw w base D d FA) (hb : Below w.heap.size w w') : Dw w' base D d FA := h.other (Chg.of_below (S := fun _ => False) hb) fun _ _ e => e
theorem Dw.ok (h : Dw w base D d FA) : d.ok := by obtain ⟨m, F, h1, h2, h3, h4⟩ := h; exact h2
theorem Dw.st (h : Dw w base D d FA) : Stable d := by obtain ⟨m, F, h1, h2, h3, h4⟩ := h; exact h3
theorem Dw.mono (h : Dw w base D d FA) {FB : Nat → Prop} (hF : ∀ b, FA b → FB b) : Dw w base D d FB := by
  obtain ⟨m, F, h1, h2, h3, h4⟩ := h; exact ⟨m, F, h1, h2, h3, fun b hb => hF b (h4 b hb)⟩
theorem packets_dw (h : Dw w base D d FA) : Calls Try.prog 19 #[.pointer (some ⟨D, 0, none⟩)] w fun e w' => e = .returned (.int .i64 (d.sets.length : Nat)) ∧ w = w' := by obtain ⟨m, F, h1, _⟩ := h; exact packets_dp h1
theorem left_dw (h : Dw w base D d FA) : Calls Try.prog 34 #[.pointer (some ⟨D, 0, none⟩)] w fun e w' => e = .returned (.int .i64 (unk d.kn : Nat)) ∧ w = w' := by obtain ⟨m, F, h1, _⟩ := h; exact left_dp h1
theorem done_dw (h : Dw w base D d FA) : Calls Try.prog 35 #[.pointer (some ⟨D, 0, none⟩)] w fun e w' => e = .returned (.bool (unk d.kn == 0)) ∧ w = w' := by obtain ⟨m, F, h1, _⟩ := h; exact done_dp h1
theorem symbol_dw (h : Dw w base D d FA) (i : Int) : Calls Try.prog 21 #[.pointer (some ⟨D, 0, none⟩), .int .i64 i] w (SyPost w (syR d i).1 (syR d i).2) := by obtain ⟨m, F, h1, h2, _⟩ := h; exact symbol_dp h1 h2 i
theorem known_dw (h : Dw w base D d FA) : Calls Try.prog 18 #[.pointer (some ⟨D, 0, none⟩)] w fun e w' => ∃ v, e = .returned v ∧ w'.ownsRow w.heap.size 3 1 v (knL d.kn).length (nums (knL d.kn)) ∧ Below w.heap.size w w' := by obtain ⟨m, F, h1, h2, _⟩ := h; exact known_dp h1 h2
theorem block_dw (h : Dw w base D d FA) : Calls Try.prog 22 #[.pointer (some ⟨D, 0, none⟩)] w (BlPost w (blR d).1.length (blR d).1 (blR d).2) := by obtain ⟨m, F, h1, h2, _⟩ := h; exact block_dp h1 h2
def AdPost (w : World) (base D : Nat) (d : DS) (FA : Nat → Prop) (id : Int) (set : List Int) (pay : List UInt8) (e : Ending) (w' : World) : Prop :=
  ∃ v FB, e = .returned (.tuple #[v, .int .i64 (d.add id set pay).2.1]) ∧ Dw w' base D (d.add id set pay).2.2 FB ∧ (∀ b, FB b → FA b ∨ w.heap.size ≤ b) ∧ Chg FA w w' ∧ Hl w' w.heap.size FB v (d.add id set pay).1
theorem add_dw (h : Dw w base D d FA) {A B : Option Addr} {n nb cA cB : Nat} {set : List Int} {pay : List UInt8} {id : Int} (hN : d.sets.length < 1000) (hr : Rd w A n (nums set)) (hn : n ≤ 1000000) (hp : Rd w B nb (bys pay)) (hnb : nb ≤ 140737488351232) (hw : (Lit.int .i64 id).wf = true)
    (hA : 0 < n → ∀ a, A = some a → ¬ FA a.block) (hB : 0 < nb → ∀ a, B = some a → ¬ FA a.block) :
    Calls Try.prog 14 #[.pointer (some ⟨D, 0, none⟩), .int .i64 id, .slice A n cA, .slice B nb cB] w (AdPost w base D d FA id set pay) := by
  obtain ⟨m, F, h1, h2, h3, h4⟩ := h
  have hargs : AArgs w base D m F d A n set B nb pay id := ⟨h1, h2, hr, hp, hn, hnb, hN, hw⟩
  by_cases he : d.err id set pay = 0
  · refine (padd_ok hargs h3 (fun h0 a ha e => hA h0 a ha (h4 _ e)) (fun h0 a ha e => hB h0 a ha (h4 _ e)) he).mono ?_
    rintro e w' ⟨v, out, d', m', F', rfl, p1, p2, p3, p4, p5⟩
    have e := add_eq h2 he p1 p2
    refine ⟨v, m'.all F', by rw [e], ?_, fun b hb => ?_, p4.1.mono fun b _ hb => h4 b hb, by rw [e]; exact p5⟩
    · rw [e]; exact ⟨m', F', p3, p1.ok (h2.addP he), p2, fun b hb => hb⟩
    · exact (p4.2 b hb).elim (fun e => .inl (h4 b e)) .inr
  · refine (padd_bad hargs he).mono ?_
    rintro e w' ⟨rfl, hb⟩
    have e := dadd_bad he
    refine ⟨.slice none 0 0, FA, by rw [e], ?_, fun b hb => .inl hb, Chg.of_below hb, ?_⟩
    · rw [e]; exact ⟨m, F, h1.below hb, h2, h3, h4⟩
    · rw [e]; exact ⟨World.ownsRow_nil _ _ _ _, fun b hb => by cases hb⟩
def PwPost (w : World) (k s most : Int) (e : Ending) (w' : World) : Prop :=
  if pbad k s most then e = .returned (.tuple #[.pointer none, .int .i64 3]) ∧ Below w.heap.size w w'
  else ∃ D, e = .returned (.tuple #[.pointer (some ⟨D, 0, none⟩), .int .i64 0]) ∧ Dw w' w.heap.size D (newD k.toNat s.toNat most) (fun b => w.heap.size ≤ b ∧ b < w'.heap.size) ∧ Below w.heap.size w w'
theorem new_dw (k s most : Int) (hk : k ≤ 100 ∨ 65536 < k) : Calls Try.prog 13 #[.int .i64 k, .int .i64 s, .int .i64 most] w (PwPost w k s most) := by
  refine (new_pd k s most hk).mono ?_
  intro e w' h
  unfold PnPost at h
  unfold PwPost
  split
  · rename_i hb; rw [if_pos hb] at h; exact h
  · rename_i hb
    rw [if_neg hb] at h
    obtain ⟨D, m, F, rfl, h1, h2⟩ := h
    have hb' : ¬ (bad k most ∨ s < 1 ∨ 65535 < s) := hb
    unfold bad at hb'
    exact ⟨D, rfl, ⟨m, F, h1, newD_ok (by omega) (by omega) (by omega), newD_stable _ _ _, fun b hb => h1.all_lt hb⟩, h2⟩
end
end Go.Proofs.Ytidoembkcaojoaa
