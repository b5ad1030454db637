/- Two heaps side by side. -/
import Derived.Test.YtfcoeonabppjiaaD14
namespace Go.Proofs.Ytfcoeonabppjiaa
open Go.RowKit
set_option linter.unusedVariables false
/-- A heap in memory: its variable, its row. -/
def HeapAt (w : World) (H base : Nat) (A : Option Addr) (c : Nat) (l : List Int) : Prop :=
  Bk w H 45 [.slice A l.length c] ∧ w.ownsRow base 3 1 (.slice A l.length c) l.length (nums l) ∧ Hp l
theorem HeapAt.chg {S : Nat → Prop} {w w' : World} {H base c : Nat} {A : Option Addr} {l : List Int} (h : HeapAt w H base A c l) (hc : Chg S w w') (hH : ¬ S H) (hA : ∀ a, A = some a → ¬ S a.block) : HeapAt w' H base A c l :=
  ⟨hc.bk h.1 hH, hc.own h.2.1 hA, h.2.2⟩
theorem HeapAt.ge {w : World} {H base c : Nat} {A : Option Addr} {l : List Int} (h : HeapAt w H base A c l) : ∀ a, A = some a → base ≤ a.block ∧ a.block < w.heap.size := own_ge h.2.1
/-- Two heaps, apart. -/
def Hs (base H1 H2 : Nat) (l1 l2 : List Int) (w : World) : Prop :=
  H1 < base ∧ H2 < base ∧ H1 ≠ H2 ∧ base ≤ w.heap.size ∧ ∃ A1 c1 A2 c2, HeapAt w H1 base A1 c1 l1 ∧ HeapAt w H2 base A2 c2 l2 ∧ ∀ a b, A1 = some a → A2 = some b → a.block ≠ b.block
section
variable {base H1 H2 : Nat} {l1 l2 : List Int} {w w' : World}
theorem Hs.symm (h : Hs base H1 H2 l1 l2 w) : Hs base H2 H1 l2 l1 w := by
  obtain ⟨a, b, c, d, A1, c1, A2, c2, h1, h2, h3⟩ := h
  exact ⟨b, a, Ne.symm c, d, A2, c2, A1, c1, h2, h1, fun x y hx hy => Ne.symm (h3 y x hy hx)⟩
theorem Hs.chg {S : Nat → Prop} (h : Hs base H1 H2 l1 l2 w) (hc : Chg S w w') (h1 : ¬ S H1) (h2 : ¬ S H2) (hS : ∀ k, S k → k < base) : Hs base H1 H2 l1 l2 w' := by
  obtain ⟨a, b, c, d, A1, c1, A2, c2, k1, k2, k3⟩ := h
  exact ⟨a, b, c, Nat.le_trans d hc.size, A1, c1, A2, c2, k1.chg hc h1 (fun x hx hs => by have := hS _ hs; have := (k1.ge x hx).1; omega), k2.chg hc h2 (fun x hx hs => by have := hS _ hs; have := (k2.ge x hx).1; omega), k3⟩
theorem Hs.drewN (h : Hs base H1 H2 l1 l2 w) (q : Nat) : Hs base H1 H2 l1 l2 (w.drewN q) := h
theorem Hs.drew (h : Hs base H1 H2 l1 l2 w) : Hs base H1 H2 l1 l2 w.drew := h
/-- What is read of the first heap. -/
theorem Hs.var (h : Hs base H1 H2 l1 l2 w) : ∃ A c, Bk w H1 45 [.slice A l1.length c] ∧ (0 < l1.length → ∃ g, A = some ⟨g, 0, none⟩ ∧ w.cell? ⟨g, 0, none⟩ = some (.int .i64 (gi l1 0)) ∧ base ≤ g ∧ g < w.heap.size) := by
  obtain ⟨a, b, c, d, A1, c1, A2, c2, k1, k2, k3⟩ := h
  refine ⟨A1, c1, k1.1, fun h0 => ?_⟩
  obtain ⟨g, tl, hA, hb, hbk, _⟩ := bk_of_own k1.2.1 h0
  refine ⟨g, hA, ?_, hb, hbk.lt⟩
  have := hbk.cell 0
  rwa [cell_left h0] at this
theorem Hs.hp (h : Hs base H1 H2 l1 l2 w) : Hp l1 := by
  obtain ⟨a, b, c, d, A1, c1, A2, c2, k1, k2, k3⟩ := h
  exact k1.2.2
theorem Hs.least (h : Hs base H1 H2 l1 l2 w) : ∀ x ∈ l1, gi l1 0 ≤ x := fun x hx => by
  obtain ⟨i, hi, rfl⟩ := mem_gi hx
  exact h.hp.min i hi
theorem Hs.push (h : Hs base H1 H2 l1 l2 w) (x : Int) (hn : l1.length ≤ 1000000) :
    Calls Try.prog 27 #[.pointer (some ⟨H1, 0, none⟩), .int .i64 x] w fun e w' => e = .returned (.tuple #[]) ∧ ∃ l', Hs base H1 H2 l' l2 w' ∧ l'.Perm (x :: l1) ∧ Chg (fun k => k = H1 ∨ base ≤ k) w w' := by
  obtain ⟨a, b, c, d, A1, c1, A2, c2, k1, k2, k3⟩ := h
  refine (push_any x k1.1 k1.2.1 (fun y hy e => by have := (k1.ge y hy).1; omega) k1.2.2 d hn).mono ?_
  rintro e w' ⟨rfl, A', c', l', hv, ho, hA', hc, hp, hperm⟩
  refine ⟨rfl, l', ⟨a, b, c, Nat.le_trans d hc.size, A', c', A2, c2, ⟨hv, ho, hp⟩, k2.chg hc (fun hs => ?_) (fun y hy hs => ?_), fun y z hy hz => ?_⟩, hperm, hc.mono fun k _ hs => ?_⟩
  · rcases hs with e | ⟨y, hy, e⟩
    · exact c e.symm
    · have := (k1.ge y hy).1; omega
  · rcases hs with e | ⟨z, hz, e⟩
    · have := (k2.ge y hy).1; omega
    · exact k3 z y hz hy e
  · rcases hA' y hy with ⟨z', hz', e⟩ | hge
    · rw [e]; exact k3 z' z hz' hz
    · have := (k2.ge z hz).2; omega
  · rcases hs with e | ⟨y, hy, e⟩
    · exact .inl e
    · exact .inr (by have := (k1.ge y hy).1; omega)
theorem Hs.pop (h : Hs base H1 H2 l1 l2 w) (h0 : 0 < l1.length) (hn : l1.length ≤ 1000000) :
    Calls Try.prog 28 #[.pointer (some ⟨H1, 0, none⟩)] w fun e w' => e = .returned (.int .i64 (gi l1 0)) ∧ ∃ l', Hs base H1 H2 l' l2 w' ∧ (gi l1 0 :: l').Perm l1 ∧ Chg (fun k => k = H1 ∨ base ≤ k) w w' ∧
      (∀ A c, Bk w H2 45 [.slice A l2.length c] → w'.cell? ⟨H2, 0, none⟩ = some (.slice A l2.length c) ∧ (∀ g, 0 < l2.length → A = some ⟨g, 0, none⟩ → w'.cell? ⟨g, 0, none⟩ = some (.int .i64 (gi l2 0)))) := by
  obtain ⟨a, b, c, d, A1, c1, A2, c2, k1, k2, k3⟩ := h
  refine (pop_any k1.1 k1.2.1 (fun y hy e => by have := (k1.ge y hy).1; omega) k1.2.2 h0 hn).mono ?_
  rintro e w' ⟨l', rfl, hv, ho, hc, hp, hperm⟩
  have k2' : HeapAt w' H2 base A2 c2 l2 := by
    refine k2.chg hc (fun hs => ?_) (fun y hy hs => ?_)
    · rcases hs with e | ⟨y, hy, e⟩
      · exact c e.symm
      · have := (k1.ge y hy).1; omega
    · rcases hs with e | ⟨z, hz, e⟩
      · have := (k2.ge y hy).1; omega
      · exact k3 z y hz hy e
  refine ⟨rfl, l', ⟨a, b, c, Nat.le_trans d hc.size, A1, c1, A2, c2, ⟨hv, ho, hp⟩, k2', k3⟩, hperm, hc.mono fun k _ hs => ?_, fun A c' hA => ?_⟩
  · rcases hs with e | ⟨y, hy, e⟩
    · exact .inl e
    · exact .inr (by have := (k1.ge y hy).1; omega)
  · have := k2.1.inj hA
    injection this with e1 _
    injection e1 with e1 _ e2
    subst e1 e2
    refine ⟨k2'.1.cell 0, fun g hl2 hg => ?_⟩
    obtain ⟨g2, tl, hA2, _, hbk, _⟩ := bk_of_own k2'.2.1 hl2
    rw [hA2] at hg
    injection hg with hg
    injection hg with hg
    subst hg
    have := hbk.cell 0
    rwa [cell_left hl2] at this
end
end Go.Proofs.Ytfcoeonabppjiaa
