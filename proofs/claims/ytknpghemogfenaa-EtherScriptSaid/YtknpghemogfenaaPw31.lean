/- Chapter 31: the plain law of EtherPlain. -/
import Derived.Test.YtknpghemogfenaaLf31
namespace Go.Proofs.Ytknpghemogfenaa
open Go.Conc Go.RowKit
set_option linter.unusedVariables false
def selD (ps : List (Int × List UInt8)) (k : Int) : List (List UInt8) := (ps.filter (fun p => p.1 == k)).map (·.2)
theorem selD_append (ps qs : List (Int × List UInt8)) (k : Int) : selD (ps ++ qs) k = selD ps k ++ selD qs k := by simp [selD]
theorem selD_len : ∀ (ps : List (Int × List UInt8)), (∀ p ∈ ps, p.1 = 0 ∨ p.1 = 1) → (selD ps 0).length + (selD ps 1).length = ps.length
  | [], _ => rfl
  | p :: ps, h => by
    have ih := selD_len ps fun q hq => h q (List.mem_cons_of_mem _ hq)
    have e : ∀ k, selD (p :: ps) k = selD [p] k ++ selD ps k := fun k => selD_append [p] ps k
    rw [e, e, List.length_append, List.length_append, List.length_cons]
    have : (selD [p] 0).length + (selD [p] 1).length = 1 := by
      obtain ⟨a, x⟩ := p
      rcases h (a, x) (List.mem_cons_self ..) with h0 | h0
      · have : a = 0 := h0
        subst this; rfl
      · have : a = 1 := h0
        subst this; rfl
    omega
/-- Behind the sends of a batch. -/
structure PS (s : ES) (ps : List (Int × List UInt8)) (i : Nat) : Prop where
  f : s.fates = []
  y : s.strays = []
  lost : s.lost = 0
  b0 : s.b0 = []
  b1 : s.b1 = []
  sky : s.sky.map GR.p = ps
  at_ : ∀ g ∈ s.sky, g.a = s.now + 1
  d : ∀ p ∈ ps, p.1 = 0 ∨ p.1 = 1
  now : s.now ≤ i
  num : s.number ≤ i
theorem PS.new : PS (ES.new [] []) [] 0 := ⟨rfl, rfl, rfl, rfl, rfl, rfl, fun g hg => (by cases hg), fun p hp => (by cases hp), Int.le_refl _, Int.le_refl _⟩
theorem PS.next {s : ES} {ps : List (Int × List UInt8)} {i : Nat} (h : PS s ps i) : PS s ps (i + 1) := { h with now := by have := h.now; omega, num := by have := h.num; omega }
theorem PS.send {s : ES} {ps : List (Int × List UInt8)} {i : Nat} (h : PS s ps i) {d : Int} (hd : d = 0 ∨ d = 1) (x : List UInt8) : PS (s.send d x) (ps ++ [(d, x)]) (i + 1) := by
  have e : s.send d x = ({ s with fates := [] } : ES).fly d 0 x := by
    unfold ES.send
    rw [h.f]
    rfl
  rw [e]
  have hnw := h.now
  have hnu := h.num
  refine { f := rfl, y := h.y, lost := h.lost, b0 := h.b0, b1 := h.b1, sky := ?_, at_ := fun g hg => ?_, d := fun p hp => ?_, now := by show s.now ≤ ((i + 1 : Nat) : Int); omega, num := by show s.number + 1 ≤ ((i + 1 : Nat) : Int); omega }
  · show (s.sky ++ [_]).map GR.p = _
    rw [List.map_append, h.sky]; rfl
  · rcases List.mem_append.1 hg with hg | hg
    · exact h.at_ g hg
    · rw [List.mem_singleton.1 hg]; show s.now + 1 + 0 = s.now + 1; omega
  · rcases List.mem_append.1 hp with hp | hp
    · exact h.d p hp
    · rw [List.mem_singleton.1 hp]; exact hd
theorem PS.skyn {s : ES} {ps : List (Int × List UInt8)} {i : Nat} (h : PS s ps i) : s.sky.length = ps.length := by rw [← h.sky, List.length_map]
/-- Behind a tick: what waits. -/
structure QS (s : ES) (x0 x1 : List (List UInt8)) (i : Nat) : Prop where
  f : s.fates = []
  y : s.strays = []
  lost : s.lost = 0
  b0 : s.b0 = x0
  b1 : s.b1 = x1
  sky : s.sky = []
  now : s.now ≤ i
  num : s.number ≤ i
theorem comeAll_fits : ∀ (ps : List (Int × List UInt8)) (s : ES), (∀ p ∈ ps, p.1 = 0 ∨ p.1 = 1) → s.b0.length + s.b1.length + ps.length ≤ 1000 → (s.comeAll ps).b0 = s.b0 ++ selD ps 0 ∧ (s.comeAll ps).b1 = s.b1 ++ selD ps 1 ∧ (s.comeAll ps).lost = s.lost
  | [], s, _, _ => by simp [ES.comeAll, selD]
  | (a, x) :: ps, s, hd, hl => by
    simp only [List.length_cons] at hl
    have hdd := fun q hq => hd q (List.mem_cons_of_mem _ hq)
    have e : ∀ k, selD ((a, x) :: ps) k = selD [(a, x)] k ++ selD ps k := fun k => selD_append [(a, x)] ps k
    rw [e, e]
    show ((s.come a x).comeAll ps).b0 = _ ∧ ((s.come a x).comeAll ps).b1 = _ ∧ ((s.come a x).comeAll ps).lost = _
    rcases hd (a, x) (List.mem_cons_self ..) with h0 | h0
    · have h0 : a = 0 := h0
      subst h0
      have ec : s.come 0 x = { s with b0 := s.b0 ++ [x] } := by unfold ES.come; rw [if_pos rfl, if_pos (by omega)]
      obtain ⟨i1, i2, i3⟩ := comeAll_fits ps (s.come 0 x) hdd (by rw [ec]; simp only [List.length_append, List.length_singleton]; omega)
      rw [ec] at i1 i2 i3
      rw [ec]
      refine ⟨by rw [i1]; simp [selD], by rw [i2]; simp [selD], i3⟩
    · have h0 : a = 1 := h0
      subst h0
      have ec : s.come 1 x = { s with b1 := s.b1 ++ [x] } := by unfold ES.come; rw [if_neg (by decide), if_pos (by omega)]
      obtain ⟨i1, i2, i3⟩ := comeAll_fits ps (s.come 1 x) hdd (by rw [ec]; simp only [List.length_append, List.length_singleton]; omega)
      rw [ec] at i1 i2 i3
      rw [ec]
      refine ⟨by rw [i1]; simp [selD], by rw [i2]; simp [selD], i3⟩
theorem PS.ar {s : ES} {ps : List (Int × List UInt8)} {i : Nat} (h : PS s ps i) : s.ar (s.now + 1) = s.sky ∧ s.ot (s.now + 1) = [] ∧ s.st (s.now + 1) = [] := by
  refine ⟨?_, ?_, ?_⟩
  · unfold ES.ar; exact List.filter_eq_self.2 fun g hg => by simp [h.at_ g hg]
  · unfold ES.ot; exact List.filter_eq_nil_iff.2 fun g hg => by simp [h.at_ g hg]
  · unfold ES.st; rw [h.y]; rfl
theorem PS.tickN {s : ES} {ps : List (Int × List UInt8)} {i : Nat} (h : PS s ps i) : s.tickN = ps.length := by
  unfold ES.tickN
  rw [h.ar.1, h.ar.2.2, h.skyn]; simp
theorem PS.tick {s : ES} {ps : List (Int × List UInt8)} {i : Nat} (h : PS s ps i) (hl : ps.length ≤ 1000) : QS s.tick (selD ps 0) (selD ps 1) (i + 1) := by
  have e : s.tick = ({ s with now := s.now + 1, sky := [] } : ES).comeAll ps := by
    unfold ES.tick
    rw [h.ar.1, h.ar.2.1, h.ar.2.2, h.sky]
    rfl
  rw [e]
  obtain ⟨c1, c2, c3⟩ := comeAll_fits ps ({ s with now := s.now + 1, sky := [] } : ES) h.d (by show s.b0.length + s.b1.length + _ ≤ _; rw [h.b0, h.b1]; simpa using hl)
  obtain ⟨z1, z2, z3, z4, z5⟩ := comeAll_same ps ({ s with now := s.now + 1, sky := [] } : ES)
  have hnw := h.now
  have hnu := h.num
  exact { f := z1.trans h.f, y := z2.trans h.y, lost := c3.trans h.lost, b0 := by rw [c1]; show s.b0 ++ _ = _; rw [h.b0]; rfl, b1 := by rw [c2]; show s.b1 ++ _ = _; rw [h.b1]; rfl, sky := z5, now := by rw [z3]; show s.now + 1 ≤ ((i + 1 : Nat) : Int); omega, num := by rw [z4]; show s.number ≤ ((i + 1 : Nat) : Int); omega }
theorem QS.got0 {s : ES} {x : List UInt8} {x0 x1 : List (List UInt8)} {i : Nat} (h : QS s (x :: x0) x1 i) : QS (s.got 0) x0 x1 i := by
  have e : s.got 0 = { s with b0 := s.b0.tail } := by unfold ES.got; rw [if_pos rfl]
  rw [e]
  exact { h with b0 := by show s.b0.tail = x0; rw [h.b0]; rfl }
theorem QS.got1 {s : ES} {x : List UInt8} {x0 x1 : List (List UInt8)} {i : Nat} (h : QS s x0 (x :: x1) i) : QS (s.got 1) x0 x1 i := by
  have e : s.got 1 = { s with b1 := s.b1.tail } := by unfold ES.got; rw [if_neg (by decide)]
  rw [e]
  exact { h with b1 := by show s.b1.tail = x1; rw [h.b1]; rfl }
theorem QS.done {s : ES} {i : Nat} (h : QS s [] [] i) : PS s [] i := ⟨h.f, h.y, h.lost, h.b0, h.b1, by rw [h.sky]; rfl, fun g hg => (by rw [h.sky] at hg; cases hg), fun p hp => (by cases hp), h.now, h.num⟩
end Go.Proofs.Ytknpghemogfenaa
