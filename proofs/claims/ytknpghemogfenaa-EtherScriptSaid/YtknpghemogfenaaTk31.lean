/- Chapter 31: a tick, plain; what a pop leaves. -/
import Derived.Test.YtknpghemogfenaaSf31
namespace Go.Proofs.Ytknpghemogfenaa
open Go.Conc Go.RowKit
set_option linter.unusedVariables false
def ES.comeAll (s : ES) (l : List (Int × List UInt8)) : ES := l.foldl (fun s y => s.come y.1 y.2) s
theorem ES.comeAll_append (s : ES) (l l' : List (Int × List UInt8)) : s.comeAll (l ++ l') = (s.comeAll l).comeAll l' := by simp [ES.comeAll, List.foldl_append]
/-- Which strays, which of the sky come at a time. -/
def ES.st (s : ES) (t : Int) : List (Int × List UInt8) := (s.strays.filter (fun y => y.1 == t)).map (fun y => (y.2.1, y.2.2))
def ES.ar (s : ES) (t : Int) : List GR := s.sky.filter (fun g => g.a == t)
def ES.ot (s : ES) (t : Int) : List GR := s.sky.filter (fun g => !(g.a == t))
def GR.p (g : GR) : Int × List UInt8 := (g.d, g.x)
def ES.tick (s : ES) : ES :=
  (({ s with now := s.now + 1, sky := s.ot (s.now + 1) } : ES).comeAll (s.st (s.now + 1))).comeAll ((s.ar (s.now + 1)).map GR.p)
def ES.tickN (s : ES) : Nat := (s.st (s.now + 1)).length + (s.ar (s.now + 1)).length
theorem come_same (s : ES) (d : Int) (x : List UInt8) : (s.come d x).fates = s.fates ∧ (s.come d x).strays = s.strays ∧ (s.come d x).now = s.now ∧ (s.come d x).number = s.number ∧ (s.come d x).sky = s.sky := by
  unfold ES.come
  split <;> split <;> exact ⟨rfl, rfl, rfl, rfl, rfl⟩
theorem come_lost (s : ES) (d : Int) (x : List UInt8) : s.lost ≤ (s.come d x).lost ∧ (s.come d x).lost ≤ s.lost + 1 := by
  unfold ES.come
  split <;> split <;> first | exact ⟨Int.le_refl _, by show s.lost ≤ s.lost + 1; omega⟩ | exact ⟨by show s.lost ≤ s.lost + 1; omega, Int.le_refl _⟩
theorem comeAll_same : ∀ (l : List (Int × List UInt8)) (s : ES), (s.comeAll l).fates = s.fates ∧ (s.comeAll l).strays = s.strays ∧ (s.comeAll l).now = s.now ∧ (s.comeAll l).number = s.number ∧ (s.comeAll l).sky = s.sky
  | [], s => ⟨rfl, rfl, rfl, rfl, rfl⟩
  | y :: l, s => by
    have h1 := comeAll_same l (s.come y.1 y.2)
    have h2 := come_same s y.1 y.2
    exact ⟨h1.1.trans h2.1, h1.2.1.trans h2.2.1, h1.2.2.1.trans h2.2.2.1, h1.2.2.2.1.trans h2.2.2.2.1, h1.2.2.2.2.trans h2.2.2.2.2⟩
theorem comeAll_lost : ∀ (l : List (Int × List UInt8)) (s : ES), s.lost ≤ (s.comeAll l).lost ∧ (s.comeAll l).lost ≤ s.lost + l.length
  | [], s => ⟨Int.le_refl _, by simp [ES.comeAll]⟩
  | y :: l, s => by
    have h1 := comeAll_lost l (s.come y.1 y.2)
    have h2 := come_lost s y.1 y.2
    have e : s.comeAll (y :: l) = (s.come y.1 y.2).comeAll l := rfl
    rw [e, List.length_cons]
    omega
theorem come_withsky (s : ES) (k : List GR) (d : Int) (x : List UInt8) : ({ s with sky := k } : ES).come d x = { s.come d x with sky := k } := by
  unfold ES.come
  split <;> split <;> rfl
theorem comeAll_withsky : ∀ (l : List (Int × List UInt8)) (s : ES) (k : List GR), ({ s with sky := k } : ES).comeAll l = { s.comeAll l with sky := k }
  | [], s, k => rfl
  | y :: l, s, k => by
    show (({ s with sky := k } : ES).come y.1 y.2).comeAll l = _
    rw [come_withsky, comeAll_withsky l]
    rfl
theorem filter_perm (p : GR → Bool) : ∀ l : List GR, (l.filter p ++ l.filter (fun g => !(p g))).Perm l
  | [] => List.Perm.refl _
  | g :: l => by
    have ih := filter_perm p l
    cases h : p g with
    | true =>
      rw [List.filter_cons_of_pos h, List.filter_cons_of_neg (by simp [h])]
      exact List.Perm.cons g ih
    | false =>
      rw [List.filter_cons_of_neg (by simp [h]), List.filter_cons_of_pos (by simp [h])]
      exact List.perm_middle.trans (List.Perm.cons g ih)
theorem ES.sky_perm (s : ES) (t : Int) : (s.ar t ++ s.ot t).Perm s.sky := filter_perm _ s.sky
theorem ES.ar_mem {s : ES} {t : Int} {g : GR} (h : g ∈ s.ar t) : g.a = t ∧ g ∈ s.sky := by
  have := List.mem_filter.1 h
  exact ⟨by simpa using this.2, this.1⟩
theorem ES.ot_mem {s : ES} {t : Int} {g : GR} (h : g ∈ s.ot t) : g.a ≠ t ∧ g ∈ s.sky := by
  have := List.mem_filter.1 h
  exact ⟨by simpa using this.2, this.1⟩
theorem ES.ok.tick {s : ES} (h : s.ok) : s.tick.ok := by
  have h0 : ({ s with now := s.now + 1, sky := s.ot (s.now + 1) } : ES).ok := by
    refine { h with now := ?_, sky := fun g hg => ?_, ord := ?_ }
    · show 0 ≤ s.now + 1; have := h.now; omega
    · have hm := ES.ot_mem hg
      have := h.sky g hm.2
      refine ⟨?_, this.2⟩
      show s.now + 1 < g.a
      have := this.1
      have := hm.1
      omega
    · exact h.ord.filter _
  have key : ∀ (l : List (Int × List UInt8)) (s : ES), s.ok → (s.comeAll l).ok := by
    intro l
    induction l with
    | nil => exact fun s h => h
    | cons y l ih => exact fun s h => ih _ (h.come _ _)
  exact key _ _ (key _ _ h0)
theorem ar_sorted {s : ES} (h : s.ok) (t : Int) : (s.ar t).Pairwise (fun g h => g.b < h.b) := h.ord.filter _
/-- Of those that are to come the first one is the least. -/
theorem first_comes {q r : List GR} {t : Int} {g : GR} (hs : q.Pairwise (fun g h => g.b < h.b)) (hq : ∀ h ∈ q, h.a = t) (hr : ∀ h ∈ r, t < h.a) (hg : g ∈ q ++ r) (ht : g.a ≤ t) (hm : ∀ h ∈ q ++ r, g.a < h.a ∨ (g.a = h.a ∧ g.b ≤ h.b)) : ∃ q', q = g :: q' := by
  have hgq : g ∈ q := by
    rcases List.mem_append.1 hg with e | e
    · exact e
    · have := hr g e; omega
  cases q with
  | nil => cases hgq
  | cons h q' =>
    rcases List.mem_cons.1 hgq with e | e
    · exact ⟨q', by rw [e]⟩
    · have h1 := (List.pairwise_cons.1 hs).1 g e
      have h2 := hm h (List.mem_append_left _ (List.mem_cons_self ..))
      have h3 := hq g hgq
      have h4 := hq h (List.mem_cons_self ..)
      omega
theorem none_comes {q r : List GR} {t : Int} {g : GR} (hq : ∀ h ∈ q, h.a = t) (hg : g ∈ q ++ r) (ht : t < g.a) (hm : ∀ h ∈ q ++ r, g.a < h.a ∨ (g.a = h.a ∧ g.b ≤ h.b)) : q = [] := by
  cases q with
  | nil => rfl
  | cons h q' =>
    have h2 := hm h (List.mem_append_left _ (List.mem_cons_self ..))
    have h4 := hq h (List.mem_cons_self ..)
    omega
theorem key_lex {e f : HE} (he : e.fit) (hf : f.fit) (h : e.key ≤ f.key) : e.a < f.a ∨ (e.a = f.a ∧ e.b ≤ f.b) := by
  have h1 := he.1; have h2 := he.2; have h3 := hf.1; have h4 := hf.2
  unfold HE.key at h
  omega
theorem emcome_same (m : EM) (d : Nat) (b : BX) : (m.come d b).FA = m.FA ∧ (m.come d b).fc = m.fc ∧ (m.come d b).fates = m.fates ∧ (m.come d b).SA = m.SA ∧ (m.come d b).sc = m.sc ∧ (m.come d b).strays = m.strays ∧ (m.come d b).now = m.now ∧ (m.come d b).number = m.number ∧ (m.come d b).v = m.v ∧ (m.come d b).l = m.l ∧ (m.come d b).pay = m.pay := by
  unfold EM.come
  split <;> split <;> exact ⟨rfl, rfl, rfl, rfl, rfl, rfl, rfl, rfl, rfl, rfl, rfl⟩
theorem Ab.come {m : EM} {s : ES} (h : Ab m s) {d : Nat} {b : BX} (hd : d < 2) : Ab (m.come d b) (s.come d b.x) := by
  have l0 : m.b0.length = s.b0.length := by rw [← h.b0]; simp
  have l1 : m.b1.length = s.b1.length := by rw [← h.b1]; simp
  unfold EM.come ES.come
  rcases (show d = 0 ∨ d = 1 by omega) with rfl | rfl
  · rw [if_pos rfl, if_pos (show ((0 : Nat) : Int) = 0 from rfl), l0]
    split
    · exact { h with b0 := by show (m.b0 ++ [b]).map BX.x = s.b0 ++ [b.x]; rw [List.map_append, h.b0]; rfl }
    · exact { h with lost := by show m.lost + 1 = s.lost + 1; rw [h.lost] }
  · rw [if_neg (show ¬ (1 = 0) by decide), if_neg (show ¬ (((1 : Nat) : Int) = 0) by decide), l1]
    split
    · exact { h with b1 := by show (m.b1 ++ [b]).map BX.x = s.b1 ++ [b.x]; rw [List.map_append, h.b1]; rfl }
    · exact { h with lost := by show m.lost + 1 = s.lost + 1; rw [h.lost] }
end Go.Proofs.Ytknpghemogfenaa
