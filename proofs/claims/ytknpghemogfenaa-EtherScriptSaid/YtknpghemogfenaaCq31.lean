/- Chapter 31: the plain law of EtherCounts. -/
import Derived.Test.YtknpghemogfenaaGd31
namespace Go.Proofs.Ytknpghemogfenaa
open Go.Conc Go.RowKit
set_option linter.unusedVariables false
def ES.sum (s : ES) : Int := s.lost + (s.sky.length : Nat) + (s.b0.length : Nat) + (s.b1.length : Nat)
theorem come_sum (s : ES) (d : Int) (x : List UInt8) : (s.come d x).sum = s.sum + 1 := by
  unfold ES.come ES.sum
  split <;> split <;> simp only [List.length_append, List.length_singleton] <;> omega
theorem comeAll_sum : ∀ (l : List (Int × List UInt8)) (s : ES), (s.comeAll l).sum = s.sum + (l.length : Nat)
  | [], s => by simp [ES.comeAll]
  | y :: l, s => by
    show ((s.come y.1 y.2).comeAll l).sum = _
    rw [comeAll_sum l, come_sum, List.length_cons]; omega
theorem tick_sum (s : ES) : s.tick.sum = s.sum + ((s.st (s.now + 1)).length : Nat) := by
  unfold ES.tick
  rw [comeAll_sum, comeAll_sum, List.length_map]
  have h := (s.sky_perm (s.now + 1)).length_eq
  rw [List.length_append] at h
  show s.lost + ((s.ot (s.now + 1)).length : Nat) + (s.b0.length : Nat) + (s.b1.length : Nat) + ((s.st (s.now + 1)).length : Nat) + ((s.ar (s.now + 1)).length : Nat) = s.lost + (s.sky.length : Nat) + (s.b0.length : Nat) + (s.b1.length : Nat) + ((s.st (s.now + 1)).length : Nat)
  omega
theorem send_sum (s : ES) (d : Int) (x : List UInt8) : (s.send d x).sum = s.sum + (if (s.fates.headD FT.zero).twice && !(s.fates.headD FT.zero).lost then 2 else 1) := by
  unfold ES.send
  simp only
  generalize s.fates.headD FT.zero = f
  rcases f with ⟨b1, i2, b3, i4⟩
  cases b1 <;> cases b3 <;> simp [ES.sum, ES.fly] <;> omega
theorem got_sum {s : ES} {d : Int} {x : List UInt8} {r : List (List UInt8)} (h : s.box d = x :: r) : (s.got d).sum = s.sum - 1 := by
  unfold ES.box at h
  unfold ES.got ES.sum
  split at h
  · rename_i hd
    rw [if_pos hd]
    simp only [h, List.tail_cons, List.length_cons]; omega
  · rename_i hd
    rw [if_neg hd]
    simp only [h, List.tail_cons, List.length_cons]; omega
theorem got_same (s : ES) (d : Int) : (s.got d).fates = s.fates ∧ (s.got d).strays = s.strays ∧ (s.got d).now = s.now ∧ (s.got d).number = s.number ∧ (s.got d).sky = s.sky := by
  unfold ES.got; split <;> exact ⟨rfl, rfl, rfl, rfl, rfl⟩
theorem send_same (s : ES) (d : Int) (x : List UInt8) : (s.send d x).fates = s.fates.tail ∧ (s.send d x).strays = s.strays ∧ (s.send d x).now = s.now ∧ (s.send d x).number ≤ s.number + 2 ∧ (s.send d x).lost ≤ s.lost + 1 ∧ (s.send d x).sky.length ≤ s.sky.length + 2 := by
  unfold ES.send
  simp only
  generalize s.fates.headD FT.zero = f
  rcases f with ⟨b1, i2, b3, i4⟩
  cases b1 <;> cases b3 <;> simp [ES.fly] <;> omega
theorem tick_same (s : ES) : s.tick.fates = s.fates ∧ s.tick.strays = s.strays ∧ s.tick.now = s.now + 1 ∧ s.tick.number = s.number ∧ s.tick.sky = s.ot (s.now + 1) := by
  unfold ES.tick
  obtain ⟨a1, a2, a3, a4, a5⟩ := comeAll_same ((s.ar (s.now + 1)).map GR.p) ((({ s with now := s.now + 1, sky := s.ot (s.now + 1) } : ES).comeAll (s.st (s.now + 1))))
  obtain ⟨b1, b2, b3, b4, b5⟩ := comeAll_same (s.st (s.now + 1)) ({ s with now := s.now + 1, sky := s.ot (s.now + 1) } : ES)
  exact ⟨a1.trans b1, a2.trans b2, a3.trans b3, a4.trans b4, a5.trans b5⟩
/-- How many strays' time has come. -/
def cameN (l : List (Int × Int × List UInt8)) (t : Int) : Nat := (l.filter (fun y => decide (y.1 ≤ t))).length
theorem cameN_succ : ∀ (l : List (Int × Int × List UInt8)) (t : Int), cameN l (t + 1) = cameN l t + (l.filter (fun y => y.1 == t + 1)).length
  | [], _ => rfl
  | y :: l, t => by
    have ih := cameN_succ l t
    unfold cameN at ih ⊢
    rcases Int.lt_trichotomy y.1 (t + 1) with h | h | h
    · rw [List.filter_cons_of_pos (by simp; omega), List.filter_cons_of_pos (by simp; omega), List.filter_cons_of_neg (by simp; omega)]
      simp only [List.length_cons]; omega
    · rw [List.filter_cons_of_pos (by simp; omega), List.filter_cons_of_neg (by simp; omega), List.filter_cons_of_pos (by simp; omega)]
      simp only [List.length_cons]; omega
    · rw [List.filter_cons_of_neg (by simp; omega), List.filter_cons_of_neg (by simp; omega), List.filter_cons_of_neg (by simp; omega)]
      exact ih
theorem cameN_zero {l : List (Int × Int × List UInt8)} (h : ∀ y ∈ l, 1 ≤ y.1) : cameN l 0 = 0 := by
  unfold cameN
  rw [List.length_eq_zero_iff, List.filter_eq_nil_iff]
  intro y hy
  have := h y hy
  simp; omega
/-- What EtherCounts keeps. -/
structure CI (fl : List FT) (st : List (Int × Int × List UInt8)) (s : ES) (sent got : Int) (many i : Nat) : Prop where
  f : s.fates = fl.drop many
  y : s.strays = st
  eq : sent + (cameN st s.now : Nat) = s.sum + got
  fly : ∀ g ∈ s.sky, g.a ≤ s.now + 12
  late : ∀ f ∈ fl, f.late ≤ 11 ∧ f.again ≤ 11
  now : 0 ≤ s.now ∧ s.now ≤ i
  num : s.number ≤ 2 * i
  sky : s.sky.length ≤ 2 * i
  cnt : 0 ≤ sent ∧ sent ≤ 2 * i ∧ 0 ≤ got ∧ got ≤ i ∧ many ≤ i
section
variable {fl : List FT} {st : List (Int × Int × List UInt8)} {s : ES} {sent gt : Int} {many i : Nat}
theorem CI.new {sl : List SY} (hl : ∀ f ∈ fl, f.late ≤ 11 ∧ f.again ≤ 11) (hs : ∀ y ∈ sl, 1 ≤ y.at_) : CI fl (sl.map SY.t) (ES.new fl sl) 0 0 0 0 where
  f := rfl
  y := rfl
  eq := by
    rw [show (ES.new fl sl).now = 0 from rfl, cameN_zero (fun y hy => by obtain ⟨z, hz, rfl⟩ := List.mem_map.1 hy; exact hs z hz)]
    rfl
  fly := fun g hg => by cases hg
  late := hl
  now := ⟨Int.le_refl _, Int.le_refl _⟩
  num := Int.le_refl _
  sky := Nat.le_refl _
  cnt := ⟨Int.le_refl _, Int.le_refl _, Int.le_refl _, Int.le_refl _, Nat.le_refl _⟩
theorem CI.next (h : CI fl st s sent gt many i) : CI fl st s sent gt many (i + 1) :=
  { h with now := by have := h.now; omega, num := by have := h.num; omega, sky := by have := h.sky; omega, cnt := by have := h.cnt; omega }
theorem headD_drop (fl : List FT) (many : Nat) : (fl.drop many).headD FT.zero = if h : many < fl.length then fl[many] else FT.zero := by
  split
  · rename_i h; rw [List.drop_eq_getElem_cons h]; rfl
  · rename_i h; rw [List.drop_of_length_le (by omega)]; rfl
/-- How much a send counts. -/
def sentN (fl : List FT) (many : Nat) : Int := if h : many < fl.length then (if fl[many].twice && !fl[many].lost then 2 else 1) else 1
theorem CI.send (h : CI fl st s sent gt many i) (d : Int) (x : List UInt8) : CI fl st (s.send d x) (sent + sentN fl many) gt (many + 1) (i + 1) := by
  obtain ⟨z1, z2, z3, z4, z5, z6⟩ := send_same s d x
  have hs := send_sum s d x
  have hn : (if (s.fates.headD FT.zero).twice && !(s.fates.headD FT.zero).lost then 2 else 1 : Int) = sentN fl many := by
    rw [h.f, headD_drop]
    unfold sentN
    split
    · rfl
    · rfl
  rw [hn] at hs
  have hb : 1 ≤ sentN fl many ∧ sentN fl many ≤ 2 := by
    unfold sentN
    split
    · split <;> omega
    · omega
  have hc := h.cnt
  refine { f := ?_, y := z2.trans h.y, eq := ?_, fly := fun g hg => ?_, late := h.late, now := ?_, num := ?_, sky := ?_, cnt := by omega }
  · rw [z1, h.f, List.tail_drop]
  · have := h.eq; rw [z3, hs]; omega
  · rw [z3]
    have hhd : (s.fates.headD FT.zero).late ≤ 11 ∧ (s.fates.headD FT.zero).again ≤ 11 := by
      rw [h.f, headD_drop]
      split
      · exact h.late _ (List.getElem_mem _)
      · exact ⟨by decide, by decide⟩
    revert hg
    unfold ES.send
    simp only
    revert hhd
    generalize s.fates.headD FT.zero = f
    intro hhd
    have hf := h.fly
    split
    · intro hg; exact hf g hg
    · split
      · intro hg
        rcases List.mem_append.1 hg with hg | hg
        · rcases List.mem_append.1 hg with hg | hg
          · exact hf g hg
          · rw [List.mem_singleton.1 hg]; show s.now + 1 + f.late ≤ _; omega
        · rw [List.mem_singleton.1 hg]; show s.now + 1 + f.again ≤ _; omega
      · intro hg
        rcases List.mem_append.1 hg with hg | hg
        · exact hf g hg
        · rw [List.mem_singleton.1 hg]; show s.now + 1 + f.late ≤ _; omega
  · have := h.now; rw [z3]; omega
  · have := h.num; omega
  · have := h.sky; omega
theorem CI.got {d : Int} (h : CI fl st s sent gt many i) {x : List UInt8} {r : List (List UInt8)} (hb : s.box d = x :: r) : CI fl st (s.got d) sent (gt + 1) many (i + 1) := by
  obtain ⟨z1, z2, z3, z4, z5⟩ := got_same s d
  have hs := got_sum hb
  have hc := h.cnt
  have hn := h.now
  exact { f := z1.trans h.f, y := z2.trans h.y, eq := by (have := h.eq; rw [z3, hs]; omega), fly := fun g hg => by (rw [z5] at hg; rw [z3]; exact h.fly g hg), late := h.late, now := by (rw [z3]; omega), num := by (have := h.num; rw [z4]; omega), sky := by (have := h.sky; rw [z5]; omega), cnt := by omega }
theorem ticks_fly (h : ∀ g ∈ s.sky, g.a ≤ s.now + 12) : ∀ g ∈ s.tick.sky, g.a ≤ s.tick.now + 12 := fun g hg => by
  obtain ⟨z1, z2, z3, z4, z5⟩ := tick_same s
  rw [z5] at hg
  have := h g (ES.ot_mem hg).2
  rw [z3]; omega
theorem CI.tick (h : CI fl st s sent gt many i) (hok : s.ok) (hst : st.length ≤ 20) : CI fl st s.tick sent gt many (i + 1) := by
  obtain ⟨z1, z2, z3, z4, z5⟩ := tick_same s
  have hs := tick_sum s
  have hc := h.cnt
  have hn := h.now
  have hl : (s.st (s.now + 1)).length = (st.filter (fun y => y.1 == s.now + 1)).length := by unfold ES.st; rw [List.length_map, h.y]
  have hcm := cameN_succ st s.now
  have hot : (s.ot (s.now + 1)).length ≤ s.sky.length := by unfold ES.ot; exact List.length_filter_le _ _
  exact { f := z1.trans h.f, y := z2.trans h.y, eq := by (have := h.eq; rw [z3, hs, hcm, hl]; omega), fly := ticks_fly h.fly, late := h.late, now := by (rw [z3]; omega), num := by (have := h.num; rw [z4]; omega), sky := by (have := h.sky; rw [z5]; omega), cnt := by omega }
theorem CI.lost (h : CI fl st s sent gt many i) (hst : st.length ≤ 20) : s.lost ≤ 2 * i + 20 := by
  have h1 := h.eq
  have h2 := h.cnt
  have h3 : cameN st s.now ≤ st.length := by unfold cameN; exact List.length_filter_le _ _
  unfold ES.sum at h1
  omega
/-- The last ticks. -/
structure CE (s : ES) (T : Int) (k : Nat) : Prop where
  fly : ∀ g ∈ s.sky, g.a ≤ T + 12
  now : s.now = T + k
theorem CE.tick {T : Int} {k : Nat} (h : CE s T k) : CE s.tick T (k + 1) := by
  obtain ⟨z1, z2, z3, z4, z5⟩ := tick_same s
  refine ⟨fun g hg => ?_, by have := h.now; rw [z3]; omega⟩
  rw [z5] at hg
  exact h.fly g (ES.ot_mem hg).2
theorem CE.done {T : Int} (h : CE s T 13) (hok : s.ok) : s.sky.length = 0 := by
  rw [List.length_eq_zero_iff]
  cases hsk : s.sky with
  | nil => rfl
  | cons g r =>
    have hg : g ∈ s.sky := by rw [hsk]; exact List.mem_cons_self ..
    have := h.fly g hg
    have := (hok.sky g hg).1
    have := h.now
    omega
end
end Go.Proofs.Ytknpghemogfenaa
