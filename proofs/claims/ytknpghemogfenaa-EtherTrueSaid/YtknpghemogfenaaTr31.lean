/- Chapter 31: the plain law of EtherTrue: what may yet be got. -/
import Derived.Test.YtknpghemogfenaaCx31
namespace Go.Proofs.Ytknpghemogfenaa
open Go.Conc Go.RowKit
set_option linter.unusedVariables false
theorem countP_part {α : Type} (q b : α → Bool) : ∀ l : List α, l.countP (fun g => q g && b g) + l.countP (fun g => q g && !b g) = l.countP q
  | [] => rfl
  | g :: l => by
    have ih := countP_part q b l
    rw [List.countP_cons, List.countP_cons, List.countP_cons]
    cases h1 : q g <;> cases h2 : b g <;> simp <;> omega
def mat (k : Int) (x : List UInt8) (p : Int × List UInt8) : Bool := p.1 == k && p.2 == x
def cntG (l : List GR) (k : Int) (x : List UInt8) : Nat := l.countP (fun g => mat k x g.p)
def cntS (l : List (Int × Int × List UInt8)) (t k : Int) (x : List UInt8) : Nat := l.countP (fun y => mat k x y.2 && decide (t < y.1))
def ES.cnt (s : ES) (k : Int) (x : List UInt8) : Nat := (s.box k).count x + cntG s.sky k x + cntS s.strays s.now k x
theorem come_cnt {s : ES} {d k : Int} (hd : d = 0 ∨ d = 1) (hk : k = 0 ∨ k = 1) (x' x : List UInt8) : (s.come d x').cnt k x ≤ s.cnt k x + (if mat k x (d, x') then 1 else 0) := by
  have e : mat k x (d, x') = (d == k && x' == x) := rfl
  rw [e]
  unfold ES.come ES.cnt ES.box
  rcases hd with rfl | rfl <;> rcases hk with rfl | rfl <;> simp <;> split <;> simp [List.count_append, List.count_singleton] <;> (try split) <;> (try omega)
  all_goals (split <;> omega)
theorem comeAll_cnt {k : Int} (hk : k = 0 ∨ k = 1) (x : List UInt8) : ∀ (l : List (Int × List UInt8)) (s : ES), (∀ p ∈ l, p.1 = 0 ∨ p.1 = 1) → (s.comeAll l).cnt k x ≤ s.cnt k x + l.countP (mat k x)
  | [], s, _ => by simp [ES.comeAll]
  | p :: l, s, h => by
    have h1 := come_cnt (s := s) (h p (List.mem_cons_self ..)) hk p.2 x
    have h2 := comeAll_cnt hk x l (s.come p.1 p.2) fun q hq => h q (List.mem_cons_of_mem _ hq)
    show ((s.come p.1 p.2).comeAll l).cnt k x ≤ _
    rw [List.countP_cons]
    have e : mat k x (p.1, p.2) = mat k x p := rfl
    rw [e] at h1
    omega
theorem cntS_succ (k : Int) (x : List UInt8) (t : Int) : ∀ l : List (Int × Int × List UInt8), cntS l (t + 1) k x + l.countP (fun y => mat k x y.2 && (y.1 == t + 1)) = cntS l t k x
  | [] => rfl
  | y :: l => by
    have ih := cntS_succ k x t l
    unfold cntS at ih ⊢
    rw [List.countP_cons, List.countP_cons, List.countP_cons]
    rcases Int.lt_trichotomy y.1 (t + 1) with h | h | h
    · have h1 : decide (t + 1 < y.1) = false := decide_eq_false (by omega)
      have h2 : (y.1 == t + 1) = false := by simp; omega
      have h3 : decide (t < y.1) = false := decide_eq_false (by omega)
      rw [h1, h2, h3, Bool.and_false]; simp only [Bool.false_eq_true, if_false]; omega
    · have h1 : decide (t + 1 < y.1) = false := decide_eq_false (by omega)
      have h2 : (y.1 == t + 1) = true := by simp; omega
      have h3 : decide (t < y.1) = true := decide_eq_true (by omega)
      rw [h1, h2, h3, Bool.and_false, Bool.and_true]; simp; omega
    · have h1 : decide (t + 1 < y.1) = true := decide_eq_true (by omega)
      have h2 : (y.1 == t + 1) = false := by simp; omega
      have h3 : decide (t < y.1) = true := decide_eq_true (by omega)
      rw [h1, h2, h3, Bool.and_false, Bool.and_true]; simp; omega
theorem tick_cnt {s : ES} (hok : s.ok) {k : Int} (hk : k = 0 ∨ k = 1) (x : List UInt8) : s.tick.cnt k x ≤ s.cnt k x := by
  have hst : ∀ p ∈ s.st (s.now + 1), p.1 = 0 ∨ p.1 = 1 := fun p hp => by
    obtain ⟨y, hy, rfl⟩ := List.mem_map.1 hp
    exact (hok.st y (List.mem_filter.1 hy).1).2
  have har : ∀ p ∈ (s.ar (s.now + 1)).map GR.p, p.1 = 0 ∨ p.1 = 1 := fun p hp => by
    obtain ⟨g, hg, rfl⟩ := List.mem_map.1 hp
    exact (hok.sky g (ES.ar_mem hg).2).2.2.2
  have h1 := comeAll_cnt hk x (s.st (s.now + 1)) ({ s with now := s.now + 1, sky := s.ot (s.now + 1) } : ES) hst
  have h2 := comeAll_cnt hk x ((s.ar (s.now + 1)).map GR.p) (({ s with now := s.now + 1, sky := s.ot (s.now + 1) } : ES).comeAll (s.st (s.now + 1))) har
  have e1 : (s.st (s.now + 1)).countP (mat k x) = s.strays.countP (fun y => mat k x y.2 && (y.1 == s.now + 1)) := by
    unfold ES.st
    rw [List.countP_map, List.countP_filter]
    rfl
  have e2 : ((s.ar (s.now + 1)).map GR.p).countP (mat k x) = s.sky.countP (fun g => mat k x g.p && (g.a == s.now + 1)) := by
    unfold ES.ar
    rw [List.countP_map, List.countP_filter]
    rfl
  have e3 : cntG (s.ot (s.now + 1)) k x = s.sky.countP (fun g => mat k x g.p && !(g.a == s.now + 1)) := by
    unfold ES.ot cntG
    rw [List.countP_filter]
  have e4 := countP_part (fun g : GR => mat k x g.p) (fun g => g.a == s.now + 1) s.sky
  have e5 := cntS_succ k x s.now s.strays
  have e6 : ({ s with now := s.now + 1, sky := s.ot (s.now + 1) } : ES).cnt k x = (s.box k).count x + cntG (s.ot (s.now + 1)) k x + cntS s.strays (s.now + 1) k x := rfl
  have e7 : s.cnt k x = (s.box k).count x + s.sky.countP (fun g => mat k x g.p) + cntS s.strays s.now k x := rfl
  unfold ES.tick
  omega
theorem fly_cnt (s : ES) (d wait : Int) (x' : List UInt8) {k : Int} (x : List UInt8) : (s.fly d wait x').cnt k x = s.cnt k x + (if mat k x (d, x') then 1 else 0) := by
  show (s.box k).count x + cntG (s.sky ++ [⟨s.now + 1 + wait, s.number, d, x'⟩]) k x + cntS s.strays s.now k x = (s.box k).count x + cntG s.sky k x + cntS s.strays s.now k x + _
  unfold cntG
  rw [List.countP_append, List.countP_singleton]
  show _ + (_ + if mat k x (d, x') then 1 else 0) + _ = _
  omega
theorem send_cnt (s : ES) (d : Int) (x' : List UInt8) {k : Int} (x : List UInt8) : (s.send d x').cnt k x ≤ s.cnt k x + (if mat k x (d, x') then 2 else 0) := by
  have e0 : ({ s with fates := s.fates.tail } : ES).cnt k x = s.cnt k x := rfl
  unfold ES.send
  simp only
  split
  · show s.cnt k x ≤ _; omega
  · split
    · rw [fly_cnt, fly_cnt, e0]; split <;> omega
    · rw [fly_cnt, e0]; split <;> omega
theorem got_cnt {s : ES} {d k : Int} (hd : d = 0 ∨ d = 1) (hk : k = 0 ∨ k = 1) {x' : List UInt8} {r : List (List UInt8)} (h : s.box d = x' :: r) (x : List UInt8) : (s.got d).cnt k x + (if mat k x (d, x') then 1 else 0) = s.cnt k x := by
  obtain ⟨z1, z2, z3, z4, z5⟩ := got_same s d
  unfold ES.cnt
  rw [z2, z3, z5]
  have hb : ((s.got d).box k).count x + (if mat k x (d, x') then 1 else 0) = (s.box k).count x := by
    have e : mat k x (d, x') = (d == k && x' == x) := rfl
    rw [e]
    unfold ES.box at h ⊢
    unfold ES.got
    rcases hd with rfl | rfl <;> rcases hk with rfl | rfl <;> simp at h ⊢ <;> rw [h] <;> simp [List.count_cons]
  omega
/-- May hold all that may yet come. -/
def MI (may : Nat → List (List UInt8)) (s : ES) : Prop := ∀ k, k < 2 → ∀ x, s.cnt (k : Nat) x ≤ (may k).count x
theorem k01 {k : Nat} (hk : k < 2) : (k : Int) = 0 ∨ (k : Int) = 1 := by omega
section
variable {may : Nat → List (List UInt8)} {s : ES}
theorem MI.tick (h : MI may s) (hok : s.ok) : MI may s.tick := fun k hk x => Nat.le_trans (tick_cnt hok (k01 hk) x) (h k hk x)
theorem MI.send (h : MI may s) {d : Nat} (hd : d < 2) (x' : List UInt8) : MI (upd may d (may d ++ [x', x'])) (s.send (d : Int) x') := fun k hk x => by
  have h1 := send_cnt s (d : Int) x' (k := (k : Int)) x
  have h2 := h k hk x
  have e : mat (k : Int) x ((d : Int), x') = ((d : Int) == (k : Int) && x' == x) := rfl
  rw [e] at h1
  by_cases hdk : k = d
  · subst hdk
    rw [upd_self, List.count_append]
    by_cases hx : x' = x
    · subst hx; simp at h1 ⊢; omega
    · have : (x' == x) = false := by simpa using hx
      rw [this] at h1; simp at h1; omega
  · rw [upd_ne _ _ hdk]
    have : ((d : Int) == (k : Int)) = false := by simp; omega
    rw [this] at h1; simp at h1; omega
theorem MI.has (h : MI may s) {d : Nat} (hd : d < 2) {x : List UInt8} {r : List (List UInt8)} (hb : s.box (d : Int) = x :: r) : x ∈ may d := by
  have h1 := h d hd x
  have h2 : 0 < s.cnt (d : Int) x := by unfold ES.cnt; rw [hb]; simp; omega
  exact List.count_pos_iff.1 (by omega)
theorem MI.got (h : MI may s) {d : Nat} (hd : d < 2) {x : List UInt8} {r : List (List UInt8)} (hb : s.box (d : Int) = x :: r) {a : Nat} (ha : a < (may d).length) (hx : (may d)[a] = x) : MI (upd may d ((may d).take a ++ (may d).drop (a + 1))) (s.got (d : Int)) := fun k hk y => by
  have h1 := got_cnt (k01 hd) (k01 hk) hb y
  have h2 := h k hk y
  have e : mat (k : Int) y ((d : Int), x) = ((d : Int) == (k : Int) && x == y) := rfl
  rw [e] at h1
  by_cases hdk : k = d
  · subst hdk
    rw [upd_self]
    have e2 : (may k).count y = ((may k).take a).count y + (if x == y then 1 else 0) + ((may k).drop (a + 1)).count y := by
      conv => lhs; rw [← List.take_append_drop a (may k), List.drop_eq_getElem_cons ha, hx]
      rw [List.count_append, List.count_cons]; omega
    rw [List.count_append]
    simp at h1
    by_cases hxy : x = y
    · rw [if_pos hxy] at h1
      rw [if_pos (by simpa using hxy)] at e2
      omega
    · rw [if_neg hxy] at h1
      rw [if_neg (by simpa using hxy)] at e2
      omega
  · rw [upd_ne _ _ hdk]
    have : ((d : Int) == (k : Int)) = false := by simp; omega
    rw [this] at h1; simp at h1; omega
end
/-- The strays of an end, in order. -/
def stD (l : List (Int × Int × List UInt8)) (k : Int) : List (List UInt8) := (l.filter (fun y => y.2.1 == k)).map (·.2.2)
theorem stD_snoc (l : List (Int × Int × List UInt8)) (y : Int × Int × List UInt8) (k : Int) : stD (l ++ [y]) k = stD l k ++ (if y.2.1 = k then [y.2.2] else []) := by
  unfold stD
  rw [List.filter_append, List.map_append]
  congr 1
  by_cases h : y.2.1 = k
  · rw [if_pos h, List.filter_cons_of_pos (by simpa using h)]; rfl
  · rw [if_neg h, List.filter_cons_of_neg (by simpa using h)]; rfl
theorem cntS_stD (k : Int) (x : List UInt8) (t : Int) : ∀ l : List (Int × Int × List UInt8), cntS l t k x ≤ (stD l k).count x
  | [] => Nat.le_refl _
  | y :: l => by
    have ih := cntS_stD k x t l
    have e : stD (y :: l) k = stD [y] k ++ stD l k := by
      unfold stD
      rw [← List.map_append, ← List.filter_append]; rfl
    rw [e, List.count_append]
    unfold cntS at ih ⊢
    rw [List.countP_cons]
    have : (if (mat k x y.2 && decide (t < y.1)) = true then 1 else 0) ≤ (stD [y] k).count x := by
      split
      · rename_i h
        simp only [mat, Bool.and_eq_true, beq_iff_eq] at h
        unfold stD
        rw [List.filter_cons_of_pos (by simpa using h.1.1)]
        simp [h.1.2]
      · omega
    omega
theorem MI.new {fl : List FT} {sl : List SY} {may : Nat → List (List UInt8)} (h : ∀ k, k < 2 → may k = stD (sl.map SY.t) (k : Nat)) : MI may (ES.new fl sl) := fun k hk x => by
  rw [h k hk]
  have e : (ES.new fl sl).cnt (k : Nat) x = ([] : List (List UInt8)).count x + 0 + cntS (sl.map SY.t) 0 k x := by
    show ((ES.new fl sl).box (k : Nat)).count x + 0 + _ = _
    rw [show (ES.new fl sl).box (k : Nat) = [] from by unfold ES.box; split <;> rfl]
    rfl
  rw [e]
  have := cntS_stD (k : Int) x 0 (sl.map SY.t)
  simp
  exact this
end Go.Proofs.Ytknpghemogfenaa
