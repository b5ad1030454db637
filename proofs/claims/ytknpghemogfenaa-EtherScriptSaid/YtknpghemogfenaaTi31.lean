/- Chapter 31: (*Ether).Tick: its walk. -/
import Derived.Test.YtknpghemogfenaaTp31
namespace Go.Proofs.Ytknpghemogfenaa
open Go.Conc Go.RowKit
set_option linter.unusedVariables false
theorem ycs_length (l : List SY) : (ycs l).length = l.length * 3 := by
  induction l with
  | nil => rfl
  | cons f l ih =>
    have : ycs (f :: l) = f.cells ++ ycs l := rfl
    rw [this, List.length_append, ih, List.length_cons]
    show 3 + l.length * 3 = _
    omega
theorem ycs_get : ∀ {l : List SY} {i k : Nat} (h : i < l.length), k < 3 → (ycs l)[i * 3 + k]? = (l[i]).cells[k]?
  | [], i, k, h, _ => absurd h (Nat.not_lt_zero _)
  | e :: l, 0, k, h, hk => by
    have : ycs (e :: l) = e.cells ++ ycs l := rfl
    rw [this, List.getElem?_append_left (by show 0 * 3 + k < 3; omega), Nat.zero_mul, Nat.zero_add]; rfl
  | e :: l, i + 1, k, h, hk => by
    have h1 : ycs (e :: l) = e.cells ++ ycs l := rfl
    rw [h1, List.getElem?_append_right (by show 3 ≤ _; omega), show (i + 1) * 3 + k - e.cells.length = i * 3 + k from by show (i + 1) * 3 + k - 3 = _; omega]
    exact ycs_get (l := l) (Nat.lt_of_succ_lt_succ h) hk
/-- A stray's cells. -/
theorem Em.stray {w : World} {base E : Nat} {m : EM} (h : Em w base E m) {j : Nat} (hj : j < m.strays.length) : ∃ g, m.SA = some ⟨g, 0, none⟩ ∧ w.cell? ⟨g, j * 3, none⟩ = some (.int .i64 (m.strays[j]).at_) ∧ w.cell? ⟨g, j * 3 + 1, none⟩ = some (.int .i64 (m.strays[j]).dst) ∧ w.cell? ⟨g, j * 3 + 2, none⟩ = some (.slice (m.strays[j]).A (m.strays[j]).n (m.strays[j]).c) := by
  rcases h.s.2 with ⟨_, h2⟩ | ⟨g, cap, cur, hv, hb, hh, hnc, hcm, hcs, ht⟩
  · omega
  · injection hv with e1 e2 e3
    have hget : ∀ k, k < 3 → w.cell? ⟨g, j * 3 + k, none⟩ = (m.strays[j]).cells[k]? := fun k hk => by
      have hbk : Bk w g 45 cur.toList := hh
      have ht' : cur.toList.take (m.strays.length * 3) = ycs m.strays := by simpa using ht
      rw [hbk.cell, ← ycs_get hj hk, ← ht', List.getElem?_take, if_pos (by omega)]
    exact ⟨g, e1, hget 0 (by decide), hget 1 (by decide), hget 2 (by decide)⟩
def ES.now1 (s : ES) : ES := { s with now := s.now + 1 }
/-- The first j strays that come. -/
def ES.stj (s : ES) (t : Int) (j : Nat) : List (Int × List UInt8) := ((s.strays.take j).filter (fun y => y.1 == t)).map (fun y => (y.2.1, y.2.2))
theorem stj_zero (s : ES) (t : Int) : s.stj t 0 = [] := rfl
theorem stj_all (s : ES) (t : Int) : s.stj t s.strays.length = s.st t := by unfold ES.stj ES.st; rw [List.take_length]
theorem stj_succ {s : ES} {t : Int} {j : Nat} (hj : j < s.strays.length) : s.stj t (j + 1) = if (s.strays[j]).1 = t then s.stj t j ++ [((s.strays[j]).2.1, (s.strays[j]).2.2)] else s.stj t j := by
  unfold ES.stj
  rw [List.take_succ_eq_append_getElem hj, List.filter_append, List.map_append]
  split
  · rename_i h; rw [List.filter_cons_of_pos (by simpa using h)]; rfl
  · rename_i h; rw [List.filter_cons_of_neg (by simpa using h)]; simp
theorem stj_len (s : ES) (t : Int) (j : Nat) : (s.stj t j).length ≤ s.strays.length := by
  unfold ES.stj
  rw [List.length_map]
  exact Nat.le_trans (List.length_filter_le _ _) (by rw [List.length_take]; omega)
def T1 (w wx : World) (base E : Nat) (m : EM) (s : ES) (j : Nat) : Prop :=
  ∃ m', Em wx base E m' ∧ Ab m' (s.now1.comeAll (s.stj (s.now + 1) j)) ∧ m'.strays = m.strays ∧ m'.SA = m.SA ∧ m'.sc = m.sc ∧ Chg (m.foot E) w wx ∧ ∀ k, m'.foot E k → m.foot E k ∨ w.heap.size ≤ k
theorem T1.cell {w wx : World} {base E : Nat} {m : EM} {s : ES} {j : Nat} (h : T1 w wx base E m s j) : wx.cell? ⟨E, 2, none⟩ = some (.int .i64 (s.now + 1)) := by
  obtain ⟨m', h1, h2, _⟩ := h
  rw [h1.cell.2.2.1, h2.now, (comeAll_same _ _).2.2.1]
  rfl
theorem T1.below {w wx wy : World} {base E : Nat} {m : EM} {s : ES} {j : Nat} (hm : ∀ k, m.foot E k → k < w.heap.size) (h : T1 w wx base E m s j) (hb : Below wx.heap.size wx wy) : T1 w wy base E m s j := by
  obtain ⟨m', h1, h2, h3, h4, h5, h6, h7⟩ := h
  exact ⟨m', h1.below hb, h2, h3, h4, h5, h6.trans (Chg.of_below (S := m.foot E) hb) fun _ _ x => x, h7⟩
theorem come_lost9 {s : ES} (hl : s.lost ≤ 900000000) (l : List (Int × List UInt8)) (hn : l.length ≤ 90000000) : (s.now1.comeAll l).lost ≤ 1000000000 := by
  have h1 := (comeAll_lost l s.now1).2
  have h2 : s.now1.lost = s.lost := rfl
  have h3 : (l.length : Int) ≤ 90000000 := by omega
  omega
/-- One stray comes. -/
theorem t1_step {w wx : World} {base E : Nat} {m : EM} {s : ES} {j : Nat} (hs : s.ok) (hab : Ab m s) (hfm : ∀ k, m.foot E k → k < w.heap.size) (hlo : s.lost ≤ 900000000) (h : T1 w wx base E m s j) (hj : j < m.strays.length) (hat : (m.strays[j]).at_ = s.now + 1)
    {w1 : World} {A1 : Option Addr} {d1 : Nat} (hb : Below wx.heap.size wx w1) (hown : w1.ownsRow wx.heap.size 5 1 (.slice A1 (m.strays[j]).n d1) (m.strays[j]).n (bys (m.strays[j]).x)) :
    Calls Try.prog 38 #[.pointer (some ⟨E, 0, none⟩), .int .i64 (m.strays[j]).dst, .slice A1 (m.strays[j]).n d1] w1 fun e w' => e = .returned (.tuple #[]) ∧ T1 w w' base E m s (j + 1) ∧ ∀ k, wx.heap.size ≤ k → k < w1.heap.size → w'.heap[k]? = w1.heap[k]? := by
  obtain ⟨m', h1, h2, h3, h4, h5, h6, h7⟩ := h
  have hm1 := h1.below hb
  have hsl : m.strays.length = s.strays.length := by rw [← hab.strays]; simp
  have hjs : j < s.strays.length := by omega
  have hy : s.strays[j] = ((m.strays[j]).at_, (m.strays[j]).dst, (m.strays[j]).x) := by
    have : (m.strays.map (fun y => (y.at_, y.dst, y.x)))[j]? = s.strays[j]? := by rw [hab.strays]
    rw [List.getElem?_map, List.getElem?_eq_getElem hj, List.getElem?_eq_getElem hjs] at this
    simpa using this.symm
  have hd := (hs.st _ (List.getElem_mem hjs)).2
  rw [hy] at hd
  simp only at hd
  obtain ⟨dn, hdn, hd2⟩ : ∃ dn : Nat, (m.strays[j]).dst = (dn : Int) ∧ dn < 2 := by
    rcases hd with e | e
    · exact ⟨0, by rw [e]; rfl, by decide⟩
    · exact ⟨1, by rw [e]; rfl, by decide⟩
  have hpx : PX w1 base A1 (m.strays[j]).n d1 (m.strays[j]).x := ⟨own_mono hown h1.bs.2.2.2, by
    have := h1.sx (m.strays[j]) (by rw [h3]; exact List.getElem_mem hj)
    exact this.2⟩
  have hnew : ∀ k ∈ blk A1, wx.heap.size ≤ k := fun k hk => by
    obtain ⟨a, ha, rfl⟩ := mem_blk.1 hk
    exact (own_ge hown a ha).1
  have hlen := stj_len s (s.now + 1) j
  have hsy : m'.strays.length ≤ 100000 := h1.sl
  rw [h3, hsl] at hsy
  rw [hdn]
  refine (ecomes_any (b := ⟨A1, (m.strays[j]).n, d1, (m.strays[j]).x⟩) hm1 hpx (fun k hk hin => by have := (h1.foot_base (EM.fb hin)).2; have := hnew k hk; omega) (by rw [h2.lost]; have := (comeAll_lost (s.stj (s.now + 1) j) s.now1).1; have h9 : s.now1.lost = s.lost := rfl; have := hs.lost; omega) (by rw [h2.lost]; exact come_lost9 hlo _ (by omega)) hd2).mono ?_
  rintro e w' ⟨rfl, g1, g2, g3⟩
  obtain ⟨p1, p2, p3, p4, p5, p6, _⟩ := emcome_same m' dn ⟨A1, (m.strays[j]).n, d1, (m.strays[j]).x⟩
  refine ⟨rfl, ⟨_, g1, ?_, p6.trans h3, p4.trans h4, p5.trans h5, ?_, fun k hk => ?_⟩, fun k hk1 hk2 => g2.2 k hk2 fun hf => by have := (h1.foot_base hf).2; omega⟩
  · have hst : s.stj (s.now + 1) (j + 1) = s.stj (s.now + 1) j ++ [((m.strays[j]).dst, (m.strays[j]).x)] := by
      rw [stj_succ hjs, hy, if_pos hat]
    rw [hst, ES.comeAll_append]
    have := h2.come (b := ⟨A1, (m.strays[j]).n, d1, (m.strays[j]).x⟩) hd2
    rw [← hdn] at this
    exact this
  · refine (h6.trans (Chg.of_below (S := m.foot E) hb) fun _ _ x => x).trans g2 fun k hk hT => (h7 k hT).elim id fun e => by omega
  · rcases g3 k hk with e | e
    · exact h7 k e
    · have := hnew k e; have := h6.size; exact .inr (by omega)
theorem t1_skip {w wx : World} {base E : Nat} {m : EM} {s : ES} {j : Nat} (hab : Ab m s) (h : T1 w wx base E m s j) (hj : j < m.strays.length) (hat : (m.strays[j]).at_ ≠ s.now + 1) : T1 w wx base E m s (j + 1) ∧ (s.stj (s.now + 1) (j + 1)).length = (s.stj (s.now + 1) j).length := by
  have hsl : m.strays.length = s.strays.length := by rw [← hab.strays]; simp
  have hjs : j < s.strays.length := by omega
  have hy : s.strays[j] = ((m.strays[j]).at_, (m.strays[j]).dst, (m.strays[j]).x) := by
    have : (m.strays.map (fun y => (y.at_, y.dst, y.x)))[j]? = s.strays[j]? := by rw [hab.strays]
    rw [List.getElem?_map, List.getElem?_eq_getElem hj, List.getElem?_eq_getElem hjs] at this
    simpa using this.symm
  have hst : s.stj (s.now + 1) (j + 1) = s.stj (s.now + 1) j := by rw [stj_succ hjs, hy, if_neg hat]
  unfold T1
  rw [hst]
  exact ⟨h, rfl⟩
theorem stj_count {m : EM} {s : ES} {j : Nat} (hab : Ab m s) (hj : j < m.strays.length) (hat : (m.strays[j]).at_ = s.now + 1) : (s.stj (s.now + 1) (j + 1)).length = (s.stj (s.now + 1) j).length + 1 := by
  have hsl : m.strays.length = s.strays.length := by rw [← hab.strays]; simp
  have hjs : j < s.strays.length := by omega
  have hy : s.strays[j] = ((m.strays[j]).at_, (m.strays[j]).dst, (m.strays[j]).x) := by
    have : (m.strays.map (fun y => (y.at_, y.dst, y.x)))[j]? = s.strays[j]? := by rw [hab.strays]
    rw [List.getElem?_map, List.getElem?_eq_getElem hj, List.getElem?_eq_getElem hjs] at this
    simpa using this.symm
  rw [stj_succ hjs, hy, if_pos hat]; simp
end Go.Proofs.Ytknpghemogfenaa
