/- Chapter 31: the document's ether: Tick. -/
import Derived.Test.YtknpghemogfenaaRu31
namespace Go.Proofs.Ytknpghemogfenaa
open Go.Conc Go.RowKit
set_option linter.unusedVariables false
def stJ (l : List SY) (t : Int) : List (Int × List UInt8) := (l.filter (fun y => y.at_ == t)).map (fun y => (y.dst, y.x))
def arJ (l : List GX) (t : Int) : List (Int × List UInt8) := (l.filter (fun g => g.a == t)).map (fun g => (g.d, g.x))
def otJ (l : List GX) (t : Int) : List GX := l.filter (fun g => !(g.a == t))
theorem stJ_st {s : ES} {l : List SY} (h : s.strays = l.map SY.t) (t : Int) : s.st t = stJ l t := by
  unfold ES.st stJ
  rw [h, List.filter_map, List.map_map]
  rfl
theorem arJ_ar {s : ES} {l : List GX} (h : s.sky = l.map GX.g) (t : Int) : (s.ar t).map GR.p = arJ l t := by
  unfold ES.ar arJ
  rw [h, List.filter_map, List.map_map]
  rfl
theorem otJ_ot {s : ES} {l : List GX} (h : s.sky = l.map GX.g) (t : Int) : s.ot t = (otJ l t).map GX.g := by
  unfold ES.ot otJ
  rw [h, List.filter_map]
  rfl
theorem stJ_succ {l : List SY} {t : Int} {j : Nat} (hj : j < l.length) : stJ (l.take (j + 1)) t = stJ (l.take j) t ++ (if l[j].at_ = t then [(l[j].dst, l[j].x)] else []) := by
  unfold stJ
  rw [List.take_succ_eq_append_getElem hj, List.filter_append, List.map_append]
  by_cases h : l[j].at_ = t
  · rw [if_pos h, List.filter_cons_of_pos (by simpa using h)]; rfl
  · rw [if_neg h, List.filter_cons_of_neg (by simpa using h)]; rfl
theorem arJ_succ {l : List GX} {t : Int} {j : Nat} (hj : j < l.length) : arJ (l.take (j + 1)) t = arJ (l.take j) t ++ (if l[j].a = t then [(l[j].d, l[j].x)] else []) := by
  unfold arJ
  rw [List.take_succ_eq_append_getElem hj, List.filter_append, List.map_append]
  by_cases h : l[j].a = t
  · rw [if_pos h, List.filter_cons_of_pos (by simpa using h)]; rfl
  · rw [if_neg h, List.filter_cons_of_neg (by simpa using h)]; rfl
theorem otJ_succ {l : List GX} {t : Int} {j : Nat} (hj : j < l.length) : otJ (l.take (j + 1)) t = otJ (l.take j) t ++ (if l[j].a = t then [] else [l[j]]) := by
  unfold otJ
  rw [List.take_succ_eq_append_getElem hj, List.filter_append]
  by_cases h : l[j].a = t
  · rw [if_pos h, List.filter_cons_of_neg (by simpa using h)]; rfl
  · rw [if_neg h, List.filter_cons_of_pos (by simpa using h)]; rfl
theorem stJ_len (l : List SY) (t : Int) (j : Nat) : (stJ (l.take j) t).length ≤ l.length := by
  unfold stJ
  rw [List.length_map]
  exact Nat.le_trans (List.length_filter_le _ _) (by rw [List.length_take]; exact Nat.min_le_right _ _)
theorem arJ_len (l : List GX) (t : Int) (j : Nat) : (arJ (l.take j) t).length ≤ l.length := by
  unfold arJ
  rw [List.length_map]
  exact Nat.le_trans (List.length_filter_le _ _) (by rw [List.length_take]; exact Nat.min_le_right _ _)
theorem otJ_len (l : List GX) (t : Int) (j : Nat) : (otJ (l.take j) t).length ≤ l.length := by
  unfold otJ
  exact Nat.le_trans (List.length_filter_le _ _) (by rw [List.length_take]; exact Nat.min_le_right _ _)
/-- What comings leave, with its blocks and its memory named. -/
structure RCoX (base E : Nat) (m : RMem) (s' : ES) (F : Nat → Prop) (w w' : World) (F' : Nat → Prop) (m' : RMem) : Prop where
  rm : Rm w' base E m' F'
  ab : AbR m' s'
  k1 : m'.sent = m.sent ∧ m'.fates = m.fates ∧ m'.now = m.now
  k2 : m'.SA = m.SA ∧ m'.sc = m.sc ∧ m'.strays = m.strays
  k3 : m'.LA = m.LA ∧ m'.lc = m.lc ∧ m'.l = m.l
  bd : ∀ k, F' k → F k ∨ w.heap.size ≤ k
  ch : Chg F w w'
section
variable {w w' w'' : World} {base E : Nat} {m m1 m2 : RMem} {s1 s2 : ES} {F F1 F2 : Nat → Prop}
theorem RCoX.step (h : RCoX base E m s1 F w w' F1 m1) (h2 : RCo base E m1 s2 F1 w' w'') : ∃ F2 m2, RCoX base E m s2 F w w'' F2 m2 ∧ ∀ k, F2 k → F1 k ∨ w'.heap.size ≤ k := by
  obtain ⟨F2, m2, g1, g2, ⟨a1, a2, a3⟩, ⟨b1, b2, b3⟩, ⟨c1, c2, c3⟩, g6, g7⟩ := h2
  have hz := h.ch.size
  refine ⟨F2, m2, ⟨g1, g2, ⟨a1.trans h.k1.1, a2.trans h.k1.2.1, a3.trans h.k1.2.2⟩, ⟨b1.trans h.k2.1, b2.trans h.k2.2.1, b3.trans h.k2.2.2⟩, ⟨c1.trans h.k3.1, c2.trans h.k3.2.1, c3.trans h.k3.2.2⟩, fun k hk => ?_, h.ch.trans g7 fun k hk hf => ?_⟩, g6⟩
  · rcases g6 k hk with e | e
    · exact h.bd k e
    · exact .inr (by omega)
  · rcases h.bd k hf with e | e
    · exact e
    · omega
theorem RCoX.below (h : RCoX base E m s1 F w w' F1 m1) (hb : Below w'.heap.size w' w'') : RCoX base E m s1 F w w'' F1 m1 :=
  ⟨h.rm.below hb, h.ab, h.k1, h.k2, h.k3, h.bd, h.ch.trans (Chg.of_below (S := F) hb) fun _ _ e => e⟩
theorem RCoX.stray (h : RCoX base E m s1 F w w' F1 m1) {j : Nat} (hj : j < m.strays.length) : ∃ (g : Nat) (at_ dst : Int) (B : Option Addr) (n c : Nat) (x : List UInt8), m.SA = some ⟨g, 0, none⟩ ∧ m.strays[j] = ⟨at_, dst, B, n, c, x⟩ ∧
    w'.cell? ⟨g, j * 3, none⟩ = some (.int .i64 at_) ∧ w'.cell? ⟨g, j * 3 + 1, none⟩ = some (.int .i64 dst) ∧ w'.cell? ⟨g, j * 3 + 2, none⟩ = some (.slice B n c) ∧ Rd w' B n (bys x) ∧ n ≤ 70000 := by
  have ho := h.rm.f.s
  have hx := h.rm.f.x
  rw [h.k2.1, h.k2.2.1, h.k2.2.2] at ho
  rw [h.k2.2.2] at hx
  obtain ⟨g, a, d, B, n, c, x, e1, e2, c0, c1, c2⟩ := rd_stray (own_rdN ho).1 (own_at0 ho) hj
  have hp := hx _ (List.getElem_mem hj)
  rw [e2] at hp
  exact ⟨g, a, d, B, n, c, x, e1, e2, c0, c1, c2, hp.1.rd, hp.1.2⟩
theorem gxs_get : ∀ {l : List GX} {i k : Nat} (h : i < l.length), k < 4 → (gxs l)[i * 4 + k]? = (l[i]).cells[k]?
  | [], i, k, h, _ => absurd h (by simp)
  | g :: l, i, k, h, hk => by
    show (g.cells ++ gxs l)[i * 4 + k]? = _
    have hc : g.cells.length = 4 := rfl
    cases i with
    | zero => rw [Nat.zero_mul, Nat.zero_add, List.getElem?_append_left (by omega)]; rfl
    | succ i =>
      rw [List.getElem?_append_right (by omega), hc, show (i + 1) * 4 + k - 4 = i * 4 + k by omega]
      exact gxs_get (l := l) (by simpa using h) hk
theorem RCoX.gram (h : RCoX base E m s1 F w w' F1 m1) {j : Nat} (hj : j < m.l.length) : ∃ (g : Nat) (d a b : Int) (B : Option Addr) (n c : Nat) (x : List UInt8), m.LA = some ⟨g, 0, none⟩ ∧ m.l[j] = ⟨d, a, b, B, n, c, x⟩ ∧
    w'.cell? ⟨g, j * 4, none⟩ = some (.int .i64 d) ∧ w'.cell? ⟨g, j * 4 + 1, none⟩ = some (.int .i64 a) ∧ w'.cell? ⟨g, j * 4 + 2, none⟩ = some (.int .i64 b) ∧ w'.cell? ⟨g, j * 4 + 3, none⟩ = some (.slice B n c) ∧ Rd w' B n (bys x) ∧ n ≤ 70000 := by
  have ho := h.rm.l.ow
  have hx := h.rm.l.x
  rw [h.k3.1, h.k3.2.1, h.k3.2.2] at ho
  rw [h.k3.2.2] at hx
  obtain ⟨g, cur, hA, _⟩ := own_formN ho (by omega)
  have hp := hx _ (List.getElem_mem hj)
  obtain ⟨⟨d, a, b, B, n, c, x⟩, hg⟩ : ∃ g, m.l[j] = g := ⟨_, rfl⟩
  rw [hg] at hp
  rw [hA] at ho
  have hlt : ∀ k, k < 4 → j * 4 + k < (gxs m.l).length := fun k hk => by have := ho.1; omega
  have hget : ∀ k, k < 4 → ∀ u, (m.l[j]).cells[k]? = some u → w'.cell? ⟨g, j * 4 + k, none⟩ = some u := fun k hk u hu => by
    rw [(own_cellN ho (hlt k hk)).1, gxs_get hj hk]; exact hu
  rw [hg] at hget
  exact ⟨g, d, a, b, B, n, c, x, hA, hg, hget 0 (by decide) _ rfl, hget 1 (by decide) _ rfl, hget 2 (by decide) _ rfl, hget 3 (by decide) _ rfl, hp.1.rd, hp.1.2⟩
theorem RCoX.cells (h : RCoX base E m s1 F w w' F1 m1) : w'.cell? ⟨E, 1, none⟩ = some (.slice m.SA m.strays.length m.sc) ∧ w'.cell? ⟨E, 2, none⟩ = some (.int .i64 m.now) ∧ w'.cell? ⟨E, 5, none⟩ = some (.slice m.LA m.l.length m.lc) := by
  refine ⟨?_, ?_, ?_⟩
  · rw [← h.k2.1, ← h.k2.2.1, ← h.k2.2.2]; exact h.rm.e.cell 1
  · rw [← h.k1.2.2]; exact h.rm.e.cell 2
  · rw [← h.k3.1, ← h.k3.2.1, ← h.k3.2.2]; exact h.rm.e.cell 5
end
/-- The first loop: so many strays have been looked at. -/
def TL1 (base E : Nat) (m : RMem) (s : ES) (F : Nat → Prop) (w wx : World) (j : Nat) : Prop := ∃ F1 m1, RCoX base E m (s.comeAll (stJ (m.strays.take j) s.now)) F w wx F1 m1
theorem TL1.hit {base E n j : Nat} {m : RMem} {s : ES} {F : Nat → Prop} {w wx wy : World} {F1 : Nat → Prop} {m1 : RMem} {at_ dst : Int} {B : Option Addr} {c : Nat} {x : List UInt8} (h : RCoX base E m (s.comeAll (stJ (m.strays.take j) s.now)) F w wx F1 m1) (hj : j < m.strays.length) (hy : m.strays[j] = ⟨at_, dst, B, n, c, x⟩) (ht : at_ = s.now) (h2 : RCo base E m1 ((s.comeAll (stJ (m.strays.take j) s.now)).come dst x) F1 wx wy) :
    TL1 base E m s F w wy (j + 1) := by
  obtain ⟨F2, m2, g, _⟩ := h.step h2
  refine ⟨F2, m2, ?_⟩
  rw [stJ_succ hj, hy, ES.comeAll_append, if_pos ht]
  exact g
theorem TL1.miss {base E n j : Nat} {m : RMem} {s : ES} {F : Nat → Prop} {w wx : World} {at_ dst : Int} {B : Option Addr} {c : Nat} {x : List UInt8} (h : TL1 base E m s F w wx j) (hj : j < m.strays.length) (hy : m.strays[j] = ⟨at_, dst, B, n, c, x⟩) (ht : at_ ≠ s.now) :
    TL1 base E m s F w wx (j + 1) := by
  obtain ⟨F2, m2, g⟩ := h
  refine ⟨F2, m2, ?_⟩
  rw [stJ_succ hj, hy, if_neg ht, List.append_nil]
  exact g
/-- The second loop. -/
def TL2 (base E : Nat) (m : RMem) (s : ES) (F : Nat → Prop) (w wx : World) (j : Nat) (v : Value) (r : Nat) : Prop := ∃ F1 m1, RCoX base E m (s.comeAll (arJ (m.l.take j) s.now)) F w wx F1 m1 ∧ r = (otJ (m.l.take j) s.now).length ∧ wx.ownsRow w.heap.size 92 4 v r (gxs (otJ (m.l.take j) s.now)) ∧ ∀ g, v.ownBlock = some g → ¬ F1 g
theorem TL2.hit {base E n j r : Nat} {m : RMem} {s : ES} {F : Nat → Prop} {w wx wy : World} {F1 : Nat → Prop} {m1 : RMem} {v : Value} {d a b : Int} {B : Option Addr} {c : Nat} {x : List UInt8} (h : RCoX base E m (s.comeAll (arJ (m.l.take j) s.now)) F w wx F1 m1) (hr : r = (otJ (m.l.take j) s.now).length) (ho : wx.ownsRow w.heap.size 92 4 v r (gxs (otJ (m.l.take j) s.now))) (hn : ∀ g, v.ownBlock = some g → ¬ F1 g)
    (hj : j < m.l.length) (hy : m.l[j] = ⟨d, a, b, B, n, c, x⟩) (ht : a = s.now) (h2 : RCo base E m1 ((s.comeAll (arJ (m.l.take j) s.now)).come d x) F1 wx wy) :
    TL2 base E m s F w wy (j + 1) v r := by
  obtain ⟨F2, m2, g, g2⟩ := h.step h2
  obtain ⟨A, c', rfl⟩ := own_sl ho
  obtain ⟨_, _, _, _, _, _, _, _, hch⟩ := h2
  refine ⟨F2, m2, ?_, ?_, ?_, fun q hq hf => ?_⟩
  · rw [arJ_succ hj, hy, ES.comeAll_append, if_pos ht]
    exact g
  · rw [otJ_succ hj, hy, if_pos ht, List.append_nil]; exact hr
  · rw [otJ_succ hj, hy, if_pos ht, List.append_nil]
    exact hch.own ho fun q hq => hn _ (own_b1 hq)
  · rcases g2 q hf with e | e
    · exact hn q hq e
    · obtain ⟨⟨cs, hb⟩, _⟩ := own_ty ho hq; have := hb.lt; omega
theorem TL2.miss {base E n j r : Nat} {m : RMem} {s : ES} {F : Nat → Prop} {w wx wy : World} {F1 : Nat → Prop} {m1 : RMem} {v v' : Value} {d a b : Int} {B : Option Addr} {c : Nat} {x : List UInt8} (h : RCoX base E m (s.comeAll (arJ (m.l.take j) s.now)) F w wx F1 m1) (hr : r = (otJ (m.l.take j) s.now).length) (ho0 : wx.ownsRow w.heap.size 92 4 v r (gxs (otJ (m.l.take j) s.now))) (hn : ∀ g, v.ownBlock = some g → ¬ F1 g)
    (hj : j < m.l.length) (hy : m.l[j] = ⟨d, a, b, B, n, c, x⟩) (ht : a ≠ s.now) (ho : wy.ownsRow w.heap.size 92 4 v' (r + 1) (gxs (otJ (m.l.take j) s.now ++ [⟨d, a, b, B, n, c, x⟩]))) (hg : wx.grownBy wy v.ownBlock) (hat : v'.ownBlock = v.ownBlock ∨ ∃ k, v'.ownBlock = some k ∧ wx.heap.size ≤ k) :
    TL2 base E m s F w wy (j + 1) v' (r + 1) := by
  have hch : Chg (fun k => v.ownBlock = some k) wx wy := Chg.of_grown hg fun k hk => hk
  refine ⟨F1, m1, ?_, ?_, ?_, fun q hq hf => ?_⟩
  · rw [arJ_succ hj, hy, if_neg ht, List.append_nil]
    have hcF : Chg F w wy := h.ch.trans hch fun k hk hv => by
      exfalso
      have := (own_ty ho0 hv).2; omega
    exact ⟨h.rm.other hch fun k hk hv => hn k hv hk, h.ab, h.k1, h.k2, h.k3, h.bd, hcF⟩
  · rw [otJ_succ hj, hy, if_neg ht, List.length_append, hr]; rfl
  · rw [otJ_succ hj, hy, if_neg ht]; exact ho
  · rcases hat with e | ⟨k, e, hk⟩
    · exact hn q (e ▸ hq) hf
    · rw [e] at hq; injection hq with hq; have := (h.rm.fb q hf).2; omega
theorem Rm.mono {w : World} {base E : Nat} {m : RMem} {F F' : Nat → Prop} (h : Rm w base E m F) (hF : ∀ k, F k → F' k) (hb : ∀ k, F' k → base ≤ k ∧ k < w.heap.size) : Rm w base E m F' :=
  ⟨h.e, h.f.mono hF, h.l.mono hF, h.q.mono hF, hF _ h.FE, hb, h.bs⟩
theorem TL2.done {base E N r : Nat} {m : RMem} {s : ES} {F : Nat → Prop} {w wx : World} {A : Option Addr} {c : Nat} (h : TL2 base E m s F w wx m.l.length (.slice A r c) r) (hb : base ≤ w.heap.size) (hN : m.sent ≤ N) :
    RTo base E { s.comeAll (arJ m.l s.now) with sky := (otJ m.l s.now).map GX.g } N F w (wx.setCell ⟨E, 5, none⟩ (.slice A r c)) := by
  obtain ⟨F1, m1, h1, h2, h3, h4⟩ := h
  rw [List.take_length] at h1 h2 h3
  subst h2
  have hF2 : ∀ k, (F1 k ∨ k ∈ blk A) → base ≤ k ∧ k < wx.heap.size := fun k hk => by
    rcases hk with hk | hk
    · exact h1.rm.fb k hk
    · obtain ⟨a, ha, e⟩ := mem_blk.1 hk
      have := own_lt h3 a ha
      rw [e] at this; omega
  have hm2 := h1.rm.mono (F' := fun k => F1 k ∨ k ∈ blk A) (fun k hk => .inl hk) hF2
  have hl : RL wx base A c (otJ m.l s.now) (Grow (fun k => F1 k ∨ k ∈ blk A) wx wx) := by
    refine ⟨own_mono h3 hb, fun g hg => ?_, fun a ha => .inl (.inr (mem_blk.2 ⟨a, ha, rfl⟩))⟩
    have hg' : g ∈ m1.l := by rw [h1.k3.2.2]; exact (List.mem_filter.1 hg).1
    exact (hm2.l.x g hg').mono Grow.le
  obtain ⟨z1, z2⟩ := hm2.putL (T := fun _ => False) (Chg.refl _ wx) (fun _ e _ => e.elim) hl
  refine ⟨_, ⟨_, z1, ⟨h1.ab.fates, h1.ab.strays, h1.ab.now, h1.ab.number, h1.ab.lost, rfl, h1.ab.b0, h1.ab.b1⟩, by show m1.sent ≤ N; rw [h1.k1.1]; exact hN⟩, fun k hk => ?_, h1.ch.trans z2 fun k hk hf => ?_⟩
  · rcases hk with (hk | hk) | hk
    · exact h1.bd k hk
    · obtain ⟨a, ha, e⟩ := mem_blk.1 hk
      have := (own_lt h3 a ha).1
      exact .inr (by omega)
    · omega
  · rcases hf with hf | hf
    · rcases h1.bd k hf with e | e
      · exact e
      · omega
    · obtain ⟨a, ha, e⟩ := mem_blk.1 hf
      have := (own_lt h3 a ha).1
      omega
/-- What the first loop comes to is where the second one begins. -/
theorem TL2.start {base E : Nat} {m : RMem} {s : ES} {F : Nat → Prop} {w wx : World} (h : TL1 base E m s F w wx m.strays.length) : TL2 base E m (s.comeAll (stJ m.strays s.now)) F w wx 0 (.slice none 0 0) 0 := by
  obtain ⟨F1, m1, h1⟩ := h
  rw [List.take_length] at h1
  exact ⟨F1, m1, h1, rfl, World.ownsRow_nil _ _ _ _, fun g hg => by cases hg⟩
theorem tick_eq {m : RMem} {s : ES} (h : AbR m s) : s.tick = { (({ s with now := s.now + 1 } : ES).comeAll (stJ m.strays (s.now + 1))).comeAll (arJ m.l (s.now + 1)) with sky := (otJ m.l (s.now + 1)).map GX.g } := by
  unfold ES.tick
  rw [stJ_st h.strays, arJ_ar h.sky, otJ_ot h.sky]
  have e1 := comeAll_withsky (stJ m.strays (s.now + 1)) ({ s with now := s.now + 1 } : ES) ((otJ m.l (s.now + 1)).map GX.g)
  have e2 := comeAll_withsky (arJ m.l (s.now + 1)) (({ s with now := s.now + 1 } : ES).comeAll (stJ m.strays (s.now + 1))) ((otJ m.l (s.now + 1)).map GX.g)
  exact (congrArg (fun z => ES.comeAll z (arJ m.l (s.now + 1))) e1).trans e2
theorem tickN_eq {m : RMem} {s : ES} (h : AbR m s) : s.tickN = (stJ m.strays (s.now + 1)).length + (arJ m.l (s.now + 1)).length := by
  unfold ES.tickN
  rw [stJ_st h.strays, ← arJ_ar h.sky, List.length_map]
theorem wpList_rest {ops : Array Oper} {rest : List Oper} {o : Oper} {a : Act} {wr wa : World} {Q : Exit → Act → World → Prop} {base n c : Nat} {A : Option Addr} {l : List GX} {g : GX} (hgd : o.guard = none) (s y : Operand) (ho : o.op = .call { callee := .builtin .append, args := #[s, y], argTypes := #[79, 79] })
    (hs : a.eval s = .slice A n c) (hx : a.eval y = .slice (some ⟨wr.heap.size, 0, none⟩) 1 1) (hal : Below wr.heap.size wr wa) (hbk : Bk wa wr.heap.size 92 g.cells) (hr : wr.ownsRow base 92 4 (.slice A n c) n (gxs l)) (hn : n ≤ 1000000) (hb : base ≤ wr.heap.size)
    (h : ∀ A1 c1 w1, Hid (w1.ownsRow base 92 4 (.slice A1 (n + 1) c1) (n + 1) (gxs (l ++ [g])) ∧ wr.grownBy w1 (Value.slice A n c).ownBlock ∧ ((Value.slice A1 (n + 1) c1).ownBlock = (Value.slice A n c).ownBlock ∨ ∃ k, (Value.slice A1 (n + 1) c1).ownBlock = some k ∧ wr.heap.size ≤ k)) → wpList Try.prog ops Q rest (a.put o.dst (.slice A1 (n + 1) c1)) w1) :
    wpList Try.prog ops Q (o :: rest) a wa := by
  obtain ⟨i0, hi0, hz0, hz1, hz2⟩ := info_parts gram_info
  have hrd : Rd wa (some ⟨wr.heap.size, 0, none⟩) (1 * 4) g.cells := Rd.of_bk hbk (Nat.le_refl _) (by rw [List.drop_zero]; exact List.take_of_length_le (Nat.le_refl _))
  refine wpList_append_rd wa hgd s y _ ho base 92 i0 _ 4 48 Try.underlying79 hi0 hz0 hz1 hz2 rfl (by omega) _ n (gxs l) hs (own_below hr hal) _ 1 1 g.cells hx hrd (gx_one g) (by simp only [maxLen]; omega) (by omega) (Nat.le_trans hb hal.size) ?_
  intro v1 w1 hown1 hg1 hat1
  rw [← gxs_one g, ← gxs_append] at hown1
  obtain ⟨A1, c1, rfl⟩ := own_sl hown1
  exact h A1 c1 w1 (Lib.hid ⟨hown1, grownBy_trans (grownBy_of_below hal) hg1, hat1.imp id fun e => ⟨_, e, hal.size⟩⟩)
set_option maxRecDepth 100000 in
set_option maxHeartbeats 6400000 in
theorem rtick_any {w : World} {base E N : Nat} {s : ES} {F : Nat → Prop} (h : Rw w base E s N F) (hok : s.ok) (hnow : s.now ≤ 1000000) (hlo : s.lost ≤ 800000000) (hsk : s.sky.length ≤ 900000) (hst : s.strays.length ≤ 100000) :
    Calls Try.prog 51 #[.pointer (some ⟨E, 0, none⟩)] w fun e w' => e = .returned (.tuple #[.int .i64 (s.tickN : Nat), .int .i64 0]) ∧ RTo base E s.tick N F w w' := by
  obtain ⟨m, hm, ha, hsN⟩ := h
  obtain ⟨nw, hnw⟩ : ∃ k, m.now = k := ⟨_, rfl⟩
  obtain ⟨ns, hns⟩ : ∃ k, m.strays.length = k := ⟨_, rfl⟩
  obtain ⟨nl, hnl⟩ : ∃ k, m.l.length = k := ⟨_, rfl⟩
  have hns1 : ns ≤ 100000 := by rw [← hns]; have := hst; rw [ha.strays, List.length_map] at this; exact this
  have hnl1 : nl ≤ 900000 := by rw [← hnl]; have := hsk; rw [ha.sky, List.length_map] at this; exact this
  have n0 := hok.now
  have l0 := hok.lost
  rw [ha.now, hnw] at n0 hnow
  have c2 : w.cell? ⟨E, 2, none⟩ = some (.int .i64 nw) := by rw [← hnw]; exact hm.e.cell 2
  have f2 := hm.e.frozen 2
  have eN : IntKind.i64.wrap (nw + 1) = nw + 1 := by rw [IntKind.wrap_i64]; omega
  obtain ⟨s0, hs0⟩ : ∃ s0, ({ s with now := s.now + 1 } : ES) = s0 := ⟨_, rfl⟩
  obtain ⟨m0, hm0⟩ : ∃ m0, ({ m with now := m.now + 1 } : RMem) = m0 := ⟨_, rfl⟩
  have hT : s0.now = nw + 1 ∧ m0.now = nw + 1 ∧ m0.strays = m.strays ∧ m0.l = m.l := by subst hs0 hm0; exact ⟨by show s.now + 1 = nw + 1; rw [ha.now, hnw], by show m.now + 1 = nw + 1; rw [hnw], rfl, rfl⟩
  have hX0 : TL1 base E m0 s0 F w (w.setCell ⟨E, 2, none⟩ (.int .i64 (nw + 1))) 0 := by
    subst hs0 hm0 hnw
    obtain ⟨y1, y2⟩ := hm.atE (m' := { m with now := m.now + 1 }) 2 (.int .i64 (m.now + 1)) rfl ⟨rfl, rfl, rfl, rfl, rfl, rfl⟩ ⟨rfl, rfl, rfl⟩ ⟨rfl, rfl, rfl⟩
    exact ⟨F, _, y1, ⟨ha.fates, ha.strays, by show s.now + 1 = m.now + 1; rw [ha.now], ha.number, ha.lost, ha.sky, ha.b0, ha.b1⟩, ⟨rfl, rfl, rfl⟩, ⟨rfl, rfl, rfl⟩, ⟨rfl, rfl, rfl⟩, fun k hk => .inl hk, y2⟩
  have HX0 := Lib.hid hX0
  have hL : ∀ l : List (Int × List UInt8), 0 ≤ (s0.comeAll l).lost ∧ (s0.comeAll l).lost ≤ 800000000 + l.length := fun l => by
    have := comeAll_lost l s0
    have e : s0.lost = s.lost := by subst hs0; rfl
    rw [e] at this
    omega
  have hds : ∀ y ∈ m0.strays, y.dst = 0 ∨ y.dst = 1 := fun y hy => by
    rw [hT.2.2.1] at hy
    have := hok.st y.t (by rw [ha.strays]; exact List.mem_map.2 ⟨y, hy, rfl⟩)
    exact this.2
  have hdl : ∀ g ∈ m0.l, g.d = 0 ∨ g.d = 1 := fun g hg => by
    rw [hT.2.2.2] at hg
    have := hok.sky g.g (by rw [ha.sky]; exact List.mem_map.2 ⟨g, hg, rfl⟩)
    exact this.2.2.2
  have H := Lib.hid (And.intro hm (And.intro ha (And.intro hsN (And.intro hs0 (And.intro hm0 (And.intro hT (And.intro hL (And.intro hds (And.intro hdl hm.bs)))))))))
  have HN := Lib.hid (And.intro (show m0.strays.length = ns by rw [hT.2.2.1]; exact hns) (show m0.l.length = nl by rw [hT.2.2.2]; exact hnl))
  clear hm ha hsN hs0 hm0 hT hX0 hL hds hdl hnw hns hnl hok hsk hst hlo l0
  have hw2 : nw ≤ 1000000 := hnow
  go_enter Try.func51, Try.ntmps51
  go_wp2_with fail
  go_loopw [4, 5] (fun v4 v5 wx => ∃ j : Nat, j ≤ ns ∧ v5 = .int .i64 (j : Nat) ∧ v4 = .int .i64 ((stJ (m0.strays.take j) s0.now).length : Nat) ∧ Hid (TL1 base E m0 s0 F w wx j)) (fun v4 v5 wx => ns - (intOf v5).toNat)
  case atStart => exact ⟨0, Nat.zero_le _, rfl, rfl, HX0⟩
  case round =>
    obtain ⟨j, hj, rfl, rfl, HJ⟩ := hrel
    by_cases hlt : j < ns
    · have hjl : j < m0.strays.length := by rw [HN.out.1]; exact hlt
      obtain ⟨F1, m1, hX⟩ := HJ.out
      obtain ⟨e1, e2, _⟩ := hX.cells
      obtain ⟨g, at_, dst, B, n, c, x, hSA, hy, y0, y1, y2, hrd, hn7⟩ := hX.stray hjl
      rw [hSA, HN.out.1] at e1
      rw [H.out.2.2.2.2.2.1.2.1] at e2
      obtain ⟨k, o, hkd, hko⟩ : ∃ k o : Nat, dst = (k : Int) ∧ ((k = 0 ∧ o = 6) ∨ (k = 1 ∧ o = 7)) := by
        have := H.out.2.2.2.2.2.2.2.1 _ (List.getElem_mem hjl)
        rw [hy] at this
        rcases this with h | h
        · exact ⟨0, 6, h, .inl ⟨rfl, rfl⟩⟩
        · exact ⟨1, 7, h, .inr ⟨rfl, rfl⟩⟩
      subst hkd
      obtain ⟨q, hq⟩ : ∃ q, (stJ (m0.strays.take j) s0.now).length = q := ⟨_, rfl⟩
      have hqb : q ≤ 100000 := by have := stJ_len m0.strays s0.now j; rw [hq, HN.out.1] at this; omega
      have kd : decide ((j : Int) < (ns : Int)) = true := decide_eq_true (by omega)
      have kd' : decide (j < ns) = true := decide_eq_true hlt
      have j0 : (0 : Int) ≤ (j : Int) := by omega
      have kdp : (j : Int) < (ns : Int) := by omega
      have ej : IntKind.i64.wrap ((j : Int) + 1) = ((j + 1 : Nat) : Int) := by rw [IntKind.wrap_i64]; omega
      have eq' : IntKind.i64.wrap ((q : Int) + 1) = ((q + 1 : Nat) : Int) := by rw [IntKind.wrap_i64]; omega
      have hlost := H.out.2.2.2.2.2.2.1 (stJ (m0.strays.take j) s0.now)
      have HR := Lib.hid (And.intro hX (And.intro hjl (And.intro hy (And.intro hrd (And.intro hn7 (And.intro hq (And.intro hko (And.intro hqb (And.intro hlt hlost)))))))))
      rw [hq]
      clear hX hy hrd hn7 hq hko hqb hSA hlost
      by_cases hat : at_ = nw + 1
      · have b1 : (at_ == nw + 1) = true := by simpa using hat
        have HA := Lib.hid hat
        clear hat
        go_wp2_with fail
        go_quiet (fail)
        have hR9 := HR.out.1.below (below_dN (Below.refl wr.heap.size wr) nq)
        have hr9 := HR.out.2.2.2.1.below (below_dN (Below.refl wr.heap.size wr) nq)
        have H9 := Lib.hid (And.intro hR9 hr9)
        replace e1 : (wr.drewN nq).cell? _ = _ := e1
        replace e2 : (wr.drewN nq).cell? _ = _ := e2
        replace y0 : (wr.drewN nq).cell? _ = _ := y0
        replace y1 : (wr.drewN nq).cell? _ = _ := y1
        replace y2 : (wr.drewN nq).cell? _ = _ := y2
        clear hR9 hr9
        generalize wr.drewN nq = w9 at e1 e2 y0 y1 y2 H9 ⊢
        go_wp2_with fail
        go_still_tail 17, (by kernel_rfl)
        change wpList _ _ _ _ _ w9.drew
        go_wp2_with fail
        refine (rcomes_any (k := k) (H9.out.1.rm.below (below_dN (Below.refl _ _) 1)) H9.out.1.ab (H9.out.2.below (below_dN (Below.refl _ _) 1)) HR.out.2.2.2.2.1 HR.out.2.2.2.2.2.2.1 ⟨HR.out.2.2.2.2.2.2.2.2.2.1, by have := HR.out.2.2.2.2.2.2.2.2.2.2; have := HR.out.2.2.2.2.2.2.2.1; have := HR.out.2.2.2.2.2.1; omega⟩).mono ?_
        rintro _ w5 ⟨rfl, hco⟩
        have HC := Lib.hid (show TL1 base E m0 s0 F w w5 (j + 1) from TL1.hit (n := n) (H9.out.1.below (below_dN (Below.refl _ _) 1)) HR.out.2.1 HR.out.2.2.1 (by rw [HA.out, H.out.2.2.2.2.2.1.1]) hco)
        have HQ2 := Lib.hid (show (stJ (m0.strays.take (j + 1)) s0.now).length = q + 1 by rw [stJ_succ HR.out.2.1, HR.out.2.2.1, if_pos (by rw [HA.out, H.out.2.2.2.2.2.1.1]), List.length_append, HR.out.2.2.2.2.2.1]; rfl)
        clear hco y0 y1 y2 e1 e2 HJ
        go_wp2_with fail
        refine ⟨⟨j + 1, hlt, rfl, by rw [HQ2.out]; rfl, HC⟩, by show ns - ((j : Int) + 1).toNat < ns - ((j : Int)).toNat; omega⟩
      · have b1 : (at_ == nw + 1) = false := by simpa using hat
        have HA := Lib.hid hat
        clear hat
        go_wp2_with fail
        go_quiet (fail)
        have HC := Lib.hid (show TL1 base E m0 s0 F w (wr.drewN nq) (j + 1) from TL1.miss ⟨_, _, HR.out.1.below (below_dN (Below.refl wr.heap.size wr) nq)⟩ HR.out.2.1 HR.out.2.2.1 (by rw [H.out.2.2.2.2.2.1.1]; exact HA.out))
        have HQ2 := Lib.hid (show (stJ (m0.strays.take (j + 1)) s0.now).length = q by rw [stJ_succ HR.out.2.1, HR.out.2.2.1, if_neg (by rw [H.out.2.2.2.2.2.1.1]; exact HA.out), List.append_nil, HR.out.2.2.2.2.2.1])
        clear y0 y1 y2 e1 e2 HJ
        go_wp2_with fail
        refine ⟨⟨j + 1, hlt, rfl, by rw [HQ2.out], HC⟩, by show ns - ((j : Int) + 1).toNat < ns - ((j : Int)).toNat; omega⟩
    · obtain rfl : j = ns := by omega
      have kd : decide ((j : Int) < (j : Int)) = false := decide_eq_false (by omega)
      have kd' : decide (j < j) = false := decide_eq_false (by omega)
      obtain ⟨F1, m1, hX⟩ := HJ.out
      obtain ⟨e1, e2, e5⟩ := hX.cells
      rw [HN.out.1] at e1
      obtain ⟨SA, hSA⟩ : ∃ A, m0.SA = A := ⟨_, rfl⟩
      obtain ⟨sc, hsc⟩ : ∃ A, m0.sc = A := ⟨_, rfl⟩
      rw [hSA, hsc] at e1
      have hjt : (stJ (m0.strays.take j) s0.now) = stJ m0.strays s0.now := by rw [List.take_of_length_le (by rw [HN.out.1]; exact Nat.le_refl _)]
      obtain ⟨Q, hQ⟩ : ∃ Q, (stJ m0.strays s0.now).length = Q := ⟨_, rfl⟩
      have hQb : Q ≤ 100000 := by have := stJ_len m0.strays s0.now j; rw [hjt, hQ, HN.out.1] at this; omega
      obtain ⟨s1, hs1⟩ : ∃ s1, s0.comeAll (stJ m0.strays s0.now) = s1 := ⟨_, rfl⟩
      have hn1 : s1.now = s0.now := by rw [← hs1]; exact (comeAll_same _ _).2.2.1
      have hl1 : ∀ l : List (Int × List UInt8), 0 ≤ (s1.comeAll l).lost ∧ (s1.comeAll l).lost ≤ 800100000 + l.length := fun l => by
        have := H.out.2.2.2.2.2.2.1 (stJ m0.strays s0.now ++ l)
        rw [ES.comeAll_append, hs1, List.length_append, hQ] at this
        omega
      have hT2 : TL2 base E m0 s1 F w wr 0 (.slice none 0 0) 0 := by
        have := HJ.out
        rw [show j = m0.strays.length from HN.out.1.symm] at this
        have := TL2.start this
        rw [hs1] at this
        exact this
      have HT2 := Lib.hid hT2
      have H1 := Lib.hid (And.intro hs1 (And.intro hn1 (And.intro hl1 hQ)))
      rw [hjt, hQ]
      clear hX e2 e5 hSA hsc hjt hQ hs1 hn1 hl1 hT2 HJ hlt hj
      go_wp2_with fail
      clear e1
      go_loopw [4, 6, 7] (fun v4 v6 v7 wx => ∃ i : Nat, i ≤ nl ∧ v7 = .int .i64 (i : Nat) ∧ v4 = .int .i64 ((Q + (arJ (m0.l.take i) s1.now).length : Nat) : Int) ∧ ∃ A r c, v6 = .slice A r c ∧ Hid (TL2 base E m0 s1 F w wx i (.slice A r c) r)) (fun v4 v6 v7 wx => nl - (intOf v7).toNat)
      case atStart => exact ⟨0, Nat.zero_le _, rfl, rfl, none, 0, 0, rfl, HT2⟩
      case round =>
        obtain ⟨i, hi, rfl, rfl, A, r, c, rfl, HJ⟩ := hrel
        obtain ⟨F1, m1, hX, hr, hown, hne⟩ := HJ.out
        have hi9 := H1.out.2.1
        obtain ⟨e1, e2, e5⟩ := hX.cells
        rw [H.out.2.2.2.2.2.1.2.1] at e2
        rw [HN.out.2] at e5
        have hr9 : r ≤ 900000 := by have := otJ_len m0.l s1.now i; rw [← hr, HN.out.2] at this; omega
        obtain ⟨q, hq⟩ : ∃ q, (arJ (m0.l.take i) s1.now).length = q := ⟨_, rfl⟩
        have hqb : q ≤ 900000 := by have := arJ_len m0.l s1.now i; rw [hq, HN.out.2] at this; omega
        rw [hq]
        by_cases hlt : i < nl
        · have hil : i < m0.l.length := by rw [HN.out.2]; exact hlt
          obtain ⟨g, d, at_, b, B, n, c', x, hLA, hy, y0, y1, y2, y3, hrd, hn7⟩ := hX.gram hil
          rw [hLA] at e5
          obtain ⟨k, o, hkd, hko⟩ : ∃ k o : Nat, d = (k : Int) ∧ ((k = 0 ∧ o = 6) ∨ (k = 1 ∧ o = 7)) := by
            have := H.out.2.2.2.2.2.2.2.2.1 _ (List.getElem_mem hil)
            rw [hy] at this
            rcases this with h | h
            · exact ⟨0, 6, h, .inl ⟨rfl, rfl⟩⟩
            · exact ⟨1, 7, h, .inr ⟨rfl, rfl⟩⟩
          subst hkd
          have kd : decide ((i : Int) < (nl : Int)) = true := decide_eq_true (by omega)
          have kd' : decide (i < nl) = true := decide_eq_true hlt
          have j0 : (0 : Int) ≤ (i : Int) := by omega
          have kdp : (i : Int) < (nl : Int) := by omega
          have ej : IntKind.i64.wrap ((i : Int) + 1) = ((i + 1 : Nat) : Int) := by rw [IntKind.wrap_i64]; omega
          have eq' : IntKind.i64.wrap (((Q + q : Nat) : Int) + 1) = ((Q + (q + 1) : Nat) : Int) := by rw [IntKind.wrap_i64]; omega
          have eq2 : IntKind.i64.wrap ((Q : Int) + (q : Int) + 1) = ((Q + (q + 1) : Nat) : Int) := by rw [IntKind.wrap_i64]; omega
          have hlost := H1.out.2.2.1 (arJ (m0.l.take i) s1.now)
          have HR := Lib.hid (And.intro hX (And.intro hil (And.intro hy (And.intro hrd (And.intro hn7 (And.intro hq (And.intro hko (And.intro hlost (And.intro hr (And.intro hown (And.intro hne hi9)))))))))))
          clear hX hy hrd hn7 hq hko hLA hlost hr hown hne hi9 e1
          by_cases hat : at_ = nw + 1
          · have b1 : (at_ == nw + 1) = true := by simpa using hat
            have HA := Lib.hid (show at_ = s1.now by rw [hat, HR.out.2.2.2.2.2.2.2.2.2.2.2, H.out.2.2.2.2.2.1.1])
            clear hat
            go_wp2_with fail
            go_quiet (fail)
            have hR9 := HR.out.1.below (below_dN (Below.refl wr.heap.size wr) nq)
            have hr9 := HR.out.2.2.2.1.below (below_dN (Below.refl wr.heap.size wr) nq)
            have ho9 := own_below HR.out.2.2.2.2.2.2.2.2.2.1 (below_dN (Below.refl wr.heap.size wr) nq)
            have H9 := Lib.hid (And.intro hR9 (And.intro hr9 ho9))
            replace e5 : (wr.drewN nq).cell? _ = _ := e5
            replace e2 : (wr.drewN nq).cell? _ = _ := e2
            replace y0 : (wr.drewN nq).cell? _ = _ := y0
            replace y1 : (wr.drewN nq).cell? _ = _ := y1
            replace y3 : (wr.drewN nq).cell? _ = _ := y3
            clear hR9 hr9 ho9 y2
            generalize wr.drewN nq = w9 at e5 e2 y0 y1 y3 H9 ⊢
            go_wp2_with fail
            go_still_tail 17, (by kernel_rfl)
            change wpList _ _ _ _ _ w9.drew
            go_wp2_with fail
            have hqi := hqb
            refine (rcomes_any (k := k) (H9.out.1.rm.below (below_dN (Below.refl _ _) 1)) H9.out.1.ab (H9.out.2.1.below (below_dN (Below.refl _ _) 1)) HR.out.2.2.2.2.1 HR.out.2.2.2.2.2.2.1 ⟨HR.out.2.2.2.2.2.2.2.1.1, by have := HR.out.2.2.2.2.2.2.2.1.2; have := HR.out.2.2.2.2.2.1; omega⟩).mono ?_
            rintro _ w5 ⟨rfl, hco⟩
            have HC := Lib.hid (show TL2 base E m0 s1 F w w5 (i + 1) (.slice A r c) r from TL2.hit (n := n) (H9.out.1.below (below_dN (Below.refl _ _) 1)) HR.out.2.2.2.2.2.2.2.2.1 (own_below H9.out.2.2 (below_dN (Below.refl _ _) 1)) HR.out.2.2.2.2.2.2.2.2.2.2.1 HR.out.2.1 HR.out.2.2.1 HA.out hco)
            have HQ2 := Lib.hid (show (arJ (m0.l.take (i + 1)) s1.now).length = q + 1 by rw [arJ_succ HR.out.2.1, HR.out.2.2.1, if_pos HA.out, List.length_append, HR.out.2.2.2.2.2.1]; rfl)
            clear hco y0 y1 y3 e2 e5 HJ
            go_wp2_with fail
            refine ⟨⟨i + 1, hlt, rfl, by rw [HQ2.out]; rfl, A, r, c, rfl, HC⟩, by show nl - ((i : Int) + 1).toNat < nl - ((i : Int)).toNat; omega⟩
          · have b1 : (at_ == nw + 1) = false := by simpa using hat
            have HA := Lib.hid (show at_ ≠ s1.now by rw [HR.out.2.2.2.2.2.2.2.2.2.2.2, H.out.2.2.2.2.2.1.1]; exact hat)
            clear hat
            go_wp2_with fail
            go_quiet (fail)
            have hR9 := HR.out.1.below (below_dN (Below.refl wr.heap.size wr) nq)
            have ho9 := own_below HR.out.2.2.2.2.2.2.2.2.2.1 (below_dN (Below.refl wr.heap.size wr) nq)
            have H9 := Lib.hid (And.intro hR9 (And.intro ho9 (show w.heap.size ≤ (wr.drewN nq).heap.size from HR.out.1.ch.size)))
            replace e5 : (wr.drewN nq).cell? _ = _ := e5
            replace e2 : (wr.drewN nq).cell? _ = _ := e2
            replace y0 : (wr.drewN nq).cell? _ = _ := y0
            replace y1 : (wr.drewN nq).cell? _ = _ := y1
            replace y2 : (wr.drewN nq).cell? _ = _ := y2
            replace y3 : (wr.drewN nq).cell? _ = _ := y3
            clear hR9 ho9
            generalize wr.drewN nq = w9 at e5 e2 y0 y1 y2 y3 H9 ⊢
            go_wp2_with (at_builtin; refine wpList_rest (wr := w9) (l := otJ (m0.l.take i) s1.now) (g := ⟨k, at_, b, B, n, c', x⟩) (by rfl) (.tmp 99) (.tmp 107) (by rfl) (by rfl) (by rfl) ((Below.refl _ _).alloc (Nat.le_refl _) _) (Bk.newA w9 92 #[.int .i64 (k : Int), .int .i64 at_, .int .i64 b, .slice B n c']) H9.out.2.1 (by omega) H9.out.2.2 ?_; intro A4 c4 w4 H4)
            have HC := Lib.hid (show TL2 base E m0 s1 F w w4 (i + 1) (.slice A4 (r + 1) c4) (r + 1) from TL2.miss (n := n) H9.out.1 HR.out.2.2.2.2.2.2.2.2.1 H9.out.2.1 HR.out.2.2.2.2.2.2.2.2.2.2.1 HR.out.2.1 HR.out.2.2.1 HA.out H4.out.1 H4.out.2.1 H4.out.2.2)
            have HQ2 := Lib.hid (show (arJ (m0.l.take (i + 1)) s1.now).length = q by rw [arJ_succ HR.out.2.1, HR.out.2.2.1, if_neg HA.out, List.append_nil, HR.out.2.2.2.2.2.1])
            clear y0 y1 y2 y3 e2 e5 HJ
            go_wp2_with fail
            refine ⟨⟨i + 1, hlt, rfl, by rw [HQ2.out]; rfl, A4, r + 1, c4, rfl, HC⟩, by show nl - ((i : Int) + 1).toNat < nl - ((i : Int)).toNat; omega⟩
        · obtain rfl : i = nl := by omega
          have kd : decide ((i : Int) < (i : Int)) = false := decide_eq_false (by omega)
          have kd' : decide (i < i) = false := decide_eq_false (by omega)
          have f5 := hX.rm.e.frozen 5
          obtain ⟨LA, hLA⟩ : ∃ A, m0.LA = A := ⟨_, rfl⟩
          obtain ⟨lc, hlc⟩ : ∃ A, m0.lc = A := ⟨_, rfl⟩
          rw [hLA, hlc] at e5
          have hit : arJ (m0.l.take i) s1.now = arJ m0.l s1.now := by rw [List.take_of_length_le (by rw [HN.out.2]; exact Nat.le_refl _)]
          rw [hit] at hq
          have hTD : RTo base E s.tick N F w (wr.setCell ⟨E, 5, none⟩ (.slice A r c)) := by
            have h := HJ.out
            rw [show i = m0.l.length from HN.out.2.symm] at h
            have z := h.done (N := N) H.out.2.2.2.2.2.2.2.2.2 (by rw [← H.out.2.2.2.2.1]; exact H.out.2.2.1)
            rw [tick_eq H.out.2.1]
            have a1 := H.out.2.2.2.1
            have a2 := H.out.2.2.2.2.2.1
            have a3 : s.now + 1 = s1.now := by rw [hi9, ← a1]
            rw [a1, a3, ← a2.2.2.1, ← a2.2.2.2, hi9, H1.out.1, ← hi9]
            exact z
          have hTN : s.tickN = Q + q := by
            rw [tickN_eq H.out.2.1]
            have a1 := H.out.2.2.2.1
            have a2 := H.out.2.2.2.2.2.1
            have a3 : s.now + 1 = s0.now := by rw [← a1]
            rw [a3, ← a2.2.2.1, ← a2.2.2.2, H1.out.2.2.2, ← hi9, hq]
          have HD := Lib.hid (And.intro hTD hTN)
          clear hX hr hown hne hi9 e1 e2 hLA hlc hit hq hTD hTN HJ
          go_wp2_with fail
          go_ret2
          exact ⟨by rw [HD.out.2]; rfl, HD.out.1⟩
end Go.Proofs.Ytknpghemogfenaa
