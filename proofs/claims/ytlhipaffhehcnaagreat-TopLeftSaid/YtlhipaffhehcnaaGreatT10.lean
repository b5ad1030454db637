/- Elements of a heap of container/heap: plain words; a row of them in memory. Printed by gen_He.py. A container/heap in memory: Len, Less, Swap, and how the interface finds them. Printed by gen_Hm.py. container/heap: its methods through the interface; up, down. Printed by gen_Hu.py. container/heap: Push, Pop. Printed by gen_Hs.py. -/
import Derived.Test.YtlhipaffhehcnaaGreatT02
import Derived.Test.YtlhipaffhehcnaaGreatT04
import Derived.Deep.MidRow
import Derived.BigQuiet
import Derived.Deep.QuietTactic
import Derived.Deep.RegionHeld3
import Derived.Deep.RegionLaw
namespace Go.Proofs.YtlhipaffhehcnaaGreat
open Go.RowKit
set_option linter.unusedVariables false
/-- An element: two numbers that tell which is first, and what it bears. -/
structure HE where
  a : Int
  b : Int
def HE.cells (e : HE) : List Value := [.int .i64 e.a, .int .i64 e.b]
def he0 : HE := ⟨0, 0⟩
def HE.key (e : HE) : Int := e.a * 1099511627776 + e.b
def HE.less (e f : HE) : Bool := decide (e.a < f.a) || (e.a == f.a && decide (e.b < f.b))
/-- Its second number is a small one. -/
def HE.fit (e : HE) : Prop := 0 ≤ e.b ∧ e.b < 1099511627776
theorem less_key {e f : HE} (he : e.fit) (hf : f.fit) : e.less f = decide (e.key < f.key) := by
  have h1 := he.1; have h2 := he.2; have h3 := hf.1; have h4 := hf.2
  rw [Bool.eq_iff_iff]
  unfold HE.less HE.key
  simp only [Bool.or_eq_true, Bool.and_eq_true, decide_eq_true_eq, beq_iff_eq]
  omega
def gx (l : List HE) (i : Nat) : HE := l.getD i he0
def keys (l : List HE) : List Int := l.map HE.key
theorem gx_get {l : List HE} {i : Nat} (h : i < l.length) : gx l i = l[i] := by simp [gx, List.getD_eq_getElem?_getD, h]
theorem gx_mem {l : List HE} {i : Nat} (h : i < l.length) : gx l i ∈ l := by rw [gx_get h]; exact List.getElem_mem h
theorem gx_some {l : List HE} {i : Nat} (h : i < l.length) : l[i]? = some (gx l i) := by rw [gx_get h]; exact List.getElem?_eq_getElem h
theorem gi_keys {l : List HE} {i : Nat} (h : i < l.length) : gi (keys l) i = (gx l i).key := by
  rw [gi_get (by simpa [keys] using h), gx_get h]; simp [keys]
theorem keys_length (l : List HE) : (keys l).length = l.length := by simp [keys]
def swx (l : List HE) (i j : Nat) : List HE := (l.set i (gx l j)).set j (gx l i)
theorem swx_length (l : List HE) (i j : Nat) : (swx l i j).length = l.length := by simp [swx]
theorem swx_perm {l : List HE} {i j : Nat} (hi : i < l.length) (hj : j < l.length) : (swx l i j).Perm l := by
  unfold swx; rw [gx_get hi, gx_get hj]; exact List.set_set_perm hi hj
theorem swx_keys {l : List HE} {i j : Nat} (hi : i < l.length) (hj : j < l.length) : keys (swx l i j) = swp (keys l) i j := by
  unfold swx swp
  rw [gi_keys hi, gi_keys hj]
  simp [keys, List.map_set]
theorem swx_get? {l : List HE} {i j : Nat} (hi : i < l.length) (hj : j < l.length) (m : Nat) : (swx l i j)[m]? = if j = m then some (gx l i) else if i = m then some (gx l j) else l[m]? := by
  unfold swx
  rw [List.getElem?_set, List.getElem?_set]
  simp only [List.length_set]
  by_cases e1 : j = m
  · subst e1; simp [hj]
  · rw [if_neg e1, if_neg e1]
    by_cases e2 : i = m
    · subst e2; simp [hi]
    · rw [if_neg e2, if_neg e2]
theorem gx_swx {l : List HE} {i j : Nat} (hi : i < l.length) (hj : j < l.length) (m : Nat) : gx (swx l i j) m = if j = m then gx l i else if i = m then gx l j else gx l m := by
  unfold gx
  rw [List.getD_eq_getElem?_getD, swx_get? hi hj]
  split
  · rfl
  · split
    · rfl
    · rw [List.getD_eq_getElem?_getD]
def FitL (l : List HE) : Prop := ∀ e ∈ l, e.fit
theorem FitL.perm {l l' : List HE} (h : FitL l) (hp : l'.Perm l) : FitL l' := fun e he => h e (hp.mem_iff.1 he)
theorem FitL.gx {l : List HE} (h : FitL l) {i : Nat} (hi : i < l.length) : (gx l i).fit := h _ (gx_mem hi)
/-- Their cells. -/
def ecs (l : List HE) : List Value := l.flatMap HE.cells
theorem cells_length (e : HE) : e.cells.length = 2 := rfl
theorem ecs_length (l : List HE) : (ecs l).length = l.length * 2 := by
  induction l with
  | nil => rfl
  | cons e l ih =>
    have : ecs (e :: l) = e.cells ++ ecs l := rfl
    rw [this, List.length_append, ih, cells_length, List.length_cons]; omega
theorem ecs_append (l l' : List HE) : ecs (l ++ l') = ecs l ++ ecs l' := List.flatMap_append
theorem ecs_get : ∀ {l : List HE} {i k : Nat}, i < l.length → k < 2 → (ecs l)[i * 2 + k]? = (gx l i).cells[k]?
  | [], i, k, h, _ => absurd h (Nat.not_lt_zero _)
  | e :: l, 0, k, h, hk => by
    have : ecs (e :: l) = e.cells ++ ecs l := rfl
    rw [this, List.getElem?_append_left (by rw [cells_length]; omega), Nat.zero_mul, Nat.zero_add]; rfl
  | e :: l, i + 1, k, h, hk => by
    have h1 : ecs (e :: l) = e.cells ++ ecs l := rfl
    rw [h1, List.getElem?_append_right (by rw [cells_length]; omega), cells_length, show (i + 1) * 2 + k - 2 = i * 2 + k from by omega]
    exact ecs_get (l := l) (Nat.lt_of_succ_lt_succ h) hk
theorem ecs_take (l : List HE) (n : Nat) : (ecs l).take (n * 2) = ecs (l.take n) := by
  by_cases hn : n ≤ l.length
  · have h := List.take_append_drop n l
    have h1 : ecs l = ecs (l.take n) ++ ecs (l.drop n) := by rw [← ecs_append, h]
    rw [h1, List.take_append_of_le_length (by rw [ecs_length, List.length_take]; omega), List.take_of_length_le (by rw [ecs_length, List.length_take]; omega)]
  · rw [List.take_of_length_le (by rw [ecs_length]; omega), List.take_of_length_le (by omega)]
theorem ecs_one (l : List HE) : ∀ u ∈ ecs l, u.oneCell' = true := by
  intro u hu
  obtain ⟨e, _, he⟩ := List.mem_flatMap.1 hu
  simp only [HE.cells, List.mem_cons, List.not_mem_nil, or_false] at he
  rcases he with rfl | rfl
  all_goals rfl
theorem cells_one (e : HE) : ∀ u ∈ e.cells, u.oneCell' = true := fun u hu => ecs_one [e] u (by simpa [ecs] using hu)
/-- A row of elements in memory. -/
def HR (w : World) (base : Nat) (v : Value) (l : List HE) : Prop := w.ownsRow base 171 2 v l.length (ecs l)
section
variable {w w' : World} {base : Nat} {v : Value} {l : List HE}
theorem HR.form (h : HR w base v l) : ∃ A c, v = .slice A l.length c ∧ l.length ≤ c ∧ (0 < l.length → ∃ g cur, A = some ⟨g, 0, none⟩ ∧ base ≤ g ∧ Bk w g 171 cur ∧ cur.length = c * 2 ∧ cur.take (l.length * 2) = ecs l) := by
  rcases h.2 with ⟨rfl, h2⟩ | ⟨g, cap, cur, rfl, hb, hh, hnc, hcm, hcs, ht⟩
  · have : l.length = 0 := h2
    exact ⟨none, 0, by rw [this], by omega, fun hp => absurd hp (by omega)⟩
  · exact ⟨_, cap, rfl, hnc, fun _ => ⟨g, cur.toList, rfl, hb, hh, by simpa using hcs, by simpa using ht⟩⟩
theorem HR.below (h : HR w base v l) (hb : Below w.heap.size w w') : HR w' base v l := own_below h hb
theorem HR.chg {S : Nat → Prop} (h : HR w base v l) (hc : Chg S w w') (hn : ∀ g, v.ownBlock = some g → ¬ S g) : HR w' base v l := by
  refine ⟨h.1, ?_⟩
  rcases h.2 with h2 | ⟨g, cap, cur, rfl, hb, hh, r⟩
  · exact .inl h2
  · exact .inr ⟨g, cap, cur, rfl, hb, (hc.2 g (Array.getElem?_eq_some_iff.1 hh).1 (hn g rfl)).trans hh, r⟩
/-- The cells at a place. -/
theorem HR.at_ (h : HR w base v l) {i : Nat} (hi : i < l.length) : ∃ g c, v = .slice (some ⟨g, 0, none⟩) l.length c ∧ g < w.heap.size ∧ w.rangeAt g (i * 2) (gx l i).cells ∧ w.there g (i * 2) 2 := by
  obtain ⟨A, c, rfl, hc, hf⟩ := h.form
  obtain ⟨g, cur, rfl, hb, hk, hl, ht⟩ := hf (by omega)
  have hlt : ∀ k, k < 2 → i * 2 + k < l.length * 2 := fun k hk => by omega
  have hget : ∀ k, k < 2 → w.cell? ⟨g, i * 2 + k, none⟩ = (gx l i).cells[k]? := fun k hk' => by
    rw [hk.cell, ← ecs_get hi hk', ← ht, List.getElem?_take, if_pos (hlt k hk')]
  refine ⟨g, c, rfl, hk.lt, fun k u hu => ?_, fun k hk' => ⟨?_, hk.frozen _⟩⟩
  · have hk' : k < 2 := (List.getElem?_eq_some_iff.1 hu).1
    rw [hget k hk']; exact hu
  · rw [hget k hk', List.getElem?_eq_getElem (by rw [cells_length]; exact hk')]; rfl
end
end Go.Proofs.YtlhipaffhehcnaaGreat
namespace Go.Proofs.YtlhipaffhehcnaaGreat
open Go.RowKit
set_option linter.unusedVariables false
theorem el_size : (Tryz.prog.info? 171).map (·.size) = some 2 := by kernel_rfl
set_option maxRecDepth 100000 in
theorem hLen_any {w : World} {A : Option Addr} {n c : Nat} (hn : n ≤ 1000000000) : Calls Tryz.prog 113 #[.slice A n c] w fun e w' => e = .returned (.int .i64 (n : Nat)) ∧ w = w' := by
  have hn' : (n : Int) ≤ 1000000000 := by omega
  clear hn
  go_enter Tryz.func113, Tryz.ntmps113
  go_wp2
  go_ret
  exact ⟨rfl, rfl⟩
theorem le_cells {w : World} {g o : Nat} {e : HE} (h : w.rangeAt g o e.cells) : w.cell? ⟨g, o, none⟩ = some (.int .i64 e.a) ∧ w.cell? ⟨g, o + 1, none⟩ = some (.int .i64 e.b) :=
  ⟨h 0 _ rfl, h 1 _ rfl⟩
set_option maxRecDepth 100000 in
set_option maxHeartbeats 1600000 in
theorem hLess_any {w : World} {base : Nat} {v : Value} {l : List HE} (h : HR w base v l) {i j : Nat} (hi : i < l.length) (hj : j < l.length) (hl : l.length ≤ 1000000000) :
    Calls Tryz.prog 186 #[v, .int .i64 (i : Nat), .int .i64 (j : Nat)] w fun e w' => e = .returned (.bool ((gx l i).less (gx l j))) ∧ ∃ k, w' = w.drewN k := by
  obtain ⟨g, c, rfl, hg, hri, _⟩ := h.at_ hi
  obtain ⟨g', c', e', hg', hrj, _⟩ := h.at_ hj
  injection e' with e1 e2 e3
  injection e1 with e1
  injection e1 with e1
  subst e1 e3
  obtain ⟨i0, i1⟩ := le_cells hri
  obtain ⟨j0, j1⟩ := le_cells hrj
  obtain ⟨L, hL⟩ : ∃ L, l.length = L := ⟨_, rfl⟩
  rw [hL] at hi hj hl ⊢
  have q0 : (0 : Int) ≤ (i : Int) := Int.natCast_nonneg _
  have q1 : (i : Int) < (L : Int) := by omega
  have q2 : (0 : Int) ≤ (j : Int) := Int.natCast_nonneg _
  have q3 : (j : Int) < (L : Int) := by omega
  have q4 : (L : Int) ≤ 1000000000 := by omega
  generalize gx l i = e at i0 i1 ⊢
  generalize gx l j = f at j0 j1 ⊢
  obtain ⟨x, hx⟩ : ∃ x, e.a = x := ⟨_, rfl⟩
  obtain ⟨y, hy⟩ : ∃ y, f.a = y := ⟨_, rfl⟩
  obtain ⟨z, hz⟩ : ∃ z, e.b = z := ⟨_, rfl⟩
  obtain ⟨u, hu⟩ : ∃ u, f.b = u := ⟨_, rfl⟩
  have HV := Lib.hid (show e.less f = (decide (x < y) || (x == y && decide (z < u))) from by unfold HE.less; rw [hx, hy, hz, hu])
  rw [hx] at i0
  rw [hy] at j0
  rw [hz] at i1
  rw [hu] at j1
  clear hx hy hz hu hri hrj h hL hg hg' hi hj hl
  by_cases d1 : x < y
  · have d2 : decide (x < y) = true := by simpa using d1
    have HW := Lib.hid (show (decide (x < y) || (x == y && decide (z < u))) = true from by simp [d1])
    clear d1
    go_enter Tryz.func186, Tryz.ntmps186
    go_wp2_with fail
    go_quiet (fail)
    go_wp2_with fail
    go_ret
    exact ⟨ret_bool (by rw [HV.out, HW.out]), _, rfl⟩
  · have d2 : decide (x < y) = false := by simpa using d1
    by_cases d3 : x = y
    · subst d3
      have d4 : (x == x) = true := by simp
      have HW := Lib.hid (show (decide (x < x) || (x == x && decide (z < u))) = decide (z < u) from by simp)
      clear d1
      go_enter Tryz.func186, Tryz.ntmps186
      go_wp2_with fail
      go_quiet (fail)
      go_wp2_with fail
      go_ret
      exact ⟨ret_bool (by rw [HV.out, HW.out]), _, rfl⟩
    · have d4 : (x == y) = false := by simpa using d3
      have HW := Lib.hid (show (decide (x < y) || (x == y && decide (z < u))) = false from by rw [d2, d4]; rfl)
      clear d1 d3
      go_enter Tryz.func186, Tryz.ntmps186
      go_wp2_with fail
      go_quiet (fail)
      go_wp2_with fail
      go_ret
      exact ⟨ret_bool (by rw [HV.out, HW.out]), _, rfl⟩
/-- How two places of a row are exchanged in memory. -/
theorem HR.swap {w : World} {base g c : Nat} {l : List HE} (h : HR w base (.slice (some ⟨g, 0, none⟩) l.length c) l) {i j : Nat} (hi : i < l.length) (hj : j < l.length) :
    HR ((w.setCells g (i * 2) (gx l j).cells).setCells g (j * 2) (gx l i).cells) base (.slice (some ⟨g, 0, none⟩) l.length c) (swx l i j) ∧ Chg (fun k => k = g) w ((w.setCells g (i * 2) (gx l j).cells).setCells g (j * 2) (gx l i).cells) := by
  obtain ⟨A, c', e', hc, hf⟩ := h.form
  injection e' with e1 e2 e3
  subst e3
  obtain ⟨g', cur, e4, hb, hk, hcl, ht⟩ := hf (by omega)
  rw [← e1] at e4
  injection e4 with e4
  injection e4 with e4
  subst e4
  have hl1 : ∀ e : HE, e.cells.length = 2 := cells_length
  have hij : i * 2 + 2 ≤ l.length * 2 := by omega
  have hjj : j * 2 + 2 ≤ l.length * 2 := by omega
  have hlen : l.length * 2 ≤ cur.length := by rw [hcl]; exact Nat.mul_le_mul_right _ hc
  have hset : ∀ (w : World) (cur : List Value) (o : Nat) (e : HE), Bk w g 171 cur → o + 2 ≤ cur.length → Bk (w.setCells g o e.cells) g 171 (spl cur o e.cells) ∧ Chg (fun k => k = g) w (w.setCells g o e.cells) := by
    intro w cur o e hbk hle
    refine ⟨?_, ?_⟩
    · have key : ∀ (vs pre : List Value) (w : World), Bk w g 171 (spl cur o pre) → o + pre.length + vs.length ≤ cur.length → Bk (w.setCells g (o + pre.length) vs) g 171 (spl cur o (pre ++ vs)) := by
        intro vs
        induction vs with
        | nil => intro pre w hb _; rw [List.append_nil]; exact hb
        | cons u vs ih =>
          intro pre w hb hle
          simp only [List.length_cons] at hle
          have h1 := hb.set_ (o + pre.length) u
          rw [set_spl rfl (by omega)] at h1
          have h2 := ih (pre ++ [u]) _ h1 (by simp; omega)
          rw [List.append_assoc] at h2
          simp only [List.length_append, List.length_cons, List.length_nil, Nat.zero_add] at h2
          rw [← Nat.add_assoc] at h2
          exact h2
      have := key e.cells [] w (by rw [spl_nil]; exact hbk) (by rw [hl1]; simpa using hle)
      simpa using this
    · have key : ∀ (vs : List Value) (o : Nat) (w' : World), Chg (fun k => k = g) w w' → Chg (fun k => k = g) w (w'.setCells g o vs) := by
        intro vs
        induction vs with
        | nil => intro o w' h; exact h
        | cons u vs ih => intro o w' h; exact ih (o + 1) _ (h.set_ (show g = g from rfl) o u)
      exact key e.cells o w (Chg.refl _ _)
  obtain ⟨h1, c1⟩ := hset w cur (i * 2) (gx l j) hk (by omega)
  obtain ⟨h2, c2⟩ := hset _ _ (j * 2) (gx l i) h1 (by rw [spl_length (by rw [hl1]; omega)]; omega)
  refine ⟨?_, c1.trans c2 fun _ _ x => x⟩
  have hd := h.1
  have hs1 : (spl cur (i * 2) (gx l j).cells).length = cur.length := spl_length (by rw [hl1]; omega)
  have hs2 : (spl (spl cur (i * 2) (gx l j).cells) (j * 2) (gx l i).cells).length = cur.length := by rw [spl_length (by rw [hl1]; omega), hs1]
  show World.ownsRow _ base 171 2 _ (swx l i j).length _
  rw [swx_length]
  refine ⟨by rw [ecs_length, swx_length], .inr ⟨g, c, _, rfl, hb, h2, hc, ?_, ?_, ?_⟩⟩
  · rcases h.2 with ⟨h3, h4⟩ | ⟨_, _, _, h3, _, _, _, hm, _⟩
    · cases h3
    · injection h3 with _ _ h5; rw [h5]; exact hm
  · simp only [List.size_toArray]; rw [hs2, hcl]
  · apply List.ext_getElem?
    intro m
    simp only [List.getElem?_take]
    by_cases hm : m < l.length * 2
    · rw [if_pos hm]
      obtain ⟨q, r, hq, hr⟩ : ∃ q r, m = q * 2 + r ∧ r < 2 := ⟨m / 2, m % 2, by omega, by omega⟩
      subst hq
      have hql : q < l.length := by omega
      rw [ecs_get (by rw [swx_length]; exact hql) hr, gx_swx hi hj]
      rw [spl_getElem? (by rw [hl1]; omega), spl_getElem? (by rw [hl1]; omega)]
      simp only [hl1]
      have hcq : cur[q * 2 + r]? = (gx l q).cells[r]? := by rw [← ecs_get hql hr, ← ht, List.getElem?_take, if_pos hm]
      by_cases e5 : j = q
      · subst e5
        rw [if_pos (by omega), if_pos rfl, show j * 2 + r - j * 2 = r from by omega]
      · rw [if_neg (by omega), if_neg e5]
        by_cases e6 : i = q
        · subst e6
          rw [if_pos (by omega), if_pos rfl, show i * 2 + r - i * 2 = r from by omega]
        · rw [if_neg (by omega), if_neg e6]; exact hcq
    · rw [if_neg hm, List.getElem?_eq_none (by rw [ecs_length, swx_length]; omega)]
set_option maxRecDepth 100000 in
set_option maxHeartbeats 3200000 in
theorem hSwap_any {w : World} {base : Nat} {v : Value} {l : List HE} (h : HR w base v l) {i j : Nat} (hi : i < l.length) (hj : j < l.length) (hl : l.length ≤ 1000000000) :
    Calls Tryz.prog 187 #[v, .int .i64 (i : Nat), .int .i64 (j : Nat)] w fun e w' => e = .returned (.tuple #[]) ∧ HR w' base v (swx l i j) ∧ Chg (fun k => v.ownBlock = some k) w w' := by
  obtain ⟨g, c, rfl, hg, hri, hti⟩ := h.at_ hi
  obtain ⟨g', c', e', hg', hrj, htj⟩ := h.at_ hj
  injection e' with e1 e2 e3
  injection e1 with e1
  injection e1 with e1
  subst e1 e3
  have H := Lib.hid (h.swap hi hj)
  obtain ⟨L, hL⟩ : ∃ L, l.length = L := ⟨_, rfl⟩
  have q0 : (0 : Int) ≤ (i : Int) := Int.natCast_nonneg _
  have q1 : (i : Int) < (L : Int) := by omega
  have q2 : (0 : Int) ≤ (j : Int) := Int.natCast_nonneg _
  have q3 : (j : Int) < (L : Int) := by omega
  have q4 : (L : Int) ≤ 1000000000 := by omega
  rw [hL] at H ⊢
  have hdone : ∀ w9, w9 = ((w.drew.setCells g (i * 2) (gx l j).cells).setCells g (j * 2) (gx l i).cells) → HR w9 base (.slice (some ⟨g, 0, none⟩) L c) (swx l i j) ∧ Chg (fun k => (Value.slice (some ⟨g, 0, none⟩) L c).ownBlock = some k) w w9 := fun w9 e9 => by
    subst e9
    have h' : HR w.drew base (.slice (some ⟨g, 0, none⟩) l.length c) l := h.below (Below.refl _ _).drew
    obtain ⟨h1, h2⟩ := h'.swap hi hj
    rw [hL] at h1
    refine ⟨h1, (h2.undrew).mono fun k _ hk => ?_⟩
    subst hk; rfl
  have HD := Lib.hid hdone
  have hu := Lib.hid Tryz.underlying171
  obtain ⟨ci, hci⟩ : ∃ cs, cs = (gx l i).cells := ⟨_, rfl⟩
  obtain ⟨cj, hcj⟩ : ∃ cs, cs = (gx l j).cells := ⟨_, rfl⟩
  have hli : ci.length = 2 := by rw [hci]; rfl
  have hlj : cj.length = 2 := by rw [hcj]; rfl
  have h1i : ∀ v ∈ ci, v.oneCell' = true := by rw [hci]; exact cells_one _
  have h1j : ∀ v ∈ cj, v.oneCell' = true := by rw [hcj]; exact cells_one _
  have hsi : (Tryz.prog.info? 171).map (·.size) = some ci.length := by rw [hli]; exact el_size
  have hsj : (Tryz.prog.info? 171).map (·.size) = some cj.length := by rw [hlj]; exact el_size
  rw [← hci, ← hcj] at hdone
  rw [← hci] at hri
  rw [← hcj] at hrj
  have hti' : w.there g (i * 2) cj.length := by rw [hlj]; exact hti
  have htj' : w.there g (j * 2) ci.length := by rw [hli]; exact htj
  have HX := Lib.hid (And.intro hdone (And.intro hri (And.intro hrj (And.intro hti' (And.intro htj' (And.intro (And.intro h1i h1j) (And.intro hsi hsj)))))))
  clear h hi hj hl hL hg hg' hdone H HD hri hrj hti htj hti' htj' h1i h1j hsi hsj hli hlj hci hcj
  go_enter Tryz.func187, Tryz.ntmps187
  go_wp2_with fail
  refine wp_region_any (by kernel_rfl) ?_
  change wpAny _ _ _ _ _ _ _ (World.drew _)
  refine wpAny_take (i := 0) (v := .slice (some ⟨g, 0, none⟩) L c) rfl (by kernel_rfl) (by kernel_rfl) (by kernel_rfl) (fun _ _ _ h => h) (Or.inl ⟨by rfl, fun w => by first | rfl | go_simp⟩) ?_
  go_simp
  refine wpAny_take (i := 1) (v := .int .i64 (i : Nat)) rfl (by kernel_rfl) (by kernel_rfl) (by kernel_rfl) (fun _ _ _ h => h) (Or.inl ⟨by rfl, fun w => by first | rfl | go_simp⟩) ?_
  go_simp
  refine wpAny_take (i := 2) (v := .slice (some ⟨g, 0, none⟩) L c) rfl (by kernel_rfl) (by kernel_rfl) (by kernel_rfl) (fun _ _ _ h => h) (Or.inl ⟨by rfl, fun w => by first | rfl | go_simp⟩) ?_
  go_simp
  refine wpAny_take (i := 3) (v := .int .i64 (j : Nat)) rfl (by kernel_rfl) (by kernel_rfl) (by kernel_rfl) (fun _ _ _ h => h) (Or.inl ⟨by rfl, fun w => by first | rfl | go_simp⟩) ?_
  go_simp
  refine wpAny_take (i := 4) (v := .slice (some ⟨g, 0, none⟩) L c) rfl (by kernel_rfl) (by kernel_rfl) (by kernel_rfl) (fun _ _ _ h => h) (Or.inl ⟨by rfl, fun w => by first | rfl | go_simp⟩) ?_
  go_simp
  refine wpAny_take (i := 5) (v := .int .i64 (j : Nat)) rfl (by kernel_rfl) (by kernel_rfl) (by kernel_rfl) (fun _ _ _ h => h) (Or.inl ⟨by rfl, fun w => by first | rfl | go_simp⟩) ?_
  go_simp
  refine wpAny_take (i := 6) (v := .pointer (some ⟨g, j * 2, none⟩)) rfl (by kernel_rfl) (by kernel_rfl) (by kernel_rfl) (fun _ _ _ h => h) (Or.inl ⟨by rfl, fun w => by first | rfl | go_simp⟩) ?_
  go_simp
  refine wpAny_take (i := 8) (v := .slice (some ⟨g, 0, none⟩) L c) rfl (by kernel_rfl) (by kernel_rfl) (by kernel_rfl) (fun _ _ _ h => h) (Or.inl ⟨by rfl, fun w => by first | rfl | go_simp⟩) ?_
  go_simp
  refine wpAny_take (i := 9) (v := .int .i64 (i : Nat)) rfl (by kernel_rfl) (by kernel_rfl) (by kernel_rfl) (fun _ _ _ h => h) (Or.inl ⟨by rfl, fun w => by first | rfl | go_simp⟩) ?_
  go_simp
  refine wpAny_take (i := 10) (v := .pointer (some ⟨g, i * 2, none⟩)) rfl (by kernel_rfl) (by kernel_rfl) (by kernel_rfl) (fun _ _ _ h => h) (Or.inl ⟨by rfl, fun w => by first | rfl | go_simp⟩) ?_
  go_simp
  refine wpAny_ready (rs := [7, 11]) (by kernel_rfl) (by simp) ?_
  refine AllReady.cons rfl (fun K hK => ?_) (AllReady.cons rfl (fun K hK => ?_) AllReady.nil)
  · rw [if_pos (by rfl)]
    refine wp_load_mid 171 (.tmp 12) rfl g (j * 2) (by rfl) cj _ HX.out.2.2.1 hu.out rfl HX.out.2.2.2.2.2.2.2 ?_
    refine hK _ _ ?_
    clear hK K
    go_simp
    refine wpAny_ready (rs := [11]) (by kernel_rfl) (by simp) ?_
    refine AllReady.cons rfl (fun K hK => ?_) AllReady.nil
    rw [if_pos (by rfl)]
    refine wp_load_mid 171 (.tmp 16) rfl g (i * 2) (by rfl) ci _ HX.out.2.1 hu.out rfl HX.out.2.2.2.2.2.2.1 ?_
    refine hK _ _ ?_
    clear hK K
    go_simp
    refine wpAny_take (i := 12) (v := .pointer (some ⟨g, i * 2, none⟩)) rfl (by kernel_rfl) (by kernel_rfl) (by kernel_rfl) (fun _ _ _ h => h) (Or.inl ⟨by rfl, fun w => by first | rfl | go_simp⟩) ?_
    go_simp
    refine wpAny_ready (rs := [13]) (by kernel_rfl) (by simp) ?_
    refine AllReady.cons rfl (fun K hK => ?_) AllReady.nil
    rw [if_pos (by rfl)]
    refine wp_store_mid 171 (.tmp 18) (.tmp 13) rfl g (i * 2) cj.toArray (by rfl) (by rfl) HX.out.2.2.2.1 HX.out.2.2.2.2.2.2.2 (all_oneCell_toArray HX.out.2.2.2.2.2.1.2) ?_
    refine hK _ _ ?_
    clear hK K
    go_simp
    refine wpAny_take (i := 14) (v := .pointer (some ⟨g, j * 2, none⟩)) rfl (by kernel_rfl) (by kernel_rfl) (by kernel_rfl) (fun _ _ _ h => h) (Or.inl ⟨by rfl, fun w => by first | rfl | go_simp⟩) ?_
    go_simp
    refine wpAny_ready (rs := [15]) (by kernel_rfl) (by simp) ?_
    refine AllReady.cons rfl (fun K hK => ?_) AllReady.nil
    rw [if_pos (by rfl)]
    refine wp_store_mid 171 (.tmp 19) (.tmp 17) rfl g (j * 2) ci.toArray (by rfl) (by rfl) (World.there_setCells (w := w.drew) HX.out.2.2.2.2.1 _ _ _) HX.out.2.2.2.2.2.2.1 (all_oneCell_toArray HX.out.2.2.2.2.2.1.1) ?_
    refine hK _ _ ?_
    clear hK K
    refine wpAny_done (by kernel_rfl) ?_ _
    go_end0
    exact ⟨rfl, HX.out.1 _ rfl⟩
  · rw [if_pos (by rfl)]
    refine wp_load_mid 171 (.tmp 16) rfl g (i * 2) (by rfl) ci _ HX.out.2.1 hu.out rfl HX.out.2.2.2.2.2.2.1 ?_
    refine hK _ _ ?_
    clear hK K
    go_simp
    refine wpAny_ready (rs := [7]) (by kernel_rfl) (by simp) ?_
    refine AllReady.cons rfl (fun K hK => ?_) AllReady.nil
    rw [if_pos (by rfl)]
    refine wp_load_mid 171 (.tmp 12) rfl g (j * 2) (by rfl) cj _ HX.out.2.2.1 hu.out rfl HX.out.2.2.2.2.2.2.2 ?_
    refine hK _ _ ?_
    clear hK K
    go_simp
    refine wpAny_take (i := 12) (v := .pointer (some ⟨g, i * 2, none⟩)) rfl (by kernel_rfl) (by kernel_rfl) (by kernel_rfl) (fun _ _ _ h => h) (Or.inl ⟨by rfl, fun w => by first | rfl | go_simp⟩) ?_
    go_simp
    refine wpAny_ready (rs := [13]) (by kernel_rfl) (by simp) ?_
    refine AllReady.cons rfl (fun K hK => ?_) AllReady.nil
    rw [if_pos (by rfl)]
    refine wp_store_mid 171 (.tmp 18) (.tmp 13) rfl g (i * 2) cj.toArray (by rfl) (by rfl) HX.out.2.2.2.1 HX.out.2.2.2.2.2.2.2 (all_oneCell_toArray HX.out.2.2.2.2.2.1.2) ?_
    refine hK _ _ ?_
    clear hK K
    go_simp
    refine wpAny_take (i := 14) (v := .pointer (some ⟨g, j * 2, none⟩)) rfl (by kernel_rfl) (by kernel_rfl) (by kernel_rfl) (fun _ _ _ h => h) (Or.inl ⟨by rfl, fun w => by first | rfl | go_simp⟩) ?_
    go_simp
    refine wpAny_ready (rs := [15]) (by kernel_rfl) (by simp) ?_
    refine AllReady.cons rfl (fun K hK => ?_) AllReady.nil
    rw [if_pos (by rfl)]
    refine wp_store_mid 171 (.tmp 19) (.tmp 17) rfl g (j * 2) ci.toArray (by rfl) (by rfl) (World.there_setCells (w := w.drew) HX.out.2.2.2.2.1 _ _ _) HX.out.2.2.2.2.2.2.1 (all_oneCell_toArray HX.out.2.2.2.2.2.1.1) ?_
    refine hK _ _ ?_
    clear hK K
    refine wpAny_done (by kernel_rfl) ?_ _
    go_end0
    exact ⟨rfl, HX.out.1 _ rfl⟩
end Go.Proofs.YtlhipaffhehcnaaGreat
namespace Go.Proofs.YtlhipaffhehcnaaGreat
open Go.RowKit
set_option linter.unusedVariables false
theorem ahead_len (w : World) (a : Addr) : (nilAhead 232 169 (.pointer (some a)) "Len").run Tryz.prog w = .ok (some false) w := by kernel_rfl
theorem method_len_ (w : World) (a : Addr) : (method 343 169 (.pointer (some a)) "Len").run Tryz.prog w = ((do let v ← loadVar 127 a; pure (113, v)) : Sem (FuncId × Value)).run Tryz.prog w := by kernel_rfl
theorem method_len {a : Addr} {v : Value} (w : World) (h : w.cell? a = some v) : (method 343 169 (.pointer (some a)) "Len").run Tryz.prog w = .ok (113, v) w := by
  rw [method_len_]
  have hu := Tryz.underlying127
  simp [go_sem, h]
theorem ahead_less (w : World) (a : Addr) : (nilAhead 232 169 (.pointer (some a)) "Less").run Tryz.prog w = .ok (some false) w := by kernel_rfl
theorem method_less_ (w : World) (a : Addr) : (method 343 169 (.pointer (some a)) "Less").run Tryz.prog w = ((do let v ← loadVar 127 a; pure (186, v)) : Sem (FuncId × Value)).run Tryz.prog w := by kernel_rfl
theorem method_less {a : Addr} {v : Value} (w : World) (h : w.cell? a = some v) : (method 343 169 (.pointer (some a)) "Less").run Tryz.prog w = .ok (186, v) w := by
  rw [method_less_]
  have hu := Tryz.underlying127
  simp [go_sem, h]
theorem ahead_swap (w : World) (a : Addr) : (nilAhead 232 169 (.pointer (some a)) "Swap").run Tryz.prog w = .ok (some false) w := by kernel_rfl
theorem method_swap_ (w : World) (a : Addr) : (method 343 169 (.pointer (some a)) "Swap").run Tryz.prog w = ((do let v ← loadVar 127 a; pure (187, v)) : Sem (FuncId × Value)).run Tryz.prog w := by kernel_rfl
theorem method_swap {a : Addr} {v : Value} (w : World) (h : w.cell? a = some v) : (method 343 169 (.pointer (some a)) "Swap").run Tryz.prog w = .ok (187, v) w := by
  rw [method_swap_]
  have hu := Tryz.underlying127
  simp [go_sem, h]
theorem ahead_push (w : World) (a : Addr) : (nilAhead 232 169 (.pointer (some a)) "Push").run Tryz.prog w = .ok (some false) w := by kernel_rfl
theorem method_push (w : World) (a : Addr) : (method 343 169 (.pointer (some a)) "Push").run Tryz.prog w = .ok (189, .pointer (some a)) w := by kernel_rfl
theorem ahead_pop (w : World) (a : Addr) : (nilAhead 232 169 (.pointer (some a)) "Pop").run Tryz.prog w = .ok (some false) w := by kernel_rfl
theorem method_pop (w : World) (a : Addr) : (method 343 169 (.pointer (some a)) "Pop").run Tryz.prog w = .ok (188, .pointer (some a)) w := by kernel_rfl
theorem Chg.cell {S : Nat → Prop} {w w' : World} (h : Chg S w w') {p : Addr} {u : Value} (hc : w.cell? p = some u) (hS : ¬ S p.block) : w'.cell? p = some u :=
  (World.cell?_of_block (h.2 p.block (World.block_lt_of_cell? w p hc) hS)).trans hc
theorem Chg.undrewN {S : Nat → Prop} {w w' : World} {n : Nat} (h : Chg S (w.drewN n) w') : Chg S w w' := ⟨below_undrewN h.1, h.2⟩
/-- A heap's interface value. -/
def hif (E o : Nat) : Value := .iface 169 (.pointer (some ⟨E, o, none⟩))
set_option maxRecDepth 100000 in
set_option maxHeartbeats 3200000 in
theorem hUp_any {w : World} {base E o : Nat} {v : Value} {l : List HE} {j : Nat} (hE : w.cell? ⟨E, o, none⟩ = some v) (h : HR w base v l) (hu : Up (keys l) j) (hj : j < l.length) (hf : FitL l) (hl : l.length ≤ 1000000000) (hne : v.ownBlock ≠ some E) :
    Calls Tryz.prog 144 #[hif E o, .int .i64 (j : Nat)] w fun e w' => e = .returned (.tuple #[]) ∧ ∃ l', HR w' base v l' ∧ l'.Perm l ∧ Hp (keys l') ∧ Chg (fun k => v.ownBlock = some k) w w' := by
  have H := Lib.hid (And.intro h (And.intro hu (And.intro hf hne)))
  have HL := Lib.hid hl
  have hm1 : ∀ w, w.cell? ⟨E, o, none⟩ = some v → (method 343 169 (.pointer (some ⟨E, o, none⟩)) "Less").run Tryz.prog w = .ok (186, v) w := fun w h => method_less w h
  have hm2 : ∀ w, w.cell? ⟨E, o, none⟩ = some v → (method 343 169 (.pointer (some ⟨E, o, none⟩)) "Swap").run Tryz.prog w = .ok (187, v) w := fun w h => method_swap w h
  have ha1 := fun w => ahead_less w ⟨E, o, none⟩
  have ha2 := fun w => ahead_swap w ⟨E, o, none⟩
  have HH := Lib.hid (And.intro hE hj)
  clear h hu hf hne hE hj hl
  unfold hif
  go_enter Tryz.func144, Tryz.ntmps144
  go_wp2_with fail
  go_loopw [1] (fun s wr => ∃ j' : Nat, s = .int .i64 j' ∧ wr.cell? ⟨E, o, none⟩ = some v ∧ Hid (∃ l', HR wr base v l' ∧ l'.Perm l ∧ Up (keys l') j' ∧ j' < l'.length ∧ Chg (fun k => v.ownBlock = some k) w wr)) (fun s wr => (intOf s).toNat)
  case atStart => exact ⟨j, rfl, HH.out.1, Lib.hid ⟨l, H.out.1, List.Perm.refl _, H.out.2.1, HH.out.2, Chg.refl _ _⟩⟩
  case round =>
    obtain ⟨j', rfl, hc, hS⟩ := hrel
    obtain ⟨m, h1, h2, h3, h4, h5⟩ := hS.out
    have hml : m.length = l.length := h2.length_eq
    have hfm := H.out.2.2.1.perm h2
    have hj63 : (j' : Int) ≤ 1000000000 := by have := HL.out; omega
    have HM := Lib.hid (And.intro h1 (And.intro h2 (And.intro h3 (And.intro h4 (And.intro h5 (And.intro hml hfm))))))
    clear h1 h2 h3 h4 h5 hml hfm hS
    by_cases hz : j' = 0
    · subst hz
      go_wp2
      go_end0
      exact ⟨rfl, m, HM.out.1, HM.out.2.1, HM.out.2.2.1.stop (.inl rfl), HM.out.2.2.2.2.1⟩
    · have hq : ((j' : Int) - 1).tdiv 2 = (((j' - 1) / 2 : Nat) : Int) := by rw [Int.tdiv_eq_ediv_of_nonneg (by omega)]; omega
      have hq' : ((j' : Int) - 1) / 2 = (((j' - 1) / 2 : Nat) : Int) := by omega
      have hq0 : (0 : Int) ≤ (j' : Int) - 1 := by omega
      have hu1 : (j' - 1) / 2 < j' := by omega
      generalize hU : (j' - 1) / 2 = u at hq hq' hu1
      have n1 : (u == j') = false := by simp; omega
      have n2 : ((u : Int) == (j' : Int)) = false := by simp; omega
      have hu63 : (u : Int) ≤ 1000000000 := by omega
      have HU := Lib.hid (And.intro hU hu1)
      clear hU hu1 hz
      cases hb : (gx m j').less (gx m u) with
      | false =>
        have HB := Lib.hid hb
        clear hb
        go_wp2_with (go_at_call 186; refine (hLess_any HM.out.1 HM.out.2.2.2.1 (Nat.lt_trans HU.out.2 HM.out.2.2.2.1) (by rw [HM.out.2.2.2.2.2.1]; exact HL.out)).mono ?_; rintro e w1 ⟨rfl, k, rfl⟩; rw [HB.out])
        go_end0
        refine ⟨rfl, m, HM.out.1.below (below_dN (Below.refl _ _) _), HM.out.2.1, HM.out.2.2.1.stop (.inr ?_), HM.out.2.2.2.2.1.drewN _⟩
        have hlt := HM.out.2.2.2.1
        rw [HU.out.1, gi_keys (Nat.lt_trans HU.out.2 hlt), gi_keys hlt]
        have h9 := HB.out
        rw [less_key (HM.out.2.2.2.2.2.2.gx hlt) (HM.out.2.2.2.2.2.2.gx (Nat.lt_trans HU.out.2 hlt))] at h9
        simpa using h9
      | true =>
        have HB := Lib.hid hb
        clear hb
        go_wp2_with (go_at_call 186; refine (hLess_any HM.out.1 HM.out.2.2.2.1 (Nat.lt_trans HU.out.2 HM.out.2.2.2.1) (by rw [HM.out.2.2.2.2.2.1]; exact HL.out)).mono ?_; rintro e w1 ⟨rfl, k, rfl⟩; rw [HB.out])
        refine (hSwap_any (HM.out.1.below (below_dN (Below.refl _ _) _)) (Nat.lt_trans HU.out.2 HM.out.2.2.2.1) HM.out.2.2.2.1 (by rw [HM.out.2.2.2.2.2.1]; exact HL.out)).mono ?_
        rintro e w2 ⟨rfl, hs2, hc2⟩
        have hc2' : Chg (fun k => v.ownBlock = some k) wr w2 := hc2.undrewN
        have hcE := hc2'.cell hc H.out.2.2.2
        have H2 := Lib.hid (And.intro hs2 hc2')
        clear hs2 hc2 hc2'
        go_wp2_with fail
        have hlt := HM.out.2.2.2.1
        have hul := Nat.lt_trans HU.out.2 hlt
        refine ⟨⟨u, rfl, hcE, Lib.hid ⟨swx m u j', H2.out.1, (swx_perm hul hlt).trans HM.out.2.1, ?_, by rw [swx_length]; exact hul, HM.out.2.2.2.2.1.trans H2.out.2 fun _ _ x => x⟩⟩, ?_⟩
        · rw [swx_keys hul hlt, ← HU.out.1]
          refine HM.out.2.2.1.step (by have := HU.out.2; omega) (by rw [keys_length]; exact hlt) ?_
          rw [HU.out.1, gi_keys hul, gi_keys hlt]
          have h9 := HB.out
          rw [less_key (HM.out.2.2.2.2.2.2.gx hlt) (HM.out.2.2.2.2.2.2.gx hul)] at h9
          simpa using h9
        · have := HU.out.2
          simp [intOf]
          omega
/-- The row's first n places are what is sunk in. -/
theorem gx_take {l : List HE} {n j : Nat} (h : j < n) : gx (l.take n) j = gx l j := by
  simp only [gx, List.getD_eq_getElem?_getD, List.getElem?_take, if_pos h]
theorem swx_take {l : List HE} {n i j : Nat} (hi : i < n) (hj : j < n) : (swx l i j).take n = swx (l.take n) i j := by
  unfold swx
  rw [gx_take hi, gx_take hj, List.take_set, List.take_set]
theorem swx_drop {l : List HE} {n i j : Nat} (hi : i < n) (hj : j < n) : (swx l i j).drop n = l.drop n := by
  unfold swx
  rw [List.drop_set_of_lt hj, List.drop_set_of_lt hi]
set_option maxRecDepth 100000 in
set_option maxHeartbeats 6400000 in
theorem hDown_any {w : World} {base E o : Nat} {v : Value} {l : List HE} {n : Nat} (hE : w.cell? ⟨E, o, none⟩ = some v) (h : HR w base v l) (hn : n ≤ l.length) (hd : Dn (keys (l.take n)) 0) (hf : FitL l) (hl : l.length ≤ 1000000000) (hne : v.ownBlock ≠ some E) :
    Calls Tryz.prog 145 #[hif E o, .int .i64 0, .int .i64 (n : Nat)] w fun e w' => (∃ b, e = .returned (.bool b)) ∧ ∃ l', HR w' base v l' ∧ l'.Perm l ∧ (l'.take n).Perm (l.take n) ∧ l'.drop n = l.drop n ∧ Hp (keys (l'.take n)) ∧ Chg (fun k => v.ownBlock = some k) w w' := by
  have H := Lib.hid (And.intro h (And.intro hd (And.intro hf (And.intro hne hn))))
  have HL := Lib.hid hl
  have hm1 : ∀ w, w.cell? ⟨E, o, none⟩ = some v → (method 343 169 (.pointer (some ⟨E, o, none⟩)) "Less").run Tryz.prog w = .ok (186, v) w := fun w h => method_less w h
  have hm2 : ∀ w, w.cell? ⟨E, o, none⟩ = some v → (method 343 169 (.pointer (some ⟨E, o, none⟩)) "Swap").run Tryz.prog w = .ok (187, v) w := fun w h => method_swap w h
  have ha1 := fun w => ahead_less w ⟨E, o, none⟩
  have ha2 := fun w => ahead_swap w ⟨E, o, none⟩
  have HH := Lib.hid hE
  have n63 : (n : Int) ≤ 1000000000 := by omega
  clear h hd hf hne hE hn hl
  unfold hif
  go_enter Tryz.func145, Tryz.ntmps145
  go_wp2_with fail
  go_loopw [7] (fun s wr => ∃ i : Nat, s = .int .i64 i ∧ wr.cell? ⟨E, o, none⟩ = some v ∧ Hid (∃ m, HR wr base v m ∧ m.Perm l ∧ (m.take n).Perm (l.take n) ∧ m.drop n = l.drop n ∧ Dn (keys (m.take n)) i ∧ i ≤ n ∧ Chg (fun k => v.ownBlock = some k) w wr)) (fun s wr => n - (intOf s).toNat)
  case atStart => exact ⟨0, rfl, HH.out, Lib.hid ⟨l, H.out.1, List.Perm.refl _, List.Perm.refl _, rfl, H.out.2.1, Nat.zero_le _, Chg.refl _ _⟩⟩
  case round =>
    obtain ⟨i, rfl, hc, hS⟩ := hrel
    obtain ⟨m, h1, h2, h3, h4, h5, h6, h7⟩ := hS.out
    have hml : m.length = l.length := h2.length_eq
    have hfm := H.out.2.2.1.perm h2
    have hi63 : (i : Int) ≤ 1000000000 := by omega
    have hnm : n ≤ m.length := by rw [hml]; exact H.out.2.2.2.2
    have hlm : m.length ≤ 1000000000 := by rw [hml]; exact HL.out
    have hkl : (keys (m.take n)).length = n := by rw [keys_length, List.length_take]; omega
    have hgk : ∀ q, q < n → gi (keys (m.take n)) q = (gx m q).key := fun q hq => by rw [gi_keys (by rw [List.length_take]; omega), gx_take hq]
    have hlk : ∀ p q, p < n → q < n → (gx m p).less (gx m q) = decide ((gx m p).key < (gx m q).key) := fun p q hp hq => less_key (hfm.gx (by omega)) (hfm.gx (by omega))
    have hstop : Hp (keys (m.take n)) → ∀ (w9 : World) k, w9 = wr.drewN k → ∃ l', HR w9 base v l' ∧ l'.Perm l ∧ (l'.take n).Perm (l.take n) ∧ l'.drop n = l.drop n ∧ Hp (keys (l'.take n)) ∧ Chg (fun k => v.ownBlock = some k) w w9 := fun hp w9 k e9 => by
      subst e9
      exact ⟨m, h1.below (below_dN (Below.refl _ _) _), h2, h3, h4, hp, h7.drewN _⟩
    have hgo : ∀ (k : Nat) (w9 : World) q, q < n → i < n → q = 2 * i + 1 ∨ q = 2 * i + 2 → (gx m q).less (gx m i) = true → (2 * i + 1 < n → (gx m q).key ≤ (gx m (2 * i + 1)).key) → (2 * i + 2 < n → (gx m q).key ≤ (gx m (2 * i + 2)).key) →
        HR w9 base v (swx m i q) → Chg (fun k => v.ownBlock = some k) wr w9 → ∃ m', HR w9 base v m' ∧ m'.Perm l ∧ (m'.take n).Perm (l.take n) ∧ m'.drop n = l.drop n ∧ Dn (keys (m'.take n)) q ∧ q ≤ n ∧ Chg (fun k => v.ownBlock = some k) w w9 := fun k w9 q hq hi hc hless hk1 hk2 hr9 hc9 => by
      have him : i < m.length := by omega
      have hqm : q < m.length := by omega
      rw [hlk q i hq hi] at hless
      refine ⟨swx m i q, hr9, (swx_perm him hqm).trans h2, ?_, by rw [swx_drop hi hq]; exact h4, ?_, Nat.le_of_lt hq, h7.trans hc9 fun _ _ x => x⟩
      · rw [swx_take hi hq]; exact (swx_perm (by rw [List.length_take]; omega) (by rw [List.length_take]; omega)).trans h3
      · rw [swx_take hi hq, swx_keys (by rw [List.length_take]; omega) (by rw [List.length_take]; omega)]
        refine h5.step (by rw [hkl]; exact hq) hc (by rw [hgk q hq, hgk i hi]; simpa using hless) (fun hh => ?_) (fun hh => ?_)
        · rw [hkl] at hh; rw [hgk q hq, hgk _ hh]; exact hk1 hh
        · rw [hkl] at hh; rw [hgk q hq, hgk _ hh]; exact hk2 hh
    have hsp : (2 * i + 1 < n → (gx m i).key ≤ (gx m (2 * i + 1)).key) → (2 * i + 2 < n → (gx m i).key ≤ (gx m (2 * i + 2)).key) → Hp (keys (m.take n)) := fun a b => by
      by_cases hin : i < n
      · refine h5.stop (fun hh => ?_) (fun hh => ?_)
        · rw [hkl] at hh; rw [hgk i hin, hgk _ hh]; exact a hh
        · rw [hkl] at hh; rw [hgk i hin, hgk _ hh]; exact b hh
      · refine h5.stop (fun hh => ?_) (fun hh => ?_)
        · rw [hkl] at hh; omega
        · rw [hkl] at hh; omega
    have HM := Lib.hid (And.intro h1 (And.intro hnm (And.intro hlm (And.intro hstop (And.intro hgo (And.intro hsp hlk))))))
    clear h1 h2 h3 h4 h5 hml hfm hS h7 hnm hlm hkl hgk hlk hstop hgo hsp
    obtain ⟨q1, hq1⟩ : ∃ q1 : Nat, q1 = 2 * i + 1 := ⟨_, rfl⟩
    obtain ⟨q2, hq2⟩ : ∃ q2 : Nat, q2 = q1 + 1 := ⟨_, rfl⟩
    have e1 : 2 * (i : Int) + 1 = (q1 : Int) := by omega
    have e2 : (q1 : Int) + 1 = (q2 : Int) := by omega
    have p1 : (q1 : Int) ≤ 2000000001 := by omega
    have p2 : (0 : Int) ≤ (q1 : Int) := by omega
    have p3 : decide ((q1 : Int) < 0) = false := by simp
    by_cases hA : q1 < n
    · have a1 : decide (n ≤ q1) = false := by simp; omega
      have a2 : decide ((n : Int) ≤ (q1 : Int)) = false := by simp; omega
      have a3 : decide ((q1 : Int) ≥ (n : Int)) = false := by simp; omega
      have HQ := Lib.hid (show q1 = 2 * i + 1 ∧ q2 = 2 * i + 2 ∧ q1 < n ∧ i < n from by omega)
      clear hq1 hq2 hA
      by_cases hB : q2 < n
      · have b1 : decide (q2 < n) = true := by simpa using hB
        have b2 : decide ((q2 : Int) < (n : Int)) = true := by simp; omega
        have HQ2 := Lib.hid hB
        clear hB
        cases h21 : (gx m q2).less (gx m q1) with
        | true =>
          have H21 := Lib.hid h21
          clear h21
          have hk21 := H21.out
          rw [HM.out.2.2.2.2.2.2 q2 q1 HQ2.out HQ.out.2.2.1] at hk21
          have HK := Lib.hid (show (gx m q2).key < (gx m q1).key from by simpa using hk21)
          clear hk21
          cases hB : (gx m q2).less (gx m i) with
          | true =>
            have HB := Lib.hid hB
            clear hB
            go_wp2_with fail
            refine (hLess_any (i := q2) (j := q1) HM.out.1 (Nat.lt_of_lt_of_le HQ2.out HM.out.2.1) (Nat.lt_of_lt_of_le HQ.out.2.2.1 HM.out.2.1) HM.out.2.2.1).mono ?_
            rintro e w1 ⟨rfl, k, rfl⟩
            rw [H21.out]
            go_wp2_with fail
            refine (hLess_any (i := q2) (j := i) (HM.out.1.below (below_dN (Below.refl _ _) _)) (Nat.lt_of_lt_of_le HQ2.out HM.out.2.1) (Nat.lt_of_lt_of_le HQ.out.2.2.2 HM.out.2.1) HM.out.2.2.1).mono ?_
            rintro e w1 ⟨rfl, k, rfl⟩
            rw [HB.out]
            go_wp2_with fail
            refine (hSwap_any (i := i) (j := q2) (HM.out.1.below (below_dN (Below.refl _ _) _)) (Nat.lt_of_lt_of_le HQ.out.2.2.2 HM.out.2.1) (Nat.lt_of_lt_of_le HQ2.out HM.out.2.1) HM.out.2.2.1).mono ?_
            rintro e w2 ⟨rfl, hs2, hc2⟩
            have hcE := (hc2.undrewN).cell hc H.out.2.2.2.1
            have hg := HM.out.2.2.2.2.1 0 w2 q2 HQ2.out HQ.out.2.2.2 (.inr HQ.out.2.1) HB.out (fun _ => (by rw [← HQ.out.1]; exact Int.le_of_lt HK.out)) (fun _ => (by rw [← HQ.out.2.1]; exact Int.le_refl _)) hs2 hc2.undrewN
            have H2 := Lib.hid (And.intro hg hcE)
            clear hs2 hc2 hg hcE
            go_wp2_with fail
            refine ⟨⟨q2, rfl, H2.out.2, Lib.hid H2.out.1⟩, ?_⟩
            have k1 := HQ.out.1
            have k2 := HQ.out.2.1
            have k3 := HQ.out.2.2.2
            show n - ((q2 : Nat) : Int).toNat < n - ((i : Nat) : Int).toNat
            rw [Int.toNat_natCast, Int.toNat_natCast]
            omega
          | false =>
            have HB := Lib.hid hB
            clear hB
            have hkb := HB.out
            rw [HM.out.2.2.2.2.2.2 q2 i HQ2.out HQ.out.2.2.2] at hkb
            have HKB := Lib.hid (show (gx m i).key ≤ (gx m q2).key from by simpa using hkb)
            clear hkb
            go_wp2_with fail
            refine (hLess_any (i := q2) (j := q1) HM.out.1 (Nat.lt_of_lt_of_le HQ2.out HM.out.2.1) (Nat.lt_of_lt_of_le HQ.out.2.2.1 HM.out.2.1) HM.out.2.2.1).mono ?_
            rintro e w1 ⟨rfl, k, rfl⟩
            rw [H21.out]
            go_wp2_with fail
            refine (hLess_any (i := q2) (j := i) (HM.out.1.below (below_dN (Below.refl _ _) _)) (Nat.lt_of_lt_of_le HQ2.out HM.out.2.1) (Nat.lt_of_lt_of_le HQ.out.2.2.2 HM.out.2.1) HM.out.2.2.1).mono ?_
            rintro e w1 ⟨rfl, k, rfl⟩
            rw [HB.out]
            go_wp2_with fail
            go_ret
            exact ⟨⟨_, rfl⟩, HM.out.2.2.2.1 (HM.out.2.2.2.2.2.1 (fun h1 => by rw [← HQ.out.1]; exact Int.le_trans HKB.out (Int.le_of_lt HK.out)) (fun h2 => by rw [← HQ.out.2.1]; exact HKB.out)) _ _ rfl⟩
        | false =>
          have H21 := Lib.hid h21
          clear h21
          have hk21 := H21.out
          rw [HM.out.2.2.2.2.2.2 q2 q1 HQ2.out HQ.out.2.2.1] at hk21
          have HK := Lib.hid (show (gx m q1).key ≤ (gx m q2).key from by simpa using hk21)
          clear hk21
          cases hB : (gx m q1).less (gx m i) with
          | true =>
            have HB := Lib.hid hB
            clear hB
            go_wp2_with fail
            refine (hLess_any (i := q2) (j := q1) HM.out.1 (Nat.lt_of_lt_of_le HQ2.out HM.out.2.1) (Nat.lt_of_lt_of_le HQ.out.2.2.1 HM.out.2.1) HM.out.2.2.1).mono ?_
            rintro e w1 ⟨rfl, k, rfl⟩
            rw [H21.out]
            go_wp2_with fail
            refine (hLess_any (i := q1) (j := i) (HM.out.1.below (below_dN (Below.refl _ _) _)) (Nat.lt_of_lt_of_le HQ.out.2.2.1 HM.out.2.1) (Nat.lt_of_lt_of_le HQ.out.2.2.2 HM.out.2.1) HM.out.2.2.1).mono ?_
            rintro e w1 ⟨rfl, k, rfl⟩
            rw [HB.out]
            go_wp2_with fail
            refine (hSwap_any (i := i) (j := q1) (HM.out.1.below (below_dN (Below.refl _ _) _)) (Nat.lt_of_lt_of_le HQ.out.2.2.2 HM.out.2.1) (Nat.lt_of_lt_of_le HQ.out.2.2.1 HM.out.2.1) HM.out.2.2.1).mono ?_
            rintro e w2 ⟨rfl, hs2, hc2⟩
            have hcE := (hc2.undrewN).cell hc H.out.2.2.2.1
            have hg := HM.out.2.2.2.2.1 0 w2 q1 HQ.out.2.2.1 HQ.out.2.2.2 (.inl HQ.out.1) HB.out (fun _ => (by rw [← HQ.out.1]; exact Int.le_refl _)) (fun _ => (by rw [← HQ.out.2.1]; exact HK.out)) hs2 hc2.undrewN
            have H2 := Lib.hid (And.intro hg hcE)
            clear hs2 hc2 hg hcE
            go_wp2_with fail
            refine ⟨⟨q1, rfl, H2.out.2, Lib.hid H2.out.1⟩, ?_⟩
            have k1 := HQ.out.1
            have k2 := HQ.out.2.1
            have k3 := HQ.out.2.2.2
            show n - ((q1 : Nat) : Int).toNat < n - ((i : Nat) : Int).toNat
            rw [Int.toNat_natCast, Int.toNat_natCast]
            omega
          | false =>
            have HB := Lib.hid hB
            clear hB
            have hkb := HB.out
            rw [HM.out.2.2.2.2.2.2 q1 i HQ.out.2.2.1 HQ.out.2.2.2] at hkb
            have HKB := Lib.hid (show (gx m i).key ≤ (gx m q1).key from by simpa using hkb)
            clear hkb
            go_wp2_with fail
            refine (hLess_any (i := q2) (j := q1) HM.out.1 (Nat.lt_of_lt_of_le HQ2.out HM.out.2.1) (Nat.lt_of_lt_of_le HQ.out.2.2.1 HM.out.2.1) HM.out.2.2.1).mono ?_
            rintro e w1 ⟨rfl, k, rfl⟩
            rw [H21.out]
            go_wp2_with fail
            refine (hLess_any (i := q1) (j := i) (HM.out.1.below (below_dN (Below.refl _ _) _)) (Nat.lt_of_lt_of_le HQ.out.2.2.1 HM.out.2.1) (Nat.lt_of_lt_of_le HQ.out.2.2.2 HM.out.2.1) HM.out.2.2.1).mono ?_
            rintro e w1 ⟨rfl, k, rfl⟩
            rw [HB.out]
            go_wp2_with fail
            go_ret
            exact ⟨⟨_, rfl⟩, HM.out.2.2.2.1 (HM.out.2.2.2.2.2.1 (fun h1 => by rw [← HQ.out.1]; exact HKB.out) (fun h2 => by rw [← HQ.out.2.1]; exact Int.le_trans HKB.out HK.out)) _ _ rfl⟩
      · have b1 : decide (q2 < n) = false := by simpa using hB
        have b2 : decide ((q2 : Int) < (n : Int)) = false := by simp; omega
        have HQ2 := Lib.hid (show ¬ 2 * i + 2 < n from by have := HQ.out.2.1; omega)
        clear hB
        cases hB : (gx m q1).less (gx m i) with
        | true =>
          have HB := Lib.hid hB
          clear hB
          go_wp2_with fail
          refine (hLess_any (i := q1) (j := i) HM.out.1 (Nat.lt_of_lt_of_le HQ.out.2.2.1 HM.out.2.1) (Nat.lt_of_lt_of_le HQ.out.2.2.2 HM.out.2.1) HM.out.2.2.1).mono ?_
          rintro e w1 ⟨rfl, k, rfl⟩
          rw [HB.out]
          go_wp2_with fail
          refine (hSwap_any (i := i) (j := q1) (HM.out.1.below (below_dN (Below.refl _ _) _)) (Nat.lt_of_lt_of_le HQ.out.2.2.2 HM.out.2.1) (Nat.lt_of_lt_of_le HQ.out.2.2.1 HM.out.2.1) HM.out.2.2.1).mono ?_
          rintro e w2 ⟨rfl, hs2, hc2⟩
          have hcE := (hc2.undrewN).cell hc H.out.2.2.2.1
          have hg := HM.out.2.2.2.2.1 0 w2 q1 HQ.out.2.2.1 HQ.out.2.2.2 (.inl HQ.out.1) HB.out (fun _ => (by rw [← HQ.out.1]; exact Int.le_refl _)) (fun hh => absurd hh HQ2.out) hs2 hc2.undrewN
          have H2 := Lib.hid (And.intro hg hcE)
          clear hs2 hc2 hg hcE
          go_wp2_with fail
          refine ⟨⟨q1, rfl, H2.out.2, Lib.hid H2.out.1⟩, ?_⟩
          have k1 := HQ.out.1
          have k2 := HQ.out.2.1
          have k3 := HQ.out.2.2.2
          show n - ((q1 : Nat) : Int).toNat < n - ((i : Nat) : Int).toNat
          rw [Int.toNat_natCast, Int.toNat_natCast]
          omega
        | false =>
          have HB := Lib.hid hB
          clear hB
          have hkb := HB.out
          rw [HM.out.2.2.2.2.2.2 q1 i HQ.out.2.2.1 HQ.out.2.2.2] at hkb
          have HKB := Lib.hid (show (gx m i).key ≤ (gx m q1).key from by simpa using hkb)
          clear hkb
          go_wp2_with fail
          refine (hLess_any (i := q1) (j := i) HM.out.1 (Nat.lt_of_lt_of_le HQ.out.2.2.1 HM.out.2.1) (Nat.lt_of_lt_of_le HQ.out.2.2.2 HM.out.2.1) HM.out.2.2.1).mono ?_
          rintro e w1 ⟨rfl, k, rfl⟩
          rw [HB.out]
          go_wp2_with fail
          go_ret
          exact ⟨⟨_, rfl⟩, HM.out.2.2.2.1 (HM.out.2.2.2.2.2.1 (fun h1 => by rw [← HQ.out.1]; exact HKB.out) (fun h2 => absurd h2 HQ2.out)) _ _ rfl⟩
    · have a1 : decide (n ≤ q1) = true := by simp; omega
      have a2 : decide ((n : Int) ≤ (q1 : Int)) = true := by simp; omega
      have a3 : decide ((q1 : Int) ≥ (n : Int)) = true := by simp; omega
      have HQ := Lib.hid (show ¬ 2 * i + 1 < n from by omega)
      clear hq1 hq2 hA
      go_wp2_with fail
      go_ret
      exact ⟨⟨_, rfl⟩, HM.out.2.2.2.1 (HM.out.2.2.2.2.2.1 (fun h1 => absurd h1 HQ.out) (fun h2 => absurd h2 (fun h3 => HQ.out (by omega)))) _ 0 rfl⟩
end Go.Proofs.YtlhipaffhehcnaaGreat
namespace Go.Proofs.YtlhipaffhehcnaaGreat
open Go.RowKit
set_option linter.unusedVariables false
theorem el_info : (Tryz.prog.info? 171).map (fun i => (i.zero, i.size, i.bytes)) = some (some (.agg #[.int .i64 0, .int .i64 0]), 2, 16) := by kernel_rfl
/-- A heap in a field of a block. -/
def HF (w : World) (base E : Nat) (cs : List Value) (o : Nat) (v : Value) (l : List HE) : Prop :=
  Bk w E 129 cs ∧ cs[o]? = some v ∧ HR w base v l ∧ v.ownBlock ≠ some E ∧ base ≤ w.heap.size
/-- What an element is as an interface's value. -/
def HE.any (e : HE) : Value := .iface 171 (.agg #[.int .i64 e.a, .int .i64 e.b])
theorem assert_el (e : HE) (w : World) : (Instr.typeAssert (.iface 171 (.agg #[.int .i64 e.a, .int .i64 e.b])) 20 171 false).run Tryz.prog w = .ok (.agg #[.int .i64 e.a, .int .i64 e.b]) w := by kernel_rfl
theorem push_end {w w4 : World} {base E o m : Nat} {cs : List Value} {v : Value} {l : List HE} {e : HE} {A1 : Option Addr} {d1 : Nat} {ob : Obj} (hm : (l ++ [e]).length = m)
    (hB : Bk w E 129 cs) (hco : cs[o]? = some v) (hne : v.ownBlock ≠ some E) (hbs : base ≤ w.heap.size)
    (h4 : HR w4 base (.slice A1 (l ++ [e]).length d1) (l ++ [e])) (hE : Bk w4 E 129 cs) (hg : (w.alloc ob).drew.grownBy w4 v.ownBlock)
    (hat : (Value.slice A1 (l ++ [e]).length d1).ownBlock = v.ownBlock ∨ (Value.slice A1 (l ++ [e]).length d1).ownBlock = some (w.alloc ob).drew.heap.size) :
    ∃ v', HF (w4.setCell ⟨E, o, none⟩ (.slice A1 m d1)) base E (cs.set o v') o v' (l ++ [e]) ∧ Chg (fun k => k = E ∨ v.ownBlock = some k) w (w4.setCell ⟨E, o, none⟩ (.slice A1 m d1)) ∧ (∀ b, v'.ownBlock = some b → v.ownBlock = some b ∨ w.heap.size ≤ b) := by
  subst hm
  have hlt := hB.lt
  have hsz : (w.alloc ob).drew.heap.size = w.heap.size + 1 := World.size_alloc _ _
  have hne' : (Value.slice A1 (l ++ [e]).length d1).ownBlock ≠ some E := fun e => by
    rcases hat with h | h
    · exact hne (h.symm.trans e)
    · rw [h] at e; injection e with e; omega
  have hc1 : Chg (fun k => k = E ∨ v.ownBlock = some k) w w4 := by
    have hc0 : Chg (fun k => k = E ∨ v.ownBlock = some k) w (w.alloc ob).drew := ((Chg.refl _ w).alloc ob).drew
    exact hc0.trans (Chg.of_grown (S := fun k => k = E ∨ v.ownBlock = some k) hg fun k hk => .inr hk) fun _ _ x => x
  have hcE : Chg (fun k => k = E) w4 (w4.setCell ⟨E, o, none⟩ (.slice A1 (l ++ [e]).length d1)) := (Chg.refl (fun k => k = E) w4).set_ (show E = E from rfl) o _
  refine ⟨_, ⟨hE.set_ o _, by rw [List.getElem?_set_self (List.getElem?_eq_some_iff.1 hco).1], h4.chg hcE (fun g hg e => hne' (by rw [hg, e])), hne', ?_⟩, hc1.set_ (.inl rfl) _ _, fun b hb => ?_⟩
  · have := hc1.size
    exact Nat.le_trans hbs (Nat.le_trans this (by simp [World.setCell]))
  · rcases hat with h | h
    · left; rw [← h]; exact hb
    · right; rw [h] at hb; injection hb with hb; omega
set_option maxRecDepth 100000 in
set_option maxHeartbeats 3200000 in
theorem sPush_any {w : World} {base E o : Nat} {cs : List Value} {v : Value} {l : List HE} (e : HE) (h : HF w base E cs o v l) (hl : l.length ≤ 1000000) :
    Calls Tryz.prog 189 #[.pointer (some ⟨E, o, none⟩), e.any] w fun x w' => x = .returned (.tuple #[]) ∧ ∃ v', HF w' base E (cs.set o v') o v' (l ++ [e]) ∧ Chg (fun k => k = E ∨ v.ownBlock = some k) w w' ∧ (∀ b, v'.ownBlock = some b → v.ownBlock = some b ∨ w.heap.size ≤ b) := by
  obtain ⟨hB, hco, hr, hne, hbs⟩ := h
  obtain ⟨A, c, rfl, hc, _⟩ := hr.form
  have c5 := hB.cell o
  rw [hco] at c5
  obtain ⟨i0, hi0, hz0, hz1, hz2⟩ := info_parts el_info
  have H := Lib.hid (And.intro hB (And.intro hco (And.intro hr (And.intro hne hbs))))
  obtain ⟨n, hn⟩ : ∃ n, l.length = n := ⟨_, rfl⟩
  have HN := Lib.hid hn
  have hn1 : n ≤ 1000000 := by omega
  rw [hn] at c5 H
  have hr' : w.ownsRow base 171 2 (.slice A n c) n (ecs l) := by rw [← hn]; exact hr
  have HR' := Lib.hid hr'
  rw [hn]
  clear hB hco hr hne hn hr' hl
  unfold HE.any
  have has := fun w => assert_el e w
  have c6 : (w.alloc (.cells #[.int .i64 e.a, .int .i64 e.b] 171)).cell? ⟨E, o, none⟩ = some (.slice A n c) := by rw [(H.out.1.alloc _).cell o]; exact H.out.2.1
  go_enter Tryz.func189, Tryz.ntmps189
  go_wp2_with fail
  go_region_law ((refine step_append_rd (by rfl) (.tmp 7) (.tmp 10) _ (by rfl) base 171 i0 _ 2 16 Tryz.underlying127 hi0 hz0 hz1 hz2 rfl (by omega) _ n (ecs l) (by rfl) (own_below HR'.out (((Below.refl _ _).alloc (Nat.le_refl _) _).drew)) (some ⟨w.heap.size, 0, none⟩) 1 1 e.cells (by rfl) ((Rd.lit _ _ _ _ rfl 2 rfl _ rfl).drew) (cells_one e) (by simp only [maxLen]; omega) (by omega) (by show base ≤ (w.alloc _).heap.size; rw [World.size_alloc]; omega) ?_; intro v1 w4 hown1 hg1 hat1; have hE4 := ((H.out.1.alloc _).drew).grown hg1 (fun hh => H.out.2.2.2.1 hh.symm); have c5' := hE4.cell o; rw [H.out.2.1] at c5'; have f5' := hE4.frozen o; have hr4 : HR w4 base v1 (l ++ [e]) := (by show w4.ownsRow base 171 2 v1 (l ++ [e]).length (ecs (l ++ [e])); rw [ecs_append, List.length_append, HN.out, show ecs [e] = e.cells from List.append_nil _]; exact hown1); obtain ⟨A1, d1, rfl, hd1, _⟩ := hr4.form; have H4 := Lib.hid (And.intro hr4 (And.intro hE4 (And.intro hg1 hat1))); clear hown1 hg1 hat1 hE4 hr4 hd1))
  all_goals go_end0
  all_goals refine ⟨rfl, ?_⟩
  all_goals exact push_end (by simp) H.out.1 H.out.2.1 H.out.2.2.2.1 H.out.2.2.2.2 H4.out.1 H4.out.2.1 H4.out.2.2.1 H4.out.2.2.2
theorem HF.cell {w : World} {base E o : Nat} {cs : List Value} {v : Value} {l : List HE} (h : HF w base E cs o v l) : w.cell? ⟨E, o, none⟩ = some v := by rw [h.1.cell]; exact h.2.1
set_option maxRecDepth 100000 in
set_option maxHeartbeats 3200000 in
theorem heapPush_any {w : World} {base E o : Nat} {cs : List Value} {v : Value} {l : List HE} (e : HE) (h : HF w base E cs o v l) (hp : Hp (keys l)) (hf : FitL l) (he : e.fit) (hl : l.length ≤ 1000000) :
    Calls Tryz.prog 112 #[hif E o, e.any] w fun x w' => x = .returned (.tuple #[]) ∧ ∃ v' l', HF w' base E (cs.set o v') o v' l' ∧ l'.Perm (l ++ [e]) ∧ Hp (keys l') ∧ Chg (fun k => k = E ∨ v.ownBlock = some k) w w' ∧ (∀ b, v'.ownBlock = some b → v.ownBlock = some b ∨ w.heap.size ≤ b) := by
  have H := Lib.hid (And.intro h (And.intro hp (And.intro hf (And.intro he hl))))
  have ha1 := fun w => ahead_push w ⟨E, o, none⟩
  have hm1 := fun w => method_push w ⟨E, o, none⟩
  have ha2 := fun w => ahead_len w ⟨E, o, none⟩
  clear h hp hf he hl
  show Calls Tryz.prog 112 #[.iface 169 (.pointer (some ⟨E, o, none⟩)), .iface 171 (.agg #[.int .i64 e.a, .int .i64 e.b])] w _
  go_enter Tryz.func112, Tryz.ntmps112
  go_wp2_with fail
  refine (sPush_any e H.out.1 H.out.2.2.2.2).mono ?_
  rintro x w1 ⟨rfl, v1, h1, c1, b1⟩
  have hm2 : ∀ w, w.cell? ⟨E, o, none⟩ = some v1 → (method 343 169 (.pointer (some ⟨E, o, none⟩)) "Len").run Tryz.prog w = .ok (113, v1) w := fun w h => method_len w h
  have c5 := h1.cell
  obtain ⟨A1, d1, hv1, hd1, hx1⟩ := h1.2.2.1.form
  have hln : (l ++ [e]).length = l.length + 1 := by simp
  rw [hln] at hv1
  subst hv1
  have H1 := Lib.hid (And.intro h1 (And.intro c1 b1))
  have HN := Lib.hid hln
  clear h1 c1 b1 hd1 hx1 hln
  obtain ⟨n, hn⟩ : ∃ n, l.length = n := ⟨_, rfl⟩
  have HL := Lib.hid hn
  have hn6 : (n : Int) ≤ 1000000 := by have := H.out.2.2.2.2; omega
  rw [hn] at c5 hm2 H1 HN
  clear hn
  have e1 : (((n + 1 : Nat) : Int)) - 1 = (n : Int) := by omega
  go_wp2_with fail
  refine (hLen_any (by have := H.out.2.2.2.2; have := HL.out; omega)).mono ?_
  rintro x w2 ⟨rfl, rfl⟩
  go_wp2_with fail
  refine (hUp_any (j := n) c5 H1.out.1.2.2.1 ?_ (by rw [HN.out]; omega) ?_ (by rw [HN.out]; omega) H1.out.1.2.2.2.1).mono ?_
  · have hk : keys (l ++ [e]) = keys l ++ [e.key] := by simp [keys]
    rw [hk]
    have := Up.snoc H.out.2.1 e.key
    rw [keys_length, HL.out] at this
    exact this
  · intro f hf
    rcases List.mem_append.1 hf with hf | hf
    · exact H.out.2.2.1 f hf
    · rw [List.mem_singleton.1 hf]; exact H.out.2.2.2.1
  rintro x w3 ⟨rfl, l', hr, hpm, hhp, hc⟩
  have H3 := Lib.hid (And.intro hr (And.intro hpm (And.intro hhp hc)))
  clear hr hpm hhp hc
  go_wp2_with fail
  go_end0
  refine ⟨rfl, _, l', ⟨H3.out.2.2.2.bk H1.out.1.1 (fun hh => H1.out.1.2.2.2.1 hh), H1.out.1.2.1, H3.out.1, H1.out.1.2.2.2.1, Nat.le_trans H1.out.1.2.2.2.2 H3.out.2.2.2.size⟩, H3.out.2.1, H3.out.2.2.1, H1.out.2.1.trans H3.out.2.2.2 (fun k hk hT => ?_), H1.out.2.2⟩
  rcases H1.out.2.2 k hT with h | h
  · exact .inr h
  · omega
theorem HR.take {w : World} {base g m c : Nat} {l : List HE} (h : HR w base (.slice (some ⟨g, 0, none⟩) (m + 1) c) l) (hl : l.length = m + 1) : HR w base (.slice (some ⟨g, 0, none⟩) m c) (l.take m) := by
  have hlt : (l.take m).length = m := by rw [List.length_take]; omega
  show World.ownsRow _ base 171 2 _ (l.take m).length _
  rw [hlt]
  rcases h.2 with ⟨h3, h4⟩ | ⟨g', cap, cur, hv, hb, hh, hnc, hcm, hcs, ht⟩
  · cases h3
  · injection hv with e1 e2 e3
    injection e1 with e1
    injection e1 with e1
    subst e1 e3
    rw [hl] at ht hnc
    refine ⟨by rw [ecs_length, hlt], .inr ⟨g, c, cur, rfl, hb, hh, by omega, hcm, hcs, ?_⟩⟩
    rw [← ecs_take, ← ht, List.take_take, Nat.min_eq_left (by omega)]
theorem pop_end {w w1 : World} {base E o m c g : Nat} {cs : List Value} {l : List HE} (h : HF w base E cs o (.slice (some ⟨g, 0, none⟩) (m + 1) c) l) (hl : l.length = m + 1) (hb : Below w.heap.size w w1) (hk : Bk w1 E 129 cs) (hg : g ≠ E) :
    HF (w1.setCell ⟨E, o, none⟩ (.slice (some ⟨g, 0, none⟩) m c)).drew base E (cs.set o (.slice (some ⟨g, 0, none⟩) m c)) o (.slice (some ⟨g, 0, none⟩) m c) (l.take m) ∧ Chg (fun k => k = E) w (w1.setCell ⟨E, o, none⟩ (.slice (some ⟨g, 0, none⟩) m c)).drew := by
  have hc : Chg (fun k => k = E) w (w1.setCell ⟨E, o, none⟩ (.slice (some ⟨g, 0, none⟩) m c)).drew := ((Chg.of_below (S := fun k => k = E) hb).set_ (show E = E from rfl) o _).drew
  have hne : (Value.slice (some ⟨g, 0, none⟩) m c).ownBlock ≠ some E := fun e => hg (by injection e)
  exact ⟨⟨(hk.set_ o _).drew, by rw [List.getElem?_set_self (List.getElem?_eq_some_iff.1 h.2.1).1], (h.2.2.1.take hl).chg hc (fun q hq e => hne (by rw [hq, e])), hne, Nat.le_trans h.2.2.2.2 hc.size⟩, hc⟩
theorem cells_bk {w : World} {K : Nat} {e : HE} (h : Bk w K 171 e.cells) : w.cell? ⟨K, 0, none⟩ = some (.int .i64 e.a) ∧ w.cell? ⟨K, 1, none⟩ = some (.int .i64 e.b) := ⟨h.cell 0, h.cell 1⟩
theorem er_cells {w : World} {g o : Nat} {e : HE} (h : w.rangeAt g o e.cells) : w.cell? ⟨g, o, none⟩ = some (.int .i64 e.a) ∧ w.cell? ⟨g, o + 1, none⟩ = some (.int .i64 e.b) := ⟨h 0 _ rfl, h 1 _ rfl⟩
set_option maxRecDepth 100000 in
set_option maxHeartbeats 3200000 in
theorem sPop_any {w : World} {base E o m c : Nat} {A : Option Addr} {cs : List Value} {l : List HE} (h : HF w base E cs o (.slice A (m + 1) c) l) (hl : l.length = m + 1) (hm : m ≤ 1000000) :
    Calls Tryz.prog 188 #[.pointer (some ⟨E, o, none⟩)] w fun x w' => x = .returned (gx l m).any ∧ HF w' base E (cs.set o (.slice A m c)) o (.slice A m c) (l.take m) ∧ Chg (fun k => k = E) w w' := by
  have hml : m < l.length := by omega
  obtain ⟨g, c', e', hg, hrm, htm⟩ := h.2.2.1.at_ hml
  rw [hl] at e'
  injection e' with e1 e2 e3
  subst e1 e3
  obtain ⟨i0, i1⟩ := er_cells hrm
  have c5 := h.cell
  have f5 := h.1.frozen o
  have H := Lib.hid (And.intro h hl)
  have m6 : (m : Int) ≤ 1000000 := by omega
  have e1 : (m : Int) + 1 - 1 = (m : Int) := by omega
  have e2 : IntKind.i64.wrap ((m : Int) + 1 - 1) = (m : Int) := by rw [IntKind.wrap_i64]; omega
  have e3 : IntKind.i64.wrap (m : Int) = (m : Int) := by rw [IntKind.wrap_i64]; omega
  have q0 : (0 : Int) ≤ (m : Int) := Int.natCast_nonneg _
  have q1 : (m : Int) < (m : Int) + 1 := by omega
  have q2 : (m : Int) ≤ (m : Int) + 1 := by omega
  have hgE : ¬ g = E := fun e => h.2.2.2.1 (by rw [e]; rfl)
  have hgE' : ¬ E = g := fun e => hgE e.symm
  have hwn := World.new_ne w _ c5
  have hwn0 := World.new_ne w _ i0
  obtain ⟨e, he⟩ : ∃ e, gx l m = e := ⟨_, rfl⟩
  rw [he] at i0 i1 ⊢
  have HE := Lib.hid he
  clear h hl hrm htm hml he hg
  show Calls Tryz.prog 188 #[.pointer (some ⟨E, o, none⟩)] w fun x w' => x = .returned (.iface 171 (.agg #[.int .i64 e.a, .int .i64 e.b])) ∧ _
  go_enter Tryz.func188, Tryz.ntmps188
  go_wp2_with fail
  go_region_held3 (fun w' => w'.cell? ⟨E, o, none⟩ = some (.slice (some ⟨g, 0, none⟩) (m + 1) c) ∧ w'.cell? ⟨g, m * 2, none⟩ = some (.int .i64 e.a) ∧ w'.cell? ⟨g, m * 2 + 1, none⟩ = some (.int .i64 e.b)) (go_keep) (fail)
  all_goals go_wp2_with fail
  obtain ⟨w1, hw1⟩ : ∃ w1, w1 = (w.alloc (.cells #[.int .i64 e.a, .int .i64 e.b] 171)).drew := ⟨_, rfl⟩
  rw [← hw1]
  have hb1 : Below w.heap.size w w1 := by rw [hw1]; exact ((Below.refl _ _).alloc (Nat.le_refl _) _).drew
  have hk1 : Bk w1 w.heap.size 171 e.cells := by rw [hw1]; exact (Bk.newA w 171 #[.int .i64 e.a, .int .i64 e.b]).drew
  obtain ⟨K, hK⟩ : ∃ K, w.heap.size = K := ⟨_, rfl⟩
  have hKE : ¬ K = E := by rw [← hK]; exact fun e => by have := H.out.1.1.lt; omega
  have hKE' : ¬ E = K := fun e => hKE e.symm
  have hmc : m + 1 ≤ c := by
    obtain ⟨A9, c9, e9, h9, _⟩ := H.out.1.2.2.1.form
    injection e9 with _ e2 e3
    rw [← e2, ← e3] at h9; exact h9
  have hmc' : (m : Int) ≤ (c : Int) := by omega
  have HW := Lib.hid (And.intro hb1 (And.intro hk1 hK))
  have hbk := H.out.1.1.belowS hb1
  have c5' := hbk.cell o
  rw [H.out.1.2.1] at c5'
  have f5' := hbk.frozen o
  rw [hK] at hk1
  obtain ⟨k0, k1⟩ := cells_bk hk1
  have HBK := Lib.hid hbk
  clear hw1 hb1 hk1 hbk c5 f5 i0 i1 hwn hwn0
  rw [hK]
  clear hK
  go_region
  all_goals go_wp2_with fail
  all_goals go_ret
  all_goals refine ⟨rfl, ?_⟩
  all_goals exact pop_end H.out.1 H.out.2 HW.out.1 HBK.out (fun e => hgE e)
set_option maxRecDepth 100000 in
set_option maxHeartbeats 3200000 in
theorem heapPop_any {w : World} {base E o m c : Nat} {A : Option Addr} {cs : List Value} {l : List HE} (h : HF w base E cs o (.slice A (m + 1) c) l) (hl : l.length = m + 1) (hp : Hp (keys l)) (hf : FitL l) (hm : m ≤ 1000000) :
    Calls Tryz.prog 114 #[hif E o] w fun x w' => x = .returned (gx l 0).any ∧ ∃ l', HF w' base E (cs.set o (.slice A m c)) o (.slice A m c) l' ∧ (gx l 0 :: l').Perm l ∧ Hp (keys l') ∧ (∀ e ∈ l, (gx l 0).key ≤ e.key) ∧ Chg (fun k => k = E ∨ (Value.slice A (m + 1) c).ownBlock = some k) w w' := by
  have H := Lib.hid (And.intro h (And.intro hl (And.intro hp (And.intro hf hm))))
  have c5 := h.cell
  have ha1 := fun w => ahead_len w ⟨E, o, none⟩
  have ha2 := fun w => ahead_swap w ⟨E, o, none⟩
  have ha3 := fun w => ahead_pop w ⟨E, o, none⟩
  have hm1 : ∀ w, w.cell? ⟨E, o, none⟩ = some (.slice A (m + 1) c) → (method 343 169 (.pointer (some ⟨E, o, none⟩)) "Len").run Tryz.prog w = .ok (113, .slice A (m + 1) c) w := fun w h => method_len w h
  have hm2 : ∀ w, w.cell? ⟨E, o, none⟩ = some (.slice A (m + 1) c) → (method 343 169 (.pointer (some ⟨E, o, none⟩)) "Swap").run Tryz.prog w = .ok (187, .slice A (m + 1) c) w := fun w h => method_swap w h
  have hm3 := fun w => method_pop w ⟨E, o, none⟩
  have m6 : (m : Int) ≤ 1000000 := by omega
  have e1 : (((m + 1 : Nat) : Int)) - 1 = (m : Int) := by omega
  clear h hl hp hf hm
  show Calls Tryz.prog 114 #[.iface 169 (.pointer (some ⟨E, o, none⟩))] w _
  go_enter Tryz.func114, Tryz.ntmps114
  go_wp2_with fail
  refine (hLen_any (by have := H.out.2.2.2.2; omega)).mono ?_
  rintro x w1 ⟨rfl, rfl⟩
  go_wp2_with fail
  have hl0 : 0 < l.length := by rw [H.out.2.1]; omega
  have hlm : m < l.length := by rw [H.out.2.1]; omega
  have hl9 : l.length ≤ 1000000000 := by have := H.out.2.2.2.2; have := H.out.2.1; omega
  refine (hSwap_any (i := 0) (j := m) H.out.1.2.2.1 hl0 hlm hl9).mono ?_
  rintro x w2 ⟨rfl, hs2, hc2⟩
  have c6 := hc2.cell c5 H.out.1.2.2.2.1
  have H2 := Lib.hid (And.intro hs2 hc2)
  clear hs2 hc2 c5
  go_wp2_with fail
  refine (hDown_any (n := m) c6 H2.out.1 (by rw [swx_length]; exact Nat.le_of_lt hlm) ?_ (H.out.2.2.2.1.perm (swx_perm hl0 hlm)) (by rw [swx_length]; exact hl9) H.out.1.2.2.2.1).mono ?_
  · have hk : keys ((swx l 0 m).take m) = ((keys l).set 0 (gx l m).key).take m := by
      unfold swx keys
      rw [List.take_set_of_le (Nat.le_refl _), List.map_take, List.map_set]
    rw [hk]
    exact Dn.start H.out.2.2.1 _ _
  rintro x w3 ⟨⟨b, rfl⟩, l', hr, hpm, hpt, hdr, hhp, hc⟩
  have c7 := hc.cell c6 H.out.1.2.2.2.1
  have hll : l'.length = m + 1 := by rw [hpm.length_eq, swx_length, H.out.2.1]
  have hbk3 : Bk w3 E 129 cs := hc.bk (H2.out.2.bk H.out.1.1 H.out.1.2.2.2.1) H.out.1.2.2.2.1
  have hf3 : HF w3 base E cs o (.slice A (m + 1) c) l' := ⟨hbk3, H.out.1.2.1, hr, H.out.1.2.2.2.1, Nat.le_trans H.out.1.2.2.2.2 (Nat.le_trans H2.out.2.size hc.size)⟩
  have hlast : gx l' m = gx l 0 := by
    have h1 : l'.drop m = (swx l 0 m).drop m := hdr
    have h2 : (l'.drop m)[0]? = ((swx l 0 m).drop m)[0]? := by rw [h1]
    rw [List.getElem?_drop, List.getElem?_drop, Nat.add_zero, gx_some (by omega), swx_get? hl0 hlm, if_pos rfl] at h2
    injection h2
  have hperm : (gx l 0 :: l'.take m).Perm l := by
    have h1 : l' = l'.take m ++ [gx l 0] := by
      have := (List.take_append_drop m l').symm
      have h2 : l'.drop m = [gx l 0] := by
        apply List.ext_getElem?
        intro q
        rw [List.getElem?_drop]
        rcases Nat.eq_zero_or_pos q with hq | hq
        · subst hq; rw [Nat.add_zero, gx_some (by omega), hlast]; rfl
        · rw [List.getElem?_eq_none (by omega), List.getElem?_eq_none (by show 1 ≤ q; omega)]
      rw [h2] at this; exact this
    have h3 : (gx l 0 :: l'.take m).Perm l' := by
      conv => rhs; rw [h1]
      exact (List.perm_append_comm (l₁ := [gx l 0]) (l₂ := l'.take m))
    exact h3.trans (hpm.trans (swx_perm hl0 hlm))
  have hmin : ∀ e ∈ l, (gx l 0).key ≤ e.key := fun e he => by
    obtain ⟨q, hq, he'⟩ := List.mem_iff_getElem.1 he
    have := H.out.2.2.1.min q (by rw [keys_length]; exact hq)
    rw [gi_keys hl0, gi_keys hq, gx_get hq, he'] at this
    exact this
  have H3 := Lib.hid (And.intro hf3 (And.intro hll (And.intro hperm (And.intro hhp (And.intro hmin (H2.out.2.trans hc fun _ _ x => x))))))
  have HLt := Lib.hid hlast
  clear hr hpm hpt hdr hhp hc hll hbk3 hf3 hlast hperm hmin c6 hl0 hlm hl9
  go_wp2_with fail
  refine (sPop_any H3.out.1 H3.out.2.1 H.out.2.2.2.2).mono ?_
  rw [HLt.out]
  rintro x w4 ⟨rfl, hf4, hc4⟩
  have H4 := Lib.hid (And.intro hf4 hc4)
  clear hf4 hc4 c7
  obtain ⟨z, hz⟩ : ∃ z, (gx l 0).any = z := ⟨_, rfl⟩
  rw [hz]
  go_wp2_with fail
  go_ret
  refine ⟨by rw [hz]; rfl, _, H4.out.1, H3.out.2.2.1, H3.out.2.2.2.1, H3.out.2.2.2.2.1, (H3.out.2.2.2.2.2.mono fun k _ hk => .inr hk).trans (H4.out.2.mono fun k _ hk => .inl hk) fun _ _ x => x⟩
end Go.Proofs.YtlhipaffhehcnaaGreat
