/- TopLeft: rows of fractions that grow. TopLeft: ripple.shares: power (printed by gen_Sq27.py). -/
import Derived.Test.YtlhipaffhehcnaaGreatT28
namespace Go.Proofs.YtlhipaffhehcnaaGreat
open Go.RowKit Go.Shelf
set_option linter.unusedVariables false
/-- A row of fractions with its block. -/
structure Rw where
  g : Nat
  n : Nat
  c : Nat
  l : List Q
def Rw.v (a : Rw) : Value := .slice (some ⟨a.g, 0, none⟩) a.n a.c
def NoU (tl : List Value) : Prop := ∀ (i : Nat) (x : Int), tl[i]? ≠ some (.int .u64 x)
def PwR (W : World) (a : Rw) : Prop := a.l.length = a.n ∧ 1 ≤ a.n ∧ a.n ≤ a.c ∧ a.c ≤ maxLen ∧ ∃ tl, GB W a.g tl a.l ∧ tl.length = 3 * (a.c - a.n) ∧ NoU tl
theorem PwR.below {W W' : World} {a : Rw} (h : PwR W a) (hb : Below W.heap.size W W') : PwR W' a := by
  obtain ⟨h1, h2, h3, h4, tl, h5, h6, h7⟩ := h
  exact ⟨h1, h2, h3, h4, tl, h5.below hb, h6, h7⟩
theorem PwR.kq {W W' : World} {a : Rw} {B : Nat} {T : Nat → Prop} (h : PwR W a) (hk : Kq B T W W') (hT : ¬ T a.g) : PwR W' a := by
  obtain ⟨h1, h2, h3, h4, tl, h5, h6, h7⟩ := h
  exact ⟨h1, h2, h3, h4, tl, h5.kq hk hT, h6, h7⟩
theorem PwR.lt {W : World} {a : Rw} (h : PwR W a) : a.g < W.heap.size := by
  obtain ⟨_, _, _, _, tl, h5, _⟩ := h
  exact h5.lt
theorem PwR.num {W : World} {a : Rw} (h : PwR W a) : ∀ (k : Nat) (c : Array Value) (t : TypeId) (z : Nat × Nat), k = a.g → W.heap[k]? = some (.cells c t z) → ∀ (i : Nat) (x : Int), c[i]? ≠ some (.int .u64 x) := by
  obtain ⟨_, _, _, _, tl, h5, _, h7⟩ := h
  exact h5.num h7
theorem r3_one (r : R3) : ∀ u ∈ r.cells, u.oneCell' = true := by
  intro u hu
  unfold R3.cells at hu
  simp at hu
  rcases hu with rfl | rfl | rfl <;> rfl
theorem r3s_one' (r : R3) : r3s [r] = r.cells := by simp [r3s]
/-- One fraction more. -/
theorem run_append_q {W : World} {a : Rw} {s c1 : Nat} {r : R3} {q : Q} (h : PwR W a) (hn : a.n ≤ 1000000) (hs : Bk W s 40 r.cells) (hq : QV W r.v q) :
    ∃ b W', (Builtin.append_ #[30, 30] 30 #[a.v, .slice (some ⟨s, 0, none⟩) 1 c1]).run Tryz.prog W = .ok (Rw.v b) W' ∧ PwR W' b ∧ b.n = a.n + 1 ∧ b.l = a.l ++ [q] ∧ Chg (fun k => k = a.g) W W' ∧ (b.g = a.g ∨ b.g = W.heap.size) ∧ QV W' r.v q := by
  obtain ⟨i0, hi0, hz0, hz1, hz2⟩ := info_parts27 rat_info
  have hnum := h.num
  obtain ⟨h1, h2, h3, h4, tl, ⟨rs, h5, h5a⟩, h6, h7⟩ := h
  obtain ⟨g, n, c, l⟩ := a
  simp only at *
  have hrl := h5a.len
  have hnews : ∀ (j : Nat) u, r.cells[j]? = some u → W.cell? ((⟨s, 0, none⟩ : Addr).add j) = some u := by
    intro j u hu
    rw [Addr.add_lit, Nat.zero_add, hs.cell]
    exact hu
  have hlr : r.cells.length = 1 * i0.size := by rw [hz1]; rfl
  have h63 : n + 1 ≤ maxLen := by simp only [maxLen]; omega
  by_cases hroom : n + 1 ≤ c
  · have hfit : n * i0.size + r.cells.length ≤ (r3s rs ++ tl).toArray.size := by
      rw [hz1]
      simp only [List.size_toArray, List.length_append, r3s_len, h6, R3.len]
      omega
    have hr := run_append_room (P := Tryz.prog) W 30 30 40 i0 Tryz.underlying30 hi0 g n c (r3s rs ++ tl).toArray h5 ⟨s, 0, none⟩ 1 c1 r.cells hlr hnews (r3_one r) hroom hfit
    have hcs : ((r3s rs ++ tl).toArray.toList.take (n * i0.size) ++ r.cells ++ (r3s rs ++ tl).toArray.toList.drop (n * i0.size + r.cells.length)) = r3s (rs ++ [r]) ++ tl.drop 3 := by
      rw [hz1, r3s_append, r3s_one']
      have e1 : (r3s rs).length = n * 3 := by rw [r3s_len]; omega
      simp only [R3.len]
      rw [List.take_left' e1, List.drop_append, List.drop_of_length_le (by omega), e1, List.nil_append, show n * 3 + 3 - n * 3 = 3 from by omega]
    rw [hcs] at hr
    have hch : Chg (fun k => k = g) W (W.setRow g (r3s (rs ++ [r]) ++ tl.drop 3).toArray) := ⟨⟨rfl, rfl, rfl, by simp, fun k hk => absurd hk (Nat.not_lt_zero _)⟩, fun k _ hk => setRow_other W g k _ hk⟩
    have hkq := Kq.of_chg 0 hch hnum
    refine ⟨⟨g, n + 1, c, l ++ [q]⟩, _, hr, ⟨by simp [h1], (by show 1 ≤ n + 1; omega), hroom, h4, tl.drop 3, ⟨rs ++ [r], setRow_heap W g _ _ 40 _ h5, (hkq.all3 h5a).snoc (hkq.qv hq)⟩, by simp [h6]; omega, fun i x => by rw [List.getElem?_drop]; exact h7 _ x⟩, rfl, rfl, hch, .inl rfl, hkq.qv hq⟩
  · have holds : ∀ (j : Nat) u, (r3s rs)[j]? = some u → W.cell? ((⟨g, 0, none⟩ : Addr).add j) = some u := by
      intro j u hu
      rw [Addr.add_lit, Nat.zero_add, h5.cell, List.getElem?_append_left (List.getElem?_eq_some_iff.1 hu).1]
      exact hu
    have hr := run_append_grow (P := Tryz.prog) W 30 30 40 i0 _ Tryz.underlying30 hi0 hz0 ⟨g, 0, none⟩ n c (r3s rs) (by rw [r3s_len, hz1]; omega) holds ⟨s, 0, none⟩ 1 c1 r.cells hlr hnews (by omega) (by simp only [maxLen] at h63; omega) (growslice_fits (by omega) (by rw [hz2]; omega))
    obtain ⟨K, hK⟩ : ∃ K, grownCap W (n + 1) c 40 = K := ⟨_, rfl⟩
    have hK1 : n + 1 ≤ K := by rw [← hK]; exact grownCap_ge W (n + 1) c _
    have hK2 : K ≤ maxLen := by rw [← hK]; exact grownCap_le_maxLen W (n + 1) c _ h63
    rw [hK] at hr
    have hzl : (Builtin.zeroCells (Value.cells (.agg #[.bool false, .slice none 0 0, .slice none 0 0])) (K - (n + 1))).size = (K - (n + 1)) * 3 := by simp [Builtin.zeroCells, Value.cells]
    have hzn : NoU (Builtin.zeroCells (Value.cells (.agg #[.bool false, .slice none 0 0, .slice none 0 0])) (K - (n + 1))).toList := by
      intro i x h
      have hi := (List.getElem?_eq_some_iff.1 h).1
      rw [Array.length_toList, hzl] at hi
      have e3 : (Builtin.zeroCells (Value.cells (.agg #[.bool false, .slice none 0 0, .slice none 0 0])) (K - (n + 1))).toList[i]? = some ((Value.cells (.agg #[.bool false, .slice none 0 0, .slice none 0 0]))[i % 3]!) := by
        simp [Builtin.zeroCells, Value.cells, hi]
      rw [e3] at h
      injection h with h
      rcases (by omega : i % 3 = 0 ∨ i % 3 = 1 ∨ i % 3 = 2) with e | e | e <;> rw [e] at h <;> cases h
    obtain ⟨Z, hZ⟩ : ∃ Z, Builtin.zeroCells (Value.cells (.agg #[.bool false, .slice none 0 0, .slice none 0 0])) (K - (n + 1)) = Z := ⟨_, rfl⟩
    rw [hZ] at hr hzl hzn
    have hbl : Below W.heap.size W (W.drew.alloc (.cells ((r3s rs).toArray ++ r.cells.toArray ++ Z) 40)) := bl_allocd ((Below.refl _ _).drew) _
    have hbk : Bk (W.drew.alloc (.cells ((r3s rs).toArray ++ r.cells.toArray ++ Z) 40)) W.heap.size 40 (r3s (rs ++ [r]) ++ Z.toList) := by
      have := Bk.newA W.drew 40 ((r3s rs).toArray ++ r.cells.toArray ++ Z)
      rw [r3s_append, r3s_one']
      simpa using this
    exact ⟨⟨W.heap.size, n + 1, K, l ++ [q]⟩, _, hr, ⟨by simp [h1], (by show 1 ≤ n + 1; omega), hK1, hK2, Z.toList, ⟨rs ++ [r], hbk, (h5a.below hbl).snoc (hq.below hbl)⟩, by rw [Array.length_toList, hzl]; show _ = 3 * (K - (n + 1)); omega, hzn⟩, rfl, rfl, Chg.of_below hbl, .inr rfl, hq.below hbl⟩
end Go.Proofs.YtlhipaffhehcnaaGreat
namespace Go.Proofs.YtlhipaffhehcnaaGreat
open Go.RowKit Go.Shelf
set_option linter.unusedVariables false
/-- Powers, looked at. -/
def powO (p : Q) : Nat → Option Q
  | 0 => some ⟨1, 1⟩
  | i + 1 => (powO p i).bind fun a => mulO [a, p]
def Pow (p : Q) (l : List Q) : Prop := ∀ i (h : i < l.length), powO p i = some l[i]
theorem powO_pre {p q : Q} {n : Nat} (h : powO p n = some q) : ∀ i, i ≤ n → ∃ a, powO p i = some a := by
  induction n generalizing q with
  | zero => intro i hi; obtain rfl : i = 0 := by omega
            exact ⟨_, h⟩
  | succ n ih =>
    intro i hi
    rcases Nat.lt_or_ge i (n + 1) with hlt | hge
    · unfold powO at h
      obtain ⟨a, h1, _⟩ := Option.bind_eq_some_iff.1 h
      exact ih h1 i (by omega)
    · obtain rfl : i = n + 1 := by omega
      exact ⟨q, h⟩
/-- The next power. -/
theorem Pow.step {p q : Q} {n : Nat} {l : List Q} (hl : Pow p l) (h0 : 1 ≤ l.length) (hn : l.length ≤ n) (h : powO p n = some q) : ∃ y m, l[l.length - 1]? = some y ∧ mulO [y, p] = some m ∧ Pow p (l ++ [m]) := by
  obtain ⟨m, hm⟩ := powO_pre h l.length hn
  obtain ⟨k, hk⟩ : ∃ k, l.length = k + 1 := ⟨l.length - 1, by omega⟩
  have hm' := hm
  rw [hk] at hm'
  unfold powO at hm'
  obtain ⟨a, h1, h2⟩ := Option.bind_eq_some_iff.1 hm'
  have h3 := hl k (by omega)
  rw [h1] at h3
  refine ⟨a, m, ?_, h2, ?_⟩
  · rw [show l.length - 1 = k from by omega, h3]
    exact List.getElem?_eq_getElem (by omega)
  · intro i hi
    rcases Nat.lt_or_ge i l.length with hlt | hge
    · rw [List.getElem_append_left hlt]; exact hl i hlt
    · have e : i = l.length := by simp at hi; omega
      subst e
      rw [List.getElem_append_right (Nat.le_refl _)]
      simpa using hm
theorem GB.at_ {W : World} {g : Nat} {tl : List Value} {qs : List Q} (h : GB W g tl qs) {i : Nat} {q : Q} (hi : qs[i]? = some q) : ∃ r : R3, QV W r.v q ∧ W.cell? ⟨g, i * 3, none⟩ = some (.bool r.s) ∧ W.cell? ⟨g, i * 3 + 1, none⟩ = some (.slice r.A r.m r.c) ∧ W.cell? ⟨g, i * 3 + 2, none⟩ = some (.slice r.B r.n r.d) ∧ W.frozen? ⟨g, i * 3, none⟩ = false ∧ W.frozen? ⟨g, i * 3 + 1, none⟩ = false ∧ W.frozen? ⟨g, i * 3 + 2, none⟩ = false := by
  obtain ⟨hl, he⟩ := List.getElem?_eq_some_iff.1 hi
  obtain ⟨r, h1, h2⟩ := h.form hl
  rw [he] at h1
  exact ⟨r, h1, h2⟩
def two : Nat → Value → Value → List Value
  | 0, x, y => [x, y]
  | _ + 1, x, y => [y, x]
/-- What power reads and writes: the row that grows, and the other one. -/
structure PwS (W : World) (b5 wh : Nat) (a b : Rw) : Prop where
  k : Bk W b5 174 (two wh a.v b.v)
  ra : PwR W a
  rb : PwR W b
  ne : a.g ≠ b.g
def own (b5 : Nat) (a b : Rw) (k : Nat) : Prop := k = b5 ∨ k = a.g ∨ k = b.g
theorem two_no (wh : Nat) (a b : Rw) : ∀ (i : Nat) (x : Int), (two wh a.v b.v)[i]? ≠ some (.int .u64 x) := by
  intro i x
  cases wh <;> rcases i with _ | _ | i <;> simp [two, Rw.v]
theorem PwS.swap {W : World} {b5 : Nat} {a b : Rw} (h : PwS W b5 0 a b) : PwS W b5 1 b a := ⟨h.k, h.rb, h.ra, h.ne.symm⟩
theorem PwS.swap' {W : World} {b5 : Nat} {a b : Rw} (h : PwS W b5 1 b a) : PwS W b5 0 a b := ⟨h.k, h.rb, h.ra, h.ne.symm⟩
theorem PwR.bk {W : World} {a : Rw} (h : PwR W a) : ∃ cs, Bk W a.g 40 cs := by
  obtain ⟨_, _, _, _, tl, ⟨rs, h5, _⟩, _⟩ := h
  exact ⟨_, h5⟩
theorem PwS.nea {W : World} {b5 wh : Nat} {a b : Rw} (h : PwS W b5 wh a b) : b5 ≠ a.g ∧ b5 ≠ b.g := by
  obtain ⟨_, h1⟩ := h.ra.bk
  obtain ⟨_, h2⟩ := h.rb.bk
  exact ⟨h.k.ne_of_type h1 (by decide), h.k.ne_of_type h2 (by decide)⟩
theorem PwS.num {W : World} {b5 wh : Nat} {a b : Rw} (h : PwS W b5 wh a b) : ∀ (k : Nat) (c : Array Value) (t : TypeId) (z : Nat × Nat), own b5 a b k → W.heap[k]? = some (.cells c t z) → ∀ (i : Nat) (x : Int), c[i]? ≠ some (.int .u64 x) := by
  intro k c t z ho
  rcases ho with e | e | e
  · exact num_of_bk h.k (two_no wh a b) k c t z e
  · exact h.ra.num k c t z e
  · exact h.rb.num k c t z e
theorem PwS.below {W W' : World} {b5 wh : Nat} {a b : Rw} (h : PwS W b5 wh a b) (hb : Below W.heap.size W W') : PwS W' b5 wh a b := ⟨h.k.belowS hb, h.ra.below hb, h.rb.below hb, h.ne⟩
theorem PwS.kq {W W' : World} {b5 wh B : Nat} {a b : Rw} {T : Nat → Prop} (h : PwS W b5 wh a b) (hk : Kq B T W W') (hT : ∀ k, own b5 a b k → ¬ T k) : PwS W' b5 wh a b :=
  ⟨hk.bk h.k (hT _ (.inl rfl)), h.ra.kq hk (hT _ (.inr (.inl rfl))), h.rb.kq hk (hT _ (.inr (.inr rfl))), h.ne⟩
def five (W : World) (b5 bx g k wh : Nat) (v : Value) (x r : R3) : Prop := W.cell? ⟨b5, wh, none⟩ = some v ∧ W.cell? ⟨g, k * 3, none⟩ = some (.bool x.s) ∧ W.cell? ⟨g, k * 3 + 1, none⟩ = some (.slice x.A x.m x.c) ∧ W.cell? ⟨g, k * 3 + 2, none⟩ = some (.slice x.B x.n x.d) ∧ W.cell? ⟨bx, 0, none⟩ = some (.bool r.s) ∧ W.cell? ⟨bx, 1, none⟩ = some (.slice r.A r.m r.c) ∧ W.cell? ⟨bx, 2, none⟩ = some (.slice r.B r.n r.d)
theorem five_open {W : World} {b5 bx g k wh : Nat} {v : Value} {x r : R3} (h : five W b5 bx g k wh v x r) : W.cell? ⟨b5, wh, none⟩ = some v ∧ W.cell? ⟨g, k * 3, none⟩ = some (.bool x.s) ∧ W.cell? ⟨g, k * 3 + 1, none⟩ = some (.slice x.A x.m x.c) ∧ W.cell? ⟨g, k * 3 + 2, none⟩ = some (.slice x.B x.n x.d) ∧ W.cell? ⟨bx, 0, none⟩ = some (.bool r.s) ∧ W.cell? ⟨bx, 1, none⟩ = some (.slice r.A r.m r.c) ∧ W.cell? ⟨bx, 2, none⟩ = some (.slice r.B r.n r.d) := h
theorem five_s3 {W : World} {b5 bx g k wh G : Nat} {v : Value} {x r r4 : R3} (h : five (set3 W G r4) b5 bx g k wh v x r) : (((W.setCell ⟨G, 0, none⟩ (.bool r4.s)).setCell ⟨G, 1, none⟩ (.slice r4.A r4.m r4.c)).setCell ⟨G, 2, none⟩ (.slice r4.B r4.n r4.d)).cell? ⟨b5, wh, none⟩ = some v ∧ (((W.setCell ⟨G, 0, none⟩ (.bool r4.s)).setCell ⟨G, 1, none⟩ (.slice r4.A r4.m r4.c)).setCell ⟨G, 2, none⟩ (.slice r4.B r4.n r4.d)).cell? ⟨g, k * 3, none⟩ = some (.bool x.s) ∧ (((W.setCell ⟨G, 0, none⟩ (.bool r4.s)).setCell ⟨G, 1, none⟩ (.slice r4.A r4.m r4.c)).setCell ⟨G, 2, none⟩ (.slice r4.B r4.n r4.d)).cell? ⟨g, k * 3 + 1, none⟩ = some (.slice x.A x.m x.c) ∧ (((W.setCell ⟨G, 0, none⟩ (.bool r4.s)).setCell ⟨G, 1, none⟩ (.slice r4.A r4.m r4.c)).setCell ⟨G, 2, none⟩ (.slice r4.B r4.n r4.d)).cell? ⟨g, k * 3 + 2, none⟩ = some (.slice x.B x.n x.d) ∧ (((W.setCell ⟨G, 0, none⟩ (.bool r4.s)).setCell ⟨G, 1, none⟩ (.slice r4.A r4.m r4.c)).setCell ⟨G, 2, none⟩ (.slice r4.B r4.n r4.d)).cell? ⟨bx, 0, none⟩ = some (.bool r.s) ∧ (((W.setCell ⟨G, 0, none⟩ (.bool r4.s)).setCell ⟨G, 1, none⟩ (.slice r4.A r4.m r4.c)).setCell ⟨G, 2, none⟩ (.slice r4.B r4.n r4.d)).cell? ⟨bx, 1, none⟩ = some (.slice r.A r.m r.c) ∧ (((W.setCell ⟨G, 0, none⟩ (.bool r4.s)).setCell ⟨G, 1, none⟩ (.slice r4.A r4.m r4.c)).setCell ⟨G, 2, none⟩ (.slice r4.B r4.n r4.d)).cell? ⟨bx, 2, none⟩ = some (.slice r.B r.n r.d) := h
theorem five_drew {W : World} {b5 bx g k wh : Nat} {v : Value} {x r : R3} (h : five W b5 bx g k wh v x r) : five W.drew b5 bx g k wh v x r := h
theorem five_below {W W' : World} {b5 bx g k wh : Nat} {v : Value} {x r : R3} (h : five W b5 bx g k wh v x r) (hb : Below W.heap.size W W') : five W' b5 bx g k wh v x r := by
  have hc : ∀ {p : Addr} {u : Value}, W.cell? p = some u → W'.cell? p = some u := fun {p u} hp => (hb.cell (World.block_lt_of_cell? W p hp)).trans hp
  exact ⟨hc h.1, hc h.2.1, hc h.2.2.1, hc h.2.2.2.1, hc h.2.2.2.2.1, hc h.2.2.2.2.2.1, hc h.2.2.2.2.2.2⟩
theorem five_alloc {W : World} {b5 bx g k wh : Nat} {v : Value} {x r : R3} {o : Obj} (h : five W b5 bx g k wh v x r) : five (W.alloc o) b5 bx g k wh v x r := five_below h (bl_allocd (Below.refl _ _) o)
theorem five_allocD {W : World} {b5 bx g k wh : Nat} {v : Value} {x r : R3} {o : Obj} (h : five W b5 bx g k wh v x r) : five (W.alloc o).drew b5 bx g k wh v x r := five_below h (bl_allocd (Below.refl _ _) o).drew
theorem five_set3 {W : World} {b5 bx g k wh G : Nat} {v : Value} {x r : R3} (h : five W b5 bx g k wh v x r) (r4 : R3) (hn : b5 ≠ G ∧ g ≠ G ∧ bx ≠ G) : five (set3 W G r4) b5 bx g k wh v x r := by
  have hc := chg_set3 W G r4
  have hk : ∀ {b o : Nat} {u : Value}, b ≠ G → W.cell? ⟨b, o, none⟩ = some u → (set3 W G r4).cell? ⟨b, o, none⟩ = some u := fun {b o u} hb hp => (World.cell?_of_block (w := W) (hc.2 b (World.block_lt_of_cell? W ⟨b, o, none⟩ hp) hb)).trans hp
  exact ⟨hk hn.1 h.1, hk hn.2.1 h.2.1, hk hn.2.1 h.2.2.1, hk hn.2.1 h.2.2.2.1, hk hn.2.2 h.2.2.2.2.1, hk hn.2.2 h.2.2.2.2.2.1, hk hn.2.2 h.2.2.2.2.2.2⟩
theorem five_ne {W : World} {b5 bx g k wh G : Nat} {v : Value} {x r : R3} (h : five W b5 bx g k wh v x r) (hG : W.heap.size ≤ G) : b5 ≠ G ∧ g ≠ G ∧ bx ≠ G := by
  have h1 := World.block_lt_of_cell? W _ h.1
  have h2 := World.block_lt_of_cell? W _ h.2.1
  have h3 := World.block_lt_of_cell? W _ h.2.2.2.2.1
  simp only at h1 h2 h3
  exact ⟨by omega, by omega, by omega⟩
section
variable {w0 W W' : World} {o o2 : Obj}
theorem zr_aD (hl : Below w0.heap.size w0 W) (hb : Below ((W.alloc (.cells #[.bool false, .slice none 0 0, .slice none 0 0] 40)).alloc o).drew.heap.size ((W.alloc (.cells #[.bool false, .slice none 0 0, .slice none 0 0] 40)).alloc o).drew W') : Bk W' W.heap.size 40 R3.zero.cells ∧ w0.heap.size ≤ W.heap.size := zr_a hl (below_undrew hb)
theorem zr_bD (hl : Below w0.heap.size w0 W) (hb : Below ((W.alloc o).alloc (.cells #[.bool false, .slice none 0 0, .slice none 0 0] 40)).drew.heap.size ((W.alloc o).alloc (.cells #[.bool false, .slice none 0 0, .slice none 0 0] 40)).drew W') : Bk W' (W.heap.size + 1) 40 R3.zero.cells ∧ w0.heap.size ≤ W.heap.size + 1 := zr_b hl (below_undrew hb)
theorem bl_allocD2 (h : Below w0.heap.size w0 W) (hb : Below ((W.alloc o).alloc o2).drew.heap.size ((W.alloc o).alloc o2).drew W') : Below w0.heap.size w0 W' := bl_next (bl_allocd (bl_allocd h o) o2).drew hb
end
theorem step_append_q {ops : Array Oper} {o : Oper} {t : Act} {W : World} {K : Act → World → Prop} {Q' : Exit → Act → World → Prop} {E : Prop} (hgd : o.guard = none) (hty : o.type = 30) (s x : Operand)
    (ho : o.op = .call { callee := .builtin .append, args := #[s, x], argTypes := #[30, 30] })
    (a : Rw) (sb c1 : Nat) (r : R3) (q : Q) (hs : t.eval s = a.v) (h : PwR W a) (hn : a.n ≤ 1000000) (hx : t.eval x = .slice (some ⟨sb, 0, none⟩) 1 c1) (hb : Bk W sb 40 r.cells) (hq : QV W r.v q)
    (hK : ∀ b W', PwR W' b → b.n = a.n + 1 → b.l = a.l ++ [q] → Chg (fun k => k = a.g) W W' → (b.g = a.g ∨ b.g = W.heap.size) → QV W' r.v q → K (t.put o.dst (Rw.v b)) W') :
    if Region.wanted o (yielded ops t.tmps) = true then Oper.wp Tryz.prog o t W K Q' else E := by
  have hw : Region.wanted o (yielded ops t.tmps) = true := by simp [Region.wanted, hgd]
  rw [if_pos hw]
  obtain ⟨b, W', hrun, h1, h2, h3, h4, h5, h6⟩ := run_append_q (c1 := c1) h hn hb hq
  unfold Oper.wp execOp
  simp only [ho, hty, resolve, invoke, builtin, Sem.run_bind, Sem.run_pure, Result.andThen_ok, List.map_toArray, List.map_cons, List.map_nil, hs, hx, hrun]
  exact hK b W' h1 h2 h3 h4 h5 h6
/-- power, under way. -/
structure PwL (w W : World) (b5 wh bx bo : Nat) (a0 a b : Rw) (r : R3) (p : Q) : Prop where
  s : PwS W b5 wh a b
  x : Bk W bx 40 r.cells
  o : Bk W bo 40 R3.zero.cells
  q : QV W r.v p
  chg : Chg (own b5 a0 b) w W
  new : a.g = a0.g ∨ w.heap.size ≤ a.g
  pw : Pow p a.l
  ne : a.g ≠ bx ∧ a.g ≠ bo ∧ b.g ≠ bx ∧ b.g ≠ bo
  hx : bx = w.heap.size ∧ bo = w.heap.size + 1
theorem PwL.below {w W W' : World} {b5 wh bx bo : Nat} {a0 a b : Rw} {r : R3} {p : Q} (h : PwL w W b5 wh bx bo a0 a b r p) (hb : Below W.heap.size W W') : PwL w W' b5 wh bx bo a0 a b r p :=
  ⟨h.s.below hb, h.x.belowS hb, h.o.belowS hb, h.q.below hb, h.chg.trans (Chg.of_below (S := own b5 a0 b) hb) (fun _ _ e => e), h.new, h.pw, h.ne, h.hx⟩
theorem PwL.allocd {w W : World} {b5 wh bx bo : Nat} {a0 a b : Rw} {r : R3} {p : Q} (h : PwL w W b5 wh bx bo a0 a b r p) (o : Obj) : PwL w (W.alloc o) b5 wh bx bo a0 a b r p := h.below (bl_allocd (Below.refl _ _) o)
theorem PwL.allocD {w W : World} {b5 wh bx bo : Nat} {a0 a b : Rw} {r : R3} {p : Q} (h : PwL w W b5 wh bx bo a0 a b r p) (o : Obj) : PwL w (W.alloc o).drew b5 wh bx bo a0 a b r p := (h.allocd o).below (Below.refl _ _).drew
theorem two_set {wh : Nat} (h : wh ≤ 1) (x y z : Value) : (two wh x y).set wh z = two wh z y := by
  rcases (by omega : wh = 0 ∨ wh = 1) with e | e <;> subst e <;> rfl
theorem PwL.grown {w W W1 W' : World} {b5 wh bx : Nat} {a0 a b b' : Rw} {r : R3} {p m : Q} (hwh : wh ≤ 1) (h : PwL w W b5 wh bx (bx + 1) a0 a b r p) (hb : Below W.heap.size W W1) (h1 : PwR W' b') (h2 : b'.n = a.n + 1) (h3 : b'.l = a.l ++ [m]) (h4 : Chg (fun k => k = a.g) W1 W') (h5 : b'.g = a.g ∨ b'.g = W1.heap.size) (hp : Pow p (a.l ++ [m])) :
    PwL w (W'.setCell ⟨b5, wh, none⟩ b'.v) b5 wh bx (bx + 1) a0 b' b r p := by
  have hB := h.below hb
  have hq1 := Kq.of_chg 0 h4 hB.s.ra.num
  have hk5 : Bk W' b5 174 (two wh a.v b.v) := h4.bk hB.s.k hB.s.nea.1
  have hc5 : Chg (fun k => k = b5) W' (W'.setCell ⟨b5, wh, none⟩ b'.v) := (Chg.refl (fun k => k = b5) W').set_ (g := b5) (show (fun k => k = b5) b5 from rfl) wh b'.v
  have hq2 := Kq.of_chg 0 hc5 (num_of_bk hk5 (two_no wh a b))
  obtain ⟨_, hbk⟩ := h1.bk
  have hn5 : b5 ≠ b'.g := hk5.ne_of_type hbk (by decide)
  have hsz := hB.chg.size
  have hlx := hB.x.lt
  have hlo := hB.o.lt
  have hlb := hB.s.rb.lt
  have hx := hB.hx
  have hne := hB.ne
  have h5x := hB.s.k.ne_of_type hB.x (by decide)
  have h5o := hB.s.k.ne_of_type hB.o (by decide)
  refine ⟨⟨?_, h1.kq hq2 hn5.symm, (hB.s.rb.kq hq1 hB.s.ne.symm).kq hq2 hB.s.nea.2.symm, ?_⟩, hc5.bk (h4.bk hB.x hne.1.symm) h5x.symm, hc5.bk (h4.bk hB.o hne.2.1.symm) h5o.symm, hq2.qv (hq1.qv hB.q), ?_, ?_, by rw [h3]; exact hp, ?_, hx⟩
  · have := hk5.set_ wh b'.v
    rw [two_set hwh] at this
    exact this
  · rcases h5 with e | e
    · rw [e]; exact hB.s.ne
    · rw [e]; omega
  · refine (hB.chg.trans h4 (fun k hk e => ?_)).trans hc5 (fun k _ e => .inl e)
    rcases hB.new with e2 | e2
    · exact .inr (.inl (by rw [e, e2]))
    · omega
  · rcases h5 with e | e
    · rw [e]; exact hB.new
    · right; rw [e]; exact hsz
  · rcases h5 with e | e
    · rw [e]; exact hne
    · rw [e]; exact ⟨by omega, by omega, hne.2.2.1, hne.2.2.2⟩
set_option maxRecDepth 100000 in
set_option maxHeartbeats 4000000 in
/-- power, of row 0 -/
theorem power0_any {w : World} {b5 n : Nat} {a0 b : Rw} {v : Value} {p q : Q} (hs : PwS w b5 0 a0 b) (hv : QV w v p) (hpw : Pow p a0.l) (hn : n ≤ 1000) (hq : powO p n = some q) (hl : a0.n ≤ 2000) :
    Calls Tryz.prog 119 #[.int .i64 0, .int .i64 (n : Nat), v, .pointer (some ⟨b5, 0, none⟩)] w fun e w' => ∃ u, e = .returned u ∧ QV w' u q ∧ ∃ a, PwS w' b5 0 a b ∧ Pow p a.l ∧ (a.g = a0.g ∨ w.heap.size ≤ a.g) ∧ a.n ≤ max a0.n (n + 1) ∧ Chg (own b5 a0 b) w w' := by
  obtain ⟨r, rfl⟩ := hv.r3
  obtain ⟨bx, hbx⟩ : ∃ bx, w.heap.size = bx := ⟨_, rfl⟩
  obtain ⟨w1, hw1⟩ : ∃ w1, (w.alloc (.cells #[.bool r.s, .slice r.A r.m r.c, .slice r.B r.n r.d] 40)).alloc (.cells #[.bool false, .slice none 0 0, .slice none 0 0] 40) = w1 := ⟨_, rfl⟩
  have hb1 : Below w.heap.size w w1 := by rw [← hw1]; exact bl_allocd (bl_allocd (Below.refl _ _) _) _
  have k0 : Bk w1 bx 40 r.cells := by rw [← hw1, ← hbx]; exact (Bk.newA w 40 #[.bool r.s, .slice r.A r.m r.c, .slice r.B r.n r.d]).alloc _
  have k1 : Bk w1 (bx + 1) 40 R3.zero.cells := by rw [← hw1, ← hbx]; exact Bk.new2 w _ 40 #[.bool false, .slice none 0 0, .slice none 0 0]
  have HL := Lib.hid (show PwL w w1 b5 0 bx (bx + 1) a0 a0 b r p from ⟨hs.below hb1, k0, k1, hv.below hb1, Chg.of_below hb1, .inl rfl, hpw, ⟨by have := hs.ra.lt; omega, by have := hs.ra.lt; omega, by have := hs.rb.lt; omega, by have := hs.rb.lt; omega⟩, ⟨hbx.symm, by omega⟩⟩)
  have HP := Lib.hid (And.intro hn (And.intro hq hl))
  clear hs hv hpw hn hq hl hb1 k0 k1
  unfold R3.v
  go_enter Tryz.func119, Tryz.ntmps119
  go_wp2_with fail
  go_loopg [] (n + 2) (fun gk wr => ∃ a : Rw, a0.n ≤ a.n ∧ a.n ≤ max a0.n (n + 1) ∧ n + 2 ≤ gk + a.n ∧ PwL w wr b5 0 bx (bx + 1) a0 a b r p)
  case atStart => exact ⟨a0, Nat.le_refl _, Nat.le_max_left _ _, by have := HL.out.s.ra.2.1; omega, HL.out⟩
  case round =>
    obtain ⟨a, ha1, ha2, hgk, hL⟩ := hrel
    have HM := Lib.hid (And.intro ha1 (And.intro ha2 (And.intro hgk hL)))
    obtain ⟨c0, c1, _, _⟩ := cells2 (show Bk wr b5 174 [a.v, b.v] from hL.s.k)
    unfold Rw.v at c0 c1
    by_cases hlt : a.n ≤ n
    · have d1 : decide ((a.n : Int) ≤ (n : Int)) = true := decide_eq_true (by omega)
      have d2 : decide (a.n ≤ n) = true := decide_eq_true hlt
      clear ha1 ha2 hgk hL
      go_wp2_with fail
      obtain ⟨k, hk⟩ : ∃ k, a.n = k + 1 := ⟨a.n - 1, by have := HM.out.2.2.2.s.ra.2.1; omega⟩
      have hln := HM.out.2.2.2.s.ra.1
      obtain ⟨y, m1, hy, hm1, hpw1⟩ := HM.out.2.2.2.pw.step (by omega) (by omega) HP.out.2.1
      rw [hln, show a.n - 1 = k from by omega] at hy
      obtain ⟨_, _, _, _, tl, hgb, _⟩ := HM.out.2.2.2.s.ra
      obtain ⟨x, hx, e0, e1, e2, _, _, _⟩ := hgb.at_ hy
      have hw1 : IntKind.i64.wrap ((a.n : Int) - 1) = (k : Int) := by rw [IntKind.wrap_i64]; have := HP.out; have := HM.out.2.1; omega
      have k0 : (0 : Int) ≤ (k : Int) := by omega
      have k1 : (k : Int) < (a.n : Int) := by omega
      have k2 : k < a.n := by omega
      have H0 := Lib.hid (And.intro HM.out.2.2.2 hx)
      have H1 := Lib.hid (And.intro (HM.out.2.2.2.below (Below.refl _ _).drew) (hx.below (Below.refl _ _).drew))
      have HE := Lib.hid (Below.refl wr.heap.size wr)
      have HK1 := Lib.hid (And.intro hm1 (And.intro hpw1 (And.intro hk (And.intro hln hlt))))
      have HS := Lib.hid (show five wr b5 bx a.g k 0 a.v x r from ⟨c0, e0, e1, e2, HM.out.2.2.2.x.cell 0, HM.out.2.2.2.x.cell 1, HM.out.2.2.2.x.cell 2⟩)
      clear hk hln hm1 hpw1 hgb hx hy c0 c1 e0 e1 e2 hlt
      obtain ⟨ag, an, ac, al⟩ := a
      simp only [Rw.v] at HS k1 k2 hw1 d1 d2
      dsimp only
      go_cut [8] (fun s8 wx => ∃ G s, s8 = .pointer (some ⟨G, 0, none⟩) ∧ Bk wx G 40 (R3.cells s) ∧ QV wx s.v m1 ∧ Below wr.heap.size wr wx ∧ wr.heap.size ≤ G)
      case first =>
        go_region_held3 (fun w' => w'.cell? ⟨b5, 0, none⟩ = some (.slice (some ⟨ag, 0, none⟩) an ac) ∧ w'.cell? ⟨ag, k * 3, none⟩ = some (.bool x.s) ∧ w'.cell? ⟨ag, k * 3 + 1, none⟩ = some (.slice x.A x.m x.c) ∧ w'.cell? ⟨ag, k * 3 + 2, none⟩ = some (.slice x.B x.n x.d) ∧ w'.cell? ⟨bx, 0, none⟩ = some (.bool r.s) ∧ w'.cell? ⟨bx, 1, none⟩ = some (.slice r.A r.m r.c) ∧ w'.cell? ⟨bx, 2, none⟩ = some (.slice r.B r.n r.d))
          (first | with_reducible exact five_s3 (five_set3 HS4.out _ HNE.out) | with_reducible exact five_open (five_alloc HS4.out) | with_reducible exact five_open HS4.out | with_reducible exact five_open (five_allocD (five_alloc HS.out)) | with_reducible exact five_open (five_allocD HS.out) | with_reducible exact five_open (five_drew HS.out))
          (first
          | (go_at_call 12; refine (mul_o (qs := [y, p]) (by first | with_reducible exact (QR.new2' H0.out.2 H0.out.1.q rfl).below (Below.refl _ _).drew | with_reducible exact (QR.new2' (H0.out.2.allocd _) (H0.out.1.q.allocd _) (by rw [World.size_alloc])).below (Below.refl _ _).drew | with_reducible exact ((QR.new2' H0.out.2 H0.out.1.q rfl).allocd _).below (Below.refl _ _).drew) (by decide) (Nat.le_refl _) HK1.out.1).mono ?_; rintro e w4 ⟨v4, rfl, hv4, hb4⟩; (first | have HS4 := Lib.hid (five_below (five_allocD HS.out) hb4) | have HS4 := Lib.hid (five_below (five_allocD (five_alloc HS.out)) hb4)); (first | have HK := Lib.hid (zr_aD HE.out hb4) | have HK := Lib.hid (zr_bD HE.out hb4) | skip); (first | have HNE := Lib.hid (five_ne HS.out HK.out.2) | skip); (first | have HE4 := Lib.hid (bl_allocD2 HE.out hb4) | have HE4 := Lib.hid (bl_allocD HE.out hb4)); obtain ⟨r4, rfl⟩ := hv4.r3; have HV4 := Lib.hid hv4; (first | (have q := cells_rat HK.out.1; obtain ⟨q0, q1, q2, s0, s1, s2⟩ := q) | skip); unfold R3.v))
        all_goals (go_wp2_with fail; go_meet; first | exact ⟨_, r4, rfl, Bk.newA w4 40 #[.bool r4.s, .slice r4.A r4.m r4.c, .slice r4.B r4.n r4.d], HV4.out.allocd _, bl_allocd HE4.out _, HE4.out.size⟩ | exact ⟨_, r4, rfl, HK.out.1.set3 r4, HV4.out.set3 HK.out.1 r4, bl_set3 HE4.out HK.out.2 r4, HK.out.2⟩)
      case rest =>
        obtain ⟨G, s, rfl, hk, hq, hbw, hG⟩ := hcut
        have HLc := Lib.hid (H0.out.1.below hbw)
        have HA := Lib.hid (And.intro hk (And.intro hq hG))
        obtain ⟨t0, t1, t2, _, _, _⟩ := cells_rat hk
        have hsB : PwR ((wc.alloc (.cells #[.bool s.s, .slice s.A s.m s.c, .slice s.B s.n s.d] 40)).drew) ⟨ag, an, ac, al⟩ := HLc.out.s.ra.below (bl_allocd (Below.refl _ _) _).drew
        have hkB : Bk (wc.alloc (.cells #[.bool s.s, .slice s.A s.m s.c, .slice s.B s.n s.d] 40)).drew wc.heap.size 40 s.cells := Bk.newA wc 40 #[.bool s.s, .slice s.A s.m s.c, .slice s.B s.n s.d]
        have hqB : QV (wc.alloc (.cells #[.bool s.s, .slice s.A s.m s.c, .slice s.B s.n s.d] 40)).drew s.v m1 := (hq.allocd _).below (Below.refl _ _).drew
        have HB := Lib.hid (And.intro hsB (And.intro hkB hqB))
        have HK5 := Lib.hid (And.intro (show Bk (wc.alloc (.cells #[.bool s.s, .slice s.A s.m s.c, .slice s.B s.n s.d] 40)).drew b5 174 [Rw.v ⟨ag, an, ac, al⟩, b.v] from HLc.out.s.k.alloc _) HLc.out.s.nea)
        have hk5 := HLc.out.s.k
        obtain ⟨c0, c1, _, _⟩ := cells2 (show Bk wc b5 174 [Rw.v ⟨ag, an, ac, al⟩, b.v] from hk5)
        have hk5B := hk5.alloc (.cells #[.bool s.s, .slice s.A s.m s.c, .slice s.B s.n s.d] 40)
        obtain ⟨d0, d1', _, _⟩ := cells2 (show Bk (wc.alloc (.cells #[.bool s.s, .slice s.A s.m s.c, .slice s.B s.n s.d] 40)) b5 174 [Rw.v ⟨ag, an, ac, al⟩, b.v] from hk5B)
        simp only [Rw.v] at c0 c1 d0 d1'
        clear hk hq hbw hG hsB hkB hqB hk5 hk5B
        go_wp2_with fail
        go_region_law ((refine step_append_q (by rfl) (by rfl) (.tmp 35) (.tmp 37) (by rfl) ⟨ag, an, ac, al⟩ wc.heap.size 1 s m1 (by rfl) HB.out.1 (by have h1 := HP.out.1; have h2 : an ≤ n := HK1.out.2.2.2.2; show an ≤ 1000000; omega) (by rfl) HB.out.2.1 HB.out.2.2 ?_; intro b' W' h1 h2 h3 h4 h5 h6; have hk5 := h4.bk HK5.out.1 HK5.out.2.1; have hcc := cells2 hk5; obtain ⟨y0, y1, y2, y3⟩ := hcc; have HW := Lib.hid (And.intro h1 (And.intro h2 (And.intro h3 (And.intro h4 (And.intro h5 hk5))))); obtain ⟨bg, bn, bc, bl⟩ := b'; clear h1 h2 h3 h4 h5 h6 hk5; dsimp only [Rw.v] at y0 y1; dsimp only [Rw.v]))
        all_goals (
          go_wp2_with fail
          go_roundg (gk - 1))
        all_goals (first
          | (have := HM.out.2.2.1; have h2 : an ≤ n := HK1.out.2.2.2.2; have h3 : n + 2 ≤ gk + an := this; omega)
          | exact ⟨⟨bg, bn, bc, bl⟩, by have := HM.out.1; have := HW.out.2.1; simp only at *; omega, by have := HM.out.2.1; have h2 : an ≤ n := HK1.out.2.2.2.2; have := HW.out.2.1; simp only at *; omega, by have := HM.out.2.2.1; have := HW.out.2.1; simp only at *; omega, HLc.out.grown (by decide) (bl_allocd (Below.refl _ _) _).drew HW.out.1 HW.out.2.1 HW.out.2.2.1 HW.out.2.2.2.1 HW.out.2.2.2.2.1 HK1.out.2.1⟩)
    · have d1 : decide ((a.n : Int) ≤ (n : Int)) = false := decide_eq_false (by omega)
      have d2 : decide (a.n ≤ n) = false := decide_eq_false hlt
      have hln := hL.s.ra.1
      have hpn := hL.pw n (by omega)
      rw [HP.out.2.1] at hpn
      obtain ⟨_, _, _, _, tl, hgb, _⟩ := hL.s.ra
      obtain ⟨x, hx, e0, e1, e2, _, _, _⟩ := hgb.at_ (i := n) (q := q) (by rw [hpn]; exact List.getElem?_eq_getElem (by omega))
      obtain ⟨_, _, _, o0, o1, o2⟩ := cells_rat hL.o
      have hnI : (n : Int) < (a.n : Int) := by omega
      have hnN : n < a.n := by omega
      have HF := Lib.hid (And.intro hL (And.intro hx (And.intro ha1 ha2)))
      clear ha1 ha2 hgk hL hln hpn hgb hx hlt
      obtain ⟨ag, an, ac, al⟩ := a
      simp only at c0 c1 e0 e1 e2 d1 d2 hnI hnN
      go_wp2_with fail
      obtain ⟨hL, hx, ha1, ha2⟩ := HF.out
      refine bodyPost_ret (ret_rat27 rfl rfl (hL.o.set3 x)) rfl ?_
      have hk := kq_set3 (B := w.heap.size) (Below.refl _ _) hL.o x
      have h5 := hL.s.k.ne_of_type hL.o (by decide)
      refine ⟨x.v, rfl, hx.set3 hL.o x, ⟨ag, an, ac, al⟩, hL.s.kq hk (fun k ho e => ?_), hL.pw, by have h1 := hL.new; have h2 := hL.hx.1; rw [← h2] at h1; exact h1, ha2, ?_⟩
      · rcases ho with e1 | e1 | e1
        · exact h5 (e1.symm.trans e)
        · exact hL.ne.2.1 (e1.symm.trans e)
        · exact hL.ne.2.2.2 (e1.symm.trans e)
      · exact hL.chg.trans (chg_set3 wr (bx + 1) x) (fun k hk e => by have := hL.hx; omega)
set_option maxRecDepth 100000 in
set_option maxHeartbeats 4000000 in
/-- power, of row 1 -/
theorem power1_any {w : World} {b5 n : Nat} {a0 b : Rw} {v : Value} {p q : Q} (hs : PwS w b5 1 a0 b) (hv : QV w v p) (hpw : Pow p a0.l) (hn : n ≤ 1000) (hq : powO p n = some q) (hl : a0.n ≤ 2000) :
    Calls Tryz.prog 119 #[.int .i64 1, .int .i64 (n : Nat), v, .pointer (some ⟨b5, 0, none⟩)] w fun e w' => ∃ u, e = .returned u ∧ QV w' u q ∧ ∃ a, PwS w' b5 1 a b ∧ Pow p a.l ∧ (a.g = a0.g ∨ w.heap.size ≤ a.g) ∧ a.n ≤ max a0.n (n + 1) ∧ Chg (own b5 a0 b) w w' := by
  obtain ⟨r, rfl⟩ := hv.r3
  obtain ⟨bx, hbx⟩ : ∃ bx, w.heap.size = bx := ⟨_, rfl⟩
  obtain ⟨w1, hw1⟩ : ∃ w1, (w.alloc (.cells #[.bool r.s, .slice r.A r.m r.c, .slice r.B r.n r.d] 40)).alloc (.cells #[.bool false, .slice none 0 0, .slice none 0 0] 40) = w1 := ⟨_, rfl⟩
  have hb1 : Below w.heap.size w w1 := by rw [← hw1]; exact bl_allocd (bl_allocd (Below.refl _ _) _) _
  have k0 : Bk w1 bx 40 r.cells := by rw [← hw1, ← hbx]; exact (Bk.newA w 40 #[.bool r.s, .slice r.A r.m r.c, .slice r.B r.n r.d]).alloc _
  have k1 : Bk w1 (bx + 1) 40 R3.zero.cells := by rw [← hw1, ← hbx]; exact Bk.new2 w _ 40 #[.bool false, .slice none 0 0, .slice none 0 0]
  have HL := Lib.hid (show PwL w w1 b5 1 bx (bx + 1) a0 a0 b r p from ⟨hs.below hb1, k0, k1, hv.below hb1, Chg.of_below hb1, .inl rfl, hpw, ⟨by have := hs.ra.lt; omega, by have := hs.ra.lt; omega, by have := hs.rb.lt; omega, by have := hs.rb.lt; omega⟩, ⟨hbx.symm, by omega⟩⟩)
  have HP := Lib.hid (And.intro hn (And.intro hq hl))
  clear hs hv hpw hn hq hl hb1 k0 k1
  unfold R3.v
  go_enter Tryz.func119, Tryz.ntmps119
  go_wp2_with fail
  go_loopg [] (n + 2) (fun gk wr => ∃ a : Rw, a0.n ≤ a.n ∧ a.n ≤ max a0.n (n + 1) ∧ n + 2 ≤ gk + a.n ∧ PwL w wr b5 1 bx (bx + 1) a0 a b r p)
  case atStart => exact ⟨a0, Nat.le_refl _, Nat.le_max_left _ _, by have := HL.out.s.ra.2.1; omega, HL.out⟩
  case round =>
    obtain ⟨a, ha1, ha2, hgk, hL⟩ := hrel
    have HM := Lib.hid (And.intro ha1 (And.intro ha2 (And.intro hgk hL)))
    obtain ⟨c0, c1, _, _⟩ := cells2 (show Bk wr b5 174 [b.v, a.v] from hL.s.k)
    unfold Rw.v at c0 c1
    by_cases hlt : a.n ≤ n
    · have d1 : decide ((a.n : Int) ≤ (n : Int)) = true := decide_eq_true (by omega)
      have d2 : decide (a.n ≤ n) = true := decide_eq_true hlt
      clear ha1 ha2 hgk hL
      go_wp2_with fail
      obtain ⟨k, hk⟩ : ∃ k, a.n = k + 1 := ⟨a.n - 1, by have := HM.out.2.2.2.s.ra.2.1; omega⟩
      have hln := HM.out.2.2.2.s.ra.1
      obtain ⟨y, m1, hy, hm1, hpw1⟩ := HM.out.2.2.2.pw.step (by omega) (by omega) HP.out.2.1
      rw [hln, show a.n - 1 = k from by omega] at hy
      obtain ⟨_, _, _, _, tl, hgb, _⟩ := HM.out.2.2.2.s.ra
      obtain ⟨x, hx, e0, e1, e2, _, _, _⟩ := hgb.at_ hy
      have hw1 : IntKind.i64.wrap ((a.n : Int) - 1) = (k : Int) := by rw [IntKind.wrap_i64]; have := HP.out; have := HM.out.2.1; omega
      have k0 : (0 : Int) ≤ (k : Int) := by omega
      have k1 : (k : Int) < (a.n : Int) := by omega
      have k2 : k < a.n := by omega
      have H0 := Lib.hid (And.intro HM.out.2.2.2 hx)
      have H1 := Lib.hid (And.intro (HM.out.2.2.2.below (Below.refl _ _).drew) (hx.below (Below.refl _ _).drew))
      have HE := Lib.hid (Below.refl wr.heap.size wr)
      have HK1 := Lib.hid (And.intro hm1 (And.intro hpw1 (And.intro hk (And.intro hln hlt))))
      have HS := Lib.hid (show five wr b5 bx a.g k 1 a.v x r from ⟨c1, e0, e1, e2, HM.out.2.2.2.x.cell 0, HM.out.2.2.2.x.cell 1, HM.out.2.2.2.x.cell 2⟩)
      clear hk hln hm1 hpw1 hgb hx hy c0 c1 e0 e1 e2 hlt
      obtain ⟨ag, an, ac, al⟩ := a
      simp only [Rw.v] at HS k1 k2 hw1 d1 d2
      dsimp only
      go_cut [8] (fun s8 wx => ∃ G s, s8 = .pointer (some ⟨G, 0, none⟩) ∧ Bk wx G 40 (R3.cells s) ∧ QV wx s.v m1 ∧ Below wr.heap.size wr wx ∧ wr.heap.size ≤ G)
      case first =>
        go_region_held3 (fun w' => w'.cell? ⟨b5, 1, none⟩ = some (.slice (some ⟨ag, 0, none⟩) an ac) ∧ w'.cell? ⟨ag, k * 3, none⟩ = some (.bool x.s) ∧ w'.cell? ⟨ag, k * 3 + 1, none⟩ = some (.slice x.A x.m x.c) ∧ w'.cell? ⟨ag, k * 3 + 2, none⟩ = some (.slice x.B x.n x.d) ∧ w'.cell? ⟨bx, 0, none⟩ = some (.bool r.s) ∧ w'.cell? ⟨bx, 1, none⟩ = some (.slice r.A r.m r.c) ∧ w'.cell? ⟨bx, 2, none⟩ = some (.slice r.B r.n r.d))
          (first | with_reducible exact five_s3 (five_set3 HS4.out _ HNE.out) | with_reducible exact five_open (five_alloc HS4.out) | with_reducible exact five_open HS4.out | with_reducible exact five_open (five_allocD (five_alloc HS.out)) | with_reducible exact five_open (five_allocD HS.out) | with_reducible exact five_open (five_drew HS.out))
          (first
          | (go_at_call 12; refine (mul_o (qs := [y, p]) (by first | with_reducible exact (QR.new2' H0.out.2 H0.out.1.q rfl).below (Below.refl _ _).drew | with_reducible exact (QR.new2' (H0.out.2.allocd _) (H0.out.1.q.allocd _) (by rw [World.size_alloc])).below (Below.refl _ _).drew | with_reducible exact ((QR.new2' H0.out.2 H0.out.1.q rfl).allocd _).below (Below.refl _ _).drew) (by decide) (Nat.le_refl _) HK1.out.1).mono ?_; rintro e w4 ⟨v4, rfl, hv4, hb4⟩; (first | have HS4 := Lib.hid (five_below (five_allocD HS.out) hb4) | have HS4 := Lib.hid (five_below (five_allocD (five_alloc HS.out)) hb4)); (first | have HK := Lib.hid (zr_aD HE.out hb4) | have HK := Lib.hid (zr_bD HE.out hb4) | skip); (first | have HNE := Lib.hid (five_ne HS.out HK.out.2) | skip); (first | have HE4 := Lib.hid (bl_allocD2 HE.out hb4) | have HE4 := Lib.hid (bl_allocD HE.out hb4)); obtain ⟨r4, rfl⟩ := hv4.r3; have HV4 := Lib.hid hv4; (first | (have q := cells_rat HK.out.1; obtain ⟨q0, q1, q2, s0, s1, s2⟩ := q) | skip); unfold R3.v))
        all_goals (go_wp2_with fail; go_meet; first | exact ⟨_, r4, rfl, Bk.newA w4 40 #[.bool r4.s, .slice r4.A r4.m r4.c, .slice r4.B r4.n r4.d], HV4.out.allocd _, bl_allocd HE4.out _, HE4.out.size⟩ | exact ⟨_, r4, rfl, HK.out.1.set3 r4, HV4.out.set3 HK.out.1 r4, bl_set3 HE4.out HK.out.2 r4, HK.out.2⟩)
      case rest =>
        obtain ⟨G, s, rfl, hk, hq, hbw, hG⟩ := hcut
        have HLc := Lib.hid (H0.out.1.below hbw)
        have HA := Lib.hid (And.intro hk (And.intro hq hG))
        obtain ⟨t0, t1, t2, _, _, _⟩ := cells_rat hk
        have hsB : PwR ((wc.alloc (.cells #[.bool s.s, .slice s.A s.m s.c, .slice s.B s.n s.d] 40)).drew) ⟨ag, an, ac, al⟩ := HLc.out.s.ra.below (bl_allocd (Below.refl _ _) _).drew
        have hkB : Bk (wc.alloc (.cells #[.bool s.s, .slice s.A s.m s.c, .slice s.B s.n s.d] 40)).drew wc.heap.size 40 s.cells := Bk.newA wc 40 #[.bool s.s, .slice s.A s.m s.c, .slice s.B s.n s.d]
        have hqB : QV (wc.alloc (.cells #[.bool s.s, .slice s.A s.m s.c, .slice s.B s.n s.d] 40)).drew s.v m1 := (hq.allocd _).below (Below.refl _ _).drew
        have HB := Lib.hid (And.intro hsB (And.intro hkB hqB))
        have HK5 := Lib.hid (And.intro (show Bk (wc.alloc (.cells #[.bool s.s, .slice s.A s.m s.c, .slice s.B s.n s.d] 40)).drew b5 174 [b.v, Rw.v ⟨ag, an, ac, al⟩] from HLc.out.s.k.alloc _) HLc.out.s.nea)
        have hk5 := HLc.out.s.k
        obtain ⟨c0, c1, _, _⟩ := cells2 (show Bk wc b5 174 [b.v, Rw.v ⟨ag, an, ac, al⟩] from hk5)
        have hk5B := hk5.alloc (.cells #[.bool s.s, .slice s.A s.m s.c, .slice s.B s.n s.d] 40)
        obtain ⟨d0, d1', _, _⟩ := cells2 (show Bk (wc.alloc (.cells #[.bool s.s, .slice s.A s.m s.c, .slice s.B s.n s.d] 40)) b5 174 [b.v, Rw.v ⟨ag, an, ac, al⟩] from hk5B)
        simp only [Rw.v] at c0 c1 d0 d1'
        clear hk hq hbw hG hsB hkB hqB hk5 hk5B
        go_wp2_with fail
        go_region_law ((refine step_append_q (by rfl) (by rfl) (.tmp 35) (.tmp 37) (by rfl) ⟨ag, an, ac, al⟩ wc.heap.size 1 s m1 (by rfl) HB.out.1 (by have h1 := HP.out.1; have h2 : an ≤ n := HK1.out.2.2.2.2; show an ≤ 1000000; omega) (by rfl) HB.out.2.1 HB.out.2.2 ?_; intro b' W' h1 h2 h3 h4 h5 h6; have hk5 := h4.bk HK5.out.1 HK5.out.2.1; have hcc := cells2 hk5; obtain ⟨y0, y1, y2, y3⟩ := hcc; have HW := Lib.hid (And.intro h1 (And.intro h2 (And.intro h3 (And.intro h4 (And.intro h5 hk5))))); obtain ⟨bg, bn, bc, bl⟩ := b'; clear h1 h2 h3 h4 h5 h6 hk5; dsimp only [Rw.v] at y0 y1; dsimp only [Rw.v]))
        all_goals (
          go_wp2_with fail
          go_roundg (gk - 1))
        all_goals (first
          | (have := HM.out.2.2.1; have h2 : an ≤ n := HK1.out.2.2.2.2; have h3 : n + 2 ≤ gk + an := this; omega)
          | exact ⟨⟨bg, bn, bc, bl⟩, by have := HM.out.1; have := HW.out.2.1; simp only at *; omega, by have := HM.out.2.1; have h2 : an ≤ n := HK1.out.2.2.2.2; have := HW.out.2.1; simp only at *; omega, by have := HM.out.2.2.1; have := HW.out.2.1; simp only at *; omega, HLc.out.grown (by decide) (bl_allocd (Below.refl _ _) _).drew HW.out.1 HW.out.2.1 HW.out.2.2.1 HW.out.2.2.2.1 HW.out.2.2.2.2.1 HK1.out.2.1⟩)
    · have d1 : decide ((a.n : Int) ≤ (n : Int)) = false := decide_eq_false (by omega)
      have d2 : decide (a.n ≤ n) = false := decide_eq_false hlt
      have hln := hL.s.ra.1
      have hpn := hL.pw n (by omega)
      rw [HP.out.2.1] at hpn
      obtain ⟨_, _, _, _, tl, hgb, _⟩ := hL.s.ra
      obtain ⟨x, hx, e0, e1, e2, _, _, _⟩ := hgb.at_ (i := n) (q := q) (by rw [hpn]; exact List.getElem?_eq_getElem (by omega))
      obtain ⟨_, _, _, o0, o1, o2⟩ := cells_rat hL.o
      have hnI : (n : Int) < (a.n : Int) := by omega
      have hnN : n < a.n := by omega
      have HF := Lib.hid (And.intro hL (And.intro hx (And.intro ha1 ha2)))
      clear ha1 ha2 hgk hL hln hpn hgb hx hlt
      obtain ⟨ag, an, ac, al⟩ := a
      simp only at c0 c1 e0 e1 e2 d1 d2 hnI hnN
      go_wp2_with fail
      obtain ⟨hL, hx, ha1, ha2⟩ := HF.out
      refine bodyPost_ret (ret_rat27 rfl rfl (hL.o.set3 x)) rfl ?_
      have hk := kq_set3 (B := w.heap.size) (Below.refl _ _) hL.o x
      have h5 := hL.s.k.ne_of_type hL.o (by decide)
      refine ⟨x.v, rfl, hx.set3 hL.o x, ⟨ag, an, ac, al⟩, hL.s.kq hk (fun k ho e => ?_), hL.pw, by have h1 := hL.new; have h2 := hL.hx.1; rw [← h2] at h1; exact h1, ha2, ?_⟩
      · rcases ho with e1 | e1 | e1
        · exact h5 (e1.symm.trans e)
        · exact hL.ne.2.1 (e1.symm.trans e)
        · exact hL.ne.2.2.2 (e1.symm.trans e)
      · exact hL.chg.trans (chg_set3 wr (bx + 1) x) (fun k hk e => by have := hL.hx; omega)
end Go.Proofs.YtlhipaffhehcnaaGreat
