/- Chapter 20: a graph's parts, changed one at a time. Chapter 20: Take. Chapter 20: Take, where it is refused; Rest. -/
import Derived.Test.YtlhipaffhehcnaaGreatT04
namespace Go.Proofs.YtlhipaffhehcnaaGreat
open Go.RowKit
set_option linter.unusedVariables false
/-- A row of the call's own that has one has its block. -/
theorem own_formN {w : World} {base size n c : Nat} {e : TypeId} {A : Option Addr} {xs : List Value} (h : w.ownsRow base e size (.slice A n c) n xs) (hn : 0 < n) :
    ∃ g cur, A = some ⟨g, 0, none⟩ ∧ base ≤ g ∧ g < w.heap.size ∧ Bk w g e cur ∧ n ≤ c ∧ c ≤ maxLen ∧ cur.length = c * size ∧ cur.take (n * size) = xs := by
  rcases h.2 with ⟨_, h0⟩ | ⟨g, cap, cur, hv, hb, hh, hnc, hcm, hcs, ht⟩
  · omega
  · injection hv with e1 e2 e3
    subst e1; subst e3
    exact ⟨g, cur.toList, rfl, hb, (Array.getElem?_eq_some_iff.1 hh).1, hh, hnc, hcm, by simpa using hcs, ht⟩
theorem own_mkN {w : World} {base size n c g : Nat} {e : TypeId} {cur xs : List Value} (h : Bk w g e cur) (hb : base ≤ g) (hnc : n ≤ c) (hcm : c ≤ maxLen) (hcl : cur.length = c * size) (ht : cur.take (n * size) = xs) : w.ownsRow base e size (.slice (some ⟨g, 0, none⟩) n c) n xs := by
  refine ⟨?_, .inr ⟨g, c, cur.toArray, rfl, hb, h, hnc, hcm, by simpa using hcl, by simpa using ht⟩⟩
  rw [← ht, List.length_take, hcl]
  exact Nat.min_eq_left (Nat.mul_le_mul_right _ hnc)
theorem own_cellN {w : World} {base size n c g i : Nat} {e : TypeId} {xs : List Value} (h : w.ownsRow base e size (.slice (some ⟨g, 0, none⟩) n c) n xs) (hi : i < xs.length) : w.cell? ⟨g, i, none⟩ = xs[i]? ∧ w.frozen? ⟨g, i, none⟩ = false := by
  have hl := h.1
  obtain ⟨g', cur, hA, _, _, hbk, _, _, hcl, ht⟩ := own_formN h (by
    rcases Nat.eq_zero_or_pos n with h0 | h0
    · subst h0; omega
    · exact h0)
  cases hA
  refine ⟨?_, hbk.frozen i⟩
  rw [hbk.cell i, ← ht, List.getElem?_take_of_lt (by omega)]
theorem own_setN {w : World} {base size n c g i : Nat} {e : TypeId} {xs : List Value} (h : w.ownsRow base e size (.slice (some ⟨g, 0, none⟩) n c) n xs) (hi : i < xs.length) (u : Value) : (w.setCell ⟨g, i, none⟩ u).ownsRow base e size (.slice (some ⟨g, 0, none⟩) n c) n (xs.set i u) := by
  have hl := h.1
  obtain ⟨g', cur, hA, hb, _, hbk, hnc, hcm, hcl, ht⟩ := own_formN h (by
    rcases Nat.eq_zero_or_pos n with h0 | h0
    · subst h0; omega
    · exact h0)
  cases hA
  exact own_mkN (hbk.set_ i u) hb hnc hcm (by rw [List.length_set]; exact hcl) (by rw [List.take_set, ht])
def GM.upd (s : GM) (p : Nat) (m x : Int) : GM := { s with packs := s.packs.set p ((pk s p).1, m, x) }
theorem pk_set {s : GM} {p : Nat} (hp : p < s.packs.length) (m x : Int) (q : Nat) : pk (s.upd p m x) q = if p = q then ((pk s p).1, m, x) else pk s q := by
  unfold pk GM.upd
  simp only [List.getD_eq_getElem?_getD, List.getElem?_set]
  by_cases h : p = q
  · subst h; simp [hp, pk, List.getD_eq_getElem?_getD]
  · simp [h]
theorem pk_set1 {s : GM} {p : Nat} (m x : Int) (q : Nat) : (pk (s.upd p m x) q).1 = (pk s q).1 := by
  by_cases hp : p < s.packs.length
  · rw [pk_set hp]; split
    · rename_i e; subst e; rfl
    · rfl
  · unfold GM.upd pk
    rw [List.set_eq_of_length_le (by omega)]
theorem pcells_upd {L : GL} {s : GM} {p : Nat} (hp : p < s.packs.length) (m x : Int) : ((pcells L s).set (p * 3 + 1) (.int .i64 m)).set (p * 3 + 2) (.int .i64 x) = pcells L (s.upd p m x) := by
  have hl : (s.upd p m x).packs.length = s.packs.length := by simp [GM.upd]
  refine List.ext_getElem? fun i => ?_
  rcases Nat.lt_or_ge i (s.packs.length * 3) with h | h
  · obtain ⟨q, j, hj, rfl⟩ : ∃ q j, j < 3 ∧ i = q * 3 + j := ⟨i / 3, i % 3, Nat.mod_lt _ (by omega), by omega⟩
    have hq : q < s.packs.length := by omega
    rw [pcells_get L (s.upd p m x) (by omega) hj, List.getElem?_set, List.getElem?_set, pcells_get L s hq hj, List.length_set, pcells_length]
    unfold pcell
    rw [pk_set hp]
    by_cases e : p = q
    · subst e
      rw [if_pos rfl]
      match j, hj with
      | 0, _ => rw [if_neg (by omega), if_neg (by omega)]; rfl
      | 1, _ => rw [if_neg (by omega), if_pos rfl, if_pos (by omega)]; rfl
      | 2, _ => rw [if_pos rfl, if_pos (by omega)]; rfl
    · rw [if_neg (by omega), if_neg (by omega), if_neg e]
  · rw [List.getElem?_eq_none (by simpa [pcells_length] using h), List.getElem?_eq_none (by rw [pcells_length, hl]; exact h)]
section
variable {w w' : World} {base G : Nat} {tag : Nat → Option Nat} {L : GL} {s : GM}
/-- A change in blocks of one tag leaves what has another. -/
theorem Gm.parts (h : Gm w base G tag L s) {S : Nat → Prop} (hc : Chg S w w') (t : Nat) (hS : ∀ b, S b → tag b = some t) :
    (t ≠ 0 → Bk w' G 163 [.slice (some ⟨L.KB, 0, none⟩) s.known.length s.known.length, .slice (some ⟨L.WB, 0, none⟩) s.known.length s.known.length, .slice L.PA s.packs.length L.pc, .int .i64 s.most, .int .i64 s.unknown, .int .i64 s.edges]) ∧
    (t ≠ 1 → Bk w' L.KB 4 (bools s.known)) ∧ (t ≠ 2 → Bk w' L.WB 22 ((List.range s.known.length).map (wcell L s))) ∧
    (∀ i, i < s.known.length → t ≠ 5 + i → w'.ownsRow base 3 1 (wcell L s i) (s.waits i).length (nums (s.waits i))) ∧
    (t ≠ 3 → w'.ownsRow base 166 3 (.slice L.PA s.packs.length L.pc) s.packs.length (pcells L s)) ∧
    (t ≠ 4 → ∀ p, p < s.packs.length → Rd w' (L.sa p) (pk s p).1.length (nums (pk s p).1)) ∧ (∀ b, tag b ≠ none → base ≤ b ∧ b < w'.heap.size) ∧ base ≤ w'.heap.size := by
  have ne : ∀ {b u}, tag b = some u → t ≠ u → ¬ S b := fun hb hu hs => hu (by have := (hS _ hs).symm.trans hb; injection this)
  refine ⟨fun e => hc.bk h.g (ne h.tG e), fun e => hc.bk h.kn (ne h.tK e), fun e => hc.bk h.wt (ne h.tW e), fun i hi e => own_chgv (h.wo i hi) hc (fun g hg => ?_), fun e => own_chgv h.po hc (fun g hg => ?_), fun e p hp => hc.rd (h.so p hp) (fun a ha => ne (h.tS p a hp ha) e), fun b hb => ⟨(h.lt b hb).1, Nat.lt_of_lt_of_le (h.lt b hb).2 hc.size⟩, Nat.le_trans h.bs hc.size⟩
  · obtain ⟨a, ha, rfl⟩ := slice_block hg; exact ne (h.tw i a hi ha) e
  · obtain ⟨a, ha, rfl⟩ := slice_block hg; exact ne (h.tP a ha) e
/-- A packet's count and sum are written. -/
theorem Gm.setPack (h : Gm w base G tag L s) {p g : Nat} (hp : p < s.packs.length) (hA : L.PA = some ⟨g, 0, none⟩) (m x : Int) :
    Gm ((w.setCell ⟨g, p * 3 + 1, none⟩ (.int .i64 m)).setCell ⟨g, p * 3 + 2, none⟩ (.int .i64 x)) base G tag L (s.upd p m x) ∧ Chg (fun b => tag b ≠ none) w ((w.setCell ⟨g, p * 3 + 1, none⟩ (.int .i64 m)).setCell ⟨g, p * 3 + 2, none⟩ (.int .i64 x)) := by
  have ht : tag g = some 3 := h.tP _ hA
  have hc : Chg (fun b => b = g) w ((w.setCell ⟨g, p * 3 + 1, none⟩ (.int .i64 m)).setCell ⟨g, p * 3 + 2, none⟩ (.int .i64 x)) :=
    ((Chg.refl (fun b => b = g) w).set_ (g := g) (show (fun b => b = g) g from rfl) _ _).set_ (g := g) (show (fun b => b = g) g from rfl) _ _
  obtain ⟨p1, p2, p3, p4, p5, p6, p7, p8⟩ := h.parts hc 3 (fun b e => by subst e; exact ht)
  have hl : (s.upd p m x).packs.length = s.packs.length := by simp [GM.upd]
  refine ⟨⟨?_, p2 (by omega), p3 (by omega), fun i hi => p4 i hi (by omega), ?_, fun q hq => ?_, h.tG, h.tK, h.tW, h.tP, fun q a hq => h.tS q a (by omega), h.tw, p7, p8, h.most0, h.kz, by rw [hl]; exact h.pz, h.wz⟩, hc.mono fun b _ e => by subst e; rw [ht]; simp⟩
  · rw [hl]; exact p1 (by omega)
  · rw [hl, ← pcells_upd hp]
    have h0 := h.po
    rw [hA] at h0 ⊢
    have h1 := own_setN h0 (i := p * 3 + 1) (by rw [pcells_length]; omega) (.int .i64 m)
    exact own_setN h1 (i := p * 3 + 2) (by rw [List.length_set, pcells_length]; omega) (.int .i64 x)
  · rw [pk_set1]; exact p6 (by omega) q (by omega)
/-- Its numbers are written. -/
theorem Gm.setE (h : Gm w base G tag L s) (x : Int) : Gm (w.setCell ⟨G, 5, none⟩ (.int .i64 x)) base G tag L { s with edges := x } ∧ Chg (fun b => tag b ≠ none) w (w.setCell ⟨G, 5, none⟩ (.int .i64 x)) := by
  have hc : Chg (fun b => b = G) w (w.setCell ⟨G, 5, none⟩ (.int .i64 x)) := (Chg.refl (fun b => b = G) w).set_ (g := G) (show (fun b => b = G) G from rfl) _ _
  obtain ⟨p1, p2, p3, p4, p5, p6, p7, p8⟩ := h.parts hc 0 (fun b e => by subst e; exact h.tG)
  exact ⟨⟨h.g.set_ 5 _, p2 (by omega), p3 (by omega), fun i hi => p4 i hi (by omega), p5 (by omega), p6 (by omega), h.tG, h.tK, h.tW, h.tP, h.tS, h.tw, p7, p8, h.most0, h.kz, h.pz, h.wz⟩, hc.mono fun b _ e => by subst e; rw [h.tG]; simp⟩
theorem Gm.setU (h : Gm w base G tag L s) (x : Int) : Gm (w.setCell ⟨G, 4, none⟩ (.int .i64 x)) base G tag L { s with unknown := x } ∧ Chg (fun b => tag b ≠ none) w (w.setCell ⟨G, 4, none⟩ (.int .i64 x)) := by
  have hc : Chg (fun b => b = G) w (w.setCell ⟨G, 4, none⟩ (.int .i64 x)) := (Chg.refl (fun b => b = G) w).set_ (g := G) (show (fun b => b = G) G from rfl) _ _
  obtain ⟨p1, p2, p3, p4, p5, p6, p7, p8⟩ := h.parts hc 0 (fun b e => by subst e; exact h.tG)
  exact ⟨⟨h.g.set_ 4 _, p2 (by omega), p3 (by omega), fun i hi => p4 i hi (by omega), p5 (by omega), p6 (by omega), h.tG, h.tK, h.tW, h.tP, h.tS, h.tw, p7, p8, h.most0, h.kz, h.pz, h.wz⟩, hc.mono fun b _ e => by subst e; rw [h.tG]; simp⟩
/-- A symbol is known. -/
theorem Gm.setK (h : Gm w base G tag L s) (i : Nat) (b : Bool) : Gm (w.setCell ⟨L.KB, i, none⟩ (.bool b)) base G tag L { s with known := s.known.set i b } ∧ Chg (fun b => tag b ≠ none) w (w.setCell ⟨L.KB, i, none⟩ (.bool b)) := by
  have hc : Chg (fun b => b = L.KB) w (w.setCell ⟨L.KB, i, none⟩ (.bool b)) := (Chg.refl (fun b => b = L.KB) w).set_ (g := L.KB) (show (fun b => b = L.KB) L.KB from rfl) _ _
  obtain ⟨p1, p2, p3, p4, p5, p6, p7, p8⟩ := h.parts hc 1 (fun b e => by subst e; exact h.tK)
  have hl : (s.known.set i b).length = s.known.length := by simp
  refine ⟨⟨?_, ?_, ?_, fun j hj => p4 j (by simpa using hj) (by omega), p5 (by omega), p6 (by omega), h.tG, h.tK, h.tW, h.tP, h.tS, fun j a hj => h.tw j a (by simpa using hj), p7, p8, h.most0, by simpa using h.kz, h.pz, h.wz⟩, hc.mono fun b _ e => by subst e; rw [h.tK]; simp⟩
  · simp only [hl]; exact p1 (by omega)
  · have := h.kn.set_ i (.bool b)
    unfold bools at this ⊢
    simp only [List.map_set]
    exact this
  · simp only [hl]; exact p3 (by omega)
/-- None waits for a symbol any more. -/
theorem map_range_set {f f' : Nat → Value} {n i : Nat} (u : Value) (hi : f' i = u) (hn : ∀ j, j ≠ i → f' j = f j) : ((List.range n).map f).set i u = (List.range n).map f' := by
  refine List.ext_getElem? fun j => ?_
  rw [List.getElem?_set]
  by_cases e : i = j
  · subst e
    rw [if_pos rfl]
    rcases Nat.lt_or_ge i n with h | h
    · rw [if_pos (by simpa using h), List.getElem?_map, List.getElem?_range h]; simp [hi]
    · rw [if_neg (by simpa using h), List.getElem?_eq_none (by simpa using h)]
  · rw [if_neg e, List.getElem?_map, List.getElem?_map]
    rcases Nat.lt_or_ge j n with h | h
    · rw [List.getElem?_range h]; simp [hn j (Ne.symm e)]
    · rw [List.getElem?_eq_none (by simpa using h)]; rfl
def GL.noW (L : GL) (i : Nat) : GL := { L with wa := fun j => if j = i then none else L.wa j, wc := fun j => if j = i then 0 else L.wc j }
theorem Gm.setW (h : Gm w base G tag L s) (i : Nat) : Gm (w.setCell ⟨L.WB, i, none⟩ (.slice none 0 0)) base G tag (L.noW i) { s with waits := fun j => if j = i then [] else s.waits j } ∧ Chg (fun b => tag b ≠ none) w (w.setCell ⟨L.WB, i, none⟩ (.slice none 0 0)) := by
  have hc : Chg (fun b => b = L.WB) w (w.setCell ⟨L.WB, i, none⟩ (.slice none 0 0)) := (Chg.refl (fun b => b = L.WB) w).set_ (g := L.WB) (show (fun b => b = L.WB) L.WB from rfl) _ _
  obtain ⟨p1, p2, p3, p4, p5, p6, p7, p8⟩ := h.parts hc 2 (fun b e => by subst e; exact h.tW)
  refine ⟨⟨p1 (by omega), p2 (by omega), ?_, fun j hj => ?_, p5 (by omega), p6 (by omega), h.tG, h.tK, h.tW, h.tP, h.tS, fun j a hj ha => ?_, p7, p8, h.most0, h.kz, h.pz, fun j => ?_⟩, hc.mono fun b _ e => by subst e; rw [h.tW]; simp⟩
  · have := h.wt.set_ i (.slice none 0 0)
    rw [map_range_set (f' := wcell (L.noW i) { s with waits := fun j => if j = i then [] else s.waits j }) _ (by simp [wcell, GL.noW]) (fun j hj => by simp [wcell, GL.noW, hj])] at this
    exact this
  · by_cases e : j = i
    · subst e
      have := World.ownsRow_nil (w.setCell ⟨L.WB, j, none⟩ (.slice none 0 0)) base 3 1
      simpa [wcell, GL.noW, nums] using this
    · have := p4 j hj (by omega)
      simpa [wcell, GL.noW, e] using this
  · unfold GL.noW at ha
    by_cases e : j = i
    · simp [e] at ha
    · simp only [if_neg e] at ha; exact h.tw j a hj ha
  · by_cases e : j = i
    · simp [e]
    · simp only [if_neg e]; exact h.wz j
end
end Go.Proofs.YtlhipaffhehcnaaGreat
namespace Go.Proofs.YtlhipaffhehcnaaGreat
open Go.RowKit
set_option linter.unusedVariables false
def xr (a b : Int) : Int := bits .xor .i64 a b
def lessS (x : Int) (s : GM) (n : Int) : GM := s.upd n.toNat ((pk s n.toNat).2.1 - 1) (xr (pk s n.toNat).2.2 x)
def lessL (x : Int) (s : GM) (l : List Int) : GM := l.foldl (lessS x) s
theorem lessL_snoc (x : Int) (s : GM) {l : List Int} {j : Nat} (h : j < l.length) : lessL x s (l.take (j + 1)) = lessS x (lessL x s (l.take j)) (gi l j) := by
  unfold lessL
  rw [List.take_succ_eq_append_getElem h, List.foldl_append, gi_get h]
  rfl
theorem lessL_parts (x : Int) : ∀ (l : List Int) (s : GM), (lessL x s l).known = s.known ∧ (lessL x s l).waits = s.waits ∧ (lessL x s l).packs.length = s.packs.length ∧ (lessL x s l).most = s.most ∧ (lessL x s l).unknown = s.unknown ∧ (lessL x s l).edges = s.edges
  | [], s => ⟨rfl, rfl, rfl, rfl, rfl, rfl⟩
  | n :: l, s => by
    have := lessL_parts x l (lessS x s n)
    refine ⟨this.1, this.2.1, this.2.2.1.trans (by simp [lessS, GM.upd]), this.2.2.2⟩
theorem lessL_pk (x : Int) : ∀ (l : List Int) (s : GM) (p : Nat), (∀ n ∈ l, n.toNat < s.packs.length) → (∀ n ∈ l, n.toNat ≠ p) → pk (lessL x s l) p = pk s p
  | [], s, p, _, _ => rfl
  | n :: l, s, p, hr, hn => by
    have hl : (lessS x s n).packs.length = s.packs.length := by simp [lessS, GM.upd]
    rw [show lessL x s (n :: l) = lessL x (lessS x s n) l from rfl, lessL_pk x l _ p (fun m hm => by rw [hl]; exact hr m (List.mem_cons_of_mem _ hm)) (fun m hm => hn m (List.mem_cons_of_mem _ hm))]
    unfold lessS
    rw [pk_set (hr n (List.mem_cons_self ..)), if_neg (hn n (List.mem_cons_self ..))]
/-- What is told. -/
def lastOne (s : GM) (n : Int) : Bool := (pk s n.toNat).2.1 - 1 == 1
def takeG (s : GM) (i : Nat) : GM :=
  let t := lessL i s (s.waits i)
  { t with edges := t.edges - (s.waits i).length, known := t.known.set i true, waits := fun j => if j = i then [] else t.waits j, unknown := t.unknown - 1 }
/-- Who waits is a list of packets that wait. -/
structure Wl (s : GM) (i : Nat) : Prop where
  nd : (s.waits i).Nodup
  inr : ∀ n ∈ s.waits i, 0 ≤ n ∧ n < s.packs.length
  many : ∀ n ∈ s.waits i, 1 ≤ (pk s n.toNat).2.1 ∧ (pk s n.toNat).2.1 ≤ 1000000
def TkPost (w : World) (base G : Nat) (tag : Nat → Option Nat) (L : GL) (s : GM) (l : List Int) (x : Int) (s' : GM) (e : Ending) (w' : World) : Prop :=
  ∃ v L', e = .returned (.tuple #[v, .int .i64 x]) ∧ w'.ownsRow w.heap.size 3 1 v l.length (nums l) ∧ Gm w' base G tag L' s' ∧ Chg (fun b => tag b ≠ none) w w'
/-- What the loop keeps. -/
structure TkR (w0 : World) (base G : Nat) (tag : Nat → Option Nat) (L : GL) (s : GM) (x : Int) (l : List Int) (j : Nat) (v : Value) (w : World) : Prop where
  gm : Gm w base G tag L (lessL x s (l.take j))
  own : w.ownsRow w0.heap.size 3 1 v ((l.take j).filter (lastOne s)).length (nums ((l.take j).filter (lastOne s)))
  ch : Chg (fun b => tag b ≠ none) w0 w
theorem filter_take_succ {l : List Int} {j : Nat} (h : j < l.length) (f : Int → Bool) : (l.take (j + 1)).filter f = (l.take j).filter f ++ (if f (gi l j) then [gi l j] else []) := by
  rw [List.take_succ_eq_append_getElem h, List.filter_append, gi_get h]
  congr 1
  by_cases c : f l[j] <;> simp [c]
theorem own_blocks {w : World} {base size n : Nat} {e : TypeId} {v : Value} {xs : List Value} (h : w.ownsRow base e size v n xs) : ∀ k, v.ownBlock = some k → base ≤ k ∧ k < w.heap.size := fun k hk => h.lt k hk
theorem TkR.less {w0 w : World} {base G : Nat} {tag : Nat → Option Nat} {L : GL} {s : GM} {x : Int} {l : List Int} {j : Nat} {v : Value} (h : TkR w0 base G tag L s x l j v w) (hlt : ∀ b, tag b ≠ none → b < w0.heap.size) (hj : j < l.length) (hl : l.Nodup) (hr : ∀ n ∈ l, 0 ≤ n ∧ n < s.packs.length) {g : Nat} (hA : L.PA = some ⟨g, 0, none⟩) :
    let w' := (w.setCell ⟨g, (gi l j).toNat * 3 + 1, none⟩ (.int .i64 ((pk s (gi l j).toNat).2.1 - 1))).setCell ⟨g, (gi l j).toNat * 3 + 2, none⟩ (.int .i64 (xr (pk s (gi l j).toNat).2.2 x))
    Gm w' base G tag L (lessL x s (l.take (j + 1))) ∧ w'.ownsRow w0.heap.size 3 1 v ((l.take j).filter (lastOne s)).length (nums ((l.take j).filter (lastOne s))) ∧ Chg (fun b => tag b ≠ none) w0 w' := by
  have hm := gi_mem hj
  have hp := hr _ hm
  have hpk : pk (lessL x s (l.take j)) (gi l j).toNat = pk s (gi l j).toNat := lessL_pk x _ s _ (fun n hn => by have := hr n (List.mem_of_mem_take hn); omega) (fun n hn e => by
    have h1 := hr n (List.mem_of_mem_take hn)
    have e' : n = gi l j := by omega
    subst e'
    rw [gi_get hj] at hn
    obtain ⟨i, hi, hii⟩ := List.mem_take_iff_getElem.1 hn
    exact (List.pairwise_iff_getElem.1 hl) i j (by omega) hj (by omega) hii)
  obtain ⟨h1, h2⟩ := h.gm.setPack (p := (gi l j).toNat) (g := g) (by rw [(lessL_parts x (l.take j) s).2.2.1]; omega) hA ((pk s (gi l j).toNat).2.1 - 1) (xr (pk s (gi l j).toNat).2.2 x)
  refine ⟨?_, own_chgv h.own h2 (fun k hk ht => ?_), h.ch.trans h2 fun _ _ e => e⟩
  · rw [lessL_snoc x s hj]
    unfold lessS
    rw [hpk]
    exact h1
  · have := (own_blocks h.own k hk).1
    have := hlt k ht
    omega
theorem own_slice {w : World} {base size n : Nat} {e : TypeId} {v : Value} {xs : List Value} (h : w.ownsRow base e size v n xs) : ∃ A c, v = .slice A n c ∧ ∀ a, A = some a → v.ownBlock = some a.block := by
  rcases h.2 with ⟨rfl, rfl⟩ | ⟨g, cap, cur, rfl, _⟩
  · exact ⟨none, 0, rfl, fun a e => by cases e⟩
  · exact ⟨_, cap, rfl, fun a e => by cases e; rfl⟩
/-- A row of the call's own grows: the graph stays. -/
theorem Gm.app {w0 w2 w3 : World} {base G : Nat} {tag : Nat → Option Nat} {L : GL} {s : GM} {v : Value} {e : TypeId} {size r : Nat} {xs : List Value} {o : Obj} (h : Gm w2 base G tag L s) (ho : w2.ownsRow w0.heap.size e size v r xs) (hc : Chg (fun b => tag b ≠ none) w0 w2) (hlt : ∀ b, tag b ≠ none → b < w0.heap.size) (hg : (w2.alloc o).grownBy w3 v.ownBlock) :
    Gm w3 base G tag L s ∧ Chg (fun b => tag b ≠ none) w0 w3 := by
  have hS : Chg (fun k => v.ownBlock = some k) w2 w3 := ((Chg.refl _ w2).alloc o).trans (Chg.of_grown hg (S := fun k => v.ownBlock = some k) fun k e => e) fun _ _ x => x
  refine ⟨h.other hS fun b hb e => ?_, hc.trans hS fun k hk e => ?_⟩
  · have := (ho.lt b e).1
    have := hlt b hb
    omega
  · have := (ho.lt k e).1
    omega
theorem wrap_idz {z : Int} (h0 : -9000000000000000000 ≤ z) (h1 : z ≤ 9000000000000000000) : wrap64 z = z := by unfold wrap64; omega
/-- A graph beside what is told. -/
structure TkQ (w0 : World) (base G : Nat) (tag : Nat → Option Nat) (L : GL) (s : GM) (F : List Int) (v : Value) (w : World) : Prop where
  gm : Gm w base G tag L s
  own : w.ownsRow w0.heap.size 3 1 v F.length (nums F)
  ch : Chg (fun b => tag b ≠ none) w0 w
theorem TkQ.step {w0 w w' : World} {base G : Nat} {tag : Nat → Option Nat} {L L' : GL} {s s' : GM} {F : List Int} {v : Value} (h : TkQ w0 base G tag L s F v w) (hlt : ∀ b, tag b ≠ none → b < w0.heap.size) (hg : Gm w' base G tag L' s' ∧ Chg (fun b => tag b ≠ none) w w') : TkQ w0 base G tag L' s' F v w' :=
  ⟨hg.1, own_chgv h.own hg.2 (fun k hk ht => by have := (h.own.lt k hk).1; have := hlt k ht; omega), h.ch.trans hg.2 fun _ _ e => e⟩
theorem TkQ.drew {w0 w : World} {base G : Nat} {tag : Nat → Option Nat} {L : GL} {s : GM} {F : List Int} {v : Value} (h : TkQ w0 base G tag L s F v w) : TkQ w0 base G tag L s F v w.drew := ⟨h.gm.below (Below.refl _ _).drew, h.own, h.ch.drew⟩
/-- What a round reads. -/
theorem TkR.pre {w0 w : World} {base G : Nat} {tag : Nat → Option Nat} {L : GL} {s : GM} {x : Int} {l : List Int} {i j : Nat} {v : Value} (h : TkR w0 base G tag L s x l j v w) (hw : Wl s i) (hl : s.waits i = l) (hi : i < s.known.length) (hj : j < l.length) :
    ∃ g n, L.PA = some ⟨g, 0, none⟩ ∧ gi l j = (n : Nat) ∧ n < s.packs.length ∧ w.cell? ⟨G, 2, none⟩ = some (.slice (some ⟨g, 0, none⟩) s.packs.length L.pc) ∧
      w.cell? ⟨g, n * 3 + 1, none⟩ = some (.int .i64 (pk s n).2.1) ∧ w.cell? ⟨g, n * 3 + 2, none⟩ = some (.int .i64 (pk s n).2.2) ∧ w.frozen? ⟨g, n * 3 + 1, none⟩ = false ∧ w.frozen? ⟨g, n * 3 + 2, none⟩ = false ∧ (1 ≤ (pk s n).2.1 ∧ (pk s n).2.1 ≤ 1000000) ∧ Rd w (L.wa i) l.length (nums l) := by
  have hm := gi_mem hj
  have hin := hw.inr (gi l j) (by rw [hl]; exact hm)
  have hmn := hw.many (gi l j) (by rw [hl]; exact hm)
  obtain ⟨n, hn⟩ : ∃ n : Nat, gi l j = n := ⟨(gi l j).toNat, by omega⟩
  have hpk : pk (lessL x s (l.take j)) n = pk s n := lessL_pk x _ s _ (fun q hq => by have := hw.inr q (by rw [hl]; exact List.mem_of_mem_take hq); omega) (fun q hq e => by
    have h1 := hw.inr q (by rw [hl]; exact List.mem_of_mem_take hq)
    have e' : q = gi l j := by omega
    subst e'
    rw [gi_get hj] at hq
    obtain ⟨a, ha, hii⟩ := List.mem_take_iff_getElem.1 hq
    have hnd : l.Nodup := by rw [← hl]; exact hw.nd
    exact (List.pairwise_iff_getElem.1 hnd) a j (by omega) hj (by omega) hii)
  rw [hn] at hin hmn
  have hnp : n < s.packs.length := by omega
  have hpo := h.gm.po
  have c2 := h.gm.g.cell 2
  rw [(lessL_parts _ _ _).2.2.1] at hpo c2
  obtain ⟨g, cur, hPA, hpo1⟩ := own_formN hpo (by omega)
  rw [hPA] at c2 hpo
  have hln : (pcells L (lessL x s (l.take j))).length = s.packs.length * 3 := by rw [pcells_length, (lessL_parts _ _ _).2.2.1]
  have k1 := own_cellN hpo (i := n * 3 + 1) (by omega)
  have k2 := own_cellN hpo (i := n * 3 + 2) (by omega)
  rw [pcells_get _ _ (by rw [(lessL_parts _ _ _).2.2.1]; exact hnp) (by omega)] at k1 k2
  unfold pcell at k1 k2
  rw [hpk] at k1 k2
  have hwo := h.gm.wo i (by rw [(lessL_parts _ _ _).1]; exact hi)
  unfold wcell at hwo
  rw [(lessL_parts _ _ _).2.1, hl] at hwo
  exact ⟨g, n, hPA, hn, hnp, c2, k1.1, k2.1, k1.2, k2.2, hmn, Rd.of_own hwo⟩
set_option maxRecDepth 100000 in
set_option maxHeartbeats 4000000 in
/-- Take, of a symbol that is not known. -/
theorem take_ok {w : World} {base G : Nat} {tag : Nat → Option Nat} {L : GL} {s : GM} (h : Gm w base G tag L s) {i : Nat} (hi : i < s.known.length) (hk : s.known[i]? = some false) (hw : Wl s i) (he : -1000000000000 ≤ s.edges ∧ s.edges ≤ 1000000000000) (hu : 0 ≤ s.unknown ∧ s.unknown ≤ 1000000) :
    Calls Tryz.prog 116 #[.pointer (some ⟨G, 0, none⟩), .int .i64 i] w (TkPost w base G tag L s ((s.waits i).filter (lastOne s)) 0 (takeG s i)) := by
  have H := Lib.hid h
  have c0 := h.g.cell 0
  have c1 := h.g.cell 1
  have hkz := h.kz
  have ck := h.kn.cell i
  rw [show (bools s.known)[i]? = some (.bool false) from by simp [bools, hk]] at ck
  have cw := wt_cell h hi
  unfold wcell at cw
  obtain ⟨k, hkk⟩ : ∃ k, s.known.length = k := ⟨_, rfl⟩
  rw [hkk] at c0 c1 hkz hi
  have HK := Lib.hid hkk
  obtain ⟨i0, hi0, hz0, hz1, hz2⟩ := info_parts u3_info
  obtain ⟨l, hl⟩ : ∃ l, s.waits i = l := ⟨_, rfl⟩
  have hwo := h.wo i (by rw [hkk]; exact hi)
  unfold wcell at hwo
  have hwz := h.wz i
  have hm0 : (l.length : Int) ≤ 1048576 := by rw [← hl]; omega
  rw [hl] at cw hwo
  obtain ⟨A, hA⟩ : ∃ A, L.wa i = A := ⟨_, rfl⟩
  rw [hA] at cw hwo
  have HA := Lib.hid hA
  obtain ⟨m, hm⟩ : ∃ m, l.length = m := ⟨_, rfl⟩
  rw [hm] at cw hwo hm0
  have HW := Lib.hid (And.intro hw (And.intro hl (And.intro hm (And.intro he hu))))
  have HR := Lib.hid (Rd.of_own hwo)
  have hsz := fun b (e : tag b ≠ none) => (h.lt b e).2
  have HS := Lib.hid hsz
  have hi' : (i : Int) < (k : Int) := by omega
  have HT0 : Hid (TkR w base G tag L s i l 0 (.slice none 0 0) w) := Lib.hid ⟨h, World.ownsRow_nil _ _ _ _, Chg.refl _ _⟩
  have d1 : decide ((i : Int) < 0) = false := by simp
  have d2 : decide ((i : Int) ≥ (k : Int)) = false := by simp; omega
  have d3 : decide ((k : Int) ≤ (i : Int)) = false := by simp; omega
  have d4 : decide (k ≤ i) = false := by simp; omega
  clear hkk hk hw hl hA hm he hu hwz hwo hsz
  go_enter Tryz.func116, Tryz.ntmps116
  go_wp2_with fail
  refine (none_made H.out).mono ?_
  rintro e w1 ⟨rfl, rfl⟩
  clear h
  go_wp2
  go_loopw [6, 40] (fun v q wr => ∃ (j : Nat), j ≤ m ∧ q = .int .i64 j ∧ TkR w base G tag L s i l j v wr) (fun v q wr => m - (intOf q).toNat)
  case atStart => exact ⟨0, by omega, rfl, HT0.out⟩
  case round =>
    obtain ⟨j, hj, rfl, hT⟩ := hrel
    by_cases hlt : j < m
    · have hjl : j < l.length := by rw [HW.out.2.2.1]; exact hlt
      obtain ⟨g, n, hPA, hn, hnp, c2, k1, k2, f1, f2, hmn, hrd⟩ := hT.pre HW.out.1 HW.out.2.1 (by rw [HK.out]; exact hi) hjl
      obtain ⟨q1, q2, q3⟩ := hT.less (fun b e => HS.out b e) hjl (by rw [← HW.out.2.1]; exact HW.out.1.nd) (fun n hn => HW.out.1.inr n (by rw [HW.out.2.1]; exact hn)) hPA
      rw [hn, Int.toNat_natCast] at q1 q2 q3
      unfold xr at q1 q2 q3
      rw [HA.out, HW.out.2.2.1] at hrd
      obtain ⟨b, off, rfl, hbl, hcc⟩ := hrd.form (by omega)
      have cx := hcc j _ (nums_gi hjl)
      rw [hn] at cx
      have km : (j : Int) < (m : Int) := by omega
      have HQ := Lib.hid (And.intro q1 (And.intro q2 q3))
      have HN := Lib.hid (And.intro hn (And.intro hlt hjl))
      have HM := Lib.hid hmn
      have nk : (n : Int) < (s.packs.length : Int) := by omega
      obtain ⟨np, hnp'⟩ : ∃ np, s.packs.length = np := ⟨_, rfl⟩
      rw [hnp'] at c2 nk
      clear hrd hcc hbl q1 q2 q3 hn hlt hjl hnp hPA hT hmn hnp'
      go_wp2_with fail
      refine (less_any k1 k2 f1 f2 HM.out).mono ?_
      rintro e w2 ⟨rfl, rfl⟩
      have HD := Lib.hid (show ((pk s n).2.1 - 1 == 1) = lastOne s (gi l j) from by rw [HN.out.1]; unfold lastOne; rw [Int.toNat_natCast])
      generalize ((pk s n).2.1 - 1 == 1) = dl at HD
      generalize (wr.setCell ⟨g, n * 3 + 1, none⟩ (.int .i64 ((pk s n).2.1 - 1))).setCell ⟨g, n * 3 + 2, none⟩ (.int .i64 (bits .xor .i64 (pk s n).2.2 (i : Int))) = w2 at HQ ⊢
      have HF := Lib.hid (filter_take_succ HN.out.2.2 (lastOne s))
      obtain ⟨F, hF⟩ : ∃ F, (l.take j).filter (lastOne s) = F := ⟨_, rfl⟩
      rw [hF] at HQ HF
      obtain ⟨r, hr⟩ : ∃ r, F.length = r := ⟨_, rfl⟩
      rw [hr] at HQ
      have HFr := Lib.hid (And.intro hr (show F.length ≤ j from by rw [← hF]; exact Nat.le_trans (List.length_filter_le _ _) (by rw [List.length_take]; exact Nat.min_le_left _ _)))
      clear hF hr
      cases dl
      · rw [← HD.out, if_neg (by simp), List.append_nil] at HF
        go_wp2
        exact ⟨⟨j + 1, by have := HN.out.2.1; omega, by go_num, ⟨HQ.out.1, by rw [HF.out, HFr.out.1]; exact HQ.out.2.1, HQ.out.2.2⟩⟩, by have := HN.out.2.1; simp [intOf]; omega⟩
      · rw [← HD.out, if_pos rfl] at HF
        have hv := Lib.hid (own_slice HQ.out.2.1)
        have hm9 : m ≤ 1048576 := by omega
        go_wp2_with (at_builtin; refine wpList_append_rd _ rfl (.tmp 52) (.tmp 54) _ rfl w.heap.size 3 i0 _ 1 8 Tryz.underlying22 hi0 hz0 hz1 hz2 rfl (by omega) _ r (nums F) rfl (own_below HQ.out.2.1 ((Below.refl _ _).alloc (Nat.le_refl _) _)) (some ⟨w2.heap.size, 0, none⟩) 1 1 (nums [(n : Int)]) rfl (Rd.lit _ _ _ _ rfl 1 rfl _ rfl) (nums_one _) (by have := HFr.out; have := HN.out.2.1; simp only [maxLen]; omega) (by have := HFr.out; have := HN.out.2.1; omega) (by have := HQ.out.2.2.size; rw [World.size_alloc]; omega) ?_; intro v1 w3 hown1 hg1 hat1; rw [← nums_append] at hown1)
        obtain ⟨h1, h2⟩ := HQ.out.1.app HQ.out.2.1 HQ.out.2.2 (fun b e => HS.out b e) hg1
        exact ⟨⟨j + 1, by have := HN.out.2.1; omega, by go_num, ⟨h1, by rw [HF.out, List.length_append, HFr.out.1, HN.out.1]; exact hown1, h2⟩⟩, by have := HN.out.2.1; simp [intOf]; omega⟩
    · obtain rfl : j = m := by omega
      have hQ : TkQ w base G tag L (lessL i s l) (l.filter (lastOne s)) u6 wr := by
        have e : l.take j = l := List.take_of_length_le (by rw [HW.out.2.2.1]; exact Nat.le_refl _)
        have := hT.gm
        have h2 := hT.own
        rw [e] at this h2
        exact ⟨this, h2, hT.ch⟩
      have hp := lessL_parts i l s
      obtain ⟨t, ht⟩ : ∃ t, lessL i s l = t := ⟨_, rfl⟩
      have HP := Lib.hid (And.intro ht hp)
      rw [ht] at hQ hp
      have HQ := Lib.hid hQ
      have c1 := hQ.gm.g.cell 1
      have c5 := hQ.gm.g.cell 5
      have f5 := hQ.gm.g.frozen 5
      have cw := wt_cell hQ.gm (i := i) (by rw [hp.1, HK.out]; exact hi)
      unfold wcell at cw
      rw [hp.2.1, HW.out.2.1, HA.out, HW.out.2.2.1] at cw
      rw [hp.1, HK.out] at c1
      rw [hp.2.2.2.2.2] at c5
      have hwr : IntKind.i64.wrap (s.edges - (j : Int)) = s.edges - (j : Int) := by have := HW.out.2.2.2.1; rw [IntKind.wrap_i64]; omega
      obtain ⟨E, hE⟩ : ∃ E, E = s.edges - (j : Int) := ⟨_, rfl⟩
      rw [← hE] at hwr
      have HE := Lib.hid hE
      clear hT hQ hp ht hlt hj
      go_wp2_with fail
      go_cut [6] (fun x wx => u6 = x ∧ TkQ w base G tag L { t with edges := s.edges - (j : Int) } (l.filter (lastOne s)) u6 wx)
      case first =>
        go_region
        all_goals go_wp2_with fail
        all_goals go_meet
        all_goals rw [wrap_idz (by have := HW.out.2.2.2.1; omega) (by have := HW.out.2.2.2.1; omega)]
        all_goals exact ⟨rfl, (HQ.out.step (fun b e => HS.out b e) (HQ.out.gm.setE _)).drew⟩
      case rest =>
        clear c1 c5 f5 cw hwr HQ HT0
        obtain ⟨rfl, hQ⟩ := hcut
        obtain ⟨t1, ht1⟩ : ∃ t1, { t with edges := s.edges - (j : Int) } = t1 := ⟨_, rfl⟩
        rw [ht1] at hQ
        have hp1 : t1.known.length = k := by rw [← ht1, ← HP.out.1]; exact HP.out.2.1 ▸ HK.out
        have HQ := Lib.hid hQ
        have HT1 := Lib.hid ht1
        have c1 := hQ.gm.g.cell 1
        have c0 := hQ.gm.g.cell 0
        have fk := hQ.gm.kn.frozen i
        have fw := hQ.gm.wt.frozen i
        have ck1 := hQ.gm.kn.cell i
        have cw1 := wt_cell hQ.gm (i := i) (by rw [hp1]; exact hi)
        unfold wcell at cw1
        rw [hp1] at c0 c1
        have ik : i < k := hi
        have hkb : (bools t1.known)[i]? = some (.bool (gb t1.known i)) := by
          unfold bools gb
          rw [List.getElem?_map, List.getD_eq_getElem?_getD, List.getElem?_eq_getElem (by rw [hp1]; exact hi)]; rfl
        rw [hkb] at ck1
        have hne1 : L.KB ≠ L.WB := fun e => by have := hQ.gm.tK; have h2 := hQ.gm.tW; rw [e, h2] at this; cases this
        have hne2 : L.WB ≠ L.KB := Ne.symm hne1
        clear hQ hp1 hkb ht1 hE
        go_wp2_with fail
        go_cut [6] (fun x wx => u6 = x ∧ TkQ w base G tag (L.noW i) { t1 with known := t1.known.set i true, waits := fun j => if j = i then [] else t1.waits j } (l.filter (lastOne s)) u6 wx)
        case first =>
          go_region
          all_goals go_wp2_with fail
          all_goals go_meet
          all_goals first
            | exact ⟨rfl, ((HQ.out.step (fun b e => HS.out b e) (HQ.out.gm.setK i true)).step (fun b e => HS.out b e) ((HQ.out.gm.setK i true).1.setW i)).drew⟩
            | exact ⟨rfl, ((HQ.out.step (fun b e => HS.out b e) (HQ.out.gm.setW i)).step (fun b e => HS.out b e) ((HQ.out.gm.setW i).1.setK i true)).drew⟩
        case rest =>
          clear c1 c0 fk fw ck1 cw1 ck HQ
          obtain ⟨rfl, hQ2⟩ := hcut
          have c4 := hQ2.gm.g.cell 4
          have f4 := hQ2.gm.g.frozen 4
          have hu1 : t1.unknown = s.unknown := by rw [← HT1.out, ← HP.out.1]; exact HP.out.2.2.2.2.2.1
          rw [show ({ t1 with known := t1.known.set i true, waits := fun j => if j = i then [] else t1.waits j } : GM).unknown = s.unknown from hu1] at c4
          have hwu : IntKind.i64.wrap (s.unknown - 1) = s.unknown - 1 := by have := HW.out.2.2.2.2; rw [IntKind.wrap_i64]; omega
          have HQ3 := Lib.hid (hQ2.step (fun b e => HS.out b e) (hQ2.gm.setU (s.unknown - 1)))
          have HU := Lib.hid hu1
          clear hQ2 hu1
          go_wp2
          go_ret2
          refine ⟨u6, L.noW i, rfl, ?_, ?_, HQ3.out.ch⟩
          · rw [HW.out.2.1]; exact HQ3.out.own
          · have e : takeG s i = { t1 with known := t1.known.set i true, waits := fun j => if j = i then [] else t1.waits j, unknown := s.unknown - 1 } := by
              have hp := HP.out.2
              unfold takeG
              simp only []
              rw [HW.out.2.1, ← HT1.out, HW.out.2.2.1, hp.2.2.2.2.1, hp.2.2.2.2.2, HP.out.1]
            rw [e]
            exact HQ3.out.gm
end Go.Proofs.YtlhipaffhehcnaaGreat
namespace Go.Proofs.YtlhipaffhehcnaaGreat
open Go.RowKit
set_option linter.unusedVariables false
set_option maxRecDepth 100000 in
set_option maxHeartbeats 1600000 in
theorem take_range {w : World} {base G : Nat} {tag : Nat → Option Nat} {L : GL} {s : GM} (h : Gm w base G tag L s) {x : Int} (hx : ¬ (0 ≤ x ∧ x < s.known.length)) :
    Calls Tryz.prog 116 #[.pointer (some ⟨G, 0, none⟩), .int .i64 x] w fun e w' => e = .returned (.tuple #[.slice none 0 0, .int .i64 3]) ∧ w = w' := by
  have H := Lib.hid h
  have c0 := h.g.cell 0
  have hkz := h.kz
  obtain ⟨k, hk⟩ : ∃ k, s.known.length = k := ⟨_, rfl⟩
  rw [hk] at c0 hkz hx
  clear h hk
  by_cases h0 : x < 0
  · have d1 : decide (x < 0) = true := by simpa using h0
    clear hx h0
    go_enter Tryz.func116, Tryz.ntmps116
    go_wp2_with fail
    refine (none_made H.out).mono ?_
    rintro e w1 ⟨rfl, rfl⟩
    go_wp2
    go_ret2
    exact ⟨rfl, rfl⟩
  · have d1 : decide (x < 0) = false := by simpa using h0
    have d2 : decide (x ≥ (k : Int)) = true := by simp; omega
    have d3 : decide ((k : Int) ≤ x) = true := by simp; omega
    clear hx h0
    go_enter Tryz.func116, Tryz.ntmps116
    go_wp2_with fail
    refine (none_made H.out).mono ?_
    rintro e w1 ⟨rfl, rfl⟩
    go_wp2
    go_ret2
    exact ⟨rfl, rfl⟩
set_option maxRecDepth 100000 in
set_option maxHeartbeats 1600000 in
theorem take_known {w : World} {base G : Nat} {tag : Nat → Option Nat} {L : GL} {s : GM} (h : Gm w base G tag L s) {i : Nat} (hi : i < s.known.length) (hk : s.known[i]? = some true) :
    Calls Tryz.prog 116 #[.pointer (some ⟨G, 0, none⟩), .int .i64 i] w fun e w' => e = .returned (.tuple #[.slice none 0 0, .int .i64 11]) ∧ w = w' := by
  have H := Lib.hid h
  have c0 := h.g.cell 0
  have c1 := h.g.cell 1
  have hkz := h.kz
  have ck := h.kn.cell i
  rw [show (bools s.known)[i]? = some (.bool true) from by simp [bools, hk]] at ck
  obtain ⟨k, hkk⟩ : ∃ k, s.known.length = k := ⟨_, rfl⟩
  rw [hkk] at c0 c1 hkz hi
  have hi' : (i : Int) < (k : Int) := by omega
  have d1 : decide ((i : Int) < 0) = false := by simp
  have d2 : decide ((i : Int) ≥ (k : Int)) = false := by simp; omega
  have d3 : decide ((k : Int) ≤ (i : Int)) = false := by simp; omega
  have d4 : decide (k ≤ i) = false := by simp; omega
  clear hkk hk h
  go_enter Tryz.func116, Tryz.ntmps116
  go_wp2_with fail
  refine (none_made H.out).mono ?_
  rintro e w1 ⟨rfl, rfl⟩
  go_wp2
  go_ret2
  exact ⟨rfl, rfl⟩
end Go.Proofs.YtlhipaffhehcnaaGreat
