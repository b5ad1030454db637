/- Chapter 20: a graph's parts, changed one at a time. -/
import Derived.Test.YtidoembkcaojoaaNw20
namespace Go.Proofs.Ytidoembkcaojoaa
open Go.RowKit
set_option linter.unusedVariables false
/-- A row of the call's own that has one has its block. -/
theorem own_formN {w : World} {base size n c : Nat} {e : TypeId} {A : Option Addr} {xs : List Value} (h : w.ownsRow base e size (.slice A n c) n xs) (hn : 0 < n) :
    ∃ g cur, A = some ⟨g, 0, none⟩ ∧ base ≤ g ∧ g < w.heap.size ∧ Bk w g e cur ∧ n ≤ c ∧ c ≤ maxLen ∧ cur.length = c * size ∧ cur.take (n * size) = xs := by
  rcases h.2 with ⟨_, h0⟩ | ⟨g, cap, cur, hv, hb, hh, hnc, hcm, hcs, ht⟩
  · omega
  · injection hv with e1 e2 e3
    subst e1; subst e3
    exact ⟨g, cur.toList, rfl, hb, (Array.getElem?_eq_some_iff.1 hh).1, hh, hnc, hcm, by simpa using hcs, ht⟩
theorem own_mkN {w : World} {base size n c g : Nat} {e : TypeId} {cur xs : List Value} (h : Bk w g e cur) (hb : base ≤ g) (hnc : n ≤ c) (hcm : c ≤ maxLen) (hcl : cur.length = c * size) (ht : cur.take (n * size) = xs) : w.ownsRow base e size (.slice (some ⟨g, 0, none⟩) n c) n xs := by
  refine ⟨?_, .inr ⟨g, c, cur.toArray, rfl, hb, h, hnc, hcm, by simpa using hcl, by simpa using ht⟩⟩
  rw [← ht, List.length_take, hcl]
  exact Nat.min_eq_left (Nat.mul_le_mul_right _ hnc)
theorem own_cellN {w : World} {base size n c g i : Nat} {e : TypeId} {xs : List Value} (h : w.ownsRow base e size (.slice (some ⟨g, 0, none⟩) n c) n xs) (hi : i < xs.length) : w.cell? ⟨g, i, none⟩ = xs[i]? ∧ w.frozen? ⟨g, i, none⟩ = false := by
  have hl := h.1
  obtain ⟨g', cur, hA, _, _, hbk, _, _, hcl, ht⟩ := own_formN h (by
    rcases Nat.eq_zero_or_pos n with h0 | h0
    · subst h0; omega
    · exact h0)
  cases hA
  refine ⟨?_, hbk.frozen i⟩
  rw [hbk.cell i, ← ht, List.getElem?_take_of_lt (by omega)]
theorem own_setN {w : World} {base size n c g i : Nat} {e : TypeId} {xs : List Value} (h : w.ownsRow base e size (.slice (some ⟨g, 0, none⟩) n c) n xs) (hi : i < xs.length) (u : Value) : (w.setCell ⟨g, i, none⟩ u).ownsRow base e size (.slice (some ⟨g, 0, none⟩) n c) n (xs.set i u) := by
  have hl := h.1
  obtain ⟨g', cur, hA, hb, _, hbk, hnc, hcm, hcl, ht⟩ := own_formN h (by
    rcases Nat.eq_zero_or_pos n with h0 | h0
    · subst h0; omega
    · exact h0)
  cases hA
  exact own_mkN (hbk.set_ i u) hb hnc hcm (by rw [List.length_set]; exact hcl) (by rw [List.take_set, ht])
def GM.upd (s : GM) (p : Nat) (m x : Int) : GM := { s with packs := s.packs.set p ((pk s p).1, m, x) }
theorem pk_set {s : GM} {p : Nat} (hp : p < s.packs.length) (m x : Int) (q : Nat) : pk (s.upd p m x) q = if p = q then ((pk s p).1, m, x) else pk s q := by
  unfold pk GM.upd
  simp only [List.getD_eq_getElem?_getD, List.getElem?_set]
  by_cases h : p = q
  · subst h; simp [hp, pk, List.getD_eq_getElem?_getD]
  · simp [h]
theorem pk_set1 {s : GM} {p : Nat} (m x : Int) (q : Nat) : (pk (s.upd p m x) q).1 = (pk s q).1 := by
  by_cases hp : p < s.packs.length
  · rw [pk_set hp]; split
    · rename_i e; subst e; rfl
    · rfl
  · unfold GM.upd pk
    rw [List.set_eq_of_length_le (by omega)]
theorem pcells_upd {L : GL} {s : GM} {p : Nat} (hp : p < s.packs.length) (m x : Int) : ((pcells L s).set (p * 3 + 1) (.int .i64 m)).set (p * 3 + 2) (.int .i64 x) = pcells L (s.upd p m x) := by
  have hl : (s.upd p m x).packs.length = s.packs.length := by simp [GM.upd]
  refine List.ext_getElem? fun i => ?_
  rcases Nat.lt_or_ge i (s.packs.length * 3) with h | h
  · obtain ⟨q, j, hj, rfl⟩ : ∃ q j, j < 3 ∧ i = q * 3 + j := ⟨i / 3, i % 3, Nat.mod_lt _ (by omega), by omega⟩
    have hq : q < s.packs.length := by omega
    rw [pcells_get L (s.upd p m x) (by omega) hj, List.getElem?_set, List.getElem?_set, pcells_get L s hq hj, List.length_set, pcells_length]
    unfold pcell
    rw [pk_set hp]
    by_cases e : p = q
    · subst e
      rw [if_pos rfl]
      match j, hj with
      | 0, _ => rw [if_neg (by omega), if_neg (by omega)]; rfl
      | 1, _ => rw [if_neg (by omega), if_pos rfl, if_pos (by omega)]; rfl
      | 2, _ => rw [if_pos rfl, if_pos (by omega)]; rfl
    · rw [if_neg (by omega), if_neg (by omega), if_neg e]
  · rw [List.getElem?_eq_none (by simpa [pcells_length] using h), List.getElem?_eq_none (by rw [pcells_length, hl]; exact h)]
section
variable {w w' : World} {base G : Nat} {tag : Nat → Option Nat} {L : GL} {s : GM}
/-- A change in blocks of one tag leaves what has another. -/
theorem Gm.parts (h : Gm w base G tag L s) {S : Nat → Prop} (hc : Chg S w w') (t : Nat) (hS : ∀ b, S b → tag b = some t) :
    (t ≠ 0 → Bk w' G 93 [.slice (some ⟨L.KB, 0, none⟩) s.known.length s.known.length, .slice (some ⟨L.WB, 0, none⟩) s.known.length s.known.length, .slice L.PA s.packs.length L.pc, .int .i64 s.most, .int .i64 s.unknown, .int .i64 s.edges]) ∧
    (t ≠ 1 → Bk w' L.KB 4 (bools s.known)) ∧ (t ≠ 2 → Bk w' L.WB 23 ((List.range s.known.length).map (wcell L s))) ∧
    (∀ i, i < s.known.length → t ≠ 5 + i → w'.ownsRow base 3 1 (wcell L s i) (s.waits i).length (nums (s.waits i))) ∧
    (t ≠ 3 → w'.ownsRow base 95 3 (.slice L.PA s.packs.length L.pc) s.packs.length (pcells L s)) ∧
    (t ≠ 4 → ∀ p, p < s.packs.length → Rd w' (L.sa p) (pk s p).1.length (nums (pk s p).1)) ∧ (∀ b, tag b ≠ none → base ≤ b ∧ b < w'.heap.size) ∧ base ≤ w'.heap.size := by
  have ne : ∀ {b u}, tag b = some u → t ≠ u → ¬ S b := fun hb hu hs => hu (by have := (hS _ hs).symm.trans hb; injection this)
  refine ⟨fun e => hc.bk h.g (ne h.tG e), fun e => hc.bk h.kn (ne h.tK e), fun e => hc.bk h.wt (ne h.tW e), fun i hi e => own_chgv (h.wo i hi) hc (fun g hg => ?_), fun e => own_chgv h.po hc (fun g hg => ?_), fun e p hp => hc.rd (h.so p hp) (fun a ha => ne (h.tS p a hp ha) e), fun b hb => ⟨(h.lt b hb).1, Nat.lt_of_lt_of_le (h.lt b hb).2 hc.size⟩, Nat.le_trans h.bs hc.size⟩
  · obtain ⟨a, ha, rfl⟩ := slice_block hg; exact ne (h.tw i a hi ha) e
  · obtain ⟨a, ha, rfl⟩ := slice_block hg; exact ne (h.tP a ha) e
/-- A packet's count and sum are written. -/
theorem Gm.setPack (h : Gm w base G tag L s) {p g : Nat} (hp : p < s.packs.length) (hA : L.PA = some ⟨g, 0, none⟩) (m x : Int) :
    Gm ((w.setCell ⟨g, p * 3 + 1, none⟩ (.int .i64 m)).setCell ⟨g, p * 3 + 2, none⟩ (.int .i64 x)) base G tag L (s.upd p m x) ∧ Chg (fun b => tag b ≠ none) w ((w.setCell ⟨g, p * 3 + 1, none⟩ (.int .i64 m)).setCell ⟨g, p * 3 + 2, none⟩ (.int .i64 x)) := by
  have ht : tag g = some 3 := h.tP _ hA
  have hc : Chg (fun b => b = g) w ((w.setCell ⟨g, p * 3 + 1, none⟩ (.int .i64 m)).setCell ⟨g, p * 3 + 2, none⟩ (.int .i64 x)) :=
    ((Chg.refl (fun b => b = g) w).set_ (g := g) (show (fun b => b = g) g from rfl) _ _).set_ (g := g) (show (fun b => b = g) g from rfl) _ _
  obtain ⟨p1, p2, p3, p4, p5, p6, p7, p8⟩ := h.parts hc 3 (fun b e => by subst e; exact ht)
  have hl : (s.upd p m x).packs.length = s.packs.length := by simp [GM.upd]
  refine ⟨⟨?_, p2 (by omega), p3 (by omega), fun i hi => p4 i hi (by omega), ?_, fun q hq => ?_, h.tG, h.tK, h.tW, h.tP, fun q a hq => h.tS q a (by omega), h.tw, p7, p8, h.most0, h.kz, by rw [hl]; exact h.pz, h.wz⟩, hc.mono fun b _ e => by subst e; rw [ht]; simp⟩
  · rw [hl]; exact p1 (by omega)
  · rw [hl, ← pcells_upd hp]
    have h0 := h.po
    rw [hA] at h0 ⊢
    have h1 := own_setN h0 (i := p * 3 + 1) (by rw [pcells_length]; omega) (.int .i64 m)
    exact own_setN h1 (i := p * 3 + 2) (by rw [List.length_set, pcells_length]; omega) (.int .i64 x)
  · rw [pk_set1]; exact p6 (by omega) q (by omega)
/-- Its numbers are written. -/
theorem Gm.setE (h : Gm w base G tag L s) (x : Int) : Gm (w.setCell ⟨G, 5, none⟩ (.int .i64 x)) base G tag L { s with edges := x } ∧ Chg (fun b => tag b ≠ none) w (w.setCell ⟨G, 5, none⟩ (.int .i64 x)) := by
  have hc : Chg (fun b => b = G) w (w.setCell ⟨G, 5, none⟩ (.int .i64 x)) := (Chg.refl (fun b => b = G) w).set_ (g := G) (show (fun b => b = G) G from rfl) _ _
  obtain ⟨p1, p2, p3, p4, p5, p6, p7, p8⟩ := h.parts hc 0 (fun b e => by subst e; exact h.tG)
  exact ⟨⟨h.g.set_ 5 _, p2 (by omega), p3 (by omega), fun i hi => p4 i hi (by omega), p5 (by omega), p6 (by omega), h.tG, h.tK, h.tW, h.tP, h.tS, h.tw, p7, p8, h.most0, h.kz, h.pz, h.wz⟩, hc.mono fun b _ e => by subst e; rw [h.tG]; simp⟩
theorem Gm.setU (h : Gm w base G tag L s) (x : Int) : Gm (w.setCell ⟨G, 4, none⟩ (.int .i64 x)) base G tag L { s with unknown := x } ∧ Chg (fun b => tag b ≠ none) w (w.setCell ⟨G, 4, none⟩ (.int .i64 x)) := by
  have hc : Chg (fun b => b = G) w (w.setCell ⟨G, 4, none⟩ (.int .i64 x)) := (Chg.refl (fun b => b = G) w).set_ (g := G) (show (fun b => b = G) G from rfl) _ _
  obtain ⟨p1, p2, p3, p4, p5, p6, p7, p8⟩ := h.parts hc 0 (fun b e => by subst e; exact h.tG)
  exact ⟨⟨h.g.set_ 4 _, p2 (by omega), p3 (by omega), fun i hi => p4 i hi (by omega), p5 (by omega), p6 (by omega), h.tG, h.tK, h.tW, h.tP, h.tS, h.tw, p7, p8, h.most0, h.kz, h.pz, h.wz⟩, hc.mono fun b _ e => by subst e; rw [h.tG]; simp⟩
/-- A symbol is known. -/
theorem Gm.setK (h : Gm w base G tag L s) (i : Nat) (b : Bool) : Gm (w.setCell ⟨L.KB, i, none⟩ (.bool b)) base G tag L { s with known := s.known.set i b } ∧ Chg (fun b => tag b ≠ none) w (w.setCell ⟨L.KB, i, none⟩ (.bool b)) := by
  have hc : Chg (fun b => b = L.KB) w (w.setCell ⟨L.KB, i, none⟩ (.bool b)) := (Chg.refl (fun b => b = L.KB) w).set_ (g := L.KB) (show (fun b => b = L.KB) L.KB from rfl) _ _
  obtain ⟨p1, p2, p3, p4, p5, p6, p7, p8⟩ := h.parts hc 1 (fun b e => by subst e; exact h.tK)
  have hl : (s.known.set i b).length = s.known.length := by simp
  refine ⟨⟨?_, ?_, ?_, fun j hj => p4 j (by simpa using hj) (by omega), p5 (by omega), p6 (by omega), h.tG, h.tK, h.tW, h.tP, h.tS, fun j a hj => h.tw j a (by simpa using hj), p7, p8, h.most0, by simpa using h.kz, h.pz, h.wz⟩, hc.mono fun b _ e => by subst e; rw [h.tK]; simp⟩
  · simp only [hl]; exact p1 (by omega)
  · have := h.kn.set_ i (.bool b)
    unfold bools at this ⊢
    simp only [List.map_set]
    exact this
  · simp only [hl]; exact p3 (by omega)
/-- None waits for a symbol any more. -/
theorem map_range_set {f f' : Nat → Value} {n i : Nat} (u : Value) (hi : f' i = u) (hn : ∀ j, j ≠ i → f' j = f j) : ((List.range n).map f).set i u = (List.range n).map f' := by
  refine List.ext_getElem? fun j => ?_
  rw [List.getElem?_set]
  by_cases e : i = j
  · subst e
    rw [if_pos rfl]
    rcases Nat.lt_or_ge i n with h | h
    · rw [if_pos (by simpa using h), List.getElem?_map, List.getElem?_range h]; simp [hi]
    · rw [if_neg (by simpa using h), List.getElem?_eq_none (by simpa using h)]
  · rw [if_neg e, List.getElem?_map, List.getElem?_map]
    rcases Nat.lt_or_ge j n with h | h
    · rw [List.getElem?_range h]; simp [hn j (Ne.symm e)]
    · rw [List.getElem?_eq_none (by simpa using h)]; rfl
def GL.noW (L : GL) (i : Nat) : GL := { L with wa := fun j => if j = i then none else L.wa j, wc := fun j => if j = i then 0 else L.wc j }
theorem Gm.setW (h : Gm w base G tag L s) (i : Nat) : Gm (w.setCell ⟨L.WB, i, none⟩ (.slice none 0 0)) base G tag (L.noW i) { s with waits := fun j => if j = i then [] else s.waits j } ∧ Chg (fun b => tag b ≠ none) w (w.setCell ⟨L.WB, i, none⟩ (.slice none 0 0)) := by
  have hc : Chg (fun b => b = L.WB) w (w.setCell ⟨L.WB, i, none⟩ (.slice none 0 0)) := (Chg.refl (fun b => b = L.WB) w).set_ (g := L.WB) (show (fun b => b = L.WB) L.WB from rfl) _ _
  obtain ⟨p1, p2, p3, p4, p5, p6, p7, p8⟩ := h.parts hc 2 (fun b e => by subst e; exact h.tW)
  refine ⟨⟨p1 (by omega), p2 (by omega), ?_, fun j hj => ?_, p5 (by omega), p6 (by omega), h.tG, h.tK, h.tW, h.tP, h.tS, fun j a hj ha => ?_, p7, p8, h.most0, h.kz, h.pz, fun j => ?_⟩, hc.mono fun b _ e => by subst e; rw [h.tW]; simp⟩
  · have := h.wt.set_ i (.slice none 0 0)
    rw [map_range_set (f' := wcell (L.noW i) { s with waits := fun j => if j = i then [] else s.waits j }) _ (by simp [wcell, GL.noW]) (fun j hj => by simp [wcell, GL.noW, hj])] at this
    exact this
  · by_cases e : j = i
    · subst e
      have := World.ownsRow_nil (w.setCell ⟨L.WB, j, none⟩ (.slice none 0 0)) base 3 1
      simpa [wcell, GL.noW, nums] using this
    · have := p4 j hj (by omega)
      simpa [wcell, GL.noW, e] using this
  · unfold GL.noW at ha
    by_cases e : j = i
    · simp [e] at ha
    · simp only [if_neg e] at ha; exact h.tw j a hj ha
  · by_cases e : j = i
    · simp [e]
    · simp only [if_neg e]; exact h.wz j
end
end Go.Proofs.Ytidoembkcaojoaa
