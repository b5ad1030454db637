/- Chapter 20: Add: what its loop keeps. -/
import Derived.Test.YtidoembkcaojoaaRt20
namespace Go.Proofs.Ytidoembkcaojoaa
open Go.RowKit
set_option linter.unusedVariables false
def addW (n : Nat) (s : GM) (x : Int) : GM := { s with waits := fun j => if j = x.toNat then s.waits j ++ [(n : Int)] else s.waits j }
def addL (n : Nat) (s : GM) (l : List Int) : GM := l.foldl (addW n) s
def GL.setW (L : GL) (i : Nat) (A : Option Addr) (c : Nat) : GL := { L with wa := fun j => if j = i then A else L.wa j, wc := fun j => if j = i then c else L.wc j }
theorem addL_snoc (n : Nat) (s : GM) (l : List Int) (x : Int) : addL n s (l ++ [x]) = addW n (addL n s l) x := by unfold addL; rw [List.foldl_append]; rfl
theorem addL_parts (n : Nat) : ∀ (l : List Int) (s : GM), (addL n s l).known = s.known ∧ (addL n s l).packs = s.packs ∧ (addL n s l).most = s.most ∧ (addL n s l).unknown = s.unknown ∧ (addL n s l).edges = s.edges
  | [], s => ⟨rfl, rfl, rfl, rfl, rfl⟩
  | x :: l, s => addL_parts n l (addW n s x)
def tagW (tag : Nat → Option Nat) (g t : Nat) (b : Nat) : Option Nat := if b = g then some t else tag b
theorem tagW_ne {tag : Nat → Option Nat} {g t b : Nat} (h : b ≠ g) : tagW tag g t b = tag b := if_neg h
theorem tagW_eq {tag : Nat → Option Nat} {g t : Nat} : tagW tag g t g = some t := if_pos rfl
/-- One more waits for a symbol: append, and the field's store. -/
theorem Gm.appW {w w1 : World} {base G i n g c : Nat} {tag : Nat → Option Nat} {L : GL} {s : GM} {o : Obj} (h : Gm w base G tag L s) (hi : i < s.known.length)
    (ho : w1.ownsRow base 3 1 (.slice (some ⟨g, 0, none⟩) ((s.waits i).length + 1) c) ((s.waits i).length + 1) (nums (s.waits i ++ [(n : Int)]))) (hg : (w.alloc o).grownBy w1 (wcell L s i).ownBlock) (hat : some g = (wcell L s i).ownBlock ∨ some g = some (w.alloc o).heap.size) (hz : (s.waits i).length + 1 ≤ 1048576) :
    Gm (w1.setCell ⟨L.WB, i, none⟩ (.slice (some ⟨g, 0, none⟩) ((s.waits i).length + 1) c)) base G (tagW tag g (5 + i)) (L.setW i (some ⟨g, 0, none⟩) c) (addW n s i) ∧
      Chg (fun b => tag b ≠ none) w (w1.setCell ⟨L.WB, i, none⟩ (.slice (some ⟨g, 0, none⟩) ((s.waits i).length + 1) c)) ∧ (∀ b, b < w.heap.size → tagW tag g (5 + i) b = tag b) ∧ base ≤ g := by
  have hgt : tag g = some (5 + i) ∨ w.heap.size ≤ g := by
    rcases hat with e | e
    · obtain ⟨a, ha, ha'⟩ := slice_block e.symm
      left; rw [← ha']; exact h.tw i a hi ha
    · right; injection e with e; rw [e, World.size_alloc]; omega
  have htg : ∀ {b u}, tag b = some u → u ≠ 5 + i → b ≠ g := fun {b u} hb hu e => by
    subst e
    rcases hgt with e | e
    · rw [hb] at e; injection e with e; exact hu e
    · have := (h.lt b (by rw [hb]; simp)).2; omega
  have hold : ∀ b, b < w.heap.size → tagW tag g (5 + i) b = tag b := fun b hb => by
    by_cases e : b = g
    · subst e
      rcases hgt with e | e
      · rw [tagW_eq, e]
      · omega
    · exact tagW_ne e
  have hc1 : Chg (fun b => tag b = some (5 + i)) w w1 := ((Chg.refl _ w).alloc o).trans (Chg.of_grown hg (S := fun b => tag b = some (5 + i)) fun k e => by
    obtain ⟨a, ha, ha'⟩ := slice_block e
    rw [← ha']; exact h.tw i a hi ha) fun _ _ x => x
  obtain ⟨p1, p2, p3, p4, p5, p6, p7, p8⟩ := h.parts hc1 (5 + i) (fun b e => e)
  have hgl := ho.lt g rfl
  have hgW : g ≠ L.WB := fun e => htg h.tW (by omega) e.symm
  have hWl := (h.lt L.WB (by rw [h.tW]; simp)).2
  have hc2 : Chg (fun b => b = L.WB) w1 (w1.setCell ⟨L.WB, i, none⟩ (.slice (some ⟨g, 0, none⟩) ((s.waits i).length + 1) c)) := (Chg.refl (fun b => b = L.WB) w1).set_ (g := L.WB) (show (fun b => b = L.WB) L.WB from rfl) _ _
  have ne : ∀ {b u}, tag b = some u → u ≠ 2 → ¬ (b = L.WB) := fun hb hu e => by subst e; rw [h.tW] at hb; injection hb with hb; exact hu hb.symm
  refine ⟨⟨hc2.bk (p1 (by omega)) (ne h.tG (by omega)), hc2.bk (p2 (by omega)) (ne h.tK (by omega)), ?_, fun j hj => ?_, own_chgv (p5 (by omega)) hc2 (fun k hk => ?_), fun p hp => hc2.rd (p6 (by omega) p hp) (fun a ha => ne (h.tS p a hp ha) (by omega)), ?_, ?_, ?_, fun a ha => ?_, fun p a hp ha => ?_, fun j a hj ha => ?_, fun b hb => ?_, Nat.le_trans p8 hc2.size, h.most0, h.kz, h.pz, fun j => ?_⟩, ?_, hold, hgl.1⟩
  · have := (p3 (by omega)).set_ i (.slice (some ⟨g, 0, none⟩) ((s.waits i).length + 1) c)
    rw [map_range_set (f' := wcell (L.setW i (some ⟨g, 0, none⟩) c) (addW n s i)) _ (by simp [wcell, GL.setW, addW]) (fun j hj => by simp [wcell, GL.setW, addW, hj])] at this
    exact this
  · by_cases e : j = i
    · subst e
      have := own_chgv ho hc2 (fun k hk => by injection hk with hk; rw [← hk]; exact hgW)
      simpa [wcell, GL.setW, addW] using this
    · have := own_chgv (p4 j hj (by omega)) hc2 (fun k hk => by
        obtain ⟨a, ha, ha'⟩ := slice_block hk
        rw [← ha']; exact ne (h.tw j a hj ha) (by omega))
      simpa [wcell, GL.setW, addW, e] using this
  · obtain ⟨a, ha, ha'⟩ := slice_block hk
    rw [← ha']; exact ne (h.tP a ha) (by omega)
  · rw [tagW_ne (htg h.tG (by omega))]; exact h.tG
  · show tagW tag g (5 + i) L.KB = _
    rw [tagW_ne (htg h.tK (by omega))]; exact h.tK
  · show tagW tag g (5 + i) L.WB = _
    rw [tagW_ne (htg h.tW (by omega))]; exact h.tW
  · rw [tagW_ne (htg (h.tP a ha) (by omega))]; exact h.tP a ha
  · rw [tagW_ne (htg (h.tS p a hp ha) (by omega))]; exact h.tS p a hp ha
  · by_cases e : j = i
    · subst e
      simp only [GL.setW, if_true] at ha
      injection ha with ha; subst ha
      exact tagW_eq
    · simp only [GL.setW, if_neg e] at ha
      rw [tagW_ne (htg (h.tw j a hj ha) (by omega))]; exact h.tw j a hj ha
  · by_cases e : b = g
    · subst e; exact ⟨hgl.1, Nat.lt_of_lt_of_le hgl.2 hc2.size⟩
    · rw [tagW_ne e] at hb
      exact ⟨(p7 b hb).1, Nat.lt_of_lt_of_le (p7 b hb).2 hc2.size⟩
  · by_cases e : j = i
    · subst e; simp [addW]; omega
    · simp [addW, e]; exact h.wz j
  · exact (hc1.mono fun b _ e => by rw [e]; simp).trans hc2 fun b _ e => by rw [e, h.tW]; simp
def GL.addP (L : GL) (p g c gB cB : Nat) : GL := { L with PA := some ⟨g, 0, none⟩, pc := c, sa := fun q => if q = p then some ⟨gB, 0, none⟩ else L.sa q, sc := fun q => if q = p then cB else L.sc q }
def GM.addP (s : GM) (l : List Int) (m x : Int) : GM := { s with packs := s.packs ++ [(l, m, x)] }
theorem pk_old {s : GM} {l : List Int} {m x : Int} {q : Nat} (h : q < s.packs.length) : pk (s.addP l m x) q = pk s q := by
  unfold pk GM.addP
  simp only [List.getD_eq_getElem?_getD, List.getElem?_append_left h]
theorem pk_new {s : GM} {l : List Int} {m x : Int} : pk (s.addP l m x) s.packs.length = (l, m, x) := by
  unfold pk GM.addP
  simp [List.getD_eq_getElem?_getD]
theorem pcells_add {L : GL} {s : GM} {l : List Int} {m x : Int} {g c gB cB : Nat} : pcells (L.addP s.packs.length g c gB cB) (s.addP l m x) = pcells L s ++ [.slice (some ⟨gB, 0, none⟩) l.length cB, .int .i64 m, .int .i64 x] := by
  unfold pcells
  rw [show (s.addP l m x).packs.length = s.packs.length + 1 from by simp [GM.addP], List.range_succ, List.flatMap_append]
  congr 1
  · rw [List.flatMap_def, List.flatMap_def]
    congr 1
    refine List.map_congr_left fun q hq => ?_
    have hq' := List.mem_range.1 hq
    unfold pcell
    rw [pk_old hq']
    simp [GL.addP, Nat.ne_of_lt hq']
  · simp only [List.flatMap_cons, List.flatMap_nil, List.append_nil]
    unfold pcell
    rw [pk_new]
    simp [GL.addP]
/-- One more packet. -/
theorem Gm.appP {w w1 : World} {base G g c gB cB N : Nat} {tag : Nat → Option Nat} {L : GL} {s : GM} {o : Obj} {l : List Int} {m x : Int} (h : Gm w base G tag L s)
    (hB : Rd w (some ⟨gB, 0, none⟩) l.length (nums l)) (tB : tag gB = none) (hbB : base ≤ gB) (hBl : gB < w.heap.size) (hNB : N ≤ gB) (hN : N ≤ w.heap.size)
    (ho : w1.ownsRow base 95 3 (.slice (some ⟨g, 0, none⟩) (s.packs.length + 1) c) (s.packs.length + 1) (pcells L s ++ [.slice (some ⟨gB, 0, none⟩) l.length cB, .int .i64 m, .int .i64 x]))
    (hg : (w.alloc o).grownBy w1 (Value.slice L.PA s.packs.length L.pc).ownBlock) (hat : some g = (Value.slice L.PA s.packs.length L.pc).ownBlock ∨ some g = some (w.alloc o).heap.size) (hz : s.packs.length + 1 ≤ 1048576) :
    Gm (w1.setCell ⟨G, 2, none⟩ (.slice (some ⟨g, 0, none⟩) (s.packs.length + 1) c)) base G (tagW (tagW tag g 3) gB 4) (L.addP s.packs.length g c gB cB) (s.addP l m x) ∧
      Chg (fun b => tag b ≠ none) w (w1.setCell ⟨G, 2, none⟩ (.slice (some ⟨g, 0, none⟩) (s.packs.length + 1) c)) ∧ (∀ b, b < N → tagW (tagW tag g 3) gB 4 b = tag b) := by
  have hgt : tag g = some 3 ∨ w.heap.size ≤ g := by
    rcases hat with e | e
    · obtain ⟨a, ha, ha'⟩ := slice_block e.symm
      left; rw [← ha']; exact h.tP a ha
    · right; injection e with e; rw [e, World.size_alloc]; omega
  have htg : ∀ {b u}, tag b = some u → u ≠ 3 → b ≠ g := fun {b u} hb hu e => by
    subst e
    rcases hgt with e | e
    · rw [hb] at e; injection e with e; exact hu e
    · have := (h.lt b (by rw [hb]; simp)).2; omega
  have htB : ∀ {b u}, tag b = some u → b ≠ gB := fun hb e => by subst e; rw [tB] at hb; cases hb
  have hgB : g ≠ gB := fun e => by
    subst e
    rcases hgt with e | e
    · rw [tB] at e; cases e
    · omega
  have hc1 : Chg (fun b => tag b = some 3) w w1 := ((Chg.refl _ w).alloc o).trans (Chg.of_grown hg (S := fun b => tag b = some 3) fun k e => by
    obtain ⟨a, ha, ha'⟩ := slice_block e
    rw [← ha']; exact h.tP a ha) fun _ _ x => x
  obtain ⟨p1, p2, p3, p4, p5, p6, p7, p8⟩ := h.parts hc1 3 (fun b e => e)
  have hgl := ho.lt g rfl
  have hgG : g ≠ G := fun e => htg h.tG (by omega) e.symm
  have hc2 : Chg (fun b => b = G) w1 (w1.setCell ⟨G, 2, none⟩ (.slice (some ⟨g, 0, none⟩) (s.packs.length + 1) c)) := (Chg.refl (fun b => b = G) w1).set_ (g := G) (show (fun b => b = G) G from rfl) _ _
  have ne : ∀ {b u}, tag b = some u → u ≠ 0 → ¬ (b = G) := fun hb hu e => by subst e; rw [h.tG] at hb; injection hb with hb; exact hu hb.symm
  have hBG : gB ≠ G := fun e => htB h.tG e.symm
  have tt : ∀ {b u}, tag b = some u → u ≠ 3 → tagW (tagW tag g 3) gB 4 b = some u := fun hb hu => by rw [tagW_ne (htB hb), tagW_ne (htg hb hu)]; exact hb
  have hl : (s.addP l m x).packs.length = s.packs.length + 1 := by simp [GM.addP]
  refine ⟨⟨?_, hc2.bk (p2 (by omega)) (ne h.tK (by omega)), hc2.bk (p3 (by omega)) (ne h.tW (by omega)), fun j hj => own_chgv (p4 j hj (by omega)) hc2 (fun k hk => ?_), ?_, fun p hp => ?_, tt h.tG (by omega), tt h.tK (by omega), tt h.tW (by omega), fun a ha => ?_, fun p a hp ha => ?_, fun j a hj ha => tt (h.tw j a hj ha) (by omega), fun b hb => ?_, Nat.le_trans p8 hc2.size, h.most0, h.kz, by rw [hl]; exact hz, h.wz⟩, ?_, fun b hb => ?_⟩
  · rw [hl]
    exact (p1 (by omega)).set_ 2 _
  · obtain ⟨a, ha, ha'⟩ := slice_block hk
    rw [← ha']; exact ne (h.tw j a hj ha) (by omega)
  · rw [hl, pcells_add]
    exact own_chgv ho hc2 (fun k hk => by injection hk with hk; rw [← hk]; exact hgG)
  · rw [hl] at hp
    rcases Nat.lt_or_ge p s.packs.length with e | e
    · rw [pk_old e]
      have := hc2.rd (p6 (by omega) p e) (fun a ha => ne (h.tS p a e ha) (by omega))
      simpa [GL.addP, Nat.ne_of_lt e] using this
    · obtain rfl : p = s.packs.length := by omega
      rw [pk_new]
      have h1 := hc2.rd (hc1.rd hB (fun a ha => by injection ha with ha; subst ha; rw [tB]; simp)) (fun a ha => by injection ha with ha; subst ha; exact hBG)
      simpa [GL.addP] using h1
  · simp only [GL.addP] at ha
    injection ha with ha; subst ha
    rw [tagW_ne hgB]; exact tagW_eq
  · rw [hl] at hp
    rcases Nat.lt_or_ge p s.packs.length with e | e
    · simp only [GL.addP, if_neg (Nat.ne_of_lt e)] at ha
      exact tt (h.tS p a e ha) (by omega)
    · obtain rfl : p = s.packs.length := by omega
      simp only [GL.addP, if_true] at ha
      injection ha with ha; subst ha
      exact tagW_eq
  · by_cases e : b = gB
    · subst e; exact ⟨hbB, Nat.lt_of_lt_of_le hBl (Nat.le_trans hc1.size hc2.size)⟩
    · rw [tagW_ne e] at hb
      by_cases e2 : b = g
      · subst e2; exact ⟨hgl.1, Nat.lt_of_lt_of_le hgl.2 hc2.size⟩
      · rw [tagW_ne e2] at hb
        exact ⟨(p7 b hb).1, Nat.lt_of_lt_of_le (p7 b hb).2 hc2.size⟩
  · exact (hc1.mono fun b _ e => by rw [e]; simp).trans hc2 fun b _ e => by rw [e, h.tG]; simp
  · rw [tagW_ne (by omega)]
    by_cases e : b = g
    · subst e
      rcases hgt with e | e
      · rw [tagW_eq, e]
      · omega
    · exact tagW_ne e
end Go.Proofs.Ytidoembkcaojoaa
