/- Chapter 31: what EtherTrue's rounds keep; the steps of its last region. -/
import Derived.Test.YtknpghemogfenaaTc31
namespace Go.Proofs.Ytknpghemogfenaa
open Go.Conc Go.RowKit
set_option linter.unusedVariables false
theorem Chg.cell' {S : Nat → Prop} {w w' : World} {p : Addr} {v : Value} (h : Chg S w w') (hc : w.cell? p = some v) (hp : ¬ S p.block) : w'.cell? p = some v := by
  have hl := World.block_lt_of_cell? _ _ hc
  have := h.2 p.block hl hp
  rw [← hc]
  unfold World.cell?
  rw [this]
theorem bx_two (b : BX) : ∀ u ∈ [b.v, b.v], u.oneCell' = true := fun u hu => by
  simp only [List.mem_cons, List.not_mem_nil, or_false] at hu
  rcases hu with rfl | rfl <;> rfl
theorem bxs_one (l : List BX) : ∀ u ∈ l.map BX.v, u.oneCell' = true := fun u hu => by
  obtain ⟨b, _, rfl⟩ := List.mem_map.1 hu; rfl
theorem Rd.mul1 {w : World} {A : Option Addr} {n : Nat} {xs : List Value} (h : Rd w A n xs) : Rd w A (n * 1) xs := by rw [Nat.mul_one]; exact h
theorem Rd.dropq {w : World} {b off n : Nat} {xs : List Value} (h : Rd w (some ⟨b, off, none⟩) n xs) {k : Nat} (hk : k ≤ n) : Rd w (some ⟨b, off + k, none⟩) (n - k) (xs.drop k) := by
  refine ⟨by rw [List.length_drop, h.1], fun hn => ?_⟩
  obtain ⟨b', off', e, _, hc⟩ := h.form (by omega)
  cases e
  refine ⟨b, off + k, rfl, fun j u hu => ?_⟩
  rw [List.getElem?_drop] at hu
  rw [Nat.add_assoc]
  exact hc (k + j) u hu
/-- The rounds: i steps of each ether. -/
def TR1 (w0 wx : World) (P X Y : Nat) (gf : List FT) (gs : List SY) (i m : Nat) : Prop := ∃ (s : ES) (bs : Nat → List BX) (Fx Fy : Nat → Prop) (A : Nat → Option Addr) (c : Nat → Nat) (sent gt : Int) (many : Nat), TC w0 wx P X Y s s bs Fx Fy A c ∧ CI gf (gs.map SY.t) s sent gt many i ∧ MI (fun k => (bs k).map BX.x) s ∧ ∀ k, k < 2 → (bs k).length ≤ m
/-- The first rounds: the strays go into the boxes. -/
def TR0 (w0 wx : World) (P X Y : Nat) (s : ES) (B : Option Addr) (gs : List SY) (q : Nat) : Prop := ∃ bs Fx Fy A c, TC w0 wx P X Y s s bs Fx Fy A c ∧ (∀ k, k < 2 → (bs k).map BX.x = stD ((gs.take q).map SY.t) (k : Nat) ∧ (bs k).length ≤ q) ∧ Rd wx B (gs.length * 3) (gs.flatMap SY.cells) ∧ ∀ a, B = some a → ¬ BG P A a.block ∧ a.block < wx.heap.size
theorem true_end {w wr w14 : World} {P X Y : Nat} {sx sy : ES} {bs : Nat → List BX} {Fx Fy : Nat → Prop} {Aa : Nat → Option Addr} {Cc : Nat → Nat} (hTC : TC w wr P X Y sx sy bs Fx Fy Aa Cc) {kk a : Nat} (hk : kk < 2) (ha : a < (bs kk).length) {A5 : Option Addr} {d5 m : Nat} {xs : List Value}
    (hm : m = (bs kk).length - 1) (hown : w14.ownsRow wr.heap.size 32 1 (.slice A5 m d5) m xs) (hxs : xs = ((bs kk).map BX.v).take a ++ ((bs kk).map BX.v).drop (a + 1)) (hb : Below wr.heap.size wr w14) :
    ∃ A' c', TC w (w14.setCell ⟨P, kk, none⟩ (.slice A5 m d5)) P X Y sx sy (upd bs kk ((bs kk).take a ++ (bs kk).drop (a + 1))) Fx Fy A' c' := by
  have hle : ((bs kk).take a ++ (bs kk).drop (a + 1)).length = m := by rw [List.length_append, List.length_take, List.length_drop]; omega
  have hc : Chg (fun _ => False) wr w14 := Chg.of_below hb
  obtain ⟨z1, _, _⟩ := hTC.put (T := fun _ => False) (w' := w14) (k := kk) (A1 := A5) (c1 := d5) (l := (bs kk).take a ++ (bs kk).drop (a + 1)) hk hc (fun _ e => e.elim) (by
    rw [hle, List.map_append, List.map_take, List.map_drop, ← hxs]; exact own_mono hown hTC.lx.2.2) (fun x hx => .inr (own_lt hown x hx).1) (fun b hb' => (hTC.bw.x kk hk b (by
      rcases List.mem_append.1 hb' with h | h
      · exact List.mem_of_mem_take h
      · exact List.mem_of_mem_drop h)).chg hc fun _ e => e.elim)
  rw [hle] at z1
  exact ⟨_, _, z1⟩
theorem MI.gotU {bs : Nat → List BX} {s : ES} (h : MI (fun k => (bs k).map BX.x) s) {d : Nat} (hd : d < 2) {x : List UInt8} {r : List (List UInt8)} (hb : s.box (d : Int) = x :: r) {a : Nat} (ha : a < (bs d).length) (hx : (bs d)[a].x = x) :
    MI (fun k => (upd bs d ((bs d).take a ++ (bs d).drop (a + 1)) k).map BX.x) (s.got (d : Int)) := fun k hk y => by
  have := (h.got hd hb (a := a) (by simpa using ha) (by simpa using hx)) k hk y
  have e : upd (fun k => (bs k).map BX.x) d (((bs d).map BX.x).take a ++ ((bs d).map BX.x).drop (a + 1)) k = (upd bs d ((bs d).take a ++ (bs d).drop (a + 1)) k).map BX.x := by
    by_cases e : k = d
    · subst e; rw [upd_self, upd_self, List.map_append, List.map_take, List.map_drop]
    · rw [upd_ne _ _ e, upd_ne _ _ e]
  show _ ≤ List.count y ((upd bs d ((bs d).take a ++ (bs d).drop (a + 1)) k).map BX.x)
  rw [← e]
  exact this
/-- The first append of the last region: onto a row that is made now. -/
theorem step_row1 {ops : Array Oper} {o : Oper} {a : Act} {wr : World} {K : Act → World → Prop} {Q : Exit → Act → World → Prop} {E : Prop} {qb qo qn qc m : Nat} {l : List BX} {p : Addr} {v : Value} (s x : Operand) (hgd : o.guard = none) (ho : o.op = .call { callee := .builtin .append, args := #[s, x], argTypes := #[29, 29] })
    (hs : a.eval s = .slice (some ⟨wr.heap.size, 0, none⟩) 0 0) (hx : a.eval x = .slice (some ⟨qb, qo, none⟩) m qc) (hr : Rd wr (some ⟨qb, qo, none⟩) qn (l.map BX.v)) (hm : m ≤ qn) (hq : qn ≤ 200) (hc : wr.cell? p = some v)
    (h : ∀ A4 d4 w13, Hid (w13.ownsRow wr.heap.size 32 1 (.slice A4 m d4) m ((l.map BX.v).take m) ∧ Below wr.heap.size wr w13) → w13.cell? p = some v → K (a.put o.dst (.slice A4 m d4)) w13) :
    if Region.wanted o (yielded ops a.tmps) = true then Oper.wp Try.prog o a ((wr.alloc (.cells #[] 32)).drew) K Q else E := by
  obtain ⟨i0, hi0, hz0, hz1, hz2⟩ := info_parts ss_info
  have hal := ((Below.refl wr.heap.size wr).alloc (Nat.le_refl _) (.cells #[] 32)).drew
  refine step_append_rd hgd s x _ ho wr.heap.size 32 i0 _ 1 24 Try.underlying29 hi0 hz0 hz1 hz2 rfl (by omega) _ 0 [] hs (own_new0 wr _ _ (Nat.le_refl _)) (some ⟨qb, qo, none⟩) m qc ((l.map BX.v).take m) hx (((hr.take_ hm).below hal).mul1) (fun u hu => bxs_one l u (List.mem_of_mem_take hu)) (by simp only [maxLen]; omega) (by omega) hal.size ?_
  intro v1 w13 hown1 hg1 hat1
  have hbA : Below wr.heap.size wr w13 := hal.grown hg1 hal.size (fun q hq => ((own_new0 wr 32 _ (Nat.le_refl _)).lt q hq).1)
  rw [Nat.zero_add, List.nil_append] at hown1
  obtain ⟨A4, d4, rfl⟩ := own_sl hown1
  exact h A4 d4 w13 (Lib.hid ⟨hown1, hbA⟩) (cell_below hbA hc)
/-- The second one. -/
theorem step_row2 {ops : Array Oper} {o : Oper} {a : Act} {wr w13 : World} {K : Act → World → Prop} {Q : Exit → Act → World → Prop} {E : Prop} {n m c d4 : Nat} {A4 Ax : Option Addr} {ys : List Value} {l : List BX} {p : Addr} {v : Value} (s x : Operand) (hgd : o.guard = none) (ho : o.op = .call { callee := .builtin .append, args := #[s, x], argTypes := #[29, 29] })
    (hs : a.eval s = .slice A4 m d4) (hx : a.eval x = .slice Ax n c) (h13 : Hid (w13.ownsRow wr.heap.size 32 1 (.slice A4 m d4) m ys ∧ Below wr.heap.size wr w13)) {k : Nat} (hr : Rd wr Ax n ((l.map BX.v).drop k)) (hq : m + n ≤ 400) (hc : wr.cell? p = some v) (hf : wr.frozen? p = false)
    (h : ∀ A5 d5 w14, Hid (w14.ownsRow wr.heap.size 32 1 (.slice A5 (m + n) d5) (m + n) (ys ++ (l.map BX.v).drop k) ∧ Below wr.heap.size wr w14) → w14.cell? p = some v → w14.frozen? p = false → K (a.put o.dst (.slice A5 (m + n) d5)) w14) :
    if Region.wanted o (yielded ops a.tmps) = true then Oper.wp Try.prog o a w13 K Q else E := by
  obtain ⟨i0, hi0, hz0, hz1, hz2⟩ := info_parts ss_info
  refine step_append_rd hgd s x _ ho wr.heap.size 32 i0 _ 1 24 Try.underlying29 hi0 hz0 hz1 hz2 rfl (by omega) _ m ys hs h13.out.1 Ax n c ((l.map BX.v).drop k) hx ((hr.below h13.out.2).mul1) (fun u hu => bxs_one l u (List.mem_of_mem_drop hu)) (by simp only [maxLen]; omega) (by omega) h13.out.2.size ?_
  intro v2 w14 hown2 hg2 hat2
  have hbB : Below wr.heap.size wr w14 := h13.out.2.grown hg2 h13.out.2.size (fun q hq => (h13.out.1.lt q hq).1)
  obtain ⟨A5, d5, rfl⟩ := own_sl hown2
  exact h A5 d5 w14 (Lib.hid ⟨hown2, hbB⟩) (cell_below hbB hc) (below_frozen hbB hc hf)
/-- A stray has gone into its box. -/
theorem first_end {w wr w4 : World} {P X Y : Nat} {s : ES} {B : Option Addr} {gs : List SY} {q k rn d4 : Nat} {bs : Nat → List BX} {Fx Fy : Nat → Prop} {Aa : Nat → Option Addr} {Cc : Nat → Nat} {A4 yA : Option Addr} {ya yd : Int} {yn yc : Nat} {yx : List UInt8}
    (hTC : TC w wr P X Y s s bs Fx Fy Aa Cc) (hm : ∀ k, k < 2 → (bs k).map BX.x = stD ((gs.take q).map SY.t) (k : Nat) ∧ (bs k).length ≤ q) (hR : Rd wr B (gs.length * 3) (gs.flatMap SY.cells)) (hBG : ∀ a, B = some a → ¬ BG P Aa a.block ∧ a.block < wr.heap.size)
    (hbok : BOK w w ⟨yA, yn, yc, yx⟩) (hyd : yd = (k : Int)) (hql : q < gs.length) (hx : gs[q] = ⟨ya, yd, yA, yn, yc, yx⟩) (hk2 : k < 2) (hrn : (bs k).length = rn)
    (hown : w4.ownsRow w.heap.size 32 1 (.slice A4 (rn + 1) d4) (rn + 1) ((bs k).map BX.v ++ [.slice yA yn yc])) (hch : Chg (fun j => j ∈ blk (Aa k)) wr w4) (hat : ∀ a, A4 = some a → a.block ∈ blk (Aa k) ∨ wr.heap.size ≤ a.block) :
    TR0 w (w4.setCell ⟨P, k, none⟩ (.slice A4 (rn + 1) d4)) P X Y s B gs (q + 1) := by
  have hle : (bs k ++ [(⟨yA, yn, yc, yx⟩ : BX)]).length = rn + 1 := by rw [List.length_append, hrn]; rfl
  obtain ⟨z1, z2, z3⟩ := hTC.put (w' := w4) (k := k) (A1 := A4) (c1 := d4) (l := bs k ++ [(⟨yA, yn, yc, yx⟩ : BX)]) hk2 hch (fun _ e => e) (by rw [hle, List.map_append]; exact hown) hat (fun b hb => by
    rcases List.mem_append.1 hb with hb | hb
    · exact (hTC.bw.x k hk2 b hb).chg hch fun i hi => by
        obtain ⟨x, hx, e⟩ := mem_blk.1 hi
        rw [← e]; exact (hTC.bw.rowTy hk2 hx).2
    · rw [List.mem_singleton.1 hb]
      refine ⟨?_, hbok.2⟩
      exact hch.rd0 (hbok.1.below hTC.b) fun a ha h0 hi => by
        obtain ⟨x, hx, e⟩ := mem_blk.1 hi
        have := (hTC.bw.rowTy hk2 hx).2
        have := hbok.2.2 h0 a ha
        omega)
  rw [hle] at z1 z2
  refine ⟨_, _, _, _, _, z1, fun i hi => ?_, z2.rd hR fun a ha => (hBG a ha).1, fun a ha => ⟨fun hg => ?_, by have := (hBG a ha).2; have := z2.size; omega⟩⟩
  · rw [take_map_succ SY.t hql, stD_snoc, hx]
    by_cases e : i = k
    · subst e
      rw [upd_self, List.map_append, (hm i hi).1]
      refine ⟨?_, by rw [hle]; have := (hm i hi).2; omega⟩
      congr 1
      show [yx] = if yd = (i : Int) then [yx] else []
      rw [if_pos hyd]
    · rw [upd_ne _ _ e, (hm i hi).1]
      refine ⟨?_, by have := (hm i hi).2; omega⟩
      show _ = _ ++ if yd = (i : Int) then [yx] else []
      rw [if_neg (by rw [hyd]; omega), List.append_nil]
  · rcases z3 _ hg with e | e
    · exact (hBG a ha).1 e
    · have := (hBG a ha).2; omega
/-- What is sent has gone into its box, twice. -/
theorem send_end {w w8 w9 : World} {P X Y : Nat} {sx sy : ES} {k rn d4 : Nat} {bs : Nat → List BX} {Fx Fy : Nat → Prop} {Aa : Nat → Option Addr} {Cc : Nat → Nat} {A4 aA : Option Addr} {an ac : Nat} {ax : List UInt8}
    (hTC : TC w w8 P X Y sx sy bs Fx Fy Aa Cc) (hbok : BOK w w8 ⟨aA, an, ac, ax⟩) (hk2 : k < 2) (hrn : (bs k).length = rn)
    (hown : w9.ownsRow w.heap.size 32 1 (.slice A4 (rn + 2) d4) (rn + 2) ((bs k).map BX.v ++ [.slice aA an ac, .slice aA an ac])) (hch : Chg (fun j => j ∈ blk (Aa k)) w8 w9) (hat : ∀ a, A4 = some a → a.block ∈ blk (Aa k) ∨ w8.heap.size ≤ a.block) :
    ∃ A' c', TC w (w9.setCell ⟨P, k, none⟩ (.slice A4 (rn + 2) d4)) P X Y sx sy (upd bs k (bs k ++ [⟨aA, an, ac, ax⟩, ⟨aA, an, ac, ax⟩])) Fx Fy A' c' := by
  have hle : (bs k ++ [(⟨aA, an, ac, ax⟩ : BX), ⟨aA, an, ac, ax⟩]).length = rn + 2 := by rw [List.length_append, hrn]; rfl
  have hS : ∀ i, i ∈ blk (Aa k) → w.heap.size ≤ i := fun i hi => by
    obtain ⟨x, hx, e⟩ := mem_blk.1 hi
    rw [← e]; exact (hTC.bw.rowTy hk2 hx).2
  obtain ⟨z1, _, _⟩ := hTC.put (w' := w9) (k := k) (A1 := A4) (c1 := d4) (l := bs k ++ [(⟨aA, an, ac, ax⟩ : BX), ⟨aA, an, ac, ax⟩]) hk2 hch (fun _ e => e) (by rw [hle, List.map_append]; exact hown) hat (fun b hb => by
    rcases List.mem_append.1 hb with hb | hb
    · exact (hTC.bw.x k hk2 b hb).chg hch hS
    · simp only [List.mem_cons, List.not_mem_nil, or_false] at hb
      rcases hb with rfl | rfl <;> exact hbok.chg hch hS)
  rw [hle] at z1
  exact ⟨_, _, z1⟩
theorem MI.sendU {bs : Nat → List BX} {s : ES} (h : MI (fun k => (bs k).map BX.x) s) {k : Nat} (hk : k < 2) (b : BX) : MI (fun i => (upd bs k (bs k ++ [b, b]) i).map BX.x) (s.send (k : Int) b.x) := fun i hi x => by
  have h2 := (h.send hk b.x) i hi x
  have e : upd (fun k => (bs k).map BX.x) k ((bs k).map BX.x ++ [b.x, b.x]) i = (upd bs k (bs k ++ [b, b]) i).map BX.x := by
    by_cases e : i = k
    · subst e; rw [upd_self, upd_self, List.map_append]; rfl
    · rw [upd_ne _ _ e, upd_ne _ _ e]
  show _ ≤ List.count x ((upd bs k (bs k ++ [b, b]) i).map BX.x)
  rw [← e]; exact h2
end Go.Proofs.Ytknpghemogfenaa
