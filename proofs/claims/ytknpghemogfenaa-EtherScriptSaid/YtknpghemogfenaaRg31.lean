/- Chapter 31: the document's ether: a datagram flies; one comes. -/
import Derived.Test.YtknpghemogfenaaRm31
namespace Go.Proofs.Ytknpghemogfenaa
open Go.Conc Go.RowKit
set_option linter.unusedVariables false
theorem gram_info : (Try.prog.info? 92).map (fun i => (i.zero, i.size, i.bytes)) = some (some (.agg #[.int .i64 0, .int .i64 0, .int .i64 0, .slice none 0 0]), 4, 48) := by kernel_rfl
theorem gx_one (g : GX) : ∀ u ∈ g.cells, u.oneCell' = true := fun u hu => by
  simp only [GX.cells, List.mem_cons, List.not_mem_nil, or_false] at hu
  rcases hu with rfl | rfl | rfl | rfl <;> rfl
theorem gxs_append (a b : List GX) : gxs (a ++ b) = gxs a ++ gxs b := by simp [gxs]
theorem gxs_one (g : GX) : gxs [g] = g.cells := List.append_nil _
/-- The copy of what is handed in, as a step of a drawn region. -/
theorem step_px {ops : Array Oper} {o : Oper} {a : Act} {wr wa : World} {K : Act → World → Prop} {Q : Exit → Act → World → Prop} {E : Prop} {base n c : Nat} {A : Option Addr} {x : List UInt8} (s y : Operand) (hgd : o.guard = none) (ho : o.op = .call { callee := .builtin .append, args := #[s, y], argTypes := #[32, 32] })
    (hs : a.eval s = .slice (some ⟨wr.heap.size, 0, none⟩) 0 0) (hx : a.eval y = .slice A n c) (hal : Below wr.heap.size wr wa) (hbk : Bk wa wr.heap.size 5 []) (hr : Rd wr A n (bys x)) (hn : n ≤ 70000) (hb : base ≤ wr.heap.size)
    (h : ∀ A1 c1 w1, Hid (PX w1 base A1 n c1 x ∧ Below wr.heap.size wr w1 ∧ ∀ a, A1 = some a → wr.heap.size ≤ a.block ∧ a.block < w1.heap.size) → K (a.put o.dst (.slice A1 n c1)) w1) :
    if Region.wanted o (yielded ops a.tmps) = true then Oper.wp Try.prog o a wa K Q else E := by
  obtain ⟨i0, hi0, hz0, hz1, hz2⟩ := info_parts u8_info
  have hown0 : wa.ownsRow wr.heap.size 5 1 (.slice (some ⟨wr.heap.size, 0, none⟩) 0 0) 0 [] := own_mkN hbk (Nat.le_refl _) (Nat.le_refl _) (by decide) rfl rfl
  refine step_append_rd hgd s y _ ho wr.heap.size 5 i0 _ 1 1 Try.underlying32 hi0 hz0 hz1 hz2 rfl (by omega) _ 0 [] hs hown0 A n c (bys x) hx ((hr.below hal).mul1) (bys_one x) (by simp only [maxLen]; omega) (by omega) hal.size ?_
  intro v1 w1 hown1 hg1 hat1
  have hbA : Below wr.heap.size wr w1 := hal.grown hg1 hal.size (fun q hq => (hown0.lt q hq).1)
  rw [Nat.zero_add, List.nil_append] at hown1
  obtain ⟨A1, c1, rfl⟩ := own_sl hown1
  exact h A1 c1 w1 (Lib.hid ⟨⟨own_mono hown1 hb, hn⟩, hbA, own_lt hown1⟩)
/-- The row of what is under way, longer by one. -/
theorem step_gram {ops : Array Oper} {o : Oper} {a : Act} {wr wa : World} {K : Act → World → Prop} {Q : Exit → Act → World → Prop} {E : Prop} {base n c : Nat} {A : Option Addr} {l : List GX} {g : GX} {p p' : Addr} {v v' : Value} (s y : Operand) (hgd : o.guard = none) (ho : o.op = .call { callee := .builtin .append, args := #[s, y], argTypes := #[79, 79] })
    (hs : a.eval s = .slice A n c) (hx : a.eval y = .slice (some ⟨wr.heap.size, 0, none⟩) 1 1) (hal : Below wr.heap.size wr wa) (hbk : Bk wa wr.heap.size 92 g.cells) (hr : wr.ownsRow base 92 4 (.slice A n c) n (gxs l)) (hn : n ≤ 1000000) (hb : base ≤ wr.heap.size)
    (hc : wr.cell? p = some v) (hf : wr.frozen? p = false) (hp : ¬ p.block ∈ blk A) (hc' : wr.cell? p' = some v') (hf' : wr.frozen? p' = false) (hp' : ¬ p'.block ∈ blk A)
    (h : ∀ A1 c1 w1, Hid (w1.ownsRow base 92 4 (.slice A1 (n + 1) c1) (n + 1) (gxs (l ++ [g])) ∧ Chg (fun k => k ∈ blk A) wr w1 ∧ ∀ a, A1 = some a → a.block ∈ blk A ∨ wr.heap.size ≤ a.block) → w1.cell? p = some v → w1.frozen? p = false → w1.cell? p' = some v' → w1.frozen? p' = false → K (a.put o.dst (.slice A1 (n + 1) c1)) w1) :
    if Region.wanted o (yielded ops a.tmps) = true then Oper.wp Try.prog o a wa K Q else E := by
  obtain ⟨i0, hi0, hz0, hz1, hz2⟩ := info_parts gram_info
  have hrd : Rd wa (some ⟨wr.heap.size, 0, none⟩) (1 * 4) g.cells := Rd.of_bk hbk (Nat.le_refl _) (by rw [List.drop_zero]; exact List.take_of_length_le (Nat.le_refl _))
  refine step_append_rd hgd s y _ ho base 92 i0 _ 4 48 Try.underlying79 hi0 hz0 hz1 hz2 rfl (by omega) _ n (gxs l) hs (own_below hr hal) _ 1 1 g.cells hx hrd (gx_one g) (by simp only [maxLen]; omega) (by omega) (Nat.le_trans hb hal.size) ?_
  intro v1 w1 hown1 hg1 hat1
  rw [← gxs_one g, ← gxs_append] at hown1
  obtain ⟨A1, c1, rfl⟩ := own_sl hown1
  have hch : Chg (fun k => k ∈ blk A) wr w1 := (Chg.of_below hal).trans (Chg.of_grown (S := fun k => k ∈ blk A) hg1 fun k hk => by
    cases A with
    | none => cases hk
    | some q => injection hk with hk; subst hk; exact mem_blk.2 ⟨q, rfl, rfl⟩) fun _ _ e => e
  have hlt := World.block_lt_of_cell? _ _ hc
  have hlt' := World.block_lt_of_cell? _ _ hc'
  refine h A1 c1 w1 (Lib.hid ⟨hown1, hch, fun q hq => ?_⟩) (hch.cell' hc hp) ?_ (hch.cell' hc' hp') ?_
  · subst hq
    rcases hat1 with e | e
    · cases A with
      | none => cases e
      | some q' => injection e with e; exact .inl (mem_blk.2 ⟨q', rfl, e.symm⟩)
    · injection e with e; right; have := hal.size; omega
  · rw [World.frozen?_of_block (hch.2 p.block hlt hp)]; exact hf
  · rw [World.frozen?_of_block (hch.2 p'.block hlt' hp')]; exact hf'
theorem rfly_end {w w1 w4 : World} {base E N n c1 c6 : Nat} {s : ES} {F : Nat → Prop} {m : RMem} {A1 A4 : Option Addr} {x : List UInt8} {d wait t : Int} {g : GX} (hm : Rm w base E m F) (ha : AbR m s) (hs : m.sent ≤ N) (hb1 : Below w.heap.size w w1) (hpx : PX w1 base A1 n c1 x) (hA1 : ∀ a, A1 = some a → w.heap.size ≤ a.block ∧ a.block < w1.heap.size)
    (h4 : w4.ownsRow base 92 4 (.slice A4 (m.l.length + 1) c6) (m.l.length + 1) (gxs (m.l ++ [g]))) (hc4 : Chg (fun k => k ∈ blk m.LA) w1 w4) (hat4 : ∀ a, A4 = some a → a.block ∈ blk m.LA ∨ w1.heap.size ≤ a.block) (hg : g = ⟨d, t, m.numbered, A1, n, c1, x⟩) (ht : t = s.now + 1 + wait) :
    RTo base E (s.fly d wait x) N F w ((w4.setCell ⟨E, 5, none⟩ (.slice A4 (m.l.length + 1) c6)).setCell ⟨E, 4, none⟩ (.int .i64 (m.numbered + 1))) := by
  have hz1 := hb1.size
  have hc : Chg (fun k => k ∈ blk m.LA) w w4 := (Chg.of_below hb1).trans hc4 fun _ _ e => e
  have hLlt : ∀ k, k ∈ blk m.LA → Ty w k 92 ∧ F k := fun k hk => by
    obtain ⟨a, haa, e⟩ := mem_blk.1 hk
    subst e
    exact ⟨(own_ty hm.l.ow (own_b1 haa)).1, hm.l.FL a haa⟩
  have hl : RL w4 base A4 c6 (m.l ++ [g]) (Grow F w w4) := by
    refine ⟨by rw [List.length_append]; exact h4, fun g' hg' => ?_, fun a haa => ?_⟩
    · rcases List.mem_append.1 hg' with hg' | hg'
      · exact ((hm.l.x g' hg').chg hc fun k _ ht hk => (hLlt k hk).1.ne ht (by decide) rfl).mono Grow.le
      · rw [List.mem_singleton.1 hg', hg]
        refine ⟨hpx.chg hc4 fun a haa hk => ?_, fun a haa => .inr ⟨(hA1 a haa).1, ?_⟩⟩
        · have := (hm.fb _ (hLlt _ hk).2).2; have := (hA1 a haa).1; omega
        · have := (hA1 a haa).2; have := hc4.size; show a.block < w4.heap.size; omega
    · rcases hat4 a haa with e | e
      · exact .inl (hLlt _ e).2
      · exact .inr ⟨by omega, (own_lt h4 a haa).2⟩
  obtain ⟨z1, z2⟩ := hm.putL hc (fun k hk _ => hk) hl
  rw [List.length_append] at z1 z2
  obtain ⟨y1, y2⟩ := z1.atE (m' := { m with LA := A4, lc := c6, l := m.l ++ [g], numbered := m.numbered + 1 }) 4 (.int .i64 (m.numbered + 1)) rfl ⟨rfl, rfl, rfl, rfl, rfl, rfl⟩ ⟨rfl, rfl, rfl⟩ ⟨rfl, rfl, rfl⟩
  refine ⟨_, ⟨_, y1, ⟨ha.fates, ha.strays, ha.now, ?_, ha.lost, ?_, ha.b0, ha.b1⟩, hs⟩, fun k hk => hk.imp id And.left, z2.trans y2 fun k hk hf => ?_⟩
  · show s.number + 1 = m.numbered + 1; rw [ha.number]
  · show s.sky ++ [_] = (m.l ++ [g]).map GX.g
    rw [List.map_append, ha.sky, hg, ht, ha.number]; rfl
  · rcases hf with e | e
    · exact e
    · omega
set_option maxRecDepth 100000 in
set_option maxHeartbeats 3200000 in
theorem rflies_any {w : World} {base E N n c : Nat} {s : ES} {F : Nat → Prop} {A : Option Addr} {x : List UInt8} (h : Rw w base E s N F) (hr : Rd w A n (bys x)) (hn : n ≤ 70000) {d wait t : Int} (hat : t = s.now + 1 + wait) (hnb : 0 ≤ s.number ∧ s.number ≤ 1000000) (hl : s.sky.length ≤ 900000) :
    Calls Try.prog 50 #[.pointer (some ⟨E, 0, none⟩), .int .i64 d, .int .i64 t, .slice A n c] w fun e w' => e = .returned (.tuple #[]) ∧ RTo base E (s.fly d wait x) N F w w' := by
  obtain ⟨m, hm, ha, hsN⟩ := h
  obtain ⟨nb, hnb'⟩ : ∃ nb, m.numbered = nb := ⟨_, rfl⟩
  obtain ⟨nl, hnl⟩ : ∃ nl, m.l.length = nl := ⟨_, rfl⟩
  obtain ⟨LA, hLA⟩ : ∃ A, m.LA = A := ⟨_, rfl⟩
  obtain ⟨lc, hlc⟩ : ∃ c, m.lc = c := ⟨_, rfl⟩
  have c4 : w.cell? ⟨E, 4, none⟩ = some (.int .i64 nb) := by rw [← hnb']; exact hm.e.cell 4
  have c5 : w.cell? ⟨E, 5, none⟩ = some (.slice LA nl lc) := by rw [← hLA, ← hnl, ← hlc]; exact hm.e.cell 5
  have hnl1 : nl ≤ 900000 := by rw [← hnl]; have := hl; rw [ha.sky, List.length_map] at this; exact this
  rw [ha.number, hnb'] at hnb
  obtain ⟨hb1, hb2⟩ := hnb
  have eN : IntKind.i64.wrap (nb + 1) = nb + 1 := by rw [IntKind.wrap_i64]; omega
  have hEs : E ≠ w.heap.size := Nat.ne_of_lt hm.e.lt
  have hsE : w.heap.size ≠ E := Ne.symm hEs
  have hEL : ¬ E ∈ blk LA := fun e => by
    obtain ⟨q, hq, e⟩ := mem_blk.1 e
    rw [← hLA] at hq
    exact (own_ty hm.l.ow (own_b1 hq)).1.ne hm.ty (by decide) e
  have H := Lib.hid (And.intro hm (And.intro ha (And.intro hr (And.intro hEL (And.intro hn (And.intro hsN (And.intro hat (And.intro hnb' (And.intro hnl (And.intro hLA (And.intro hlc hnl1)))))))))))
  have HE := Lib.hid hm.e
  clear hm ha hr hEL hn hat hnb' hnl hLA hlc hl hsN
  go_enter Try.func50, Try.ntmps50
  go_wp2_with fail
  have a5 : (w.alloc (.cells #[] 5)).cell? ⟨E, 5, none⟩ = some (.slice LA nl lc) := cell_below ((Below.refl _ _).alloc (Nat.le_refl _) _) c5
  have a4 : (w.alloc (.cells #[] 5)).cell? ⟨E, 4, none⟩ = some (.int .i64 nb) := cell_below ((Below.refl _ _).alloc (Nat.le_refl _) _) c4
  go_region_law (first
      | (refine step_px (wr := w) (base := base) (x := x) (.tmp 19) (.tmp 20) (by rfl) (by rfl) (by rfl) (by rfl) (((Below.refl _ _).alloc (Nat.le_refl _) _).drew) ((Bk.newA w 5 #[]).drew) H.out.2.2.1 H.out.2.2.2.2.1 H.out.1.bs ?_; intro A1 c1 w1 H1; have R5 := cell_below H1.out.2.1 c5; have R4 := cell_below H1.out.2.1 c4; have B5 : (w1.alloc (.cells #[.int .i64 d, .int .i64 t, .int .i64 nb, .slice A1 n c1] 92)).cell? ⟨E, 5, none⟩ = some (.slice LA nl lc) := cell_below ((Below.refl _ _).alloc (Nat.le_refl _) _) R5)
      | (refine step_gram (wr := w1) (base := base) (l := m.l) (g := ⟨d, t, nb, A1, n, c1, x⟩) (p := ⟨E, 5, none⟩) (p' := ⟨E, 4, none⟩) (.tmp 12) (.tmp 23) (by rfl) (by rfl) (by rfl) (by rfl) ((Below.refl _ _).alloc (Nat.le_refl _) _) (Bk.newA w1 92 #[.int .i64 d, .int .i64 t, .int .i64 nb, .slice A1 n c1]) (own_below (by have := H.out.1.l.ow; rw [H.out.2.2.2.2.2.2.2.2.1, H.out.2.2.2.2.2.2.2.2.2.1, H.out.2.2.2.2.2.2.2.2.2.2.1] at this; exact this) H1.out.2.1) (by have := H.out.2.2.2.2.2.2.2.2.2.2.2; omega) (Nat.le_trans H.out.1.bs H1.out.2.1.size) R5 ((HE.out.belowS H1.out.2.1).frozen 5) H.out.2.2.2.1 R4 ((HE.out.belowS H1.out.2.1).frozen 4) H.out.2.2.2.1 ?_; intro A4 c6 w4 H4 S5 S5f S4 S4f))
  all_goals go_wp2_with fail
  all_goals go_end0
  all_goals refine ⟨rfl, ?_⟩
  all_goals
    have e1 := H.out.2.2.2.2.2.2.2.2.1
    have e2 := H.out.2.2.2.2.2.2.2.2.2.1
    have e3 := H.out.2.2.2.2.2.2.2.1
    subst e1 e2 e3
    exact rfly_end H.out.1 H.out.2.1 H.out.2.2.2.2.2.1 H1.out.2.1 H1.out.1 H1.out.2.2 H4.out.1 H4.out.2.1 H4.out.2.2 rfl H.out.2.2.2.2.2.2.1
end Go.Proofs.Ytknpghemogfenaa
