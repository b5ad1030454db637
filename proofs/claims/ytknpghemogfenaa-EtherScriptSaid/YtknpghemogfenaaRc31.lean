/- Chapter 31: the document's ether: one comes to an end; Waiting; Get. -/
import Derived.Test.YtknpghemogfenaaRg31
namespace Go.Proofs.Ytknpghemogfenaa
open Go.Conc Go.RowKit
set_option linter.unusedVariables false
/-- A box, longer by one. -/
theorem step_box {ops : Array Oper} {o : Oper} {a : Act} {wr wa : World} {K : Act → World → Prop} {Q : Exit → Act → World → Prop} {E : Prop} {base n c : Nat} {A : Option Addr} {vs : List Value} {u : Value} {p : Addr} {v : Value} (s y : Operand) (hgd : o.guard = none) (ho : o.op = .call { callee := .builtin .append, args := #[s, y], argTypes := #[29, 29] })
    (hs : a.eval s = .slice A n c) (hx : a.eval y = .slice (some ⟨wr.heap.size, 0, none⟩) 1 1) (hal : Below wr.heap.size wr wa) (hbk : Bk wa wr.heap.size 32 [u]) (h1 : u.oneCell' = true) (hr : QRow wr base (.slice A n c) n vs) (hn : n ≤ 100000) (hb : base ≤ wr.heap.size)
    (hc : wr.cell? p = some v) (hf : wr.frozen? p = false) (hp : ¬ p.block ∈ blk A)
    (h : ∀ A1 c1 w1, Hid (QRow w1 base (.slice A1 (n + 1) c1) (n + 1) (vs ++ [u]) ∧ Chg (fun k => k ∈ blk A) wr w1 ∧ ∀ a, A1 = some a → a.block ∈ blk A ∨ wr.heap.size ≤ a.block) → w1.cell? p = some v → w1.frozen? p = false → K (a.put o.dst (.slice A1 (n + 1) c1)) w1) :
    if Region.wanted o (yielded ops a.tmps) = true then Oper.wp Try.prog o a wa K Q else E := by
  obtain ⟨i0, hi0, hz0, hz1, hz2⟩ := info_parts ss_info
  have hqa : QRow wa base (.slice A n c) n vs := hr.chg (Chg.of_below (S := fun _ => False) hal) fun _ _ e => e
  refine step_append_q hgd s y _ ho i0 _ Try.underlying29 hi0 hz0 hz1 hz2 rfl hs hqa ⟨wr.heap.size, 0, none⟩ 1 u hx (by rw [hbk.cell]; rfl) h1 hn (Nat.le_trans hb hal.size) ?_
  intro v1 w1 hown1 hg1 hat1
  obtain ⟨A1, c1, rfl, _⟩ := hown1.slice
  have hch : Chg (fun k => k ∈ blk A) wr w1 := (Chg.of_below hal).trans (Chg.of_grown (S := fun k => k ∈ blk A) hg1 fun k hk => by
    cases A with
    | none => cases hk
    | some q => injection hk with hk; subst hk; exact mem_blk.2 ⟨q, rfl, rfl⟩) fun _ _ e => e
  have hlt := World.block_lt_of_cell? _ _ hc
  refine h A1 c1 w1 (Lib.hid ⟨hown1, hch, fun q hq => ?_⟩) (hch.cell' hc hp) ?_
  · subst hq
    rcases hat1 with e | e
    · cases A with
      | none => cases e
      | some q' => injection e with e; exact .inl (mem_blk.2 ⟨q', rfl, e.symm⟩)
    · injection e with e; right; have := hal.size; omega
  · rw [World.frozen?_of_block (hch.2 p.block hlt hp)]; exact hf
theorem Rm.box {w : World} {base E : Nat} {m : RMem} {F : Nat → Prop} (h : Rm w base E m F) {k : Nat} (hk : k < 2) : w.cell? ⟨E, 6 + k, none⟩ = some (.slice (m.qA k) (m.q k).length (m.qc k)) := by
  rcases (show k = 0 ∨ k = 1 by omega) with rfl | rfl
  · exact h.e.cell 6
  · exact h.e.cell 7
theorem AbR.box {m : RMem} {s : ES} (h : AbR m s) {k : Nat} (hk : k < 2) : s.box (k : Int) = (m.q k).map BX.x := by
  rcases (show k = 0 ∨ k = 1 by omega) with rfl | rfl
  · exact h.b0
  · exact h.b1
theorem come_box (s : ES) {k : Nat} (hk : k < 2) (x : List UInt8) : s.come (k : Int) x = if (s.box (k : Int)).length < 1000 then (if k = 0 then { s with b0 := s.b0 ++ [x] } else { s with b1 := s.b1 ++ [x] }) else { s with lost := s.lost + 1 } := by
  rcases (show k = 0 ∨ k = 1 by omega) with rfl | rfl <;> rfl
/-- What a coming leaves: all but the boxes and how many were lost is as it was. -/
def RCo (base E : Nat) (m : RMem) (s' : ES) (F : Nat → Prop) (w w' : World) : Prop := ∃ (F' : Nat → Prop) (m' : RMem), Rm w' base E m' F' ∧ AbR m' s' ∧ (m'.sent = m.sent ∧ m'.fates = m.fates ∧ m'.now = m.now) ∧ (m'.SA = m.SA ∧ m'.sc = m.sc ∧ m'.strays = m.strays) ∧ (m'.LA = m.LA ∧ m'.lc = m.lc ∧ m'.l = m.l) ∧ (∀ k, F' k → F k ∨ w.heap.size ≤ k) ∧ Chg F w w'
theorem rcome_end {w w1 w4 : World} {base E n c1 c6 k : Nat} {s : ES} {F : Nat → Prop} {m : RMem} {A1 A4 : Option Addr} {x : List UInt8} (hm : Rm w base E m F) (ha : AbR m s) (hk : k < 2) (hq : (m.q k).length < 1000) (hb1 : Below w.heap.size w w1) (hpx : PX w1 base A1 n c1 x) (hA1 : ∀ a, A1 = some a → w.heap.size ≤ a.block ∧ a.block < w1.heap.size)
    (h4 : QRow w4 base (.slice A4 ((m.q k).length + 1) c6) ((m.q k).length + 1) ((m.q k).map BX.v ++ [.slice A1 n c1])) (hc4 : Chg (fun j => j ∈ blk (m.qA k)) w1 w4) (hat4 : ∀ a, A4 = some a → a.block ∈ blk (m.qA k) ∨ w1.heap.size ≤ a.block) :
    RCo base E m (s.come (k : Int) x) F w (w4.setCell ⟨E, 6 + k, none⟩ (.slice A4 ((m.q k).length + 1) c6)) := by
  have hz1 := hb1.size
  have hc : Chg (fun j => j ∈ blk (m.qA k)) w w4 := (Chg.of_below hb1).trans hc4 fun _ _ e => e
  have hLlt : ∀ j, j ∈ blk (m.qA k) → Ty w j 32 ∧ F j := fun j hj => by
    obtain ⟨a, haa, e⟩ := mem_blk.1 hj
    subst e
    exact ⟨(hm.q.rowTy hk haa).1, hm.q.FQ k hk a haa⟩
  have hle : (m.q k ++ [(⟨A1, n, c1, x⟩ : BX)]).length = (m.q k).length + 1 := by rw [List.length_append]; rfl
  obtain ⟨z1, z2⟩ := hm.putQ (l' := m.q k ++ [(⟨A1, n, c1, x⟩ : BX)]) (A' := A4) (c' := c6) hk hc (fun j hj _ => hj) (by rw [hle, List.map_append]; exact h4) (fun a haa => (hat4 a haa).imp id fun e => by omega) (fun b hb => by
    rcases List.mem_append.1 hb with hb | hb
    · exact ((hm.q.x k hk b hb).chg hc fun j _ ht hj => (hLlt j hj).1.ne ht (by decide) rfl).mono Grow.le
    · rw [List.mem_singleton.1 hb]
      refine ⟨hpx.chg hc4 fun a haa hj => ?_, fun a haa => .inr ⟨(hA1 a haa).1, ?_⟩⟩
      · have := (hm.fb _ (hLlt _ hj).2).2; have := (hA1 a haa).1; omega
      · have := (hA1 a haa).2; have := hc4.size; show a.block < w4.heap.size; omega)
  rw [hle] at z1 z2
  refine ⟨_, _, z1, ?_, ⟨rfl, rfl, rfl⟩, ⟨rfl, rfl, rfl⟩, ⟨rfl, rfl, rfl⟩, fun j hj => hj.imp id And.left, z2⟩
  rw [come_box s hk, ha.box hk, List.length_map, if_pos hq]
  rcases (show k = 0 ∨ k = 1 by omega) with rfl | rfl
  · exact ⟨ha.fates, ha.strays, ha.now, ha.number, ha.lost, ha.sky, by show s.b0 ++ [x] = (upd m.q 0 (m.q 0 ++ [(⟨A1, n, c1, x⟩ : BX)]) 0).map BX.x; rw [upd_self, List.map_append, ha.b0]; rfl, by show s.b1 = (upd m.q 0 (m.q 0 ++ [(⟨A1, n, c1, x⟩ : BX)]) 1).map BX.x; rw [upd_ne _ _ (by decide)]; exact ha.b1⟩
  · exact ⟨ha.fates, ha.strays, ha.now, ha.number, ha.lost, ha.sky, by show s.b0 = (upd m.q 1 (m.q 1 ++ [(⟨A1, n, c1, x⟩ : BX)]) 0).map BX.x; rw [upd_ne _ _ (by decide)]; exact ha.b0, by show s.b1 ++ [x] = (upd m.q 1 (m.q 1 ++ [(⟨A1, n, c1, x⟩ : BX)]) 1).map BX.x; rw [upd_self, List.map_append, ha.b1]; rfl⟩
set_option maxRecDepth 100000 in
set_option maxHeartbeats 3200000 in
theorem rcomes_any {w : World} {base E n c k o : Nat} {s : ES} {F : Nat → Prop} {m : RMem} {A : Option Addr} {x : List UInt8} (hm : Rm w base E m F) (ha : AbR m s) (hr : Rd w A n (bys x)) (hn : n ≤ 70000) (hko : (k = 0 ∧ o = 6) ∨ (k = 1 ∧ o = 7)) (hls : 0 ≤ s.lost ∧ s.lost ≤ 900000000) :
    Calls Try.prog 52 #[.pointer (some ⟨E, 0, none⟩), .int .i64 (k : Int), .slice A n c] w fun e w' => e = .returned (.tuple #[]) ∧ RCo base E m (s.come (k : Int) x) F w w' := by
  have hsN : True := trivial
  have hk2 : k < 2 := by omega
  have hoE : o = 6 + k := by omega
  obtain ⟨gn, hgn⟩ : ∃ nb, m.gone = nb := ⟨_, rfl⟩
  obtain ⟨nl, hnl⟩ : ∃ nl, (m.q k).length = nl := ⟨_, rfl⟩
  obtain ⟨LA, hLA⟩ : ∃ A, m.qA k = A := ⟨_, rfl⟩
  obtain ⟨lc, hlc⟩ : ∃ c, m.qc k = c := ⟨_, rfl⟩
  have c8 : w.cell? ⟨E, 8, none⟩ = some (.int .i64 gn) := by rw [← hgn]; exact hm.e.cell 8
  have c5 : w.cell? ⟨E, o, none⟩ = some (.slice LA nl lc) := by rw [← hLA, ← hnl, ← hlc, hoE]; exact hm.box hk2
  rw [ha.lost, hgn] at hls
  obtain ⟨hl1, hl2⟩ := hls
  have eN : IntKind.i64.wrap (gn + 1) = gn + 1 := by rw [IntKind.wrap_i64]; omega
  have hEs : E ≠ w.heap.size := Nat.ne_of_lt hm.e.lt
  have hsE : w.heap.size ≠ E := Ne.symm hEs
  have hEL : ¬ E ∈ blk LA := fun e => by
    obtain ⟨q, hq, e⟩ := mem_blk.1 e
    rw [← hLA] at hq
    exact (hm.q.rowTy hk2 hq).1.ne hm.ty (by decide) e
  have hqr : QRow w base (.slice LA nl lc) nl ((m.q k).map BX.v) := by rw [← hLA, ← hnl, ← hlc]; exact hm.q.qr k hk2
  have H := Lib.hid (And.intro hm (And.intro ha (And.intro hr (And.intro hEL (And.intro hn (And.intro hsN (And.intro hgn (And.intro hnl (And.intro hLA (And.intro hlc (And.intro hqr hsN)))))))))))
  have HE := Lib.hid hm.e
  clear hm ha hr hEL hn hgn hnl hLA hlc hsN hqr hoE
  by_cases hlt : nl < 1000
  · have d1 : decide ((nl : Int) ≥ 1000) = false := by simp; omega
    have d2 : decide ((1000 : Int) ≤ (nl : Int)) = false := by simp; omega
    have d3 : decide (1000 ≤ nl) = false := by simp; omega
    have HQ := Lib.hid hlt
    clear hlt
    have a5 : (w.alloc (.cells #[] 5)).cell? ⟨E, o, none⟩ = some (.slice LA nl lc) := cell_below ((Below.refl _ _).alloc (Nat.le_refl _) _) c5
    rcases hko with ⟨rfl, rfl⟩ | ⟨rfl, rfl⟩
    all_goals go_enter Try.func52, Try.ntmps52
    all_goals go_wp2_with fail
    all_goals go_region_law (first
      | (refine step_px (wr := w) (base := base) (x := x) (.tmp 29) (.tmp 30) (by rfl) (by rfl) (by rfl) (by rfl) (((Below.refl _ _).alloc (Nat.le_refl _) _).drew) ((Bk.newA w 5 #[]).drew) H.out.2.2.1 H.out.2.2.2.2.1 H.out.1.bs ?_; intro A1 c1 w1 H1; have R5 := cell_below H1.out.2.1 c5; have B5 := cell_below ((Below.refl w1.heap.size w1).alloc (Nat.le_refl _) (.cells #[.slice A1 n c1] 32)) R5)
      | (refine step_box (wr := w1) (base := base) (vs := _) (u := .slice A1 n c1) (p := ⟨E, _, none⟩) (.tmp 28) (.tmp 32) (by rfl) (by rfl) (by rfl) (by rfl) ((Below.refl _ _).alloc (Nat.le_refl _) _) (Bk.newA w1 32 #[.slice A1 n c1]) rfl (H.out.2.2.2.2.2.2.2.2.2.2.1.chg (Chg.of_below (S := fun _ => False) H1.out.2.1) fun _ _ e => e) (by have := HQ.out; omega) (Nat.le_trans H.out.1.bs H1.out.2.1.size) R5 ((HE.out.belowS H1.out.2.1).frozen _) H.out.2.2.2.1 ?_; intro A4 c6 w4 H4 S5 S5f))
    all_goals go_wp2_with fail
    all_goals go_end0
    all_goals refine ⟨rfl, ?_⟩
    all_goals
      have e1 := H.out.2.2.2.2.2.2.2.1
      have e2 := H.out.2.2.2.2.2.2.2.2.1
      subst e1 e2
      first
        | exact rcome_end (k := 0) H.out.1 H.out.2.1 (by decide) HQ.out H1.out.2.1 H1.out.1 H1.out.2.2 H4.out.1 H4.out.2.1 H4.out.2.2
        | exact rcome_end (k := 1) H.out.1 H.out.2.1 (by decide) HQ.out H1.out.2.1 H1.out.1 H1.out.2.2 H4.out.1 H4.out.2.1 H4.out.2.2
  · have d1 : decide ((nl : Int) ≥ 1000) = true := by simp; omega
    have d2 : decide ((1000 : Int) ≤ (nl : Int)) = true := by simp; omega
    have d3 : decide (1000 ≤ nl) = true := by simp; omega
    have f8 := HE.out.frozen 8
    have HK := Lib.hid (show s.come (k : Int) x = { s with lost := s.lost + 1 } by rw [come_box s hk2, H.out.2.1.box hk2, List.length_map, H.out.2.2.2.2.2.2.2.1, if_neg (by omega)])
    clear hlt
    rcases hko with ⟨rfl, rfl⟩ | ⟨rfl, rfl⟩
    all_goals go_enter Try.func52, Try.ntmps52
    all_goals go_wp2_with fail
    all_goals refine bodyPost_ret (results_none rfl _ _ _) rfl ?_
    all_goals refine ⟨rfl, ?_⟩
    all_goals
      rw [HK.out]
      have e1 := H.out.2.2.2.2.2.2.1
      subst e1
      obtain ⟨y1, y2⟩ := H.out.1.atE (m' := { m with gone := m.gone + 1 }) 8 (.int .i64 (m.gone + 1)) rfl ⟨rfl, rfl, rfl, rfl, rfl, rfl⟩ ⟨rfl, rfl, rfl⟩ ⟨rfl, rfl, rfl⟩
      exact ⟨F, _, y1, ⟨H.out.2.1.fates, H.out.2.1.strays, H.out.2.1.now, H.out.2.1.number, by show s.lost + 1 = m.gone + 1; rw [H.out.2.1.lost], H.out.2.1.sky, H.out.2.1.b0, H.out.2.1.b1⟩, ⟨rfl, rfl, rfl⟩, ⟨rfl, rfl, rfl⟩, ⟨rfl, rfl, rfl⟩, fun k hk => .inl hk, y2⟩
set_option maxRecDepth 100000 in
theorem rwaiting_any {w : World} {base E N : Nat} {s : ES} {F : Nat → Prop} (h : Rw w base E s N F) (d : Int) :
    Calls Try.prog 47 #[.pointer (some ⟨E, 0, none⟩), .int .i64 d] w fun e w' => e = .returned (.int .i64 (s.wait d : Nat)) ∧ w' = w := by
  obtain ⟨m, hm, ha, hsN⟩ := h
  have c6 : w.cell? ⟨E, 6, none⟩ = some (.slice (m.qA 0) (m.q 0).length (m.qc 0)) := hm.e.cell 6
  have c7 : w.cell? ⟨E, 7, none⟩ = some (.slice (m.qA 1) (m.q 1).length (m.qc 1)) := hm.e.cell 7
  have e0 : s.b0.length = (m.q 0).length := by rw [ha.b0, List.length_map]
  have e1 : s.b1.length = (m.q 1).length := by rw [ha.b1, List.length_map]
  have HW := Lib.hid (show s.wait d = if d = 0 then (m.q 0).length else if d = 1 then (m.q 1).length else 0 by unfold ES.wait; rw [e0, e1])
  generalize (m.q 0).length = n0 at *
  generalize (m.q 1).length = n1 at *
  clear e0 e1 hm ha hsN
  by_cases hb : isEnd d = true
  · have hd := isEnd_iff hb
    have HB := Lib.hid hb
    clear hb
    rcases hd with rfl | rfl
    all_goals go_enter Try.func47, Try.ntmps47
    all_goals go_wp2_with fail
    all_goals refine (rend_any _).mono ?_
    all_goals rintro e w2 ⟨rfl, rfl⟩
    all_goals rw [HB.out]
    all_goals go_wp2_with fail
    all_goals go_ret
    all_goals exact ⟨by rw [HW.out]; rfl, rfl⟩
  · have hb' : isEnd d = false := by simpa using hb
    have HB := Lib.hid hb'
    clear hb hb'
    go_enter Try.func47, Try.ntmps47
    go_wp2_with fail
    refine (rend_any _).mono ?_
    rintro e w2 ⟨rfl, rfl⟩
    rw [HB.out]
    go_wp2_with fail
    go_ret
    refine ⟨?_, rfl⟩
    rw [HW.out]
    have := HB.out
    unfold isEnd at this
    simp at this
    rw [if_neg this.1, if_neg this.2]
    rfl
end Go.Proofs.Ytknpghemogfenaa
