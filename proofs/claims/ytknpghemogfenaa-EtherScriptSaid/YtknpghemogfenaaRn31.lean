/- Chapter 31: the document's ether: New. -/
import Derived.Test.YtknpghemogfenaaRv31
namespace Go.Proofs.Ytknpghemogfenaa
open Go.Conc Go.RowKit
set_option linter.unusedVariables false
theorem wpList_px {ops : Array Oper} {rest : List Oper} {o : Oper} {a : Act} {wr wa : World} {Q : Exit → Act → World → Prop} {base n c : Nat} {A : Option Addr} {x : List UInt8} (hgd : o.guard = none) (s y : Operand) (ho : o.op = .call { callee := .builtin .append, args := #[s, y], argTypes := #[32, 32] })
    (hs : a.eval s = .slice (some ⟨wr.heap.size, 0, none⟩) 0 0) (hx : a.eval y = .slice A n c) (hal : Below wr.heap.size wr wa) (hbk : Bk wa wr.heap.size 5 []) (hr : Rd wr A n (bys x)) (hn : n ≤ 70000) (hb : base ≤ wr.heap.size)
    (h : ∀ A1 c1 w1, Hid (PX w1 base A1 n c1 x ∧ Below wr.heap.size wr w1) → wpList Try.prog ops Q rest (a.put o.dst (.slice A1 n c1)) w1) : wpList Try.prog ops Q (o :: rest) a wa := by
  obtain ⟨i0, hi0, hz0, hz1, hz2⟩ := info_parts u8_info
  have hown0 : wa.ownsRow wr.heap.size 5 1 (.slice (some ⟨wr.heap.size, 0, none⟩) 0 0) 0 [] := own_mkN hbk (Nat.le_refl _) (Nat.le_refl _) (by decide) rfl rfl
  refine wpList_append_rd wa hgd s y _ ho wr.heap.size 5 i0 _ 1 1 Try.underlying32 hi0 hz0 hz1 hz2 rfl (by omega) _ 0 [] hs hown0 A n c (bys x) hx ((hr.below hal).mul1) (bys_one x) (by simp only [maxLen]; omega) (by omega) hal.size ?_
  intro v1 w1 hown1 hg1 hat1
  have hbA : Below wr.heap.size wr w1 := hal.grown hg1 hal.size (fun q hq => (hown0.lt q hq).1)
  rw [Nat.zero_add, List.nil_append] at hown1
  obtain ⟨A1, c1, rfl⟩ := own_sl hown1
  exact h A1 c1 w1 (Lib.hid ⟨⟨own_mono hown1 hb, hn⟩, hbA⟩)
theorem ycs_snoc (l : List SY) (y : SY) : ycs (l ++ [y]) = ycs l ++ y.cells := by simp [ycs]
theorem wpList_stray {ops : Array Oper} {rest : List Oper} {o : Oper} {a : Act} {wr wa : World} {G : Nat} {Q : Exit → Act → World → Prop} {base n c : Nat} {A : Option Addr} {l : List SY} {y : SY} (hgd : o.guard = none) (s z : Operand) (ho : o.op = .call { callee := .builtin .append, args := #[s, z], argTypes := #[41, 41] })
    (hs : a.eval s = .slice A n c) (hG : wr.heap.size = G) (hx : a.eval z = .slice (some ⟨G, 0, none⟩) 1 1) (hwa : wa = wr.alloc (.cells y.cells.toArray 45)) (hr : wr.ownsRow base 45 3 (.slice A n c) n (ycs l)) (hn : n ≤ 1000000) {B0 : World} (hb : Below base B0 wr) (hbs : base ≤ wr.heap.size)
    (h : ∀ A1 c1 w1, Hid (w1.ownsRow base 45 3 (.slice A1 (n + 1) c1) (n + 1) (ycs (l ++ [y])) ∧ Below base B0 w1 ∧ Chg (fun k => k ∈ blk A) wr w1) → wpList Try.prog ops Q rest (a.put o.dst (.slice A1 (n + 1) c1)) w1) :
    wpList Try.prog ops Q (o :: rest) a wa := by
  subst hG hwa
  have hal := (Below.refl wr.heap.size wr).alloc (Nat.le_refl _) (.cells y.cells.toArray 45)
  have hbk : Bk (wr.alloc (.cells y.cells.toArray 45)) wr.heap.size 45 y.cells := Bk.new wr _ _
  obtain ⟨i0, hi0, hz0, hz1, hz2⟩ := info_parts stray_info2
  have hrd : Rd (wr.alloc (.cells y.cells.toArray 45)) (some ⟨wr.heap.size, 0, none⟩) (1 * 3) y.cells := Rd.of_bk hbk (Nat.le_refl _) (by rw [List.drop_zero]; exact List.take_of_length_le (Nat.le_refl _))
  refine wpList_append_rd _ hgd s z _ ho base 45 i0 _ 3 40 Try.underlying41 hi0 hz0 hz1 hz2 rfl (by omega) _ n (ycs l) hs (own_below hr hal) _ 1 1 y.cells hx hrd (sy_one y) (by simp only [maxLen]; omega) (by omega) (Nat.le_trans hbs hal.size) ?_
  intro v1 w1 hown1 hg1 hat1
  rw [← ycs_snoc] at hown1
  obtain ⟨A1, c1, rfl⟩ := own_sl hown1
  have hba : Below base B0 (wr.alloc (.cells y.cells.toArray 45)) := below_base hb hal hbs
  refine h A1 c1 w1 (Lib.hid ⟨hown1, hba.grown hg1 (Nat.le_trans hbs hal.size) fun q hq => (hr.lt q hq).1, (Chg.of_below hal).trans (Chg.of_grown (S := fun k => k ∈ blk A) hg1 fun k hk => ?_) fun _ _ e => e⟩)
  cases A with
  | none => cases hk
  | some q => injection hk with hk; subst hk; exact mem_blk.2 ⟨q, rfl, rfl⟩
theorem wpList_fates {ops : Array Oper} {rest : List Oper} {o : Oper} {a : Act} {wr wa : World} {Q : Exit → Act → World → Prop} {base n c : Nat} {A : Option Addr} {l : List FT} (hgd : o.guard = none) (s z : Operand) (ho : o.op = .call { callee := .builtin .append, args := #[s, z], argTypes := #[40, 40] })
    (hs : a.eval s = .slice (some ⟨wr.heap.size, 0, none⟩) 0 0) (hx : a.eval z = .slice A n c) (hal : Below wr.heap.size wr wa) (hbk : Bk wa wr.heap.size 53 []) (hr : Rd wr A (n * 4) (fcs l)) (hn : n ≤ 1000000) (hbs : base ≤ wr.heap.size)
    (h : ∀ A1 c1 w1, Hid (w1.ownsRow base 53 4 (.slice A1 n c1) n (fcs l) ∧ Below wr.heap.size wr w1) → wpList Try.prog ops Q rest (a.put o.dst (.slice A1 n c1)) w1) :
    wpList Try.prog ops Q (o :: rest) a wa := by
  obtain ⟨i0, hi0, hz0, hz1, hz2⟩ := info_parts fate_info2
  have hown0 : wa.ownsRow wr.heap.size 53 4 (.slice (some ⟨wr.heap.size, 0, none⟩) 0 0) 0 [] := own_mkN hbk (Nat.le_refl _) (Nat.le_refl _) (by decide) rfl rfl
  refine wpList_append_rd wa hgd s z _ ho wr.heap.size 53 i0 _ 4 32 Try.underlying40 hi0 hz0 hz1 hz2 rfl (by omega) _ 0 [] hs hown0 A n c (fcs l) hx (hr.below hal) (by
    intro u hu
    obtain ⟨f, _, hu⟩ := List.mem_flatMap.1 hu
    exact ft_one f u hu) (by simp only [maxLen]; omega) (by omega) hal.size ?_
  intro v1 w1 hown1 hg1 hat1
  have hbA : Below wr.heap.size wr w1 := hal.grown hg1 hal.size (fun q hq => (hown0.lt q hq).1)
  rw [Nat.zero_add, List.nil_append] at hown1
  obtain ⟨A1, c1, rfl⟩ := own_sl hown1
  exact h A1 c1 w1 (Lib.hid ⟨own_mono hown1 hbs, hbA⟩)
/-- So many strays have been copied. -/
def NR (w wx : World) (sl : List SY) (j : Nat) (A : Option Addr) (c : Nat) : Prop := ∃ ml : List SY, wx.ownsRow w.heap.size 45 3 (.slice A j c) j (ycs ml) ∧ ml.length = j ∧ ml.map SY.t = (sl.take j).map SY.t ∧ (∀ y ∈ ml, PX wx w.heap.size y.A y.n y.c y.x) ∧ Below w.heap.size w wx ∧ (sl.take j).all okS = true
/-- In the midst of a round. -/
theorem nr_mid {wf wr w5 w6 : World} {q k c4 c1 yn : Nat} {A4 A1 : Option Addr} {ml : List SY} {cs : List Value} {yx : List UInt8} (ho : wr.ownsRow wf.heap.size 45 3 (.slice A4 q c4) q (ycs ml)) (hml : ml.length = q) (hbw : Below wf.heap.size wf wr) (hV : Bk w5 wr.heap.size 45 cs) (hb5 : Below wr.heap.size wr w5) (hp : PX w6 wf.heap.size A1 yn c1 yx) (hb6 : Below w5.heap.size w5 w6) (hpx : ∀ y ∈ ml, PX wr wf.heap.size y.A y.n y.c y.x) (hqk : q < k) (hk : (k : Int) ≤ 100000) :
    (w6.setCell ⟨wr.heap.size, 2, none⟩ (.slice A1 yn c1)).ownsRow wf.heap.size 45 3 (.slice A4 q c4) q (ycs ml) ∧ q ≤ 1000000 ∧ Below wf.heap.size wf (w6.setCell ⟨wr.heap.size, 2, none⟩ (.slice A1 yn c1)) ∧ wf.heap.size ≤ (w6.setCell ⟨wr.heap.size, 2, none⟩ (.slice A1 yn c1)).heap.size ∧
      PX (w6.setCell ⟨wr.heap.size, 2, none⟩ (.slice A1 yn c1)) wf.heap.size A1 yn c1 yx ∧ ∀ y ∈ ml, PX (w6.setCell ⟨wr.heap.size, 2, none⟩ (.slice A1 yn c1)) wf.heap.size y.A y.n y.c y.x := by
  have hb56 := below_base hb5 hb6 hb5.size
  have hb7 : Below wr.heap.size wr (w6.setCell ⟨wr.heap.size, 2, none⟩ (.slice A1 yn c1)) := hb56.setCell (Nat.le_refl _) _
  have hV6 := hV.belowS hb6
  have hcV : Chg (fun k => k = wr.heap.size) w6 (w6.setCell ⟨wr.heap.size, 2, none⟩ (.slice A1 yn c1)) := (Chg.refl (fun k => k = wr.heap.size) w6).set_ rfl _ _
  have hf := below_base hbw hb7 hbw.size
  refine ⟨own_below ho hb7, by omega, hf, hf.size, hp.chg hcV fun a ha e => ?_, fun y hy => (hpx y hy).chg (Chg.of_below (S := fun _ => False) hb7) fun _ _ e => e⟩
  exact (own_ty hp.1 (own_b1 ha)).1.ne ⟨_, hV6⟩ (by decide) e
theorem nr_step {wf wy w7 : World} {q c4 c7 yn c1 : Nat} {A4 A7 A1 yA : Option Addr} {sl ml : List SY} {ya yd : Int} {yc : Nat} {yx : List UInt8} (hml : ml.length = q) (hmt : ml.map SY.t = (sl.take q).map SY.t) (hql : q < sl.length) (hy : sl[q] = ⟨ya, yd, yA, yn, yc, yx⟩) (hall : (sl.take q).all okS = true) (hok : okS ⟨ya, yd, yA, yn, yc, yx⟩ = true)
    (ho : wy.ownsRow wf.heap.size 45 3 (.slice A4 q c4) q (ycs ml)) (hp : PX wy wf.heap.size A1 yn c1 yx) (hpx : ∀ y ∈ ml, PX wy wf.heap.size y.A y.n y.c y.x)
    (h7 : w7.ownsRow wf.heap.size 45 3 (.slice A7 (q + 1) c7) (q + 1) (ycs (ml ++ [⟨ya, yd, A1, yn, c1, yx⟩]))) (hb : Below wf.heap.size wf w7) (hc : Chg (fun k => k ∈ blk A4) wy w7) : NR wf w7 sl (q + 1) A7 c7 := by
  have hne : ∀ {k : Nat}, Ty wy k 5 → ¬ k ∈ blk A4 := fun ht hk => by
    obtain ⟨a, ha, e⟩ := mem_blk.1 hk
    subst e
    exact (own_ty ho (own_b1 ha)).1.ne ht (by decide) rfl
  refine ⟨ml ++ [⟨ya, yd, A1, yn, c1, yx⟩], h7, by rw [List.length_append, hml]; rfl, ?_, fun y hy' => ?_, hb, all_succ hql hall (by rw [hy]; exact hok)⟩
  · rw [take_map_succ SY.t hql, List.map_append, hmt, hy]; rfl
  · rcases List.mem_append.1 hy' with h | h
    · exact (hpx y h).chg hc fun a ha hk => hne (own_ty (hpx y h).1 (own_b1 ha)).1 hk
    · rw [List.mem_singleton.1 h]
      exact hp.chg hc fun a ha hk => hne (own_ty hp.1 (own_b1 ha)).1 hk
theorem rnew_end {wf wr w7 : World} {fl : List FT} {sl ml : List SY} {j q c4 c7 : Nat} {A4 A7 : Option Addr} (hj : fl.length = j) (hq : sl.length = q) (ho : wr.ownsRow wf.heap.size 45 3 (.slice A4 q c4) q (ycs ml)) (hml : ml.length = q) (hmt : ml.map SY.t = (sl.take q).map SY.t) (hpx : ∀ y ∈ ml, PX wr wf.heap.size y.A y.n y.c y.x) (hbw : Below wf.heap.size wf wr)
    (h7 : w7.ownsRow wf.heap.size 53 4 (.slice A7 j c7) j (fcs fl)) (hb7 : Below wr.heap.size wr w7) (cs : Array Value) (hcs : cs = #[.slice A7 j c7, .slice A4 q c4, .int .i64 0, .int .i64 0, .int .i64 0, .slice none 0 0, .slice none 0 0, .slice none 0 0, .int .i64 0]) :
    Below wf.heap.size wf (w7.alloc (.cells cs 81)) ∧ Rw (w7.alloc (.cells cs 81)) wf.heap.size w7.heap.size (ES.new fl sl) 0 (fun k => wf.heap.size ≤ k ∧ k < (w7.alloc (.cells cs 81)).heap.size) := by
  have hal := (Below.refl w7.heap.size w7).alloc (Nat.le_refl _) (.cells cs 81)
  have hb := below_base hbw hb7 hbw.size
  have hb9 := below_base hb hal hb.size
  have hz := hal.size
  have hz2 := hb.size
  have hf := own_below h7 hal
  have hs := own_below (own_below ho hb7) hal
  have hF : ∀ {n c : Nat} {A : Option Addr} {e : TypeId} {size : Nat} {xs : List Value}, (w7.alloc (.cells cs 81)).ownsRow wf.heap.size e size (.slice A n c) n xs → ∀ a, A = some a → wf.heap.size ≤ a.block ∧ a.block < (w7.alloc (.cells cs 81)).heap.size := fun h a ha => own_lt h a ha
  refine ⟨hb9, ⟨A7, c7, fl, A4, c4, ml, 0, 0, 0, 0, none, 0, [], fun _ => none, fun _ => 0, fun _ => []⟩, ⟨?_, ⟨by rw [hj]; exact hf, by rw [hml]; exact hs, fun y hy => ?_, fun a ha => hF hf a ha, fun a ha => hF hs a ha⟩, ⟨World.ownsRow_nil _ _ _ _, fun g hg => (by simp at hg), fun a ha => (by cases ha)⟩, ⟨fun k _ => QRow.nil _ _, fun a0 a1 h => (by cases h), fun k _ b hb => (by simp at hb), fun k _ a ha => (by cases ha)⟩, ⟨by omega, by simp⟩, fun k hk => hk, by omega⟩, ⟨rfl, ?_, rfl, rfl, rfl, rfl, rfl, rfl⟩, Nat.le_refl _⟩
  · rw [hcs]
    have e : RMem.cells ⟨A7, c7, fl, A4, c4, ml, 0, 0, 0, 0, none, 0, [], fun _ => none, fun _ => 0, fun _ => []⟩ = [.slice A7 j c7, .slice A4 q c4, .int .i64 0, .int .i64 0, .int .i64 0, .slice none 0 0, .slice none 0 0, .slice none 0 0, .int .i64 0] := by
      unfold RMem.cells
      simp only
      rw [hj, hml]; rfl
    rw [e]
    exact Bk.newA w7 _ _
  · have hp := ((hpx y hy).chg (Chg.of_below (S := fun _ => False) hb7) fun _ _ e => e).chg (Chg.of_below (S := fun _ => False) hal) fun _ _ e => e
    exact ⟨hp, fun a ha => hF hp.1 a ha⟩
  · show sl.map SY.t = ml.map SY.t
    rw [hmt, List.take_of_length_le (by omega)]
theorem newE_good {fl : List FT} {sl : List SY} (h1 : fl.all okF = true) (h2 : sl.all okS = true) : newE fl sl = 0 := by unfold newE; rw [h1, h2]; rfl
set_option maxRecDepth 100000 in
set_option maxHeartbeats 6400000 in
theorem rnew_any {w : World} {A B : Option Addr} {c d : Nat} {fl : List FT} {sl : List SY} (hF : Rd w A (fl.length * 4) (fcs fl)) (hS : Rd w B (sl.length * 3) (ycs sl)) (hX : ∀ y ∈ sl, Rd w y.A y.n (bys y.x)) (hfl : fl.length ≤ 100000) (hsl : sl.length ≤ 100000) :
    Calls Try.prog 25 #[.slice A fl.length c, .slice B sl.length d] w fun e w' => Below w.heap.size w w' ∧ ((newE fl sl = 2 ∧ e = .returned (.tuple #[.pointer none, .int .i64 2])) ∨
      (newE fl sl = 0 ∧ ∃ E, e = .returned (.tuple #[.pointer (some ⟨E, 0, none⟩), .int .i64 0]) ∧ Rw w' w.heap.size E (ES.new fl sl) 0 (fun k => w.heap.size ≤ k ∧ k < w'.heap.size))) := by
  obtain ⟨n, hn⟩ : ∃ n, fl.length = n := ⟨_, rfl⟩
  obtain ⟨k, hk⟩ : ∃ k, sl.length = k := ⟨_, rfl⟩
  have HL := Lib.hid (And.intro hn hk)
  have H := Lib.hid (And.intro hF (And.intro hS (And.intro hX (And.intro hfl hsl))))
  have n1 : decide (100000 < n) = false := decide_eq_false (by omega)
  have k1 : decide (100000 < k) = false := decide_eq_false (by omega)
  have n2 : (n : Int) ≤ 100000 := by omega
  have k2 : (k : Int) ≤ 100000 := by omega
  rw [hn, hk]
  clear hF hS hX hfl hsl hn hk
  go_enter Try.func25, Try.ntmps25
  go_wp2_with fail
  go_loopw [6] (fun i wx => ∃ j : Nat, j ≤ n ∧ i = .int .i64 j ∧ wx = w ∧ Hid ((fl.take j).all okF = true)) (fun i wx => n - (intOf i).toNat)
  case atStart => exact ⟨0, Nat.zero_le _, rfl, by first | rfl | trivial, Lib.hid rfl⟩
  case round =>
    obtain ⟨j, hj, rfl, rfl, HJ⟩ := hrel
    obtain ⟨wf, rfl⟩ : ∃ wf : World, wf = wr := ⟨_, rfl⟩
    by_cases hlt : j < n
    · have hjl : j < fl.length := by rw [HL.out.1]; exact hlt
      obtain ⟨g, off, rfl, hc⟩ := rd_cell (f := FT.cells) (k := 4) (fun _ => rfl) H.out.1 hjl (by decide)
      obtain ⟨⟨b1, i2, b3, i4⟩, hf⟩ : ∃ f, fl[j] = f := ⟨_, rfl⟩
      rw [hf] at hc
      have y1 : wf.cell? ⟨g, off + j * 4 + 1, none⟩ = some (.int .i64 i2) := hc 1 _ rfl
      have y3 : wf.cell? ⟨g, off + j * 4 + 3, none⟩ = some (.int .i64 i4) := hc 3 _ rfl
      have hlz : decide (j < n) = true := decide_eq_true hlt
      have hlz' : decide ((j : Int) < (n : Int)) = true := decide_eq_true (by omega)
      have hlp : (j : Int) < (n : Int) := by omega
      have ej : IntKind.i64.wrap ((j : Int) + 1) = ((j + 1 : Nat) : Int) := by rw [IntKind.wrap_i64]; omega
      have HY := Lib.hid (And.intro hf (And.intro hj hlt))
      clear hf hj hc
      cases hl1 : isLate i2
      · go_wp2_with fail
        refine (rlate_any i2).mono ?_
        rintro e w1 ⟨rfl, rfl⟩
        rw [hl1]
        go_wp2_with fail
        go_ret2
        refine ⟨Below.refl _ _, .inl ⟨newE_bad (.inl (all_no (j := j) hjl (by rw [HY.out.1]; unfold okF; rw [hl1]; rfl))), rfl⟩⟩
      · go_wp2_with fail
        refine (rlate_any i2).mono ?_
        rintro e w1 ⟨rfl, rfl⟩
        rw [hl1]
        cases hl2 : isLate i4
        · go_wp2_with fail
          refine (rlate_any i4).mono ?_
          rintro e w1 ⟨rfl, rfl⟩
          rw [hl2]
          go_wp2_with fail
          go_ret2
          refine ⟨Below.refl _ _, .inl ⟨newE_bad (.inl (all_no (j := j) hjl (by rw [HY.out.1]; unfold okF; rw [hl2, Bool.and_false]))), rfl⟩⟩
        · go_wp2_with fail
          refine (rlate_any i4).mono ?_
          rintro e w1 ⟨rfl, rfl⟩
          rw [hl2]
          have HA := Lib.hid (all_succ hjl HJ.out (by rw [HY.out.1]; unfold okF; rw [hl1, hl2]; rfl))
          clear hl1 hl2
          go_wp2_with fail
          refine ⟨⟨j + 1, hlt, rfl, by first | rfl | trivial, HA⟩, by show n - ((j : Int) + 1).toNat < n - ((j : Int)).toNat; omega⟩
    · obtain rfl : j = n := by omega
      have hlz : decide (j < j) = false := decide_eq_false (by omega)
      have hlz' : decide ((j : Int) < (j : Int)) = false := decide_eq_false (by omega)
      have hfa := HJ.out
      rw [← HL.out.1, List.take_length] at hfa
      have HFA := Lib.hid hfa
      clear hfa HJ hlt hj
      go_wp2_with fail
      go_loopw [7, 8, 9] (fun v7 v8 v9 wx => ∃ q : Nat, q ≤ k ∧ v8 = .int .i64 q ∧ ∃ A4 c4, v7 = .slice A4 q c4 ∧ Hid (NR wf wx sl q A4 c4)) (fun v7 v8 v9 wx => k - (intOf v8).toNat)
      case atStart => exact ⟨0, Nat.zero_le _, rfl, none, 0, by first | rfl | trivial, Lib.hid ⟨[], World.ownsRow_nil _ _ _ _, rfl, rfl, fun y hy => by simp at hy, Below.refl _ _, rfl⟩⟩
      case round =>
        obtain ⟨q, hq, rfl, A4, c4, rfl, HQ⟩ := hrel
        by_cases hqk : q < k
        · have hql : q < sl.length := by rw [HL.out.2]; exact hqk
          obtain ⟨ml, ho, hml, hmt, hpx, hbw, hall⟩ := HQ.out
          obtain ⟨gg, oo, hB, hcc⟩ := rd_cell (f := SY.cells) (k := 3) (fun _ => rfl) (H.out.2.1.below hbw) hql (by decide)
          obtain ⟨⟨ya, yd, yA, yn, yc, yx⟩, hy⟩ : ∃ f, sl[q] = f := ⟨_, rfl⟩
          rw [hy] at hcc
          have z0 : wr.cell? ⟨gg, oo + q * 3, none⟩ = some (.int .i64 ya) := hcc 0 _ rfl
          have z1 : wr.cell? ⟨gg, oo + q * 3 + 1, none⟩ = some (.int .i64 yd) := hcc 1 _ rfl
          have z2 : wr.cell? ⟨gg, oo + q * 3 + 2, none⟩ = some (.slice yA yn yc) := hcc 2 _ rfl
          have hrx : Rd wr yA yn (bys yx) := by have := (H.out.2.2.1 _ (List.getElem_mem hql)).below hbw; rw [hy] at this; exact this
          have qd : decide (q < k) = true := decide_eq_true hqk
          have qd' : decide ((q : Int) < (k : Int)) = true := decide_eq_true (by omega)
          have qp : (q : Int) < (k : Int) := by omega
          have eq' : IntKind.i64.wrap ((q : Int) + 1) = ((q + 1 : Nat) : Int) := by rw [IntKind.wrap_i64]; omega
          have hbv := (Below.refl wr.heap.size wr).alloc (Nat.le_refl _) (.cells #[.int .i64 ya, .int .i64 yd, .slice yA yn yc] 45)
          have HV := Lib.hid (And.intro ho (And.intro hml (And.intro hmt (And.intro hpx (And.intro hbw (And.intro hall (And.intro hrx (And.intro hql (And.intro hy (And.intro hqk hbv))))))))))
          subst hB
          clear ho hml hmt hpx hbw hall hrx hy hcc HQ hq hbv
          have bad : okS ⟨ya, yd, yA, yn, yc, yx⟩ = false → ∀ wy, Below wr.heap.size wr wy → (Below wf.heap.size wf wy ∧ newE fl sl = 2) := fun hbad wy hwy =>
            ⟨below_base HV.out.2.2.2.2.1 hwy HV.out.2.2.2.2.1.size, newE_bad (.inr (all_no HV.out.2.2.2.2.2.2.2.1 (by rw [HV.out.2.2.2.2.2.2.2.2.1]; exact hbad)))⟩
          have HBD := Lib.hid bad
          clear bad
          by_cases t1 : ya < 1
          · have b1 : decide (ya < 1) = true := decide_eq_true t1
            have HT := Lib.hid (show okS ⟨ya, yd, yA, yn, yc, yx⟩ = false by unfold okS; rw [decide_eq_false (by show ¬ 1 ≤ ya; omega)]; rfl)
            clear t1
            go_wp2_with fail
            go_ret2
            exact ⟨(HBD.out HT.out _ HV.out.2.2.2.2.2.2.2.2.2.2).1, .inl ⟨(HBD.out HT.out _ HV.out.2.2.2.2.2.2.2.2.2.2).2, rfl⟩⟩
          · have b1 : decide (ya < 1) = false := decide_eq_false t1
            have HT := Lib.hid t1
            clear t1
            cases t2 : isEnd yd with
            | false =>
              have HT2 := Lib.hid (show okS ⟨ya, yd, yA, yn, yc, yx⟩ = false by unfold okS; show (_ && isEnd yd && _) = false; rw [t2, Bool.and_false]; rfl)
              go_wp2_with fail
              refine (rend_any yd).mono ?_
              rintro _ w5 ⟨rfl, rfl⟩
              rw [t2]
              go_wp2_with fail
              go_ret2
              exact ⟨(HBD.out HT2.out _ HV.out.2.2.2.2.2.2.2.2.2.2).1, .inl ⟨(HBD.out HT2.out _ HV.out.2.2.2.2.2.2.2.2.2.2).2, rfl⟩⟩
            | true =>
              by_cases t3 : 70000 < yn
              · have b2 : decide (70000 < yn) = true := decide_eq_true t3
                have b3 : decide ((yn : Int) > 70000) = true := by simp; omega
                have b4 : decide ((70000 : Int) < (yn : Int)) = true := by simp; omega
                have HT2 := Lib.hid (show okS ⟨ya, yd, yA, yn, yc, yx⟩ = false by unfold okS; show (decide (1 ≤ ya) && isEnd yd && decide (yn ≤ 70000)) = false; rw [show decide (yn ≤ 70000) = false from decide_eq_false (by omega), Bool.and_false])
                clear t3
                go_wp2_with fail
                refine (rend_any yd).mono ?_
                rintro _ w5 ⟨rfl, rfl⟩
                rw [t2]
                go_wp2_with fail
                go_ret2
                exact ⟨(HBD.out HT2.out _ HV.out.2.2.2.2.2.2.2.2.2.2).1, .inl ⟨(HBD.out HT2.out _ HV.out.2.2.2.2.2.2.2.2.2.2).2, rfl⟩⟩
              · have b2 : decide (70000 < yn) = false := decide_eq_false t3
                have b3 : decide ((yn : Int) > 70000) = false := by simp; omega
                have b4 : decide ((70000 : Int) < (yn : Int)) = false := by simp; omega
                have hyn : yn ≤ 70000 := by omega
                have HT2 := Lib.hid (show okS ⟨ya, yd, yA, yn, yc, yx⟩ = true by unfold okS; show (decide (1 ≤ ya) && isEnd yd && decide (yn ≤ 70000)) = true; rw [t2, decide_eq_true (by have := HT.out; omega), decide_eq_true hyn]; rfl)
                clear t3
                go_wp2_with fail
                refine (rend_any yd).mono ?_
                rintro _ w5 ⟨rfl, hw5⟩
                rw [t2]
                have HW5 := Lib.hid hw5
                obtain ⟨wv, hwv⟩ : ∃ wv, wr.alloc (.cells #[.int .i64 ya, .int .i64 yd, .slice yA yn yc] 45) = wv := ⟨_, rfl⟩
                rw [hwv] at hw5
                subst hw5
                have hkV : Bk w5 wr.heap.size 45 [.int .i64 ya, .int .i64 yd, .slice yA yn yc] := by rw [← hwv]; exact Bk.newA wr _ _
                have hbv := HV.out.2.2.2.2.2.2.2.2.2.2
                rw [hwv] at hbv
                have v0 : w5.cell? ⟨wr.heap.size, 0, none⟩ = some (.int .i64 ya) := hkV.cell 0
                have v1 : w5.cell? ⟨wr.heap.size, 1, none⟩ = some (.int .i64 yd) := hkV.cell 1
                have v2 : w5.cell? ⟨wr.heap.size, 2, none⟩ = some (.slice yA yn yc) := hkV.cell 2
                have HK := Lib.hid (And.intro hkV (And.intro hbv hyn))
                clear hkV hbv hwv HW5 z0 z1 z2
                have hwf5 : wf.heap.size ≤ w5.heap.size := Nat.le_trans HV.out.2.2.2.2.1.size HK.out.2.1.size
                have HS5 := Lib.hid hwf5
                clear hwf5
                have a2 := cell_below ((Below.refl w5.heap.size w5).alloc (Nat.le_refl _) (.cells #[] 5)) v2
                go_upto_region 16 with (at_builtin; refine wpList_px (wr := w5) (base := wf.heap.size) (x := yx) (by rfl) (.tmp 65) (.tmp 67) (by rfl) (by rfl) (by rfl) ((Below.refl _ _).alloc (Nat.le_refl _) _) (Bk.newA w5 5 #[]) (HV.out.2.2.2.2.2.2.1.below HK.out.2.1) HK.out.2.2 HS5.out ?_; intro A1 c1 w6 H6; have v0' := cell_below H6.out.2 v0; have v1' := cell_below H6.out.2 v1; have v2' := cell_below H6.out.2 v2; have f2' := (HK.out.1.belowS H6.out.2).frozen 2; have HO := Lib.hid (nr_mid HV.out.1 HV.out.2.1 HV.out.2.2.2.2.1 HK.out.1 HK.out.2.1 H6.out.1 H6.out.2 HV.out.2.2.2.1 HV.out.2.2.2.2.2.2.2.2.2.1 k2))
                clear v0 v1 v2 a2
                go_wp2_with (at_builtin; refine wpList_stray (wr := w6.setCell ⟨wr.heap.size, 2, none⟩ (.slice A1 yn c1)) (base := wf.heap.size) (B0 := wf) (G := w6.heap.size) (y := ⟨ya, yd, A1, yn, c1, yx⟩) (by rfl) (.tmp 70) (.tmp 72) (by rfl) (by rfl) (by simp) (by rfl) (by rfl) HO.out.1 HO.out.2.1 HO.out.2.2.1 HO.out.2.2.2.1 ?_; intro A7 c7 w7 H7)
                have HC := Lib.hid (nr_step HV.out.2.1 HV.out.2.2.1 HV.out.2.2.2.2.2.2.2.1 HV.out.2.2.2.2.2.2.2.2.1 HV.out.2.2.2.2.2.1 HT2.out HO.out.1 HO.out.2.2.2.2.1 HO.out.2.2.2.2.2 H7.out.1 H7.out.2.1 H7.out.2.2)
                clear v0' v1' v2' f2'
                go_wp2_with fail
                refine ⟨⟨q + 1, hqk, rfl, A7, c7, rfl, HC⟩, by show k - ((q : Int) + 1).toNat < k - ((q : Int)).toNat; omega⟩
        · obtain rfl : q = k := by omega
          have qd : decide (q < q) = false := decide_eq_false (by omega)
          have qd' : decide ((q : Int) < (q : Int)) = false := decide_eq_false (by omega)
          have hbw := HQ.out
          obtain ⟨ml, ho, hml, hmt, hpx, hbw, hall⟩ := HQ.out
          have hrf : Rd wr A (j * 4) (fcs fl) := by have := H.out.1.below hbw; rw [HL.out.1] at this; exact this
          have HV := Lib.hid (And.intro ho (And.intro hml (And.intro hmt (And.intro hpx (And.intro hbw (And.intro hall (And.intro hrf (show wf.heap.size ≤ wr.heap.size from hbw.size))))))))
          clear ho hml hmt hpx hbw hall hrf hqk hq HQ
          go_wp2_with (at_builtin; refine wpList_fates (wr := wr) (base := wf.heap.size) (l := fl) (by rfl) (.tmp 74) (.tmp 75) (by rfl) (by rfl) (by rfl) ((Below.refl _ _).alloc (Nat.le_refl _) _) (Bk.newA wr 53 #[]) HV.out.2.2.2.2.2.2.1 (by omega) HV.out.2.2.2.2.2.2.2 ?_; intro A7 c7 w7 H7)
          go_ret2
          obtain ⟨r1, r2⟩ := rnew_end HL.out.1 HL.out.2 HV.out.1 HV.out.2.1 HV.out.2.2.1 HV.out.2.2.2.1 HV.out.2.2.2.2.1 H7.out.1 H7.out.2 _ rfl
          have hal := HV.out.2.2.2.2.2.1
          rw [← HL.out.2, List.take_length] at hal
          exact ⟨r1, .inr ⟨newE_good HFA.out hal, w7.heap.size, rfl, r2⟩⟩
end Go.Proofs.Ytknpghemogfenaa
