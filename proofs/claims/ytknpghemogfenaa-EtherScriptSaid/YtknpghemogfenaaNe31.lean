/- Chapter 31: New: its walk. -/
import Derived.Test.YtknpghemogfenaaNd31
namespace Go.Proofs.Ytknpghemogfenaa
open Go.Conc Go.RowKit
set_option linter.unusedVariables false
theorem fcs_get : ∀ {l : List FT} {i k : Nat} (h : i < l.length), k < 4 → (fcs l)[i * 4 + k]? = (l[i]).cells[k]?
  | [], i, k, h, _ => absurd h (Nat.not_lt_zero _)
  | e :: l, 0, k, h, hk => by
    have : fcs (e :: l) = e.cells ++ fcs l := rfl
    rw [this, List.getElem?_append_left (by show 0 * 4 + k < 4; omega), Nat.zero_mul, Nat.zero_add]; rfl
  | e :: l, i + 1, k, h, hk => by
    have h1 : fcs (e :: l) = e.cells ++ fcs l := rfl
    rw [h1, List.getElem?_append_right (by show 4 ≤ _; omega), show (i + 1) * 4 + k - e.cells.length = i * 4 + k from by show (i + 1) * 4 + k - 4 = _; omega]
    exact fcs_get (l := l) (Nat.lt_of_succ_lt_succ h) hk
/-- A row that begins a block, if there is one. -/
def At0 (A : Option Addr) : Prop := ∀ a, A = some a → ∃ g, a = ⟨g, 0, none⟩
theorem rd_fate {w : World} {A : Option Addr} {fl : List FT} (h : Rd w A (fl.length * 4) (fcs fl)) (hA : At0 A) {j : Nat} (hj : j < fl.length) : ∃ (g : Nat) (b1 : Bool) (i2 : Int) (b3 : Bool) (i4 : Int), A = some ⟨g, 0, none⟩ ∧ fl[j] = ⟨b1, i2, b3, i4⟩ ∧
    w.cell? ⟨g, j * 4, none⟩ = some (.bool b1) ∧ w.cell? ⟨g, j * 4 + 1, none⟩ = some (.int .i64 i2) ∧ w.cell? ⟨g, j * 4 + 2, none⟩ = some (.bool b3) ∧ w.cell? ⟨g, j * 4 + 3, none⟩ = some (.int .i64 i4) := by
  obtain ⟨b, off, e, _, hc⟩ := h.form (by omega)
  obtain ⟨g, hg⟩ := hA _ e
  cases hg
  have hget : ∀ k, k < 4 → ∀ u, (fl[j]).cells[k]? = some u → w.cell? ⟨b, j * 4 + k, none⟩ = some u := fun k hk u hu => by
    have := hc (j * 4 + k) u (by rw [fcs_get hj hk]; exact hu)
    rw [Nat.zero_add] at this
    exact this
  exact ⟨b, _, _, _, _, e, rfl, hget 0 (by decide) _ rfl, hget 1 (by decide) _ rfl, hget 2 (by decide) _ rfl, hget 3 (by decide) _ rfl⟩
theorem rd_stray {w : World} {A : Option Addr} {sl : List SY} (h : Rd w A (sl.length * 3) (ycs sl)) (hA : At0 A) {j : Nat} (hj : j < sl.length) : ∃ (g : Nat) (at_ dst : Int) (B : Option Addr) (n c : Nat) (x : List UInt8), A = some ⟨g, 0, none⟩ ∧ sl[j] = ⟨at_, dst, B, n, c, x⟩ ∧
    w.cell? ⟨g, j * 3, none⟩ = some (.int .i64 at_) ∧ w.cell? ⟨g, j * 3 + 1, none⟩ = some (.int .i64 dst) ∧ w.cell? ⟨g, j * 3 + 2, none⟩ = some (.slice B n c) := by
  obtain ⟨b, off, e, _, hc⟩ := h.form (by omega)
  obtain ⟨g, hg⟩ := hA _ e
  cases hg
  have hget : ∀ k, k < 3 → ∀ u, (sl[j]).cells[k]? = some u → w.cell? ⟨b, j * 3 + k, none⟩ = some u := fun k hk u hu => by
    have := hc (j * 3 + k) u (by rw [ycs_get hj hk]; exact hu)
    rw [Nat.zero_add] at this
    exact this
  exact ⟨b, _, _, _, _, _, _, e, rfl, hget 0 (by decide) _ rfl, hget 1 (by decide) _ rfl, hget 2 (by decide) _ rfl⟩
theorem all_no {α : Type} {p : α → Bool} {l : List α} {j : Nat} (hj : j < l.length) (h : p (l[j]) = false) : l.all p = false := by
  rw [List.all_eq_false]
  exact ⟨l[j], List.getElem_mem hj, by rw [h]; simp⟩
theorem all_succ {α : Type} {p : α → Bool} {l : List α} {j : Nat} (hj : j < l.length) (h : (l.take j).all p = true) (h1 : p (l[j]) = true) : (l.take (j + 1)).all p = true := by
  rw [List.take_succ_eq_append_getElem hj, List.all_append, h]
  simp [h1]
theorem own_sl {w : World} {base size n : Nat} {e : TypeId} {v : Value} {xs : List Value} (h : w.ownsRow base e size v n xs) : ∃ A c, v = .slice A n c := by
  rcases h.2 with ⟨rfl, h0⟩ | ⟨g, cap, cur, rfl, _⟩
  · have h0' : n = 0 := h0
    exact ⟨none, 0, by rw [h0']⟩
  · exact ⟨_, cap, rfl⟩
theorem below_frozen {w w' : World} {p : Addr} {u : Value} {b : Bool} (hb : Below w.heap.size w w') (h : w.cell? p = some u) (hf : w.frozen? p = b) : w'.frozen? p = b := (hb.frozen (World.block_lt_of_cell? w p h)).trans hf
theorem NW.step' {w wx w1 : World} {E d1 d2 j g c' : Nat} {A1 A' : Option Addr} {fl : List FT} {sl cur : List SY} (h : NW w wx E A1 d1 (some ⟨g, 0, none⟩) d2 fl sl cur j) (hj : j < sl.length) {at_ dst : Int} {C : Option Addr} {n c0 : Nat} {x : List UInt8} (hy : sl[j] = ⟨at_, dst, C, n, c0, x⟩) (hb : Below wx.heap.size wx w1)
    (hown : w1.ownsRow wx.heap.size 5 1 (.slice A' n c') n (bys x)) (hn : n ≤ 70000) :
    ∃ cur', NW w (w1.setCell ⟨g, j * 3 + 2, none⟩ (.slice A' n c')) E A1 d1 (some ⟨g, 0, none⟩) d2 fl sl cur' (j + 1) := by
  have e1 : (sl[j]).n = n := by rw [hy]
  have e2 : (sl[j]).x = x := by rw [hy]
  have := h.step (A' := A') (c' := c') hj hb (by rw [e1, e2]; exact hown) (by rw [e1]; exact hn)
  rw [e1] at this
  exact this
theorem mk_box (w : World) : (Instr.makeChan 63 (.int .i64 1000)).run Try.prog w = .ok (.chan (some w.heap.size)) (w.alloc (.chan 1000 #[] false 0 0 false)) := by
  have hb : ∃ i, Try.prog.info? 32 = some i ∧ i.bytes = 24 := by
    have h : (Try.prog.info? 32).map (·.bytes) = some 24 := by kernel_rfl
    obtain ⟨i, hi, hb⟩ := Option.map_eq_some_iff.1 h
    exact ⟨i, hi, hb⟩
  obtain ⟨i, hi, hb⟩ := hb
  exact run_makeChan (P := Try.prog) (w := w) Try.underlying63 hi .i64 1000 (by omega) (by rw [hb]; omega)
/-- How many boxes it has. -/
def BOX (wr wx : World) (E : Nat) (cs : List Value) (r : Nat) : Prop :=
  (r = 0 ∧ Bk wx E 66 cs ∧ Chg (fun k => k = E) wr wx) ∨ (r = 1 ∧ ∃ C0, Bk wx E 66 (cs.set 5 (.chan (some C0))) ∧ Chg (fun k => k = E) wr wx ∧ Ck wx C0 [] ∧ wr.heap.size ≤ C0) ∨
    (r = 2 ∧ ∃ C0 C1, Bk wx E 66 ((cs.set 5 (.chan (some C0))).set 6 (.chan (some C1))) ∧ Chg (fun k => k = E) wr wx ∧ Ck wx C0 [] ∧ Ck wx C1 [] ∧ wr.heap.size ≤ C0 ∧ wr.heap.size ≤ C1 ∧ C0 ≠ C1)
theorem BOX.bk {wr wx : World} {E r : Nat} {cs : List Value} (h : BOX wr wx E cs r) (hl : cs.length = 8) : ∃ cs', Bk wx E 66 cs' ∧ cs'.length = 8 := by
  rcases h with ⟨_, h, _⟩ | ⟨_, C0, h, _⟩ | ⟨_, C0, C1, h, _⟩
  · exact ⟨_, h, hl⟩
  · exact ⟨_, h, by simpa using hl⟩
  · exact ⟨_, h, by simpa using hl⟩
theorem newE_bad {fl : List FT} {sl : List SY} (h : fl.all okF = false ∨ sl.all okS = false) : newE fl sl = 2 := by
  unfold newE
  rcases h with h | h <;> simp [h]
set_option maxRecDepth 100000 in
set_option maxHeartbeats 6400000 in
theorem new_any {w : World} {A B : Option Addr} {c d : Nat} {fl : List FT} {sl : List SY} (hF : Rd w A (fl.length * 4) (fcs fl)) (hS : Rd w B (sl.length * 3) (ycs sl)) (hA : At0 A) (hB : At0 B) (hX : ∀ y ∈ sl, Rd w y.A y.n (bys y.x)) (hfl : fl.length ≤ 100000) (hsl : sl.length ≤ 100000) :
    Calls Try.prog 11 #[.slice A fl.length c, .slice B sl.length d] w fun e w' => Below w.heap.size w w' ∧ ((newE fl sl = 2 ∧ e = .returned (.tuple #[.pointer none, .int .i64 2])) ∨
      (newE fl sl = 0 ∧ ∃ E, e = .returned (.tuple #[.pointer (some ⟨E, 0, none⟩), .int .i64 0]) ∧ Ew w' w.heap.size E (ES.new fl sl) (fun k => w.heap.size ≤ k ∧ k < w'.heap.size))) := by
  obtain ⟨n, hn⟩ : ∃ n, fl.length = n := ⟨_, rfl⟩
  obtain ⟨k, hk⟩ : ∃ k, sl.length = k := ⟨_, rfl⟩
  have HL := Lib.hid (And.intro hn hk)
  have H := Lib.hid (And.intro hF (And.intro hS (And.intro hA (And.intro hB (And.intro hX (And.intro hfl hsl))))))
  have n1 : decide (100000 < n) = false := decide_eq_false (by omega)
  have k1 : decide (100000 < k) = false := decide_eq_false (by omega)
  have n2 : (n : Int) ≤ 100000 := by omega
  have k2 : (k : Int) ≤ 100000 := by omega
  rw [hn, hk]
  clear hF hS hA hB hX hfl hsl hn hk
  go_enter Try.func11, Try.ntmps11
  go_wp2_with fail
  go_loopw [22] (fun i wx => ∃ j : Nat, j ≤ n ∧ i = .int .i64 j ∧ Hid (Below w.heap.size w wx ∧ (fl.take j).all okF = true)) (fun i wx => n - (intOf i).toNat)
  case atStart => exact ⟨0, Nat.zero_le _, rfl, Lib.hid ⟨Below.refl _ _, rfl⟩⟩
  case round =>
    obtain ⟨j, hj, rfl, HJ⟩ := hrel
    by_cases hlt : j < n
    · obtain ⟨g, b1, i2, b3, i4, hg, hf, y0, y1, y2, y3⟩ := rd_fate (H.out.1.below HJ.out.1) H.out.2.2.1 (j := j) (by rw [HL.out.1]; exact hlt)
      have hlz : decide (j < n) = true := decide_eq_true hlt
      have ej : IntKind.i64.wrap ((j : Int) + 1) = ((j + 1 : Nat) : Int) := by rw [IntKind.wrap_i64]; omega
      rw [hg]
      have HY := Lib.hid (And.intro hf (And.intro hj hlt))
      clear hg hf hj
      go_wp2_with fail
      refine (late_any i2).mono ?_
      rintro e w1 ⟨rfl, rfl⟩
      have HK := Lib.hid (below_base HJ.out.1 ((Below.refl wr.heap.size wr).alloc (Nat.le_refl _) (.cells #[.bool b1, .int .i64 i2, .bool b3, .int .i64 i4] 53)) HJ.out.1.size)
      cases hl1 : isLate i2
      · go_wp2_with fail
        go_ret2
        refine ⟨HK.out, .inl ⟨newE_bad (.inl (all_no (j := j) (by rw [HL.out.1]; exact hlt) (by rw [HY.out.1]; unfold okF; rw [hl1]; rfl))), rfl⟩⟩
      · go_wp2_with fail
        refine (late_any i4).mono ?_
        rintro e w1 ⟨rfl, rfl⟩
        cases hl2 : isLate i4
        · go_wp2_with fail
          go_ret2
          refine ⟨HK.out, .inl ⟨newE_bad (.inl (all_no (j := j) (by rw [HL.out.1]; exact hlt) (by rw [HY.out.1]; unfold okF; rw [hl2, Bool.and_false]))), rfl⟩⟩
        · go_wp2_with fail
          refine ⟨⟨j + 1, hlt, rfl, Lib.hid ⟨HK.out, all_succ (by rw [HL.out.1]; exact hlt) HJ.out.2 (by rw [HY.out.1]; unfold okF; rw [hl1, hl2]; rfl)⟩⟩, by show n - ((j : Int) + 1).toNat < n - ((j : Int)).toNat; omega⟩
    · obtain rfl : j = n := by omega
      have hlz : decide (j < j) = false := decide_eq_false (by omega)
      have hfa := HJ.out.2
      rw [← HL.out.1, List.take_length] at hfa
      have HFA := Lib.hid hfa
      have HB := Lib.hid HJ.out.1
      clear hfa HJ hlz hlt hj
      go_wp2_with fail
      refine (clonef_any (l := fl) (by have := H.out.1.below HB.out; rw [HL.out.1] at this; exact this) (by omega)).mono ?_
      rintro e w1 ⟨v1, rfl, ho1, hb1⟩
      go_wp2_with fail
      have hb9 := below_base HB.out hb1 HB.out.size
      refine (clones_any (l := sl) (n := k) (by have := H.out.2.1.below hb9; rw [HL.out.2] at this; exact this) (by omega)).mono ?_
      rintro e w2 ⟨v2, rfl, ho2, hb2⟩
      obtain ⟨A1, d1, rfl⟩ := own_sl ho1
      obtain ⟨A2, d2, rfl⟩ := own_sl ho2
      have hst := NW.start (w := w) (wx := w2) (fl := fl) (sl := sl) (A1 := A1) (d1 := d1) (A2 := A2) (d2 := d2) (below_base hb9 hb2 hb9.size) (by rw [HL.out.1]; exact own_mono (own_below ho1 hb2) HB.out.size) (by rw [HL.out.2]; exact own_mono ho2 hb9.size)
      rw [HL.out.1, HL.out.2] at hst
      have HS := Lib.hid hst
      clear ho1 hb1 ho2 hb2 hb9 hst
      go_wp2_with fail
      obtain ⟨E, hE⟩ : ∃ E, w2.heap.size = E := ⟨_, rfl⟩
      rw [hE] at HS ⊢
      generalize w2.alloc (.cells #[.slice A1 j d1, .slice A2 k d2, .int .i64 0, .int .i64 0, .slice none 0 0, .chan none, .chan none, .int .i64 0] 66) = w3 at HS ⊢
      clear hE HB
      go_loopw [45] (fun i wx => ∃ q : Nat, q ≤ k ∧ i = .int .i64 q ∧ Hid ((∃ cur, NW w wx E A1 d1 A2 d2 fl sl cur q) ∧ (sl.take q).all okS = true)) (fun i wx => k - (intOf i).toNat)
      case atStart => exact ⟨0, Nat.zero_le _, rfl, Lib.hid ⟨⟨_, HS.out⟩, rfl⟩⟩
      case round =>
        obtain ⟨q, hq, rfl, HQ⟩ := hrel
        by_cases hqk : q < k
        · obtain ⟨cur, hnw⟩ := HQ.out.1
          have hlc := hnw.len
          rw [HL.out.2] at hlc
          obtain ⟨g2, cr, hA2, _⟩ := own_formN hnw.s (by omega)
          subst hA2
          obtain ⟨g, at_, dst, C, n', c', x, hg, hy, y0, y1, y2⟩ := rd_stray (H.out.2.1.below hnw.hb) H.out.2.2.2.1 (j := q) (by rw [HL.out.2]; exact hqk)
          have e1 := hnw.e.cell 1
          have hlz2 : decide (q < k) = true := decide_eq_true hqk
          have eq1 : IntKind.i64.wrap ((q : Int) + 1) = ((q + 1 : Nat) : Int) := by rw [IntKind.wrap_i64]; omega
          have HN := Lib.hid (And.intro hnw (And.intro hy (And.intro hlc hqk)))
          rw [hg]
          have hK := Below.refl wr.heap.size wr |>.alloc (Nat.le_refl _) (.cells #[.int .i64 at_, .int .i64 dst, .slice C n' c'] 45)
          have HK := Lib.hid (And.intro hK (below_base hnw.hb hK hnw.hb.size))
          have hbad : okS (⟨at_, dst, C, n', c', x⟩ : SY) = false → newE fl sl = 2 := fun h => newE_bad (.inr (all_no (j := q) (by rw [HL.out.2]; exact hqk) (by rw [hy]; exact h)))
          have HB2 := Lib.hid hbad
          clear hnw hlc hg hy hK hbad
          by_cases ha1 : at_ < 1
          · have ha2 : decide (at_ < 1) = true := decide_eq_true ha1
            clear ha1
            go_wp2_with fail
            go_ret2
            exact ⟨HK.out.2, .inl ⟨HB2.out (by unfold okS; have := of_decide_eq_true ha2; rw [decide_eq_false (by show ¬ 1 ≤ at_; omega)]; rfl), rfl⟩⟩
          · have ha2 : decide (at_ < 1) = false := decide_eq_false ha1
            have HA1 := Lib.hid ha1
            clear ha1
            go_wp2_with fail
            refine (end_any dst).mono ?_
            rintro e w4 ⟨rfl, rfl⟩
            cases hd : isEnd dst
            · go_wp2_with fail
              go_ret2
              exact ⟨HK.out.2, .inl ⟨HB2.out (by unfold okS; simp only [hd, Bool.and_false, Bool.false_and]), rfl⟩⟩
            · by_cases hn7 : 70000 < n'
              · have hn8 : decide ((70000 : Int) < (n' : Int)) = true := decide_eq_true (by omega)
                have hn9 : decide (70000 < n') = true := decide_eq_true hn7
                have HN7 := Lib.hid hn7
                clear hn7
                go_wp2_with fail
                go_ret2
                exact ⟨HK.out.2, .inl ⟨HB2.out (by unfold okS; have := HN7.out; rw [decide_eq_false (show ¬ n' ≤ 70000 by omega), Bool.and_false]), rfl⟩⟩
              · have hn8 : decide ((70000 : Int) < (n' : Int)) = false := decide_eq_false (by omega)
                have hn9 : decide (70000 < n') = false := decide_eq_false hn7
                have HN7 := Lib.hid hn7
                clear hn7
                go_wp2_with fail
                obtain ⟨hcs, hfs⟩ := own_cellN HN.out.1.s (i := q * 3 + 2) (by rw [ycs_length, HN.out.2.2.1]; omega)
                obtain ⟨u0, hu0⟩ : ∃ u0, wr.cell? ⟨g2, q * 3 + 2, none⟩ = some u0 := by
                  rw [hcs]
                  exact ⟨_, List.getElem?_eq_getElem (by rw [ycs_length, HN.out.2.2.1]; omega)⟩
                have K2 : (wr.alloc (.cells #[.int .i64 at_, .int .i64 dst, .slice C n' c'] 45)).cell? ⟨wr.heap.size, 2, none⟩ = some (.slice C n' c') := (Bk.newA wr 45 #[.int .i64 at_, .int .i64 dst, .slice C n' c']).cell 2
                have hfk := below_frozen (HK.out.1) hu0 hfs
                have hu1 := cell_below HK.out.1 hu0
                have e1' := cell_below HK.out.1 e1
                have hx1 := (H.out.2.2.2.2.1 _ (List.getElem_mem (by rw [HL.out.2]; exact hqk : q < sl.length))).below HK.out.2
                rw [HN.out.2.1] at hx1
                have hx2 : Rd (wr.alloc (.cells #[.int .i64 at_, .int .i64 dst, .slice C n' c'] 45)) C n' (bys x) := hx1
                have HX := Lib.hid hx2
                have hg2 := (own_ge HN.out.1.s ⟨g2, 0, none⟩ rfl).2
                have hd1 : ¬ wr.heap.size = g2 := fun e => by have : g2 < wr.heap.size := hg2; omega
                have hd2 : ¬ E = g2 := fun e => by
                  have q1 : Ty wr E 66 := ⟨_, HN.out.1.e⟩
                  exact (own_ty HN.out.1.s (g := g2) rfl).1.ne q1 (by decide) e.symm
                have hd3 : ¬ g2 = wr.heap.size := fun e => hd1 e.symm
                have hd4 : ¬ g2 = E := fun e => hd2 e.symm
                clear hx1 hx2 hg2 hcs hfs hu0 e1 y0 y1 y2
                generalize wr.alloc (.cells #[.int .i64 at_, .int .i64 dst, .slice C n' c'] 45) = K at HK HX K2 hfk hu1 e1' ⊢
                have FC := Lib.hid (show ∀ w1, Below K.heap.size K w1 → w1.cell? ⟨E, 1, none⟩ = some (.slice (some ⟨g2, 0, none⟩) k d2) ∧ w1.cell? ⟨wr.heap.size, 2, none⟩ = some (.slice C n' c') ∧ w1.cell? ⟨g2, q * 3 + 2, none⟩ = some u0 ∧ w1.frozen? ⟨g2, q * 3 + 2, none⟩ = false from fun w1 hb => ⟨by rw [← HN.out.2.2.1]; exact cell_below hb e1', cell_below hb K2, cell_below hb hu1, below_frozen hb hu1 hfk⟩)
                rw [HN.out.2.2.1] at e1'
                have HG := Lib.hid (show okS (⟨at_, dst, C, n', c', x⟩ : SY) = true from by
                  unfold okS
                  have h1 := of_decide_eq_false ha2
                  have h2 := HN7.out
                  rw [decide_eq_true (show 1 ≤ at_ by omega), decide_eq_true (show n' ≤ 70000 by omega)]
                  show (true && isEnd dst && true) = true
                  rw [hd]; rfl)
                clear ha2 hd hn8 hn9
                go_region_held3 (fun w' => w'.cell? ⟨E, 1, none⟩ = some (.slice (some ⟨g2, 0, none⟩) k d2) ∧ w'.cell? ⟨wr.heap.size, 2, none⟩ = some (.slice C n' c'))
                  (first | exact ⟨(FC.out _ S1.out.2).1, (FC.out _ S1.out.2).2.1⟩ | go_keep)
                  (first
                    | (go_at_call 34; refine (clone_any (HX.out.below (Below.refl K.heap.size K).drew) (by have := HN7.out; omega)).mono ?_; rintro e w5 ⟨v5, rfl, ho5, hb5⟩; obtain ⟨A5, d5, rfl, hd5, hx5⟩ := own_form ho5; clear hd5 hx5; have S1 := Lib.hid (And.intro ho5 (below_undrew hb5)); obtain ⟨_, _, u5, f5⟩ := FC.out _ (below_undrew hb5); have wn5 := World.new_ne w5 _ u5; clear ho5 hb5))
                go_wp2_with fail
                refine ⟨⟨q + 1, hqk, rfl, Lib.hid ⟨HN.out.1.step' (by rw [HL.out.2]; exact hqk) HN.out.2.1 (below_base HK.out.1 S1.out.2 HK.out.1.size) (own_mono S1.out.1 HK.out.1.size) (by have := HN7.out; omega), all_succ (by rw [HL.out.2]; exact hqk) HQ.out.2 (by rw [HN.out.2.1]; exact HG.out)⟩⟩, by show k - ((q : Int) + 1).toNat < k - ((q : Int)).toNat; omega⟩
        · obtain rfl : q = k := by omega
          have hlz2 : decide (q < q) = false := decide_eq_false (by omega)
          obtain ⟨cur, hnw⟩ := HQ.out.1
          have hsa := HQ.out.2
          rw [← HL.out.2, List.take_length] at hsa
          rw [← HL.out.2] at hnw
          have HB := Lib.hid (And.intro hnw hsa)
          clear hnw hsa hlz2 HQ hq hqk
          have hlz2 : decide (q < q) = false := decide_eq_false (by omega)
          go_wp2_with fail
          have hmk := mk_box
          go_loopw [76, 11] (fun i s11 wx => ∃ r : Nat, r ≤ 2 ∧ i = .int .i64 r ∧ Hid (BOX wr wx E [.slice A1 fl.length d1, .slice A2 cur.length d2, .int .i64 0, .int .i64 0, .slice none 0 0, .chan none, .chan none, .int .i64 0] r ∧ Below w.heap.size w wx)) (fun i s11 wx => 2 - (intOf i).toNat)
          case atStart => exact ⟨0, by omega, rfl, Lib.hid ⟨.inl ⟨rfl, HB.out.1.e, Chg.refl _ _⟩, HB.out.1.hb⟩⟩
          case round =>
            obtain ⟨r, hr, rfl, HR⟩ := hrel
            rcases (show r = 0 ∨ r = 1 ∨ r = 2 by omega) with rfl | rfl | rfl
            · obtain ⟨cs9, hb9, h95⟩ := HR.out.1.bk rfl
              have f5 := hb9.frozen 5
              obtain ⟨u5, hu5⟩ : ∃ u, wr.cell? ⟨E, 5, none⟩ = some u := ⟨_, (hb9.cell 5).trans (List.getElem?_eq_getElem (by omega))⟩
              have wn5 := World.new_ne _ _ hu5
              have hba := (Below.refl wr.heap.size wr).alloc (Nat.le_refl _) (.chan 1000 #[] false 0 0 false)
              have hu6 := cell_below hba hu5
              have f6 := below_frozen hba hu5 f5
              clear hb9 h95 hba
              clear hr
              go_wp2_with fail
              go_region_held3 (fun w' => True) (first | exact True.intro | go_keep) (fail)
              go_wp2_with fail
              refine ⟨⟨1, by omega, rfl, Lib.hid ⟨?_, ?_⟩⟩, by decide⟩
              · rcases HR.out.1 with ⟨_, g1, g2⟩ | ⟨h0, _⟩ | ⟨h0, _⟩
                · obtain ⟨z1, z2, z3, z4, z5⟩ := new_box (i := 5) g1 g2
                  exact .inr (.inl ⟨rfl, wr.heap.size, z1, ⟨z2.1.drew, z2.2⟩, z3, z4⟩)
                · cases h0
                · cases h0
              · exact (Below.setCell (p := ⟨E, 5, none⟩) (HR.out.2.alloc (HR.out.2.size) _) HB.out.1.eb _).drew
            · obtain ⟨cs9, hb9, h95⟩ := HR.out.1.bk rfl
              have f5 := hb9.frozen 6
              obtain ⟨u5, hu5⟩ : ∃ u, wr.cell? ⟨E, 6, none⟩ = some u := ⟨_, (hb9.cell 6).trans (List.getElem?_eq_getElem (by omega))⟩
              have wn5 := World.new_ne _ _ hu5
              have hba := (Below.refl wr.heap.size wr).alloc (Nat.le_refl _) (.chan 1000 #[] false 0 0 false)
              have hu6 := cell_below hba hu5
              have f6 := below_frozen hba hu5 f5
              clear hb9 h95 hba
              clear hr
              go_wp2_with fail
              go_region_held3 (fun w' => True) (first | exact True.intro | go_keep) (fail)
              go_wp2_with fail
              refine ⟨⟨2, by omega, rfl, Lib.hid ⟨?_, ?_⟩⟩, by decide⟩
              · rcases HR.out.1 with ⟨h0, _⟩ | ⟨_, C0, g1, g2, g3, g4⟩ | ⟨h0, _⟩
                · cases h0
                · obtain ⟨z1, z2, z3, z4, z5⟩ := new_box (i := 6) g1 g2
                  exact .inr (.inr ⟨rfl, C0, wr.heap.size, z1, ⟨z2.1.drew, z2.2⟩, (z5 _ _ g3).1, z3, g4, z4, (z5 _ _ g3).2⟩)
                · cases h0
              · exact (Below.setCell (p := ⟨E, 6, none⟩) (HR.out.2.alloc (HR.out.2.size) _) HB.out.1.eb _).drew
            · go_wp2_with fail
              go_ret2
              have hbo := HR.out
              rcases hbo.1 with ⟨h0, _⟩ | ⟨h0, _⟩ | ⟨_, C0, C1, g1, g2, g3, g4, g5, g6, g7⟩
              · cases h0
              · cases h0
              have hdn := HB.out.1.done HFA.out HB.out.2 H.out.2.2.2.2.2.1 H.out.2.2.2.2.2.2 g1 g2 g3 g4 g7 g5 g6
              refine ⟨hbo.2, .inr ⟨?_, E, rfl, hdn⟩⟩
              unfold newE
              rw [HFA.out, HB.out.2]; rfl
end Go.Proofs.Ytknpghemogfenaa
