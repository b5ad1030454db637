/- Chapter 12: Put. -/
import Derived.Test.YthnoeiiebokooaaPt12
namespace Go.Proofs.Ythnoeiiebokooaa
open Go.RowKit
set_option linter.unusedVariables false
def fldC (m : MF) (k : Nat) : List Value := (List.range 5).flatMap fun j => if j < k then [.int .i64 (fw j : Int), .int .i64 (fn m j)] else [.int .i64 0, .int .i64 0]
theorem ixA0 (a b c d e : Int) (w : World) : (Instr.index 50 (.agg #[.int .i64 a, .int .i64 b, .int .i64 c, .int .i64 d, .int .i64 e]) (.int .i64 0)).run Try.prog w = .ok (.int .i64 a) w := by kernel_rfl
theorem ixA1 (a b c d e : Int) (w : World) : (Instr.index 50 (.agg #[.int .i64 a, .int .i64 b, .int .i64 c, .int .i64 d, .int .i64 e]) (.int .i64 1)).run Try.prog w = .ok (.int .i64 b) w := by kernel_rfl
theorem ixA2 (a b c d e : Int) (w : World) : (Instr.index 50 (.agg #[.int .i64 a, .int .i64 b, .int .i64 c, .int .i64 d, .int .i64 e]) (.int .i64 2)).run Try.prog w = .ok (.int .i64 c) w := by kernel_rfl
theorem ixA3 (a b c d e : Int) (w : World) : (Instr.index 50 (.agg #[.int .i64 a, .int .i64 b, .int .i64 c, .int .i64 d, .int .i64 e]) (.int .i64 3)).run Try.prog w = .ok (.int .i64 d) w := by kernel_rfl
theorem ixA4 (a b c d e : Int) (w : World) : (Instr.index 50 (.agg #[.int .i64 a, .int .i64 b, .int .i64 c, .int .i64 d, .int .i64 e]) (.int .i64 4)).run Try.prog w = .ok (.int .i64 e) w := by kernel_rfl
theorem ixB0 (a b c d e f g h i j : Int) (w : World) : (Instr.index 65 (.agg #[.int .i64 a, .int .i64 b, .int .i64 c, .int .i64 d, .int .i64 e, .int .i64 f, .int .i64 g, .int .i64 h, .int .i64 i, .int .i64 j]) (.int .i64 0)).run Try.prog w = .ok (.agg #[.int .i64 a, .int .i64 b]) w := by kernel_rfl
theorem ixB1 (a b c d e f g h i j : Int) (w : World) : (Instr.index 65 (.agg #[.int .i64 a, .int .i64 b, .int .i64 c, .int .i64 d, .int .i64 e, .int .i64 f, .int .i64 g, .int .i64 h, .int .i64 i, .int .i64 j]) (.int .i64 1)).run Try.prog w = .ok (.agg #[.int .i64 c, .int .i64 d]) w := by kernel_rfl
theorem ixB2 (a b c d e f g h i j : Int) (w : World) : (Instr.index 65 (.agg #[.int .i64 a, .int .i64 b, .int .i64 c, .int .i64 d, .int .i64 e, .int .i64 f, .int .i64 g, .int .i64 h, .int .i64 i, .int .i64 j]) (.int .i64 2)).run Try.prog w = .ok (.agg #[.int .i64 e, .int .i64 f]) w := by kernel_rfl
theorem ixB3 (a b c d e f g h i j : Int) (w : World) : (Instr.index 65 (.agg #[.int .i64 a, .int .i64 b, .int .i64 c, .int .i64 d, .int .i64 e, .int .i64 f, .int .i64 g, .int .i64 h, .int .i64 i, .int .i64 j]) (.int .i64 3)).run Try.prog w = .ok (.agg #[.int .i64 g, .int .i64 h]) w := by kernel_rfl
theorem ixB4 (a b c d e f g h i j : Int) (w : World) : (Instr.index 65 (.agg #[.int .i64 a, .int .i64 b, .int .i64 c, .int .i64 d, .int .i64 e, .int .i64 f, .int .i64 g, .int .i64 h, .int .i64 i, .int .i64 j]) (.int .i64 4)).run Try.prog w = .ok (.agg #[.int .i64 i, .int .i64 j]) w := by kernel_rfl
theorem WrK.set {w0 w : World} {P c L : Nat} {A : Option Addr} {s : WS} {T : TypeId} {cs : List Value} (h : WrK w0 w P A c s L T cs) (hL : w0.heap.size ≤ L) (i : Nat) (u : Value) : WrK w0 (w.setCell ⟨L, i, none⟩ u) P A c s L T (cs.set i u) := by
  obtain ⟨⟨h1, h2, h3⟩, h4, h5⟩ := h
  have hc : Chg (fun k => k = L) w (w.setCell ⟨L, i, none⟩ u) := (Chg.refl (fun k => k = L) w).set_ (show L = L from rfl) _ _
  refine ⟨⟨h1.chg hc (fun e => h5 (.inl e.symm)) (fun a ha e => h5 (.inr ⟨a, ha, e⟩)), h2, hc.below h3 (fun k _ e => by omega) h3.size⟩, h4.set_ i u, h5⟩
theorem WrK.pair {w0 w : World} {P c L : Nat} {A : Option Addr} {s : WS} {T : TypeId} {m : MF} {q : Nat} (h : WrK w0 w P A c s L T (fldC m q)) (hL : w0.heap.size ≤ L) (hq : q < 5) : WrK w0 ((w.setCell ⟨L, 2 * q, none⟩ (.int .i64 (fw q : Int))).setCell ⟨L, 2 * q + 1, none⟩ (.int .i64 (fn m q))) P A c s L T (fldC m (q + 1)) := by
  have := (h.set hL (2 * q) (.int .i64 (fw q : Int))).set hL (2 * q + 1) (.int .i64 (fn m q))
  rcases (show q = 0 ∨ q = 1 ∨ q = 2 ∨ q = 3 ∨ q = 4 from by omega) with rfl | rfl | rfl | rfl | rfl <;> exact this
set_option maxRecDepth 100000 in
set_option maxHeartbeats 3200000 in
/-- manifest.Put -/
theorem putM_any {w : World} {A : Option Addr} {n c : Nat} {m : MF} (h : MA w A n c m) :
    Calls Try.prog 17 #[m.v A n c] w (TdB w (ptV m) (mfE m)) := by
  obtain ⟨z, s, k, d, t⟩ := m
  have hb1 := (Below.refl w.heap.size w).alloc (Nat.le_refl _) (.cells #[.int .i64 z, .int .i64 s, .int .i64 k, .int .i64 d, .slice A n c] 27)
  have hz := Bk.newA w 27 #[.int .i64 z, .int .i64 s, .int .i64 k, .int .i64 d, .slice A n c]
  have hm := h.below ((Below.refl w.heap.size w).alloc (Nat.le_refl _) (.cells #[.int .i64 z, .int .i64 s, .int .i64 k, .int .i64 d, .slice A n c] 27))
  have H := Lib.hid (And.intro hb1 (And.intro hz hm))
  obtain ⟨c0, c1, c2, c3, c4⟩ := cells5 hz
  clear h hb1 hz hm
  show Calls Try.prog 17 #[.agg #[.int .i64 z, .int .i64 s, .int .i64 k, .int .i64 d, .slice A n c]] w _
  go_enter Try.func17, Try.ntmps17
  go_wp2_with fail
  refine (check_any H.out.2.2).mono ?_
  rintro e w1 ⟨rfl, hb2⟩
  have H1 := Lib.hid (And.intro (H.out.2.1.belowS hb2) (And.intro (below_base H.out.1 hb2 H.out.1.size) (H.out.2.2.below hb2)))
  clear c0 c1 c2 c3 c4 hb2
  cases hq : mfB ⟨z, s, k, d, t⟩ with
  | false =>
    have hE : mfE ⟨z, s, k, d, t⟩ = 2 := by unfold mfE; rw [hq]; rfl
    rw [hE]
    have HN := Lib.hid (And.intro (show ptV ⟨z, s, k, d, t⟩ = [] from by unfold ptV; rw [hq]; rfl) hE)
    clear hq hE
    go_wp2
    go_ret2
    rw [HN.out.1, HN.out.2]
    exact ⟨_, rfl, World.ownsRow_nil _ _ _ _, H1.out.2.1⟩
  | true =>
    have hE : mfE ⟨z, s, k, d, t⟩ = 0 := by unfold mfE; rw [hq]; rfl
    rw [hE]
    have hl : t.length = n := H.out.2.2.2.2.2.1
    have hn : n ≤ 10000 := by have := (mfB_iff.1 hq).2.2.2.2.1; simp only at this; omega
    have HN := Lib.hid (And.intro (show ptV ⟨z, s, k, d, t⟩ = mfP ⟨z, s, k, d, t⟩ from by unfold ptV; rw [hq]; rfl) (And.intro hE (And.intro hq hl)))
    clear hq hE hl
    obtain ⟨c0, c1, c2, c3, c4⟩ := cells5 H1.out.1
    go_wp2_with fail
    refine (newW_any _).mono ?_
    intro e w2 hNw
    unfold NwPost at hNw
    rw [if_neg (by omega)] at hNw
    obtain ⟨P, rfl, hwo, hP, hb3⟩ := hNw
    have H2 := Lib.hid (And.intro (show WrS w1 w2 P none 0 ⟨20 + 4 * (n : Int), [], 0⟩ from ⟨hwo, hP, hb3⟩) (And.intro (H1.out.1.belowS hb3) (H1.out.2.2.below hb3)))
    clear c0 c1 c2 c3 c4 hwo hP hb3
    obtain ⟨c0, c1, c2, c3, c4⟩ := cells5 (H2.out.2.1.alloc (.cells #[.int .i64 0, .int .i64 0, .int .i64 0, .int .i64 0, .int .i64 0, .int .i64 0, .int .i64 0, .int .i64 0, .int .i64 0, .int .i64 0] 65))
    have hL := Bk.newA w2 65 #[.int .i64 0, .int .i64 0, .int .i64 0, .int .i64 0, .int .i64 0, .int .i64 0, .int .i64 0, .int .i64 0, .int .i64 0, .int .i64 0]
    have hne : w.heap.size ≠ w2.heap.size := Nat.ne_of_lt H2.out.2.1.lt
    have H3 := Lib.hid (show WrK w1 (w2.alloc (.cells #[.int .i64 0, .int .i64 0, .int .i64 0, .int .i64 0, .int .i64 0, .int .i64 0, .int .i64 0, .int .i64 0, .int .i64 0, .int .i64 0] 65)) P none 0 ⟨20 + 4 * (n : Int), [], 0⟩ w2.heap.size 65 (fldC ⟨z, s, k, d, t⟩ 0) from ⟨H2.out.1.below ((Below.refl _ _).alloc (Nat.le_refl _) _), hL, wset_new H2.out.1.1 (Nat.le_refl _)⟩)
    clear hL
    go_wp2_with fail
    generalize (w2.alloc (.cells #[.int .i64 0, .int .i64 0, .int .i64 0, .int .i64 0, .int .i64 0, .int .i64 0, .int .i64 0, .int .i64 0, .int .i64 0, .int .i64 0] 65)) = w3 at H3 c0 c1 c2 c3 c4 ⊢
    go_loopw [43] (fun i wr => ∃ q : Nat, q ≤ 5 ∧ i = .int .i64 q ∧ WrK w1 wr P none 0 ⟨20 + 4 * (n : Int), [], 0⟩ w2.heap.size 65 (fldC ⟨z, s, k, d, t⟩ q)) (fun i wr => 5 - (intOf i).toNat)
    case atStart => exact ⟨0, by omega, rfl, H3.out⟩
    case round =>
      obtain ⟨q, hq5, hi, hK⟩ := hrel
      rcases (show q = 0 ∨ q = 1 ∨ q = 2 ∨ q = 3 ∨ q = 4 ∨ q = 5 from by omega) with rfl | rfl | rfl | rfl | rfl | rfl
      · have HK := Lib.hid hK
        replace hi := hi.trans (show Value.int .i64 ((0 : Nat) : Int) = .int .i64 0 from rfl)
        subst hi
        have x1 := ixA0 z s k d (n : Int)
        have x2 := ixA0 4 2 4 8 2
        clear hK
        go_wp2_with fail
        refine widths_any.mono ?_
        rintro e wx ⟨rfl, hbx⟩
        have hB := HK.out.below hbx
        have f0 := hB.2.1.frozen 0
        have f1 := hB.2.1.frozen 1
        have k0 : wx.cell? { block := w2.heap.size, off := 0 } = some (.int .i64 0) := (hB.2.1.cell 0).trans rfl
        have k1 : wx.cell? { block := w2.heap.size, off := 1 } = some (.int .i64 0) := (hB.2.1.cell 1).trans rfl
        have HX := Lib.hid hB
        clear hB hbx
        go_wp2_with fail
        refine ⟨⟨1, by omega, rfl, ?_⟩, by show 5 - 1 < 5 - 0; omega⟩
        have := HX.out.pair H2.out.1.2.2.size (by omega)
        rw [show fn ⟨z, s, k, d, t⟩ 0 = z from rfl] at this
        exact this
      · have HK := Lib.hid hK
        replace hi := hi.trans (show Value.int .i64 ((1 : Nat) : Int) = .int .i64 1 from rfl)
        subst hi
        have x1 := ixA1 z s k d (n : Int)
        have x2 := ixA1 4 2 4 8 2
        clear hK
        go_wp2_with fail
        refine widths_any.mono ?_
        rintro e wx ⟨rfl, hbx⟩
        have hB := HK.out.below hbx
        have f0 := hB.2.1.frozen 2
        have f1 := hB.2.1.frozen 3
        have k0 : wx.cell? { block := w2.heap.size, off := 2 } = some (.int .i64 0) := (hB.2.1.cell 2).trans rfl
        have k1 : wx.cell? { block := w2.heap.size, off := 3 } = some (.int .i64 0) := (hB.2.1.cell 3).trans rfl
        have HX := Lib.hid hB
        clear hB hbx
        go_wp2_with fail
        refine ⟨⟨2, by omega, rfl, ?_⟩, by show 5 - 2 < 5 - 1; omega⟩
        have := HX.out.pair H2.out.1.2.2.size (by omega)
        rw [show fn ⟨z, s, k, d, t⟩ 1 = s from rfl] at this
        exact this
      · have HK := Lib.hid hK
        replace hi := hi.trans (show Value.int .i64 ((2 : Nat) : Int) = .int .i64 2 from rfl)
        subst hi
        have x1 := ixA2 z s k d (n : Int)
        have x2 := ixA2 4 2 4 8 2
        clear hK
        go_wp2_with fail
        refine widths_any.mono ?_
        rintro e wx ⟨rfl, hbx⟩
        have hB := HK.out.below hbx
        have f0 := hB.2.1.frozen 4
        have f1 := hB.2.1.frozen 5
        have k0 : wx.cell? { block := w2.heap.size, off := 4 } = some (.int .i64 0) := (hB.2.1.cell 4).trans rfl
        have k1 : wx.cell? { block := w2.heap.size, off := 5 } = some (.int .i64 0) := (hB.2.1.cell 5).trans rfl
        have HX := Lib.hid hB
        clear hB hbx
        go_wp2_with fail
        refine ⟨⟨3, by omega, rfl, ?_⟩, by show 5 - 3 < 5 - 2; omega⟩
        have := HX.out.pair H2.out.1.2.2.size (by omega)
        rw [show fn ⟨z, s, k, d, t⟩ 2 = k from rfl] at this
        exact this
      · have HK := Lib.hid hK
        replace hi := hi.trans (show Value.int .i64 ((3 : Nat) : Int) = .int .i64 3 from rfl)
        subst hi
        have x1 := ixA3 z s k d (n : Int)
        have x2 := ixA3 4 2 4 8 2
        clear hK
        go_wp2_with fail
        refine widths_any.mono ?_
        rintro e wx ⟨rfl, hbx⟩
        have hB := HK.out.below hbx
        have f0 := hB.2.1.frozen 6
        have f1 := hB.2.1.frozen 7
        have k0 : wx.cell? { block := w2.heap.size, off := 6 } = some (.int .i64 0) := (hB.2.1.cell 6).trans rfl
        have k1 : wx.cell? { block := w2.heap.size, off := 7 } = some (.int .i64 0) := (hB.2.1.cell 7).trans rfl
        have HX := Lib.hid hB
        clear hB hbx
        go_wp2_with fail
        refine ⟨⟨4, by omega, rfl, ?_⟩, by show 5 - 4 < 5 - 3; omega⟩
        have := HX.out.pair H2.out.1.2.2.size (by omega)
        rw [show fn ⟨z, s, k, d, t⟩ 3 = d from rfl] at this
        exact this
      · have HK := Lib.hid hK
        replace hi := hi.trans (show Value.int .i64 ((4 : Nat) : Int) = .int .i64 4 from rfl)
        subst hi
        have x1 := ixA4 z s k d (n : Int)
        have x2 := ixA4 4 2 4 8 2
        clear hK
        go_wp2_with fail
        refine widths_any.mono ?_
        rintro e wx ⟨rfl, hbx⟩
        have hB := HK.out.below hbx
        have f0 := hB.2.1.frozen 8
        have f1 := hB.2.1.frozen 9
        have k0 : wx.cell? { block := w2.heap.size, off := 8 } = some (.int .i64 0) := (hB.2.1.cell 8).trans rfl
        have k1 : wx.cell? { block := w2.heap.size, off := 9 } = some (.int .i64 0) := (hB.2.1.cell 9).trans rfl
        have HX := Lib.hid hB
        clear hB hbx
        go_wp2_with fail
        refine ⟨⟨5, by omega, rfl, ?_⟩, by show 5 - 5 < 5 - 4; omega⟩
        have := HX.out.pair H2.out.1.2.2.size (by omega)
        rw [show fn ⟨z, s, k, d, t⟩ 4 = (n : Int) from by rw [← HN.out.2.2.2]; rfl] at this
        exact this
      · have HK := Lib.hid (And.intro hK (hK.1.2.2))
        replace hi := hi.trans (show Value.int .i64 ((5 : Nat) : Int) = .int .i64 5 from rfl)
        subst hi
        have k0 : wr.cell? { block := w2.heap.size, off := 0 } = some (.int .i64 4) := (hK.2.1.cell 0).trans rfl
        have k1 : wr.cell? { block := w2.heap.size, off := 1 } = some (.int .i64 z) := (hK.2.1.cell 1).trans rfl
        have k2 : wr.cell? { block := w2.heap.size, off := 2 } = some (.int .i64 2) := (hK.2.1.cell 2).trans rfl
        have k3 : wr.cell? { block := w2.heap.size, off := 3 } = some (.int .i64 s) := (hK.2.1.cell 3).trans rfl
        have k4 : wr.cell? { block := w2.heap.size, off := 4 } = some (.int .i64 4) := (hK.2.1.cell 4).trans rfl
        have k5 : wr.cell? { block := w2.heap.size, off := 5 } = some (.int .i64 k) := (hK.2.1.cell 5).trans rfl
        have k6 : wr.cell? { block := w2.heap.size, off := 6 } = some (.int .i64 8) := (hK.2.1.cell 6).trans rfl
        have k7 : wr.cell? { block := w2.heap.size, off := 7 } = some (.int .i64 d) := (hK.2.1.cell 7).trans rfl
        have k8 : wr.cell? { block := w2.heap.size, off := 8 } = some (.int .i64 2) := (hK.2.1.cell 8).trans rfl
        have k9 : wr.cell? { block := w2.heap.size, off := 9 } = some (.int .i64 (n : Int)) := (hK.2.1.cell 9).trans (by rw [← HN.out.2.2.2]; rfl)
        clear hK
        go_wp2_with fail
        go_loopw [56] (fun i wr => ∃ q : Nat, q ≤ 5 ∧ i = .int .i64 q ∧ ∃ A' c', WrK w1 wr P A' c' ⟨20 + 4 * (n : Int), mfH ⟨z, s, k, d, t⟩ q, 0⟩ w2.heap.size 65 (fldC ⟨z, s, k, d, t⟩ 5)) (fun i wr => 5 - (intOf i).toNat)
        case atStart => exact ⟨0, by omega, rfl, _, _, HK.out.1⟩
        case round =>
          obtain ⟨q, hq5, hi, A', c', hK⟩ := hrel
          clear k0 k1 k2 k3 k4 k5 k6 k7 k8 k9
          rcases (show q = 0 ∨ q = 1 ∨ q = 2 ∨ q = 3 ∨ q = 4 ∨ q = 5 from by omega) with rfl | rfl | rfl | rfl | rfl | rfl
          · have HK := Lib.hid hK
            replace hi := hi.trans (show Value.int .i64 ((0 : Nat) : Int) = .int .i64 0 from rfl)
            subst hi
            have x1 := ixB0 4 z 2 s 4 k 8 d 2 (n : Int)
            have hL := Bk.newA wr 64 #[.int .i64 4, .int .i64 z]
            have k0 : (wr.alloc (.cells #[.int .i64 4, .int .i64 z] 64)).cell? { block := wr.heap.size, off := 0 } = some (.int .i64 4) := hL.cell 0
            have k1 : (wr.alloc (.cells #[.int .i64 4, .int .i64 z] 64)).cell? { block := wr.heap.size, off := 1 } = some (.int .i64 z) := hL.cell 1
            clear hK hL
            go_wp2_with fail
            refine (putW_any (HK.out.1.below ((Below.refl _ _).alloc (Nat.le_refl _) _)).1 H.out.2.2.2.2.2.2.1).mono ?_
            intro e wy hy
            have hp : (⟨20 + 4 * (n : Int), mfH ⟨z, s, k, d, t⟩ 0, 0⟩ : WS).put 4 z = ⟨20 + 4 * (n : Int), mfH ⟨z, s, k, d, t⟩ 1, 0⟩ := by
              have := put_fld (i := 0) HN.out.2.2.1 H.out.2.2.2.2.2.2.2.2.2.1 (by omega) (show 20 ≤ 20 + 4 * (n : Int) from by omega)
              skip
              exact this
            rw [hp] at hy
            obtain ⟨rfl, A2, c2, hW⟩ := (HK.out.below ((Below.refl _ _).alloc (Nat.le_refl _) _)).step hy
            have HY := Lib.hid hW
            clear hy hW
            go_wp2_with fail
            exact ⟨⟨1, by omega, rfl, _, _, HY.out⟩, by show 5 - 1 < 5 - 0; omega⟩
          · have HK := Lib.hid hK
            replace hi := hi.trans (show Value.int .i64 ((1 : Nat) : Int) = .int .i64 1 from rfl)
            subst hi
            have x1 := ixB1 4 z 2 s 4 k 8 d 2 (n : Int)
            have hL := Bk.newA wr 64 #[.int .i64 2, .int .i64 s]
            have k0 : (wr.alloc (.cells #[.int .i64 2, .int .i64 s] 64)).cell? { block := wr.heap.size, off := 0 } = some (.int .i64 2) := hL.cell 0
            have k1 : (wr.alloc (.cells #[.int .i64 2, .int .i64 s] 64)).cell? { block := wr.heap.size, off := 1 } = some (.int .i64 s) := hL.cell 1
            clear hK hL
            go_wp2_with fail
            refine (putW_any (HK.out.1.below ((Below.refl _ _).alloc (Nat.le_refl _) _)).1 H.out.2.2.2.2.2.2.2.1).mono ?_
            intro e wy hy
            have hp : (⟨20 + 4 * (n : Int), mfH ⟨z, s, k, d, t⟩ 1, 0⟩ : WS).put 2 s = ⟨20 + 4 * (n : Int), mfH ⟨z, s, k, d, t⟩ 2, 0⟩ := by
              have := put_fld (i := 1) HN.out.2.2.1 H.out.2.2.2.2.2.2.2.2.2.1 (by omega) (show 20 ≤ 20 + 4 * (n : Int) from by omega)
              skip
              exact this
            rw [hp] at hy
            obtain ⟨rfl, A2, c2, hW⟩ := (HK.out.below ((Below.refl _ _).alloc (Nat.le_refl _) _)).step hy
            have HY := Lib.hid hW
            clear hy hW
            go_wp2_with fail
            exact ⟨⟨2, by omega, rfl, _, _, HY.out⟩, by show 5 - 2 < 5 - 1; omega⟩
          · have HK := Lib.hid hK
            replace hi := hi.trans (show Value.int .i64 ((2 : Nat) : Int) = .int .i64 2 from rfl)
            subst hi
            have x1 := ixB2 4 z 2 s 4 k 8 d 2 (n : Int)
            have hL := Bk.newA wr 64 #[.int .i64 4, .int .i64 k]
            have k0 : (wr.alloc (.cells #[.int .i64 4, .int .i64 k] 64)).cell? { block := wr.heap.size, off := 0 } = some (.int .i64 4) := hL.cell 0
            have k1 : (wr.alloc (.cells #[.int .i64 4, .int .i64 k] 64)).cell? { block := wr.heap.size, off := 1 } = some (.int .i64 k) := hL.cell 1
            clear hK hL
            go_wp2_with fail
            refine (putW_any (HK.out.1.below ((Below.refl _ _).alloc (Nat.le_refl _) _)).1 H.out.2.2.2.2.2.2.2.2.1).mono ?_
            intro e wy hy
            have hp : (⟨20 + 4 * (n : Int), mfH ⟨z, s, k, d, t⟩ 2, 0⟩ : WS).put 4 k = ⟨20 + 4 * (n : Int), mfH ⟨z, s, k, d, t⟩ 3, 0⟩ := by
              have := put_fld (i := 2) HN.out.2.2.1 H.out.2.2.2.2.2.2.2.2.2.1 (by omega) (show 20 ≤ 20 + 4 * (n : Int) from by omega)
              skip
              exact this
            rw [hp] at hy
            obtain ⟨rfl, A2, c2, hW⟩ := (HK.out.below ((Below.refl _ _).alloc (Nat.le_refl _) _)).step hy
            have HY := Lib.hid hW
            clear hy hW
            go_wp2_with fail
            exact ⟨⟨3, by omega, rfl, _, _, HY.out⟩, by show 5 - 3 < 5 - 2; omega⟩
          · have HK := Lib.hid hK
            replace hi := hi.trans (show Value.int .i64 ((3 : Nat) : Int) = .int .i64 3 from rfl)
            subst hi
            have x1 := ixB3 4 z 2 s 4 k 8 d 2 (n : Int)
            have hL := Bk.newA wr 64 #[.int .i64 8, .int .i64 d]
            have k0 : (wr.alloc (.cells #[.int .i64 8, .int .i64 d] 64)).cell? { block := wr.heap.size, off := 0 } = some (.int .i64 8) := hL.cell 0
            have k1 : (wr.alloc (.cells #[.int .i64 8, .int .i64 d] 64)).cell? { block := wr.heap.size, off := 1 } = some (.int .i64 d) := hL.cell 1
            clear hK hL
            go_wp2_with fail
            refine (putW_any (HK.out.1.below ((Below.refl _ _).alloc (Nat.le_refl _) _)).1 H.out.2.2.2.2.2.2.2.2.2.1).mono ?_
            intro e wy hy
            have hp : (⟨20 + 4 * (n : Int), mfH ⟨z, s, k, d, t⟩ 3, 0⟩ : WS).put 8 d = ⟨20 + 4 * (n : Int), mfH ⟨z, s, k, d, t⟩ 4, 0⟩ := by
              have := put_fld (i := 3) HN.out.2.2.1 H.out.2.2.2.2.2.2.2.2.2.1 (by omega) (show 20 ≤ 20 + 4 * (n : Int) from by omega)
              skip
              exact this
            rw [hp] at hy
            obtain ⟨rfl, A2, c2, hW⟩ := (HK.out.below ((Below.refl _ _).alloc (Nat.le_refl _) _)).step hy
            have HY := Lib.hid hW
            clear hy hW
            go_wp2_with fail
            exact ⟨⟨4, by omega, rfl, _, _, HY.out⟩, by show 5 - 4 < 5 - 3; omega⟩
          · have HK := Lib.hid hK
            replace hi := hi.trans (show Value.int .i64 ((4 : Nat) : Int) = .int .i64 4 from rfl)
            subst hi
            have x1 := ixB4 4 z 2 s 4 k 8 d 2 (n : Int)
            have hL := Bk.newA wr 64 #[.int .i64 2, .int .i64 (n : Int)]
            have k0 : (wr.alloc (.cells #[.int .i64 2, .int .i64 (n : Int)] 64)).cell? { block := wr.heap.size, off := 0 } = some (.int .i64 2) := hL.cell 0
            have k1 : (wr.alloc (.cells #[.int .i64 2, .int .i64 (n : Int)] 64)).cell? { block := wr.heap.size, off := 1 } = some (.int .i64 (n : Int)) := hL.cell 1
            clear hK hL
            go_wp2_with fail
            refine (putW_any (HK.out.1.below ((Below.refl _ _).alloc (Nat.le_refl _) _)).1 (show R64 (n : Int) from by constructor <;> omega)).mono ?_
            intro e wy hy
            have hp : (⟨20 + 4 * (n : Int), mfH ⟨z, s, k, d, t⟩ 4, 0⟩ : WS).put 2 (n : Int) = ⟨20 + 4 * (n : Int), mfH ⟨z, s, k, d, t⟩ 5, 0⟩ := by
              have := put_fld (i := 4) HN.out.2.2.1 H.out.2.2.2.2.2.2.2.2.2.1 (by omega) (show 20 ≤ 20 + 4 * (n : Int) from by omega)
              rw [show fn ⟨z, s, k, d, t⟩ 4 = (n : Int) from by rw [← HN.out.2.2.2]; rfl] at this
              exact this
            rw [hp] at hy
            obtain ⟨rfl, A2, c2, hW⟩ := (HK.out.below ((Below.refl _ _).alloc (Nat.le_refl _) _)).step hy
            have HY := Lib.hid hW
            clear hy hW
            go_wp2_with fail
            exact ⟨⟨5, by omega, rfl, _, _, HY.out⟩, by show 5 - 5 < 5 - 4; omega⟩
          · have HK2 := Lib.hid (And.intro hK.1 (H1.out.2.2.below hK.1.2.2))
            replace hi := hi.trans (show Value.int .i64 ((5 : Nat) : Int) = .int .i64 5 from rfl)
            subst hi
            have hz := H1.out.1.belowS hK.1.2.2
            have c4 : wr.cell? { block := w.heap.size, off := 4 } = some (.slice A n c) := hz.cell 4
            have HZ := Lib.hid hz
            clear hK hz
            go_wp2_with fail
            go_loopw [69] (fun i wr => ∃ q : Nat, q ≤ n ∧ i = .int .i64 q ∧ ∃ A' c', WrS w1 wr P A' c' ⟨20 + 4 * (n : Int), mfH ⟨z, s, k, d, t⟩ 5 ++ tbB (t.take q), 0⟩) (fun i wr => n - (intOf i).toNat)
            case atStart => exact ⟨0, by omega, rfl, _, _, by rw [List.take_zero]; show WrS _ _ _ _ _ ⟨_, mfH ⟨z, s, k, d, t⟩ 5 ++ [], 0⟩; rw [List.append_nil]; exact HK2.out.1⟩
            case round =>
              obtain ⟨q, hqn, rfl, A', c', hK⟩ := hrel
              have HK := Lib.hid hK
              clear c4
              by_cases hlt : q < n
              · obtain ⟨b, off, rfl, hbl, hc⟩ := (H1.out.2.2.below hK.2.2).1.form (by omega)
                have hkl : q < t.length := by rw [HN.out.2.2.2]; exact hlt
                have cx := hc q _ (nums_gi hkl)
                have km : (q : Int) < (n : Int) := by omega
                have HL := Lib.hid (And.intro hlt hkl)
                have hrg : R64 (gi t q) := H1.out.2.2.2.2.2.2.2.2.2.2 _ (gi_mem hkl)
                have hg : gi t q = t[q] := gi_get hkl
                have HG := Lib.hid (And.intro hrg hg)
                clear hc hbl hqn hlt hK hrg hg
                go_wp2_with fail
                refine (putW_any HK.out.1 HG.out.1).mono ?_
                intro e wy hy
                rw [HG.out.2, show (n : Int) = ((MF.t ⟨z, s, k, d, t⟩).length : Int) from by rw [← HN.out.2.2.2], put_wt HN.out.2.2.1 HL.out.2] at hy
                obtain ⟨rfl, A2, d2, hW, _⟩ := HK.out.step hy
                have HY := Lib.hid hW
                clear hy hW
                go_wp2_with fail
                refine ⟨⟨q + 1, by have := HL.out.1; omega, by go_num, A2, d2, ?_⟩, by have := HL.out.1; simp [intOf]; omega⟩
                have := HY.out
                rw [show ((MF.t ⟨z, s, k, d, t⟩).length : Int) = (n : Int) from by rw [← HN.out.2.2.2]] at this
                exact this
              · have hqe : q = n := by omega
                subst hqe
                have km : ¬ (q : Int) < (q : Int) := by omega
                clear hK hlt hqn
                go_wp2_with fail
                refine (bytesW_any HK.out.1).mono ?_
                intro e wy hy
                obtain ⟨v, rfl, ho, hb⟩ := hy
                have HO := Lib.hid (And.intro ho hb)
                clear ho hb
                go_wp2
                go_ret2
                have hs : (⟨20 + 4 * (q : Int), mfH ⟨z, s, k, d, t⟩ 5 ++ tbB (t.take q), 0⟩ : WS).out = ptV ⟨z, s, k, d, t⟩ := by
                  rw [HN.out.1, ← HN.out.2.2.2, List.take_length]; rfl
                have hB := below_base H1.out.2.1 HK.out.2.2 H1.out.2.1.size
                rw [HN.out.2.1]
                have ho := HO.out.1
                rw [hs] at ho
                exact ⟨_, rfl, own_mono ho hB.size, below_base hB HO.out.2 hB.size⟩
end Go.Proofs.Ythnoeiiebokooaa
