/- Chapter 12: full, Blocks, Part, of both. -/
import Derived.Test.YtchdjbbhhjjmkaaMd12
namespace Go.Proofs.Ytchdjbbhhjjmkaa
open Go.RowKit
set_option linter.unusedVariables false
theorem cells5 {w : World} {g : Nat} {T : TypeId} {a b c d e : Value} (h : Bk w g T [a, b, c, d, e]) :
    w.cell? ⟨g, 0, none⟩ = some a ∧ w.cell? ⟨g, 1, none⟩ = some b ∧ w.cell? ⟨g, 2, none⟩ = some c ∧ w.cell? ⟨g, 3, none⟩ = some d ∧ w.cell? ⟨g, 4, none⟩ = some e :=
  ⟨h.cell 0, h.cell 1, h.cell 2, h.cell 3, h.cell 4⟩
/-- A return of a manifest that lies in a block. -/
theorem ret_mf {R : Ending → World → Prop} {fn : Func} {p : Tmp} (h : fn.results = #[.cell p 24]) {a : Act} {w : World} {g : Nat} {t : TypeId} {v0 v1 v2 v3 v4 : Value} (hp : a.tmps.getD p undef = .pointer (some ⟨g, 0, none⟩)) (hd : a.defers = [])
    (hg : Bk w g t [v0, v1, v2, v3, v4]) (hR : R (.returned (.agg #[v0, v1, v2, v3, v4])) w) : bodyPost Try.prog fn R .ret a w :=
  bodyPost_ret (results_cell_row h _ _ g t #[v0, v1, v2, v3, v4] (0, 0) _ hp hg Try.underlying24 rfl (by kernel_rfl)) hd hR
def MF.cs (m : MF) (A : Option Addr) (n c : Nat) : List Value := [.int .i64 m.z, .int .i64 m.s, .int .i64 m.k, .int .i64 m.d, .slice A n c]
section
variable {w : World} {A : Option Addr} {n c : Nat} {m : MF}
/-- full -/
theorem full_any {z s k d : Int} (h : IntKind.i64.wrap (k * s) = k * s) :
    Calls Try.prog 41 #[.agg #[.int .i64 z, .int .i64 s, .int .i64 k, .int .i64 d, .slice A n c]] w fun e w' => e = .returned (.int .i64 (k * s)) ∧ Below w.heap.size w w' := by
  have hb1 := (Below.refl w.heap.size w).alloc (Nat.le_refl _) (.cells #[.int .i64 z, .int .i64 s, .int .i64 k, .int .i64 d, .slice A n c] 24)
  have hz := Bk.newA w 24 #[.int .i64 z, .int .i64 s, .int .i64 k, .int .i64 d, .slice A n c]
  have H := Lib.hid hb1
  obtain ⟨c0, c1, c2, c3, c4⟩ := cells5 hz
  clear hb1 hz
  go_enter Try.func41, Try.ntmps41
  go_wp2
  go_ret
  exact ⟨rfl, H.out⟩
set_option maxRecDepth 100000 in
set_option maxHeartbeats 1600000 in
/-- Blocks -/
theorem blocks_any (h : MA w A n c m) :
    Calls Try.prog 23 #[m.v A n c] w fun e w' => e = .returned (.int .i64 (mfN m)) ∧ Below w.heap.size w w' := by
  obtain ⟨z, s, k, d, t⟩ := m
  have hb1 := (Below.refl w.heap.size w).alloc (Nat.le_refl _) (.cells #[.int .i64 z, .int .i64 s, .int .i64 k, .int .i64 d, .slice A n c] 24)
  have hz := Bk.newA w 24 #[.int .i64 z, .int .i64 s, .int .i64 k, .int .i64 d, .slice A n c]
  have hm := h.below ((Below.refl w.heap.size w).alloc (Nat.le_refl _) (.cells #[.int .i64 z, .int .i64 s, .int .i64 k, .int .i64 d, .slice A n c] 24))
  have H := Lib.hid (And.intro hb1 (And.intro hz hm))
  obtain ⟨c0, c1, c2, c3, c4⟩ := cells5 hz
  clear h hb1 hz hm
  show Calls Try.prog 23 #[.agg #[.int .i64 z, .int .i64 s, .int .i64 k, .int .i64 d, .slice A n c]] w _
  go_enter Try.func23, Try.ntmps23
  go_wp2_with fail
  refine (check_any H.out.2.2).mono ?_
  rintro e w1 ⟨rfl, hb2⟩
  have H1 := Lib.hid (And.intro (H.out.2.1.belowS hb2) (below_base H.out.1 hb2 H.out.1.size))
  clear c0 c1 c2 c3 c4 hb2
  cases hq : mfB ⟨z, s, k, d, t⟩ with
  | false =>
    rw [show mfE ⟨z, s, k, d, t⟩ = 2 from by unfold mfE; rw [hq]; rfl]
    have HN := Lib.hid (show mfN ⟨z, s, k, d, t⟩ = 0 from by unfold mfN; rw [hq]; rfl)
    clear hq
    go_wp2
    go_ret
    exact ⟨ret_int HN.out.symm, H1.out.2⟩
  | true =>
    rw [show mfE ⟨z, s, k, d, t⟩ = 0 from by unfold mfE; rw [hq]; rfl]
    have hN : mfN ⟨z, s, k, d, t⟩ = (z + k * s - 1) / (k * s) := by unfold mfN; rw [hq]; rfl
    have hf := mf_full hq
    have hzr := (mfB_iff.1 hq).1
    simp only at hf hzr
    have hw := IntKind.wrap_i64 (k * s)
    have hw : IntKind.i64.wrap (k * s) = k * s := by rw [IntKind.wrap_i64]; omega
    obtain ⟨f, hfe⟩ : ∃ f, k * s = f := ⟨_, rfl⟩
    obtain ⟨c0, c1, c2, c3, c4⟩ := cells5 H1.out.1
    have HW := Lib.hid hw
    clear hq hw
    rw [hfe] at hf hN
    have hw3 : IntKind.i64.wrap ((z + f - 1) / f) = (z + f - 1) / f := by
      have := mfN_range (m := ⟨z, s, k, d, t⟩)
      rw [hN] at this
      rw [IntKind.wrap_i64]; omega
    have HN := Lib.hid (And.intro hN hw3)
    clear hN hw3
    have hw1 : IntKind.i64.wrap (z + f) = z + f := by rw [IntKind.wrap_i64]; omega
    have hw2 : IntKind.i64.wrap (z + f - 1) = z + f - 1 := by rw [IntKind.wrap_i64]; omega
    have hf0 : ¬ f = 0 := by omega
    have hdv : (z + f - 1).tdiv f = (z + f - 1) / f := Int.tdiv_eq_ediv_of_nonneg (by omega)
    go_wp2_with fail
    go_region_held3 (fun w' => w'.cell? ⟨w.heap.size, 0, none⟩ = some (.int .i64 z) ∧ w'.cell? ⟨w.heap.size, 1, none⟩ = some (.int .i64 s) ∧ w'.cell? ⟨w.heap.size, 2, none⟩ = some (.int .i64 k) ∧ w'.cell? ⟨w.heap.size, 3, none⟩ = some (.int .i64 d) ∧ w'.cell? ⟨w.heap.size, 4, none⟩ = some (.slice A n c))
      (first | go_keep | exact cells5 K2.out.1 | exact cells5 K1.out.1)
      ((go_at_call 41; refine (full_any HW.out).mono ?_; rintro e wq ⟨rfl, hbq⟩; rw [hfe]; first
        | (have K2 := Lib.hid (And.intro (K1.out.1.belowS hbq) (below_base K1.out.2 hbq K1.out.2.size)); clear hbq)
        | (have K1 := Lib.hid (And.intro (H1.out.1.belowS (below_undrew hbq)) (below_base H1.out.2 (below_undrew hbq) H1.out.2.size)); clear hbq)))
    go_wp2
    go_ret
    exact ⟨ret_int (by rw [HN.out.1, HN.out.2]), K2.out.2⟩
set_option maxRecDepth 100000 in
set_option maxHeartbeats 1600000 in
/-- the document's Blocks -/
theorem rblocks_any (h : MA w A n c m) :
    Calls Try.prog 37 #[m.v A n c] w fun e w' => e = .returned (.int .i64 (mfN m)) ∧ Below w.heap.size w w' := by
  obtain ⟨z, s, k, d, t⟩ := m
  have hb1 := (Below.refl w.heap.size w).alloc (Nat.le_refl _) (.cells #[.int .i64 z, .int .i64 s, .int .i64 k, .int .i64 d, .slice A n c] 24)
  have hz := Bk.newA w 24 #[.int .i64 z, .int .i64 s, .int .i64 k, .int .i64 d, .slice A n c]
  have hm := h.below ((Below.refl w.heap.size w).alloc (Nat.le_refl _) (.cells #[.int .i64 z, .int .i64 s, .int .i64 k, .int .i64 d, .slice A n c] 24))
  have H := Lib.hid (And.intro hb1 (And.intro hz hm))
  obtain ⟨c0, c1, c2, c3, c4⟩ := cells5 hz
  clear h hb1 hz hm
  show Calls Try.prog 37 #[.agg #[.int .i64 z, .int .i64 s, .int .i64 k, .int .i64 d, .slice A n c]] w _
  go_enter Try.func37, Try.ntmps37
  go_wp2_with fail
  refine (rcheck_any H.out.2.2).mono ?_
  rintro e w1 ⟨rfl, hb2⟩
  have H1 := Lib.hid (And.intro (H.out.2.1.belowS hb2) (below_base H.out.1 hb2 H.out.1.size))
  clear c0 c1 c2 c3 c4 hb2
  cases hq : mfB ⟨z, s, k, d, t⟩ with
  | false =>
    rw [show mfE ⟨z, s, k, d, t⟩ = 2 from by unfold mfE; rw [hq]; rfl]
    have HN := Lib.hid (show mfN ⟨z, s, k, d, t⟩ = 0 from by unfold mfN; rw [hq]; rfl)
    clear hq
    go_wp2
    go_ret
    exact ⟨ret_int HN.out.symm, H1.out.2⟩
  | true =>
    rw [show mfE ⟨z, s, k, d, t⟩ = 0 from by unfold mfE; rw [hq]; rfl]
    have hN : mfN ⟨z, s, k, d, t⟩ = (z + k * s - 1) / (k * s) := by unfold mfN; rw [hq]; rfl
    have hf := mf_full hq
    have hzr := (mfB_iff.1 hq).1
    simp only at hf hzr
    have hw3 : wrap64 ((z + k * s - 1) / (k * s)) = (z + k * s - 1) / (k * s) := by
      have := mfN_range (m := ⟨z, s, k, d, t⟩)
      rw [hN] at this
      generalize (z + k * s - 1) / (k * s) = q at this
      unfold wrap64; omega
    obtain ⟨c0, c1, c2, c3, c4⟩ := cells5 H1.out.1
    have HN := Lib.hid (And.intro hN hw3)
    have hw : IntKind.i64.wrap (k * s) = k * s := by rw [IntKind.wrap_i64]; omega
    have hw1 : IntKind.i64.wrap (z + k * s) = z + k * s := by rw [IntKind.wrap_i64]; omega
    have hw2 : IntKind.i64.wrap (z + k * s - 1) = z + k * s - 1 := by rw [IntKind.wrap_i64]; omega
    have hf0 : ¬ k * s = 0 := by omega
    have hk0 : ¬ k = 0 := fun e => hf0 (by rw [e]; simp)
    have hs0 : ¬ s = 0 := fun e => hf0 (by rw [e]; simp)
    have hdv : (z + k * s - 1).tdiv (k * s) = (z + k * s - 1) / (k * s) := Int.tdiv_eq_ediv_of_nonneg (by omega)
    clear hq hN hw3
    go_wp2
    go_ret
    exact ⟨ret_int (by rw [HN.out.1]; exact HN.out.2), H1.out.2⟩
theorem ret_tri {a a' b b' c c' : Int} (h1 : a = a') (h2 : b = b') (h3 : c = c') : Ending.returned (.tuple #[.int .i64 a, .int .i64 b, .int .i64 c]) = .returned (.tuple #[.int .i64 a', .int .i64 b', .int .i64 c']) := by rw [h1, h2, h3]
theorem prt_eq (m : MF) (b : Int) : (mfB m = false → 0 = prF m b ∧ 0 = prS m b ∧ 2 = prE m b) ∧
    (mfB m = true → (¬ (0 ≤ b ∧ b < mfN m) → 0 = prF m b ∧ 0 = prS m b ∧ 3 = prE m b) ∧ ((0 ≤ b ∧ b < mfN m) → b * (m.k * m.s) = prF m b ∧ min (m.k * m.s) (m.z - b * (m.k * m.s)) = prS m b ∧ 0 = prE m b)) := by
  refine ⟨fun h => ?_, fun h => ⟨fun h2 => ?_, fun h2 => ?_⟩⟩
  · have e : prE m b = 2 := by unfold prE; rw [if_neg (by rw [h]; simp)]
    exact ⟨by unfold prF; rw [e, if_neg (by decide)], by unfold prS; rw [e, if_neg (by decide)], e.symm⟩
  · have e : prE m b = 3 := by unfold prE; rw [if_pos h, if_neg h2]
    exact ⟨by unfold prF; rw [e, if_neg (by decide)], by unfold prS; rw [e, if_neg (by decide)], e.symm⟩
  · have e : prE m b = 0 := by unfold prE; rw [if_pos h, if_pos h2]
    exact ⟨by unfold prF; rw [e, if_pos rfl], by unfold prS; rw [e, if_pos rfl], e.symm⟩
set_option maxRecDepth 100000 in
set_option maxHeartbeats 3200000 in
/-- Part -/
theorem part_any (h : MA w A n c m) {b : Int} (hb : R64 b) :
    Calls Try.prog 42 #[m.v A n c, .int .i64 b] w fun e w' => e = .returned (.tuple #[.int .i64 (prF m b), .int .i64 (prS m b), .int .i64 (prE m b)]) ∧ Below w.heap.size w w' := by
  obtain ⟨z, s, k, d, t⟩ := m
  have hb1 := (Below.refl w.heap.size w).alloc (Nat.le_refl _) (.cells #[.int .i64 z, .int .i64 s, .int .i64 k, .int .i64 d, .slice A n c] 24)
  have hz := Bk.newA w 24 #[.int .i64 z, .int .i64 s, .int .i64 k, .int .i64 d, .slice A n c]
  have hm := h.below ((Below.refl w.heap.size w).alloc (Nat.le_refl _) (.cells #[.int .i64 z, .int .i64 s, .int .i64 k, .int .i64 d, .slice A n c] 24))
  have H := Lib.hid (And.intro hb1 (And.intro hz hm))
  have HR := Lib.hid hb
  obtain ⟨c0, c1, c2, c3, c4⟩ := cells5 hz
  clear h hb1 hz hm hb
  show Calls Try.prog 42 #[.agg #[.int .i64 z, .int .i64 s, .int .i64 k, .int .i64 d, .slice A n c], .int .i64 b] w _
  go_enter Try.func42, Try.ntmps42
  go_wp2_with fail
  refine (check_any H.out.2.2).mono ?_
  rintro e w1 ⟨rfl, hb2⟩
  have H1 := Lib.hid (And.intro (H.out.2.1.belowS hb2) (And.intro (below_base H.out.1 hb2 H.out.1.size) (H.out.2.2.below hb2)))
  clear c0 c1 c2 c3 c4 hb2
  have HP := Lib.hid (prt_eq ⟨z, s, k, d, t⟩ b)
  cases hq : mfB ⟨z, s, k, d, t⟩ with
  | false =>
    rw [show mfE ⟨z, s, k, d, t⟩ = 2 from by unfold mfE; rw [hq]; rfl]
    have HQ := Lib.hid (HP.out.1 hq)
    clear hq
    go_wp2
    go_ret3
    exact ⟨ret_tri HQ.out.1 HQ.out.2.1 HQ.out.2.2, H1.out.2.1⟩
  | true =>
    rw [show mfE ⟨z, s, k, d, t⟩ = 0 from by unfold mfE; rw [hq]; rfl]
    have HP := Lib.hid (HP.out.2 hq)
    have hf := mf_full hq
    have hzr := (mfB_iff.1 hq).1
    simp only at hf hzr
    have hks : (1 ≤ s ∧ s ≤ 65535) ∧ (1 ≤ k ∧ k ≤ 65536) := by have := (mfB_iff.1 hq).2; simp only at this; omega
    have hpr := Lib.hid (fun hh => prF_range (b := b) hq hh)
    have hNr := mfN_range (m := ⟨z, s, k, d, t⟩)
    have hw : IntKind.i64.wrap (k * s) = k * s := by rw [IntKind.wrap_i64]; omega
    obtain ⟨c0, c1, c2, c3, c4⟩ := cells5 H1.out.1
    have HW := Lib.hid hw
    clear hq
    clear hw
    obtain ⟨f, hfe⟩ : ∃ f, k * s = f := ⟨_, rfl⟩
    rw [hfe] at hf HP
    have hfe' := Lib.hid hfe
    clear hfe
    go_wp2_with fail
    refine (blocks_any H1.out.2.2).mono ?_
    rintro e w2 ⟨rfl, hb3⟩
    have H2 := Lib.hid (And.intro (H1.out.1.belowS hb3) (And.intro (below_base H1.out.2.1 hb3 H1.out.2.1.size) (H1.out.2.2.below hb3)))
    clear c0 c1 c2 c3 c4 hb3
    obtain ⟨N, hN⟩ : ∃ N, mfN ⟨z, s, k, d, t⟩ = N := ⟨_, rfl⟩
    rw [hN] at hNr HP ⊢
    have hwN : IntKind.i64.wrap (N - 1) = N - 1 := by rw [IntKind.wrap_i64]; omega
    obtain ⟨c0, c1, c2, c3, c4⟩ := cells5 H2.out.1
    go_wp2_with fail
    refine (within_any b 0 (N - 1)).mono ?_
    rintro e w3 ⟨rfl, rfl⟩
    cases hq : win b 0 (N - 1) with
    | false =>
      have HQ := Lib.hid (HP.out.1 (fun hh => by
        have : win b 0 (N - 1) = true := win_iff.2 (by omega)
        rw [this] at hq; simp at hq))
      clear hq
      go_wp2
      go_ret3
      exact ⟨ret_tri HQ.out.1 HQ.out.2.1 HQ.out.2.2, H2.out.2.1⟩
    | true =>
      have hbr := win_iff.1 hq
      have HQ := Lib.hid (HP.out.2 (by omega))
      have hx := hpr.out (by rw [hN]; omega)
      try simp only at hx
      rw [hfe'.out] at hx
      clear hq
      obtain ⟨x, hxe⟩ : ∃ x, b * f = x := ⟨_, rfl⟩
      rw [hxe] at hx HQ
      have hwx : IntKind.i64.wrap (b * f) = x := by rw [hxe, IntKind.wrap_i64]; omega
      have hws : IntKind.i64.wrap (z - x) = z - x := by rw [IntKind.wrap_i64]; omega
      go_wp2_with fail
      refine (full_any HW.out).mono ?_
      rintro e w4 ⟨rfl, hb4⟩
      rw [hfe'.out]
      have H4 := Lib.hid (And.intro (H2.out.1.belowS hb4) (below_base H2.out.2.1 hb4 H2.out.2.1.size))
      clear c0 c1 c2 c3 c4 hb4
      obtain ⟨c0, c1, c2, c3, c4⟩ := cells5 H4.out.1
      by_cases hmin : f ≤ z - x
      · have HM := Lib.hid (show min f (z - x) = f from by omega)
        go_wp2_with fail
        go_region_held3 (fun w' => w'.cell? ⟨w.heap.size, 0, none⟩ = some (.int .i64 z) ∧ w'.cell? ⟨w.heap.size, 1, none⟩ = some (.int .i64 s) ∧ w'.cell? ⟨w.heap.size, 2, none⟩ = some (.int .i64 k) ∧ w'.cell? ⟨w.heap.size, 3, none⟩ = some (.int .i64 d) ∧ w'.cell? ⟨w.heap.size, 4, none⟩ = some (.slice A n c))
          (first | go_keep | exact cells5 K1.out.1)
          ((go_at_call 41; refine (full_any HW.out).mono ?_; rintro e wq ⟨rfl, hbq⟩; rw [hfe'.out]; have K1 := Lib.hid (And.intro (H4.out.1.belowS (below_undrew hbq)) (below_base H4.out.2 (below_undrew hbq) H4.out.2.size)); clear hbq))
        go_wp2
        go_ret3
        exact ⟨ret_tri HQ.out.1 (HM.out.symm.trans HQ.out.2.1) HQ.out.2.2, K1.out.2⟩
      · have hmin' : z - x < f := by omega
        have HM := Lib.hid (show min f (z - x) = z - x from by omega)
        go_wp2_with fail
        go_region_held3 (fun w' => w'.cell? ⟨w.heap.size, 0, none⟩ = some (.int .i64 z) ∧ w'.cell? ⟨w.heap.size, 1, none⟩ = some (.int .i64 s) ∧ w'.cell? ⟨w.heap.size, 2, none⟩ = some (.int .i64 k) ∧ w'.cell? ⟨w.heap.size, 3, none⟩ = some (.int .i64 d) ∧ w'.cell? ⟨w.heap.size, 4, none⟩ = some (.slice A n c))
          (first | go_keep | exact cells5 K1.out.1)
          ((go_at_call 41; refine (full_any HW.out).mono ?_; rintro e wq ⟨rfl, hbq⟩; rw [hfe'.out]; have K1 := Lib.hid (And.intro (H4.out.1.belowS (below_undrew hbq)) (below_base H4.out.2 (below_undrew hbq) H4.out.2.size)); clear hbq))
        go_wp2
        go_ret3
        exact ⟨ret_tri HQ.out.1 (HM.out.symm.trans HQ.out.2.1) HQ.out.2.2, K1.out.2⟩
set_option maxRecDepth 100000 in
set_option maxHeartbeats 3200000 in
/-- the document's Part -/
theorem rpart_any (h : MA w A n c m) {b : Int} (hb : R64 b) :
    Calls Try.prog 38 #[m.v A n c, .int .i64 b] w fun e w' => e = .returned (.tuple #[.int .i64 (prF m b), .int .i64 (prS m b), .int .i64 (prE m b)]) ∧ Below w.heap.size w w' := by
  obtain ⟨z, s, k, d, t⟩ := m
  have hb1 := (Below.refl w.heap.size w).alloc (Nat.le_refl _) (.cells #[.int .i64 z, .int .i64 s, .int .i64 k, .int .i64 d, .slice A n c] 24)
  have hz := Bk.newA w 24 #[.int .i64 z, .int .i64 s, .int .i64 k, .int .i64 d, .slice A n c]
  have hm := h.below ((Below.refl w.heap.size w).alloc (Nat.le_refl _) (.cells #[.int .i64 z, .int .i64 s, .int .i64 k, .int .i64 d, .slice A n c] 24))
  have H := Lib.hid (And.intro hb1 (And.intro hz hm))
  have HR := Lib.hid hb
  obtain ⟨c0, c1, c2, c3, c4⟩ := cells5 hz
  clear h hb1 hz hm hb
  show Calls Try.prog 38 #[.agg #[.int .i64 z, .int .i64 s, .int .i64 k, .int .i64 d, .slice A n c], .int .i64 b] w _
  go_enter Try.func38, Try.ntmps38
  go_wp2_with fail
  refine (rcheck_any H.out.2.2).mono ?_
  rintro e w1 ⟨rfl, hb2⟩
  have H1 := Lib.hid (And.intro (H.out.2.1.belowS hb2) (And.intro (below_base H.out.1 hb2 H.out.1.size) (H.out.2.2.below hb2)))
  clear c0 c1 c2 c3 c4 hb2
  have HP := Lib.hid (prt_eq ⟨z, s, k, d, t⟩ b)
  cases hq : mfB ⟨z, s, k, d, t⟩ with
  | false =>
    rw [show mfE ⟨z, s, k, d, t⟩ = 2 from by unfold mfE; rw [hq]; rfl]
    have HQ := Lib.hid (HP.out.1 hq)
    clear hq
    go_wp2
    go_ret3
    exact ⟨ret_tri HQ.out.1 HQ.out.2.1 HQ.out.2.2, H1.out.2.1⟩
  | true =>
    rw [show mfE ⟨z, s, k, d, t⟩ = 0 from by unfold mfE; rw [hq]; rfl]
    have HP := Lib.hid (HP.out.2 hq)
    have hf := mf_full hq
    have hzr := (mfB_iff.1 hq).1
    simp only at hf hzr
    have hks : (1 ≤ s ∧ s ≤ 65535) ∧ (1 ≤ k ∧ k ≤ 65536) := by have := (mfB_iff.1 hq).2; simp only at this; omega
    have hpr := Lib.hid (fun hh => prF_range (b := b) hq hh)
    have hNr := mfN_range (m := ⟨z, s, k, d, t⟩)
    have hw : IntKind.i64.wrap (k * s) = k * s := by rw [IntKind.wrap_i64]; omega
    obtain ⟨c0, c1, c2, c3, c4⟩ := cells5 H1.out.1
    have HW := Lib.hid hw
    clear hq
    obtain ⟨N, hN⟩ : ∃ N, mfN ⟨z, s, k, d, t⟩ = N := ⟨_, rfl⟩
    rw [hN] at hNr HP
    by_cases hb0 : b < 0
    · have d1 : decide (b < 0) = true := by simpa using hb0
      have HQ := Lib.hid (HP.out.1 (by omega))
      clear hb0
      go_wp2
      go_ret3
      exact ⟨ret_tri HQ.out.1 HQ.out.2.1 HQ.out.2.2, H1.out.2.1⟩
    · have d1 : decide (b < 0) = false := by simpa using hb0
      go_wp2_with fail
      refine (rblocks_any H1.out.2.2).mono ?_
      rintro e w2 ⟨rfl, hb3⟩
      have H2 := Lib.hid (And.intro (H1.out.1.belowS hb3) (And.intro (below_base H1.out.2.1 hb3 H1.out.2.1.size) (H1.out.2.2.below hb3)))
      clear c0 c1 c2 c3 c4 hb3
      rw [hN]
      obtain ⟨c0, c1, c2, c3, c4⟩ := cells5 H2.out.1
      by_cases hbN : b ≥ N
      · have d2 : decide (b ≥ N) = true := by simpa using hbN
        have d3 : decide (N ≤ b) = true := by simpa using hbN
        have HQ := Lib.hid (HP.out.1 (by omega))
        clear hb0 hbN
        go_wp2
        go_ret3
        exact ⟨ret_tri HQ.out.1 HQ.out.2.1 HQ.out.2.2, H2.out.2.1⟩
      · have d2 : decide (b ≥ N) = false := by simpa using hbN
        have d3 : decide (N ≤ b) = false := by simpa using hbN
        have HQ := Lib.hid (HP.out.2 (by omega))
        have hx := hpr.out (by rw [hN]; omega)
        try simp only at hx
        have hbk : 0 ≤ b * k ∧ b * k ≤ 4294967296 := by
          refine ⟨Int.mul_nonneg (by omega) (by omega), ?_⟩
          have h1 : b * k * 1 ≤ b * k * s := Int.mul_le_mul_of_nonneg_left (by omega) (Int.mul_nonneg (by omega) (by omega))
          rw [Int.mul_assoc b k s] at h1
          omega
        have hw1 : IntKind.i64.wrap (b * k) = b * k := by rw [IntKind.wrap_i64]; omega
        have hx' := hx
        rw [← Int.mul_assoc] at hx' HQ
        have hw2 : IntKind.i64.wrap (b * k * s) = b * k * s := by rw [IntKind.wrap_i64]; omega
        have hws : IntKind.i64.wrap (z - b * k * s) = z - b * k * s := by rw [IntKind.wrap_i64]; omega
        clear hb0 hbN hx
        by_cases hmin : k * s ≤ z - b * k * s
        · have HM := Lib.hid (show min (k * s) (z - b * k * s) = k * s from by omega)
          go_wp2_with fail
          go_region
          go_wp2
          go_ret3
          exact ⟨ret_tri HQ.out.1 (HM.out.symm.trans HQ.out.2.1) HQ.out.2.2, H2.out.2.1.drew⟩
        · have hmin' : z - b * k * s < k * s := by omega
          have HM := Lib.hid (show min (k * s) (z - b * k * s) = z - b * k * s from by omega)
          go_wp2_with fail
          go_region
          go_wp2
          go_ret3
          exact ⟨ret_tri HQ.out.1 (HM.out.symm.trans HQ.out.2.1) HQ.out.2.2, H2.out.2.1.drew⟩
end
end Go.Proofs.Ytchdjbbhhjjmkaa
