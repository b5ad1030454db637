/- Chapter 12: ManifestTells' walk. -/
import Derived.Test.YthnoeiiebokooaaRd12
import Derived.Test.YthnoeiiebokooaaTn12
namespace Go.Proofs.Ythnoeiiebokooaa
open Go.RowKit
set_option linter.unusedVariables false
theorem overB_own {w : World} {base : Nat} {A : Option Addr} {n c : Nat} {l : List UInt8} (h : w.ownsRow base 5 1 (.slice A n c) n (bys l)) (hbase : base ≤ w.heap.size) (hn : n ≤ 140737488351232) :
    Calls Try.prog 25 #[.slice A n c] w fun e w' => e = .returned (.tuple #[]) ∧ Chg (fun k => base ≤ k) w w' := by
  obtain ⟨g, hm, hg, hc⟩ := Mut.of_own_below h (Below.refl _ _) hbase
  refine (over_any hm hn).mono fun e w' ⟨he, hu⟩ => ⟨he, ⟨⟨hu.1.os, hu.1.tape, hu.1.output, hu.1.size, fun k hk => absurd hk (Nat.not_lt_zero _)⟩, fun k hk hS => hu.1.block k hk fun e => ?_⟩⟩
  injection e with e
  subst e
  exact hS hg
theorem ptV_len (m : MF) (h : m.t.length ≤ 17592186043904) : (ptV m).length ≤ 140737488351232 := by
  unfold ptV
  split
  · unfold mfP
    rw [List.length_append, mfH_five, tbB_len]; omega
  · exact Nat.zero_le _
theorem v_mk (z s k d : Int) (t : List Int) (A : Option Addr) (n c : Nat) : (⟨z, s, k, d, t⟩ : MF).v A n c = .agg #[.int .i64 z, .int .i64 s, .int .i64 k, .int .i64 d, .slice A n c] := rfl
/-- Two manifests in blocks. -/
def TS (w w' : World) (G : Nat) (A A3 : Option Addr) (n c d3 : Nat) (z s k d : Int) (t : List Int) : Prop :=
  Bk w' w.heap.size 27 [.int .i64 z, .int .i64 s, .int .i64 k, .int .i64 d, .slice A n c] ∧ Bk w' G 27 [.int .i64 z, .int .i64 s, .int .i64 k, .int .i64 d, .slice A3 n d3] ∧ MA w' A n c ⟨z, s, k, d, t⟩ ∧ MA w' A3 n d3 ⟨z, s, k, d, t⟩ ∧ Below w.heap.size w w'
section
variable {w w' w'' : World} {G n c d3 : Nat} {A A3 : Option Addr} {z s k d : Int} {t : List Int}
theorem TS.below (h : TS w w' G A A3 n c d3 z s k d t) (hb : Below w'.heap.size w' w'') : TS w w'' G A A3 n c d3 z s k d t :=
  ⟨h.1.belowS hb, h.2.1.belowS hb, h.2.2.1.below hb, h.2.2.2.1.below hb, below_base h.2.2.2.2 hb h.2.2.2.2.size⟩
theorem TS.cells (h : TS w w' G A A3 n c d3 z s k d t) : w'.cell? ⟨w.heap.size, 0, none⟩ = some (.int .i64 z) ∧ w'.cell? ⟨w.heap.size, 1, none⟩ = some (.int .i64 s) ∧ w'.cell? ⟨w.heap.size, 2, none⟩ = some (.int .i64 k) ∧ w'.cell? ⟨w.heap.size, 3, none⟩ = some (.int .i64 d) ∧ w'.cell? ⟨w.heap.size, 4, none⟩ = some (.slice A n c) ∧
    w'.cell? ⟨G, 0, none⟩ = some (.int .i64 z) ∧ w'.cell? ⟨G, 1, none⟩ = some (.int .i64 s) ∧ w'.cell? ⟨G, 2, none⟩ = some (.int .i64 k) ∧ w'.cell? ⟨G, 3, none⟩ = some (.int .i64 d) ∧ w'.cell? ⟨G, 4, none⟩ = some (.slice A3 n d3) := by
  obtain ⟨c0, c1, c2, c3, c4⟩ := cells5 h.1
  obtain ⟨e0, e1, e2, e3, e4⟩ := cells5 h.2.1
  exact ⟨c0, c1, c2, c3, c4, e0, e1, e2, e3, e4⟩
end
set_option maxRecDepth 100000 in
set_option maxHeartbeats 3200000 in
theorem tells_any {w : World} {A : Option Addr} {n c : Nat} {m : MF} (h : MA w A n c m) {b : Int} (hb : R64 b) :
    Calls Try.prog 4 #[m.v A n c, .int .i64 b] w fun e w' => e = .returned (.bool true) ∧ Below w.heap.size w w' := by
  obtain ⟨z, s, k, d, t⟩ := m
  obtain ⟨w1, hw1⟩ : ∃ w1, w1 = w.alloc (.cells #[.int .i64 z, .int .i64 s, .int .i64 k, .int .i64 d, .slice A n c] 27) := ⟨_, rfl⟩
  have hb1 : Below w.heap.size w w1 := by rw [hw1]; exact (Below.refl _ _).alloc (Nat.le_refl _) _
  have hz1 : Bk w1 w.heap.size 27 [.int .i64 z, .int .i64 s, .int .i64 k, .int .i64 d, .slice A n c] := by rw [hw1]; exact Bk.newA w _ _
  have hs1 : w1.heap.size = w.heap.size + 1 := by rw [hw1, World.size_alloc]
  have H1 := Lib.hid (And.intro (h.below hb1) (And.intro hz1 (And.intro hb1 hs1)))
  obtain ⟨c0, c1, c2, c3, c4⟩ := cells5 hz1
  have HB := Lib.hid hb
  clear h hb1 hz1 hs1 hb
  show Calls Try.prog 4 #[.agg #[.int .i64 z, .int .i64 s, .int .i64 k, .int .i64 d, .slice A n c], .int .i64 b] w _
  cases hl : (decide (100 < n) && decide (n ≤ 10000)) with
  | true =>
    have HL := Lib.hid hl
    clear hl
    go_enter Try.func4, Try.ntmps4
    go_wp2_with fail
    rw [← hw1]
    clear hw1
    refine (longM_any (m := ⟨z, s, k, d, t⟩)).mono ?_
    rintro e w2 ⟨rfl, hb2⟩
    rw [HL.out]
    have H2 := Lib.hid (below_base H1.out.2.2.1 hb2 H1.out.2.2.1.size)
    clear hb2 c0 c1 c2 c3 c4
    go_wp2_with fail
    refine awake_any.mono ?_
    rintro e w3 ⟨rfl, hb3⟩
    go_wp2
    go_ret
    exact ⟨rfl, below_base H2.out hb3 H2.out.size⟩
  | false =>
    have HL := Lib.hid hl
    clear hl
    go_enter Try.func4, Try.ntmps4
    go_wp2_with fail
    rw [← hw1]
    clear hw1
    refine (longM_any (m := ⟨z, s, k, d, t⟩)).mono ?_
    rintro e w2 ⟨rfl, hb2⟩
    rw [HL.out]
    have H2 := Lib.hid (And.intro (H1.out.1.below hb2) (And.intro (H1.out.2.1.belowS hb2) (below_base H1.out.2.2.1 hb2 H1.out.2.2.1.size)))
    clear hb2 c0 c1 c2 c3 c4
    obtain ⟨c0, c1, c2, c3, c4⟩ := cells5 H2.out.2.1
    go_wp2_with fail
    refine (copyM_any H2.out.1).mono ?_
    rintro e w3 ⟨A3, d3, rfl, ho3, hb3⟩
    have hm3 : MA w3 A3 n d3 ⟨z, s, k, d, t⟩ := ⟨Rd.of_own ho3, by obtain ⟨_, _, ev, hle, _⟩ := own_form ho3; injection ev with _ _ e3; omega, H2.out.1.2.2⟩
    have hb4 := (Below.refl w3.heap.size w3).alloc (Nat.le_refl _) (.cells #[.int .i64 z, .int .i64 s, .int .i64 k, .int .i64 d, .slice A3 n d3] 27)
    have hb5 := below_base hb3 hb4 hb3.size
    have H4 := Lib.hid (show TS w (w3.alloc (.cells #[.int .i64 z, .int .i64 s, .int .i64 k, .int .i64 d, .slice A3 n d3] 27)) w3.heap.size A A3 n c d3 z s k d t from ⟨H2.out.2.1.belowS hb5, Bk.newA w3 27 #[.int .i64 z, .int .i64 s, .int .i64 k, .int .i64 d, .slice A3 n d3], H2.out.1.below hb5, hm3.below hb4, below_base H2.out.2.2 hb5 H2.out.2.2.size⟩)
    have hn' : t.length ≤ 17592186043904 := by have := H2.out.1.2.2.2.1; have := H2.out.1.2.2.1; simp only at *; omega
    have HPL := Lib.hid (ptV_len ⟨z, s, k, d, t⟩ hn')
    clear hb3 hb4 hb5 hm3 c0 c1 c2 c3 c4 ho3 hn'
    obtain ⟨c0, c1, c2, c3, c4, e0, e1, e2, e3, e4⟩ := H4.out.cells
    rw [v_mk]
    go_wp2_with fail
    clear c0 c1 c2 c3 c4 e0 e1 e2 e3 e4
    generalize w3.alloc (.cells #[.int .i64 z, .int .i64 s, .int .i64 k, .int .i64 d, .slice A3 n d3] 27) = w4 at H4 ⊢
    generalize w3.heap.size = G at H4 ⊢
    obtain ⟨E, hE⟩ : ∃ E, mfE ⟨z, s, k, d, t⟩ = E := ⟨_, rfl⟩
    obtain ⟨PB, hPB⟩ : ∃ PB, ptV ⟨z, s, k, d, t⟩ = PB := ⟨_, rfl⟩
    obtain ⟨L, hL⟩ : ∃ L, PB.length = L := ⟨_, rfl⟩
    have HE := Lib.hid (And.intro hE (And.intro hPB hL))
    have Q1 := Lib.hid (putM_any H4.out.2.2.2.1)
    rw [hE, hPB] at Q1
    unfold TdB at Q1
    rw [hL] at Q1
    rw [hPB, hL] at HPL
    clear hE hPB hL
    refine Q1.out.mono ?_
    rintro e w5 ⟨v5, rfl, ho5, hb5⟩
    obtain ⟨A5, d5, rfl, hd5⟩ := own_form ho5
    have H5 := Lib.hid (And.intro hb5 ho5)
    clear Q1 ho5 hb5 hd5
    obtain ⟨c0, c1, c2, c3, c4, e0, e1, e2, e3, e4⟩ := (H4.out.below H5.out.1).cells
    go_wp2_with fail
    clear c0 c1 c2 c3 c4 e0 e1 e2 e3 e4
    have Q2 := Lib.hid (rputM_any (H4.out.below H5.out.1).2.2.1)
    rw [HE.out.1, HE.out.2.1] at Q2
    unfold TdB at Q2
    rw [HE.out.2.2] at Q2
    refine Q2.out.mono ?_
    rintro e w6 ⟨v6, rfl, ho6, hb6⟩
    obtain ⟨A6, d6, rfl, hd6⟩ := own_form ho6
    have H6 := Lib.hid (And.intro (below_base H5.out.1 hb6 H5.out.1.size) (And.intro (own_below H5.out.2 hb6) (own_mono ho6 H5.out.1.size)))
    clear Q2 ho6 hb6 hd6
    obtain ⟨c0, c1, c2, c3, c4, e0, e1, e2, e3, e4⟩ := (H4.out.below H6.out.1).cells
    go_wp2_with fail
    clear c0 c1 c2 c3 c4 e0 e1 e2 e3 e4
    have Q3 := Lib.hid (part_any (H4.out.below H6.out.1).2.2.2.1 HB.out)
    obtain ⟨x1, hx1⟩ : ∃ x, prF ⟨z, s, k, d, t⟩ b = x := ⟨_, rfl⟩
    obtain ⟨x2, hx2⟩ : ∃ x, prS ⟨z, s, k, d, t⟩ b = x := ⟨_, rfl⟩
    obtain ⟨x3, hx3⟩ : ∃ x, prE ⟨z, s, k, d, t⟩ b = x := ⟨_, rfl⟩
    rw [hx1, hx2, hx3] at Q3
    have HX := Lib.hid (And.intro hx1 (And.intro hx2 hx3))
    clear hx1 hx2 hx3
    refine Q3.out.mono ?_
    rintro e w7 ⟨rfl, hb7⟩
    have H7 := Lib.hid (And.intro (below_base H6.out.1 hb7 H6.out.1.size) (And.intro (own_below H6.out.2.1 hb7) (own_below H6.out.2.2 hb7)))
    clear Q3 hb7
    obtain ⟨c0, c1, c2, c3, c4, e0, e1, e2, e3, e4⟩ := (H4.out.below H7.out.1).cells
    go_wp2_with fail
    clear c0 c1 c2 c3 c4 e0 e1 e2 e3 e4
    have Q4 := Lib.hid (rpart_any (H4.out.below H7.out.1).2.2.1 HB.out)
    rw [HX.out.1, HX.out.2.1, HX.out.2.2] at Q4
    refine Q4.out.mono ?_
    rintro e w8 ⟨rfl, hb8⟩
    have H8 := Lib.hid (And.intro (below_base H7.out.1 hb8 H7.out.1.size) (And.intro (own_below H7.out.2.1 hb8) (own_below H7.out.2.2 hb8)))
    clear Q4 hb8
    go_wp2_with fail
    go_cut [16] (fun s16 wx => s16 = .bool true ∧ Below w8.heap.size w8 wx)
    case first =>
      obtain ⟨c0, c1, c2, c3, c4, e0, e1, e2, e3, e4⟩ := (H4.out.below H8.out.1).cells
      obtain ⟨N, hN⟩ : ∃ N, mfN ⟨z, s, k, d, t⟩ = N := ⟨_, rfl⟩
      have HN := Lib.hid hN
      clear hN
      go_region_held3 (fun w' => w'.cell? ⟨w.heap.size, 0, none⟩ = some (.int .i64 z) ∧ w'.cell? ⟨w.heap.size, 1, none⟩ = some (.int .i64 s) ∧ w'.cell? ⟨w.heap.size, 2, none⟩ = some (.int .i64 k) ∧ w'.cell? ⟨w.heap.size, 3, none⟩ = some (.int .i64 d) ∧ w'.cell? ⟨w.heap.size, 4, none⟩ = some (.slice A n c) ∧ w'.cell? ⟨G, 0, none⟩ = some (.int .i64 z) ∧ w'.cell? ⟨G, 1, none⟩ = some (.int .i64 s) ∧ w'.cell? ⟨G, 2, none⟩ = some (.int .i64 k) ∧ w'.cell? ⟨G, 3, none⟩ = some (.int .i64 d) ∧ w'.cell? ⟨G, 4, none⟩ = some (.slice A3 n d3))
        (first | go_keep | exact K4.out.1.cells | exact K3.out.1.cells | exact K2.out.1.cells | exact K1.out.1.cells)
        (first
          | (go_at_call 14; refine (same_true ((Rd.of_own H8.out.2.1).below (Below.refl w8.heap.size w8).drew) ((Rd.of_own H8.out.2.2).below (Below.refl w8.heap.size w8).drew)).mono ?_; rintro e wq ⟨rfl, rfl⟩)
          | (go_at_call 21; refine (check_any ((H4.out.below H8.out.1).below (Below.refl w8.heap.size w8).drew).2.2.2.1).mono ?_; rintro e wq ⟨rfl, hbq⟩; rw [HE.out.1]; have K1 := Lib.hid (And.intro ((H4.out.below H8.out.1).below (below_undrew hbq)) (below_undrew hbq)); clear hbq)
          | (go_at_call 22; refine (rcheck_any K1.out.1.2.2.1).mono ?_; rintro e wq ⟨rfl, hbq⟩; rw [HE.out.1]; have K2 := Lib.hid (And.intro (K1.out.1.below hbq) (below_base K1.out.2 hbq K1.out.2.size)); clear hbq)
          | (go_at_call 23; refine (blocks_any K2.out.1.2.2.2.1).mono ?_; rintro e wq ⟨rfl, hbq⟩; rw [HN.out]; have K3 := Lib.hid (And.intro (K2.out.1.below hbq) (below_base K2.out.2 hbq K2.out.2.size)); clear hbq)
          | (go_at_call 24; refine (rblocks_any K3.out.1.2.2.1).mono ?_; rintro e wq ⟨rfl, hbq⟩; rw [HN.out]; have K4 := Lib.hid (And.intro (K3.out.1.below hbq) (below_base K3.out.2 hbq K3.out.2.size)); clear hbq))
      all_goals go_wp2_with fail
      all_goals go_meet
      all_goals exact ⟨rfl, K4.out.2⟩
    case rest =>
      obtain ⟨rfl, hbc⟩ := hcut
      have H9 := Lib.hid (And.intro (below_base H8.out.1 hbc H8.out.1.size) (own_below H8.out.2.1 hbc))
      clear hbc
      go_wp2_with fail
      refine (overB_own H9.out.2 H9.out.1.size HPL.out).mono ?_
      rintro e w10 ⟨rfl, hc10⟩
      have hb10 := hc10.below H9.out.1 (fun j _ hj => hj) H9.out.1.size
      have H10 := Lib.hid (H4.out.below hb10)
      clear hc10 hb10
      obtain ⟨c0, c1, c2, c3, c4, e0, e1, e2, e3, e4⟩ := H10.out.cells
      go_wp2_with fail
      refine (sameM_any H10.out.2.2.2.1 H10.out.2.2.1).mono ?_
      rintro e w11 ⟨rfl, hb11⟩
      rw [same_refl]
      have H11 := Lib.hid (H10.out.below hb11)
      clear hb11 c0 c1 c2 c3 c4 e0 e1 e2 e3 e4
      go_wp2_with fail
      refine awake_any.mono ?_
      rintro e w12 ⟨rfl, hb12⟩
      go_wp2
      go_ret
      exact ⟨rfl, (H11.out.below hb12).2.2.2.2⟩
theorem tells_walk {w : World} {A : Option Addr} {n c : Nat} {m : MF} (h : MA w A n c m) {b : Int} (hb : (Lit.int .i64 b).wf = true) :
    Calls Try.prog 4 #[m.v A n c, .int .i64 b] w fun e w' => e = .returned (.bool true) ∧ Below w.heap.size w w' := tells_any h (bounds_i64 hb)
end Go.Proofs.Ythnoeiiebokooaa
