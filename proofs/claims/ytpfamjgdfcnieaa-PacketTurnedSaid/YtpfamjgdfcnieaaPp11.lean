/- Chapter 11: PacketPuts' walk. -/
import Derived.Test.YtpfamjgdfcnieaaAw11
namespace Go.Proofs.Ytpfamjgdfcnieaa
open Go.RowKit
set_option linter.unusedVariables false
theorem overB_mut {w : World} {base g n c : Nat} {A : Option Addr} {l : List UInt8} (h : Mut w A n g 0 (bys l)) (hg : base ≤ g) (hn : n ≤ 140737488351232) :
    Calls Try.prog 20 #[.slice A n c] w fun e w' => e = .returned (.tuple #[]) ∧ Chg (fun k => base ≤ k) w w' := by
  refine (over_any h hn).mono fun e w' ⟨he, hu⟩ => ⟨he, ⟨⟨hu.1.os, hu.1.tape, hu.1.output, hu.1.size, fun k hk => absurd hk (Nat.not_lt_zero _)⟩, fun k hk hS => hu.1.block k hk fun e => ?_⟩⟩
  injection e with e
  subst e
  exact hS hg
theorem pv_mk (kd ses blk id rsn : Int) (dat : List UInt8) (A : Option Addr) (n c : Nat) : (⟨kd, ses, blk, id, rsn, dat⟩ : PK).v A n c = .agg #[.int .i64 kd, .int .i64 ses, .int .i64 blk, .int .i64 id, .int .i64 rsn, .slice A n c] := rfl
/-- Two packets in blocks; the second one's bytes are lent. -/
def PS2 (w w' : World) (G : Nat) (A A3 : Option Addr) (n c c3 : Nat) (kd ses blk id rsn : Int) (dat : List UInt8) : Prop :=
  Bk w' w.heap.size 24 [.int .i64 kd, .int .i64 ses, .int .i64 blk, .int .i64 id, .int .i64 rsn, .slice A n c] ∧ Bk w' G 24 [.int .i64 kd, .int .i64 ses, .int .i64 blk, .int .i64 id, .int .i64 rsn, .slice A3 n c3] ∧
    PA w' A n c ⟨kd, ses, blk, id, rsn, dat⟩ ∧ PA w' A3 n c3 ⟨kd, ses, blk, id, rsn, dat⟩ ∧ Rd w' A3 (n + 4) (bys (dat ++ spare)) ∧ Below w.heap.size w w'
section
variable {w w' w'' : World} {G n c c3 : Nat} {A A3 : Option Addr} {kd ses blk id rsn : Int} {dat : List UInt8}
theorem PS2.below (h : PS2 w w' G A A3 n c c3 kd ses blk id rsn dat) (hb : Below w'.heap.size w' w'') : PS2 w w'' G A A3 n c c3 kd ses blk id rsn dat :=
  ⟨h.1.belowS hb, h.2.1.belowS hb, h.2.2.1.below hb, h.2.2.2.1.below hb, h.2.2.2.2.1.below hb, below_base h.2.2.2.2.2 hb h.2.2.2.2.2.size⟩
theorem PS2.cells (h : PS2 w w' G A A3 n c c3 kd ses blk id rsn dat) : w'.cell? ⟨w.heap.size, 0, none⟩ = some (.int .i64 kd) ∧ w'.cell? ⟨w.heap.size, 1, none⟩ = some (.int .i64 ses) ∧ w'.cell? ⟨w.heap.size, 2, none⟩ = some (.int .i64 blk) ∧ w'.cell? ⟨w.heap.size, 3, none⟩ = some (.int .i64 id) ∧ w'.cell? ⟨w.heap.size, 4, none⟩ = some (.int .i64 rsn) ∧ w'.cell? ⟨w.heap.size, 5, none⟩ = some (.slice A n c) ∧
    w'.cell? ⟨G, 0, none⟩ = some (.int .i64 kd) ∧ w'.cell? ⟨G, 1, none⟩ = some (.int .i64 ses) ∧ w'.cell? ⟨G, 2, none⟩ = some (.int .i64 blk) ∧ w'.cell? ⟨G, 3, none⟩ = some (.int .i64 id) ∧ w'.cell? ⟨G, 4, none⟩ = some (.int .i64 rsn) ∧ w'.cell? ⟨G, 5, none⟩ = some (.slice A3 n c3) := by
  obtain ⟨c0, c1, c2, c3, c4, c5⟩ := cells6 h.1
  obtain ⟨e0, e1, e2, e3, e4, e5⟩ := cells6 h.2.1
  exact ⟨c0, c1, c2, c3, c4, c5, e0, e1, e2, e3, e4, e5⟩
end
set_option maxRecDepth 100000 in
set_option maxHeartbeats 6400000 in
theorem packetPuts_any {w : World} {A : Option Addr} {n c : Nat} {p : PK} (h : PA w A n c p) :
    Calls Try.prog 3 #[p.v A n c] w fun e w' => e = .returned (.bool true) ∧ Below w.heap.size w w' := by
  obtain ⟨kd, ses, blk, id, rsn, dat⟩ := p
  obtain ⟨w1, hw1⟩ : ∃ w1, w1 = w.alloc (.cells #[.int .i64 kd, .int .i64 ses, .int .i64 blk, .int .i64 id, .int .i64 rsn, .slice A n c] 24) := ⟨_, rfl⟩
  have hM := PB.new h
  rw [← hw1] at hM
  have H1 := Lib.hid hM
  have HD := Lib.hid h.2.2.2.1
  have HP0 := Lib.hid h
  have hs1 : w1.heap.size = w.heap.size + 1 := by rw [hw1, World.size_alloc]
  have hn0 : (n : Int) ≤ 140737488351232 := by have := h.2.2.1; omega
  obtain ⟨c0, c1, c2, c3, c4, c5⟩ := cells6 hM.1
  simp only at c0 c1 c2 c3 c4
  clear h hM
  show Calls Try.prog 3 #[.agg #[.int .i64 kd, .int .i64 ses, .int .i64 blk, .int .i64 id, .int .i64 rsn, .slice A n c]] w _
  by_cases hbig : (3000 < n ∧ n < 65530) ∨ 65540 < n
  · by_cases hA : 3000 < n
    · have d1 : decide ((n : Int) > 3000) = true := by simp; omega
      have d2 : decide (3000 < (n : Int)) = true := by simp; omega
      have d3 : decide (3000 < n) = true := by simp; omega
      by_cases hB : n < 65530
      · have d4 : decide ((n : Int) < 65530) = true := by simp; omega
        have d5 : decide (n < 65530) = true := by simp; omega
        clear hbig hA hB
        go_enter Try.func3, Try.ntmps3
        go_wp2_with fail
        rw [← hw1]
        clear hw1 hs1
        go_wp2_with fail
        refine awake_any.mono ?_
        rintro e w2 ⟨rfl, hb2⟩
        go_wp2
        go_ret
        exact ⟨rfl, (H1.out.below hb2).2.2⟩
      · have d4 : decide ((n : Int) < 65530) = false := by simp; omega
        have d5 : decide (n < 65530) = false := by simp; omega
        have d6 : decide ((n : Int) > 65540) = true := by simp; omega
        have d7 : decide (65540 < (n : Int)) = true := by simp; omega
        have d8 : decide (65540 < n) = true := by simp; omega
        clear hbig hA hB
        go_enter Try.func3, Try.ntmps3
        go_wp2_with fail
        rw [← hw1]
        clear hw1 hs1
        go_wp2_with fail
        refine awake_any.mono ?_
        rintro e w2 ⟨rfl, hb2⟩
        go_wp2
        go_ret
        exact ⟨rfl, (H1.out.below hb2).2.2⟩
    · exact absurd hbig (by omega)
  · have HN := Lib.hid (show n ≤ 65540 by omega)
    have hn65 : (n : Int) ≤ 65540 := by omega
    have d6 : decide ((n : Int) > 65540) = false := by simp; omega
    have d7 : decide (65540 < (n : Int)) = false := by simp; omega
    have d8 : decide (65540 < n) = false := by simp; omega
    obtain ⟨E, hE⟩ : ∃ E, pkE ⟨kd, ses, blk, id, rsn, dat⟩ = E := ⟨_, rfl⟩
    obtain ⟨V, hV⟩ : ∃ V, pkV ⟨kd, ses, blk, id, rsn, dat⟩ = V := ⟨_, rfl⟩
    obtain ⟨S, hS⟩ : ∃ S, pkS ⟨kd, ses, blk, id, rsn, dat⟩ = S := ⟨_, rfl⟩
    obtain ⟨L, hL⟩ : ∃ L, V.length = L := ⟨_, rfl⟩
    have hLb : L ≤ 100000 := by
      rw [← hL, ← hV]
      unfold pkV
      split
      · rw [seal_length]
        have h1 := body_len (p := ⟨kd, ses, blk, id, rsn, dat⟩)
        have h2 : dat.length = n := HD.out
        have h3 := HN.out
        have h1 : (pkBody ⟨kd, ses, blk, id, rsn, dat⟩).length ≤ dat.length + 14 := h1
        omega
      · exact Nat.zero_le _
    have HE := Lib.hid (And.intro hE (And.intro hV (And.intro hS (And.intro hL hLb))))
    clear hE hV hS hL hLb
    by_cases hA : 3000 < n
    · have d1 : decide ((n : Int) > 3000) = true := by simp; omega
      have d2 : decide (3000 < (n : Int)) = true := by simp; omega
      have d3 : decide (3000 < n) = true := by simp; omega
      have d4 : decide ((n : Int) < 65530) = false := by simp; omega
      have d5 : decide (n < 65530) = false := by simp; omega
      clear hbig hA
      go_enter Try.func3, Try.ntmps3
      go_wp2_with fail
      rw [← hw1]
      clear hw1
      go_wp2_with fail
      obtain ⟨w2, hw2⟩ : ∃ w2, w2 = w1.alloc (.cells #[.int .i64 kd, .int .i64 ses, .int .i64 blk, .int .i64 id, .int .i64 rsn, .slice A n c] 24) := ⟨_, rfl⟩
      have hb12 : Below w1.heap.size w1 w2 := by rw [hw2]; exact (Below.refl _ _).alloc (Nat.le_refl _) _
      have hz2 : Bk w2 (w.heap.size + 1) 24 [.int .i64 kd, .int .i64 ses, .int .i64 blk, .int .i64 id, .int .i64 rsn, .slice A n c] := by rw [hw2, ← hs1]; exact Bk.newA w1 _ _
      have H2 := Lib.hid (And.intro (H1.out.below hb12) (And.intro hz2 hz2.lt))
      rw [← hw2]
      clear hb12 hz2 hw2 hs1 c0 c1 c2 c3 c4 c5
      refine (lent_any H2.out.1.2.1.1 (by have := HN.out; omega)).mono ?_
      rintro e w3 ⟨A3, c3, rfl, hc3, ho3, hb3⟩
      have h3 := H2.out.1.below hb3
      have hz3 := H2.out.2.1.belowS hb3
      have f5 := hz3.frozen 5
      obtain ⟨e0, e1, e2, e3, e4, e5⟩ := cells6 hz3
      obtain ⟨c0, c1, c2, c3', c4, c5⟩ := cells6 h3.1
      simp only at c0 c1 c2 c3' c4
      have hcG : Chg (fun k => k = w.heap.size + 1) w3 (w3.setCell ⟨w.heap.size + 1, 5, none⟩ (.slice A3 n c3)) := (Chg.refl (fun k => k = w.heap.size + 1) w3).set_ (show w.heap.size + 1 = w.heap.size + 1 from rfl) _ _
      have hz4 : Bk (w3.setCell ⟨w.heap.size + 1, 5, none⟩ (.slice A3 n c3)) (w.heap.size + 1) 24 [.int .i64 kd, .int .i64 ses, .int .i64 blk, .int .i64 id, .int .i64 rsn, .slice A3 n c3] := hz3.set_ 5 (.slice A3 n c3)
      have hrl : Rd (w3.setCell ⟨w.heap.size + 1, 5, none⟩ (.slice A3 n c3)) A3 (n + 4) (bys (dat ++ spare)) := hcG.rd (Rd.of_own ho3) (fun a ha (e : a.block = w.heap.size + 1) => by have := (own_ge ho3 a ha).1; have := H2.out.2.2; omega)
      have hb4 : Below w.heap.size w (w3.setCell ⟨w.heap.size + 1, 5, none⟩ (.slice A3 n c3)) := h3.2.2.setCell (p := ⟨w.heap.size + 1, 5, none⟩) (Nat.le_succ _) _
      have hp4 : PA (w3.setCell ⟨w.heap.size + 1, 5, none⟩ (.slice A3 n c3)) A n c ⟨kd, ses, blk, id, rsn, dat⟩ := HP0.out.below hb4
      have hrd4 : Rd (w3.setCell ⟨w.heap.size + 1, 5, none⟩ (.slice A3 n c3)) A3 n (bys dat) := by
        have := hrl.take_ (k := n) (by omega)
        rw [bys_take, List.take_append_of_le_length (by rw [HD.out]; exact Nat.le_refl _), List.take_of_length_le (by rw [HD.out]; exact Nat.le_refl _)] at this
        exact this
      have H4 := Lib.hid (show PS2 w (w3.setCell ⟨w.heap.size + 1, 5, none⟩ (.slice A3 n c3)) (w.heap.size + 1) A A3 n c c3 kd ses blk id rsn dat from ⟨hcG.bk h3.1 (by omega), hz4, hp4, ⟨hrd4, by omega, hp4.2.2⟩, hrl, hb4⟩)
      have HC3 := Lib.hid hc3
      clear h3 hz3 hcG hz4 hrl hb4 hp4 hrd4 ho3 hb3 hc3
      go_wp2_with fail
      clear c0 c1 c2 c3' c4 c5 e0 e1 e2 e3 e4 e5 f5
      generalize w3.setCell ⟨w.heap.size + 1, 5, none⟩ (.slice A3 n c3) = w4 at H4 ⊢
      have Q1 := Lib.hid (pput_any H4.out.2.2.2.1)
      rw [HE.out.1, HE.out.2.1] at Q1
      unfold PtPost at Q1
      rw [HE.out.2.2.2.1] at Q1
      refine Q1.out.mono ?_
      rintro e w5 ⟨A5, d5, g5, rfl, hd5, hm5, hg5, hb5⟩
      have H5 := Lib.hid (And.intro hb5 (And.intro hm5 hg5))
      clear Q1 hb5 hm5 hg5 hd5
      obtain ⟨c0, c1, c2, c3', c4, c5, e0, e1, e2, e3, e4, e5⟩ := (H4.out.below H5.out.1).cells
      go_wp2_with fail
      clear c0 c1 c2 c3' c4 c5 e0 e1 e2 e3 e4 e5
      have Q1 := Lib.hid (rpput_any (H4.out.below H5.out.1).2.2.1)
      rw [HE.out.1, HE.out.2.1] at Q1
      unfold PtPost at Q1
      rw [HE.out.2.2.2.1] at Q1
      refine Q1.out.mono ?_
      rintro e w6 ⟨A6, d6, g6, rfl, hd6, hm6, hg6, hb6⟩
      have H6 := Lib.hid (And.intro (below_base H5.out.1 hb6 H5.out.1.size) (And.intro (H5.out.2.1.below hb6) hm6.rd))
      clear Q1 hb6 hm6 hg6 hd6
      go_wp2_with fail
      go_cut [9] (fun s9 wx => s9 = .bool true ∧ Below w6.heap.size w6 wx)
      case first =>
        obtain ⟨c0, c1, c2, c3', c4, c5, e0, e1, e2, e3, e4, e5⟩ := (H4.out.below H6.out.1).cells
        go_region_held3 (fun w' => w'.cell? ⟨w.heap.size, 0, none⟩ = some (.int .i64 kd) ∧ w'.cell? ⟨w.heap.size, 1, none⟩ = some (.int .i64 ses) ∧ w'.cell? ⟨w.heap.size, 2, none⟩ = some (.int .i64 blk) ∧ w'.cell? ⟨w.heap.size, 3, none⟩ = some (.int .i64 id) ∧ w'.cell? ⟨w.heap.size, 4, none⟩ = some (.int .i64 rsn) ∧ w'.cell? ⟨w.heap.size, 5, none⟩ = some (.slice A n c) ∧ w'.cell? ⟨w.heap.size + 1, 0, none⟩ = some (.int .i64 kd) ∧ w'.cell? ⟨w.heap.size + 1, 1, none⟩ = some (.int .i64 ses) ∧ w'.cell? ⟨w.heap.size + 1, 2, none⟩ = some (.int .i64 blk) ∧ w'.cell? ⟨w.heap.size + 1, 3, none⟩ = some (.int .i64 id) ∧ w'.cell? ⟨w.heap.size + 1, 4, none⟩ = some (.int .i64 rsn) ∧ w'.cell? ⟨w.heap.size + 1, 5, none⟩ = some (.slice A3 n c3))
          (first | go_keep | exact K6.out.1.cells | exact K5.out.1.cells | exact K4.out.1.cells | exact K3.out.1.cells | exact K2.out.1.cells | exact K1.out.1.cells)
          (first
            | (go_at_call 13; refine (same_true (H6.out.2.1.rd.below (Below.refl w6.heap.size w6).drew) (H6.out.2.2.below (Below.refl w6.heap.size w6).drew)).mono ?_; rintro e wq ⟨rfl, rfl⟩)
            | (go_at_call 14; refine (pcheck_any ((H4.out.below H6.out.1).below (Below.refl w6.heap.size w6).drew).2.2.2.1).mono ?_; rintro e wq ⟨rfl, hbq⟩; rw [HE.out.1]; have K1 := Lib.hid (And.intro ((H4.out.below H6.out.1).below (below_undrew hbq)) (below_undrew hbq)); clear hbq)
            | (go_at_call 15; refine (rpcheck_any K1.out.1.2.2.1).mono ?_; rintro e wq ⟨rfl, hbq⟩; rw [HE.out.1]; have K2 := Lib.hid (And.intro (K1.out.1.below hbq) (below_base K1.out.2 hbq K1.out.2.size)); clear hbq)
            | (go_at_call 16; refine (psize_any K2.out.1.2.2.2.1).mono ?_; rintro e wq ⟨rfl, hbq⟩; rw [HE.out.2.1, HE.out.2.2.2.1]; have K3 := Lib.hid (And.intro (K2.out.1.below hbq) (below_base K2.out.2 hbq K2.out.2.size)); clear hbq)
            | (go_at_call 17; refine (rpsize_any K3.out.1.2.2.1).mono ?_; rintro e wq ⟨rfl, hbq⟩; rw [HE.out.2.1, HE.out.2.2.2.1]; have K4 := Lib.hid (And.intro (K3.out.1.below hbq) (below_base K3.out.2 hbq K3.out.2.size)); clear hbq)
            | (go_at_call 18; refine (psends_any K4.out.1.2.2.2.1).mono ?_; rintro e wq ⟨rfl, hbq⟩; rw [HE.out.2.2.1]; have K5 := Lib.hid (And.intro (K4.out.1.below hbq) (below_base K4.out.2 hbq K4.out.2.size)); clear hbq)
            | (go_at_call 19; refine (rpsends_any K5.out.1.2.2.1).mono ?_; rintro e wq ⟨rfl, hbq⟩; rw [HE.out.2.2.1]; have K6 := Lib.hid (And.intro (K5.out.1.below hbq) (below_base K5.out.2 hbq K5.out.2.size)); clear hbq))
        all_goals go_wp2_with fail
        all_goals go_meet
        all_goals exact ⟨rfl, K6.out.2⟩
      case rest =>
        obtain ⟨rfl, hbc⟩ := hcut
        have H9 := Lib.hid (And.intro (below_base H6.out.1 hbc H6.out.1.size) (H6.out.2.1.below hbc))
        clear hbc
        go_wp2_with fail
        refine (overB_mut H9.out.2 H5.out.2.2 (by have := HE.out.2.2.2.2; omega)).mono ?_
        rintro e w10 ⟨rfl, hc10⟩
        have hb10 := hc10.below H9.out.1 (fun j _ hj => hj) H9.out.1.size
        have H10 := Lib.hid (H4.out.below hb10)
        clear hc10 hb10
        obtain ⟨c0, c1, c2, c3', c4, c5, e0, e1, e2, e3, e4, e5⟩ := H10.out.cells
        go_wp2_with fail
        refine (kept_any H10.out.2.2.2.2.1 H10.out.2.2.1.1 (by have := HN.out; omega) HC3.out).mono ?_
        rintro e w11 ⟨rfl, hb11⟩
        have H11 := Lib.hid (H10.out.below hb11)
        clear hb11 c0 c1 c2 c3' c4 c5 e0 e1 e2 e3 e4 e5
        go_wp2_with fail
        refine awake_any.mono ?_
        rintro e w12 ⟨rfl, hb12⟩
        go_wp2
        go_ret
        exact ⟨rfl, (H11.out.below hb12).2.2.2.2.2⟩
    · have d1 : decide ((n : Int) > 3000) = false := by simp; omega
      have d2 : decide (3000 < (n : Int)) = false := by simp; omega
      have d3 : decide (3000 < n) = false := by simp; omega
      clear hbig hA
      go_enter Try.func3, Try.ntmps3
      go_wp2_with fail
      rw [← hw1]
      clear hw1
      go_wp2_with fail
      obtain ⟨w2, hw2⟩ : ∃ w2, w2 = w1.alloc (.cells #[.int .i64 kd, .int .i64 ses, .int .i64 blk, .int .i64 id, .int .i64 rsn, .slice A n c] 24) := ⟨_, rfl⟩
      have hb12 : Below w1.heap.size w1 w2 := by rw [hw2]; exact (Below.refl _ _).alloc (Nat.le_refl _) _
      have hz2 : Bk w2 (w.heap.size + 1) 24 [.int .i64 kd, .int .i64 ses, .int .i64 blk, .int .i64 id, .int .i64 rsn, .slice A n c] := by rw [hw2, ← hs1]; exact Bk.newA w1 _ _
      have H2 := Lib.hid (And.intro (H1.out.below hb12) (And.intro hz2 hz2.lt))
      rw [← hw2]
      clear hb12 hz2 hw2 hs1 c0 c1 c2 c3 c4 c5
      refine (lent_any H2.out.1.2.1.1 (by have := HN.out; omega)).mono ?_
      rintro e w3 ⟨A3, c3, rfl, hc3, ho3, hb3⟩
      have h3 := H2.out.1.below hb3
      have hz3 := H2.out.2.1.belowS hb3
      have f5 := hz3.frozen 5
      obtain ⟨e0, e1, e2, e3, e4, e5⟩ := cells6 hz3
      obtain ⟨c0, c1, c2, c3', c4, c5⟩ := cells6 h3.1
      simp only at c0 c1 c2 c3' c4
      have hcG : Chg (fun k => k = w.heap.size + 1) w3 (w3.setCell ⟨w.heap.size + 1, 5, none⟩ (.slice A3 n c3)) := (Chg.refl (fun k => k = w.heap.size + 1) w3).set_ (show w.heap.size + 1 = w.heap.size + 1 from rfl) _ _
      have hz4 : Bk (w3.setCell ⟨w.heap.size + 1, 5, none⟩ (.slice A3 n c3)) (w.heap.size + 1) 24 [.int .i64 kd, .int .i64 ses, .int .i64 blk, .int .i64 id, .int .i64 rsn, .slice A3 n c3] := hz3.set_ 5 (.slice A3 n c3)
      have hrl : Rd (w3.setCell ⟨w.heap.size + 1, 5, none⟩ (.slice A3 n c3)) A3 (n + 4) (bys (dat ++ spare)) := hcG.rd (Rd.of_own ho3) (fun a ha (e : a.block = w.heap.size + 1) => by have := (own_ge ho3 a ha).1; have := H2.out.2.2; omega)
      have hb4 : Below w.heap.size w (w3.setCell ⟨w.heap.size + 1, 5, none⟩ (.slice A3 n c3)) := h3.2.2.setCell (p := ⟨w.heap.size + 1, 5, none⟩) (Nat.le_succ _) _
      have hp4 : PA (w3.setCell ⟨w.heap.size + 1, 5, none⟩ (.slice A3 n c3)) A n c ⟨kd, ses, blk, id, rsn, dat⟩ := HP0.out.below hb4
      have hrd4 : Rd (w3.setCell ⟨w.heap.size + 1, 5, none⟩ (.slice A3 n c3)) A3 n (bys dat) := by
        have := hrl.take_ (k := n) (by omega)
        rw [bys_take, List.take_append_of_le_length (by rw [HD.out]; exact Nat.le_refl _), List.take_of_length_le (by rw [HD.out]; exact Nat.le_refl _)] at this
        exact this
      have H4 := Lib.hid (show PS2 w (w3.setCell ⟨w.heap.size + 1, 5, none⟩ (.slice A3 n c3)) (w.heap.size + 1) A A3 n c c3 kd ses blk id rsn dat from ⟨hcG.bk h3.1 (by omega), hz4, hp4, ⟨hrd4, by omega, hp4.2.2⟩, hrl, hb4⟩)
      have HC3 := Lib.hid hc3
      clear h3 hz3 hcG hz4 hrl hb4 hp4 hrd4 ho3 hb3 hc3
      go_wp2_with fail
      clear c0 c1 c2 c3' c4 c5 e0 e1 e2 e3 e4 e5 f5
      generalize w3.setCell ⟨w.heap.size + 1, 5, none⟩ (.slice A3 n c3) = w4 at H4 ⊢
      have Q1 := Lib.hid (pput_any H4.out.2.2.2.1)
      rw [HE.out.1, HE.out.2.1] at Q1
      unfold PtPost at Q1
      rw [HE.out.2.2.2.1] at Q1
      refine Q1.out.mono ?_
      rintro e w5 ⟨A5, d5, g5, rfl, hd5, hm5, hg5, hb5⟩
      have H5 := Lib.hid (And.intro hb5 (And.intro hm5 hg5))
      clear Q1 hb5 hm5 hg5 hd5
      obtain ⟨c0, c1, c2, c3', c4, c5, e0, e1, e2, e3, e4, e5⟩ := (H4.out.below H5.out.1).cells
      go_wp2_with fail
      clear c0 c1 c2 c3' c4 c5 e0 e1 e2 e3 e4 e5
      have Q1 := Lib.hid (rpput_any (H4.out.below H5.out.1).2.2.1)
      rw [HE.out.1, HE.out.2.1] at Q1
      unfold PtPost at Q1
      rw [HE.out.2.2.2.1] at Q1
      refine Q1.out.mono ?_
      rintro e w6 ⟨A6, d6, g6, rfl, hd6, hm6, hg6, hb6⟩
      have H6 := Lib.hid (And.intro (below_base H5.out.1 hb6 H5.out.1.size) (And.intro (H5.out.2.1.below hb6) hm6.rd))
      clear Q1 hb6 hm6 hg6 hd6
      go_wp2_with fail
      go_cut [9] (fun s9 wx => s9 = .bool true ∧ Below w6.heap.size w6 wx)
      case first =>
        obtain ⟨c0, c1, c2, c3', c4, c5, e0, e1, e2, e3, e4, e5⟩ := (H4.out.below H6.out.1).cells
        go_region_held3 (fun w' => w'.cell? ⟨w.heap.size, 0, none⟩ = some (.int .i64 kd) ∧ w'.cell? ⟨w.heap.size, 1, none⟩ = some (.int .i64 ses) ∧ w'.cell? ⟨w.heap.size, 2, none⟩ = some (.int .i64 blk) ∧ w'.cell? ⟨w.heap.size, 3, none⟩ = some (.int .i64 id) ∧ w'.cell? ⟨w.heap.size, 4, none⟩ = some (.int .i64 rsn) ∧ w'.cell? ⟨w.heap.size, 5, none⟩ = some (.slice A n c) ∧ w'.cell? ⟨w.heap.size + 1, 0, none⟩ = some (.int .i64 kd) ∧ w'.cell? ⟨w.heap.size + 1, 1, none⟩ = some (.int .i64 ses) ∧ w'.cell? ⟨w.heap.size + 1, 2, none⟩ = some (.int .i64 blk) ∧ w'.cell? ⟨w.heap.size + 1, 3, none⟩ = some (.int .i64 id) ∧ w'.cell? ⟨w.heap.size + 1, 4, none⟩ = some (.int .i64 rsn) ∧ w'.cell? ⟨w.heap.size + 1, 5, none⟩ = some (.slice A3 n c3))
          (first | go_keep | exact K6.out.1.cells | exact K5.out.1.cells | exact K4.out.1.cells | exact K3.out.1.cells | exact K2.out.1.cells | exact K1.out.1.cells)
          (first
            | (go_at_call 13; refine (same_true (H6.out.2.1.rd.below (Below.refl w6.heap.size w6).drew) (H6.out.2.2.below (Below.refl w6.heap.size w6).drew)).mono ?_; rintro e wq ⟨rfl, rfl⟩)
            | (go_at_call 14; refine (pcheck_any ((H4.out.below H6.out.1).below (Below.refl w6.heap.size w6).drew).2.2.2.1).mono ?_; rintro e wq ⟨rfl, hbq⟩; rw [HE.out.1]; have K1 := Lib.hid (And.intro ((H4.out.below H6.out.1).below (below_undrew hbq)) (below_undrew hbq)); clear hbq)
            | (go_at_call 15; refine (rpcheck_any K1.out.1.2.2.1).mono ?_; rintro e wq ⟨rfl, hbq⟩; rw [HE.out.1]; have K2 := Lib.hid (And.intro (K1.out.1.below hbq) (below_base K1.out.2 hbq K1.out.2.size)); clear hbq)
            | (go_at_call 16; refine (psize_any K2.out.1.2.2.2.1).mono ?_; rintro e wq ⟨rfl, hbq⟩; rw [HE.out.2.1, HE.out.2.2.2.1]; have K3 := Lib.hid (And.intro (K2.out.1.below hbq) (below_base K2.out.2 hbq K2.out.2.size)); clear hbq)
            | (go_at_call 17; refine (rpsize_any K3.out.1.2.2.1).mono ?_; rintro e wq ⟨rfl, hbq⟩; rw [HE.out.2.1, HE.out.2.2.2.1]; have K4 := Lib.hid (And.intro (K3.out.1.below hbq) (below_base K3.out.2 hbq K3.out.2.size)); clear hbq)
            | (go_at_call 18; refine (psends_any K4.out.1.2.2.2.1).mono ?_; rintro e wq ⟨rfl, hbq⟩; rw [HE.out.2.2.1]; have K5 := Lib.hid (And.intro (K4.out.1.below hbq) (below_base K4.out.2 hbq K4.out.2.size)); clear hbq)
            | (go_at_call 19; refine (rpsends_any K5.out.1.2.2.1).mono ?_; rintro e wq ⟨rfl, hbq⟩; rw [HE.out.2.2.1]; have K6 := Lib.hid (And.intro (K5.out.1.below hbq) (below_base K5.out.2 hbq K5.out.2.size)); clear hbq))
        all_goals go_wp2_with fail
        all_goals go_meet
        all_goals exact ⟨rfl, K6.out.2⟩
      case rest =>
        obtain ⟨rfl, hbc⟩ := hcut
        have H9 := Lib.hid (And.intro (below_base H6.out.1 hbc H6.out.1.size) (H6.out.2.1.below hbc))
        clear hbc
        go_wp2_with fail
        refine (overB_mut H9.out.2 H5.out.2.2 (by have := HE.out.2.2.2.2; omega)).mono ?_
        rintro e w10 ⟨rfl, hc10⟩
        have hb10 := hc10.below H9.out.1 (fun j _ hj => hj) H9.out.1.size
        have H10 := Lib.hid (H4.out.below hb10)
        clear hc10 hb10
        obtain ⟨c0, c1, c2, c3', c4, c5, e0, e1, e2, e3, e4, e5⟩ := H10.out.cells
        go_wp2_with fail
        refine (kept_any H10.out.2.2.2.2.1 H10.out.2.2.1.1 (by have := HN.out; omega) HC3.out).mono ?_
        rintro e w11 ⟨rfl, hb11⟩
        have H11 := Lib.hid (H10.out.below hb11)
        clear hb11 c0 c1 c2 c3' c4 c5 e0 e1 e2 e3 e4 e5
        go_wp2_with fail
        refine awake_any.mono ?_
        rintro e w12 ⟨rfl, hb12⟩
        go_wp2
        go_ret
        exact ⟨rfl, (H11.out.below hb12).2.2.2.2.2⟩
theorem packetPuts_walk {w : World} {A : Option Addr} {n c : Nat} {p : PK} (h : PA w A n c p) : Calls Try.prog 3 #[p.v A n c] w fun e w' => e = .returned (.bool true) ∧ Below w.heap.size w w' := packetPuts_any h
end Go.Proofs.Ytpfamjgdfcnieaa
