/- Chapter 11: puts, awake. -/
import Derived.Test.YtpfamjgdfcnieaaSz11
namespace Go.Proofs.Ytpfamjgdfcnieaa
open Go.RowKit
set_option linter.unusedVariables false
theorem pa_nil (w : World) (kd ses blk id rsn : Int) (h : I64 kd ∧ I64 ses ∧ I64 blk ∧ I64 id ∧ I64 rsn) : PA w none 0 0 ⟨kd, ses, blk, id, rsn, []⟩ := ⟨Rd.nil _ _, Nat.le_refl _, by omega, rfl, h⟩
theorem i64s : ∀ {n : Int}, -1000000000000 ≤ n → n ≤ 1000000000000 → I64 n := fun h1 h2 => ⟨by omega, by omega⟩
set_option maxRecDepth 100000 in
set_option maxHeartbeats 1600000 in
theorem puts_any {w : World} {A B : Option Addr} {n c m d : Nat} {p : PK} {want : List UInt8} (h : PA w A n c p) (hw : Rd w B m (bys want)) (hm : m ≤ 1000000) (hk : pkB p = true) (hb : pkBody p = want) :
    Calls Try.prog 25 #[p.v A n c, .slice B m d] w fun e w' => e = .returned (.bool true) ∧ Below w.heap.size w w' := by
  have hwl : want.length = m := by have := hw.1; simpa [bys_length] using this
  have hV : pkV p = crcSeal tableL want := by unfold pkV; rw [if_pos hk, hb]
  have hE : pkE p = 0 := by unfold pkE; rw [if_pos hk]
  have hL : (crcSeal tableL want).length = m + 4 := by rw [seal_length, hwl]
  obtain ⟨kd, ses, blk, id, rsn, dat⟩ := p
  obtain ⟨w1, hw1⟩ : ∃ w1, w1 = w.alloc (.cells #[.int .i64 kd, .int .i64 ses, .int .i64 blk, .int .i64 id, .int .i64 rsn, .slice A n c] 24) := ⟨_, rfl⟩
  have hM := PB.new h
  rw [← hw1] at hM
  obtain ⟨c0, c1, c2, c3, c4, c5⟩ := cells6 hM.1
  simp only at c0 c1 c2 c3 c4
  have HP := Lib.hid (pput_any hM.2.1)
  rw [hV, hE] at HP
  unfold PtPost at HP
  rw [hL] at HP
  have H1 := Lib.hid (And.intro (hw.below hM.2.2) hM.2.2)
  have hwr : IntKind.i64.wrap ((m : Int) + 4) = (m : Int) + 4 := by rw [IntKind.wrap_i64]; omega
  clear h hM hw hk hb hwl hV hE hL
  have hm' : (m : Int) ≤ 1000000 := by omega
  show Calls Try.prog 25 #[.agg #[.int .i64 kd, .int .i64 ses, .int .i64 blk, .int .i64 id, .int .i64 rsn, .slice A n c], .slice B m d] w _
  go_enter Try.func25, Try.ntmps25
  go_wp2_with fail
  rw [← hw1]
  clear hw1
  refine HP.out.mono ?_
  rintro e w2 ⟨A2, d2, g2, rfl, hd2, hm2, hg2, hb2⟩
  have H2 := Lib.hid (And.intro hm2 (And.intro (H1.out.1.below hb2) (below_base H1.out.2 hb2 H1.out.2.size)))
  clear hm2 hb2 hd2 hg2 c0 c1 c2 c3 c4 c5
  go_wp2_with fail
  refine (crcSeal_any (t := tableL) (.inl ⟨rfl, rfl⟩) H2.out.2.1 (by omega)).mono ?_
  rintro e w3 ⟨A3, d3, g3, rfl, hd3, hm3, hg3, hb3⟩
  have H3 := Lib.hid (And.intro (H2.out.1.rd.below hb3) (And.intro hm3.rd (below_base H2.out.2.2 hb3 H2.out.2.2.size)))
  clear hm3 hb3 hd3 hg3
  go_wp2_with fail
  refine (same_true H3.out.1 H3.out.2.1).mono ?_
  rintro e w4 ⟨rfl, rfl⟩
  go_wp2
  go_ret
  exact ⟨rfl, H3.out.2.2⟩
set_option maxRecDepth 100000 in
set_option maxHeartbeats 1600000 in
theorem awake_any {w : World} : Calls Try.prog 9 #[] w fun e w' => e = .returned (.bool true) ∧ Below w.heap.size w w' := by
  obtain ⟨w1, hw1⟩ : ∃ w1, w1 = w.alloc (.cells #[.int .i64 3, .int .i64 258, .int .i64 0, .int .i64 0, .int .i64 0, .slice none 0 0] 24) := ⟨_, rfl⟩
  have hb1 : Below w.heap.size w w1 := by rw [hw1]; exact (Below.refl _ _).alloc (Nat.le_refl _) _
  have hz1 : Bk w1 w.heap.size 24 [.int .i64 3, .int .i64 258, .int .i64 0, .int .i64 0, .int .i64 0, .slice none 0 0] := by rw [hw1]; exact Bk.newA w _ _
  have hs1 : w1.heap.size = w.heap.size + 1 := by rw [hw1, World.size_alloc]
  obtain ⟨c0, c1, c2, c3, c4, c5⟩ := cells6 hz1
  have HZ := Lib.hid (And.intro hz1 hb1)
  clear hz1 hb1
  go_enter Try.func9, Try.ntmps9
  go_wp2_with fail
  rw [← hw1]
  refine (puts_any (p := ⟨3, 258, 0, 0, 0, []⟩) (want := [3, 0, 0, 1, 2]) (pa_nil _ _ _ _ _ _ ⟨i64s (by decide) (by decide), i64s (by decide) (by decide), i64s (by decide) (by decide), i64s (by decide) (by decide), i64s (by decide) (by decide)⟩) (Rd.lit _ _ _ _ (by rw [hs1]) 5 rfl _ rfl) (by decide) (by decide) (by decide)).mono ?_
  rintro e w2 ⟨rfl, hb2⟩
  have H2 := Lib.hid (And.intro ((HZ.out.1.alloc _).belowS hb2) (below_base (HZ.out.2.alloc (by rw [hs1]; exact Nat.le_succ _) _) hb2 (by rw [World.size_alloc, hs1]; omega)))
  clear hb2 hw1 hs1 c0 c1 c2 c3 c4 c5
  obtain ⟨c0, c1, c2, c3, c4, c5⟩ := cells6 H2.out.1
  go_wp2_with fail
  refine (psize_any (p := ⟨3, 258, 0, 0, 0, []⟩) (pa_nil _ _ _ _ _ _ ⟨i64s (by decide) (by decide), i64s (by decide) (by decide), i64s (by decide) (by decide), i64s (by decide) (by decide), i64s (by decide) (by decide)⟩)).mono ?_
  rintro e w3 ⟨rfl, hb3⟩
  rw [show (pkV ⟨3, 258, 0, 0, 0, []⟩).length = 9 from by unfold pkV; rw [if_pos (by decide), seal_length]; rfl]
  have H3 := Lib.hid (below_base H2.out.2 hb3 H2.out.2.size)
  clear hb3 c0 c1 c2 c3 c4 c5
  go_wp2_with fail
  refine (psends_any (p := ⟨4, 0, 0, 0, 7, []⟩) (pa_nil _ _ _ _ _ _ ⟨i64s (by decide) (by decide), i64s (by decide) (by decide), i64s (by decide) (by decide), i64s (by decide) (by decide), i64s (by decide) (by decide)⟩)).mono ?_
  rintro e w4 ⟨rfl, hb4⟩
  rw [show pkS ⟨4, 0, 0, 0, 7, []⟩ = true from by decide]
  have H4 := Lib.hid (below_base H3.out hb4 H3.out.size)
  clear hb4
  go_wp2_with fail
  refine (pcheck_any (p := ⟨2, 0, 0, 1, 0, []⟩) (pa_nil _ _ _ _ _ _ ⟨i64s (by decide) (by decide), i64s (by decide) (by decide), i64s (by decide) (by decide), i64s (by decide) (by decide), i64s (by decide) (by decide)⟩)).mono ?_
  rintro e w5 ⟨rfl, hb5⟩
  rw [show pkE ⟨2, 0, 0, 1, 0, []⟩ = 2 from by decide]
  go_wp2
  go_ret
  exact ⟨rfl, below_base H4.out hb5 H4.out.size⟩
end Go.Proofs.Ytpfamjgdfcnieaa
