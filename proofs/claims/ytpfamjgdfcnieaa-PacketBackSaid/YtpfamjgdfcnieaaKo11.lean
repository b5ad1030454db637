/- Chapter 11: PacketKnown's walk. -/
import Derived.Test.YtpfamjgdfcnieaaGs11
namespace Go.Proofs.Ytpfamjgdfcnieaa
open Go.RowKit
set_option linter.unusedVariables false
theorem ge_nil_said : geE [] = 7 ∧ geP [] = pz := by
  have h : openE tableL [] = 7 := by decide +kernel
  have := ge_shut (b := []) (by rw [h]; decide)
  exact ⟨this.2.trans h, this.1⟩
theorem ge_five_said : geE [1, 2, 3, 4, 5] = 8 ∧ geP [1, 2, 3, 4, 5] = pz := by
  have h : openE tableL [1, 2, 3, 4, 5] = 8 := by decide +kernel
  have := ge_shut (b := [1, 2, 3, 4, 5]) (by rw [h]; decide)
  exact ⟨this.2.trans h, this.1⟩
theorem i64p : ∀ {a b c d e : Int}, (-1000000000000 ≤ a ∧ a ≤ 1000000000000) ∧ (-1000000000000 ≤ b ∧ b ≤ 1000000000000) ∧ (-1000000000000 ≤ c ∧ c ≤ 1000000000000) ∧ (-1000000000000 ≤ d ∧ d ≤ 1000000000000) ∧ (-1000000000000 ≤ e ∧ e ≤ 1000000000000) → I64 a ∧ I64 b ∧ I64 c ∧ I64 d ∧ I64 e :=
  fun ⟨h1, h2, h3, h4, h5⟩ => ⟨i64s h1.1 h1.2, i64s h2.1 h2.2, i64s h3.1 h3.2, i64s h4.1 h4.2, i64s h5.1 h5.2⟩
set_option maxRecDepth 100000 in
set_option maxHeartbeats 3200000 in
theorem packetKnown_walk (w : World) : Calls Try.prog 5 #[] w fun e w' => e = .returned (.bool true) ∧ Below w.heap.size w w' := by
  obtain ⟨w0, hw0⟩ : ∃ w0, w0 = w.alloc (.cells #[.int .u8 9, .int .u8 9] 5) := ⟨_, rfl⟩
  have hb0 : Below w.heap.size w w0 := by rw [hw0]; exact (Below.refl _ _).alloc (Nat.le_refl _) _
  have hs0 : w0.heap.size = w.heap.size + 1 := by rw [hw0, World.size_alloc]
  have hr0 : Rd w0 (some ⟨w.heap.size, 0, none⟩) 2 (bys [9, 9]) := by rw [hw0]; exact Rd.lit _ _ _ _ rfl 2 rfl _ rfl
  obtain ⟨w1, hw1⟩ : ∃ w1, w1 = w0.alloc (.cells #[.int .i64 1, .int .i64 1, .int .i64 2, .int .i64 3, .int .i64 0, .slice (some ⟨w.heap.size, 0, none⟩) 2 2] 24) := ⟨_, rfl⟩
  have hb1 : Below w0.heap.size w0 w1 := by rw [hw1]; exact (Below.refl _ _).alloc (Nat.le_refl _) _
  have hz1 : Bk w1 (w.heap.size + 1) 24 [.int .i64 1, .int .i64 1, .int .i64 2, .int .i64 3, .int .i64 0, .slice (some ⟨w.heap.size, 0, none⟩) 2 2] := by rw [hw1, ← hs0]; exact Bk.newA w0 _ _
  have hp1 : PA w1 (some ⟨w.heap.size, 0, none⟩) 2 2 ⟨1, 1, 2, 3, 0, [9, 9]⟩ := ⟨hr0.below hb1, Nat.le_refl _, by decide, rfl, i64p (by decide)⟩
  have H1 := Lib.hid (And.intro hz1 (And.intro hp1 (below_base hb0 hb1 hb0.size)))
  clear hz1 hp1 hb0 hb1 hr0
  go_enter Try.func5, Try.ntmps5
  go_upto_region 2 with fail
  rw [← hw0, ← hw1]
  clear hw0 hw1 hs0
  go_wp2_with fail
  refine awake_any.mono ?_
  rintro e w2 ⟨rfl, hb2⟩
  have H2 := Lib.hid (And.intro (H1.out.1.belowS hb2) (And.intro (H1.out.2.1.below hb2) (below_base H1.out.2.2 hb2 H1.out.2.2.size)))
  clear hb2
  obtain ⟨c0, c1, c2, c3, c4, c5⟩ := cells6 H2.out.1
  go_wp2_with fail
  refine (puts_any (p := ⟨1, 1, 2, 3, 0, [9, 9]⟩) (want := [1, 0, 0, 0, 1, 0, 0, 0, 2, 0, 0, 0, 3, 9, 9]) (H2.out.2.1.below ((Below.refl _ _).alloc (Nat.le_refl _) _)) (Rd.lit _ _ _ _ rfl 15 rfl _ rfl) (by decide) (by decide) (by decide)).mono ?_
  rintro e w3 ⟨rfl, hb3⟩
  have H3 := Lib.hid (below_base (H2.out.2.2.alloc H2.out.2.2.size _) hb3 (by rw [World.size_alloc]; have := H2.out.2.2.size; omega))
  clear hb3 c0 c1 c2 c3 c4 c5
  go_wp2_with fail
  refine (pcheck_any (p := ⟨4, 0, 0, 0, 0, []⟩) (pa_nil _ _ _ _ _ _ (i64p (by decide)))).mono ?_
  rintro e w4 ⟨rfl, hb4⟩
  rw [show pkE ⟨4, 0, 0, 0, 0, []⟩ = 2 from by decide]
  have H4 := Lib.hid (below_base H3.out hb4 H3.out.size)
  clear hb4
  go_wp2_with fail
  refine (pcheck_any (p := ⟨5, 0, 0, 0, 0, []⟩) (pa_nil _ _ _ _ _ _ (i64p (by decide)))).mono ?_
  rintro e w5 ⟨rfl, hb5⟩
  rw [show pkE ⟨5, 0, 0, 0, 0, []⟩ = 2 from by decide]
  have H5 := Lib.hid (below_base H4.out hb5 H4.out.size)
  clear hb5
  go_wp2_with fail
  refine (none_any (b := []) (Rd.nil _ _) (by decide) (Nat.le_refl _) ge_nil_said.1 ge_nil_said.2).mono ?_
  rintro e w6 ⟨rfl, hb6⟩
  have H6 := Lib.hid (below_base H5.out hb6 H5.out.size)
  clear hb6
  go_wp2_with fail
  refine (none_any (b := [1, 2, 3, 4, 5]) (Rd.lit _ _ _ _ rfl 5 rfl _ rfl) (by decide) (Nat.le_refl _) ge_five_said.1 ge_five_said.2).mono ?_
  rintro e w7 ⟨rfl, hb7⟩
  have H7 := Lib.hid (below_base (H6.out.alloc H6.out.size _) hb7 (by rw [World.size_alloc]; have := H6.out.size; omega))
  clear hb7
  go_wp2_with fail
  refine (psends_any (p := ⟨4, 0, 0, 0, 8, []⟩) (pa_nil _ _ _ _ _ _ (i64p (by decide)))).mono ?_
  rintro e w8 ⟨rfl, hb8⟩
  rw [show pkS ⟨4, 0, 0, 0, 8, []⟩ = false from by decide]
  have H8 := Lib.hid (below_base H7.out hb8 H7.out.size)
  clear hb8
  go_wp2_with fail
  refine (psends_any (p := ⟨3, 0, 0, 0, 0, []⟩) (pa_nil _ _ _ _ _ _ (i64p (by decide)))).mono ?_
  rintro e w9 ⟨rfl, hb9⟩
  rw [show pkS ⟨3, 0, 0, 0, 0, []⟩ = false from by decide]
  have H9 := Lib.hid (below_base H8.out hb9 H8.out.size)
  clear hb9
  go_wp2
  go_ret
  exact ⟨rfl, H9.out⟩
end Go.Proofs.Ytpfamjgdfcnieaa
