/- Chapter 21: begun, awake, PeelKnown. -/
import Derived.Test.YtidoembkcaojoaaAw21
namespace Go.Proofs.Ytidoembkcaojoaa
open Go.RowKit
set_option linter.unusedVariables false
def bD0 : DS := newD 3 1 9
def bD1 : DS := (bD0.add 7 [0, 1] [3]).2.2
def bD2 : DS := (bD1.add 8 [1, 2] [6]).2.2
def bD3 : DS := (bD2.add 7 [0] [1]).2.2
def bD : DS := (bD3.add 9 [2] [4]).2.2
theorem b1_says : ((bD0.add 7 [0, 1] [3]).2.1 == 0 && (bD0.add 7 [0, 1] [3]).1 == []) = true := by kernel_rfl
theorem b2_says : ((bD1.add 8 [1, 2] [6]).2.1 == 0 && (bD1.add 8 [1, 2] [6]).1 == []) = true := by kernel_rfl
theorem b3_says : ((bD2.add 7 [0] [1]).2.1 == 11 && (bD2.add 7 [0] [1]).1 == []) = true := by kernel_rfl
theorem b4_says : ((bD3.add 9 [2] [4]).2.1 == 0 && (bD3.add 9 [2] [4]).1 == [2, 1, 0]) = true := by kernel_rfl
theorem b_unk : unk bD2.kn = 3 := by kernel_rfl
theorem b_done : unk bD.kn = 0 := by kernel_rfl
theorem b_known : knL bD.kn = [0, 1, 2] := by kernel_rfl
theorem b_len : bD0.sets.length = 0 ∧ bD1.sets.length = 1 ∧ bD2.sets.length = 2 ∧ bD3.sets.length = 2 ∧ bD.sets.length = 3 := ⟨by kernel_rfl, by kernel_rfl, by kernel_rfl, by kernel_rfl, by kernel_rfl⟩
theorem b_k : bD0.k = 3 ∧ bD1.k = 3 ∧ bD2.k = 3 ∧ bD3.k = 3 ∧ bD.k = 3 := ⟨by kernel_rfl, by kernel_rfl, by kernel_rfl, by kernel_rfl, by kernel_rfl⟩
theorem lp_new {w0 w : World} (hb0 : Below w0.heap.size w0 w) {k s most : Int} {e : Ending} {w' : World} (h : PwPost w k s most e w') (hp : ¬ pbad k s most) : ∃ D, e = .returned (.tuple #[.pointer (some ⟨D, 0, none⟩), .int .i64 0]) ∧ Lp w0 w' D (newD k.toNat s.toNat most) := by
  unfold PwPost at h
  rw [if_neg hp] at h
  obtain ⟨D, rfl, h1, h2⟩ := h
  exact ⟨D, rfl, below_base hb0 h2 hb0.size, _, _, h1, fun b hb => ⟨Nat.le_trans hb0.size hb.1, hb.2⟩⟩
set_option maxRecDepth 100000 in
set_option maxHeartbeats 3200000 in
theorem begun_any {w : World} : Calls Try.prog 20 #[] w fun e w' => ∃ D, e = .returned (.pointer (some ⟨D, 0, none⟩)) ∧ Lp w w' D bD := by
  obtain ⟨l0, l1, l2, l3, l4⟩ := b_len
  obtain ⟨k0, k1, k2, k3, k4⟩ := b_k
  have HLen := Lib.hid (show (bD0.sets.length < 1000 ∧ bD1.sets.length < 1000 ∧ bD2.sets.length < 1000 ∧ bD3.sets.length < 1000) ∧ (bD0.k ≤ 100 ∧ bD1.k ≤ 100 ∧ bD2.k ≤ 100 ∧ bD3.k ≤ 100) from by omega)
  clear l0 l1 l2 l3 l4 k0 k1 k2 k3 k4
  go_enter Try.func20, Try.ntmps20
  go_wp2_with fail
  refine (new_dw 3 1 9 (.inl (by decide))).mono ?_
  intro e w1 h1
  obtain ⟨D, rfl, h2⟩ := lp_new (Below.refl _ _) h1 (by decide)
  have HL0 : Hid (Lp w w1 D bD0) := Lib.hid h2
  clear h1 h2
  go_wp2_with fail
  refine (lp_adds_lit HL0 (set := [0, 1]) (pay := [3]) HLen.out.1.1 (by decide) rfl (by decide) rfl (by decide) rfl rfl HLen.out.2.1).mono ?_
  rintro e w2 ⟨rfl, h2⟩
  rw [b1_says]
  have HL1 : Hid (Lp w w2 D bD1) := Lib.hid h2
  clear h2 HL0
  go_wp2_with fail
  refine (lp_adds_lit HL1 (set := [1, 2]) (pay := [6]) HLen.out.1.2.1 (by decide) rfl (by decide) rfl (by decide) rfl rfl HLen.out.2.2.1).mono ?_
  rintro e w3 ⟨rfl, h3⟩
  rw [b2_says]
  have HL2 : Hid (Lp w w3 D bD2) := Lib.hid h3
  clear h3 HL1
  go_wp2_with fail
  obtain ⟨_, base, FA, hdw, _⟩ := HL2.out
  refine (left_dw hdw).mono ?_
  rintro e w4 ⟨rfl, rfl⟩
  rw [b_unk]
  clear hdw
  go_wp2_with fail
  refine (lp_adds_lit HL2 (set := [0]) (pay := [1]) HLen.out.1.2.2.1 (by decide) rfl (by decide) rfl (by decide) rfl rfl HLen.out.2.2.2.1).mono ?_
  rintro e w5 ⟨rfl, h5⟩
  rw [b3_says]
  have HL3 : Hid (Lp w w5 D bD3) := Lib.hid h5
  clear h5 HL2
  go_wp2_with fail
  refine (lp_adds_lit3 HL3 (set := [2]) (pay := [4]) (ws := [2, 1, 0]) HLen.out.1.2.2.2 (by decide) rfl (by decide) rfl (by decide) rfl rfl rfl rfl HLen.out.2.2.2.2).mono ?_
  rintro e w6 ⟨rfl, h6⟩
  rw [b4_says]
  have HL4 : Hid (Lp w w6 D bD) := Lib.hid h6
  clear h6 HL3
  go_wp2_with fail
  go_ret
  exact ⟨D, rfl, HL4.out⟩
set_option maxRecDepth 100000 in
set_option maxHeartbeats 3200000 in
theorem awake_any {w : World} : Calls Try.prog 9 #[] w fun e w' => e = .returned (.bool true) ∧ Below w.heap.size w w' := by
  go_enter Try.func9, Try.ntmps9
  go_wp2_with fail
  refine begun_any.mono ?_
  rintro e w1 ⟨D, rfl, h1⟩
  have HL := Lib.hid h1
  obtain ⟨_, base, FA, hdw, _⟩ := h1
  have HD := Lib.hid hdw
  clear hdw
  go_wp2_with fail
  refine (done_dw HD.out).mono ?_
  rintro e w2 ⟨rfl, rfl⟩
  rw [b_done]
  go_wp2_with fail
  refine (left_dw HD.out).mono ?_
  rintro e w2 ⟨rfl, rfl⟩
  rw [b_done]
  go_wp2_with fail
  refine (known_dw HD.out).mono ?_
  rintro e w3 ⟨v, rfl, ho, hb⟩
  rw [b_known] at ho
  obtain ⟨V, c, rfl⟩ := own_sl ho
  have HK := Lib.hid (And.intro ho hb)
  clear ho hb
  go_wp2_with fail
  have hb3 : Below w3.heap.size w3 (w3.alloc (.cells #[.int .i64 0, .int .i64 1, .int .i64 2] 3)) := (Below.refl _ _).alloc (Nat.le_refl _) _
  refine (sameInts_any (xs := [0, 1, 2]) (ys := [0, 1, 2]) ((Rd.of_own HK.out.1).below hb3) (Rd.of_bk (Bk.newA w3 3 #[.int .i64 0, .int .i64 1, .int .i64 2]) (by decide) rfl) (by decide)).mono ?_
  rintro e w4 ⟨rfl, hb4⟩
  have HB := Lib.hid (below_base (below_base (below_base HL.out.1 HK.out.2 HL.out.1.size) hb3 (Nat.le_trans HL.out.1.size HK.out.2.size)) hb4 (Nat.le_trans (Nat.le_trans HL.out.1.size HK.out.2.size) hb3.size))
  clear hb3 hb4
  go_wp2_with fail
  go_ret
  exact ⟨rfl, HB.out⟩
end Go.Proofs.Ytidoembkcaojoaa
