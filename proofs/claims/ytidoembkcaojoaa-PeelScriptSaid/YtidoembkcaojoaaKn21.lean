/- Chapter 21: PeelKnown. -/
import Derived.Test.YtidoembkcaojoaaSl21
namespace Go.Proofs.Ytidoembkcaojoaa
open Go.RowKit
set_option linter.unusedVariables false
def bE : DS := (bD.add 10 [0] [1]).2.2
def bF : DS := (bE.add 11 [0, 3] [1]).2.2
theorem e1_says : ((bD.add 10 [0] [1]).2.1 == 0 && (bD.add 10 [0] [1]).1 == []) = true := by kernel_rfl
theorem e2_says : ((bE.add 11 [0, 3] [1]).2.1 == 2 && (bE.add 11 [0, 3] [1]).1 == []) = true := by kernel_rfl
theorem e3_says : ((bF.add 12 [0] [1, 2]).2.1 == 2 && (bF.add 12 [0] [1, 2]).1 == []) = true := by kernel_rfl
theorem e_len : bD.sets.length = 3 ∧ bE.sets.length = 4 ∧ bF.sets.length = 4 := ⟨by kernel_rfl, by kernel_rfl, by kernel_rfl⟩
theorem e_k : bD.k = 3 ∧ bE.k = 3 ∧ bF.k = 3 := ⟨by kernel_rfl, by kernel_rfl, by kernel_rfl⟩
theorem e_sy0 : syR bD 0 = ([1], 0) := by kernel_rfl
theorem e_sy3 : syR bD 3 = ([], 3) := by kernel_rfl
theorem e_bl : blR bD = ([[1], [2], [4]], 0) := by kernel_rfl
section
variable {w0 w1 w w' : World} {D : Nat} {d : DS}
theorem lp_symbol (h : Hid (Lp w0 w1 D d)) (i : Int) : Calls Try.prog 21 #[.pointer (some ⟨D, 0, none⟩), .int .i64 i] w1 (SyPost w1 (syR d i).1 (syR d i).2) := by
  obtain ⟨_, _, _, h2, _⟩ := h.out; exact symbol_dw h2 i
theorem lp_block (h : Hid (Lp w0 w1 D d)) : Calls Try.prog 22 #[.pointer (some ⟨D, 0, none⟩)] w1 (BlPost w1 (blR d).1.length (blR d).1 (blR d).2) := by
  obtain ⟨_, _, _, h2, _⟩ := h.out; exact block_dw h2
end
def lit3W (w : World) (a b c : UInt8) : World :=
  (((w.alloc (.cells #[.int .u8 (a.toNat : Nat)] 5)).alloc (.cells #[.int .u8 (b.toNat : Nat)] 5)).alloc (.cells #[.int .u8 (c.toNat : Nat)] 5)).alloc
    (.cells #[.slice (some ⟨w.heap.size, 0, none⟩) 1 1, .slice (some ⟨w.heap.size + 1, 0, none⟩) 1 1, .slice (some ⟨w.heap.size + 1 + 1, 0, none⟩) 1 1] 22)
theorem lit3_below (w : World) (a b c : UInt8) : Below w.heap.size w (lit3W w a b c) :=
  ((((Below.refl _ _).alloc (Nat.le_refl _) _).alloc (by rw [World.size_alloc]; omega) _).alloc (by rw [World.size_alloc, World.size_alloc]; omega) _).alloc (by rw [World.size_alloc, World.size_alloc, World.size_alloc]; omega) _
theorem lit3_syms (w : World) (a b c : UInt8) : Syms (lit3W w a b c) (some ⟨w.heap.size + 1 + 1 + 1, 0, none⟩) 3 [[a], [b], [c]] := by
  have k1 := (((Bk.newA w 5 #[.int .u8 (a.toNat : Nat)]).alloc (.cells #[.int .u8 (b.toNat : Nat)] 5)).alloc (.cells #[.int .u8 (c.toNat : Nat)] 5)).alloc (.cells #[.slice (some ⟨w.heap.size, 0, none⟩) 1 1, .slice (some ⟨w.heap.size + 1, 0, none⟩) 1 1, .slice (some ⟨w.heap.size + 1 + 1, 0, none⟩) 1 1] 22)
  have k2 := ((Bk.newA (w.alloc (.cells #[.int .u8 (a.toNat : Nat)] 5)) 5 #[.int .u8 (b.toNat : Nat)]).alloc (.cells #[.int .u8 (c.toNat : Nat)] 5)).alloc (.cells #[.slice (some ⟨w.heap.size, 0, none⟩) 1 1, .slice (some ⟨w.heap.size + 1, 0, none⟩) 1 1, .slice (some ⟨w.heap.size + 1 + 1, 0, none⟩) 1 1] 22)
  have k3 := (Bk.newA ((w.alloc (.cells #[.int .u8 (a.toNat : Nat)] 5)).alloc (.cells #[.int .u8 (b.toNat : Nat)] 5)) 5 #[.int .u8 (c.toNat : Nat)]).alloc (.cells #[.slice (some ⟨w.heap.size, 0, none⟩) 1 1, .slice (some ⟨w.heap.size + 1, 0, none⟩) 1 1, .slice (some ⟨w.heap.size + 1 + 1, 0, none⟩) 1 1] 22)
  have k4 := Bk.newA (((w.alloc (.cells #[.int .u8 (a.toNat : Nat)] 5)).alloc (.cells #[.int .u8 (b.toNat : Nat)] 5)).alloc (.cells #[.int .u8 (c.toNat : Nat)] 5)) 22 #[.slice (some ⟨w.heap.size, 0, none⟩) 1 1, .slice (some ⟨w.heap.size + 1, 0, none⟩) 1 1, .slice (some ⟨w.heap.size + 1 + 1, 0, none⟩) 1 1]
  rw [World.size_alloc] at k2
  rw [World.size_alloc, World.size_alloc] at k3
  rw [World.size_alloc, World.size_alloc, World.size_alloc] at k4
  refine ⟨[.slice (some ⟨w.heap.size, 0, none⟩) 1 1, .slice (some ⟨w.heap.size + 1, 0, none⟩) 1 1, .slice (some ⟨w.heap.size + 1 + 1, 0, none⟩) 1 1], Rd.of_bk k4 (by simp) (by simp), rfl, fun i x hx => ?_⟩
  match i with
  | 0 => injection hx with hx; subst hx; exact ⟨_, 1, rfl, Nat.le_refl _, by simp, Rd.of_bk k1 (by simp) (by simp [bys])⟩
  | 1 => injection hx with hx; subst hx; exact ⟨_, 1, rfl, Nat.le_refl _, by simp, Rd.of_bk k2 (by simp) (by simp [bys])⟩
  | 2 => injection hx with hx; subst hx; exact ⟨_, 1, rfl, Nat.le_refl _, by simp, Rd.of_bk k3 (by simp) (by simp [bys])⟩
  | i + 3 => simp at hx
set_option maxRecDepth 100000 in
set_option maxHeartbeats 3200000 in
theorem peelKnown_any {w : World} : Calls Try.prog 4 #[] w fun e w' => e = .returned (.bool true) ∧ Below w.heap.size w w' := by
  have HE := Lib.hid (And.intro e_len e_k)
  go_enter Try.func4, Try.ntmps4
  go_wp2_with fail
  refine begun_any.mono ?_
  rintro e w1 ⟨D, rfl, h1⟩
  have HL := Lib.hid h1
  clear h1
  go_wp2_with fail
  have hs := lp_symbol HL 0
  rw [e_sy0] at hs
  refine hs.mono ?_
  rintro e w2 ⟨v2, rfl, ho2, hb2⟩
  obtain ⟨A2, c2, rfl⟩ := own_sl ho2
  have HL2 := Lib.hid (HL.out.below hb2)
  have HO2 := Lib.hid (Rd.of_own ho2)
  clear hs ho2 hb2 HL
  go_wp2_with fail
  have hs := lp_block HL2
  rw [e_bl] at hs
  refine hs.mono ?_
  rintro e w3 ⟨v3, vs, rfl, ho3, hor3, hb3⟩
  obtain ⟨A3, c3, rfl⟩ := own_sl ho3
  have HL3 := Lib.hid (HL2.out.below hb3)
  have HO3 : Hid (Syms w3 A3 3 [[1], [2], [4]]) := Lib.hid ⟨vs, Rd.of_own ho3, hor3.rows⟩
  have HO2 := Lib.hid (HO2.out.below hb3)
  clear hs ho3 hor3 hb3 HL2
  go_wp2_with fail
  have hs := lp_symbol HL3 3
  rw [e_sy3] at hs
  refine hs.mono ?_
  rintro e w4 ⟨v4, rfl, ho4, hb4⟩
  have HL4 := Lib.hid (HL3.out.below hb4)
  have HO3 := Lib.hid (HO3.out.below hb4)
  have HO2 := Lib.hid (HO2.out.below hb4)
  clear hs ho4 hb4 HL3
  go_wp2_with fail
  refine (new_dw 0 1 1 (.inl (by decide))).mono ?_
  intro e w5 h5
  unfold PwPost at h5
  rw [if_pos (by decide)] at h5
  obtain ⟨rfl, hb5⟩ := h5
  have HL5 := Lib.hid (HL4.out.below hb5)
  have HO3 := Lib.hid (HO3.out.below hb5)
  have HO2 := Lib.hid (HO2.out.below hb5)
  clear hb5 HL4
  go_wp2_with fail
  have hb6 : Below w5.heap.size w5 (w5.alloc (.cells #[.int .u8 1] 5)) := (Below.refl _ _).alloc (Nat.le_refl _) _
  have hq := same_any (c := c2) (n' := 1) (c' := 1) (A' := some ⟨w5.heap.size, 0, none⟩) (l := [1]) (l' := [1]) (HO2.out.below hb6) (Rd.of_bk (Bk.newA w5 5 #[.int .u8 1]) (by decide) rfl)
  refine hq.mono ?_
  rintro e w6 ⟨rfl, rfl⟩
  have HL6 := Lib.hid (HL5.out.below hb6)
  have HO3 := Lib.hid (HO3.out.below hb6)
  clear hb6 hq HL5
  generalize w5.alloc (.cells #[.int .u8 1] 5) = w6 at HL6 HO3 ⊢
  go_wp2_with fail
  have hb7 := lit3_below w6 1 2 4
  have hs7 := lit3_syms w6 1 2 4
  have hq := sameLists_any (c := c3) (c' := 3) (HO3.out.below hb7) hs7 (by decide)
  rw [show (([[1], [2], [4]] : List (List UInt8)) == [[1], [2], [4]]) = true from by decide] at hq
  have HL7 := Lib.hid (HL6.out.below hb7)
  clear hb7 hs7 HL6
  refine Calls.mono (w := lit3W w6 1 2 4) hq ?_
  rintro e w8 ⟨rfl, hb8⟩
  have HL8 := Lib.hid (HL7.out.below hb8)
  clear hq hb8 HL7
  go_wp2_with fail
  refine awake_any.mono ?_
  rintro e w9 ⟨rfl, hb9⟩
  have HL9 := Lib.hid (HL8.out.below hb9)
  clear hb9 HL8
  go_wp2_with fail
  refine (lp_adds_lit HL9 (set := [0]) (pay := [1]) (by rw [HE.out.1.1]; decide) (by decide) rfl (by decide) rfl (by decide) rfl rfl (by rw [HE.out.2.1]; decide)).mono ?_
  rintro e wa ⟨rfl, ha⟩
  rw [e1_says]
  have HLa : Hid (Lp w wa D bE) := Lib.hid ha
  clear ha HL9
  go_wp2_with fail
  refine (lp_adds_lit HLa (set := [0, 3]) (pay := [1]) (by rw [HE.out.1.2.1]; decide) (by decide) rfl (by decide) rfl (by decide) rfl rfl (by rw [HE.out.2.2.1]; decide)).mono ?_
  rintro e wb ⟨rfl, hb⟩
  rw [e2_says]
  have HLb : Hid (Lp w wb D bF) := Lib.hid hb
  clear hb HLa
  go_wp2_with fail
  refine (lp_adds_lit HLb (set := [0]) (pay := [1, 2]) (by rw [HE.out.1.2.2]; decide) (by decide) rfl (by decide) rfl (by decide) rfl rfl (by rw [HE.out.2.2.2]; decide)).mono ?_
  rintro e wc ⟨rfl, hc⟩
  rw [e3_says]
  have HLc := Lib.hid hc
  clear hc HLb
  go_wp2_with fail
  go_ret
  exact ⟨rfl, HLc.out.1⟩
theorem peelKnown_w (w : World) : Calls Try.prog 4 #[] w fun e w' => e = .returned (.bool true) ∧ Below w.heap.size w w' := peelKnown_any
end Go.Proofs.Ytidoembkcaojoaa
