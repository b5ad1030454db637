/- What is known; awake. -/
import Derived.Test.YtgcahbdoemjmmaaH09
import Derived.Lib.SlBytesConst
namespace Go.Proofs.Ytgcahbdoemjmmaa
open Go.RowKit
set_option linter.unusedVariables false
theorem known_sum : crcSum tableL [49, 50, 51, 52, 53, 54, 55, 56, 57] = 3421780262 := by decide +kernel
theorem known_one : tableL[1]? = some 1996959894 := by decide +kernel
theorem known_seal : crcSeal tableL [97] = [97, 67, 190, 183, 232] := by decide +kernel
theorem known_openE : openE tableL [97, 67, 190, 183, 232] = 0 := by decide +kernel
theorem known_openB : openB tableL [97, 67, 190, 183, 232] = [97] := by decide +kernel
theorem tab_of {w : World} {g T : Nat} (h : Bk w g T (u32s tableL)) : Tab w (some ⟨g, 0, none⟩) tableL := .inr ⟨g, T, rfl, h, tableL_length, tableL_lt⟩
theorem Rd.litM (w : World) (t : TypeId) (cs : Array Value) (m : Nat × Nat) (k : Nat) (hk : k = w.heap.size) (n : Nat) (hn : n = cs.size) (xs : List Value) (hx : xs = cs.toList) : Rd (w.alloc (.cells cs t m)) (some ⟨k, 0, none⟩) n xs := by
  subst hk; subst hn; subst hx
  refine ⟨by simp, fun _ => ⟨_, 0, rfl, fun j u hu => ?_⟩⟩
  have h : (w.alloc (.cells cs t m)).heap[w.heap.size]? = some (.cells cs t m) := heap_alloc_new w _
  rw [Nat.zero_add]
  unfold World.cell?
  rw [h]
  simpa using hu
set_option maxRecDepth 100000 in
/-- artesianlaw09.awake -/
theorem awake_any {w : World} :
    Calls Try.prog 8 #[] w fun e w' => e = .returned (.bool true) ∧ Below w.heap.size w w' := by
  have hz := tab_info
  rw [zeros_u32] at hz
  have HZ := Lib.hid hz
  clear hz
  go_enter Try.func8, Try.ntmps8
  go_wp2_with fail
  refine crcTable_any.mono ?_
  rintro e w1 ⟨rfl, hb1⟩
  have H1 := Lib.hid hb1
  clear hb1
  go_upto_region 2 with (first
    | (with_reducible refine wpList_alloc_abs _ rfl 31 rfl (u32s (tabTo 0)) HZ.out ?_; intro w2 hb2 hl2 hs2; have H2 := Lib.hid (And.intro hb2 (below_base H1.out hl2 H1.out.size)); clear hb2 hl2)
    | (with_reducible refine wpList_store_bk rfl 31 (.tmp 1) (.tmp 3) rfl w1.heap.size (u32s tableL) rfl rfl _ _ H2.out.1 256 tab_size (by rw [u32s_length, tabTo_length (by omega)]) (by rw [u32s_length, tableL_length]) (u32s_one _) ?_; intro w3 hb3 hu3; have H3 := Lib.hid (And.intro (tab_of hb3) (And.intro hb3 (hu3.below H2.out.2 H2.out.2.size H1.out.size))); clear hb3 hu3))
  go_wp2_with fail
  refine (crcSeal_any (n := 1) (b := [97]) (by exact H3.out.1.below (by exact (Below.refl _ _).alloc (Nat.le_refl _) _)) (Rd.lit _ _ _ _ rfl 1 rfl _ rfl) (by omega)).mono ?_
  rintro e w4 ⟨A4, c4, g4, rfl, hc4, hm4, hg4, hb4⟩
  rw [known_seal] at hm4
  have bA := (Below.refl w3.heap.size w3).alloc (Nat.le_refl _) (Obj.cells #[.int .u8 97] 5)
  have bB : Below w3.heap.size w3 w4 := below_base bA hb4 bA.size
  have H4 := Lib.hid (And.intro (And.intro hm4 (H3.out.2.1.belowS bB)) (And.intro (H3.out.1.below bB) (below_base H3.out.2.2 bB H3.out.2.2.size)))
  clear hb4 hg4 bA bB hm4
  have c1 := H4.out.1.2.cell 1
  rw [u32s_get known_one] at c1
  have hc4' : 5 ≤ c4 := hc4
  have n4 : (5 : Int) ≤ (c4 : Int) := by omega
  have kc := fun (w : World) (C : Array Value) (n c : Nat) => Lib.run_convert_bytes_const (P := Try.prog) w 22 5 C n c Try.underlying22 Try.underlying5
  go_wp2_with fail
  refine (crcSum_any (n := 9) (b := [49, 50, 51, 52, 53, 54, 55, 56, 57]) (by exact H4.out.2.1.below (by exact (Below.refl _ _).alloc (Nat.le_refl _) _)) (Rd.litM _ _ _ _ _ rfl 9 rfl _ rfl) (by omega)).mono ?_
  rintro e w5 ⟨rfl, hb5⟩
  rw [known_sum]
  have bA := (Below.refl w4.heap.size w4).alloc (Nat.le_refl _) (Obj.cells #[.int .u8 49, .int .u8 50, .int .u8 51, .int .u8 52, .int .u8 53, .int .u8 54, .int .u8 55, .int .u8 56, .int .u8 57] 5 (9, 10))
  have bB : Below w4.heap.size w4 w5 := below_base bA hb5 bA.size
  have H5 := Lib.hid (And.intro (H4.out.1.1.rd.below bB) (And.intro (H4.out.1.2.belowS bB) (below_base H4.out.2.2 bB H4.out.2.2.size)))
  clear hb5 bA bB c1
  have c5 := H5.out.2.1.cell 1
  rw [u32s_get known_one] at c5
  go_wp2_with fail
  have bC := (Below.refl w5.heap.size w5).alloc (Nat.le_refl _) (Obj.cells #[.int .u8 97, .int .u8 67, .int .u8 190, .int .u8 183, .int .u8 232] 5)
  refine (same_true (l := [97, 67, 190, 183, 232]) (n' := 5) (H5.out.1.below bC) (Rd.lit _ _ _ _ rfl _ rfl _ rfl)).mono ?_
  rintro e w6 ⟨rfl, rfl⟩
  go_wp2_with fail
  have bD := bC.alloc bC.size (Obj.cells #[.int .u8 97] 5)
  refine (opened_any (b := [97, 67, 190, 183, 232]) (l := [97]) (n' := 1) (H5.out.1.below bD) (Rd.lit _ _ _ _ (by simp) _ rfl _ rfl) (by omega) hc4').mono ?_
  rintro e w7 ⟨rfl, hb7⟩
  rw [known_openE, known_openB]
  go_wp2_with fail
  go_ret
  exact ⟨rfl, below_base H5.out.2.2 (below_base bD hb7 bD.size) H5.out.2.2.size⟩
end Go.Proofs.Ytgcahbdoemjmmaa
