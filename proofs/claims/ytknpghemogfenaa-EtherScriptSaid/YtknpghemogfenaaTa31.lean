/- Chapter 31: many sends and a tick of both ethers; any act. -/
import Derived.Test.YtknpghemogfenaaSz31
namespace Go.Proofs.Ytknpghemogfenaa
open Go.Conc Go.RowKit
set_option linter.unusedVariables false
/-- So many have been sent. -/
def SN (w0 wz w : World) (X E : Nat) (s : ES) (d : Int) (n : Nat) (x : List UInt8) (i q : Nat) (Z : Nat → Prop) (j : Nat) : Prop := ∃ N, SV w0 wz w X E (s.sends d n x j) (s.sends d n x j) N Z ∧ BS (s.sends d n x j) N i q j
set_option maxRecDepth 100000 in
set_option maxHeartbeats 6400000 in
theorem does5_any {w0 w : World} {X E N n c i q : Nat} {s : ES} {A : Option Addr} {x : List UInt8} {d many : Int} (h : SL w0 w X E s N) (hbd : BD s N i q) (hi : i ≤ 60) (hq : q ≤ 2) (hm : I64 many) (hr : Rd w A n (bys x)) (ha : 0 < n → ∀ a, A = some a → a.block < w0.heap.size) (hn : n ≤ 140737488351232) :
    Calls Try.prog 27 #[.pointer (some ⟨X, 0, none⟩), .pointer (some ⟨E, 0, none⟩), .agg #[.int .i64 5, .int .i64 d, .int .i64 many, .slice A n c]] w fun e w' => e = .returned (.bool true) ∧ SLto w0 w' X E (i + 1) (q + 1) := by
  obtain ⟨er, her⟩ : ∃ er, sendE d n = er := ⟨_, rfl⟩
  obtain ⟨P, hP, hP1⟩ : ∃ P : Nat, many % 1101 = (P : Int) ∧ P ≤ 1100 := ⟨(many % 1101).toNat, by omega, by omega⟩
  have H := Lib.hid (And.intro h (And.intro hbd (And.intro (And.intro hi hq) (And.intro hr (And.intro ha (And.intro hn (And.intro her (And.intro (wf_i64 hm) hP))))))))
  have x1 : (er != er) = false := by simp
  clear h hbd hi hq hr ha hn her hm hP
  go_enter Try.func27, Try.ntmps27
  go_wp2_with fail
  refine (pick_any many 1101 H.out.2.2.2.2.2.2.2.1 (by decide) (by decide)).mono ?_
  rw [H.out.2.2.2.2.2.2.2.2]
  rintro _ w1 ⟨rfl, hw1⟩
  have hal := (Below.refl w.heap.size w).alloc (Nat.le_refl _) (.cells #[.int .i64 5, .int .i64 d, .int .i64 many, .slice A n c] 34)
  have b1 : (w.alloc (.cells #[.int .i64 5, .int .i64 d, .int .i64 many, .slice A n c] 34)).cell? ⟨w.heap.size, 1, none⟩ = some (.int .i64 d) := (Bk.newA w _ _).cell 1
  have b3 : (w.alloc (.cells #[.int .i64 5, .int .i64 d, .int .i64 many, .slice A n c] 34)).cell? ⟨w.heap.size, 3, none⟩ = some (.slice A n c) := (Bk.newA w _ _).cell 3
  have hz9 : w.heap.size < (w.alloc (.cells #[.int .i64 5, .int .i64 d, .int .i64 many, .slice A n c] 34)).heap.size := by rw [World.size_alloc]; omega
  rw [hw1] at hal b1 b3 hz9
  subst hw1
  generalize w.alloc (.cells #[.int .i64 5, .int .i64 d, .int .i64 many, .slice A n c] 34) = w9 at hal b1 b3 hz9 ⊢
  have hsv := H.out.1.sv hal
  have HZ := Lib.hid (And.intro hz9 (And.intro (H.out.2.2.2.1.below hal) (show SN w0 w9 w9 X E s d n x i q (fun k => k < w0.heap.size ∨ (w.heap.size ≤ k ∧ k < w9.heap.size)) 0 from ⟨N, hsv, .start H.out.2.1⟩)))
  have HCK := Lib.hid (show ∀ wy sa sb N', SV w0 w9 wy X E sa sb N' (fun k => k < w0.heap.size ∨ (w.heap.size ≤ k ∧ k < w9.heap.size)) → (wy.cell? ⟨w.heap.size, 1, none⟩ = some (.int .i64 d) ∧ wy.cell? ⟨w.heap.size, 3, none⟩ = some (.slice A n c)) from fun wy sa sb N' hs => ⟨hs.cell b1 (.inr ⟨Nat.le_refl _, hz9⟩), hs.cell b3 (.inr ⟨Nat.le_refl _, hz9⟩)⟩)
  have HP := Lib.hid (show 0 < n → ∀ a, A = some a → (a.block < w0.heap.size ∨ (w.heap.size ≤ a.block ∧ a.block < w9.heap.size)) from fun h0 a e => .inl (H.out.2.2.2.2.1 h0 a e))
  clear hal b1 b3 hz9 hsv
  go_wp2_with fail
  go_loopw [14] (fun v wx => ∃ j : Nat, j ≤ P ∧ v = .int .i64 ((P : Int) - (j : Int)) ∧ Hid (SN w0 w9 wx X E s d n x i q (fun k => k < w0.heap.size ∨ (w.heap.size ≤ k ∧ k < w9.heap.size)) j)) (fun v wx => (intOf v).toNat)
  case atStart => exact ⟨0, Nat.zero_le _, by simp, HZ.out.2.2⟩
  case round =>
    obtain ⟨j, hj, rfl, HJ⟩ := hrel
    obtain ⟨Nj, hsv, hbs⟩ := HJ.out
    by_cases hlt : j < P
    · have hc1 : decide ((P : Int) - (j : Int) > 0) = true := by simp; omega
      have hc2 : decide (0 < (P : Int) - (j : Int)) = true := by simp; omega
      have ej : IntKind.i64.wrap ((P : Int) - (j : Int) - 1) = (P : Int) - ((j + 1 : Nat) : Int) := by rw [IntKind.wrap_i64]; omega
      obtain ⟨k1, k3⟩ := HCK.out _ _ _ _ hsv
      have H0 := Lib.hid (And.intro hsv (And.intro hbs (And.intro (hbs.big (by have := H.out.2.2.1; omega) (by have := H.out.2.2.1; omega) (by omega)) (And.intro hlt hsv.ok))))
      clear hsv hbs HJ
      go_wp2_with fail
      go_region_held3 (fun w' => w'.cell? ⟨w.heap.size, 1, none⟩ = some (.int .i64 d) ∧ w'.cell? ⟨w.heap.size, 3, none⟩ = some (.slice A n c)) (first | exact HCK.out _ _ _ _ HXR.out | exact HCK.out _ _ _ _ HX1.out | go_keep)
        (first
          | (go_at_call 13; refine (sv_sendX (H0.out.1.below (below_dN (Below.refl _ _) 1)) HZ.out.2.1 HP.out H.out.2.2.2.2.2.1 H0.out.2.2.1).mono ?_; rw [H.out.2.2.2.2.2.2.1]; rintro _ w5 ⟨rfl, h5⟩; have HX1 := Lib.hid h5; clear h5)
          | (go_at_call 43; refine (sv_sendR HX1.out H0.out.2.2.2.2 HZ.out.2.1 HP.out H0.out.2.2.1).mono ?_; rw [H.out.2.2.2.2.2.2.1]; rintro _ w6 ⟨rfl, h6⟩; have HXR := Lib.hid h6; clear h6))
      have HN := Lib.hid (show SN w0 w9 w6 X E s d n x i q (fun k => k < w0.heap.size ∨ (w.heap.size ≤ k ∧ k < w9.heap.size)) (j + 1) from ⟨_, HXR.out, H0.out.2.1.next d n x⟩)
      clear k1 k3
      go_wp2_with fail
      refine ⟨⟨j + 1, hlt, rfl, HN⟩, by show ((P : Int) - ((j + 1 : Nat) : Int)).toNat < ((P : Int) - (j : Int)).toNat; omega⟩
    · obtain rfl : j = P := by omega
      have hc1 : decide ((j : Int) - (j : Int) > 0) = false := by simp
      have hc2 : decide (0 < (j : Int) - (j : Int)) = false := by simp
      have e0 : (j : Int) - (j : Int) = 0 := by omega
      have H0 := Lib.hid (And.intro hsv (And.intro hbs (hbs.big (by have := H.out.2.2.1; omega) (by have := H.out.2.2.1; omega) (by omega))))
      clear hsv hbs HJ hlt hj
      go_wp2_with fail
      refine (ticks_any H0.out.1 H0.out.2.2).mono ?_
      rintro _ w5 ⟨rfl, h5⟩
      have H5 := Lib.hid h5.sl
      clear h5
      go_wp2_with fail
      go_ret
      exact ⟨rfl, _, _, H5.out, (H0.out.2.1.done (by omega)).tick (by have := H.out.2.2.1; omega) (by have := H.out.2.2.1; omega)⟩
theorem does_any {w0 w : World} {X E N n c i q : Nat} {s : ES} {A : Option Addr} {x : List UInt8} {kd d many : Int} (h : SL w0 w X E s N) (hbd : BD s N i q) (hi : i ≤ 60) (hq : q + (if kd = 5 then 1 else 0) ≤ 3) (hm : I64 many) (hr : Rd w A n (bys x)) (ha : 0 < n → ∀ a, A = some a → a.block < w0.heap.size) (hn : n ≤ 140737488351232) :
    Calls Try.prog 27 #[.pointer (some ⟨X, 0, none⟩), .pointer (some ⟨E, 0, none⟩), .agg #[.int .i64 kd, .int .i64 d, .int .i64 many, .slice A n c]] w fun e w' => e = .returned (.bool true) ∧ SLto w0 w' X E (i + 1) (q + (if kd = 5 then 1 else 0)) := by
  by_cases h5 : kd = 5
  · subst h5
    simp only [if_true] at hq ⊢
    exact does5_any h hbd hi (by omega) hm hr ha hn
  · rw [if_neg h5] at hq ⊢
    rw [Nat.add_zero] at hq ⊢
    rcases (show (kd = 0 ∨ kd = 1) ∨ kd = 2 ∨ (kd = 3 ∨ kd = 4) ∨ (kd < 0 ∨ 5 < kd) by omega) with hk | hk | hk | hk
    · exact does01_any h hbd hi hq hr ha hn hk
    · subst hk; exact does2_any h hbd hi hq
    · exact does34_any h hbd hk
    · exact doesX_any h hbd hk
end Go.Proofs.Ytknpghemogfenaa
