/- CrcSealed: its walk. -/
import Derived.Test.YtgcahbdoemjmmaaK09
import Derived.Test.YtgcahbdoemjmmaaW09
import Derived.BigRegion
namespace Go.Proofs.Ytgcahbdoemjmmaa
open Go.RowKit
set_option linter.unusedVariables false
theorem openE_seal (b : List UInt8) : openE tableL (crcSeal tableL b) = 0 := openE_ok (m := b.length) (by rw [seal_length]) (by
  rw [show (crcSeal tableL b).take b.length = b from by unfold crcSeal; simp]; simp)
theorem openB_seal (b : List UInt8) : openB tableL (crcSeal tableL b) = b := by
  rw [openB_ok (m := b.length) (by rw [seal_length]) (openE_seal b)]
  unfold crcSeal; simp
/-- Another register than that of what is sealed: not to be opened. -/
theorem openE_reg {s : List UInt8} (hl : 4 ≤ s.length) (h : crcReg tableL s ≠ 3736805603) : openE tableL s = 8 := by
  refine openE_bad (m := s.length - 4) (by omega) ?_
  simp only [beq_eq_false_iff_ne]
  intro e
  apply h
  rw [← e]
  exact reg_seal _
theorem Mut.set_ {w : World} {A : Option Addr} {n g : Nat} {xs : List Value} (h : Mut w A n g 0 xs) (j : Nat) (hj : j < n) (v : Value) : Mut (w.setCell ⟨g, j, none⟩ v) A n g 0 (xs.set j v) := by
  refine ⟨by rw [List.length_set]; exact h.1, fun hn => ?_⟩
  obtain ⟨hA, t, cur, hb, hf, hx⟩ := h.2 hn
  refine ⟨hA, t, cur.set j v, hb.set_ j v, by rw [List.length_set]; exact hf, ?_⟩
  rw [List.drop_zero] at hx ⊢
  rw [← hx, List.take_set]
theorem bys_setv (l : List UInt8) (k : Nat) (x : UInt8) : (bys l).set k (.int .u8 (x.toNat : Int)) = bys (l.set k x) := by simp [bys, List.map_set]
theorem pow_mul_xor (k a b : Nat) : 2 ^ k * (a ^^^ b) = (2 ^ k * a) ^^^ (2 ^ k * b) := by
  apply Nat.eq_of_testBit_eq; intro i
  simp only [Nat.testBit_xor, Nat.testBit_two_pow_mul]
  cases decide (i ≥ k) <;> simp
theorem flip_step {w wr : World} {A : Option Addr} {n g f k m j r q W : Nat} {s : List UInt8} {M : UInt8} {v : Int}
    (hl : s.length = n + 4) (hw : word s = W ^^^ (2 ^ f * (m % 2 ^ k))) (hm : Mut wr A (n + 4) g 0 (bys s)) (hb : Below w.heap.size w wr) (hg : w.heap.size ≤ g)
    (hq : q = m / 2 ^ k) (hq1 : q % 2 = 1) (hj : j < s.length) (hp : f + k = 8 * j + r) (hM : M.toNat = 2 ^ r) (hv : v = (M.toNat : Int)) :
    ∃ s', s'.length = n + 4 ∧ word s' = W ^^^ (2 ^ f * (m % 2 ^ (k + 1))) ∧ Mut (wr.setCell ⟨g, j, none⟩ (.int .u8 (bits .xor .u8 (s[j].toNat : Int) v))).drew A (n + 4) g 0 (bys s') ∧
      Below w.heap.size w (wr.setCell ⟨g, j, none⟩ (.int .u8 (bits .xor .u8 (s[j].toNat : Int) v))).drew := by
  have e : bits .xor .u8 (s[j].toNat : Int) v = ((s[j] ^^^ M).toNat : Int) := by
    rw [hv, UInt8.toNat_xor]; exact u8_xor_nat s[j].toNat M.toNat s[j].toNat_lt M.toNat_lt
  refine ⟨s.set j (s[j] ^^^ M), by rw [List.length_set]; exact hl, ?_, ?_, below_dN (hb.setCell hg _) 1⟩
  · rw [word_set s j hj M, hw, mask_low m k, ← hq, hq1, Nat.mul_one, pow_mul_xor, hM, ← Nat.pow_add, ← Nat.pow_add, ← hp, Nat.xor_assoc]
  · rw [e, ← bys_setv]
    exact (hm.set_ j (by omega) _).drewN 1
set_option maxRecDepth 100000 in
set_option maxHeartbeats 4000000 in
/-- artesianlaw09.CrcSealed -/
theorem sealed_walk {w : World} {A : Option Addr} {n c : Nat} {b : List UInt8} (h : Rd w A n (bys b) ∧ n ≤ c ∧ n ≤ 140737488351232) {fr mask : Int} (hw : (Lit.int .i64 fr).wf = true) (ho : (Lit.int .u32 mask).wf = true) :
    Calls Try.prog 6 #[.slice A n c, .int .i64 fr, .int .u32 mask] w fun e w' => e = .returned (.bool true) ∧ Below w.heap.size w w' := by
  obtain ⟨hr, hc, hn⟩ := h
  have hl : b.length = n := by have := hr.1; simpa [bys_length] using this
  have HR := Lib.hid (And.intro hr hl)
  obtain ⟨o0, o1⟩ := u32_wf ho
  have HW := Lib.hid (And.intro hw ho)
  clear hr hl hw ho
  go_enter Try.func6, Try.ntmps6
  go_wp2_with fail
  refine (known_walk w).mono ?_
  rintro e w1 ⟨rfl, hb1⟩
  have H1 := Lib.hid (And.intro (HR.out.1.below hb1) hb1)
  have hs1 := hb1.size
  clear hb1
  by_cases hgt : (n : Int) > 2000
  · go_wp2_with fail
    go_ret
    exact ⟨rfl, H1.out.2⟩
  have hd : (n : Int) ≤ 2000 := by omega
  have hn2 : n ≤ 2000 := by omega
  clear hgt
  go_wp2_with fail
  refine (crcSeal_any (.inl ⟨rfl, rfl⟩) H1.out.1 (by omega)).mono ?_
  rintro e w2 ⟨A8, c8, g8, rfl, hc8, hm8, hg8, hb2⟩
  have hs2 := hb2.size
  have H2 := Lib.hid (And.intro hm8 (And.intro hg8 (And.intro (H1.out.1.below hb2) (below_base H1.out.2 hb2 hs1))))
  clear hm8 hg8 hb2
  go_wp2_with fail
  refine (crcSum_any (b := crcSeal tableL b) (.inl ⟨rfl, rfl⟩) H2.out.1.rd (by omega)).mono ?_
  rintro e w3 ⟨rfl, hb3⟩
  have hs3 := hb3.size
  have H3 := Lib.hid (And.intro (H2.out.1.below hb3) (And.intro (H2.out.2.2.1.below hb3) (below_base H2.out.2.2.2 hb3 (by omega))))
  clear hb3
  rw [sum_seal]
  go_wp2_with fail
  refine (opened_any (b := crcSeal tableL b) H3.out.1.rd H3.out.2.1 (by omega) hc8).mono ?_
  rintro e w4 ⟨rfl, hb4⟩
  have hs4 := hb4.size
  have H4 := Lib.hid (And.intro (H3.out.1.below hb4) (below_base H3.out.2.2 hb4 (by omega)))
  clear hb4
  rw [openE_seal, openB_seal, show (decide ((0 : Int) = 0) && (b == b)) = true from by simp]
  obtain ⟨m, rfl⟩ : ∃ m : Nat, mask = (m : Int) := ⟨mask.toNat, by omega⟩
  by_cases h0 : m = 0
  · subst h0
    go_wp2_with fail
    go_ret
    exact ⟨rfl, H4.out.2⟩
  have hm0 : ¬ ((m : Int) = 0) := by omega
  have hmd : ((m : Int) == 0) = false := by simpa using hm0
  have n0 : (0 : Int) ≤ (n : Int) := by omega
  have a1 : 8 * ((n : Int) + 4) - 31 = ((8 * n + 1 : Nat) : Int) := by omega
  go_wp2_with fail
  refine (pick_any fr (8 * (n : Int) + 1) HW.out.1 (by omega) (by omega)).mono ?_
  rintro e w' ⟨rfl, rfl⟩
  have f0 : 0 ≤ fr % (8 * (n : Int) + 1) := Int.emod_nonneg _ (by omega)
  have f1 : fr % (8 * (n : Int) + 1) < 8 * (n : Int) + 1 := Int.emod_lt_of_pos _ (by omega)
  obtain ⟨f, hf⟩ : ∃ f : Nat, (f : Int) = fr % (8 * (n : Int) + 1) := ⟨(fr % (8 * (n : Int) + 1)).toNat, by omega⟩
  rw [← hf] at f0 f1 ⊢
  clear hf
  have f2 : f ≤ 8 * n := by omega
  go_wp2_with fail
  go_loopw [9, 10] (fun i x wr => ∃ k : Nat, k ≤ 32 ∧ i = .int .i64 k ∧ Hid (∃ s, s.length = n + 4 ∧ word s = word (crcSeal tableL b) ^^^ (2 ^ f * (m % 2 ^ k)) ∧ Mut wr A8 (n + 4) g8 0 (bys s) ∧ Below w.heap.size w wr)) (fun i x wr => 32 - (intOf i).toNat)
  case atStart => exact ⟨0, by omega, rfl, Lib.hid ⟨_, by rw [seal_length, HR.out.2], by rw [Nat.pow_zero, Nat.mod_one, Nat.mul_zero, Nat.xor_zero], H4.out.1, H4.out.2⟩⟩
  case round =>
    obtain ⟨k, hk, rfl, HS⟩ := hrel
    obtain ⟨s, hsl, hsw, hsm, hsb⟩ := HS.out
    have HQ := Lib.hid (And.intro hsl (And.intro hsw (And.intro hsm hsb)))
    clear hsl hsw hsm hsb HS
    by_cases hlt : k < 32
    · have k0 : (0 : Int) ≤ (k : Int) := by omega
      have k1 : (k : Int) < 32 := by omega
      obtain ⟨q, hq⟩ : ∃ q, q = m / 2 ^ k := ⟨_, rfl⟩
      have e1 : (m : Int) / 2 ^ k = (q : Int) := by rw [hq, Int.natCast_ediv, Int.natCast_pow]; rfl
      have e2 : (m : Int) / 2 ^ (k : Int).toNat = (q : Int) := by rw [Int.toNat_natCast]; exact e1
      have q0 : (0 : Int) ≤ (q : Int) := by omega
      have q1 : (q : Int) < 4294967296 := by have : q ≤ m := by (rw [hq]; exact Nat.div_le_self _ _)
                                             omega
      have HK := Lib.hid hq
      clear hq
      by_cases hbit : q % 2 = 1
      · have b1 : (q : Int) % 2 = 1 := by omega
        have HB := Lib.hid hbit
        clear hbit
        go_upto_region 15 with fail
        obtain ⟨p, hpe⟩ : ∃ p, p = f + k := ⟨_, rfl⟩
        have hp : (f : Int) + (k : Int) = (p : Int) := by omega
        rw [hp]
        obtain ⟨j, r, hpj, hr8⟩ : ∃ j r, p = 8 * j + r ∧ r < 8 := ⟨p / 8, p % 8, by omega, by omega⟩
        have hjn : j < n + 4 := by omega
        have hjs : j < s.length := by rw [HQ.out.1]; exact hjn
        obtain ⟨hA8, t', cur, hbk, hfit, hcx⟩ := HQ.out.2.2.1.2 (by omega)
        subst hA8
        have cx := hbk.cell j
        rw [List.drop_zero] at hcx
        rw [← List.getElem?_take_of_lt (j := n + 4) hjn, hcx, bys_get s j hjs] at cx
        have fx := hbk.frozen j
        have d1 : (p : Int) / 8 = (j : Int) := by omega
        have d2 : (p : Int).tdiv 8 = (j : Int) := by rw [Int.tdiv_eq_ediv_of_nonneg (by omega)]; exact d1
        have j0 : (0 : Int) ≤ (j : Int) := by omega
        have j1 : (j : Int) < ((n + 4 : Nat) : Int) := by omega
        have j2 : (j : Int) < (n : Int) + 4 := by omega
        have p0 : (0 : Int) ≤ (p : Int) := by omega
        have HPJ := Lib.hid (And.intro hpe hpj)
        clear hbk hfit hcx hp hpe
        have r8 : r = 0 ∨ r = 1 ∨ r = 2 ∨ r = 3 ∨ r = 4 ∨ r = 5 ∨ r = 6 ∨ r = 7 := by omega
        rcases r8 with rfl | rfl | rfl | rfl | rfl | rfl | rfl | rfl
        · have m1 : (p : Int) % 8 = 0 := by omega
          have m2 : (p : Int).tmod 8 = 0 := by rw [Int.tmod_eq_emod_of_nonneg (by omega)]; exact m1
          clear hpj hr8
          go_region
          go_wp2_with fail
          exact ⟨⟨k + 1, by omega, by go_num, Lib.hid (flip_step (M := 1) HQ.out.1 HQ.out.2.1 HQ.out.2.2.1 HQ.out.2.2.2 (by have := H2.out.2.1; omega) HK.out HB.out hjs (HPJ.out.1.symm.trans HPJ.out.2) rfl rfl)⟩, by simp [intOf]; omega⟩
        · have m1 : (p : Int) % 8 = 1 := by omega
          have m2 : (p : Int).tmod 8 = 1 := by rw [Int.tmod_eq_emod_of_nonneg (by omega)]; exact m1
          clear hpj hr8
          go_region
          go_wp2_with fail
          exact ⟨⟨k + 1, by omega, by go_num, Lib.hid (flip_step (M := 2) HQ.out.1 HQ.out.2.1 HQ.out.2.2.1 HQ.out.2.2.2 (by have := H2.out.2.1; omega) HK.out HB.out hjs (HPJ.out.1.symm.trans HPJ.out.2) rfl rfl)⟩, by simp [intOf]; omega⟩
        · have m1 : (p : Int) % 8 = 2 := by omega
          have m2 : (p : Int).tmod 8 = 2 := by rw [Int.tmod_eq_emod_of_nonneg (by omega)]; exact m1
          clear hpj hr8
          go_region
          go_wp2_with fail
          exact ⟨⟨k + 1, by omega, by go_num, Lib.hid (flip_step (M := 4) HQ.out.1 HQ.out.2.1 HQ.out.2.2.1 HQ.out.2.2.2 (by have := H2.out.2.1; omega) HK.out HB.out hjs (HPJ.out.1.symm.trans HPJ.out.2) rfl rfl)⟩, by simp [intOf]; omega⟩
        · have m1 : (p : Int) % 8 = 3 := by omega
          have m2 : (p : Int).tmod 8 = 3 := by rw [Int.tmod_eq_emod_of_nonneg (by omega)]; exact m1
          clear hpj hr8
          go_region
          go_wp2_with fail
          exact ⟨⟨k + 1, by omega, by go_num, Lib.hid (flip_step (M := 8) HQ.out.1 HQ.out.2.1 HQ.out.2.2.1 HQ.out.2.2.2 (by have := H2.out.2.1; omega) HK.out HB.out hjs (HPJ.out.1.symm.trans HPJ.out.2) rfl rfl)⟩, by simp [intOf]; omega⟩
        · have m1 : (p : Int) % 8 = 4 := by omega
          have m2 : (p : Int).tmod 8 = 4 := by rw [Int.tmod_eq_emod_of_nonneg (by omega)]; exact m1
          clear hpj hr8
          go_region
          go_wp2_with fail
          exact ⟨⟨k + 1, by omega, by go_num, Lib.hid (flip_step (M := 16) HQ.out.1 HQ.out.2.1 HQ.out.2.2.1 HQ.out.2.2.2 (by have := H2.out.2.1; omega) HK.out HB.out hjs (HPJ.out.1.symm.trans HPJ.out.2) rfl rfl)⟩, by simp [intOf]; omega⟩
        · have m1 : (p : Int) % 8 = 5 := by omega
          have m2 : (p : Int).tmod 8 = 5 := by rw [Int.tmod_eq_emod_of_nonneg (by omega)]; exact m1
          clear hpj hr8
          go_region
          go_wp2_with fail
          exact ⟨⟨k + 1, by omega, by go_num, Lib.hid (flip_step (M := 32) HQ.out.1 HQ.out.2.1 HQ.out.2.2.1 HQ.out.2.2.2 (by have := H2.out.2.1; omega) HK.out HB.out hjs (HPJ.out.1.symm.trans HPJ.out.2) rfl rfl)⟩, by simp [intOf]; omega⟩
        · have m1 : (p : Int) % 8 = 6 := by omega
          have m2 : (p : Int).tmod 8 = 6 := by rw [Int.tmod_eq_emod_of_nonneg (by omega)]; exact m1
          clear hpj hr8
          go_region
          go_wp2_with fail
          exact ⟨⟨k + 1, by omega, by go_num, Lib.hid (flip_step (M := 64) HQ.out.1 HQ.out.2.1 HQ.out.2.2.1 HQ.out.2.2.2 (by have := H2.out.2.1; omega) HK.out HB.out hjs (HPJ.out.1.symm.trans HPJ.out.2) rfl rfl)⟩, by simp [intOf]; omega⟩
        · have m1 : (p : Int) % 8 = 7 := by omega
          have m2 : (p : Int).tmod 8 = 7 := by rw [Int.tmod_eq_emod_of_nonneg (by omega)]; exact m1
          clear hpj hr8
          go_region
          go_wp2_with fail
          exact ⟨⟨k + 1, by omega, by go_num, Lib.hid (flip_step (M := 128) HQ.out.1 HQ.out.2.1 HQ.out.2.2.1 HQ.out.2.2.2 (by have := H2.out.2.1; omega) HK.out HB.out hjs (HPJ.out.1.symm.trans HPJ.out.2) rfl rfl)⟩, by simp [intOf]; omega⟩
      · have b0 : (q : Int) % 2 = 0 := by omega
        have HB := Lib.hid (show q % 2 = 0 by omega)
        clear hbit
        go_wp2_with fail
        exact ⟨⟨k + 1, by omega, by go_num, Lib.hid ⟨s, HQ.out.1, by rw [HQ.out.2.1, mask_low m k, ← HK.out, HB.out, Nat.mul_zero, Nat.xor_zero], HQ.out.2.2.1, HQ.out.2.2.2⟩⟩, by simp [intOf]; omega⟩
    · obtain rfl : k = 32 := by omega
      have HE := Lib.hid (openE_reg (s := s) (by rw [HQ.out.1]; omega) (fun e => burst (s := crcSeal tableL b) (s' := s) (from_ := f) (mask := m) (by rw [HQ.out.1, seal_length, HR.out.2]) (by rw [HQ.out.2.1, show m % 2 ^ 32 = m from Nat.mod_eq_of_lt (by omega)]) h0 (by omega) (by rw [seal_length, HR.out.2]; omega) (e.trans (reg_seal b).symm)))
      go_wp2_with fail
      refine (opened_any (b := s) (l := []) HQ.out.2.2.1.rd (Rd.nil _ none) (by omega) hc8).mono ?_
      rintro e w9 ⟨rfl, hb9⟩
      have H9 := Lib.hid (below_base HQ.out.2.2.2 hb9 HQ.out.2.2.2.size)
      clear hb9
      rw [HE.out, openB_no (by rw [HE.out]; decide), show (decide ((8 : Int) = 8) && (([] : List UInt8) == [])) = true from rfl]
      go_wp2_with fail
      go_ret
      exact ⟨rfl, H9.out⟩
end Go.Proofs.Ytgcahbdoemjmmaa
