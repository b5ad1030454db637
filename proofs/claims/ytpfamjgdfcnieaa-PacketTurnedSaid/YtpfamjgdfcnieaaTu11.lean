/- Chapter 11: PacketTurned's walk. -/
import Derived.Test.YtpfamjgdfcnieaaBq11
namespace Go.Proofs.Ytpfamjgdfcnieaa
open Go.RowKit
set_option linter.unusedVariables false
theorem mask_wf {x : Int} (h : (Lit.int .u32 x).wf = true) : 0 ≤ x ∧ x < 4294967296 := by
  have h2 : (-0 ≤ x && x ≤ 4294967295) = true := h
  simp at h2
  omega
set_option maxRecDepth 100000 in
set_option maxHeartbeats 6400000 in
theorem packetTurned_walk {w : World} {A : Option Addr} {nd c : Nat} {p : PK} (h : PA w A nd c p) {fr mask : Int} (hw : (Lit.int .i64 fr).wf = true) (ho : (Lit.int .u32 mask).wf = true) :
    Calls Try.prog 8 #[p.v A nd c, .int .i64 fr, .int .u32 mask] w fun e w' => e = .returned (.bool true) ∧ Below w.heap.size w w' := by
  have HN := Lib.hid h.2.2.2.1
  have hn0 : (nd : Int) ≤ 140737488351232 := by have := h.2.2.1; omega
  obtain ⟨o0, o1⟩ := mask_wf ho
  have HW := Lib.hid (And.intro hw ho)
  obtain ⟨kd, ses, blk, id, rsn, dat⟩ := p
  obtain ⟨w0, hw0⟩ : ∃ w0, w0 = w.alloc (.cells #[.int .i64 kd, .int .i64 ses, .int .i64 blk, .int .i64 id, .int .i64 rsn, .slice A nd c] 24) := ⟨_, rfl⟩
  have hM := PB.new h
  rw [← hw0] at hM
  have H0 := Lib.hid hM
  clear h hM hw ho
  show Calls Try.prog 8 #[.agg #[.int .i64 kd, .int .i64 ses, .int .i64 blk, .int .i64 id, .int .i64 rsn, .slice A nd c], .int .i64 fr, .int .u32 mask] w _
  go_enter Try.func8, Try.ntmps8
  go_upto_region 1 with fail
  rw [← hw0]
  clear hw0
  go_wp2_with fail
  refine awake_any.mono ?_
  rintro e w1 ⟨rfl, hb1⟩
  have H1 := Lib.hid (H0.out.below hb1)
  clear hb1 H0
  obtain ⟨c0, c1, c2, c3, c4, c5⟩ := cells6 H1.out.1
  simp only at c0 c1 c2 c3 c4
  obtain ⟨E1, hE1⟩ : ∃ E, pkE ⟨kd, ses, blk, id, rsn, dat⟩ = E := ⟨_, rfl⟩
  obtain ⟨V1, hV1⟩ : ∃ V, pkV ⟨kd, ses, blk, id, rsn, dat⟩ = V := ⟨_, rfl⟩
  obtain ⟨L1, hL1⟩ : ∃ L, V1.length = L := ⟨_, rfl⟩
  have HE := Lib.hid (And.intro hE1 (And.intro hV1 hL1))
  clear hE1 hV1 hL1
  go_wp2_with fail
  refine (pput_any (p := ⟨kd, ses, blk, id, rsn, dat⟩) H1.out.2.1).mono ?_
  rw [HE.out.1, HE.out.2.1]
  unfold PtPost
  rw [HE.out.2.2]
  rintro e w2 ⟨A8, c8, g8, rfl, hc8, hm8, hg8, hb2⟩
  have H2 := Lib.hid (And.intro hm8 (And.intro (show w.heap.size ≤ g8 from Nat.le_trans H1.out.2.2.size hg8) (And.intro (H1.out.below hb2) hc8)))
  clear hc8 hm8 hg8 hb2 c0 c1 c2 c3 c4 c5 H1
  have c5 := (cells6 H2.out.2.2.1.1).2.2.2.2.2
  by_cases hA : 1000 < nd
  · have d1 : decide ((nd : Int) > 1000) = true := by simp; omega
    have d2 : decide (1000 < (nd : Int)) = true := by simp; omega
    have d3 : decide (1000 < nd) = true := by simp; omega
    clear hA
    go_wp2
    go_ret
    exact ⟨rfl, H2.out.2.2.1.2.2⟩
  have d1 : decide ((nd : Int) > 1000) = false := by simp; omega
  have d2 : decide (1000 < (nd : Int)) = false := by simp; omega
  have d3 : decide (1000 < nd) = false := by simp; omega
  have hnd : nd ≤ 1000 := by omega
  clear hA
  by_cases hE0 : E1 = 0
  case neg =>
    have d4 : (E1 != 0) = true := by simpa using hE0
    clear hE0
    go_wp2
    go_ret
    exact ⟨rfl, H2.out.2.2.1.2.2⟩
  subst hE0
  obtain ⟨m, rfl⟩ : ∃ m : Nat, mask = (m : Int) := ⟨mask.toNat, by omega⟩
  by_cases h0 : m = 0
  · subst h0
    go_wp2
    go_ret
    exact ⟨rfl, H2.out.2.2.1.2.2⟩
  have hm0 : ¬ ((m : Int) = 0) := by omega
  have hmd : ((m : Int) == 0) = false := by simpa using hm0
  have hkB := pkE_zero HE.out.1
  obtain ⟨b, hb⟩ : ∃ b, pkBody ⟨kd, ses, blk, id, rsn, dat⟩ = b := ⟨_, rfl⟩
  have hVs : V1 = crcSeal tableL b := by rw [← HE.out.2.1]; unfold pkV; rw [if_pos hkB, hb]
  obtain ⟨n, hbn⟩ : ∃ n, b.length = n := ⟨_, rfl⟩
  have hLn : L1 = n + 4 := by rw [← HE.out.2.2, hVs, seal_length, hbn]
  have hn2 : n ≤ 1014 := by
    have h1 := body_len (p := ⟨kd, ses, blk, id, rsn, dat⟩)
    have h1 : (pkBody ⟨kd, ses, blk, id, rsn, dat⟩).length ≤ dat.length + 14 := h1
    rw [hb] at h1
    have h2 : dat.length = nd := HN.out
    omega
  subst hLn
  have hmut := H2.out.1
  rw [hVs] at hmut
  have H4 := Lib.hid (And.intro hmut H2.out.2.2.1.2.2)
  have HR := Lib.hid hbn
  clear hkB hb hVs hbn hmut
  have n0 : (0 : Int) ≤ (n : Int) := by omega
  have hd : (n : Int) ≤ 1014 := by omega
  have d5 : decide ((n : Int) + 4 < 4) = false := by simp; omega
  have d6 : decide (n + 4 < 4) = false := by simp
  have a1 : 8 * ((n : Int) + 4) - 31 = ((8 * n + 1 : Nat) : Int) := by omega
  go_wp2_with fail
  refine (pick_any fr (8 * (n : Int) + 1) HW.out.1 (by omega) (by omega)).mono ?_
  rintro e w' ⟨rfl, rfl⟩
  have f0 : 0 ≤ fr % (8 * (n : Int) + 1) := Int.emod_nonneg _ (by omega)
  have f1 : fr % (8 * (n : Int) + 1) < 8 * (n : Int) + 1 := Int.emod_lt_of_pos _ (by omega)
  obtain ⟨f, hf⟩ : ∃ f : Nat, (f : Int) = fr % (8 * (n : Int) + 1) := ⟨(fr % (8 * (n : Int) + 1)).toNat, by omega⟩
  rw [← hf] at f0 f1 ⊢
  clear hf
  have f2 : f ≤ 8 * n := by omega
  clear c5
  go_wp2_with fail
  go_loopw [10, 11] (fun i x wr => ∃ k : Nat, k ≤ 32 ∧ i = .int .i64 k ∧ Hid (∃ s, s.length = n + 4 ∧ word s = word (crcSeal tableL b) ^^^ (2 ^ f * (m % 2 ^ k)) ∧ Mut wr A8 (n + 4) g8 0 (bys s) ∧ Below w.heap.size w wr)) (fun i x wr => 32 - (intOf i).toNat)
  case atStart => exact ⟨0, by omega, rfl, Lib.hid ⟨_, by rw [seal_length, HR.out], by rw [Nat.pow_zero, Nat.mod_one, Nat.mul_zero, Nat.xor_zero], H4.out.1, H4.out.2⟩⟩
  case round =>
    obtain ⟨k, hk, rfl, HS⟩ := hrel
    obtain ⟨s, hsl, hsw, hsm, hsb⟩ := HS.out
    have HQ := Lib.hid (And.intro hsl (And.intro hsw (And.intro hsm hsb)))
    clear hsl hsw hsm hsb HS
    by_cases hlt : k < 32
    · have k0 : (0 : Int) ≤ (k : Int) := by omega
      have k1 : (k : Int) < 32 := by omega
      obtain ⟨q, hq⟩ : ∃ q, q = m / 2 ^ k := ⟨_, rfl⟩
      have e1 : (m : Int) / 2 ^ k = (q : Int) := by rw [hq, Int.natCast_ediv, Int.natCast_pow]; rfl
      have e2 : (m : Int) / 2 ^ (k : Int).toNat = (q : Int) := by rw [Int.toNat_natCast]; exact e1
      have q0 : (0 : Int) ≤ (q : Int) := by omega
      have q1 : (q : Int) < 4294967296 := by have : q ≤ m := by (rw [hq]; exact Nat.div_le_self _ _)
                                             omega
      have HK := Lib.hid hq
      clear hq
      by_cases hbit : q % 2 = 1
      · have b1 : (q : Int) % 2 = 1 := by omega
        have HB := Lib.hid hbit
        clear hbit
        go_upto_region 13 with fail
        obtain ⟨p, hpe⟩ : ∃ p, p = f + k := ⟨_, rfl⟩
        have hp : (f : Int) + (k : Int) = (p : Int) := by omega
        rw [hp]
        obtain ⟨j, r, hpj, hr8⟩ : ∃ j r, p = 8 * j + r ∧ r < 8 := ⟨p / 8, p % 8, by omega, by omega⟩
        have hjn : j < n + 4 := by omega
        have hjs : j < s.length := by rw [HQ.out.1]; exact hjn
        obtain ⟨hA8, t', cur, hbk, hfit, hcx⟩ := HQ.out.2.2.1.2 (by omega)
        subst hA8
        have cx := hbk.cell j
        rw [List.drop_zero] at hcx
        rw [← List.getElem?_take_of_lt (j := n + 4) hjn, hcx, bys_get s j hjs] at cx
        have fx := hbk.frozen j
        have d1 : (p : Int) / 8 = (j : Int) := by omega
        have d2 : (p : Int).tdiv 8 = (j : Int) := by rw [Int.tdiv_eq_ediv_of_nonneg (by omega)]; exact d1
        have j0 : (0 : Int) ≤ (j : Int) := by omega
        have j1 : (j : Int) < ((n + 4 : Nat) : Int) := by omega
        have j2 : (j : Int) < (n : Int) + 4 := by omega
        have p0 : (0 : Int) ≤ (p : Int) := by omega
        have HPJ := Lib.hid (And.intro hpe hpj)
        clear hbk hfit hcx hp hpe
        have r8 : r = 0 ∨ r = 1 ∨ r = 2 ∨ r = 3 ∨ r = 4 ∨ r = 5 ∨ r = 6 ∨ r = 7 := by omega
        rcases r8 with rfl | rfl | rfl | rfl | rfl | rfl | rfl | rfl
        · have m1 : (p : Int) % 8 = 0 := by omega
          have m2 : (p : Int).tmod 8 = 0 := by rw [Int.tmod_eq_emod_of_nonneg (by omega)]; exact m1
          clear hpj hr8
          go_region
          go_wp2_with fail
          exact ⟨⟨k + 1, by omega, by go_num, Lib.hid (flip_step (M := 1) HQ.out.1 HQ.out.2.1 HQ.out.2.2.1 HQ.out.2.2.2 (by have := H2.out.2.1; omega) HK.out HB.out hjs (HPJ.out.1.symm.trans HPJ.out.2) rfl rfl)⟩, by simp [intOf]; omega⟩
        · have m1 : (p : Int) % 8 = 1 := by omega
          have m2 : (p : Int).tmod 8 = 1 := by rw [Int.tmod_eq_emod_of_nonneg (by omega)]; exact m1
          clear hpj hr8
          go_region
          go_wp2_with fail
          exact ⟨⟨k + 1, by omega, by go_num, Lib.hid (flip_step (M := 2) HQ.out.1 HQ.out.2.1 HQ.out.2.2.1 HQ.out.2.2.2 (by have := H2.out.2.1; omega) HK.out HB.out hjs (HPJ.out.1.symm.trans HPJ.out.2) rfl rfl)⟩, by simp [intOf]; omega⟩
        · have m1 : (p : Int) % 8 = 2 := by omega
          have m2 : (p : Int).tmod 8 = 2 := by rw [Int.tmod_eq_emod_of_nonneg (by omega)]; exact m1
          clear hpj hr8
          go_region
          go_wp2_with fail
          exact ⟨⟨k + 1, by omega, by go_num, Lib.hid (flip_step (M := 4) HQ.out.1 HQ.out.2.1 HQ.out.2.2.1 HQ.out.2.2.2 (by have := H2.out.2.1; omega) HK.out HB.out hjs (HPJ.out.1.symm.trans HPJ.out.2) rfl rfl)⟩, by simp [intOf]; omega⟩
        · have m1 : (p : Int) % 8 = 3 := by omega
          have m2 : (p : Int).tmod 8 = 3 := by rw [Int.tmod_eq_emod_of_nonneg (by omega)]; exact m1
          clear hpj hr8
          go_region
          go_wp2_with fail
          exact ⟨⟨k + 1, by omega, by go_num, Lib.hid (flip_step (M := 8) HQ.out.1 HQ.out.2.1 HQ.out.2.2.1 HQ.out.2.2.2 (by have := H2.out.2.1; omega) HK.out HB.out hjs (HPJ.out.1.symm.trans HPJ.out.2) rfl rfl)⟩, by simp [intOf]; omega⟩
        · have m1 : (p : Int) % 8 = 4 := by omega
          have m2 : (p : Int).tmod 8 = 4 := by rw [Int.tmod_eq_emod_of_nonneg (by omega)]; exact m1
          clear hpj hr8
          go_region
          go_wp2_with fail
          exact ⟨⟨k + 1, by omega, by go_num, Lib.hid (flip_step (M := 16) HQ.out.1 HQ.out.2.1 HQ.out.2.2.1 HQ.out.2.2.2 (by have := H2.out.2.1; omega) HK.out HB.out hjs (HPJ.out.1.symm.trans HPJ.out.2) rfl rfl)⟩, by simp [intOf]; omega⟩
        · have m1 : (p : Int) % 8 = 5 := by omega
          have m2 : (p : Int).tmod 8 = 5 := by rw [Int.tmod_eq_emod_of_nonneg (by omega)]; exact m1
          clear hpj hr8
          go_region
          go_wp2_with fail
          exact ⟨⟨k + 1, by omega, by go_num, Lib.hid (flip_step (M := 32) HQ.out.1 HQ.out.2.1 HQ.out.2.2.1 HQ.out.2.2.2 (by have := H2.out.2.1; omega) HK.out HB.out hjs (HPJ.out.1.symm.trans HPJ.out.2) rfl rfl)⟩, by simp [intOf]; omega⟩
        · have m1 : (p : Int) % 8 = 6 := by omega
          have m2 : (p : Int).tmod 8 = 6 := by rw [Int.tmod_eq_emod_of_nonneg (by omega)]; exact m1
          clear hpj hr8
          go_region
          go_wp2_with fail
          exact ⟨⟨k + 1, by omega, by go_num, Lib.hid (flip_step (M := 64) HQ.out.1 HQ.out.2.1 HQ.out.2.2.1 HQ.out.2.2.2 (by have := H2.out.2.1; omega) HK.out HB.out hjs (HPJ.out.1.symm.trans HPJ.out.2) rfl rfl)⟩, by simp [intOf]; omega⟩
        · have m1 : (p : Int) % 8 = 7 := by omega
          have m2 : (p : Int).tmod 8 = 7 := by rw [Int.tmod_eq_emod_of_nonneg (by omega)]; exact m1
          clear hpj hr8
          go_region
          go_wp2_with fail
          exact ⟨⟨k + 1, by omega, by go_num, Lib.hid (flip_step (M := 128) HQ.out.1 HQ.out.2.1 HQ.out.2.2.1 HQ.out.2.2.2 (by have := H2.out.2.1; omega) HK.out HB.out hjs (HPJ.out.1.symm.trans HPJ.out.2) rfl rfl)⟩, by simp [intOf]; omega⟩
      · have b0 : (q : Int) % 2 = 0 := by omega
        have HB := Lib.hid (show q % 2 = 0 by omega)
        clear hbit
        go_wp2_with fail
        exact ⟨⟨k + 1, by omega, by go_num, Lib.hid ⟨s, HQ.out.1, by rw [HQ.out.2.1, mask_low m k, ← HK.out, HB.out, Nat.mul_zero, Nat.xor_zero], HQ.out.2.2.1, HQ.out.2.2.2⟩⟩, by simp [intOf]; omega⟩
    · obtain rfl : k = 32 := by omega
      have HE8 := Lib.hid (openE_reg (s := s) (by rw [HQ.out.1]; omega) (fun e => burst (s := crcSeal tableL b) (s' := s) (from_ := f) (mask := m) (by rw [HQ.out.1, seal_length, HR.out]) (by rw [HQ.out.2.1, show m % 2 ^ 32 = m from Nat.mod_eq_of_lt (by omega)]) h0 (by omega) (by rw [seal_length, HR.out]; omega) (e.trans (reg_seal b).symm)))
      have HG := Lib.hid (ge_shut (b := s) (by rw [HE8.out]; decide))
      go_wp2_with fail
      refine (none_any (b := s) (E := 8) HQ.out.2.2.1.rd (by omega) H2.out.2.2.2 (HG.out.2.trans HE8.out) HG.out.1).mono ?_
      rintro e w9 ⟨rfl, hb9⟩
      have H9 := Lib.hid (below_base HQ.out.2.2.2 hb9 HQ.out.2.2.2.size)
      clear hb9
      go_wp2_with fail
      go_ret
      exact ⟨rfl, H9.out⟩
end Go.Proofs.Ytpfamjgdfcnieaa
