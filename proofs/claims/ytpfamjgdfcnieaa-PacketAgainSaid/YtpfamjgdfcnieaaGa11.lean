/- Chapter 11: PacketAgain's walk. -/
import Derived.Test.YtpfamjgdfcnieaaGs11
namespace Go.Proofs.Ytpfamjgdfcnieaa
open Go.RowKit
set_option linter.unusedVariables false
set_option maxRecDepth 100000 in
set_option maxHeartbeats 3200000 in
theorem packetAgain_walk {w : World} {A : Option Addr} {n c : Nat} {b : List UInt8} (h : Rd w A n (bys b) ∧ n ≤ c ∧ n ≤ 140737488351232) :
    Calls Try.prog 7 #[.slice A n c] w fun e w' => e = .returned (.bool true) ∧ Below w.heap.size w w' := by
  obtain ⟨hr, hc, hn⟩ := h
  have hn' : (n : Int) ≤ 140737488351232 := by omega
  have hbl : b.length = n := by have := hr.1; simpa [bys_length] using this
  have H := Lib.hid (And.intro hr hbl)
  clear hr hbl
  go_enter Try.func7, Try.ntmps7
  go_wp2_with fail
  refine awake_any.mono ?_
  rintro e w1 ⟨rfl, hb1⟩
  have H1 := Lib.hid (And.intro (H.out.1.below hb1) hb1)
  clear hb1
  by_cases hbig : 3000 < n
  · have d1 : decide ((n : Int) > 3000) = true := by simp; omega
    have d2 : decide (3000 < (n : Int)) = true := by simp; omega
    have d3 : decide (3000 < n) = true := by simp; omega
    clear hbig
    go_wp2
    go_ret
    exact ⟨rfl, H1.out.2⟩
  · have d1 : decide ((n : Int) > 3000) = false := by simp; omega
    have d2 : decide (3000 < (n : Int)) = false := by simp; omega
    have d3 : decide (3000 < n) = false := by simp; omega
    have hn3 : n ≤ 3000 := by omega
    clear hbig
    go_wp2_with fail
    refine (pget_any H1.out.1 (by omega) hc).mono ?_
    by_cases hE : geE b = 0
    · rw [hE]
      obtain ⟨P, hP⟩ : ∃ P, geP b = P := ⟨_, rfl⟩
      have hag := ge_again hE
      rw [hP] at hag ⊢
      rintro e w4 ⟨A4, n4, c4, g4, rfl, hc4, hd4, hm4, hg4, hb4⟩
      have hpa4 : PA w4 A4 n4 c4 P := by rw [← hP]; exact ge_pa (by rw [hP]; exact hm4) hc4 (by rw [hP]; exact hd4) (by rw [H.out.2]; omega)
      have hkE : pkE P = 0 := by unfold pkE; rw [hag.1]; rfl
      have HG := Lib.hid (And.intro hag.2 (And.intro hkE (show (pkV P).length = n from by rw [hag.2, H.out.2])))
      clear hE hP hag hkE
      obtain ⟨kd, ses, blk, id, rsn, dat⟩ := P
      rw [pv_mk]
      obtain ⟨w5, hw5⟩ : ∃ w5, w5 = w4.alloc (.cells #[.int .i64 kd, .int .i64 ses, .int .i64 blk, .int .i64 id, .int .i64 rsn, .slice A4 n4 c4] 24) := ⟨_, rfl⟩
      have hM := PB.new hpa4
      rw [← hw5] at hM
      have H5 := Lib.hid (And.intro hM (And.intro (H1.out.1.below (below_base hb4 hM.2.2 hb4.size)) (below_base H1.out.2 (below_base hb4 hM.2.2 hb4.size) H1.out.2.size)))
      clear hc4 hd4 hm4 hg4 hb4 hpa4 hM
      go_upto_region 5 with fail
      rw [← hw5]
      clear hw5
      obtain ⟨c0, c1, c2, c3, c4', c5⟩ := cells6 H5.out.1.1
      simp only at c0 c1 c2 c3 c4'
      go_wp2_with fail
      refine (pput_any (p := ⟨kd, ses, blk, id, rsn, dat⟩) H5.out.1.2.1).mono ?_
      rw [HG.out.2.1]
      unfold PtPost
      rw [HG.out.2.2, HG.out.1]
      rintro e w6 ⟨A6, c6, g6, rfl, hc6, hm6, hg6, hb6⟩
      have H6 := Lib.hid (And.intro (H5.out.1.below hb6) (And.intro (H5.out.2.1.below hb6) (And.intro hm6.rd (below_base H5.out.2.2 hb6 H5.out.2.2.size))))
      clear hc6 hm6 hg6 hb6 c0 c1 c2 c3 c4' c5
      go_wp2_with fail
      refine (same_true H6.out.2.2.1 H6.out.2.1).mono ?_
      rintro e w7 ⟨rfl, rfl⟩
      obtain ⟨c0, c1, c2, c3, c4', c5⟩ := cells6 H6.out.1.1
      simp only at c0 c1 c2 c3 c4'
      go_wp2_with fail
      refine (pcheck_any (p := ⟨kd, ses, blk, id, rsn, dat⟩) H6.out.1.2.1).mono ?_
      rw [HG.out.2.1]
      rintro e w8 ⟨rfl, hb8⟩
      have H8 := Lib.hid (And.intro (H6.out.1.below hb8) (below_base H6.out.2.2.2 hb8 H6.out.2.2.2.size))
      clear hb8 c0 c1 c2 c3 c4' c5
      obtain ⟨c0, c1, c2, c3, c4', c5⟩ := cells6 H8.out.1.1
      simp only at c0 c1 c2 c3 c4'
      go_wp2_with fail
      refine (psize_any (p := ⟨kd, ses, blk, id, rsn, dat⟩) H8.out.1.2.1).mono ?_
      rw [HG.out.2.2]
      rintro e w9 ⟨rfl, hb9⟩
      have H9 := Lib.hid (below_base H8.out.2 hb9 H8.out.2.size)
      clear hb9 c0 c1 c2 c3 c4' c5
      go_wp2
      go_ret
      exact ⟨rfl, H9.out⟩
    · rw [ge_err hE]
      have d5 : (geE b != 0) = true := by simpa using hE
      have d6 : (geE b == 0) = false := by simpa using hE
      obtain ⟨E, hEE⟩ : ∃ E, geE b = E := ⟨_, rfl⟩
      rw [hEE] at d5 d6 ⊢
      clear hE hEE
      rintro e w2 ⟨A2, n2, c2, g2, rfl, hc2, hd2, hm2, hg2, hb2⟩
      obtain rfl : n2 = 0 := hd2.symm
      rw [show pz.v A2 0 c2 = .agg #[.int .i64 0, .int .i64 0, .int .i64 0, .int .i64 0, .int .i64 0, .slice A2 0 c2] from rfl]
      have hb3 := (Below.refl w2.heap.size w2).alloc (Nat.le_refl _) (.cells #[.int .i64 0, .int .i64 0, .int .i64 0, .int .i64 0, .int .i64 0, .slice A2 0 c2] 24)
      have HB := Lib.hid (below_base H1.out.2 (below_base hb2 hb3 hb2.size) H1.out.2.size)
      clear hm2 hg2 hb2 hb3 hd2
      go_wp2_with fail
      refine (sameP_any (pz_pa _ A2 c2) (pz_pa _ none 0)).mono ?_
      rintro e w4 ⟨rfl, hb4⟩
      rw [psame_refl]
      have HB4 := Lib.hid (below_base HB.out hb4 HB.out.size)
      clear hb4
      go_wp2
      go_ret
      exact ⟨rfl, HB4.out⟩
end Go.Proofs.Ytpfamjgdfcnieaa
