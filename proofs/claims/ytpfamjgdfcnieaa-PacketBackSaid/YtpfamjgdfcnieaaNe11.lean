/- Chapter 11: what bytes say of a packet (plain); none. -/
import Derived.Test.YtpfamjgdfcnieaaGd11
import Derived.Test.YtpfamjgdfcnieaaPp11
namespace Go.Proofs.Ytpfamjgdfcnieaa
open Go.RowKit
set_option linter.unusedVariables false
theorem psP_i64 (l : List UInt8) : I64 (psP l).kd ∧ I64 (psP l).ses ∧ I64 (psP l).blk ∧ I64 (psP l).id ∧ I64 (psP l).rsn := by
  have h0 : I64 0 := ⟨by decide, by decide⟩
  unfold psP
  refine ⟨nbI_i64 _ _ (by decide), nbI_i64 _ _ (by decide), ?_, ?_, ?_⟩
  · show I64 (if fmB (nbI l 0 1) then nbI l 5 4 else 0); split
    · exact nbI_i64 _ _ (by decide)
    · exact h0
  · show I64 (if fmB (nbI l 0 1) && fmD (nbI l 0 1) then nbI l 9 4 else 0); split
    · exact nbI_i64 _ _ (by decide)
    · exact h0
  · show I64 (if 0 < fmR (nbI l 0 1) then nbI l 5 1 else 0); split
    · exact nbI_i64 _ _ (by decide)
    · exact h0
theorem openB_len (b : List UInt8) : (openB tableL b).length ≤ b.length := by
  unfold openB; split
  · rw [List.length_take]; omega
  · exact Nat.zero_le _
theorem ge_i64 (b : List UInt8) : I64 (geP b).kd ∧ I64 (geP b).ses ∧ I64 (geP b).blk ∧ I64 (geP b).id ∧ I64 (geP b).rsn := by
  have h0 : I64 0 := ⟨by decide, by decide⟩
  unfold geP; split
  · exact psP_i64 _
  · exact ⟨h0, h0, h0, h0, h0⟩
theorem ge_len (b : List UInt8) : (geP b).dat.length ≤ b.length := by
  unfold geP; split
  · have := openB_len b
    show ((openB tableL b).drop _).length ≤ _
    rw [List.length_drop]; omega
  · exact Nat.zero_le _
/-- What is got, as an argument. -/
theorem ge_pa {w : World} {A : Option Addr} {n c g : Nat} {b : List UInt8} (hm : Mut w A n g 0 (bys (geP b).dat)) (hc : n ≤ c) (hl : (geP b).dat.length = n) (hb : b.length ≤ 140737488351232) : PA w A n c (geP b) :=
  ⟨hm.rd, hc, by have := ge_len b; omega, hl, ge_i64 b⟩
theorem pkV_open {p : PK} (h : pkB p = true) : geE (pkV p) = 0 ∧ geP (pkV p) = p := by
  have hv : pkV p = crcSeal tableL (pkBody p) := by unfold pkV; rw [if_pos h]
  have hb := body_gp h
  rw [hv]
  have h1 := openE_seal (pkBody p)
  have h2 := openB_seal (pkBody p)
  have := ge_good h1 h2 hb.1
  exact ⟨this.2, this.1.trans hb.2⟩
theorem pkV_inj {p q : PK} (h : pkB p = true) (h' : pkB q = true) : (pkV p == pkV q) = p.same q := by
  rw [Bool.eq_iff_iff, psame_iff, beq_iff_eq]
  constructor
  · intro e
    rw [← (pkV_open h).2, ← (pkV_open h').2, e]
  · intro e; rw [e]
theorem openE_zero {b : List UInt8} (h : openE tableL b = 0) : crcSeal tableL (openB tableL b) = b := by
  have hb : openB tableL b = b.take (b.length - 4) := by unfold openB; rw [if_pos h]
  rw [hb]
  unfold openE at h
  split at h
  · cases h
  · split at h
    · rename_i h2; simpa using h2
    · cases h
theorem ge_again {b : List UInt8} (h : geE b = 0) : pkB (geP b) = true ∧ pkV (geP b) = b := by
  have hE : openE tableL b = 0 := by
    unfold geE at h
    split at h
    · assumption
    · rename_i h2; exact absurd h h2
  have hg : gpB (openB tableL b) = true := by
    unfold geE at h
    rw [if_pos hE] at h
    split at h
    · assumption
    · cases h
  have h1 := gp_body hg
  rw [(ge_good hE rfl hg).1]
  refine ⟨h1.1, ?_⟩
  unfold pkV
  rw [if_pos h1.1, h1.2]
  exact openE_zero hE
theorem ge_err {b : List UInt8} (h : geE b ≠ 0) : geP b = pz := by
  by_cases hE : openE tableL b = 0
  · cases hg : gpB (openB tableL b) with
    | false => exact (ge_bad hE rfl hg).1
    | true => exact absurd (ge_good hE rfl hg).2 h
  · exact (ge_shut hE).1
theorem pz_pa (w : World) (A : Option Addr) (c : Nat) : PA w A 0 c pz := ⟨⟨rfl, fun h => absurd h (Nat.lt_irrefl _)⟩, Nat.zero_le _, by decide, rfl, i64s (by decide) (by decide), i64s (by decide) (by decide), i64s (by decide) (by decide), i64s (by decide) (by decide), i64s (by decide) (by decide)⟩
set_option maxRecDepth 100000 in
set_option maxHeartbeats 1600000 in
theorem none_any {w : World} {A : Option Addr} {n c : Nat} {b : List UInt8} {E : Int} (h : Rd w A n (bys b)) (hn : n ≤ 17592186044416) (hc : n ≤ c) (hE : geE b = E) (hP : geP b = pz) :
    Calls Try.prog 26 #[.int .i64 E, .slice A n c] w fun e w' => e = .returned (.bool true) ∧ Below w.heap.size w w' := by
  have H := Lib.hid h
  have HE := Lib.hid (And.intro hE hP)
  clear h hE hP
  go_enter Try.func26, Try.ntmps26
  go_wp2_with fail
  refine (pget_any H.out hn hc).mono ?_
  rw [HE.out.1, HE.out.2]
  rintro e w2 ⟨A2, n2, c2, g2, rfl, hc2, hd2, hm2, hg2, hb2⟩
  obtain rfl : n2 = 0 := hd2.symm
  rw [show pz.v A2 0 c2 = .agg #[.int .i64 0, .int .i64 0, .int .i64 0, .int .i64 0, .int .i64 0, .slice A2 0 c2] from rfl]
  have hb3 := (Below.refl w2.heap.size w2).alloc (Nat.le_refl _) (.cells #[.int .i64 0, .int .i64 0, .int .i64 0, .int .i64 0, .int .i64 0, .slice A2 0 c2] 24)
  have HB := Lib.hid (below_base hb2 hb3 hb2.size)
  clear hm2 hg2 hb2 hb3 hd2
  go_wp2_with fail
  refine (sameP_any (pz_pa _ A2 c2) (pz_pa _ none 0)).mono ?_
  rintro e w4 ⟨rfl, hb4⟩
  rw [psame_refl]
  have HB4 := Lib.hid (below_base HB.out hb4 HB.out.size)
  clear hb4
  go_wp2
  go_ret
  exact ⟨rfl, HB4.out⟩
end Go.Proofs.Ytpfamjgdfcnieaa
