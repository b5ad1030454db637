/- Chapter 11: the document's take. -/
import Derived.Test.YtpfamjgdfcnieaaGw11
import Derived.Test.YtpfamjgdfcnieaaPd11
import Derived.Handy
namespace Go.Proofs.Ytpfamjgdfcnieaa
open Go.RowKit
set_option linter.unusedVariables false
def tkP (w : World) (V : Int) (is : Bool) (A : Option Addr) (n : Nat) (e : Ending) (w' : World) : Prop :=
  ∃ A' c', e = .returned (.tuple #[.int .i64 V, .slice A' (n - 4) c', .bool is]) ∧ n - 4 ≤ c' ∧ (4 < n → A' = A.map (fun a => a.add 4)) ∧ Below w.heap.size w w'
theorem nb4 {l : List UInt8} (h : 3 < l.length) : nbI l 0 4 = (l[0].toNat : Int) * 16777216 + (l[1].toNat : Int) * 65536 + (l[2].toNat : Int) * 256 + (l[3].toNat : Int) := by
  have e : (l.drop 0).take 4 = [l[0], l[1], l[2], l[3]] := by
    match l, h with
    | a :: b :: c :: d :: r, _ => rfl
  unfold nbI
  rw [e]
  simp only [be, List.foldl]
  omega
theorem ret_tri4 {x y : Int} {v u : Value} (h : x = y) : Ending.returned (.tuple #[.int .i64 x, v, u]) = .returned (.tuple #[.int .i64 y, v, u]) := by rw [h]
set_option maxRecDepth 100000 in
set_option maxHeartbeats 1600000 in
theorem rtake_any {w : World} {A : Option Addr} {n c : Nat} {l : List UInt8} (h : Rd w A n (bys l)) (hn : n ≤ 140737488351232) (hc : n ≤ c) :
    Calls Try.prog 49 #[.slice A n c] w (tkP w (if 4 ≤ l.length then nbI l 0 4 else 0) (decide (4 ≤ l.length)) A n) := by
  have hl : l.length = n := by have := h.1; simpa [bys_length] using this
  by_cases h4 : 4 ≤ n
  · rw [hl, if_pos h4, decide_eq_true h4]
    have hnb := nb4 (l := l) (by omega)
    obtain ⟨V, hV⟩ : ∃ V, nbI l 0 4 = V := ⟨_, rfl⟩
    rw [hV]
    obtain ⟨b, off, rfl, hb0, hcc⟩ := h.form (by omega)
    have x0 := hcc 0 _ (bys_get l 0 (by omega))
    have x1 := hcc 1 _ (bys_get l 1 (by omega))
    have x2 := hcc 2 _ (bys_get l 2 (by omega))
    have x3 := hcc 3 _ (bys_get l 3 (by omega))
    have y0 := l[0].toNat_lt
    have y1 := l[1].toNat_lt
    have y2 := l[2].toNat_lt
    have y3 := l[3].toNat_lt
    simp only [Nat.add_zero] at x0
    obtain ⟨v0, hv0⟩ : ∃ v, (l[0].toNat : Int) = v := ⟨_, rfl⟩
    obtain ⟨v1, hv1⟩ : ∃ v, (l[1].toNat : Int) = v := ⟨_, rfl⟩
    obtain ⟨v2, hv2⟩ : ∃ v, (l[2].toNat : Int) = v := ⟨_, rfl⟩
    obtain ⟨v3, hv3⟩ : ∃ v, (l[3].toNat : Int) = v := ⟨_, rfl⟩
    rw [hv0] at x0 hnb
    rw [hv1] at x1 hnb
    rw [hv2] at x2 hnb
    rw [hv3] at x3 hnb
    have hwr : wrap64 (wrap64 (wrap64 (wrap64 (wrap64 v0 * 16777216) + wrap64 (wrap64 v1 * 65536)) + wrap64 (wrap64 v2 * 256)) + wrap64 v3) = V := by
      have e0 : wrap64 v0 = v0 := by unfold wrap64; omega
      have e1 : wrap64 v1 = v1 := by unfold wrap64; omega
      have e2 : wrap64 v2 = v2 := by unfold wrap64; omega
      have e3 : wrap64 v3 = v3 := by unfold wrap64; omega
      rw [e0, e1, e2, e3, ← hV, hnb]
      unfold wrap64
      omega
    have HW := Lib.hid hwr
    have j0 : 0 < n := by omega
    have j1 : 1 < n := by omega
    have j2 : 2 < n := by omega
    have j3 : 3 < n := by omega
    have i0 : (0 : Int) < (n : Int) := by omega
    have i1 : (1 : Int) < (n : Int) := by omega
    have i2 : (2 : Int) < (n : Int) := by omega
    have i3 : (3 : Int) < (n : Int) := by omega
    have d1 : decide ((n : Int) < 4) = false := by simp; omega
    obtain ⟨i0', hi0, hz0, hz1, hz2⟩ := info_parts u8_info
    obtain ⟨A', hs, hA'⟩ := run_from (P := Try.prog) (t := 22) Try.underlying22 hi0 hz1 (some ⟨b, off, none⟩) n c 4 .i64 h4 hc
    have hs2 : ∀ w, (Instr.slice 22 (.slice (some ⟨b, off, none⟩) n c) (some (.int .i64 4)) none none).run Try.prog w = .ok (.slice A' (n - 4) (c - 4)) w := hs
    have HH := Lib.hid (And.intro hA' (And.intro hl (And.intro h4 hc)))
    clear h hcc hi0 hz0 hz1 hz2 hb0 hA' hs h4 hc hV hnb y0 y1 y2 y3 hv0 hv1 hv2 hv3 hwr hl
    go_enter Try.func49, Try.ntmps49
    go_wp2_with fail
    go_quiet (fail)
    go_wp2
    go_ret3
    refine ⟨A', c - 4, ret_tri4 HW.out, by have := HH.out.2.2; omega, HH.out.1, below_dN (Below.refl _ _) _⟩
  · rw [hl, if_neg h4, decide_eq_false h4]
    have HZ := Lib.hid (show n - 4 = 0 ∧ ¬ 4 < n from by omega)
    have d1 : decide ((n : Int) < 4) = true := by simp; omega
    clear h hl h4
    go_enter Try.func49, Try.ntmps49
    go_wp2
    go_ret3
    refine ⟨none, 0, by rw [HZ.out.1]; rfl, by rw [HZ.out.1]; exact Nat.le_refl _, fun hh => absurd hh HZ.out.2, Below.refl _ _⟩
/-- What take tells, in memory. -/
theorem mut_tk {w w' : World} {A A' : Option Addr} {n g off : Nat} {l : List UInt8} (hm : Mut w A n g off (bys l)) (hA : 4 < n → A' = A.map (fun a => a.add 4)) (hb : Below w.heap.size w w') : Mut w' A' (n - 4) g (off + 4) (bys (l.drop 4)) := by
  have h1 := hm.below hb
  rcases Nat.lt_or_ge n 4 with h4 | h4
  · rw [show n - 4 = 0 from by omega, List.drop_of_length_le (by have := hm.1; rw [bys_length] at this; omega)]
    exact ⟨rfl, fun h => absurd h (by omega)⟩
  · rw [← bys_drop]
    refine h1.drop_ h4 fun hh => ?_
    rw [hA hh]
    obtain ⟨e, _⟩ := hm.2 (by omega)
    rw [e]; rfl
/-- What the document's Get comes to (plain). -/
def rB1 (l : List UInt8) : Bool := decide (4 ≤ (l.drop 1).length)
def rV1 (l : List UInt8) : Int := if 4 ≤ (l.drop 1).length then nbI (l.drop 1) 0 4 else 0
def rC2 (l : List UInt8) : Bool := rB1 l && (nbI l 0 1 == 1 || nbI l 0 1 == 2)
def rR2 (l : List UInt8) : List UInt8 := if rC2 l then ((l.drop 1).drop 4).drop 4 else (l.drop 1).drop 4
def rB2 (l : List UInt8) : Bool := if rC2 l then decide (4 ≤ ((l.drop 1).drop 4).length) else rB1 l
def rV2 (l : List UInt8) : Int := if rC2 l then (if 4 ≤ ((l.drop 1).drop 4).length then nbI ((l.drop 1).drop 4) 0 4 else 0) else 0
def rC3 (l : List UInt8) : Bool := rB2 l && nbI l 0 1 == 1
def rR3 (l : List UInt8) : List UInt8 := if rC3 l then (rR2 l).drop 4 else rR2 l
def rB3 (l : List UInt8) : Bool := if rC3 l then decide (4 ≤ (rR2 l).length) else rB2 l
def rV3 (l : List UInt8) : Int := if rC3 l then (if 4 ≤ (rR2 l).length then nbI (rR2 l) 0 4 else 0) else 0
def rC4 (l : List UInt8) : Bool := (rB3 l && nbI l 0 1 == 4) && decide (0 < (rR3 l).length)
def rR4 (l : List UInt8) : List UInt8 := if rC4 l then (rR3 l).drop 1 else rR3 l
def rV4 (l : List UInt8) : Int := if rC4 l then nbI (rR3 l) 0 1 else 0
def rPk (l : List UInt8) : PK := ⟨nbI l 0 1, rV1 l, rV2 l, rV3 l, rV4 l, rR4 l⟩
def rOk (l : List UInt8) : Bool := rB3 l && pkB (rPk l)
theorem nbI_drop (l : List UInt8) (i j n : Nat) : nbI (l.drop i) j n = nbI l (i + j) n := by unfold nbI; rw [List.drop_drop]
theorem rOk_eq (l : List UInt8) (h0 : 0 < l.length) : rOk l = gpB l ∧ (rOk l = true → rPk l = psP l) := by
  have hd1 : (l.drop 1).length = l.length - 1 := List.length_drop
  have hdd : (l.drop 1).drop 4 = l.drop 5 := List.drop_drop
  have hdl : (l.drop 5).length = l.length - 5 := List.length_drop
  have hd9 : (l.drop 5).drop 4 = l.drop 9 := List.drop_drop
  have hdl9 : (l.drop 9).length = l.length - 9 := List.length_drop
  have hd13 : (l.drop 9).drop 4 = l.drop 13 := List.drop_drop
  have hd6 : (l.drop 5).drop 1 = l.drop 6 := List.drop_drop
  have hgp : gpB l = (decide (pkH (nbI l 0 1) ≤ l.length) && pkB (psP l)) := rfl
  obtain ⟨k, hk⟩ : ∃ k, nbI l 0 1 = k := ⟨_, rfl⟩
  have hV1 : rV1 l = if 5 ≤ l.length then nbI l 1 4 else 0 := by
    unfold rV1; rw [hd1, nbI_drop]
    by_cases h5 : 5 ≤ l.length
    · rw [if_pos h5, if_pos (by omega)]
    · rw [if_neg h5, if_neg (by omega)]
  have hB1 : rB1 l = decide (5 ≤ l.length) := by unfold rB1; rw [hd1]; congr 1; apply propext; omega
  by_cases hw : win k 1 5 = true
  · have hk5 := win_iff.1 hw
    by_cases h5 : 5 ≤ l.length
    · rw [if_pos h5] at hV1
      rw [decide_eq_true h5] at hB1
      rcases (show k = 1 ∨ k = 2 ∨ k = 3 ∨ k = 4 ∨ k = 5 by omega) with rfl | rfl | rfl | rfl | rfl
      · have hC2 : rC2 l = true := by unfold rC2; rw [hB1, hk]; rfl
        have hR2 : rR2 l = l.drop 9 := by unfold rR2; rw [hC2, if_pos rfl, hdd, hd9]
        have hB2 : rB2 l = decide (9 ≤ l.length) := by unfold rB2; rw [hC2, if_pos rfl, hdd, hdl]; congr 1; apply propext; omega
        by_cases h9 : 9 ≤ l.length
        · rw [decide_eq_true h9] at hB2
          have hV2 : rV2 l = nbI l 5 4 := by unfold rV2; rw [hC2, if_pos rfl, hdd, hdl, if_pos (by omega), nbI_drop]
          have hC3 : rC3 l = true := by unfold rC3; rw [hB2, hk]; rfl
          have hR3 : rR3 l = l.drop 13 := by unfold rR3; rw [hC3, if_pos rfl, hR2, hd13]
          have hB3 : rB3 l = decide (13 ≤ l.length) := by unfold rB3; rw [hC3, if_pos rfl, hR2, hdl9]; congr 1; apply propext; omega
          by_cases h13 : 13 ≤ l.length
          · rw [decide_eq_true h13] at hB3
            have hV3 : rV3 l = nbI l 9 4 := by unfold rV3; rw [hC3, if_pos rfl, hR2, hdl9, if_pos (by omega), nbI_drop]
            have hC4 : rC4 l = false := by unfold rC4; rw [hk]; simp
            have hV4 : rV4 l = 0 := by unfold rV4; rw [hC4]; rfl
            have hR4 : rR4 l = l.drop 13 := by unfold rR4; rw [hC4, hR3]; rfl
            have hP : rPk l = psP l := by unfold rPk psP; rw [hk, hV1, hV2, hV3, hV4, hR4]; rfl
            refine ⟨?_, fun _ => hP⟩
            rw [hgp, hk]; unfold rOk; rw [hB3, hP, decide_eq_true (show pkH 1 ≤ l.length from h13)]
          · have hno : rOk l = false := by unfold rOk; rw [hB3, decide_eq_false h13]; rfl
            refine ⟨?_, fun hh => by rw [hno] at hh; cases hh⟩
            rw [hno, hgp, hk, decide_eq_false (show ¬ pkH 1 ≤ l.length from h13)]; rfl
        · rw [decide_eq_false h9] at hB2
          have hC3 : rC3 l = false := by unfold rC3; rw [hB2]; rfl
          have hB3 : rB3 l = false := by unfold rB3; rw [hC3]; exact hB2
          have hno : rOk l = false := by unfold rOk; rw [hB3]; rfl
          refine ⟨?_, fun hh => by rw [hno] at hh; cases hh⟩
          rw [hno, hgp, hk, decide_eq_false (show ¬ pkH 1 ≤ l.length from fun hh => h9 (Nat.le_trans (by decide) hh))]; rfl
      · have hC2 : rC2 l = true := by unfold rC2; rw [hB1, hk]; rfl
        have hR2 : rR2 l = l.drop 9 := by unfold rR2; rw [hC2, if_pos rfl, hdd, hd9]
        have hB2 : rB2 l = decide (9 ≤ l.length) := by unfold rB2; rw [hC2, if_pos rfl, hdd, hdl]; congr 1; apply propext; omega
        have hC3 : rC3 l = false := by unfold rC3; rw [hk]; simp
        have hB3 : rB3 l = decide (9 ≤ l.length) := by unfold rB3; rw [hC3]; exact hB2
        have hR3 : rR3 l = l.drop 9 := by unfold rR3; rw [hC3]; exact hR2
        by_cases h9 : 9 ≤ l.length
        · have hV2 : rV2 l = nbI l 5 4 := by unfold rV2; rw [hC2, if_pos rfl, hdd, hdl, if_pos (by omega), nbI_drop]
          have hV3 : rV3 l = 0 := by unfold rV3; rw [hC3]; rfl
          have hC4 : rC4 l = false := by unfold rC4; rw [hk]; simp
          have hV4 : rV4 l = 0 := by unfold rV4; rw [hC4]; rfl
          have hR4 : rR4 l = l.drop 9 := by unfold rR4; rw [hC4, hR3]; rfl
          have hP : rPk l = psP l := by unfold rPk psP; rw [hk, hV1, hV2, hV3, hV4, hR4]; rfl
          refine ⟨?_, fun _ => hP⟩
          rw [hgp, hk]; unfold rOk; rw [hB3, hP, decide_eq_true h9, decide_eq_true (show pkH 2 ≤ l.length from h9)]
        · have hno : rOk l = false := by unfold rOk; rw [hB3, decide_eq_false h9]; rfl
          refine ⟨?_, fun hh => by rw [hno] at hh; cases hh⟩
          rw [hno, hgp, hk, decide_eq_false (show ¬ pkH 2 ≤ l.length from h9)]; rfl
      · have hC2 : rC2 l = false := by unfold rC2; rw [hk]; simp
        have hR2 : rR2 l = l.drop 5 := by unfold rR2; rw [hC2]; exact hdd
        have hB2 : rB2 l = true := by unfold rB2; rw [hC2]; exact hB1
        have hC3 : rC3 l = false := by unfold rC3; rw [hk]; simp
        have hB3 : rB3 l = true := by unfold rB3; rw [hC3]; exact hB2
        have hR3 : rR3 l = l.drop 5 := by unfold rR3; rw [hC3]; exact hR2
        have hV2 : rV2 l = 0 := by unfold rV2; rw [hC2]; rfl
        have hV3 : rV3 l = 0 := by unfold rV3; rw [hC3]; rfl
        have hC4 : rC4 l = false := by unfold rC4; rw [hk]; simp
        have hV4 : rV4 l = 0 := by unfold rV4; rw [hC4]; rfl
        have hR4 : rR4 l = l.drop 5 := by unfold rR4; rw [hC4, hR3]; rfl
        have hP : rPk l = psP l := by unfold rPk psP; rw [hk, hV1, hV2, hV3, hV4, hR4]; rfl
        refine ⟨?_, fun _ => hP⟩
        rw [hgp, hk]; unfold rOk; rw [hB3, hP, decide_eq_true (show pkH 3 ≤ l.length from h5)]
      · have hC2 : rC2 l = false := by unfold rC2; rw [hk]; simp
        have hR2 : rR2 l = l.drop 5 := by unfold rR2; rw [hC2]; exact hdd
        have hB2 : rB2 l = true := by unfold rB2; rw [hC2]; exact hB1
        have hC3 : rC3 l = false := by unfold rC3; rw [hk]; simp
        have hB3 : rB3 l = true := by unfold rB3; rw [hC3]; exact hB2
        have hR3 : rR3 l = l.drop 5 := by unfold rR3; rw [hC3]; exact hR2
        have hV2 : rV2 l = 0 := by unfold rV2; rw [hC2]; rfl
        have hV3 : rV3 l = 0 := by unfold rV3; rw [hC3]; rfl
        by_cases h6 : 6 ≤ l.length
        · have hC4 : rC4 l = true := by unfold rC4; rw [hk, hB3, hR3, hdl, decide_eq_true (by omega)]; rfl
          have hV4 : rV4 l = nbI l 5 1 := by unfold rV4; rw [hC4, if_pos rfl, hR3, nbI_drop]
          have hR4 : rR4 l = l.drop 6 := by unfold rR4; rw [hC4, if_pos rfl, hR3, hd6]
          have hP : rPk l = psP l := by unfold rPk psP; rw [hk, hV1, hV2, hV3, hV4, hR4]; rfl
          refine ⟨?_, fun _ => hP⟩
          rw [hgp, hk]; unfold rOk; rw [hB3, hP, decide_eq_true (show pkH 4 ≤ l.length from h6)]
        · have hC4 : rC4 l = false := by unfold rC4; rw [hR3, hdl, decide_eq_false (show ¬ 0 < l.length - 5 from by omega)]; simp
          have hV4 : rV4 l = 0 := by unfold rV4; rw [hC4]; rfl
          have hno : rOk l = false := by
            unfold rOk pkB rPk
            rw [hk, hV4]
            simp [fmR, win]
          refine ⟨?_, fun hh => by rw [hno] at hh; cases hh⟩
          rw [hno, hgp, hk, decide_eq_false (show ¬ pkH 4 ≤ l.length from h6)]; rfl
      · have hC2 : rC2 l = false := by unfold rC2; rw [hk]; simp
        have hR2 : rR2 l = l.drop 5 := by unfold rR2; rw [hC2]; exact hdd
        have hB2 : rB2 l = true := by unfold rB2; rw [hC2]; exact hB1
        have hC3 : rC3 l = false := by unfold rC3; rw [hk]; simp
        have hB3 : rB3 l = true := by unfold rB3; rw [hC3]; exact hB2
        have hR3 : rR3 l = l.drop 5 := by unfold rR3; rw [hC3]; exact hR2
        have hV2 : rV2 l = 0 := by unfold rV2; rw [hC2]; rfl
        have hV3 : rV3 l = 0 := by unfold rV3; rw [hC3]; rfl
        have hC4 : rC4 l = false := by unfold rC4; rw [hk]; simp
        have hV4 : rV4 l = 0 := by unfold rV4; rw [hC4]; rfl
        have hR4 : rR4 l = l.drop 5 := by unfold rR4; rw [hC4, hR3]; rfl
        have hP : rPk l = psP l := by unfold rPk psP; rw [hk, hV1, hV2, hV3, hV4, hR4]; rfl
        refine ⟨?_, fun _ => hP⟩
        rw [hgp, hk]; unfold rOk; rw [hB3, hP, decide_eq_true (show pkH 5 ≤ l.length from h5)]
    · rw [decide_eq_false h5] at hB1
      have hC2 : rC2 l = false := by unfold rC2; rw [hB1]; rfl
      have hB2 : rB2 l = false := by unfold rB2; rw [hC2]; exact hB1
      have hC3 : rC3 l = false := by unfold rC3; rw [hB2]; rfl
      have hB3 : rB3 l = false := by unfold rB3; rw [hC3]; exact hB2
      have hno : rOk l = false := by unfold rOk; rw [hB3]; rfl
      refine ⟨?_, fun hh => by rw [hno] at hh; cases hh⟩
      have h5p : 5 ≤ pkH k := by unfold pkH; split
                                 · omega
                                 · split
                                   · omega
                                   · split <;> omega
      rw [hno, hgp, hk, decide_eq_false (show ¬ pkH k ≤ l.length from fun hh => h5 (Nat.le_trans h5p hh))]; rfl
  · have hno : rOk l = false := by
      cases hb : rOk l with
      | false => rfl
      | true =>
        unfold rOk at hb
        rw [Bool.and_eq_true] at hb
        have := pkB_kd hb.2
        rw [show (rPk l).kd = k from hk] at this
        exact absurd this hw
    have hng : gpB l = false := by
      cases hb : gpB l with
      | false => rfl
      | true =>
        have := pkB_kd (gp_body hb).1
        rw [show (psP l).kd = k from hk] at this
        exact absurd this hw
    exact ⟨hno.trans hng.symm, fun hh => by rw [hno] at hh; cases hh⟩
end Go.Proofs.Ytpfamjgdfcnieaa
