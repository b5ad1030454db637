/- Chapter 11: what Get's reader comes to (plain). -/
import Derived.Test.YtpfamjgdfcnieaaPg11
import Derived.Test.YtpfamjgdfcnieaaRd10
namespace Go.Proofs.Ytpfamjgdfcnieaa
open Go.RowKit
set_option linter.unusedVariables false
def tkS (b : Bool) (n : Int) (s : RS) : Int × RS := if b then s.get n else (0, s)
def gS1 (l : List UInt8) : RS := ((⟨l, 0, 0, 0⟩ : RS).get 1).2
def gKd (l : List UInt8) : Int := ((⟨l, 0, 0, 0⟩ : RS).get 1).1
def gS2 (l : List UInt8) : RS := ((gS1 l).get 4).2
def gSes (l : List UInt8) : Int := ((gS1 l).get 4).1
def gT3 (l : List UInt8) : Int × RS := tkS (fmB (gKd l)) 4 (gS2 l)
def gT4 (l : List UInt8) : Int × RS := tkS (fmB (gKd l) && fmD (gKd l)) 4 (gT3 l).2
def gT5 (l : List UInt8) : Int × RS := tkS (decide (0 < fmR (gKd l))) 1 (gT4 l).2
def gT6 (l : List UInt8) : List UInt8 × RS := if fmD (gKd l) then (gT5 l).2.take (gT5 l).2.rest true else ([], (gT5 l).2)
def gPk (l : List UInt8) : PK := ⟨gKd l, gSes l, (gT3 l).1, (gT4 l).1, (gT5 l).1, (gT6 l).1⟩
theorem get_e {s : RS} (h : s.e ≠ 0) (n : Int) : s.get n = (0, s) := by
  unfold RS.get
  rw [RS.take_e h]
  simp [be]
theorem get_ok {l : List UInt8} {p n : Nat} (hw : wid (n : Int) = true) (hn : n ≤ 4) (h : p + n ≤ l.length) : (⟨l, p, 0, 0⟩ : RS).get (n : Int) = (nbI l p n, ⟨l, p + n, 0, 0⟩) := by
  unfold RS.get
  rw [hw, RS.take_ok rfl (by simp) (by simp only; omega)]
  simp only [Int.toNat_natCast]
  have hlt := be_lt n ((l.drop p).take n) (by simp; omega)
  have hp : 256 ^ n ≤ 256 ^ 4 := Nat.pow_le_pow_right (by omega) hn
  rw [if_neg (by omega)]
  rfl
theorem get_short {l : List UInt8} {p n : Nat} (hw : wid (n : Int) = true) (h : l.length < p + n) : (⟨l, p, 0, 0⟩ : RS).get (n : Int) = (0, ⟨l, p, 7, l.length⟩) := by
  unfold RS.get
  rw [hw, RS.take_short rfl (by simp) (by simp only; omega)]
  simp [be]
theorem tkS_e {b : Bool} {n : Int} {s : RS} (h : s.e ≠ 0) : tkS b n s = (0, s) := by
  unfold tkS; rw [get_e h]; split <;> rfl
theorem gT6_e {l : List UInt8} (h : (gT5 l).2.e ≠ 0) : (gT6 l).2.fin ≠ (0, 0) := by
  unfold gT6
  rw [RS.take_e h]
  have : (if fmD (gKd l) then (([] : List UInt8), (gT5 l).2) else ([], (gT5 l).2)) = ([], (gT5 l).2) := by split <;> rfl
  rw [this]
  unfold RS.fin
  rw [if_neg (fun hh => h hh.1)]
  intro hh
  exact h (congrArg Prod.fst hh)
theorem gT4_e {l : List UInt8} (h : (gT4 l).2.e ≠ 0) : (gT6 l).2.fin ≠ (0, 0) := gT6_e (by unfold gT5; rw [tkS_e h]; exact h)
theorem gT3_e {l : List UInt8} (h : (gT3 l).2.e ≠ 0) : (gT6 l).2.fin ≠ (0, 0) := gT4_e (by unfold gT4; rw [tkS_e h]; exact h)
theorem gS2_e {l : List UInt8} (h : (gS2 l).e ≠ 0) : (gT6 l).2.fin ≠ (0, 0) := gT3_e (by unfold gT3; rw [tkS_e h]; exact h)
def gOk (l : List UInt8) : Bool := win (gKd l) 1 5 && (decide ((gT6 l).2.fin = (0, 0)) && pkB (gPk l))
theorem gOk_no {l : List UInt8} (h : (gT6 l).2.fin ≠ (0, 0)) : gOk l = false := by
  unfold gOk; rw [decide_eq_false h]; simp
/-- All that a kind asks is there: what is told. -/
theorem gEnd {l : List UInt8} {H : Nat} (hH : H ≤ l.length) (h5 : (gT5 l).2 = ⟨l, H, 0, 0⟩) : gT6 l = if fmD (gKd l) then (l.drop H, ⟨l, l.length, 0, 0⟩) else ([], ⟨l, H, 0, 0⟩) := by
  unfold gT6
  rw [h5]
  have hr : (⟨l, H, 0, 0⟩ : RS).rest = (l.length : Int) - H := by unfold RS.rest; rw [if_neg (by simp)]
  rw [hr, RS.take_ok rfl (by simp; omega) (by simp only; omega)]
  have e1 : ((l.length : Int) - H).toNat = l.length - H := by omega
  simp only [e1]
  rw [show H + (l.length - H) = l.length from by omega, List.take_of_length_le (by rw [List.length_drop]; exact Nat.le_refl _)]
theorem fin_end (l : List UInt8) : (⟨l, l.length, 0, 0⟩ : RS).fin = (0, 0) := by unfold RS.fin; rw [if_neg (by simp)]
theorem fin_mid {l : List UInt8} {H : Nat} (h : H < l.length) : (⟨l, H, 0, 0⟩ : RS).fin ≠ (0, 0) := by
  unfold RS.fin; rw [if_pos ⟨rfl, h⟩]; intro hh; have := congrArg Prod.fst hh; simp at this
theorem pkB_data {p : PK} (hD : fmD p.kd = false) (h : pkB p = true) : p.dat = [] := by
  unfold pkB at h
  simp only [Bool.and_eq_true, win_iff, hD, mst] at h
  obtain ⟨_, _, _, ⟨_, h5⟩, _⟩ := h
  simp at h5
  exact h5
theorem pkB_kd {p : PK} (h : pkB p = true) : win p.kd 1 5 = true := by
  unfold pkB at h
  simp only [Bool.and_eq_true] at h
  exact h.1.1
theorem gp_step {l : List UInt8} {H : Nat} (hH : H ≤ l.length) (hk : pkH (nbI l 0 1) = H) (hw : win (gKd l) 1 5 = true) (h5 : (gT5 l).2 = ⟨l, H, 0, 0⟩)
    (e0 : gKd l = (psP l).kd) (e1 : gSes l = (psP l).ses) (e2 : (gT3 l).1 = (psP l).blk) (e3 : (gT4 l).1 = (psP l).id) (e4 : (gT5 l).1 = (psP l).rsn) :
    gOk l = gpB l ∧ (gOk l = true → gPk l = psP l) := by
  have h6 := gEnd hH h5
  have hdat : (psP l).dat = l.drop H := by rw [← hk]; rfl
  have hgp : gpB l = pkB (psP l) := by unfold gpB; rw [hk, decide_eq_true hH]; rfl
  have hP : ∀ d, (gT6 l).1 = d → gPk l = ⟨(psP l).kd, (psP l).ses, (psP l).blk, (psP l).id, (psP l).rsn, d⟩ := fun d hd => by unfold gPk; rw [e0, e1, e2, e3, e4, hd]
  cases hD : fmD (gKd l) with
  | true =>
    rw [hD, if_pos rfl] at h6
    have hPP := hP (l.drop H) (by rw [h6])
    rw [← hdat] at hPP
    refine ⟨?_, fun _ => hPP⟩
    unfold gOk
    rw [hw, h6, fin_end, hPP, hgp]
    rfl
  | false =>
    rw [hD, if_neg (by simp)] at h6
    by_cases hl : H = l.length
    · have hnil : l.drop H = [] := by rw [hl]; exact List.drop_length
      have hPP := hP [] (by rw [h6])
      rw [← hnil, ← hdat] at hPP
      refine ⟨?_, fun _ => hPP⟩
      unfold gOk
      rw [hw, h6, hl, fin_end, hPP, hgp]
      rfl
    · have hno := gOk_no (l := l) (by rw [h6]; exact fin_mid (by omega))
      refine ⟨?_, fun hh => by rw [hno] at hh; cases hh⟩
      rw [hno, hgp]
      cases hb : pkB (psP l) with
      | false => rfl
      | true =>
        have := pkB_data (by rw [← e0]; exact hD) hb
        rw [hdat] at this
        have := congrArg List.length this
        simp at this
        omega
theorem gOk_short {l : List UInt8} (hp : ¬ pkH (nbI l 0 1) ≤ l.length) (hf : (gT6 l).2.fin ≠ (0, 0)) : gOk l = gpB l ∧ (gOk l = true → gPk l = psP l) := by
  have hno := gOk_no hf
  refine ⟨?_, fun hh => by rw [hno] at hh; cases hh⟩
  rw [hno]; unfold gpB; rw [decide_eq_false hp]; rfl
theorem gOk_eq (l : List UInt8) : gOk l = gpB l ∧ (gOk l = true → gPk l = psP l) := by
  by_cases h1 : 1 ≤ l.length
  · have g1 := get_ok (l := l) (p := 0) (n := 1) (by decide) (by omega) (by omega)
    have k0 : gKd l = nbI l 0 1 := congrArg Prod.fst g1
    have k1 : gS1 l = ⟨l, 1, 0, 0⟩ := congrArg Prod.snd g1
    by_cases hw : win (gKd l) 1 5 = true
    · have hk := win_iff.1 hw
      by_cases h5 : 5 ≤ l.length
      · have g2 := get_ok (l := l) (p := 1) (n := 4) (by decide) (by omega) (by omega)
        have k2 : gSes l = nbI l 1 4 := by unfold gSes; rw [k1]; exact congrArg Prod.fst g2
        have k3 : gS2 l = ⟨l, 5, 0, 0⟩ := by unfold gS2; rw [k1]; exact congrArg Prod.snd g2
        rcases (show gKd l = 1 ∨ gKd l = 2 ∨ gKd l = 3 ∨ gKd l = 4 ∨ gKd l = 5 by omega) with e | e | e | e | e
        · have en : nbI l 0 1 = 1 := by rw [← k0]; exact e
          by_cases h9 : 9 ≤ l.length
          · have g3 := get_ok (l := l) (p := 5) (n := 4) (by decide) (by omega) (by omega)
            have k4 : gT3 l = (nbI l 5 4, ⟨l, 9, 0, 0⟩) := by unfold gT3; rw [e, k3]; exact g3
            by_cases h13 : 13 ≤ l.length
            · have g4 := get_ok (l := l) (p := 9) (n := 4) (by decide) (by omega) (by omega)
              have k5 : gT4 l = (nbI l 9 4, ⟨l, 13, 0, 0⟩) := by unfold gT4; rw [e, k4]; exact g4
              have k6 : gT5 l = (0, ⟨l, 13, 0, 0⟩) := by unfold gT5; rw [e, k5]; rfl
              refine gp_step h13 (by rw [en]; rfl) hw (by rw [k6]) k0 k2 ?_ ?_ ?_
              · rw [k4]; unfold psP; rw [en]; rfl
              · rw [k5]; unfold psP; rw [en]; rfl
              · rw [k6]; unfold psP; rw [en]; rfl
            · refine gOk_short (by rw [en]; exact h13) (gT4_e ?_)
              have g4 := get_short (l := l) (p := 9) (n := 4) (by decide) (by omega)
              unfold gT4; rw [e, k4]
              show ((⟨l, 9, 0, 0⟩ : RS).get ((4 : Nat) : Int)).2.e ≠ 0
              rw [g4]; exact (by decide : (7 : Int) ≠ 0)
          · refine gOk_short (by rw [en]; show ¬ 13 ≤ _; omega) (gT3_e ?_)
            have g4 := get_short (l := l) (p := 5) (n := 4) (by decide) (by omega)
            unfold gT3; rw [e, k3]
            show ((⟨l, 5, 0, 0⟩ : RS).get ((4 : Nat) : Int)).2.e ≠ 0
            rw [g4]; exact (by decide : (7 : Int) ≠ 0)
        · have en : nbI l 0 1 = 2 := by rw [← k0]; exact e
          by_cases h9 : 9 ≤ l.length
          · have g3 := get_ok (l := l) (p := 5) (n := 4) (by decide) (by omega) (by omega)
            have k4 : gT3 l = (nbI l 5 4, ⟨l, 9, 0, 0⟩) := by unfold gT3; rw [e, k3]; exact g3
            have k5 : gT4 l = (0, ⟨l, 9, 0, 0⟩) := by unfold gT4; rw [e, k4]; rfl
            have k6 : gT5 l = (0, ⟨l, 9, 0, 0⟩) := by unfold gT5; rw [e, k5]; rfl
            refine gp_step h9 (by rw [en]; rfl) hw (by rw [k6]) k0 k2 ?_ ?_ ?_
            · rw [k4]; unfold psP; rw [en]; rfl
            · rw [k5]; unfold psP; rw [en]; rfl
            · rw [k6]; unfold psP; rw [en]; rfl
          · refine gOk_short (by rw [en]; exact h9) (gT3_e ?_)
            have g4 := get_short (l := l) (p := 5) (n := 4) (by decide) (by omega)
            unfold gT3; rw [e, k3]
            show ((⟨l, 5, 0, 0⟩ : RS).get ((4 : Nat) : Int)).2.e ≠ 0
            rw [g4]; exact (by decide : (7 : Int) ≠ 0)
        · have en : nbI l 0 1 = 3 := by rw [← k0]; exact e
          have k4 : gT3 l = (0, ⟨l, 5, 0, 0⟩) := by unfold gT3; rw [e, k3]; rfl
          have k5 : gT4 l = (0, ⟨l, 5, 0, 0⟩) := by unfold gT4; rw [e, k4]; rfl
          have k6 : gT5 l = (0, ⟨l, 5, 0, 0⟩) := by unfold gT5; rw [e, k5]; rfl
          refine gp_step h5 (by rw [en]; rfl) hw (by rw [k6]) k0 k2 ?_ ?_ ?_
          · rw [k4]; unfold psP; rw [en]; rfl
          · rw [k5]; unfold psP; rw [en]; rfl
          · rw [k6]; unfold psP; rw [en]; rfl
        · have en : nbI l 0 1 = 4 := by rw [← k0]; exact e
          have k4 : gT3 l = (0, ⟨l, 5, 0, 0⟩) := by unfold gT3; rw [e, k3]; rfl
          have k5 : gT4 l = (0, ⟨l, 5, 0, 0⟩) := by unfold gT4; rw [e, k4]; rfl
          by_cases h6 : 6 ≤ l.length
          · have g3 := get_ok (l := l) (p := 5) (n := 1) (by decide) (by omega) (by omega)
            have k6 : gT5 l = (nbI l 5 1, ⟨l, 6, 0, 0⟩) := by unfold gT5; rw [e, k5]; exact g3
            refine gp_step h6 (by rw [en]; rfl) hw (by rw [k6]) k0 k2 ?_ ?_ ?_
            · rw [k4]; unfold psP; rw [en]; rfl
            · rw [k5]; unfold psP; rw [en]; rfl
            · rw [k6]; unfold psP; rw [en]; rfl
          · refine gOk_short (by rw [en]; exact h6) (gT6_e ?_)
            have g4 := get_short (l := l) (p := 5) (n := 1) (by decide) (by omega)
            unfold gT5; rw [e, k5]
            show ((⟨l, 5, 0, 0⟩ : RS).get ((1 : Nat) : Int)).2.e ≠ 0
            rw [g4]; exact (by decide : (7 : Int) ≠ 0)
        · have en : nbI l 0 1 = 5 := by rw [← k0]; exact e
          have k4 : gT3 l = (0, ⟨l, 5, 0, 0⟩) := by unfold gT3; rw [e, k3]; rfl
          have k5 : gT4 l = (0, ⟨l, 5, 0, 0⟩) := by unfold gT4; rw [e, k4]; rfl
          have k6 : gT5 l = (0, ⟨l, 5, 0, 0⟩) := by unfold gT5; rw [e, k5]; rfl
          refine gp_step h5 (by rw [en]; rfl) hw (by rw [k6]) k0 k2 ?_ ?_ ?_
          · rw [k4]; unfold psP; rw [en]; rfl
          · rw [k5]; unfold psP; rw [en]; rfl
          · rw [k6]; unfold psP; rw [en]; rfl
      · refine gOk_short (fun hh => h5 (Nat.le_trans ?_ hh)) (gS2_e ?_)
        · unfold pkH; split
          · omega
          · split
            · omega
            · split <;> omega
        · have g2 := get_short (l := l) (p := 1) (n := 4) (by decide) (by omega)
          unfold gS2; rw [k1]
          show ((⟨l, 1, 0, 0⟩ : RS).get ((4 : Nat) : Int)).2.e ≠ 0
          rw [g2]; exact (by decide : (7 : Int) ≠ 0)
    · have hw' : win (gKd l) 1 5 = false := by simpa using hw
      have hno : gOk l = false := by unfold gOk; rw [hw']; rfl
      refine ⟨?_, fun hh => by rw [hno] at hh; cases hh⟩
      rw [hno]
      cases hb : gpB l with
      | false => rfl
      | true =>
        have h2 := pkB_kd (gp_body hb).1
        rw [k0] at hw'
        exact absurd h2 (by rw [show (psP l).kd = nbI l 0 1 from rfl, hw']; decide)
  · have hl : l = [] := List.eq_nil_of_length_eq_zero (by omega)
    subst hl
    have hno : gOk [] = false := by decide
    have hgp : gpB [] = false := by decide
    exact ⟨hno.trans hgp.symm, fun hh => by rw [hno] at hh; cases hh⟩
end Go.Proofs.Ytpfamjgdfcnieaa
