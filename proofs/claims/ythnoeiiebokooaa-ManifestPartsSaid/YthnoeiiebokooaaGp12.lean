/- Chapter 12, plain: both Get tell the same. -/
import Derived.Test.YthnoeiiebokooaaRg12
namespace Go.Proofs.Ythnoeiiebokooaa
open Go.RowKit
set_option linter.unusedVariables false
theorem get_ok {s : RS} {wd : Nat} (hw : wid (wd : Int) = true) (he : s.e = 0) (hp : s.p + wd ≤ s.l.length) (hv : be ((s.l.drop s.p).take wd) < 9223372036854775808) :
    s.get wd = ((be ((s.l.drop s.p).take wd) : Int), ⟨s.l, s.p + wd, 0, s.f⟩) := by
  have ht : s.take wd (wid wd) = ((s.l.drop s.p).take wd, ⟨s.l, s.p + wd, s.e, s.f⟩) := by
    have := RS.take_ok (s := s) (n := wd) (may := wid wd) he (by rw [hw]; simp) (by omega)
    rw [this, Int.toNat_natCast]
  unfold RS.get
  rw [ht, if_neg (by simp only; omega), he]
theorem get_bad {s : RS} {wd : Nat} (hw : wid (wd : Int) = true) (h : (s.get wd).2.e = 0) : s.e = 0 ∧ s.p + wd ≤ s.l.length ∨ False := by
  unfold RS.get at h
  split at h
  · simp at h
  · by_cases he : s.e = 0
    · by_cases hs : (s.l.length : Int) - s.p < wd
      · rw [RS.take_short he (by rw [hw]; simp) hs] at h; simp at h
      · exact .inl ⟨he, by omega⟩
    · rw [RS.take_e he] at h; exact absurd h he
theorem get_bad2 {s : RS} {wd : Nat} (hw : wid (wd : Int) = true) (h : (s.get wd).2.e = 0) : s.e = 0 ∧ s.p + wd ≤ s.l.length ∧ be ((s.l.drop s.p).take wd) < 9223372036854775808 := by
  rcases get_bad hw h with ⟨he, hp⟩ | h
  · refine ⟨he, hp, ?_⟩
    by_cases hv : be ((s.l.drop s.p).take wd) < 9223372036854775808
    · exact hv
    · exfalso
      have ht : s.take wd (wid wd) = ((s.l.drop s.p).take wd, ⟨s.l, s.p + wd, s.e, s.f⟩) := by
        have := RS.take_ok (s := s) (n := wd) (may := wid wd) he (by rw [hw]; simp) (by omega)
        rw [this, Int.toNat_natCast]
      unfold RS.get at h
      rw [ht, if_pos (by simp only; omega)] at h
      simp at h
  · exact h.elim
theorem fw_wid {i : Nat} (h : i < 5) : wid (fw i : Int) = true := by
  rcases (show i = 0 ∨ i = 1 ∨ i = 2 ∨ i = 3 ∨ i = 4 from by omega) with rfl | rfl | rfl | rfl | rfl <;> rfl
theorem gS_step {b : List UInt8} {i p : Nat} (hi : i < 5) (h : gS b i = ⟨b, p, 0, 0⟩) (hp : p + fw i ≤ b.length) (hv : be ((b.drop p).take (fw i)) < 9223372036854775808) :
    gS b (i + 1) = ⟨b, p + fw i, 0, 0⟩ ∧ gV b i = (be ((b.drop p).take (fw i)) : Int) := by
  have := get_ok (s := ⟨b, p, 0, 0⟩) (fw_wid hi) rfl hp hv
  unfold gV
  show ((gS b i).get (fw i : Int)).2 = _ ∧ _
  rw [h, this]
  exact ⟨rfl, rfl⟩
theorem gS_back {b : List UInt8} {i : Nat} (hi : i < 5) (h : (gS b (i + 1)).e = 0) : (gS b i).e = 0 := (get_bad2 (fw_wid hi) h).1
theorem gS_need {b : List UInt8} {i p : Nat} (hi : i < 5) (h0 : gS b i = ⟨b, p, 0, 0⟩) (h : (gS b (i + 1)).e = 0) : p + fw i ≤ b.length ∧ be ((b.drop p).take (fw i)) < 9223372036854775808 := by
  have := (get_bad2 (s := gS b i) (fw_wid hi) h).2
  rw [h0] at this
  exact this
/-- What the five come to. -/
structure G5 (b : List UInt8) : Prop where
  s : gS b 5 = ⟨b, 20, 0, 0⟩
  v0 : gV b 0 = (be (b.take 4) : Int)
  v1 : gV b 1 = (be ((b.drop 4).take 2) : Int)
  v2 : gV b 2 = (be ((b.drop 6).take 4) : Int)
  v3 : gV b 3 = (be ((b.drop 10).take 8) : Int)
  v4 : gV b 4 = (be ((b.drop 18).take 2) : Int)
theorem be_small {b : List UInt8} {p wd : Nat} (h : wd ≤ 4) : be ((b.drop p).take wd) < 4294967296 := by
  have h1 := be_lt _ ((b.drop p).take wd) rfl
  have h2 : 256 ^ ((b.drop p).take wd).length ≤ 256 ^ 4 := Nat.pow_le_pow_right (by omega) (by rw [List.length_take]; omega)
  omega
theorem g5 {b : List UInt8} (h : 20 ≤ b.length) (hv : be ((b.drop 10).take 8) < 9223372036854775808) : G5 b := by
  obtain ⟨a1, b1⟩ := gS_step (b := b) (i := 0) (p := 0) (by omega) rfl (by show 0 + 4 ≤ _; omega) (by have := be_small (b := b) (p := 0) (wd := 4) (by omega); show be ((b.drop 0).take 4) < _; omega)
  obtain ⟨a2, b2⟩ := gS_step (b := b) (i := 1) (p := 4) (by omega) a1 (by show 4 + 2 ≤ _; omega) (by have := be_small (b := b) (p := 4) (wd := 2) (by omega); show be ((b.drop 4).take 2) < _; omega)
  obtain ⟨a3, b3⟩ := gS_step (b := b) (i := 2) (p := 6) (by omega) a2 (by show 6 + 4 ≤ _; omega) (by have := be_small (b := b) (p := 6) (wd := 4) (by omega); show be ((b.drop 6).take 4) < _; omega)
  obtain ⟨a4, b4⟩ := gS_step (b := b) (i := 3) (p := 10) (by omega) a3 (by show 10 + 8 ≤ _; omega) hv
  obtain ⟨a5, b5⟩ := gS_step (b := b) (i := 4) (p := 18) (by omega) a4 (by show 18 + 2 ≤ _; omega) (by have := be_small (b := b) (p := 18) (wd := 2) (by omega); show be ((b.drop 18).take 2) < _; omega)
  exact ⟨a5, b1, b2, b3, b4, b5⟩
theorem g5_need {b : List UInt8} (h : (gS b 5).e = 0) : 20 ≤ b.length ∧ be ((b.drop 10).take 8) < 9223372036854775808 := by
  have e4 := gS_back (i := 4) (by omega) h
  have e3 := gS_back (i := 3) (by omega) e4
  have e2 := gS_back (i := 2) (by omega) e3
  have e1 := gS_back (i := 1) (by omega) e2
  obtain ⟨p0, q0⟩ := gS_need (i := 0) (p := 0) (by omega) rfl e1
  obtain ⟨a1, _⟩ := gS_step (by omega) rfl p0 q0
  obtain ⟨p1, q1⟩ := gS_need (i := 1) (p := 4) (by omega) a1 e2
  obtain ⟨a2, _⟩ := gS_step (by omega) a1 p1 q1
  obtain ⟨p2, q2⟩ := gS_need (i := 2) (p := 6) (by omega) a2 e3
  obtain ⟨a3, _⟩ := gS_step (by omega) a2 p2 q2
  obtain ⟨p3, q3⟩ := gS_need (i := 3) (p := 10) (by omega) a3 e4
  obtain ⟨a4, _⟩ := gS_step (by omega) a3 p3 q3
  obtain ⟨p4, q4⟩ := gS_need (i := 4) (p := 18) (by omega) a4 h
  exact ⟨p4, q3⟩
theorem tS_ok {b : List UInt8} {p : Nat} : ∀ {j : Nat}, p + 4 * j ≤ b.length → tS ⟨b, p, 0, 0⟩ j = ⟨b, p + 4 * j, 0, 0⟩
  | 0, _ => rfl
  | j + 1, h => by
    have ih := tS_ok (b := b) (p := p) (j := j) (by omega)
    show ((tS ⟨b, p, 0, 0⟩ j).get 4).2 = _
    rw [ih]
    have := get_ok (s := ⟨b, p + 4 * j, 0, 0⟩) (wd := 4) rfl rfl (by show p + 4 * j + 4 ≤ b.length; omega) (by have := be_small (b := b) (p := p + 4 * j) (wd := 4) (by omega); show be ((b.drop (p + 4 * j)).take 4) < _; omega)
    rw [show ((4 : Nat) : Int) = 4 from rfl] at this
    rw [this]
    show (⟨b, p + 4 * j + 4, 0, 0⟩ : RS) = ⟨b, p + 4 * (j + 1), 0, 0⟩
    rw [show p + 4 * j + 4 = p + 4 * (j + 1) from by omega]
theorem tS_val {b : List UInt8} {p j : Nat} (h : p + 4 * j + 4 ≤ b.length) : ((tS ⟨b, p, 0, 0⟩ j).get 4).1 = (be ((b.drop (p + 4 * j)).take 4) : Int) := by
  rw [tS_ok (by omega)]
  have := get_ok (s := ⟨b, p + 4 * j, 0, 0⟩) (wd := 4) rfl rfl h (by have := be_small (b := b) (p := p + 4 * j) (wd := 4) (by omega); show be ((b.drop (p + 4 * j)).take 4) < _; omega)
  rw [show ((4 : Nat) : Int) = 4 from rfl] at this
  rw [this]
theorem tS_back {s : RS} : ∀ {j : Nat}, (tS s j).e = 0 → s.e = 0
  | 0, h => h
  | j + 1, h => tS_back (s := s) (j := j) (get_bad2 (s := tS s j) (wd := 4) rfl h).1
theorem tS_need {b : List UInt8} {p : Nat} : ∀ {j : Nat}, (tS ⟨b, p, 0, 0⟩ j).e = 0 → 0 < j → p + 4 * j ≤ b.length
  | 0, _, h => by omega
  | j + 1, h, _ => by
    have h2 := get_bad2 (s := tS ⟨b, p, 0, 0⟩ j) (wd := 4) rfl h
    have hj : p + 4 * j ≤ b.length ∨ j = 0 := by
      by_cases e : 0 < j
      · exact .inl (tS_need h2.1 e)
      · exact .inr (by omega)
    rcases hj with hj | rfl
    · have h3 := h2.2.1
      rw [tS_ok hj] at h3
      have : p + 4 * j + 4 ≤ b.length := h3
      omega
    · have : p + 4 ≤ b.length := h2.2.1
      omega
theorem nb_be {l : List UInt8} (h : be l < 9223372036854775808) : nb l = (be l : Int) := by unfold nb; rw [IntKind.wrap_i64]; omega
theorem nb_neg {l : List UInt8} (hl : l.length = 8) (h : 0 ≤ nb l) : be l < 9223372036854775808 := by
  have := be_lt 8 l hl
  unfold nb at h
  rw [IntKind.wrap_i64] at h
  omega
theorem tab_eq {b : List UInt8} {q : Nat} (h : b.length = 20 + 4 * q) : tV ⟨b, 20, 0, 0⟩ q = rT b ((b.length - 20) / 4) := by
  rw [show (b.length - 20) / 4 = q from by omega]
  unfold tV rT
  refine List.map_congr_left fun i hi => ?_
  have hi' : i < q := List.mem_range.1 hi
  rw [tS_val (by omega), nb_be (by have := be_small (b := b) (p := 20 + 4 * i) (wd := 4) (by omega); omega)]
theorem fin_zero {s : RS} (h : s.fin = (0, 0)) : s.e = 0 ∧ s.l.length ≤ s.p := by
  unfold RS.fin at h
  split at h
  · rename_i hc; simp at h
  · rename_i hc
    have he : s.e = 0 := congrArg Prod.fst h
    exact ⟨he, by by_cases hp : s.p < s.l.length; · exact absurd ⟨he, hp⟩ hc
                  · omega⟩
theorem same_gets (b : List UInt8) : pgB b = rgB b ∧ (rgB b = true → pgM b = rgM b) := by
  have key : ∀ q : Nat, b.length = 20 + 4 * q → be ((b.drop 10).take 8) < 9223372036854775808 → G5 b → gQ b = q → pgM b = rgM b := by
    intro q hl hv g hq
    unfold pgM rgM
    rw [hq, g.s, g.v0, g.v1, g.v2, g.v3, tab_eq hl, nb_be (by have := be_small (b := b) (p := 0) (wd := 4) (by omega); rw [List.drop_zero] at this; omega), nb_be (by have := be_small (b := b) (p := 4) (wd := 2) (by omega); omega), nb_be (by have := be_small (b := b) (p := 6) (wd := 4) (by omega); omega), nb_be hv]
  have n18 : nb ((b.drop 18).take 2) = (be ((b.drop 18).take 2) : Int) := nb_be (by have := be_small (b := b) (p := 18) (wd := 2) (by omega); omega)
  have fwd : pgB b = true → rgB b = true ∧ pgM b = rgM b := by
    intro h
    unfold pgB at h
    simp only [Bool.and_eq_true, decide_eq_true_eq] at h
    obtain ⟨h1, h2, h3⟩ := h
    obtain ⟨he, hp⟩ := fin_zero h2
    have h5 := g5_need (tS_back he)
    have g := g5 h5.1 h5.2
    rw [g.s] at he hp
    have hl : b.length = 20 + 4 * gQ b := by
      by_cases e : 0 < gQ b
      · have hn := tS_need he e
        rw [tS_ok hn] at hp
        have hp' : b.length ≤ 20 + 4 * gQ b := hp
        omega
      · have e0 : gQ b = 0 := by omega
        rw [e0] at hp ⊢
        have hp' : b.length ≤ 20 := hp
        omega
    have hm := key _ hl h5.2 g rfl
    refine ⟨?_, hm⟩
    unfold rgB
    rw [← hm, h3, n18, ← g.v4, ← h1]
    simp; omega
  have bwd : rgB b = true → pgB b = true := by
    intro h
    unfold rgB at h
    simp only [Bool.and_eq_true, decide_eq_true_eq] at h
    obtain ⟨h1, h2, h3⟩ := h
    have hs : 0 ≤ nb ((b.drop 10).take 8) := (mfB_iff.1 h3).2.2.2.1
    have hv := nb_neg (by simp; omega) hs
    have g := g5 h1 hv
    rw [n18] at h2
    obtain ⟨t, ht⟩ : ∃ t, be ((b.drop 18).take 2) = t := ⟨_, rfl⟩
    rw [ht] at h2
    have hl : b.length = 20 + 4 * t := by omega
    have hrest : (gS b 5).rest = 4 * (t : Int) := by
      rw [g.s]; unfold RS.rest
      rw [if_neg (by simp)]
      show (b.length : Int) - ((20 : Nat) : Int) = _
      omega
    have hq : gQ b = t := by
      unfold gQ; rw [hrest, g.v4, ht]; omega
    have hm := key t hl hv g hq
    have hfin : (tS (gS b 5) (gQ b)).fin = (0, 0) := by
      rw [g.s, hq, tS_ok (by omega)]
      unfold RS.fin
      rw [if_neg (by show ¬ (_ ∧ 20 + 4 * t < b.length); omega)]
    unfold pgB
    rw [hm, h3, hfin, hq, g.v4, ht]
    simp
  refine ⟨?_, fun h => (fwd (bwd h)).2⟩
  cases hp : pgB b with
  | true => exact (fwd hp).1.symm
  | false =>
    cases hr : rgB b with
    | true => rw [bwd hr] at hp; cases hp
    | false => rfl
theorem gt_rt (b : List UInt8) : gtM b = rtM b ∧ gtE b = rtE b := by
  obtain ⟨h1, h2⟩ := same_gets b
  unfold gtM rtM gtE rtE
  rw [h1]
  cases h : rgB b with
  | true => rw [if_pos rfl, if_pos rfl, h2 h]; exact ⟨rfl, rfl⟩
  | false => exact ⟨rfl, rfl⟩
end Go.Proofs.Ythnoeiiebokooaa
