/- Chapter 12, plain: what is put is got, and nothing else. -/
import Derived.Test.YthnoeiiebokooaaTn12
namespace Go.Proofs.Ythnoeiiebokooaa
open Go.RowKit
set_option linter.unusedVariables false
theorem byt_succ (n : Int) (i : Nat) : byt n (i + 1) = byt (n / 256) i := by
  unfold byt
  rw [Int.ediv_ediv_of_nonneg (by omega), show (256 : Int) * 2 ^ (8 * i) = 2 ^ (8 * (i + 1)) from by rw [show 8 * (i + 1) = 8 * i + 8 from by omega, Int.pow_add]; omega]
theorem bebs_snoc (wd : Nat) (n : Int) : bebs (wd + 1) n = bebs wd (n / 256) ++ [byt n 0] := by
  unfold bebs
  rw [List.range_succ, List.map_append]
  congr 1
  · refine List.map_congr_left fun j hj => ?_
    have hj' : j < wd := List.mem_range.1 hj
    rw [← byt_succ]
    congr 1
    omega
  · simp
theorem byt_zero (a : Nat) (b : UInt8) : byt ((256 * a + b.toNat : Nat) : Int) 0 = b := by
  have hb := b.toNat_lt
  apply UInt8.toNat_inj.1
  have := byt_toNat ((256 * a + b.toNat : Nat) : Int) 0
  simp only [Nat.mul_zero, Int.pow_zero, Int.ediv_one] at this
  omega
theorem bebs_be : ∀ {wd : Nat} {l : List UInt8}, l.length = wd → bebs wd (be l : Int) = l
  | 0, l, h => by
    have : l = [] := List.eq_nil_of_length_eq_zero h
    subst this; rfl
  | wd + 1, l, h => by
    obtain ⟨l', b, rfl⟩ : ∃ l' b, l = l' ++ [b] := by
      have hne : l ≠ [] := by intro e; subst e; simp at h
      exact ⟨l.dropLast, l.getLast hne, (List.dropLast_concat_getLast hne).symm⟩
    have h' : l'.length = wd := by simpa using h
    have hb := b.toNat_lt
    rw [bebs_snoc, be_snoc, byt_zero, show ((256 * be l' + b.toNat : Nat) : Int) / 256 = (be l' : Int) from by omega, bebs_be h']
theorem be_bebs12 : ∀ {wd : Nat} {n : Int}, 0 ≤ n → n < 256 ^ wd → (be (bebs wd n) : Int) = n
  | 0, n, h0, h1 => by
    have : n = 0 := by simp at h1; omega
    subst this; rfl
  | wd + 1, n, h0, h1 => by
    have ih := be_bebs12 (wd := wd) (n := n / 256) (by omega) (by
      rw [Int.pow_succ] at h1
      omega)
    have hz := byt_toNat n 0
    simp only [Nat.mul_zero, Int.pow_zero, Int.ediv_one] at hz
    rw [bebs_snoc, be_snoc]
    omega
theorem nb_bebs {wd : Nat} {n : Int} (h0 : 0 ≤ n) (h1 : n < 256 ^ wd) (h2 : n ≤ 9223372036854775807) : nb (bebs wd n) = n := by
  have := be_bebs12 h0 h1
  rw [nb_be (by omega), this]
theorem cutl {α : Type} (A B C : List α) {n m : Nat} (hA : A.length = n) (hB : B.length = m) : ((A ++ (B ++ C)).drop n).take m = B := by
  rw [List.drop_left' hA, List.take_left' hB]
theorem tb_cut : ∀ (l : List Int) (i : Nat) (h : i < l.length), ((tbB l).drop (4 * i)).take 4 = bebs 4 l[i]
  | x :: l, 0, _ => by
    show ((bebs 4 x ++ tbB l).drop 0).take 4 = _
    rw [List.drop_zero, List.take_left' (bebs_length _ _)]; rfl
  | x :: l, i + 1, h => by
    show ((bebs 4 x ++ tbB l).drop (4 * (i + 1))).take 4 = _
    rw [show 4 * (i + 1) = 4 + 4 * i from by omega, ← List.drop_drop, List.drop_left' (bebs_length _ _)]
    exact tb_cut l i (by simpa using h)
theorem mfP_form (m : MF) : mfP m = bebs 4 m.z ++ (bebs 2 m.s ++ (bebs 4 m.k ++ (bebs 8 m.d ++ (bebs 2 (m.t.length : Int) ++ tbB m.t)))) := by
  simp [mfP, mfH, List.range_succ, fw, fn]
theorem mfP_len (m : MF) : (mfP m).length = 20 + 4 * m.t.length := by unfold mfP; rw [List.length_append, mfH_five, tbB_len]
theorem mfP_cuts (m : MF) : (mfP m).take 4 = bebs 4 m.z ∧ ((mfP m).drop 4).take 2 = bebs 2 m.s ∧ ((mfP m).drop 6).take 4 = bebs 4 m.k ∧ ((mfP m).drop 10).take 8 = bebs 8 m.d ∧ ((mfP m).drop 18).take 2 = bebs 2 (m.t.length : Int) := by
  rw [mfP_form]
  refine ⟨List.take_left' (bebs_length _ _), cutl _ _ _ (bebs_length _ _) (bebs_length _ _), ?_, ?_, ?_⟩
  · rw [← List.append_assoc]; exact cutl _ _ _ (by rw [List.length_append, bebs_length, bebs_length]) (bebs_length _ _)
  · rw [← List.append_assoc, ← List.append_assoc]; exact cutl _ _ _ (by rw [List.length_append, List.length_append, bebs_length, bebs_length, bebs_length]) (bebs_length _ _)
  · rw [← List.append_assoc, ← List.append_assoc, ← List.append_assoc]; exact cutl _ _ _ (by rw [List.length_append, List.length_append, List.length_append, bebs_length, bebs_length, bebs_length, bebs_length]) (bebs_length _ _)
theorem rg_put {m : MF} (h : mfB m = true) (hd : R64 m.d) : rgB (mfP m) = true ∧ rgM (mfP m) = m := by
  obtain ⟨h1, h2, h3, h4, h5, h6, h7⟩ := mfB_iff.1 h
  obtain ⟨a, b, c, d, e⟩ := mfP_cuts m
  have hl := mfP_len m
  have hd2 := hd.2
  have hT : ((mfP m).length - 20) / 4 = m.t.length := by rw [hl]; omega
  have ht : rT (mfP m) m.t.length = m.t := by
    unfold rT
    apply List.ext_getElem (by simp)
    intro i hi1 hi2
    have hi : i < m.t.length := hi2
    rw [List.getElem_map, List.getElem_range]
    have hc : ((mfP m).drop (20 + 4 * i)).take 4 = bebs 4 m.t[i] := by
      unfold mfP
      rw [← List.drop_drop, List.drop_left' (mfH_five m)]
      exact tb_cut _ _ hi
    have hf := wt_fit h hi
    rw [hc, nb_bebs hf.1 (by have := hf.2; omega) (by have := hf.2; omega)]
  have hm : rgM (mfP m) = m := by
    unfold rgM
    rw [a, b, c, d, hT, ht, nb_bebs h1.1 (by omega) (by omega), nb_bebs (by omega) (by omega) (by omega), nb_bebs (by omega) (by omega) (by omega), nb_bebs h4 (by omega) hd2]
  refine ⟨?_, hm⟩
  unfold rgB
  rw [hm, h, e, nb_bebs (by omega) (by omega) (by omega), hl]
  simp
theorem rt_put {m : MF} (h : mfB m = true) (hd : R64 m.d) : gtM (ptV m) = m ∧ gtE (ptV m) = 0 := by
  have hp : ptV m = mfP m := by unfold ptV; rw [h]; rfl
  obtain ⟨a, b⟩ := rg_put h hd
  rw [(gt_rt _).1, (gt_rt _).2, hp]
  unfold rtM rtE
  rw [a, if_pos rfl, if_pos rfl]
  exact ⟨b, rfl⟩
theorem tb_rT {b : List UInt8} : ∀ {j : Nat}, 20 + 4 * j ≤ b.length → tbB (rT b j) = (b.drop 20).take (4 * j)
  | 0, _ => by simp [tbB, rT]
  | j + 1, h => by
    have hs := be_small (b := b) (p := 20 + 4 * j) (wd := 4) (by omega)
    rw [rT_succ, tbB_snoc, tb_rT (by omega), nb_be (by omega), bebs_be (by simp; omega)]
    rw [show 4 * (j + 1) = 4 * j + 4 from by omega, List.take_add, List.drop_drop]
theorem put_rg {b : List UInt8} (h : rgB b = true) : mfB (rgM b) = true ∧ ptV (rgM b) = b := by
  have h0 := h
  unfold rgB at h
  simp only [Bool.and_eq_true, decide_eq_true_eq] at h
  obtain ⟨h1, h2, h3⟩ := h
  refine ⟨h3, ?_⟩
  have hs : 0 ≤ nb ((b.drop 10).take 8) := (mfB_iff.1 h3).2.2.2.1
  have hv := nb_neg (by simp; omega) hs
  have q0 := be_small (b := b) (p := 0) (wd := 4) (by omega)
  have q1 := be_small (b := b) (p := 4) (wd := 2) (by omega)
  have q2 := be_small (b := b) (p := 6) (wd := 4) (by omega)
  have q4 := be_small (b := b) (p := 18) (wd := 2) (by omega)
  rw [List.drop_zero] at q0
  have n18 : nb ((b.drop 18).take 2) = (be ((b.drop 18).take 2) : Int) := nb_be (by omega)
  rw [n18] at h2
  have hT : (b.length - 20) / 4 = be ((b.drop 18).take 2) := by omega
  have hl : b.length = 20 + 4 * be ((b.drop 18).take 2) := by omega
  have hp : ptV (rgM b) = mfP (rgM b) := by unfold ptV; rw [h3]; rfl
  rw [hp, mfP_form]
  show bebs 4 (nb (b.take 4)) ++ (bebs 2 (nb ((b.drop 4).take 2)) ++ (bebs 4 (nb ((b.drop 6).take 4)) ++ (bebs 8 (nb ((b.drop 10).take 8)) ++ (bebs 2 ((rT b ((b.length - 20) / 4)).length : Int) ++ tbB (rT b ((b.length - 20) / 4)))))) = b
  rw [rT_len, hT, nb_be (by omega), nb_be (by omega), nb_be (by omega), nb_be hv, bebs_be (by simp; omega), bebs_be (by simp; omega), bebs_be (by simp; omega), bebs_be (by simp; omega), bebs_be (by simp; omega), tb_rT (by omega)]
  rw [List.take_of_length_le (l := b.drop 20) (by simp; omega)]
  have e1 : (b.drop 18).take 2 ++ b.drop 20 = b.drop 18 := by
    have := List.take_append_drop 2 (b.drop 18); rw [List.drop_drop] at this; exact this
  have e2 : (b.drop 10).take 8 ++ b.drop 18 = b.drop 10 := by
    have := List.take_append_drop 8 (b.drop 10); rw [List.drop_drop] at this; exact this
  have e3 : (b.drop 6).take 4 ++ b.drop 10 = b.drop 6 := by
    have := List.take_append_drop 4 (b.drop 6); rw [List.drop_drop] at this; exact this
  have e4 : (b.drop 4).take 2 ++ b.drop 6 = b.drop 4 := by
    have := List.take_append_drop 2 (b.drop 4); rw [List.drop_drop] at this; exact this
  rw [e1, e2, e3, e4, List.take_append_drop]
theorem put_inj {m m' : MF} (h : mfB m = true) (h' : mfB m' = true) (hd : R64 m.d) (hd' : R64 m'.d) : (ptV m == ptV m') = m.same m' := by
  cases hs : m.same m' with
  | true => rw [same_iff.1 hs]; simp
  | false =>
    have hne : ptV m ≠ ptV m' := fun e => by
      have := (rt_put h hd).1
      rw [e, (rt_put h' hd').1] at this
      rw [this, same_iff.2 rfl] at hs
      cases hs
    simpa using hne
/-- None begins with another. -/
theorem put_free {m m' : MF} (h : mfB m = true) (h' : mfB m' = true) (hd : R64 m.d) (hd' : R64 m'.d) : (decide ((ptV m').length < (ptV m).length) && ((ptV m).take (ptV m').length == ptV m')) = false := by
  have hp : ptV m = mfP m := by unfold ptV; rw [h]; rfl
  have hp' : ptV m' = mfP m' := by unfold ptV; rw [h']; rfl
  rw [hp, hp']
  cases hq : (decide ((mfP m').length < (mfP m).length) && ((mfP m).take (mfP m').length == mfP m')) with
  | false => rfl
  | true =>
    exfalso
    simp only [Bool.and_eq_true, decide_eq_true_eq, beq_iff_eq] at hq
    obtain ⟨h1, h2⟩ := hq
    have c1 := (mfP_cuts m).2.2.2.2
    have c2 := (mfP_cuts m').2.2.2.2
    have hl := mfP_len m
    have hl' := mfP_len m'
    have b1 := mfB_iff.1 h
    have b2 := mfB_iff.1 h'
    rw [← h2, List.drop_take, List.take_take, show min 2 ((mfP m').length - 18) = 2 from by omega, c1] at c2
    have e1 := be_bebs12 (wd := 2) (n := (m.t.length : Int)) (by omega) (by omega)
    have e2 := be_bebs12 (wd := 2) (n := (m'.t.length : Int)) (by omega) (by omega)
    rw [c2] at e1
    omega
end Go.Proofs.Ythnoeiiebokooaa
