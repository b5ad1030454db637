/- Chapter 28: blocks, cut and put together, are the object (plain). -/
import Derived.Test.YtchdjbbhhjjmkaaOb28
namespace Go.Proofs.Ytchdjbbhhjjmkaa
open Go.RowKit
set_option linter.unusedVariables false
theorem mfN_of {m : MF} (h : mfB m = true) : mfN m = (m.z + m.k * m.s - 1) / (m.k * m.s) := by unfold mfN; rw [if_pos h]
/-- What a part is, told by sums. -/
theorem part_is {m : MF} (h : mfB m = true) {q : Nat} (hq : (q : Int) < mfN m) :
    prE m q = 0 ∧ prF m q = min ((q : Int) * (m.k * m.s)) m.z ∧ 1 ≤ prS m q ∧ prS m q ≤ m.k * m.s ∧ prF m q + prS m q = min (((q + 1 : Nat) : Int) * (m.k * m.s)) m.z := by
  have hf := mf_full h
  have hr := prF_range h (b := (q : Int)) ⟨by omega, hq⟩
  have hE : prE m q = 0 := by unfold prE; rw [if_pos h, if_pos ⟨by omega, hq⟩]
  have hF : prF m q = (q : Int) * (m.k * m.s) := by unfold prF; rw [if_pos hE]
  have hS : prS m q = min (m.k * m.s) (m.z - (q : Int) * (m.k * m.s)) := by unfold prS; rw [if_pos hE]
  have hsucc : ((q + 1 : Nat) : Int) * (m.k * m.s) = (q : Int) * (m.k * m.s) + m.k * m.s := by
    rw [Int.natCast_add, Int.add_mul]; simp
  refine ⟨hE, by omega, by omega, by omega, by omega⟩
theorem parts_end {m : MF} (h : mfB m = true) {N : Nat} (hN : mfN m = N) : min ((N : Int) * (m.k * m.s)) m.z = m.z := by
  have hf := mf_full h
  have hz := (mfB_iff.1 h).1
  have h1 := mfN_of h
  rw [hN] at h1
  have h2 : m.z + m.k * m.s - 1 < ((N : Int) + 1) * (m.k * m.s) := (Int.ediv_lt_iff_lt_mul (by omega)).1 (by omega)
  rw [Int.add_mul, Int.one_mul] at h2
  omega
/-- The parts of an object's blocks. -/
def partsL (m : MF) (data : List UInt8) (q : Nat) : List (List UInt8) := (List.range q).map fun (i : Nat) => syP m data (i : Int)
theorem partsL_succ (m : MF) (data : List UInt8) (q : Nat) : partsL m data (q + 1) = partsL m data q ++ [syP m data (q : Int)] := by unfold partsL; rw [List.range_succ, List.map_append]; rfl
theorem partsL_len (m : MF) (data : List UInt8) (q : Nat) : (partsL m data q).length = q := by simp [partsL]
theorem partsL_get {m : MF} {data : List UInt8} {q i : Nat} (h : i < q) : (partsL m data q).getD i [] = syP m data (i : Int) := by
  rw [List.getD_eq_getElem?_getD, List.getElem?_eq_getElem (by rw [partsL_len]; exact h)]
  simp [partsL]
section
variable {m : MF} {data : List UInt8}
theorem sy_in (h : mfB m = true) (hl : (data.length : Int) = m.z) {i : Nat} (hi : (i : Int) < mfN m) :
    syE m data i = 0 ∧ ptE m i (syV m data i) = 0 ∧ ptV m i (syV m data i) = syP m data i ∧ ((syV m data i).length : Int) = m.k ∧ ((syP m data i).length : Int) = prS m i := by
  have hE := (part_is h hi).1
  obtain ⟨o1, o2, o3⟩ := sy_ok (data := data) hE hl
  obtain ⟨f, s, h1, h2, h3, h4, h5, h6, h7, h8, h9⟩ := sy_part (data := data) hE hl
  have hk := mf_ks h
  have hsz := (part_is h hi).2.2.2.1
  obtain ⟨K, hK⟩ : ∃ K : Nat, m.k = K := ⟨m.k.toNat, by omega⟩
  obtain ⟨Z, hZ⟩ : ∃ Z : Nat, m.s = Z := ⟨m.s.toNat, by omega⟩
  have hV : syV m data i = cutL (syP m data i) K Z := by rw [o2, h9, hK, hZ]; rfl
  have hbk : bkB (syV m data i) = true := by rw [hV]; exact cutL_bk (by omega) (by omega) (by omega) (by omega)
  have hlen : (syV m data i).length = K := by rw [hV, cutL_len]
  have h0 : ((syV m data i).getD 0 []).length = Z := by rw [hV]; exact cutL_get0 (by omega)
  have hO : ptO m (syV m data i) = true := ptO_iff.2 ⟨hbk, by rw [hlen, hK], by rw [h0, hZ]⟩
  obtain ⟨p1, p2, p3⟩ := pt_ok (m := m) (b := (i : Int)) (xss := syV m data i) hE hO
  refine ⟨o1, p1, ?_, by rw [hlen, hK], by rw [h7, h2]⟩
  rw [p3]
  unfold jnV
  rw [if_pos p2, h2, Int.toNat_natCast, hV, cutL_flat]
  have hle : (syP m data i).length ≤ K * Z := by
    rw [h7]
    rw [hK, hZ, h2, ← Int.natCast_mul] at hsz
    omega
  unfold evenL
  rw [List.take_of_length_le hle, List.take_append_of_le_length (by omega), List.take_of_length_le (by omega)]
theorem parts_flat (h : mfB m = true) (hl : (data.length : Int) = m.z) : ∀ q : Nat, (q : Int) ≤ mfN m → (partsL m data q).flatten = data.take (min ((q : Int) * (m.k * m.s)) m.z).toNat
  | 0, _ => by
    have hz := mf_ks h
    rw [show (partsL m data 0).flatten = [] from rfl]
    rw [show (min (((0 : Nat) : Int) * (m.k * m.s)) m.z).toNat = 0 by simp; omega]
    rfl
  | q + 1, hq => by
    have ih := parts_flat h hl q (by omega)
    have hp := part_is h (q := q) (by omega)
    have hE := hp.1
    obtain ⟨f, s, h1, h2, h3, h4, h5, h6, h7, h8, h9⟩ := sy_part (data := data) hE hl
    rw [partsL_succ, List.flatten_append, ih, ← hp.2.2.2.2, ← hp.2.1, h1, h2, h6]
    rw [show ((f : Int) + (s : Int)).toNat = f + s by omega, Int.toNat_natCast, List.take_add]
    simp
theorem parts_all (h : mfB m = true) (hl : (data.length : Int) = m.z) {N : Nat} (hN : mfN m = N) : jyE m (partsL m data N) = 0 ∧ jyV m (partsL m data N) = data := by
  have hf : fitB m (partsL m data N) N = true := by
    unfold fitB
    rw [List.all_eq_true]
    intro i hi
    rw [List.mem_range] at hi
    rw [partsL_get hi]
    simpa using (sy_in h hl (i := i) (by omega)).2.2.2.2
  have hE : jyE m (partsL m data N) = 0 := by
    unfold jyE
    rw [if_pos ⟨h, by rw [partsL_len, hN], by rw [partsL_len]; exact hf⟩]
  refine ⟨hE, ?_⟩
  unfold jyV
  rw [if_pos hE, parts_flat h hl N (by omega), parts_end h hN, List.take_of_length_le (by omega)]
theorem sy_out (h : mfB m = true) (hl : (data.length : Int) = m.z) {N : Nat} (hN : mfN m = N) : syE m data N = 3 := by
  unfold syE
  rw [if_pos ⟨h, hl⟩]
  unfold prE
  rw [if_pos h, if_neg (by omega)]
def sameN (m : MF) (a o : List UInt8) (q : Nat) : Bool := (List.range q).all fun (i : Nat) => syV m a (i : Int) == syV m o (i : Int)
theorem sameN_succ (m : MF) (a o : List UInt8) (q : Nat) : sameN m a o (q + 1) = (sameN m a o q && (syV m a (q : Int) == syV m o (q : Int))) := by
  unfold sameN; rw [List.range_succ, List.all_append]; simp
theorem sameN_all (h : mfB m = true) {a o : List UInt8} (hl : (a.length : Int) = m.z) (hl2 : (o.length : Int) = m.z) {N : Nat} (hN : mfN m = N) : sameN m a o N = (a == o) := by
  cases hq : (a == o) with
  | true =>
    have e := eq_of_beq hq
    subst e
    unfold sameN
    rw [List.all_eq_true]
    intro i _
    simp
  | false =>
    have hne : a ≠ o := by intro e; subst e; simp at hq
    unfold sameN
    cases hs : (List.range N).all fun (i : Nat) => syV m a (i : Int) == syV m o (i : Int) with
    | false => rfl
    | true =>
      refine absurd ?_ hne
      rw [List.all_eq_true] at hs
      have hp : partsL m a N = partsL m o N := by
        unfold partsL
        refine List.map_congr_left fun i hi => ?_
        have e := eq_of_beq (hs i hi)
        rw [List.mem_range] at hi
        rw [← (sy_in h hl (i := i) (by omega)).2.2.1, ← (sy_in h hl2 (i := i) (by omega)).2.2.1, e]
      rw [← (parts_all h hl hN).2, ← (parts_all h hl2 hN).2, hp]
end
/-- small. -/
def smM (z : Nat) (k s : Int) : MF := ⟨z, 1 + s % 6, 1 + k % 6, 0, [1]⟩
theorem smM_ok {z : Nat} (k s : Int) (h : z ≤ 4294967295) : mfB (smM z k s) = true := by
  have h1 := Int.emod_nonneg s (show (6 : Int) ≠ 0 by decide)
  have h2 := Int.emod_lt_of_pos s (show (0 : Int) < 6 by decide)
  have h3 := Int.emod_nonneg k (show (6 : Int) ≠ 0 by decide)
  have h4 := Int.emod_lt_of_pos k (show (0 : Int) < 6 by decide)
  rw [mfB_iff]
  unfold smM
  refine ⟨by simp only; omega, by simp only; omega, by simp only; omega, by simp only; omega, by simp, by simp only [List.length_cons, List.length_nil]; omega, (show tabB [1] = true by decide)⟩
theorem smM_N {z : Nat} (k s : Int) (h : z ≤ 200) : mfN (smM z k s) ≤ 200 := by
  have hok := smM_ok k s (show z ≤ 4294967295 by omega)
  have hf := mf_full hok
  rw [mfN_of hok]
  show ((z : Int) + (smM z k s).k * (smM z k s).s - 1) / ((smM z k s).k * (smM z k s).s) ≤ 200
  generalize (smM z k s).k * (smM z k s).s = f at hf
  refine Int.le_of_lt_add_one ((Int.ediv_lt_iff_lt_mul (by omega)).2 ?_)
  have : (200 + 1) * f = 200 * f + f := by omega
  omega
end Go.Proofs.Ytchdjbbhhjjmkaa
