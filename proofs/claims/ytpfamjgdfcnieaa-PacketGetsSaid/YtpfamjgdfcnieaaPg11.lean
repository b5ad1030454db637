/- Chapter 11: a packet's bytes, read back (plain). -/
import Derived.Test.YtpfamjgdfcnieaaPn11
import Derived.Test.YtpfamjgdfcnieaaBe10
namespace Go.Proofs.Ytpfamjgdfcnieaa
open Go.RowKit
set_option linter.unusedVariables false
def pkH (k : Int) : Nat := if k = 1 then 13 else if k = 2 then 9 else if k = 4 then 6 else 5
def nbI (l : List UInt8) (i n : Nat) : Int := (be ((l.drop i).take n) : Int)
/-- The packet that bytes may be. -/
def psP (l : List UInt8) : PK :=
  ⟨nbI l 0 1, nbI l 1 4, if fmB (nbI l 0 1) then nbI l 5 4 else 0, if fmB (nbI l 0 1) && fmD (nbI l 0 1) then nbI l 9 4 else 0, if 0 < fmR (nbI l 0 1) then nbI l 5 1 else 0, l.drop (pkH (nbI l 0 1))⟩
def gpB (l : List UInt8) : Bool := decide (pkH (nbI l 0 1) ≤ l.length) && pkB (psP l)
theorem cat2 (l : List UInt8) (i n : Nat) : (l.drop i).take n ++ l.drop (i + n) = l.drop i := by
  rw [← List.drop_drop, List.take_append_drop]
theorem bebs_nb {l : List UInt8} {i n : Nat} (h : i + n ≤ l.length) : bebs n (nbI l i n) = (l.drop i).take n := by
  unfold nbI
  exact bebs_be (by rw [List.length_take, List.length_drop]; omega)
theorem gp_body {l : List UInt8} (h : gpB l = true) : pkB (psP l) = true ∧ pkBody (psP l) = l := by
  unfold gpB at h
  rw [Bool.and_eq_true, decide_eq_true_eq] at h
  obtain ⟨hl, hb⟩ := h
  refine ⟨hb, ?_⟩
  have hk := (pk_fit hb).1
  have hk' : 1 ≤ nbI l 0 1 ∧ nbI l 0 1 ≤ 5 := hk
  clear hk hb
  have c0 := cat2 l 0 1
  have c1 := cat2 l 1 4
  rw [List.drop_zero] at c0
  simp only [Nat.zero_add, Nat.reduceAdd] at c0 c1
  rcases (show nbI l 0 1 = 1 ∨ nbI l 0 1 = 2 ∨ nbI l 0 1 = 3 ∨ nbI l 0 1 = 4 ∨ nbI l 0 1 = 5 by omega) with e | e | e | e | e
  · rw [e] at hl
    have hl : 13 ≤ l.length := hl
    have b0 := bebs_nb (l := l) (i := 0) (n := 1) (by omega)
    have b1 := bebs_nb (l := l) (i := 1) (n := 4) (by omega)
    have s0 := bebs_nb (l := l) (i := 5) (n := 4) (by omega)
    have s1 := bebs_nb (l := l) (i := 9) (n := 4) (by omega)
    have d0 := cat2 l 5 4
    simp only [Nat.reduceAdd] at d0
    have d1 := cat2 l 9 4
    simp only [Nat.reduceAdd] at d1
    rw [e, List.drop_zero] at b0
    have hB : pkBody (psP l) = bebs 1 1 ++ bebs 4 (nbI l 1 4) ++ bebs 4 (nbI l 5 4) ++ bebs 4 (nbI l 9 4) ++ l.drop 13 := by
      unfold pkBody psP
      simp [e, fmB, fmD, fmR, pkH]
    rw [hB, b0, b1, s0, s1]
    simp only [List.append_assoc]
    rw [d1, d0, c1, c0]
  · rw [e] at hl
    have hl : 9 ≤ l.length := hl
    have b0 := bebs_nb (l := l) (i := 0) (n := 1) (by omega)
    have b1 := bebs_nb (l := l) (i := 1) (n := 4) (by omega)
    have s0 := bebs_nb (l := l) (i := 5) (n := 4) (by omega)
    have d0 := cat2 l 5 4
    simp only [Nat.reduceAdd] at d0
    rw [e, List.drop_zero] at b0
    have hB : pkBody (psP l) = bebs 1 2 ++ bebs 4 (nbI l 1 4) ++ bebs 4 (nbI l 5 4) ++ l.drop 9 := by
      unfold pkBody psP
      simp [e, fmB, fmD, fmR, pkH]
    rw [hB, b0, b1, s0]
    simp only [List.append_assoc]
    rw [d0, c1, c0]
  · rw [e] at hl
    have hl : 5 ≤ l.length := hl
    have b0 := bebs_nb (l := l) (i := 0) (n := 1) (by omega)
    have b1 := bebs_nb (l := l) (i := 1) (n := 4) (by omega)
    rw [e, List.drop_zero] at b0
    have hB : pkBody (psP l) = bebs 1 3 ++ bebs 4 (nbI l 1 4) ++ l.drop 5 := by
      unfold pkBody psP
      simp [e, fmB, fmD, fmR, pkH]
    rw [hB, b0, b1]
    simp only [List.append_assoc]
    rw [c1, c0]
  · rw [e] at hl
    have hl : 6 ≤ l.length := hl
    have b0 := bebs_nb (l := l) (i := 0) (n := 1) (by omega)
    have b1 := bebs_nb (l := l) (i := 1) (n := 4) (by omega)
    have s0 := bebs_nb (l := l) (i := 5) (n := 1) (by omega)
    have d0 := cat2 l 5 1
    simp only [Nat.reduceAdd] at d0
    rw [e, List.drop_zero] at b0
    have hB : pkBody (psP l) = bebs 1 4 ++ bebs 4 (nbI l 1 4) ++ bebs 1 (nbI l 5 1) ++ l.drop 6 := by
      unfold pkBody psP
      simp [e, fmB, fmD, fmR, pkH]
    rw [hB, b0, b1, s0]
    simp only [List.append_assoc]
    rw [d0, c1, c0]
  · rw [e] at hl
    have hl : 5 ≤ l.length := hl
    have b0 := bebs_nb (l := l) (i := 0) (n := 1) (by omega)
    have b1 := bebs_nb (l := l) (i := 1) (n := 4) (by omega)
    rw [e, List.drop_zero] at b0
    have hB : pkBody (psP l) = bebs 1 5 ++ bebs 4 (nbI l 1 4) ++ l.drop 5 := by
      unfold pkBody psP
      simp [e, fmB, fmD, fmR, pkH]
    rw [hB, b0, b1]
    simp only [List.append_assoc]
    rw [c1, c0]
theorem nb_bebs4 {n : Int} (h0 : 0 ≤ n) (h1 : n ≤ 4294967295) : (be (bebs 4 n) : Int) = n := be_bebs12 h0 (by rw [show (256 : Int) ^ 4 = 4294967296 from rfl]; omega)
theorem nb_bebs1 {n : Int} (h0 : 0 ≤ n) (h1 : n ≤ 255) : (be (bebs 1 n) : Int) = n := be_bebs12 h0 (by rw [show (256 : Int) ^ 1 = 256 from rfl]; omega)
/-- A piece of joined bytes. -/
theorem nb_cut {A B C : List UInt8} {i n : Nat} (hA : A.length = i) (hB : B.length = n) : nbI (A ++ (B ++ C)) i n = (be B : Int) := by
  unfold nbI; rw [cutl A B C hA hB]
theorem body_gp {p : PK} (h : pkB p = true) : gpB (pkBody p) = true ∧ psP (pkBody p) = p := by
  have hf := pk_fit h
  obtain ⟨kd, ses, blk, id, rsn, dat⟩ := p
  simp only at hf
  obtain ⟨f1, f2, f3, f4, f5, f6⟩ := hf
  have hz : ∀ {x : Int}, win x 0 0 = true → x = 0 := fun hx => by have := win_iff.1 hx; omega
  rcases (show kd = 1 ∨ kd = 2 ∨ kd = 3 ∨ kd = 4 ∨ kd = 5 by omega) with rfl | rfl | rfl | rfl | rfl
  · have hB : pkBody ⟨1, ses, blk, id, rsn, dat⟩ = bebs 1 1 ++ (bebs 4 ses ++ (bebs 4 blk ++ (bebs 4 id ++ dat))) := by simp [pkBody, fmB, fmD, fmR]
    have h2 := h
    unfold pkB at h2
    simp only [Bool.and_eq_true] at h2
    obtain ⟨_, g1, g2, g3, g4⟩ := h2
    obtain rfl : rsn = 0 := hz g4
    have n0 : nbI (pkBody ⟨1, ses, blk, id, 0, dat⟩) 0 1 = 1 := by rw [hB]; exact (nb_cut (A := []) rfl (bebs_length _ _)).trans (nb_bebs1 (by omega) (by omega))
    have n1 : nbI (pkBody ⟨1, ses, blk, id, 0, dat⟩) 1 4 = ses := by rw [hB]; have e := nb_cut (A := bebs 1 1) (B := bebs 4 ses) (C := (bebs 4 blk ++ (bebs 4 id ++ dat))) (i := 1) (n := 4) (by simp [bebs_length]) (bebs_length _ _); (try simp only [List.append_assoc] at e); exact e.trans (nb_bebs4 (by omega) (by omega))
    have n2 : nbI (pkBody ⟨1, ses, blk, id, 0, dat⟩) 5 4 = blk := by rw [hB]; have e := nb_cut (A := bebs 1 1 ++ bebs 4 ses) (B := bebs 4 blk) (C := (bebs 4 id ++ dat)) (i := 5) (n := 4) (by simp [bebs_length]) (bebs_length _ _); (try simp only [List.append_assoc] at e); exact e.trans (nb_bebs4 (by omega) (by omega))
    have n3 : nbI (pkBody ⟨1, ses, blk, id, 0, dat⟩) 9 4 = id := by rw [hB]; have e := nb_cut (A := bebs 1 1 ++ bebs 4 ses ++ bebs 4 blk) (B := bebs 4 id) (C := dat) (i := 9) (n := 4) (by simp [bebs_length]) (bebs_length _ _); (try simp only [List.append_assoc] at e); exact e.trans (nb_bebs4 (by omega) (by omega))
    have hd : (pkBody ⟨1, ses, blk, id, 0, dat⟩).drop 13 = dat := by rw [hB]; have e : bebs 1 1 ++ (bebs 4 ses ++ (bebs 4 blk ++ (bebs 4 id ++ dat))) = (bebs 1 1 ++ bebs 4 ses ++ bebs 4 blk ++ bebs 4 id) ++ dat := (by simp only [List.append_assoc]); rw [e]; exact List.drop_left' (by simp [bebs_length])
    have hlen : 13 ≤ (pkBody ⟨1, ses, blk, id, 0, dat⟩).length := by rw [hB]; simp [bebs_length]; try omega
    have hP : psP (pkBody ⟨1, ses, blk, id, 0, dat⟩) = ⟨1, ses, blk, id, 0, dat⟩ := by
      unfold psP
      rw [n0, n1, n2, n3]
      simp [fmB, fmD, fmR, pkH, hd]
    refine ⟨?_, hP⟩
    unfold gpB
    rw [hP, h, n0]
    simp [pkH, hlen]
  · have hB : pkBody ⟨2, ses, blk, id, rsn, dat⟩ = bebs 1 2 ++ (bebs 4 ses ++ (bebs 4 blk ++ dat)) := by simp [pkBody, fmB, fmD, fmR]
    have h2 := h
    unfold pkB at h2
    simp only [Bool.and_eq_true] at h2
    obtain ⟨_, g1, g2, g3, g4⟩ := h2
    obtain rfl : id = 0 := hz g2
    obtain rfl : rsn = 0 := hz g4
    have n0 : nbI (pkBody ⟨2, ses, blk, 0, 0, dat⟩) 0 1 = 2 := by rw [hB]; exact (nb_cut (A := []) rfl (bebs_length _ _)).trans (nb_bebs1 (by omega) (by omega))
    have n1 : nbI (pkBody ⟨2, ses, blk, 0, 0, dat⟩) 1 4 = ses := by rw [hB]; have e := nb_cut (A := bebs 1 2) (B := bebs 4 ses) (C := (bebs 4 blk ++ dat)) (i := 1) (n := 4) (by simp [bebs_length]) (bebs_length _ _); (try simp only [List.append_assoc] at e); exact e.trans (nb_bebs4 (by omega) (by omega))
    have n2 : nbI (pkBody ⟨2, ses, blk, 0, 0, dat⟩) 5 4 = blk := by rw [hB]; have e := nb_cut (A := bebs 1 2 ++ bebs 4 ses) (B := bebs 4 blk) (C := dat) (i := 5) (n := 4) (by simp [bebs_length]) (bebs_length _ _); (try simp only [List.append_assoc] at e); exact e.trans (nb_bebs4 (by omega) (by omega))
    have hd : (pkBody ⟨2, ses, blk, 0, 0, dat⟩).drop 9 = dat := by rw [hB]; have e : bebs 1 2 ++ (bebs 4 ses ++ (bebs 4 blk ++ dat)) = (bebs 1 2 ++ bebs 4 ses ++ bebs 4 blk) ++ dat := (by simp only [List.append_assoc]); rw [e]; exact List.drop_left' (by simp [bebs_length])
    have hlen : 9 ≤ (pkBody ⟨2, ses, blk, 0, 0, dat⟩).length := by rw [hB]; simp [bebs_length]; try omega
    have hP : psP (pkBody ⟨2, ses, blk, 0, 0, dat⟩) = ⟨2, ses, blk, 0, 0, dat⟩ := by
      unfold psP
      rw [n0, n1, n2]
      simp [fmB, fmD, fmR, pkH, hd]
    refine ⟨?_, hP⟩
    unfold gpB
    rw [hP, h, n0]
    simp [pkH, hlen]
  · have hB : pkBody ⟨3, ses, blk, id, rsn, dat⟩ = bebs 1 3 ++ (bebs 4 ses ++ dat) := by simp [pkBody, fmB, fmD, fmR]
    have h2 := h
    unfold pkB at h2
    simp only [Bool.and_eq_true] at h2
    obtain ⟨_, g1, g2, g3, g4⟩ := h2
    obtain rfl : blk = 0 := hz g1
    obtain rfl : id = 0 := hz g2
    obtain rfl : rsn = 0 := hz g4
    have n0 : nbI (pkBody ⟨3, ses, 0, 0, 0, dat⟩) 0 1 = 3 := by rw [hB]; exact (nb_cut (A := []) rfl (bebs_length _ _)).trans (nb_bebs1 (by omega) (by omega))
    have n1 : nbI (pkBody ⟨3, ses, 0, 0, 0, dat⟩) 1 4 = ses := by rw [hB]; have e := nb_cut (A := bebs 1 3) (B := bebs 4 ses) (C := dat) (i := 1) (n := 4) (by simp [bebs_length]) (bebs_length _ _); (try simp only [List.append_assoc] at e); exact e.trans (nb_bebs4 (by omega) (by omega))
    have hd : (pkBody ⟨3, ses, 0, 0, 0, dat⟩).drop 5 = dat := by rw [hB]; have e : bebs 1 3 ++ (bebs 4 ses ++ dat) = (bebs 1 3 ++ bebs 4 ses) ++ dat := (by simp only [List.append_assoc]); rw [e]; exact List.drop_left' (by simp [bebs_length])
    have hlen : 5 ≤ (pkBody ⟨3, ses, 0, 0, 0, dat⟩).length := by rw [hB]; simp [bebs_length]; try omega
    have hP : psP (pkBody ⟨3, ses, 0, 0, 0, dat⟩) = ⟨3, ses, 0, 0, 0, dat⟩ := by
      unfold psP
      rw [n0, n1]
      simp [fmB, fmD, fmR, pkH, hd]
    refine ⟨?_, hP⟩
    unfold gpB
    rw [hP, h, n0]
    simp [pkH, hlen]
  · have hB : pkBody ⟨4, ses, blk, id, rsn, dat⟩ = bebs 1 4 ++ (bebs 4 ses ++ (bebs 1 rsn ++ dat)) := by simp [pkBody, fmB, fmD, fmR]
    have h2 := h
    unfold pkB at h2
    simp only [Bool.and_eq_true] at h2
    obtain ⟨_, g1, g2, g3, g4⟩ := h2
    obtain rfl : blk = 0 := hz g1
    obtain rfl : id = 0 := hz g2
    have n0 : nbI (pkBody ⟨4, ses, 0, 0, rsn, dat⟩) 0 1 = 4 := by rw [hB]; exact (nb_cut (A := []) rfl (bebs_length _ _)).trans (nb_bebs1 (by omega) (by omega))
    have n1 : nbI (pkBody ⟨4, ses, 0, 0, rsn, dat⟩) 1 4 = ses := by rw [hB]; have e := nb_cut (A := bebs 1 4) (B := bebs 4 ses) (C := (bebs 1 rsn ++ dat)) (i := 1) (n := 4) (by simp [bebs_length]) (bebs_length _ _); (try simp only [List.append_assoc] at e); exact e.trans (nb_bebs4 (by omega) (by omega))
    have n2 : nbI (pkBody ⟨4, ses, 0, 0, rsn, dat⟩) 5 1 = rsn := by rw [hB]; have e := nb_cut (A := bebs 1 4 ++ bebs 4 ses) (B := bebs 1 rsn) (C := dat) (i := 5) (n := 1) (by simp [bebs_length]) (bebs_length _ _); (try simp only [List.append_assoc] at e); exact e.trans (nb_bebs1 (by omega) (by omega))
    have hd : (pkBody ⟨4, ses, 0, 0, rsn, dat⟩).drop 6 = dat := by rw [hB]; have e : bebs 1 4 ++ (bebs 4 ses ++ (bebs 1 rsn ++ dat)) = (bebs 1 4 ++ bebs 4 ses ++ bebs 1 rsn) ++ dat := (by simp only [List.append_assoc]); rw [e]; exact List.drop_left' (by simp [bebs_length])
    have hlen : 6 ≤ (pkBody ⟨4, ses, 0, 0, rsn, dat⟩).length := by rw [hB]; simp [bebs_length]; try omega
    have hP : psP (pkBody ⟨4, ses, 0, 0, rsn, dat⟩) = ⟨4, ses, 0, 0, rsn, dat⟩ := by
      unfold psP
      rw [n0, n1, n2]
      simp [fmB, fmD, fmR, pkH, hd]
    refine ⟨?_, hP⟩
    unfold gpB
    rw [hP, h, n0]
    simp [pkH, hlen]
  · have hB : pkBody ⟨5, ses, blk, id, rsn, dat⟩ = bebs 1 5 ++ (bebs 4 ses ++ dat) := by simp [pkBody, fmB, fmD, fmR]
    have h2 := h
    unfold pkB at h2
    simp only [Bool.and_eq_true] at h2
    obtain ⟨_, g1, g2, g3, g4⟩ := h2
    obtain rfl : blk = 0 := hz g1
    obtain rfl : id = 0 := hz g2
    obtain rfl : rsn = 0 := hz g4
    have n0 : nbI (pkBody ⟨5, ses, 0, 0, 0, dat⟩) 0 1 = 5 := by rw [hB]; exact (nb_cut (A := []) rfl (bebs_length _ _)).trans (nb_bebs1 (by omega) (by omega))
    have n1 : nbI (pkBody ⟨5, ses, 0, 0, 0, dat⟩) 1 4 = ses := by rw [hB]; have e := nb_cut (A := bebs 1 5) (B := bebs 4 ses) (C := dat) (i := 1) (n := 4) (by simp [bebs_length]) (bebs_length _ _); (try simp only [List.append_assoc] at e); exact e.trans (nb_bebs4 (by omega) (by omega))
    have hd : (pkBody ⟨5, ses, 0, 0, 0, dat⟩).drop 5 = dat := by rw [hB]; have e : bebs 1 5 ++ (bebs 4 ses ++ dat) = (bebs 1 5 ++ bebs 4 ses) ++ dat := (by simp only [List.append_assoc]); rw [e]; exact List.drop_left' (by simp [bebs_length])
    have hlen : 5 ≤ (pkBody ⟨5, ses, 0, 0, 0, dat⟩).length := by rw [hB]; simp [bebs_length]; try omega
    have hP : psP (pkBody ⟨5, ses, 0, 0, 0, dat⟩) = ⟨5, ses, 0, 0, 0, dat⟩ := by
      unfold psP
      rw [n0, n1]
      simp [fmB, fmD, fmR, pkH, hd]
    refine ⟨?_, hP⟩
    unfold gpB
    rw [hP, h, n0]
    simp [pkH, hlen]
end Go.Proofs.Ytpfamjgdfcnieaa
