/- What was written is read: the plain law. -/
import Derived.Test.YtdepmogibhmdaaaTk10
namespace Go.Proofs.Ytdepmogibhmdaaa
open Go.RowKit
set_option linter.unusedVariables false
def encI (it : It) : List UInt8 := if it.raws then it.b else bebs it.wd.toNat it.n
def enc (its : List It) : List UInt8 := its.flatMap encI
theorem enc_snoc (its : List It) (it : It) : enc (its ++ [it]) = enc its ++ encI it := by simp [enc]
theorem enc_cons (it : It) (its : List It) : enc (it :: its) = encI it ++ enc its := by simp [enc]
theorem enc_take {its : List It} {k : Nat} (h : k < its.length) : enc (its.take (k + 1)) = enc (its.take k) ++ encI its[k] := by
  rw [List.take_succ_eq_append_getElem h, enc_snoc]
def okI (it : It) : Prop := it.raws = true ∨ (wid it.wd = true ∧ 0 ≤ it.n ∧ ¬ 0 < it.n / 2 ^ (8 * it.wd.toNat) ∧ it.n ≤ 9223372036854775807)
def wrS (s : WS) (it : It) : WS := if it.raws then s.raw it.b else s.put it.wd it.n
theorem lay_ok {s : WS} {l : List UInt8} (h : (s.lay l).e = 0) : s.lay l = ⟨s.m, s.b ++ l, 0⟩ := by
  unfold WS.lay at *
  split at h
  · simp at h
  · rename_i h1; rw [if_neg h1]
theorem wr_ok {s : WS} {it : It} (he : s.e = 0) (h63 : it.n ≤ 9223372036854775807) (h : (wrS s it).e = 0) : wrS s it = ⟨s.m, s.b ++ encI it, 0⟩ ∧ okI it := by
  unfold wrS encI okI at *
  cases hr : it.raws with
  | true =>
    rw [hr] at h
    simp only [if_true] at *
    unfold WS.raw at *
    rw [if_neg (by simpa using he)] at *
    exact ⟨lay_ok h, .inl trivial⟩
  | false =>
    rw [hr] at h
    simp only [Bool.false_eq_true, if_false] at *
    unfold WS.put at *
    rw [if_neg (by simpa using he)] at *
    by_cases hw : wid it.wd = false
    · rw [if_pos hw] at h; simp at h
    · rw [if_neg hw] at *
      by_cases hn : it.n < 0 ∨ 0 < it.n / 2 ^ (8 * it.wd.toNat)
      · rw [if_pos hn] at h; simp at h
      · rw [if_neg hn] at *
        exact ⟨lay_ok h, .inr ⟨by simpa using hw, by omega, by omega, h63⟩⟩
theorem byt_int (n : Int) (i : Nat) : ((byt n i).toNat : Int) = (n / 2 ^ (8 * i)) % 256 := byt_toNat n i
theorem be_bebs {wd : Nat} {n : Int} (hw : wd = 1 ∨ wd = 2 ∨ wd = 4 ∨ wd = 8) (h0 : 0 ≤ n) (h1 : ¬ 0 < n / 2 ^ (8 * wd)) (h2 : n ≤ 9223372036854775807) : (be (bebs wd n) : Int) = n := by
  have e0 := byt_int n 0
  have e1 := byt_int n 1
  have e2 := byt_int n 2
  have e3 := byt_int n 3
  have e4 := byt_int n 4
  have e5 := byt_int n 5
  have e6 := byt_int n 6
  have e7 := byt_int n 7
  simp only [Nat.mul_zero, Int.pow_zero, Int.ediv_one, Nat.mul_one, Nat.reduceMul, Int.reducePow] at e0 e1 e2 e3 e4 e5 e6 e7
  rcases hw with rfl | rfl | rfl | rfl
  · simp only [Nat.reduceMul, Int.reducePow] at h1
    rw [show bebs 1 n = [byt n 0] from rfl]
    simp only [be, List.foldl]
    omega
  · simp only [Nat.reduceMul, Int.reducePow] at h1
    rw [show bebs 2 n = [byt n 1, byt n 0] from rfl]
    simp only [be, List.foldl]
    omega
  · simp only [Nat.reduceMul, Int.reducePow] at h1
    rw [show bebs 4 n = [byt n 3, byt n 2, byt n 1, byt n 0] from rfl]
    simp only [be, List.foldl]
    omega
  · simp only [Nat.reduceMul, Int.reducePow] at h1
    rw [show bebs 8 n = [byt n 7, byt n 6, byt n 5, byt n 4, byt n 3, byt n 2, byt n 1, byt n 0] from rfl]
    simp only [be, List.foldl]
    omega
theorem okI_wd {it : It} (h : okI it) (hr : it.raws = false) : ∃ wd : Nat, it.wd = (wd : Int) ∧ (wd = 1 ∨ wd = 2 ∨ wd = 4 ∨ wd = 8) ∧ (be (bebs wd it.n) : Int) = it.n ∧ it.n ≤ 9223372036854775807 ∧ encI it = bebs wd it.n := by
  rcases h with h | ⟨h1, h2, h3, h4⟩
  · rw [hr] at h; cases h
  · have hw := (wid_iff it.wd).1 h1
    refine ⟨it.wd.toNat, by omega, by omega, be_bebs (by omega) h2 h3 h4, h4, ?_⟩
    unfold encI; rw [hr]; rfl
theorem read_ok {L rest : List UInt8} {p : Nat} {it : It} (ho : okI it) (hp : p ≤ L.length) (h : L.drop p = encI it ++ rest) : tkB ⟨L, p, 0, 0⟩ it = true ∧ tkR ⟨L, p, 0, 0⟩ it = ⟨L, p + (encI it).length, 0, 0⟩ := by
  have hlen : L.length - p = (encI it).length + rest.length := by
    have := congrArg List.length h
    simpa using this
  cases hr : it.raws with
  | true =>
    have he : encI it = it.b := by unfold encI; rw [hr]; rfl
    rw [he] at h hlen ⊢
    have ht : (⟨L, p, 0, 0⟩ : RS).take (it.b.length : Int) true = (it.b, ⟨L, p + it.b.length, 0, 0⟩) := by
      rw [RS.take_ok rfl (by simp) (by show ¬ (L.length : Int) - p < it.b.length; omega)]
      show ((L.drop p).take _, _) = _
      rw [h, Int.toNat_natCast, List.take_left]
    unfold tkB tkR
    rw [hr, if_pos rfl, if_pos rfl, ht]
    exact ⟨by simp, rfl⟩
  | false =>
    obtain ⟨wd, hwd, hw4, hbe, h63, he⟩ := okI_wd ho hr
    rw [he, bebs_length] at hlen
    rw [he] at h ⊢
    have hwid : wid (wd : Int) = true := by rw [wid_iff]; omega
    have ht : (⟨L, p, 0, 0⟩ : RS).take (wd : Int) (wid (wd : Int)) = (bebs wd it.n, ⟨L, p + wd, 0, 0⟩) := by
      rw [RS.take_ok rfl (by rw [hwid]; simp) (by show ¬ (L.length : Int) - p < wd; omega)]
      show ((L.drop p).take _, _) = _
      rw [h, Int.toNat_natCast]
      congr 1
      exact List.take_left' (bebs_length _ _)
    have hg : (⟨L, p, 0, 0⟩ : RS).get (wd : Int) = (it.n, ⟨L, p + wd, 0, 0⟩) := by
      unfold RS.get
      rw [ht, if_neg (by show ¬ 9223372036854775808 ≤ be (bebs wd it.n); omega)]
      show ((be (bebs wd it.n) : Int), _) = _
      rw [hbe]
    unfold tkB tkR
    rw [hr, hwd, bebs_length]
    simp only [Bool.false_eq_true, if_false, hg]
    exact ⟨by simp, trivial⟩
theorem read_err {s : RS} (h : s.e ≠ 0) (it : It) : tkR s it = s := by
  obtain ⟨l, p, e, f⟩ := s
  unfold tkR
  split
  · rw [RS.take_e h]
  · unfold RS.get
    rw [RS.take_e h, if_neg (by simp [be])]
theorem read_errs {s : RS} (h : s.e ≠ 0) : ∀ its : List It, tkA s its = s
  | [] => rfl
  | it :: its => by
    show tkA (tkR s it) its = s
    rw [read_err h, read_errs h its]
theorem read_short {L : List UInt8} {p : Nat} {it : It} (ho : okI it) (hp : p ≤ L.length) (h : L.length - p < (encI it).length) : tkR ⟨L, p, 0, 0⟩ it = ⟨L, p, 7, L.length⟩ := by
  cases hr : it.raws with
  | true =>
    have he : encI it = it.b := by unfold encI; rw [hr]; rfl
    rw [he] at h
    unfold tkR
    rw [hr, if_pos rfl, RS.take_short rfl (by simp) (by show (L.length : Int) - p < it.b.length; omega)]
  | false =>
    obtain ⟨wd, hwd, hw4, hbe, h63, he⟩ := okI_wd ho hr
    rw [he, bebs_length] at h
    have hwid : wid (wd : Int) = true := by rw [wid_iff]; omega
    unfold tkR
    rw [hr, hwd]
    simp only [Bool.false_eq_true, if_false]
    unfold RS.get
    rw [RS.take_short rfl (by rw [hwid]; simp) (by show (L.length : Int) - p < wd; omega), if_neg (by simp [be])]
theorem read_all : ∀ {its : List It} {L rest : List UInt8} {p : Nat}, (∀ it ∈ its, okI it) → p ≤ L.length → L.drop p = enc its ++ rest → tkV ⟨L, p, 0, 0⟩ its = true ∧ tkA ⟨L, p, 0, 0⟩ its = ⟨L, p + (enc its).length, 0, 0⟩
  | [], L, rest, p, _, _, _ => ⟨rfl, by simp [tkA, enc]⟩
  | it :: its, L, rest, p, ho, hp, h => by
    rw [enc_cons, List.append_assoc] at h
    obtain ⟨h1, h2⟩ := read_ok (ho it (List.mem_cons_self ..)) hp h
    have hlen : L.length - p = (encI it).length + ((enc its).length + rest.length) := by
      have := congrArg List.length h
      simpa using this
    have hd : L.drop (p + (encI it).length) = enc its ++ rest := by
      rw [← List.drop_drop, h, List.drop_left]
    obtain ⟨h3, h4⟩ := read_all (fun x hx => ho x (List.mem_cons_of_mem _ hx)) (by omega) hd
    refine ⟨?_, ?_⟩
    · show (tkB _ it && tkV (tkR _ it) its) = true
      rw [h1, h2, h3]; rfl
    · show tkA (tkR _ it) its = _
      rw [h2, h4, enc_cons, List.length_append, Nat.add_assoc]
theorem read_cut : ∀ {its : List It} {L : List UInt8} {p : Nat}, (∀ it ∈ its, okI it) → p ≤ L.length → L.length - p < (enc its).length → L.drop p = (enc its).take (L.length - p) → ∃ q, tkA ⟨L, p, 0, 0⟩ its = ⟨L, q, 7, L.length⟩
  | [], L, p, _, _, h, _ => by simp [enc] at h
  | it :: its, L, p, ho, hp, h, hd => by
    rw [enc_cons] at h hd
    show ∃ q, tkA (tkR _ it) its = _
    rcases Nat.lt_or_ge (L.length - p) (encI it).length with h1 | h1
    · rw [read_short (ho it (List.mem_cons_self ..)) hp h1]
      exact ⟨p, read_errs (by show (7 : Int) ≠ 0; omega) its⟩
    · have hd2 : L.drop p = encI it ++ (enc its).take (L.length - p - (encI it).length) := by
        rw [hd, List.take_append, List.take_of_length_le h1]
      rw [(read_ok (ho it (List.mem_cons_self ..)) hp hd2).2]
      rw [List.length_append] at h
      refine read_cut (fun x hx => ho x (List.mem_cons_of_mem _ hx)) (by omega) (by omega) ?_
      rw [← List.drop_drop, hd2, List.drop_left]
      congr 1
      omega
end Go.Proofs.Ytdepmogibhmdaaa
