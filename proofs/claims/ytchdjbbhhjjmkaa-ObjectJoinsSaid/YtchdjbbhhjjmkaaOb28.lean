/- Chapter 28: what Symbols, Part, Join and Turn tell (plain). -/
import Derived.Test.YtchdjbbhhjjmkaaBb18
import Derived.Test.YtchdjbbhhjjmkaaMe12
import Derived.Test.YtchdjbbhhjjmkaaPa10
import Derived.Test.YtchdjbbhhjjmkaaBo28
namespace Go.Proofs.Ytchdjbbhhjjmkaa
open Go.RowKit
set_option linter.unusedVariables false
theorem wf_i64 {n : Int} (h : -9223372036854775808 ≤ n ∧ n ≤ 9223372036854775807) : (Lit.int .i64 n).wf = true := by
  simp [Lit.wf, IntKind.min, IntKind.max, IntKind.signed, IntKind.bits]
  omega
section
variable {m : MF} {b : Int}
theorem prE_zero (h : prE m b = 0) : mfB m = true ∧ 0 ≤ b ∧ b < mfN m := by
  cases hq : mfB m with
  | false => exact absurd (((prt_eq m b).1 hq).2.2.trans h) (by decide)
  | true =>
    refine ⟨rfl, ?_⟩
    by_cases h2 : 0 ≤ b ∧ b < mfN m
    · exact h2
    · exact absurd ((((prt_eq m b).2 hq).1 h2).2.2.trans h) (by decide)
theorem prE_of (h : mfB m = true) (hb : 0 ≤ b ∧ b < mfN m) : prE m b = 0 := ((((prt_eq m b).2 h).2 hb).2.2).symm
theorem prE_no (h : prE m b ≠ 0) : prF m b = 0 ∧ prS m b = 0 ∧ (prE m b = 2 ∨ prE m b = 3) := by
  cases hq : mfB m with
  | false =>
    obtain ⟨h1, h2, h3⟩ := (prt_eq m b).1 hq
    exact ⟨h1.symm, h2.symm, .inl h3.symm⟩
  | true =>
    by_cases h2 : 0 ≤ b ∧ b < mfN m
    · exact absurd (prE_of hq h2) h
    · obtain ⟨h1, h2, h3⟩ := ((prt_eq m b).2 hq).1 h2
      exact ⟨h1.symm, h2.symm, .inr h3.symm⟩
theorem mf_ks (h : mfB m = true) : (1 ≤ m.k ∧ m.k ≤ 65536) ∧ (1 ≤ m.s ∧ m.s ≤ 65535) ∧ 0 ≤ m.z ∧ m.z ≤ 4294967295 := by
  have := mfB_iff.1 h; omega
theorem pr_fit (h : prE m b = 0) : ∃ f s : Nat, prF m b = f ∧ prS m b = s ∧ (f : Int) + s ≤ m.z ∧ (s : Int) ≤ m.k * m.s ∧ 0 < s ∧ f + s ≤ 4294967295 := by
  obtain ⟨h1, h2⟩ := prE_zero h
  obtain ⟨e1, e2, _⟩ := ((prt_eq m b).2 h1).2 h2
  have hf := mf_full h1
  have hr := prF_range h1 h2
  have hz := mf_ks h1
  rw [← e1, ← e2]
  generalize m.k * m.s = f at *
  generalize b * f = x at *
  refine ⟨x.toNat, (min f (m.z - x)).toNat, ?_, ?_, ?_, ?_, ?_, ?_⟩ <;> omega
end
def syE (m : MF) (data : List UInt8) (b : Int) : Int := if mfB m = true ∧ (data.length : Int) = m.z then prE m b else 2
def syP (m : MF) (data : List UInt8) (b : Int) : List UInt8 := (data.drop (prF m b).toNat).take (prS m b).toNat
def syV (m : MF) (data : List UInt8) (b : Int) : List (List UInt8) := if syE m data b = 0 then cutL (syP m data b) m.k.toNat m.s.toNat else []
theorem sy_no {m : MF} {data : List UInt8} {b E : Int} (h : syE m data b = E) (hE : E ≠ 0) : syV m data b = [] := by unfold syV; rw [h, if_neg hE]
theorem cut_part {m : MF} {part : List UInt8} (h : mfB m = true) (hp : (part.length : Int) ≤ m.k * m.s) : cutE part m.k m.s = 0 ∧ cutV part m.k m.s = cutL part m.k.toNat m.s.toNat := by
  have hk := mf_ks h
  obtain ⟨K, hK⟩ : ∃ K : Nat, m.k = K := ⟨m.k.toNat, by omega⟩
  obtain ⟨Z, hZ⟩ : ∃ Z : Nat, m.s = Z := ⟨m.s.toNat, by omega⟩
  rw [hK, hZ] at hp ⊢
  exact cut_ok (by omega) (by omega) (by omega) (by omega) (by rw [← Int.natCast_mul] at hp; omega)
theorem sy_part {m : MF} {data : List UInt8} {b : Int} (h : prE m b = 0) (hl : (data.length : Int) = m.z) : ∃ f s : Nat, prF m b = f ∧ prS m b = s ∧ f + s ≤ data.length ∧ data.length ≤ 4294967295 ∧ 0 < s ∧ syP m data b = (data.drop f).take s ∧ (syP m data b).length = s ∧ cutE (syP m data b) m.k m.s = 0 ∧ cutV (syP m data b) m.k m.s = cutL (syP m data b) m.k.toNat m.s.toNat := by
  obtain ⟨f, s, h1, h2, h3, h4, h5, h6⟩ := pr_fit h
  have hz := mf_ks (prE_zero h).1
  have hp : syP m data b = (data.drop f).take s := by unfold syP; rw [h1, h2]; rfl
  have hsl : (syP m data b).length = s := by rw [hp]; simp; omega
  exact ⟨f, s, h1, h2, by omega, by omega, h5, hp, hsl, cut_part (prE_zero h).1 (by rw [hsl]; exact h4)⟩
theorem sy_ok {m : MF} {data : List UInt8} {b : Int} (h : prE m b = 0) (hl : (data.length : Int) = m.z) : syE m data b = 0 ∧ syV m data b = cutV (syP m data b) m.k m.s ∧ cutE (syP m data b) m.k m.s = 0 := by
  have hE : syE m data b = 0 := by unfold syE; rw [if_pos ⟨(prE_zero h).1, hl⟩]; exact h
  obtain ⟨f, s, h1, h2, h3, h4, h5, h6, h7, h8, h9⟩ := sy_part h hl
  exact ⟨hE, by unfold syV; rw [if_pos hE, h9], h8⟩
/-- Part. -/
def ptO (m : MF) (xss : List (List UInt8)) : Bool := bkB xss && (decide ((xss.length : Int) = m.k) && decide (((xss.getD 0 []).length : Int) = m.s))
def ptE (m : MF) (b : Int) (xss : List (List UInt8)) : Int := if prE m b = 0 then (if ptO m xss = true then 0 else 2) else prE m b
def ptV (m : MF) (b : Int) (xss : List (List UInt8)) : List UInt8 := if ptE m b xss = 0 then xss.flatten.take (prS m b).toNat else []
theorem pt_no {m : MF} {b E : Int} {xss : List (List UInt8)} (h : ptE m b xss = E) (hE : E ≠ 0) : ptV m b xss = [] := by unfold ptV; rw [h, if_neg hE]
theorem ptO_iff {m : MF} {xss : List (List UInt8)} : ptO m xss = true ↔ bkB xss = true ∧ (xss.length : Int) = m.k ∧ ((xss.getD 0 []).length : Int) = m.s := by
  unfold ptO; simp only [Bool.and_eq_true, decide_eq_true_eq]
theorem pt_ok {m : MF} {b : Int} {xss : List (List UInt8)} (h : prE m b = 0) (ho : ptO m xss = true) : ptE m b xss = 0 ∧ jnE xss (prS m b) = 0 ∧ ptV m b xss = jnV xss (prS m b) := by
  obtain ⟨h1, h2, h3⟩ := ptO_iff.1 ho
  obtain ⟨f, s, e1, e2, e3, e4, e5, e6⟩ := pr_fit h
  have hE : ptE m b xss = 0 := by unfold ptE; rw [if_pos h, if_pos ho]
  have hJ : jnE xss (prS m b) = 0 := by
    unfold jnE
    rw [h1, if_pos rfl, if_neg (by omega), if_neg]
    rw [e2, Int.natCast_mul, h2, h3]
    omega
  exact ⟨hE, hJ, by unfold ptV jnV; rw [if_pos hE, if_pos hJ]⟩
theorem pt_bad {m : MF} {b : Int} {xss : List (List UInt8)} (h : prE m b = 0) (ho : ptO m xss = false) : ptE m b xss = 2 := by
  unfold ptE; rw [if_pos h, if_neg (by rw [ho]; decide)]
/-- Join. -/
def fitB (m : MF) (l : List (List UInt8)) (k : Nat) : Bool := (List.range k).all fun i => decide (((l.getD i []).length : Int) = prS m i)
theorem fitB_succ (m : MF) (l : List (List UInt8)) (k : Nat) : fitB m l (k + 1) = (fitB m l k && decide (((l.getD k []).length : Int) = prS m k)) := by
  unfold fitB; rw [List.range_succ, List.all_append]; simp
theorem fitB_of {m : MF} {l : List (List UInt8)} {k n : Nat} (hk : k < n) (h : ¬ ((l.getD k []).length : Int) = prS m k) : fitB m l n = false := by
  unfold fitB
  rw [List.all_eq_false]
  exact ⟨k, List.mem_range.2 hk, by simpa using h⟩
def jyE (m : MF) (l : List (List UInt8)) : Int := if mfB m = true ∧ (l.length : Int) = mfN m ∧ fitB m l l.length = true then 0 else 2
def jyV (m : MF) (l : List (List UInt8)) : List UInt8 := if jyE m l = 0 then l.flatten else []
theorem jy_no {m : MF} {l : List (List UInt8)} {E : Int} (h : jyE m l = E) (hE : E ≠ 0) : jyV m l = [] := by unfold jyV; rw [h, if_neg hE]
/-- Turn. -/
def tnL (n : Nat) (last : Int) : Int := if last < 0 ∨ (n : Int) ≤ last then n - 1 else last
def tnP (n : Nat) (last : Int) (i : Nat) : Nat := ((tnL n last).toNat + 1 + i) % n
def tnF (l : List Bool) (last : Int) : Option Nat := (List.range l.length).find? fun i => !(l.getD (tnP l.length last i) true)
def tnA (l : List Bool) (last : Int) : Nat := match tnF l last with | some i => tnP l.length last i | none => 0
def tnB (l : List Bool) (last : Int) : Bool := (tnF l last).isSome
theorem tnL_range {n : Nat} {last : Int} (h : 0 < n) : 0 ≤ tnL n last ∧ tnL n last < n := by unfold tnL; split <;> omega
theorem tnP_lt {n : Nat} {last : Int} {i : Nat} (h : 0 < n) : tnP n last i < n := Nat.mod_lt _ h
theorem tn_some {l : List Bool} {last : Int} {k : Nat} (hk : k < l.length) (h0 : ∀ i, i < k → l.getD (tnP l.length last i) true = true) (h1 : l.getD (tnP l.length last k) true = false) : tnA l last = tnP l.length last k ∧ tnB l last = true := by
  have : tnF l last = some k := by
    unfold tnF
    rw [List.find?_range_eq_some]
    refine ⟨by rw [h1]; rfl, List.mem_range.2 hk, fun j hj => by rw [h0 j hj]; rfl⟩
  unfold tnA tnB
  rw [this]
  exact ⟨rfl, rfl⟩
theorem tn_none {l : List Bool} {last : Int} (h0 : ∀ i, i < l.length → l.getD (tnP l.length last i) true = true) : tnA l last = 0 ∧ tnB l last = false := by
  have : tnF l last = none := by
    unfold tnF
    rw [List.find?_eq_none]
    intro i hi
    rw [h0 i (List.mem_range.1 hi)]; decide
  unfold tnA tnB
  rw [this]
  exact ⟨rfl, rfl⟩
end Go.Proofs.Ytchdjbbhhjjmkaa
