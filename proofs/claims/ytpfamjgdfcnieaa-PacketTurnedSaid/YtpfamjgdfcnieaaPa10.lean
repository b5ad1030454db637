/- Chapter 10, plain: what a reader and a writer of bytes come to; slices cut out of slices. -/
import Derived.Test.YtpfamjgdfcnieaaB14
namespace Go.Proofs.Ytpfamjgdfcnieaa
open Go.RowKit
set_option linter.unusedVariables false
/-- A number out of bytes, the greatest first. -/
def be (l : List UInt8) : Nat := l.foldl (fun n b => 256 * n + b.toNat) 0
theorem be_nil : be [] = 0 := rfl
theorem be_snoc (l : List UInt8) (b : UInt8) : be (l ++ [b]) = 256 * be l + b.toNat := by simp [be]
theorem be_lt : ∀ (n : Nat) (l : List UInt8), l.length = n → be l < 256 ^ n
  | 0, l, h => by
    have : l = [] := List.eq_nil_of_length_eq_zero h
    subst this; simp [be]
  | n + 1, l, h => by
    obtain ⟨l', b, rfl⟩ : ∃ l' b, l = l' ++ [b] := by
      have hne : l ≠ [] := by intro e; subst e; simp at h
      exact ⟨l.dropLast, l.getLast hne, (List.dropLast_concat_getLast hne).symm⟩
    have h' : l'.length = n := by simpa using h
    have := be_lt n l' h'
    have := b.toNat_lt
    rw [be_snoc, Nat.pow_succ]
    omega
theorem be_take_succ {l : List UInt8} {k : Nat} (h : k < l.length) : be (l.take (k + 1)) = 256 * be (l.take k) + l[k].toNat := by
  rw [List.take_succ_eq_append_getElem h, be_snoc]
/-- Which widths there are. -/
def wid (n : Int) : Bool := n == 1 || n == 2 || n == 4 || n == 8
theorem wid_iff (n : Int) : wid n = true ↔ n = 1 ∨ n = 2 ∨ n = 4 ∨ n = 8 := by simp [wid, or_assoc]
/-- A reader: its bytes, its place, its first fault. -/
structure RS where
  l : List UInt8
  p : Nat
  e : Int
  f : Int
def RS.take (s : RS) (n : Int) (may : Bool) : List UInt8 × RS :=
  if s.e ≠ 0 then ([], s)
  else if may = false ∨ n < 0 then ([], ⟨s.l, s.p, 2, s.p⟩)
  else if (s.l.length : Int) - s.p < n then ([], ⟨s.l, s.p, 7, s.l.length⟩)
  else ((s.l.drop s.p).take n.toNat, ⟨s.l, s.p + n.toNat, s.e, s.f⟩)
theorem RS.take_e {s : RS} (h : s.e ≠ 0) (n : Int) (may : Bool) : s.take n may = ([], s) := by unfold RS.take; rw [if_pos h]
theorem RS.take_no {s : RS} (h : s.e = 0) {n : Int} {may : Bool} (hm : may = false ∨ n < 0) : s.take n may = ([], ⟨s.l, s.p, 2, s.p⟩) := by unfold RS.take; rw [if_neg (by simpa using h), if_pos hm]
theorem RS.take_short {s : RS} (h : s.e = 0) {n : Int} {may : Bool} (hm : ¬ (may = false ∨ n < 0)) (hn : (s.l.length : Int) - s.p < n) : s.take n may = ([], ⟨s.l, s.p, 7, s.l.length⟩) := by
  unfold RS.take; rw [if_neg (by simpa using h), if_neg hm, if_pos hn]
theorem RS.take_ok {s : RS} (h : s.e = 0) {n : Int} {may : Bool} (hm : ¬ (may = false ∨ n < 0)) (hn : ¬ (s.l.length : Int) - s.p < n) : s.take n may = ((s.l.drop s.p).take n.toNat, ⟨s.l, s.p + n.toNat, s.e, s.f⟩) := by
  unfold RS.take; rw [if_neg (by simpa using h), if_neg hm, if_neg hn]
theorem RS.take_l (s : RS) (n : Int) (may : Bool) : (s.take n may).2.l = s.l := by
  unfold RS.take
  split
  · rfl
  · split
    · rfl
    · split <;> rfl
theorem RS.take_len (s : RS) (n : Int) (may : Bool) : (s.take n may).1 = [] ∨ (may = true ∧ 0 ≤ n ∧ (s.take n may).1.length = n.toNat ∧ (s.take n may).2 = ⟨s.l, s.p + n.toNat, s.e, s.f⟩ ∧ (s.p + n.toNat ≤ s.l.length ∨ n = 0)) := by
  unfold RS.take
  split
  · exact .inl rfl
  · split
    · exact .inl rfl
    · rename_i h1 h2
      split
      · exact .inl rfl
      · rename_i h3
        simp only [not_or, Bool.not_eq_false, Int.not_lt] at h2 h3
        refine .inr ⟨h2.1, h2.2, ?_, rfl, ?_⟩
        · simp; omega
        · omega
theorem be_join (a : Nat) (b : UInt8) (h : a < 72057594037927936) : bits .or .u64 (IntKind.u64.wrap ((a : Int) * 256)) (b.toNat : Int) = ((256 * a + b.toNat : Nat) : Int) := by
  have hb := b.toNat_lt
  have e : IntKind.u64.wrap ((a : Int) * 256) = ((256 * a : Nat) : Int) := by rw [IntKind.wrap_u64]; omega
  rw [e, u64_or_nat _ _ (by omega) (by omega), nat_join 8 (256 * a) b.toNat (by omega) (by omega)]
def RS.get (s : RS) (wide : Int) : Int × RS :=
  if 9223372036854775808 ≤ be (s.take wide (wid wide)).1 then
    (0, ⟨(s.take wide (wid wide)).2.l, (s.take wide (wid wide)).2.p - wide.toNat, 3, (((s.take wide (wid wide)).2.p - wide.toNat : Nat) : Int)⟩)
  else ((be (s.take wide (wid wide)).1 : Int), (s.take wide (wid wide)).2)
def RS.rest (s : RS) : Int := if s.e ≠ 0 then 0 else (s.l.length : Int) - s.p
def RS.fin (s : RS) : Int × Int := if s.e = 0 ∧ s.p < s.l.length then (4, s.p) else (s.e, s.f)
/-- A writer: how many bytes there may be, its bytes, its error. -/
structure WS where
  m : Int
  b : List UInt8
  e : Int
def byt (n : Int) (i : Nat) : UInt8 := UInt8.ofNat ((n / 2 ^ (8 * i)) % 256).toNat
def bebs (wide : Nat) (n : Int) : List UInt8 := (List.range wide).map fun j => byt n (wide - 1 - j)
theorem bebs_length (wide : Nat) (n : Int) : (bebs wide n).length = wide := by simp [bebs]
theorem byt_toNat (n : Int) (i : Nat) : ((byt n i).toNat : Int) = (n / 2 ^ (8 * i)) % 256 := by
  unfold byt
  rw [UInt8.toNat_ofNat']
  have h1 : 0 ≤ (n / 2 ^ (8 * i)) % 256 := Int.emod_nonneg _ (by omega)
  have h2 : (n / 2 ^ (8 * i)) % 256 < 256 := Int.emod_lt_of_pos _ (by omega)
  omega
def WS.lay (s : WS) (l : List UInt8) : WS := if s.m < (s.b.length : Int) + l.length then ⟨s.m, s.b, 4⟩ else ⟨s.m, s.b ++ l, 0⟩
def WS.put (s : WS) (wide n : Int) : WS :=
  if s.e ≠ 0 then s
  else if wid wide = false then ⟨s.m, s.b, 2⟩
  else if n < 0 ∨ 0 < n / 2 ^ (8 * wide.toNat) then ⟨s.m, s.b, 3⟩
  else s.lay (bebs wide.toNat n)
def WS.raw (s : WS) (l : List UInt8) : WS := if s.e ≠ 0 then s else s.lay l
/-- What 's[i:j]' is. -/
theorem run_mid {P : Program} {t e : TypeId} {i : TypeInfo} (ht : P.underlying t = some (.slice e)) (hi : P.info? e = some i) (h1 : i.size = 1) (A : Option Addr) (n c lo hi' : Nat) (ki kj : IntKind) (y x : Int) (hy : y = lo) (hx : x = hi') (h12 : lo ≤ hi') (hc : hi' ≤ c) :
    ∃ A', (∀ w, (Instr.slice t (.slice A n c) (some (.int ki y)) (some (.int kj x)) none).run P w = .ok (.slice A' (hi' - lo) (c - lo)) w) ∧ (lo < hi' → A' = A.map (fun a => a.add lo)) := by
  subst hx hy
  refine ⟨if c = lo then A else A.map (·.add (lo * 1)), fun w => ?_, fun h => by rw [if_neg (by omega), Nat.mul_one]⟩
  have hb : (Instr.sliceBound (.int ki (lo : Int)) hi' .sliceB).run P w = .ok lo w := by
    rw [run_sliceBound _ ki lo hi' .sliceB (by omega) (by omega)]; simp
  have hb2 : (Instr.sliceBound (.int kj (hi' : Int)) c .sliceAcap).run P w = .ok hi' w := by
    rw [run_sliceBound _ kj hi' c .sliceAcap (by omega) (by omega)]; simp
  simp [Instr.slice, Instr.sliceBounds, run_underlying ht, sizeOf, typeInfo, hi, h1, hb, hb2]
theorem run_from {P : Program} {t e : TypeId} {i : TypeInfo} (ht : P.underlying t = some (.slice e)) (hi : P.info? e = some i) (h1 : i.size = 1) (A : Option Addr) (n c k : Nat) (kk : IntKind) (hk : k ≤ n) (hc : n ≤ c) :
    ∃ A', (∀ w, (Instr.slice t (.slice A n c) (some (.int kk k)) none none).run P w = .ok (.slice A' (n - k) (c - k)) w) ∧ (k < n → A' = A.map (fun a => a.add k)) := by
  refine ⟨if c = k then A else A.map (·.add (k * 1)), fun w => ?_, fun h => by rw [if_neg (by omega), Nat.mul_one]⟩
  have hb : (Instr.sliceBound (.int kk (k : Int)) n .sliceB).run P w = .ok k w := by
    rw [run_sliceBound _ kk k n .sliceB (by omega) (by omega)]; simp
  simp [Instr.slice, Instr.sliceBounds, run_underlying ht, sizeOf, typeInfo, hi, h1, hb]
theorem run_to {P : Program} {t e : TypeId} {i : TypeInfo} (ht : P.underlying t = some (.slice e)) (hi : P.info? e = some i) (h1 : i.size = 1) (A : Option Addr) (n c k : Nat) (kk : IntKind) (hk : k ≤ c) (w : World) :
    (Instr.slice t (.slice A n c) none (some (.int kk k)) none).run P w = .ok (.slice A k c) w := by
  have hb2 : (Instr.sliceBound (.int kk (k : Int)) c .sliceAcap).run P w = .ok k w := by
    rw [run_sliceBound _ kk k c .sliceAcap (by omega) (by omega)]; simp
  simp [Instr.slice, Instr.sliceBounds, run_underlying ht, sizeOf, typeInfo, hi, hb2]
  cases A <;> simp [Addr.add]
theorem Rd.mid {w : World} {A A' : Option Addr} {n lo m : Nat} {l : List UInt8} (h : Rd w A n (bys l)) (hm : lo + m ≤ n) (hA : 0 < m → A' = A.map (fun a => a.add lo)) : Rd w A' m (bys ((l.drop lo).take m)) := by
  have hl : l.length = n := by have := h.1; simpa [bys_length] using this
  rcases Nat.eq_zero_or_pos m with e | e
  · subst e; simp only [List.take_zero]; exact Rd.nil _ _
  · obtain ⟨b, off, rfl, hb, hc⟩ := h.form (by omega)
    have h1 := h.cut_at (k := lo) (by omega) (A' := A') (by
      intro _; rw [hA e]; simp [Addr.add])
    have h2 := h1.take_ (k := m) (by omega)
    rw [bys_drop, bys_take] at h2
    exact h2
theorem Chg.own_new {S : Nat → Prop} {w w' : World} (h : Chg S w w') {base : Nat} {e : TypeId} {size n : Nat} {v : Value} {xs : List Value} (ho : w.ownsRow base e size v n xs) (hS : ∀ k, S k → k < base) : w'.ownsRow base e size v n xs := by
  refine ⟨ho.1, ?_⟩
  rcases ho.2 with h2 | ⟨g, cap, cur, hv, hg, hh, r⟩
  · exact .inl h2
  · exact .inr ⟨g, cap, cur, hv, hg, (h.2 g (Array.getElem?_eq_some_iff.1 hh).1 fun hs => by have := hS g hs; omega).trans hh, r⟩
end Go.Proofs.Ytpfamjgdfcnieaa
