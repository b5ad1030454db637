/- Chapter 21: PeelTrue's walk. -/
import Derived.Test.YtidoembkcaojoaaWo21
import Derived.Test.YtidoembkcaojoaaKn21
namespace Go.Proofs.Ytidoembkcaojoaa
open Go.RowKit
set_option linter.unusedVariables false
def idsTo (j : Nat) : List Int := (List.range j).map fun i : Nat => (i : Int)
theorem idsTo_succ (j : Nat) : idsTo (j + 1) = idsTo j ++ [(j : Int)] := by unfold idsTo; rw [List.range_succ, List.map_append]; rfl
theorem not_idsTo (j : Nat) : ¬ (j : Int) ∈ idsTo j := fun h => by
  obtain ⟨i, hi, e⟩ := List.mem_map.1 h
  have := List.mem_range.1 hi
  have e' : (i : Int) = (j : Int) := e
  omega
/-- The state at the head of a round. -/
structure TR (w0 wr : World) (D k : Nat) (blk : List (List UInt8)) (sets : List (List Int)) (j : Nat) (d : DS) (many : Nat) : Prop where
  lp : Lp w0 wr D d
  ti : TI k blk d
  st : d.sets = sets.take j
  id : d.ids = idsTo j
  mu : many + unk d.kn = k
theorem TI.knl {k : Nat} {blk : List (List UInt8)} {d : DS} (h : TI k blk d) : (knL d.kn).length + unk d.kn = k := by
  have := knL_len d.kn
  rw [h.ok.kl, h.kk] at this
  exact this
theorem TI.sy {k : Nat} {blk : List (List UInt8)} {d : DS} (h : TI k blk d) {x : Int} (hx : x ∈ knL d.kn) : syR d x = (xv blk x, 0) ∧ 0 ≤ x ∧ x < k := by
  obtain ⟨i, rfl, hi, hk⟩ := mem_knL.1 hx
  rw [h.ok.kl] at hi
  have hkk := h.kk
  refine ⟨?_, by omega, by omega⟩
  unfold syR
  rw [if_pos (by omega), hk, if_pos rfl, h.so.2 _ (by omega) (by omega) hk]
theorem TI.bl {k : Nat} {blk : List (List UInt8)} {d : DS} (h : TI k blk d) (hb : BlkOk k blk) (hu : unk d.kn = 0) : d.vals = blk := by
  apply List.ext_getElem (by rw [h.ok.vl, h.kk, hb.1])
  intro i hi hj
  have hik : i < d.k := by rw [← h.ok.vl]; exact hi
  have := h.so.2 (i : Int) (by omega) (by omega) (unk_zero hu (by rw [h.ok.kl]; exact hik))
  unfold xv at this
  rw [Int.toNat_natCast, List.getD_eq_getElem?_getD, List.getD_eq_getElem?_getD, List.getElem?_eq_getElem hi, List.getElem?_eq_getElem hj] at this
  exact this
theorem lp_known {w0 w1 : World} {D : Nat} {d : DS} (h : Hid (Lp w0 w1 D d)) : Calls Try.prog 18 #[.pointer (some ⟨D, 0, none⟩)] w1 fun e w' => ∃ v, e = .returned v ∧ w'.ownsRow w1.heap.size 3 1 v (knL d.kn).length (nums (knL d.kn)) ∧ Below w1.heap.size w1 w' := by
  obtain ⟨_, _, _, h2, _⟩ := h.out; exact known_dw h2
theorem lp_left {w0 w1 : World} {D : Nat} {d : DS} (h : Hid (Lp w0 w1 D d)) : Calls Try.prog 34 #[.pointer (some ⟨D, 0, none⟩)] w1 fun e w' => e = .returned (.int .i64 (unk d.kn : Nat)) ∧ w1 = w' := by
  obtain ⟨_, _, _, h2, _⟩ := h.out; exact left_dw h2
theorem lp_done {w0 w1 : World} {D : Nat} {d : DS} (h : Hid (Lp w0 w1 D d)) : Calls Try.prog 35 #[.pointer (some ⟨D, 0, none⟩)] w1 fun e w' => e = .returned (.bool (unk d.kn == 0)) ∧ w1 = w' := by
  obtain ⟨_, _, _, h2, _⟩ := h.out; exact done_dw h2
theorem lp_packets {w0 w1 : World} {D : Nat} {d : DS} (h : Hid (Lp w0 w1 D d)) : Calls Try.prog 19 #[.pointer (some ⟨D, 0, none⟩)] w1 fun e w' => e = .returned (.int .i64 (d.sets.length : Nat)) ∧ w1 = w' := by
  obtain ⟨_, _, _, h2, _⟩ := h.out; exact packets_dw h2
/-- A sum is added. -/
theorem TR.add {w0 wr w4 : World} {D k : Nat} {blk : List (List UInt8)} {sets : List (List Int)} {j : Nat} {d : DS} {many : Nat} (h : TR w0 wr D k blk sets j d many) (hb : BlkOk k blk) (hS : ∀ s ∈ sets, Sset k s) (hj : j < sets.length) (hs25 : sets.length ≤ 25) (hb4 : Below wr.heap.size wr w4) {B V : Option Addr} {c cv : Nat} (hr : Rd w0 B (sets.getD j []).length (nums (sets.getD j []))) (ho : w4.ownsRow wr.heap.size 5 1 (.slice V 2 cv) 2 (bys (sumB blk (sets.getD j [])))) (hk12 : k ≤ 12) :
    Calls Try.prog 14 #[.pointer (some ⟨D, 0, none⟩), .int .i64 (j : Nat), .slice B (sets.getD j []).length c, .slice V 2 cv] w4 fun e w' => ∃ v out d', e = .returned (.tuple #[v, .int .i64 0]) ∧ TR w0 w' D k blk sets (j + 1) d' (many + out.length) ∧ w'.ownsRow w4.heap.size 3 1 v out.length (nums out) ∧ Below w0.heap.size w0 w' ∧ out.length ≤ k := by
  have hSj := hS _ (getD_mem hj)
  have hdl : d.sets.length = j := by rw [h.st, List.length_take]; omega
  have he := h.ti.err hb (id := (j : Int)) (by omega) hSj (by rw [h.id]; exact not_idsTo j) (by omega)
  obtain ⟨out, d', e, p1, p2, p3, p4⟩ := h.ti.add hb he
  have hlen := hSj.len
  have hwf : (Lit.int .i64 (j : Int)).wf = true := by
    have h1 : IntKind.i64.min = -9223372036854775808 := by decide
    have h2 : IntKind.i64.max = 9223372036854775807 := by decide
    unfold Lit.wf
    simp [h1, h2]
    omega
  refine (lp_add (cA := c) (cB := cv) h.lp hb4 (by omega) (hr.below (below_base h.lp.1 hb4 h.lp.1.size)) (by omega) (Rd.of_own ho) (by decide) hwf (fun h0 a ha => .inl (hr.lt h0 a ha)) (fun h0 a ha => .inr (own_lt ho a ha).1)).mono ?_
  rintro e' w' ⟨v, rfl, q1, q2, q3, q4, q5⟩
  rw [e] at q1 q2
  refine ⟨v, out, d', by rw [e], ⟨q1, p1, ?_, ?_, by have := h.mu; omega⟩, q2, q1.1, by have := h.mu; omega⟩
  · rw [p2, h.st, List.take_succ_eq_append_getElem hj, List.getD_eq_getElem?_getD, List.getElem?_eq_getElem hj]; rfl
  · rw [p3, h.id, idsTo_succ]
theorem TR.add2 {w0 wr w4 : World} {D k : Nat} {blk : List (List UInt8)} {sets : List (List Int)} {j : Nat} {d : DS} {many : Nat} (h : TR w0 wr D k blk sets j d many) (hb : BlkOk k blk) (hS : ∀ s ∈ sets, Sset k s) (hj : j < sets.length) (hs25 : sets.length ≤ 25) (hb4 : Below wr.heap.size wr w4) {B V : Option Addr} {c cv L : Nat} {S : List Int} (hSe : sets.getD j [] = S) (hL : S.length = L) (hr : Rd w0 B L (nums S)) (ho : w4.ownsRow wr.heap.size 5 1 (.slice V 2 cv) 2 (bys (sumB blk S))) (hk12 : k ≤ 12) :
    Calls Try.prog 14 #[.pointer (some ⟨D, 0, none⟩), .int .i64 (j : Nat), .slice B L c, .slice V 2 cv] w4 fun e w' => ∃ v out d', e = .returned (.tuple #[v, .int .i64 0]) ∧ TR w0 w' D k blk sets (j + 1) d' (many + out.length) ∧ w'.ownsRow w4.heap.size 3 1 v out.length (nums out) ∧ Below w0.heap.size w0 w' ∧ out.length ≤ k := by
  subst hSe
  subst hL
  exact h.add hb hS hj hs25 hb4 hr ho hk12
end Go.Proofs.Ytidoembkcaojoaa
