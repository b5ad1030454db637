/- GraphBoth: its walk. -/
import Derived.Test.YtcgcbajgclkmkaaMd20
namespace Go.Proofs.Ytcgcbajgclkmkaa
open Go.RowKit
set_option linter.unusedVariables false
theorem wf_i64 {n : Int} (h : -9223372036854775808 ≤ n ∧ n ≤ 9223372036854775807) : (Lit.int .i64 n).wf = true := by
  simp [Lit.wf, IntKind.min, IntKind.max, IntKind.signed, IntKind.bits]
  omega
theorem made_ints (m : Nat) : madeCells (Value.int .i64 0).cells (m * 1) = (nums (List.replicate m 0)).toArray := by
  apply Array.ext
  · simp [madeCells, nums]
  · intro i h1 h2
    simp [madeCells, Value.cells, nums, Nat.mod_one]
theorem run_make_ints (m : Nat) (hm : m ≤ 1000000) (w : World) : (Instr.makeSlice 32 (.int .i64 (m : Int)) (.int .i64 (m : Int))).run Try.prog w = .ok (.slice (some ⟨w.heap.size, 0, none⟩) m m) (w.alloc (.cells (nums (List.replicate m 0)).toArray 3)) := by
  obtain ⟨i0, hi0, hz0, hz1, hz2⟩ := info_parts u3_info
  have := run_make (P := Try.prog) w 32 3 i0 (.int .i64 0) Try.underlying32 hi0 hz0 .i64 .i64 m m (by omega) (by omega) (by rw [hz2]; omega) (by omega)
  rw [hz1] at this
  simp only [Int.toNat_natCast] at this
  rw [made_ints] at this
  exact this
/-- In how many lists below s a packet is. -/
def cnt (kn : List Bool) (S : List (List Int)) (s p : Nat) : Nat := ((List.range s).filter fun t => decide ((p : Int) ∈ wts kn S t)).length
theorem cnt_zero (kn : List Bool) (S : List (List Int)) (p : Nat) : cnt kn S 0 p = 0 := rfl
theorem cnt_succ (kn : List Bool) (S : List (List Int)) (s p : Nat) : cnt kn S (s + 1) p = cnt kn S s p + (if (p : Int) ∈ wts kn S s then 1 else 0) := by
  unfold cnt
  rw [List.range_succ, List.filter_append, List.length_append]
  congr 1
  by_cases h : (p : Int) ∈ wts kn S s <;> simp [h]
theorem mem_wts {kn : List Bool} {S : List (List Int)} {t p : Nat} (hp : p < S.length) : (p : Int) ∈ wts kn S t ↔ (t : Int) ∈ rst kn (S.getD p []) := by
  unfold wts
  rw [mem_rst]
  cases hk : knw kn (t : Int) with
  | true => simp
  | false =>
    simp only [Bool.false_eq_true, if_false]
    rw [mem_holds]
    constructor
    · rintro ⟨q, h1, _, h3⟩
      have : p = q := by omega
      subst this
      exact ⟨h3, trivial⟩
    · rintro ⟨h1, _⟩
      exact ⟨p, rfl, hp, h1⟩
theorem cnt_all {kn : List Bool} {S : List (List Int)} {p : Nat} (hS : Ssets kn.length S) (hp : p < S.length) : cnt kn S kn.length p = (rst kn (S.getD p [])).length := by
  have h := hS _ (getD_mem hp)
  have hnd := rst_nodup (kn := kn) h.nodup
  have h1 : (((List.range kn.length).filter fun t => decide ((p : Int) ∈ wts kn S t)).map fun (t : Nat) => (t : Int)).Perm (rst kn (S.getD p [])) := by
    rw [List.perm_ext_iff_of_nodup (List.Pairwise.map _ (fun a b h => by intro e; exact h (by omega)) (List.nodup_range.filter _)) hnd]
    intro a
    simp only [List.mem_map, List.mem_filter, List.mem_range, decide_eq_true_eq]
    constructor
    · rintro ⟨t, ⟨_, h2⟩, rfl⟩
      exact (mem_wts hp).1 h2
    · intro ha
      have hr := h.inr a (mem_rst.1 ha).1
      obtain ⟨t, rfl⟩ : ∃ t : Nat, a = t := ⟨a.toNat, by omega⟩
      exact ⟨t, ⟨by omega, (mem_wts hp).2 ha⟩, rfl⟩
  have := h1.length_eq
  rw [List.length_map] at this
  exact this
theorem holds_asc (S : List (List Int)) (i : Int) : (holds S i).Pairwise (· < ·) := by
  unfold holds
  exact List.Pairwise.map _ (fun a b h => by omega) (List.pairwise_lt_range.filter _)
theorem wts_asc (kn : List Bool) (S : List (List Int)) (t : Nat) : (wts kn S t).Pairwise (· < ·) := by
  unfold wts
  split
  · exact List.Pairwise.nil
  · exact holds_asc _ _
theorem wts_in {kn : List Bool} {S : List (List Int)} {t : Nat} {n : Int} (h : n ∈ wts kn S t) : ∃ p : Nat, n = p ∧ p < S.length ∧ (t : Int) ∈ rst kn (S.getD p []) := by
  have h2 := h
  unfold wts at h
  split at h
  · simp at h
  · obtain ⟨p, rfl, hp, _⟩ := mem_holds.1 h
    exact ⟨p, rfl, hp, (mem_wts hp).1 h2⟩
theorem mem_take_succ {l : List Int} {i : Nat} (h : i < l.length) (x : Int) : x ∈ l.take (i + 1) ↔ x ∈ l.take i ∨ x = gi l i := by
  rw [List.take_succ_eq_append_getElem h, List.mem_append, gi_get h]; simp
theorem not_mem_take {l : List Int} {i : Nat} (h : i < l.length) (ha : l.Pairwise (· < ·)) : gi l i ∉ l.take i := by
  intro hm
  rw [gi_get h] at hm
  obtain ⟨a, ha', hii⟩ := List.mem_take_iff_getElem.1 hm
  have := (List.pairwise_iff_getElem.1 ha) a i (by omega) h (by omega)
  omega
/-- A list of numbers beside what made left. -/
structure BoR (w0 : World) (G : Nat) (kn : List Bool) (S : List (List Int)) (v : Value) (vs : List Value) (g : Nat) (M : List Int) (w : World) (tag : Nat → Option Nat) (L : GL) : Prop where
  md : MdR w0 G kn S v vs w tag L
  mb : Bk w g 3 (nums M)
  ml : M.length = S.length
  tg : tag g = none
  far : v.ownBlock ≠ some g
  gz : w0.heap.size ≤ g
section
variable {w0 w w' : World} {G g : Nat} {kn : List Bool} {S : List (List Int)} {v : Value} {vs : List Value} {M : List Int} {tag : Nat → Option Nat} {L : GL}
theorem BoR.below (h : BoR w0 G kn S v vs g M w tag L) (hb : Below w.heap.size w w') : BoR w0 G kn S v vs g M w' tag L :=
  ⟨h.md.below hb, h.mb.belowS hb, h.ml, h.tg, h.far, h.gz⟩
theorem BoR.set_ (h : BoR w0 G kn S v vs g M w tag L) (p : Nat) (x : Int) : BoR w0 G kn S v vs g (M.set p x) (w.setCell ⟨g, p, none⟩ (.int .i64 x)) tag L := by
  have hc : Chg (fun b => b = g) w (w.setCell ⟨g, p, none⟩ (.int .i64 x)) := (Chg.refl (fun b => b = g) w).set_ (g := g) (show (fun b => b = g) g from rfl) _ _
  refine ⟨h.md.other hc fun b e => ?_, ?_, by rw [List.length_set]; exact h.ml, h.tg, h.far, h.gz⟩
  · have e' : b = g := e
    subst e'
    exact ⟨h.tg, h.gz, h.far⟩
  · have := h.mb.set_ p (.int .i64 x)
    rw [nums_set] at this
    exact this
end
end Go.Proofs.Ytcgcbajgclkmkaa
