/- GraphOnce: its plain part. -/
import Derived.Test.YtcgcbajgclkmkaaBo20
namespace Go.Proofs.Ytcgcbajgclkmkaa
open Go.RowKit
set_option linter.unusedVariables false
/-- Was a packet told to have one symbol left? -/
def told (kn : List Bool) (S : List (List Int)) (p : Nat) : Int := if 1 < (S.getD p []).length ∧ (rst kn (S.getD p [])).length ≤ 1 then 1 else 0
theorem told_k0 (k : Nat) (S : List (List Int)) (p : Nat) : told (k0s k) S p = 0 := by
  unfold told
  rw [rst_k0, if_neg (by omega)]
theorem told_in (kn : List Bool) (S : List (List Int)) (p : Nat) : 0 ≤ told kn S p ∧ told kn S p ≤ 1 := by
  unfold told; split <;> omega
theorem mem_tkL {kn : List Bool} {S : List (List Int)} {i p : Nat} (hi : i < kn.length) (hk : knw kn (i : Int) = false) :
    (p : Int) ∈ tkL kn S (i : Int) ↔ p < S.length ∧ (i : Int) ∈ S.getD p [] ∧ (rst (kn.set i true) (S.getD p [])).length = 1 := by
  unfold tkL
  rw [show inK kn (i : Int) = true from decide_eq_true (by omega), hk]
  simp only [Bool.not_false, Bool.and_self, if_true, List.mem_filter, mem_holds, beq_iff_eq, Int.toNat_natCast]
  constructor
  · rintro ⟨⟨q, h1, h2, h3⟩, h4⟩
    have : p = q := by omega
    subst this
    exact ⟨h2, h3, h4⟩
  · rintro ⟨h1, h2, h3⟩
    exact ⟨⟨p, rfl, h1, h2⟩, h3⟩
theorem told_take {kn : List Bool} {S : List (List Int)} {i p : Nat} (hi : i < kn.length) (hz : kn.length ≤ 65536) (hs : Ssets kn.length S) (hk : knw kn (i : Int) = false) (hp : p < S.length) :
    told (kn.set i true) S p = told kn S p + (if (p : Int) ∈ tkL kn S (i : Int) then 1 else 0) := by
  have hS := hs _ (getD_mem hp)
  have h1 := rst_set hi (hS.inR hz)
  have h2 := filter_away_len (i := (i : Int)) (rst_nodup (kn := kn) hS.nodup)
  rw [← h1] at h2
  have h3 : (rst kn (S.getD p [])).length ≤ (S.getD p []).length := List.length_filter_le _ _
  have h4 : (if (i : Int) ∈ rst kn (S.getD p []) then 1 else 0 : Nat) = if (i : Int) ∈ S.getD p [] then 1 else 0 := by
    by_cases h : (i : Int) ∈ S.getD p []
    · rw [if_pos h, if_pos (mem_rst.2 ⟨h, hk⟩)]
    · rw [if_neg h, if_neg (fun e => h (mem_rst.1 e).1)]
  rw [h4] at h2
  unfold told
  simp only [mem_tkL hi hk]
  generalize (rst (kn.set i true) (S.getD p [])).length = a at *
  generalize (rst kn (S.getD p [])).length = b at *
  generalize (S.getD p []).length = c at *
  by_cases h : (i : Int) ∈ S.getD p []
  · rw [if_pos h] at h2
    simp only [h, hp, true_and]
    repeat' split
    all_goals omega
  · rw [if_neg h] at h2
    simp only [h, false_and, and_false, if_false]
    repeat' split
    all_goals omega
theorem tkL_asc (kn : List Bool) (S : List (List Int)) (x : Int) : (tkL kn S x).Pairwise (· < ·) := by
  unfold tkL
  split
  · exact (holds_asc _ _).filter _
  · exact List.Pairwise.nil
theorem tkL_in {kn : List Bool} {S : List (List Int)} {x n : Int} (h : n ∈ tkL kn S x) : ∃ p : Nat, n = p ∧ p < S.length := by
  unfold tkL at h
  split at h
  · obtain ⟨p, h1, h2, _⟩ := mem_holds.1 (List.mem_filter.1 h).1
    exact ⟨p, h1, h2⟩
  · simp at h
theorem tkL_le (kn : List Bool) (S : List (List Int)) (x : Int) : (tkL kn S x).length ≤ S.length := by
  unfold tkL
  split
  · exact Nat.le_trans (List.length_filter_le _ _) (holds_le _ _)
  · exact Nat.zero_le _
theorem rst_take_succ (kn : List Bool) (l : List Int) {j : Nat} (hj : j < l.length) : rst kn (l.take (j + 1)) = rst kn (l.take j) ++ (if knw kn (gi l j) then [] else [gi l j]) := by
  unfold rst
  rw [List.take_succ_eq_append_getElem hj, List.filter_append, gi_get hj]
  cases h : knw kn l[j] <;> simp [h]
theorem bools_at {kn : List Bool} {i : Nat} (hi : i < kn.length) : (bools kn)[i]? = some (.bool (knw kn (i : Int))) := by
  unfold bools
  rw [List.getElem?_map, knw_at hi]; rfl
theorem bools_set (kn : List Bool) (i : Nat) (b : Bool) : (bools kn).set i (.bool b) = bools (kn.set i b) := by
  unfold bools
  rw [List.map_set]
theorem bools_k0 (k : Nat) : bools (k0s k) = List.replicate k (.bool false) := by
  unfold bools k0s
  rw [List.map_replicate]
theorem unk_k0 (k : Nat) : unk (k0s k) = k := by
  unfold unk k0s
  rw [List.filter_replicate]
  simp
theorem bkB1 (w : World) (cs : List Value) (t : TypeId) (o0 : Obj) : Bk (((w.alloc o0).alloc (.cells cs.toArray t)).drew) (w.heap.size + 1) t cs := by
  have := Bk.new (w.alloc o0) t cs
  rw [World.size_alloc] at this
  exact this
theorem onA2 (w : World) (o0 o1 : Obj) : Below w.heap.size w ((w.alloc o0).alloc o1).drew :=
  (((Below.refl _ _).alloc (Nat.le_refl _) o0).alloc (by rw [World.size_alloc]; omega) o1).drew
/-- A list of numbers and one of marks beside what made left. -/
structure OnR (w0 : World) (G : Nat) (kn : List Bool) (S : List (List Int)) (v : Value) (vs : List Value) (gT g : Nat) (kt : List Bool) (M : List Int) (w : World) (tag : Nat → Option Nat) (L : GL) : Prop where
  md : MdR w0 G kn S v vs w tag L
  tb : Bk w gT 4 (bools kt)
  mb : Bk w g 3 (nums M)
  ml : M.length = S.length
  tl : kt.length = kn.length
  tgT : tag gT = none
  tgM : tag g = none
  ne : gT ≠ g
  farT : v.ownBlock ≠ some gT
  farM : v.ownBlock ≠ some g
  gzT : w0.heap.size ≤ gT
  gzM : w0.heap.size ≤ g
section
variable {w0 w w' : World} {G gT g : Nat} {kn kt : List Bool} {S : List (List Int)} {v : Value} {vs : List Value} {M : List Int} {tag : Nat → Option Nat} {L : GL}
theorem OnR.below (h : OnR w0 G kn S v vs gT g kt M w tag L) (hb : Below w.heap.size w w') : OnR w0 G kn S v vs gT g kt M w' tag L :=
  { h with md := h.md.below hb, tb := h.tb.belowS hb, mb := h.mb.belowS hb }
theorem OnR.setM (h : OnR w0 G kn S v vs gT g kt M w tag L) (p : Nat) (x : Int) : OnR w0 G kn S v vs gT g kt (M.set p x) (w.setCell ⟨g, p, none⟩ (.int .i64 x)) tag L := by
  have hc : Chg (fun b => b = g) w (w.setCell ⟨g, p, none⟩ (.int .i64 x)) := (Chg.refl (fun b => b = g) w).set_ (g := g) (show (fun b => b = g) g from rfl) _ _
  refine { h with md := h.md.other hc fun b e => ?_, tb := hc.bk h.tb h.ne, mb := ?_, ml := by rw [List.length_set]; exact h.ml }
  · have e' : b = g := e
    subst e'
    exact ⟨h.tgM, h.gzM, h.farM⟩
  · have := h.mb.set_ p (.int .i64 x)
    rw [nums_set] at this
    exact this
theorem OnR.setT (h : OnR w0 G kn S v vs gT g kt M w tag L) (i : Nat) (b : Bool) : OnR w0 G kn S v vs gT g (kt.set i b) M (w.setCell ⟨gT, i, none⟩ (.bool b)) tag L := by
  have hc : Chg (fun b => b = gT) w (w.setCell ⟨gT, i, none⟩ (.bool b)) := (Chg.refl (fun b => b = gT) w).set_ (g := gT) (show (fun b => b = gT) gT from rfl) _ _
  refine { h with md := h.md.other hc fun b e => ?_, tb := ?_, mb := hc.bk h.mb (fun e => h.ne e.symm), tl := by rw [List.length_set]; exact h.tl }
  · have e' : b = gT := e
    subst e'
    exact ⟨h.tgT, h.gzT, h.farT⟩
  · have := h.tb.set_ i (.bool b)
    rw [bools_set] at this
    exact this
theorem OnR.take_ {kn' : List Bool} {L' : GL} (h : OnR w0 G kn S v vs gT g kt M w tag L) (hg : Gr w' w0.heap.size G tag L' kn' S 100) (hc : Chg (fun b => tag b ≠ none) w w') (hl : kn'.length = kn.length) : OnR w0 G kn' S v vs gT g kt M w' tag L' :=
  { h with md := h.md.changed hg hc fun _ _ => rfl, tb := hc.bk h.tb (fun e => e h.tgT), mb := hc.bk h.mb (fun e => e h.tgM), tl := by rw [h.tl, hl] }
theorem MdR.row {A : Option Addr} {n c : Nat} (h : MdR w0 G kn S (.slice A n c) vs w tag L) (hn : n = S.length) {p : Nat} (hp : p < n) : ∃ a off B c', A = some ⟨a, off, none⟩ ∧ w.cell? ⟨a, off + p, none⟩ = some (.slice B (S.getD p []).length c') ∧ Rd w B (S.getD p []).length (nums (S.getD p [])) := by
  subst hn
  obtain ⟨a, off, B, c', l, h1, h2, h3, h4, _⟩ := IRs.at_ (w := w) (A := A) (n := S.length) (xss := S) ⟨vs, Rd.of_own h.own, h.rd.below h.b⟩ hp
  have e : S.getD p [] = l := by rw [List.getD_eq_getElem?_getD, h2]; rfl
  rw [e]
  exact ⟨a, off, B, c', h1, h3, h4⟩
end
end Go.Proofs.Ytcgcbajgclkmkaa
