/- Words for chapter 14's memory: what a change leaves; heaps in memory. -/
import Derived.Test.YtidoembkcaojoaaKit
import Derived.Test.YtidoembkcaojoaaP14
namespace Go.Proofs.Ytidoembkcaojoaa
open Go.RowKit
set_option linter.unusedVariables false
/-- Of the blocks that were, those of S alone may have changed. -/
def Chg (S : Nat → Prop) (w w' : World) : Prop := Below 0 w w' ∧ ∀ k, k < w.heap.size → ¬ S k → w'.heap[k]? = w.heap[k]?
section
variable {S T : Nat → Prop} {w w' w'' : World}
theorem Chg.refl (S : Nat → Prop) (w : World) : Chg S w w := ⟨Below.refl _ _, fun _ _ _ => rfl⟩
theorem Chg.size (h : Chg S w w') : w.heap.size ≤ w'.heap.size := h.1.size
theorem Chg.mono (h : Chg S w w') (hS : ∀ k, k < w.heap.size → S k → T k) : Chg T w w' := ⟨h.1, fun k hk hT => h.2 k hk fun hs => hT (hS k hk hs)⟩
theorem Chg.trans (h : Chg S w w') (h' : Chg T w' w'') (hT : ∀ k, k < w.heap.size → T k → S k) : Chg S w w'' :=
  ⟨h.1.trans h'.1, fun k hk hS => (h'.2 k (Nat.lt_of_lt_of_le hk h.size) fun ht => hS (hT k hk ht)).trans (h.2 k hk hS)⟩
theorem Chg.of_below (h : Below w.heap.size w w') : Chg S w w' := ⟨h.mono (Nat.zero_le _), fun k hk _ => h.block k hk⟩
theorem Chg.of_grown {row : Option Nat} (h : w.grownBy w' row) (hr : ∀ k, row = some k → S k) : Chg S w w' :=
  ⟨⟨h.os, h.tape, h.output, h.size, fun k hk => absurd hk (Nat.not_lt_zero _)⟩, fun k hk hS => h.block k hk fun e => hS (hr k e.symm)⟩
theorem Chg.set_ (h : Chg S w w') {g : Nat} (hS : S g) (o : Nat) (u : Value) : Chg S w (w'.setCell ⟨g, o, none⟩ u) :=
  ⟨h.1.setCell (Nat.zero_le _) u, fun k hk hk' => (Below.heap_setCell w' ⟨g, o, none⟩ u k (fun e => hk' (e ▸ hS))).trans (h.2 k hk hk')⟩
theorem Chg.setN (h : Chg S w w') {g : Nat} (hS : w.heap.size ≤ g) (o : Nat) (u : Value) : Chg S w (w'.setCell ⟨g, o, none⟩ u) :=
  ⟨h.1.setCell (Nat.zero_le _) u, fun k hk hk' => (Below.heap_setCell w' ⟨g, o, none⟩ u k (fun e => by simp at e; omega)).trans (h.2 k hk hk')⟩
theorem Chg.drew (h : Chg S w w') : Chg S w w'.drew := ⟨h.1.drew, h.2⟩
theorem Chg.undrew (h : Chg S w.drew w') : Chg S w w' := ⟨below_undrew h.1, h.2⟩
theorem Chg.drewN (h : Chg S w w') (n : Nat) : Chg S w (w'.drewN n) := ⟨below_dN h.1 n, h.2⟩
theorem Chg.alloc (h : Chg S w w') (o : Obj) : Chg S w (w'.alloc o) := h.trans (Chg.of_below (S := S) ((Below.refl _ _).alloc (Nat.le_refl _) _)) fun _ _ x => x
theorem Chg.bk (h : Chg S w w') {g : Nat} {t : TypeId} {cs : List Value} (hb : Bk w g t cs) (hg : ¬ S g) : Bk w' g t cs := (h.2 g hb.lt hg).trans hb
theorem Chg.below {B : Nat} {a : World} (h : Chg S w w') (hb : Below B a w) (hS : ∀ k, k < w.heap.size → S k → B ≤ k) (hB : B ≤ w.heap.size) : Below B a w' :=
  hb.trans ⟨h.1.os, h.1.tape, h.1.output, h.1.size, fun k hk => h.2 k (by omega) fun hs => by have := hS k (by omega) hs; omega⟩
theorem Chg.own (h : Chg S w w') {base : Nat} {e : TypeId} {size n c : Nat} {A : Option Addr} {xs : List Value} (ho : w.ownsRow base e size (.slice A n c) n xs) (hA : ∀ a, A = some a → ¬ S a.block) : w'.ownsRow base e size (.slice A n c) n xs := by
  refine ⟨ho.1, ?_⟩
  rcases ho.2 with h2 | ⟨g, cap, cur, hv, hg, hh, r⟩
  · exact .inl h2
  · injection hv with e1 e2 e3
    subst e1
    exact .inr ⟨g, cap, cur, by rw [e3], hg, (h.2 g (Array.getElem?_eq_some_iff.1 hh).1 (hA _ rfl)).trans hh, r⟩
theorem Chg.rd (h : Chg S w w') {A : Option Addr} {n : Nat} {xs : List Value} (hr : Rd w A n xs) (hA : ∀ a, A = some a → ¬ S a.block) : Rd w' A n xs :=
  ⟨hr.1, fun hn => by
    obtain ⟨b, off, rfl, hb, hc⟩ := hr.form hn
    exact ⟨b, off, rfl, fun j u hu => (World.cell?_of_block (h.2 b hb (hA _ rfl))).trans (hc j u hu)⟩⟩
end
theorem nums_set (l : List Int) (k : Nat) (x : Int) : (nums l).set k (.int .i64 x) = nums (l.set k x) := by simp [nums, List.map_set]
theorem nums_append (a b : List Int) : nums (a ++ b) = nums a ++ nums b := by simp [nums]
theorem nums_take (a : List Int) (n : Nat) : (nums a).take n = nums (a.take n) := by simp [nums, List.map_take]
theorem nums_gi {l : List Int} {j : Nat} (h : j < l.length) : (nums l)[j]? = some (.int .i64 (gi l j)) := by rw [nums_get l j h, gi_get h]
theorem set_left (l : List Int) (tl : List Value) (k : Nat) (hk : k < l.length) (x : Int) : (nums l ++ tl).set k (.int .i64 x) = nums (l.set k x) ++ tl := by
  rw [List.set_append_left _ _ (by simpa [nums_length] using hk), nums_set]
theorem cell_left {l : List Int} {tl : List Value} {k : Nat} (hk : k < l.length) : (nums l ++ tl)[k]? = some (.int .i64 (gi l k)) := by
  rw [List.getElem?_append_left (by simpa [nums_length] using hk), nums_gi hk]
/-- A row of numbers of the call's own, from its block. -/
theorem own_of_bk {w : World} {base g n c : Nat} {l : List Int} {tl : List Value} (h : Bk w g 3 (nums l ++ tl)) (hb : base ≤ g) (hn : l.length = n) (hc : n + tl.length = c) (hm : c ≤ maxLen) : w.ownsRow base 3 1 (.slice (some ⟨g, 0, none⟩) n c) n (nums l) := by
  refine ⟨by simp [nums_length, hn], .inr ⟨g, c, (nums l ++ tl).toArray, rfl, hb, h, by omega, hm, by simp [nums_length]; omega, ?_⟩⟩
  simp only [Nat.mul_one]
  exact List.take_left' (by simp [nums_length, hn])
/-- A row of numbers of the call's own that has one has its block. -/
theorem bk_of_own {w : World} {base n c : Nat} {A : Option Addr} {l : List Int} (h : w.ownsRow base 3 1 (.slice A n c) n (nums l)) (hn : 0 < n) :
    ∃ g tl, A = some ⟨g, 0, none⟩ ∧ base ≤ g ∧ Bk w g 3 (nums l ++ tl) ∧ l.length = n ∧ n + tl.length = c ∧ c ≤ maxLen := by
  obtain ⟨A', c', hv, hnc, hcm, hl, hf⟩ := own_form h
  injection hv with e1 _ e3
  subst e1; subst e3
  obtain ⟨g, cur, hA, hb, _, hbk, hcl, ht⟩ := hf hn
  have hl' : l.length = n := by simpa [nums_length] using hl
  refine ⟨g, cur.drop n, hA, hb, ?_, hl', by simp; omega, hcm⟩
  rw [← ht, List.take_append_drop]
  exact hbk
theorem bk_of_ownv {w : World} {base n : Nat} {v : Value} {l : List Int} (h : w.ownsRow base 3 1 v n (nums l)) (hn : 0 < n) :
    ∃ g c tl, v = .slice (some ⟨g, 0, none⟩) n c ∧ base ≤ g ∧ Bk w g 3 (nums l ++ tl) ∧ l.length = n ∧ n + tl.length = c ∧ c ≤ maxLen := by
  obtain ⟨A', c', rfl, _⟩ := own_form h
  obtain ⟨g, tl, rfl, r⟩ := bk_of_own h hn
  exact ⟨g, c', tl, rfl, r⟩
theorem u3_info : (Try.prog.info? 3).map (fun i => (i.zero, i.size, i.bytes)) = some (some (.int .i64 0), 1, 8) := by kernel_rfl
theorem u3_size : (Try.prog.info? 3).map (·.size) = some 1 := by kernel_rfl
end Go.Proofs.Ytidoembkcaojoaa
