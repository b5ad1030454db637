/- Functions of artesiankit and of Go's library that several chapters share: what each comes to. Words for chapter 14's memory: what a change leaves; heaps in memory. Small functions of chapter 14: what each comes to. Chapter 20: a graph in memory; what its readers come to. Chapter 20: Of, set, less. Chapter 20: New. -/
import Derived.Test.YtlhipaffhehcnaaGreatRows
import Derived.Test.YtlhipaffhehcnaaGreatT01
import Derived.Test.YtlhipaffhehcnaaGreatT02
namespace Go.Proofs.YtlhipaffhehcnaaGreat
open Go.RowKit
set_option linter.unusedVariables false
theorem u8_info : (Tryz.prog.info? 5).map (fun i => (i.zero, i.size, i.bytes)) = some (some (.int .u8 0), 1, 1) := by kernel_rfl
theorem u8_size : (Tryz.prog.info? 5).map (·.size) = some 1 := by kernel_rfl
/-- artesiankit.SameBytes -/
theorem same_any {w : World} {A A' : Option Addr} {n n' c c' : Nat} {l l' : List UInt8} (h : Rd w A n (bys l)) (h' : Rd w A' n' (bys l')) :
    Calls Tryz.prog 40 #[.slice A n c, .slice A' n' c'] w fun e w' => e = .returned (.bool (l == l')) ∧ w = w' := by
  have h1 := run_bytes_text (P := Tryz.prog) (c := c) h 83 5 9 Tryz.underlying83 Tryz.underlying5 Tryz.underlying9
  have h2 := run_bytes_text (P := Tryz.prog) (c := c') h' 83 5 9 Tryz.underlying83 Tryz.underlying5 Tryz.underlying9
  go_enter Tryz.func40, Tryz.ntmps40
  go_wp2
  go_ret
  exact ⟨rfl, rfl⟩
theorem same_true {w : World} {A A' : Option Addr} {n n' c c' : Nat} {l : List UInt8} (h : Rd w A n (bys l)) (h' : Rd w A' n' (bys l)) :
    Calls Tryz.prog 40 #[.slice A n c, .slice A' n' c'] w fun e w' => e = .returned (.bool true) ∧ w = w' :=
  (same_any h h').mono fun e w' ⟨h1, h2⟩ => ⟨by rw [h1]; simp, h2⟩
/-- slices.Clone -/
theorem clone_any {w : World} {A : Option Addr} {n c : Nat} {l : List UInt8} (h : Rd w A n (bys l)) (hn : n ≤ 140737488351232) :
    Calls Tryz.prog 73 #[.slice A n c] w fun e w' => ∃ v, e = .returned v ∧ w'.ownsRow w.heap.size 5 1 v n (bys l) ∧ Below w.heap.size w w' := by
  obtain ⟨i0, hi0, hz0, hz1, hz2⟩ := info_parts u8_info
  have hnil := Lib.run_eql_slice_nil (P := Tryz.prog) w 83 5 A n c 0 0 Tryz.underlying83
  rcases A with _ | a
  · have h0 : n = 0 := by
      rcases Nat.eq_zero_or_pos n with h0 | h0
      · exact h0
      · obtain ⟨b, off, e, _⟩ := h.form h0; cases e
    subst h0
    have hl : l = [] := List.eq_nil_of_length_eq_zero (by have := h.1; simpa [bys_length] using this)
    subst hl
    go_enter Tryz.func73, Tryz.ntmps73
    go_wp2
    go_ret
    exact ⟨_, rfl, World.ownsRow_nil _ _ _ _, Below.refl _ _⟩
  · go_enter Tryz.func73, Tryz.ntmps73
    go_wp2_with (at_builtin; refine wpList_append_rd _ rfl (.tmp 5) (.tmp 6) _ rfl w.heap.size 5 i0 _ 1 1 Tryz.underlying83 hi0 hz0 hz1 hz2 rfl (by omega) _ 0 [] rfl (own_new0 w _ _ (Nat.le_refl _)) (some a) n c (bys l) rfl (by simpa using h.alloc _) (bys_one l) (by simp only [maxLen]; omega) (by omega) (by simp) ?_; intro v1 w1 hown1 hg1 hat1)
    go_ret
    exact ⟨v1, rfl, by simpa using hown1, ((Below.refl _ _).alloc (Nat.le_refl _) _).grown hg1 (by simp) (fun k hk => ((own_new0 w 5 _ (Nat.le_refl _)).lt k hk).1)⟩
theorem pick_nonneg {x n : Int} (hn : 0 < n) (h : 0 ≤ x.tmod n) : x.tmod n = x % n := by
  have h1 : x.tmod n < n := Int.tmod_lt_of_pos x hn
  have h2 := Int.tmod_add_mul_tdiv x n
  have h4 : x.tmod n % n = x.tmod n := Int.emod_eq_of_lt h h1
  rw [← h4]
  have : x = x.tmod n + n * x.tdiv n := h2.symm
  conv => rhs; rw [this]
  simp
theorem pick_neg {x n : Int} (hn : 0 < n) (h : x.tmod n < 0) : x.tmod n + n = x % n := by
  have h1 : -n < x.tmod n := Int.lt_tmod_of_pos x hn
  have h2 := Int.tmod_add_mul_tdiv x n
  have h4 : (x.tmod n + n) % n = x.tmod n + n := Int.emod_eq_of_lt (by omega) (by omega)
  rw [← h4]
  have : x = x.tmod n + n * x.tdiv n := h2.symm
  conv => rhs; rw [this]
  simp
theorem pick_any {w : World} (x n : Int) (hx : (Lit.int .i64 x).wf = true) (hn0 : 0 < n) (hn1 : n ≤ 1000000) :
    Calls Tryz.prog 5 #[.int .i64 x, .int .i64 n] w fun e w' => e = .returned (.int .i64 (x % n)) ∧ w = w' := by
  have hb := bounds_i64 hx
  have hnz : ¬ n = 0 := by omega
  have h1 : x.tmod n < n := Int.tmod_lt_of_pos x hn0
  have h2 : -n < x.tmod n := Int.lt_tmod_of_pos x hn0
  by_cases hneg : 0 ≤ x.tmod n
  · have HP := Lib.hid (pick_nonneg hn0 hneg)
    have hlt : decide (x.tmod n < 0) = false := by simp; omega
    clear hx
    go_enter Tryz.func5, Tryz.ntmps5
    go_wp2
    go_ret
    exact ⟨ret_int HP.out, rfl⟩
  · have hneg' : x.tmod n < 0 := by omega
    have HP := Lib.hid (pick_neg hn0 hneg')
    have hlt : decide (x.tmod n < 0) = true := by simpa using hneg'
    clear hneg
    go_enter Tryz.func5, Tryz.ntmps5
    go_wp2
    go_ret
    exact ⟨ret_int HP.out, rfl⟩
end Go.Proofs.YtlhipaffhehcnaaGreat
namespace Go.Proofs.YtlhipaffhehcnaaGreat
open Go.RowKit
set_option linter.unusedVariables false
/-- Of the blocks that were, those of S alone may have changed. -/
def Chg (S : Nat → Prop) (w w' : World) : Prop := Below 0 w w' ∧ ∀ k, k < w.heap.size → ¬ S k → w'.heap[k]? = w.heap[k]?
section
variable {S T : Nat → Prop} {w w' w'' : World}
theorem Chg.refl (S : Nat → Prop) (w : World) : Chg S w w := ⟨Below.refl _ _, fun _ _ _ => rfl⟩
theorem Chg.size (h : Chg S w w') : w.heap.size ≤ w'.heap.size := h.1.size
theorem Chg.mono (h : Chg S w w') (hS : ∀ k, k < w.heap.size → S k → T k) : Chg T w w' := ⟨h.1, fun k hk hT => h.2 k hk fun hs => hT (hS k hk hs)⟩
theorem Chg.trans (h : Chg S w w') (h' : Chg T w' w'') (hT : ∀ k, k < w.heap.size → T k → S k) : Chg S w w'' :=
  ⟨h.1.trans h'.1, fun k hk hS => (h'.2 k (Nat.lt_of_lt_of_le hk h.size) fun ht => hS (hT k hk ht)).trans (h.2 k hk hS)⟩
theorem Chg.of_below (h : Below w.heap.size w w') : Chg S w w' := ⟨h.mono (Nat.zero_le _), fun k hk _ => h.block k hk⟩
theorem Chg.of_grown {row : Option Nat} (h : w.grownBy w' row) (hr : ∀ k, row = some k → S k) : Chg S w w' :=
  ⟨⟨h.os, h.tape, h.output, h.size, fun k hk => absurd hk (Nat.not_lt_zero _)⟩, fun k hk hS => h.block k hk fun e => hS (hr k e.symm)⟩
theorem Chg.set_ (h : Chg S w w') {g : Nat} (hS : S g) (o : Nat) (u : Value) : Chg S w (w'.setCell ⟨g, o, none⟩ u) :=
  ⟨h.1.setCell (Nat.zero_le _) u, fun k hk hk' => (Below.heap_setCell w' ⟨g, o, none⟩ u k (fun e => hk' (e ▸ hS))).trans (h.2 k hk hk')⟩
theorem Chg.drew (h : Chg S w w') : Chg S w w'.drew := ⟨h.1.drew, h.2⟩
theorem Chg.undrew (h : Chg S w.drew w') : Chg S w w' := ⟨below_undrew h.1, h.2⟩
theorem Chg.drewN (h : Chg S w w') (n : Nat) : Chg S w (w'.drewN n) := ⟨below_dN h.1 n, h.2⟩
theorem Chg.alloc (h : Chg S w w') (o : Obj) : Chg S w (w'.alloc o) := h.trans (Chg.of_below (S := S) ((Below.refl _ _).alloc (Nat.le_refl _) _)) fun _ _ x => x
theorem Chg.bk (h : Chg S w w') {g : Nat} {t : TypeId} {cs : List Value} (hb : Bk w g t cs) (hg : ¬ S g) : Bk w' g t cs := (h.2 g hb.lt hg).trans hb
theorem Chg.below {B : Nat} {a : World} (h : Chg S w w') (hb : Below B a w) (hS : ∀ k, k < w.heap.size → S k → B ≤ k) (hB : B ≤ w.heap.size) : Below B a w' :=
  hb.trans ⟨h.1.os, h.1.tape, h.1.output, h.1.size, fun k hk => h.2 k (by omega) fun hs => by have := hS k (by omega) hs; omega⟩
theorem Chg.own (h : Chg S w w') {base : Nat} {e : TypeId} {size n c : Nat} {A : Option Addr} {xs : List Value} (ho : w.ownsRow base e size (.slice A n c) n xs) (hA : ∀ a, A = some a → ¬ S a.block) : w'.ownsRow base e size (.slice A n c) n xs := by
  refine ⟨ho.1, ?_⟩
  rcases ho.2 with h2 | ⟨g, cap, cur, hv, hg, hh, r⟩
  · exact .inl h2
  · injection hv with e1 e2 e3
    subst e1
    exact .inr ⟨g, cap, cur, by rw [e3], hg, (h.2 g (Array.getElem?_eq_some_iff.1 hh).1 (hA _ rfl)).trans hh, r⟩
theorem Chg.rd (h : Chg S w w') {A : Option Addr} {n : Nat} {xs : List Value} (hr : Rd w A n xs) (hA : ∀ a, A = some a → ¬ S a.block) : Rd w' A n xs :=
  ⟨hr.1, fun hn => by
    obtain ⟨b, off, rfl, hb, hc⟩ := hr.form hn
    exact ⟨b, off, rfl, fun j u hu => (World.cell?_of_block (h.2 b hb (hA _ rfl))).trans (hc j u hu)⟩⟩
end
theorem nums_set (l : List Int) (k : Nat) (x : Int) : (nums l).set k (.int .i64 x) = nums (l.set k x) := by simp [nums, List.map_set]
theorem nums_append (a b : List Int) : nums (a ++ b) = nums a ++ nums b := by simp [nums]
theorem nums_take (a : List Int) (n : Nat) : (nums a).take n = nums (a.take n) := by simp [nums, List.map_take]
theorem nums_gi {l : List Int} {j : Nat} (h : j < l.length) : (nums l)[j]? = some (.int .i64 (gi l j)) := by rw [nums_get l j h, gi_get h]
theorem set_left (l : List Int) (tl : List Value) (k : Nat) (hk : k < l.length) (x : Int) : (nums l ++ tl).set k (.int .i64 x) = nums (l.set k x) ++ tl := by
  rw [List.set_append_left _ _ (by simpa [nums_length] using hk), nums_set]
theorem cell_left {l : List Int} {tl : List Value} {k : Nat} (hk : k < l.length) : (nums l ++ tl)[k]? = some (.int .i64 (gi l k)) := by
  rw [List.getElem?_append_left (by simpa [nums_length] using hk), nums_gi hk]
/-- A row of numbers of the call's own, from its block. -/
theorem own_of_bk {w : World} {base g n c : Nat} {l : List Int} {tl : List Value} (h : Bk w g 3 (nums l ++ tl)) (hb : base ≤ g) (hn : l.length = n) (hc : n + tl.length = c) (hm : c ≤ maxLen) : w.ownsRow base 3 1 (.slice (some ⟨g, 0, none⟩) n c) n (nums l) := by
  refine ⟨by simp [nums_length, hn], .inr ⟨g, c, (nums l ++ tl).toArray, rfl, hb, h, by omega, hm, by simp [nums_length]; omega, ?_⟩⟩
  simp only [Nat.mul_one]
  exact List.take_left' (by simp [nums_length, hn])
/-- A row of numbers of the call's own that has one has its block. -/
theorem bk_of_own {w : World} {base n c : Nat} {A : Option Addr} {l : List Int} (h : w.ownsRow base 3 1 (.slice A n c) n (nums l)) (hn : 0 < n) :
    ∃ g tl, A = some ⟨g, 0, none⟩ ∧ base ≤ g ∧ Bk w g 3 (nums l ++ tl) ∧ l.length = n ∧ n + tl.length = c ∧ c ≤ maxLen := by
  obtain ⟨A', c', hv, hnc, hcm, hl, hf⟩ := own_form h
  injection hv with e1 _ e3
  subst e1; subst e3
  obtain ⟨g, cur, hA, hb, _, hbk, hcl, ht⟩ := hf hn
  have hl' : l.length = n := by simpa [nums_length] using hl
  refine ⟨g, cur.drop n, hA, hb, ?_, hl', by simp; omega, hcm⟩
  rw [← ht, List.take_append_drop]
  exact hbk
theorem bk_of_ownv {w : World} {base n : Nat} {v : Value} {l : List Int} (h : w.ownsRow base 3 1 v n (nums l)) (hn : 0 < n) :
    ∃ g c tl, v = .slice (some ⟨g, 0, none⟩) n c ∧ base ≤ g ∧ Bk w g 3 (nums l ++ tl) ∧ l.length = n ∧ n + tl.length = c ∧ c ≤ maxLen := by
  obtain ⟨A', c', rfl, _⟩ := own_form h
  obtain ⟨g, tl, rfl, r⟩ := bk_of_own h hn
  exact ⟨g, c', tl, rfl, r⟩
theorem u3_info : (Tryz.prog.info? 3).map (fun i => (i.zero, i.size, i.bytes)) = some (some (.int .i64 0), 1, 8) := by kernel_rfl
end Go.Proofs.YtlhipaffhehcnaaGreat
namespace Go.Proofs.YtlhipaffhehcnaaGreat
open Go.RowKit
set_option linter.unusedVariables false
end Go.Proofs.YtlhipaffhehcnaaGreat
namespace Go.Proofs.YtlhipaffhehcnaaGreat
open Go.RowKit
set_option linter.unusedVariables false
/-- A graph: what is known, who waits, the packets (set, how many are unknown, their sum), three numbers. -/
structure GM where
  known : List Bool
  waits : Nat → List Int
  packs : List (List Int × Int × Int)
  most : Int
  unknown : Int
  edges : Int
/-- Where its parts lie. -/
structure GL where
  KB : Nat
  WB : Nat
  wa : Nat → Option Addr
  wc : Nat → Nat
  PA : Option Addr
  pc : Nat
  sa : Nat → Option Addr
  sc : Nat → Nat
def pk (s : GM) (p : Nat) : List Int × Int × Int := s.packs.getD p ([], 0, 0)
def wcell (L : GL) (s : GM) (i : Nat) : Value := .slice (L.wa i) (s.waits i).length (L.wc i)
def pcell (L : GL) (s : GM) (p : Nat) : List Value := [.slice (L.sa p) (pk s p).1.length (L.sc p), .int .i64 (pk s p).2.1, .int .i64 (pk s p).2.2]
def pcells (L : GL) (s : GM) : List Value := (List.range s.packs.length).flatMap (pcell L s)
def bools (l : List Bool) : List Value := l.map .bool
theorem flat3_length {f : Nat → List Value} (hf : ∀ i, (f i).length = 3) : ∀ n, ((List.range n).flatMap f).length = n * 3
  | 0 => rfl
  | n + 1 => by rw [List.range_succ, List.flatMap_append, List.length_append, flat3_length hf n]; simp [hf]; omega
theorem flat3_get {f : Nat → List Value} (hf : ∀ i, (f i).length = 3) : ∀ {n p j : Nat}, p < n → j < 3 → ((List.range n).flatMap f)[p * 3 + j]? = (f p)[j]?
  | 0, p, j, h, _ => by omega
  | n + 1, p, j, h, hj => by
    rw [List.range_succ, List.flatMap_append]
    rcases Nat.lt_or_ge p n with h1 | h1
    · rw [List.getElem?_append_left (by rw [flat3_length hf]; omega)]
      exact flat3_get hf h1 hj
    · obtain rfl : p = n := by omega
      rw [List.getElem?_append_right (by rw [flat3_length hf]; omega), flat3_length hf, show p * 3 + j - p * 3 = j from by omega]
      simp
theorem pcells_length (L : GL) (s : GM) : (pcells L s).length = s.packs.length * 3 := flat3_length (fun _ => rfl) _
theorem pcells_get (L : GL) (s : GM) {p j : Nat} (h : p < s.packs.length) (hj : j < 3) : (pcells L s)[p * 3 + j]? = (pcell L s p)[j]? := flat3_get (fun _ => rfl) h hj
/-- A graph in memory. 'tag' tells each block of it apart. -/
structure Gm (w : World) (base G : Nat) (tag : Nat → Option Nat) (L : GL) (s : GM) : Prop where
  g : Bk w G 163 [.slice (some ⟨L.KB, 0, none⟩) s.known.length s.known.length, .slice (some ⟨L.WB, 0, none⟩) s.known.length s.known.length, .slice L.PA s.packs.length L.pc, .int .i64 s.most, .int .i64 s.unknown, .int .i64 s.edges]
  kn : Bk w L.KB 4 (bools s.known)
  wt : Bk w L.WB 22 ((List.range s.known.length).map (wcell L s))
  wo : ∀ i, i < s.known.length → w.ownsRow base 3 1 (wcell L s i) (s.waits i).length (nums (s.waits i))
  po : w.ownsRow base 166 3 (.slice L.PA s.packs.length L.pc) s.packs.length (pcells L s)
  so : ∀ p, p < s.packs.length → Rd w (L.sa p) (pk s p).1.length (nums (pk s p).1)
  tG : tag G = some 0
  tK : tag L.KB = some 1
  tW : tag L.WB = some 2
  tP : ∀ a, L.PA = some a → tag a.block = some 3
  tS : ∀ p a, p < s.packs.length → L.sa p = some a → tag a.block = some 4
  tw : ∀ i a, i < s.known.length → L.wa i = some a → tag a.block = some (5 + i)
  lt : ∀ b, tag b ≠ none → base ≤ b ∧ b < w.heap.size
  bs : base ≤ w.heap.size
  most0 : s.most ≠ 0
  kz : s.known.length ≤ 65536
  pz : s.packs.length ≤ 1048576
  wz : ∀ i, (s.waits i).length ≤ 1048576
section
variable {w w' : World} {base G : Nat} {tag : Nat → Option Nat} {L : GL} {s : GM}
theorem Gm.below (h : Gm w base G tag L s) (hb : Below w.heap.size w w') : Gm w' base G tag L s :=
  { h with
    g := h.g.belowS hb, kn := h.kn.belowS hb, wt := h.wt.belowS hb, wo := fun i hi => own_below (h.wo i hi) hb, po := own_below h.po hb, so := fun p hp => (h.so p hp).below hb
    lt := fun b e => ⟨(h.lt b e).1, Nat.lt_of_lt_of_le (h.lt b e).2 hb.size⟩, bs := Nat.le_trans h.bs hb.size }
theorem own_chgv {S : Nat → Prop} {w w' : World} {base size n : Nat} {e : TypeId} {v : Value} {xs : List Value} (h : w.ownsRow base e size v n xs) (hc : Chg S w w') (hn : ∀ g, v.ownBlock = some g → ¬ S g) : w'.ownsRow base e size v n xs := by
  refine ⟨h.1, ?_⟩
  rcases h.2 with h2 | ⟨g, cap, cur, rfl, hb, hh, r⟩
  · exact .inl h2
  · exact .inr ⟨g, cap, cur, rfl, hb, (hc.2 g (Array.getElem?_eq_some_iff.1 hh).1 (hn g rfl)).trans hh, r⟩
theorem slice_block {A : Option Addr} {n c g : Nat} (h : (Value.slice A n c).ownBlock = some g) : ∃ a, A = some a ∧ a.block = g := by
  rcases A with _ | a
  · cases h
  · injection h with h; exact ⟨a, rfl, h⟩
/-- What else changes leaves a graph as it was. -/
theorem Gm.other (h : Gm w base G tag L s) {S : Nat → Prop} (hc : Chg S w w') (hS : ∀ b, tag b ≠ none → ¬ S b) : Gm w' base G tag L s :=
  { h with
    g := hc.bk h.g (hS _ (by rw [h.tG]; simp)), kn := hc.bk h.kn (hS _ (by rw [h.tK]; simp)), wt := hc.bk h.wt (hS _ (by rw [h.tW]; simp))
    wo := fun i hi => own_chgv (h.wo i hi) hc (fun g e => by obtain ⟨a, ha, rfl⟩ := slice_block e; exact hS _ (by rw [h.tw i a hi ha]; simp))
    po := own_chgv h.po hc (fun g e => by obtain ⟨a, ha, rfl⟩ := slice_block e; exact hS _ (by rw [h.tP a ha]; simp))
    so := fun p hp => hc.rd (h.so p hp) (fun a ha => hS _ (by rw [h.tS p a hp ha]; simp))
    lt := fun b e => ⟨(h.lt b e).1, Nat.lt_of_lt_of_le (h.lt b e).2 hc.size⟩, bs := Nat.le_trans h.bs hc.size }
end
/-- none -/
theorem none_made {w : World} {base G : Nat} {tag : Nat → Option Nat} {L : GL} {s : GM} (h : Gm w base G tag L s) : Calls Tryz.prog 109 #[.pointer (some ⟨G, 0, none⟩)] w fun e w' => e = .returned (.bool false) ∧ w = w' := by
  have c3 := h.g.cell 3
  have d0 : (s.most == 0) = false := by simpa using h.most0
  clear h
  go_enter Tryz.func109, Tryz.ntmps109
  go_wp2
  go_ret
  exact ⟨rfl, rfl⟩
/-- Unknown, Packets, Edges -/
theorem unknown_any {w : World} {base G : Nat} {tag : Nat → Option Nat} {L : GL} {s : GM} (h : Gm w base G tag L s) : Calls Tryz.prog 81 #[.pointer (some ⟨G, 0, none⟩)] w fun e w' => e = .returned (.int .i64 s.unknown) ∧ w = w' := by
  have H := Lib.hid h
  have c4 := h.g.cell 4
  clear h
  go_enter Tryz.func81, Tryz.ntmps81
  go_wp2_with fail
  refine (none_made H.out).mono ?_
  rintro e w1 ⟨rfl, rfl⟩
  go_wp2
  go_ret
  exact ⟨rfl, rfl⟩
theorem packets_any {w : World} {base G : Nat} {tag : Nat → Option Nat} {L : GL} {s : GM} (h : Gm w base G tag L s) : Calls Tryz.prog 77 #[.pointer (some ⟨G, 0, none⟩)] w fun e w' => e = .returned (.int .i64 (s.packs.length : Nat)) ∧ w = w' := by
  have H := Lib.hid h
  have c2 := h.g.cell 2
  obtain ⟨n, hn⟩ : ∃ n, s.packs.length = n := ⟨_, rfl⟩
  rw [hn] at c2 ⊢
  clear h hn
  go_enter Tryz.func77, Tryz.ntmps77
  go_wp2_with fail
  refine (none_made H.out).mono ?_
  rintro e w1 ⟨rfl, rfl⟩
  go_wp2
  go_ret
  exact ⟨rfl, rfl⟩
/-- slices.Clone of numbers -/
theorem cloneI_any {w : World} {A : Option Addr} {n c : Nat} {l : List Int} (h : Rd w A n (nums l)) (hn : n ≤ 1000000000) :
    Calls Tryz.prog 31 #[.slice A n c] w fun e w' => ∃ v, e = .returned v ∧ w'.ownsRow w.heap.size 3 1 v n (nums l) ∧ Below w.heap.size w w' := by
  obtain ⟨i0, hi0, hz0, hz1, hz2⟩ := info_parts u3_info
  have hnil := Lib.run_eql_slice_nil (P := Tryz.prog) w 22 3 A n c 0 0 Tryz.underlying22
  rcases A with _ | a
  · have h0 : n = 0 := by
      rcases Nat.eq_zero_or_pos n with h0 | h0
      · exact h0
      · obtain ⟨b, off, e, _⟩ := h.form h0; cases e
    subst h0
    have hl : l = [] := List.eq_nil_of_length_eq_zero (by have := h.1; simpa [nums_length] using this)
    subst hl
    go_enter Tryz.func31, Tryz.ntmps31
    go_wp2
    go_ret
    exact ⟨_, rfl, World.ownsRow_nil _ _ _ _, Below.refl _ _⟩
  · go_enter Tryz.func31, Tryz.ntmps31
    go_wp2_with (at_builtin; refine wpList_append_rd _ rfl (.tmp 5) (.tmp 6) _ rfl w.heap.size 3 i0 _ 1 8 Tryz.underlying22 hi0 hz0 hz1 hz2 rfl (by omega) _ 0 [] rfl (own_new0 w _ _ (Nat.le_refl _)) (some a) n c (nums l) rfl (by simpa using h.alloc _) (nums_one l) (by simp only [maxLen]; omega) (by omega) (by simp) ?_; intro v1 w1 hown1 hg1 hat1)
    go_ret
    exact ⟨v1, rfl, by simpa using hown1, ((Below.refl _ _).alloc (Nat.le_refl _) _).grown hg1 (by simp) (fun k hk => ((own_new0 w 3 _ (Nat.le_refl _)).lt k hk).1)⟩
end Go.Proofs.YtlhipaffhehcnaaGreat
namespace Go.Proofs.YtlhipaffhehcnaaGreat
open Go.RowKit
set_option linter.unusedVariables false
def ofL (s : GM) (x : Int) : List Int := if 0 ≤ x ∧ x < s.known.length then s.waits x.toNat else []
def ofE (s : GM) (x : Int) : Int := if 0 ≤ x ∧ x < s.known.length then 0 else 3
/-- New numbers, and an error. -/
def LsPost (w : World) (l : List Int) (x : Int) (e : Ending) (w' : World) : Prop :=
  ∃ v, e = .returned (.tuple #[v, .int .i64 x]) ∧ w'.ownsRow w.heap.size 3 1 v l.length (nums l) ∧ Below w.heap.size w w'
theorem wt_cell {w : World} {base G : Nat} {tag : Nat → Option Nat} {L : GL} {s : GM} (h : Gm w base G tag L s) {i : Nat} (hi : i < s.known.length) : w.cell? ⟨L.WB, i, none⟩ = some (wcell L s i) := by
  rw [h.wt.cell i, List.getElem?_map, List.getElem?_range hi]; rfl
/-- Of -/
theorem of_any {w : World} {base G : Nat} {tag : Nat → Option Nat} {L : GL} {s : GM} (h : Gm w base G tag L s) (x : Int) :
    Calls Tryz.prog 115 #[.pointer (some ⟨G, 0, none⟩), .int .i64 x] w (LsPost w (ofL s x) (ofE s x)) := by
  have H := Lib.hid h
  have c0 := h.g.cell 0
  have c1 := h.g.cell 1
  have hkz := h.kz
  obtain ⟨k, hk⟩ : ∃ k, s.known.length = k := ⟨_, rfl⟩
  rw [hk] at c0 c1 hkz
  have HK := Lib.hid hk
  clear h hk
  by_cases hx : 0 ≤ x ∧ x < k
  · obtain ⟨i, rfl⟩ : ∃ i : Nat, x = i := ⟨x.toNat, by omega⟩
    have hi : i < k := by omega
    have d1 : decide ((i : Int) < 0) = false := by simp
    have d2 : decide ((i : Int) ≥ (k : Int)) = false := by simp; omega
    have d3 : decide ((k : Int) ≤ (i : Int)) = false := by simp; omega
    have d4 : decide (k ≤ i) = false := by simp; omega
    have ik : (i : Int) < (k : Int) := by omega
    have cw := wt_cell H.out (i := i) (by rw [HK.out]; exact hi)
    unfold wcell at cw
    have HP := Lib.hid (And.intro (show ofL s i = s.waits i from by unfold ofL; rw [HK.out, if_pos hx, Int.toNat_natCast]) (And.intro (show ofE s i = 0 from by unfold ofE; rw [HK.out, if_pos hx]) hi))
    clear hx hi
    go_enter Tryz.func115, Tryz.ntmps115
    go_wp2_with fail
    refine (none_made H.out).mono ?_
    rintro e w1 ⟨rfl, rfl⟩
    go_wp2_with fail
    refine (cloneI_any (Rd.of_own (H.out.wo i (by rw [HK.out]; exact HP.out.2.2))) (by have := H.out.wz i; omega)).mono ?_
    rintro e w2 ⟨v, rfl, hown, hb⟩
    have H2 := Lib.hid (And.intro hown hb)
    clear hown hb
    go_wp2
    go_ret2
    exact ⟨v, by rw [HP.out.2.1]; rfl, by rw [HP.out.1]; exact H2.out.1, H2.out.2⟩
  · have HP := Lib.hid (And.intro (show ofL s x = [] from by unfold ofL; rw [HK.out, if_neg hx]) (show ofE s x = 3 from by unfold ofE; rw [HK.out, if_neg hx]))
    by_cases h0 : x < 0
    · have d1 : decide (x < 0) = true := by simpa using h0
      clear hx h0
      go_enter Tryz.func115, Tryz.ntmps115
      go_wp2_with fail
      refine (none_made H.out).mono ?_
      rintro e w1 ⟨rfl, rfl⟩
      go_wp2
      go_ret2
      exact ⟨_, by rw [HP.out.2]; rfl, by rw [HP.out.1]; exact World.ownsRow_nil _ _ _ _, Below.refl _ _⟩
    · have d1 : decide (x < 0) = false := by simpa using h0
      have d2 : decide (x ≥ (k : Int)) = true := by simp; omega
      have d3 : decide ((k : Int) ≤ x) = true := by simp; omega
      clear hx h0
      go_enter Tryz.func115, Tryz.ntmps115
      go_wp2_with fail
      refine (none_made H.out).mono ?_
      rintro e w1 ⟨rfl, rfl⟩
      go_wp2
      go_ret2
      exact ⟨_, by rw [HP.out.2]; rfl, by rw [HP.out.1]; exact World.ownsRow_nil _ _ _ _, Below.refl _ _⟩
/-- Sets of symbols. -/
def okS (k : Int) : Int → List Int → Bool
  | _, [] => true
  | last, x :: l => if x ≤ last ∨ k ≤ x then false else okS k x l
def setB (k : Int) (l : List Int) : Bool := okS k (-1) l && decide (0 < l.length)
set_option maxRecDepth 100000 in
set_option maxHeartbeats 1600000 in
/-- set -/
theorem set_any {w : World} {base G : Nat} {tag : Nat → Option Nat} {L : GL} {s : GM} (h : Gm w base G tag L s) {A : Option Addr} {n c : Nat} {l : List Int} (hr : Rd w A n (nums l)) (hn : n ≤ 1000000) :
    Calls Tryz.prog 110 #[.pointer (some ⟨G, 0, none⟩), .slice A n c] w fun e w' => e = .returned (.bool (setB s.known.length l)) ∧ w = w' := by
  have hl : l.length = n := by have := hr.1; simpa [nums_length] using this
  have c0 := h.g.cell 0
  obtain ⟨k, hk⟩ : ∃ k, s.known.length = k := ⟨_, rfl⟩
  rw [hk] at c0 ⊢
  have HR := Lib.hid (And.intro hr hl)
  clear h hr hl hk
  go_enter Tryz.func110, Tryz.ntmps110
  go_wp2
  go_loopw [5, 10] (fun v i wr => ∃ (j : Nat) (last : Int), j ≤ n ∧ i = .int .i64 j ∧ v = .int .i64 last ∧ okS k last (l.drop j) = okS k (-1) l ∧ wr = w) (fun v i wr => n - (intOf i).toNat)
  case atStart => exact ⟨0, -1, by omega, rfl, rfl, rfl, rfl⟩
  case round =>
    obtain ⟨j, last, hj, rfl, rfl, ho, rfl⟩ := hrel
    by_cases hlt : j < n
    · obtain ⟨b, off, rfl, hbl, hcc⟩ := HR.out.1.form (by omega)
      have hjl : j < l.length := by rw [HR.out.2]; exact hlt
      have cx := hcc j _ (nums_gi hjl)
      rw [List.drop_eq_getElem_cons hjl, ← gi_get hjl] at ho
      have km : (j : Int) < (n : Int) := by omega
      have HJ := Lib.hid (And.intro ho hlt)
      clear hcc hbl ho hlt
      generalize gi l j = x at cx HJ
      by_cases h1 : x ≤ last
      · have d1 : decide (x ≤ last) = true := by simpa using h1
        have HB := Lib.hid (show setB k l = false from by unfold setB; rw [← HJ.out.1]; unfold okS; rw [if_pos (.inl h1)]; rfl)
        clear h1
        go_wp2
        go_ret
        exact ⟨ret_bool (by rw [HB.out]), rfl⟩
      · have d1 : decide (x ≤ last) = false := by simpa using h1
        by_cases h2 : (k : Int) ≤ x
        · have d2 : decide (x ≥ (k : Int)) = true := by simpa using h2
          have d3 : decide ((k : Int) ≤ x) = true := by simpa using h2
          have HB := Lib.hid (show setB k l = false from by unfold setB; rw [← HJ.out.1]; unfold okS; rw [if_pos (.inr h2)]; rfl)
          clear h1 h2
          go_wp2
          go_ret
          exact ⟨ret_bool (by rw [HB.out]), rfl⟩
        · have d2 : decide (x ≥ (k : Int)) = false := by simpa using h2
          have d3 : decide ((k : Int) ≤ x) = false := by simpa using h2
          have HB := Lib.hid (show okS k x (l.drop (j + 1)) = okS k (-1) l from by
            rw [← HJ.out.1]
            show _ = if x ≤ last ∨ (k : Int) ≤ x then false else okS k x (l.drop (j + 1))
            rw [if_neg (by omega)])
          clear h1 h2
          go_wp2
          exact ⟨⟨j + 1, x, by have := HJ.out.2; omega, by go_num, rfl, HB.out, trivial⟩, by have := HJ.out.2; simp [intOf]; omega⟩
    · obtain rfl : j = n := by omega
      have hb : okS k (-1) l = true := by rw [← ho, List.drop_eq_nil_of_le (by rw [HR.out.2]; exact Nat.le_refl _)]; rfl
      have HB := Lib.hid (show setB k l = decide (0 < j) from by unfold setB; rw [hb, HR.out.2]; rfl)
      clear hlt hj ho hb
      go_wp2
      go_ret
      exact ⟨ret_bool (by rw [HB.out]), rfl⟩
/-- less -/
theorem less_any {w : World} {b o : Nat} {m x y : Int} (c1 : w.cell? ⟨b, o + 1, none⟩ = some (.int .i64 m)) (c2 : w.cell? ⟨b, o + 2, none⟩ = some (.int .i64 x)) (f1 : w.frozen? ⟨b, o + 1, none⟩ = false) (f2 : w.frozen? ⟨b, o + 2, none⟩ = false) (hm : 1 ≤ m ∧ m ≤ 1000000) :
    Calls Tryz.prog 146 #[.pointer (some ⟨b, o, none⟩), .int .i64 y] w fun e w' => e = .returned (.bool (m - 1 == 1)) ∧ w' = (w.setCell ⟨b, o + 1, none⟩ (.int .i64 (m - 1))).setCell ⟨b, o + 2, none⟩ (.int .i64 (bits .xor .i64 x y)) := by
  have hw : IntKind.i64.wrap (m - 1) = m - 1 := by rw [IntKind.wrap_i64]; omega
  go_enter Tryz.func146, Tryz.ntmps146
  go_wp2
  go_ret
  exact ⟨rfl, rfl⟩
end Go.Proofs.YtlhipaffhehcnaaGreat
namespace Go.Proofs.YtlhipaffhehcnaaGreat
open Go.RowKit
set_option linter.unusedVariables false
theorem bool_info : (Tryz.prog.info? 4).map (fun i => (i.zero, i.size, i.bytes)) = some (some (.bool false), 1, 1) := by kernel_rfl
theorem ints_info : (Tryz.prog.info? 22).map (fun i => (i.zero, i.size, i.bytes)) = some (some (.slice none 0 0), 1, 24) := by kernel_rfl
theorem made_one {z : Value} (hz : z.cells = #[z]) (m : Nat) : madeCells z.cells (m * 1) = (List.replicate m z).toArray := by
  rw [hz]
  apply Array.ext
  · simp [madeCells]
  · intro i h1 h2
    simp [madeCells, Nat.mod_one]
theorem run_make_bools (m : Nat) (hm : m ≤ 1000000) (w : World) : (Instr.makeSlice 160 (.int .i64 (m : Int)) (.int .i64 (m : Int))).run Tryz.prog w = .ok (.slice (some ⟨w.heap.size, 0, none⟩) m m) (w.alloc (.cells (List.replicate m (.bool false)).toArray 4)) := by
  obtain ⟨i0, hi0, hz0, hz1, hz2⟩ := info_parts bool_info
  have := run_make (P := Tryz.prog) w 160 4 i0 (.bool false) Tryz.underlying160 hi0 hz0 .i64 .i64 m m (by omega) (by omega) (by rw [hz2]; omega) (by omega)
  rw [hz1] at this
  simp only [Int.toNat_natCast] at this
  rw [made_one rfl] at this
  exact this
theorem run_make_rows (m : Nat) (hm : m ≤ 1000000) (w : World) : (Instr.makeSlice 27 (.int .i64 (m : Int)) (.int .i64 (m : Int))).run Tryz.prog w = .ok (.slice (some ⟨w.heap.size, 0, none⟩) m m) (w.alloc (.cells (List.replicate m (.slice none 0 0)).toArray 22)) := by
  obtain ⟨i0, hi0, hz0, hz1, hz2⟩ := info_parts ints_info
  have := run_make (P := Tryz.prog) w 27 22 i0 (.slice none 0 0) Tryz.underlying27 hi0 hz0 .i64 .i64 m m (by omega) (by omega) (by rw [hz2]; omega) (by omega)
  rw [hz1] at this
  simp only [Int.toNat_natCast] at this
  rw [made_one rfl] at this
  exact this
theorem bkA0 (w : World) (cs : List Value) (t : TypeId) (o1 o2 : Obj) : Bk (((w.alloc (.cells cs.toArray t)).alloc o1).alloc o2).drew w.heap.size t cs := ((Bk.new w t cs).alloc o1).alloc o2
theorem bkA1 (w : World) (cs : List Value) (t : TypeId) (o0 o2 : Obj) : Bk (((w.alloc o0).alloc (.cells cs.toArray t)).alloc o2).drew (w.heap.size + 1) t cs := by
  have := (Bk.new (w.alloc o0) t cs).alloc o2
  rw [World.size_alloc] at this
  exact this
theorem bkA2 (w : World) (cs : List Value) (t : TypeId) (o0 o1 : Obj) : Bk (((w.alloc o0).alloc o1).alloc (.cells cs.toArray t)).drew (w.heap.size + 1 + 1) t cs := by
  have := Bk.new ((w.alloc o0).alloc o1) t cs
  rw [World.size_alloc, World.size_alloc] at this
  exact this
theorem belA3 (w : World) (o0 o1 o2 : Obj) : Below w.heap.size w (((w.alloc o0).alloc o1).alloc o2).drew :=
  ((((Below.refl _ _).alloc (Nat.le_refl _) o0).alloc (by rw [World.size_alloc]; omega) o1).alloc (by rw [World.size_alloc, World.size_alloc]; omega) o2).drew
def gm0 (k : Nat) (most : Int) : GM := ⟨List.replicate k false, fun _ => [], [], most, k, 0⟩
def gl0 (KB WB : Nat) : GL := ⟨KB, WB, fun _ => none, fun _ => 0, none, 0, fun _ => none, fun _ => 0⟩
def tg0 (G KB WB : Nat) (b : Nat) : Option Nat := if b = G then some 0 else if b = KB then some 1 else if b = WB then some 2 else none
theorem gm_new {w0 w : World} {G KB WB k : Nat} {most : Int} (hG : Bk w G 163 [.slice (some ⟨KB, 0, none⟩) k k, .slice (some ⟨WB, 0, none⟩) k k, .slice none 0 0, .int .i64 most, .int .i64 k, .int .i64 0])
    (hK : Bk w KB 4 (List.replicate k (.bool false))) (hW : Bk w WB 22 (List.replicate k (.slice none 0 0))) (h1 : G ≠ KB) (h2 : G ≠ WB) (h3 : KB ≠ WB) (b1 : w0.heap.size ≤ G) (b2 : w0.heap.size ≤ KB) (b3 : w0.heap.size ≤ WB) (hm : most ≠ 0) (hk : k ≤ 65536) :
    Gm w w0.heap.size G (tg0 G KB WB) (gl0 KB WB) (gm0 k most) := by
  have hl : (gm0 k most).known.length = k := by simp [gm0]
  have hGl := hG.lt
  have hKl := hK.lt
  have hWl := hW.lt
  refine ⟨?_, ?_, ?_, fun i hi => World.ownsRow_nil _ _ _ _, World.ownsRow_nil _ _ _ _, fun p hp => absurd hp (Nat.not_lt_zero _), ?_, ?_, ?_, fun a e => (by cases e), fun p a hp => absurd hp (Nat.not_lt_zero _), fun i a _ e => (by cases e), ?_, by omega, hm, by rw [hl]; exact hk, Nat.zero_le _, fun i => Nat.zero_le _⟩
  · rw [hl]; exact hG
  · show Bk w KB 4 ((List.replicate k false).map .bool)
    rw [List.map_replicate]; exact hK
  · rw [hl]
    have : (List.range k).map (wcell (gl0 KB WB) (gm0 k most)) = List.replicate k (.slice none 0 0) := by
      rw [List.eq_replicate_iff]
      refine ⟨by simp, fun x hx => ?_⟩
      obtain ⟨i, _, rfl⟩ := List.mem_map.1 hx
      rfl
    rw [this]; exact hW
  · unfold tg0; rw [if_pos rfl]
  · unfold tg0 gl0; rw [if_neg (fun e => h1 e.symm), if_pos rfl]
  · unfold tg0 gl0; rw [if_neg (fun e => h2 e.symm), if_neg (fun e => h3 e.symm), if_pos rfl]
  · intro b hb
    unfold tg0 at hb
    by_cases e1 : b = G
    · subst e1; omega
    · by_cases e2 : b = KB
      · subst e2; omega
      · by_cases e3 : b = WB
        · subst e3; omega
        · rw [if_neg e1, if_neg e2, if_neg e3] at hb; exact absurd rfl hb
def bad (k most : Int) : Prop := k < 1 ∨ 65536 < k ∨ most < 1 ∨ 1048576 < most
instance (k most : Int) : Decidable (bad k most) := by unfold bad; infer_instance
def NgPost (w : World) (k most : Int) (e : Ending) (w' : World) : Prop :=
  if bad k most then e = .returned (.tuple #[.pointer none, .int .i64 3]) ∧ w' = w
  else ∃ G KB WB, e = .returned (.tuple #[.pointer (some ⟨G, 0, none⟩), .int .i64 0]) ∧ Gm w' w.heap.size G (tg0 G KB WB) (gl0 KB WB) (gm0 k.toNat most) ∧ Below w.heap.size w w'
set_option maxRecDepth 100000 in
set_option maxHeartbeats 1600000 in
/-- New -/
theorem new_any {w : World} (k most : Int) : Calls Tryz.prog 72 #[.int .i64 k, .int .i64 most] w (NgPost w k most) := by
  by_cases hb : bad k most
  · have HB := Lib.hid (show NgPost w k most (.returned (.tuple #[.pointer none, .int .i64 3])) w from by unfold NgPost; rw [if_pos hb]; exact ⟨rfl, rfl⟩)
    by_cases h1 : k < 1
    · have d1 : decide (k < 1) = true := by simpa using h1
      clear hb h1
      go_enter Tryz.func72, Tryz.ntmps72
      go_wp2
      go_ret2
      exact HB.out
    · have d1 : decide (k < 1) = false := by simpa using h1
      by_cases h2 : 65536 < k
      · have d2 : decide (k > 65536) = true := by simpa using h2
        have d3 : decide (65536 < k) = true := by simpa using h2
        clear hb h1 h2
        go_enter Tryz.func72, Tryz.ntmps72
        go_wp2
        go_ret2
        exact HB.out
      · have d2 : decide (k > 65536) = false := by simpa using h2
        have d3 : decide (65536 < k) = false := by simpa using h2
        by_cases h3 : most < 1
        · have d4 : decide (most < 1) = true := by simpa using h3
          clear hb h1 h2 h3
          go_enter Tryz.func72, Tryz.ntmps72
          go_wp2
          go_ret2
          exact HB.out
        · have d4 : decide (most < 1) = false := by simpa using h3
          have d5 : decide (most > 1048576) = true := by unfold bad at hb; simp; omega
          have d6 : decide (1048576 < most) = true := by unfold bad at hb; simp; omega
          clear hb h1 h2 h3
          go_enter Tryz.func72, Tryz.ntmps72
          go_wp2
          go_ret2
          exact HB.out
  · have hb' := hb
    unfold bad at hb'
    obtain ⟨n, rfl⟩ : ∃ n : Nat, k = n := ⟨k.toNat, by omega⟩
    have d1 : decide ((n : Int) < 1) = false := by simp; omega
    have d1' : decide (n < 1) = false := by simp; omega
    have d2 : decide ((n : Int) > 65536) = false := by simp; omega
    have d3 : decide ((65536 : Int) < (n : Int)) = false := by simp; omega
    have d3' : decide (65536 < n) = false := by simp; omega
    have d4 : decide (most < 1) = false := by simp; omega
    have d5 : decide (most > 1048576) = false := by simp; omega
    have d6 : decide (1048576 < most) = false := by simp; omega
    have hmk1 := run_make_bools n (by omega)
    have hmk2 := run_make_rows n (by omega)
    have HB := Lib.hid (And.intro hb (show n ≤ 65536 ∧ most ≠ 0 from by omega))
    clear hb hb'
    generalize hZ1 : List.replicate n (Value.bool false) = Z1 at hmk1
    generalize hZ2 : List.replicate n (Value.slice none 0 0) = Z2 at hmk2
    have HZ := Lib.hid (And.intro hZ1 hZ2)
    clear hZ1 hZ2
    go_enter Tryz.func72, Tryz.ntmps72
    go_wp2_with fail
    go_region
    all_goals go_wp2_with fail
    all_goals go_ret2
    all_goals unfold NgPost
    all_goals rw [if_neg HB.out.1, Int.toNat_natCast]
    all_goals first
      | exact ⟨w.heap.size + 1 + 1, w.heap.size, w.heap.size + 1, rfl, gm_new (bkA2 w _ _ _ _) (by rw [HZ.out.1]; exact bkA0 w _ _ _ _) (by rw [HZ.out.2]; exact bkA1 w _ _ _ _) (by omega) (by omega) (by omega) (by omega) (by omega) (by omega) HB.out.2.2 HB.out.2.1, belA3 w _ _ _⟩
      | exact ⟨w.heap.size + 1 + 1, w.heap.size + 1, w.heap.size, rfl, gm_new (bkA2 w _ _ _ _) (by rw [HZ.out.1]; exact bkA1 w _ _ _ _) (by rw [HZ.out.2]; exact bkA0 w _ _ _ _) (by omega) (by omega) (by omega) (by omega) (by omega) (by omega) HB.out.2.2 HB.out.2.1, belA3 w _ _ _⟩
end Go.Proofs.YtlhipaffhehcnaaGreat
