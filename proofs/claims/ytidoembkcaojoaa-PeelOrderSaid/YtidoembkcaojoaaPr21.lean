/- Chapter 21: two decoders of a law. Chapter 21: PeelRefused's walk. -/
import Derived.Test.YtidoembkcaojoaaTu21
import Derived.Test.YtidoembkcaojoaaNo21
namespace Go.Proofs.Ytidoembkcaojoaa
open Go.RowKit
set_option linter.unusedVariables false
/-- Two decoders made since w0; blocks Hd are neither's. -/
def L2 (w0 w : World) (Dx : Nat) (dx : DS) (Dy : Nat) (dy : DS) (Hd : Nat → Prop) : Prop :=
  Below w0.heap.size w0 w ∧ (∀ b, Hd b → b < w.heap.size) ∧ ∃ bx FX b2 FY, Dw w bx Dx dx FX ∧ Dw w b2 Dy dy FY ∧ (∀ b, FX b ∨ FY b → w0.heap.size ≤ b ∧ b < w.heap.size ∧ ¬ Hd b) ∧ ∀ b, FX b → ¬ FY b
section
variable {w0 w1 w w' : World} {Dx Dy : Nat} {dx dy : DS} {Hd Hd' : Nat → Prop}
theorem L2.symm (h : L2 w0 w Dx dx Dy dy Hd) : L2 w0 w Dy dy Dx dx Hd := by
  obtain ⟨h1, h2, bx, FX, b2, FY, h3, h4, h5, h6⟩ := h
  exact ⟨h1, h2, b2, FY, bx, FX, h4, h3, fun b hb => h5 b hb.symm, fun b hb hx => h6 b hx hb⟩
theorem L2.below (h : L2 w0 w1 Dx dx Dy dy Hd) (hb : Below w1.heap.size w1 w) : L2 w0 w Dx dx Dy dy Hd := by
  obtain ⟨h1, h2, bx, FX, b2, FY, h3, h4, h5, h6⟩ := h
  have hz := hb.size
  exact ⟨below_base h1 hb h1.size, fun b e => by have := h2 b e; omega, bx, FX, b2, FY, h3.below hb, h4.below hb, fun b e => by have := h5 b e; exact ⟨this.1, by omega, this.2.2⟩, h6⟩
theorem L2.held (h : L2 w0 w Dx dx Dy dy Hd) (hs : ∀ b, Hd' b → Hd b) : L2 w0 w Dx dx Dy dy Hd' := by
  obtain ⟨h1, h2, bx, FX, b2, FY, h3, h4, h5, h6⟩ := h
  exact ⟨h1, fun b e => h2 b (hs b e), bx, FX, b2, FY, h3, h4, fun b e => ⟨(h5 b e).1, (h5 b e).2.1, fun e2 => (h5 b e).2.2 (hs b e2)⟩, h6⟩
theorem L2.lp (h : L2 w0 w Dx dx Dy dy Hd) : Lp w0 w Dx dx := by
  obtain ⟨h1, h2, bx, FX, b2, FY, h3, h4, h5, h6⟩ := h
  exact ⟨h1, bx, FX, h3, fun b e => ⟨(h5 b (.inl e)).1, (h5 b (.inl e)).2.1⟩⟩
theorem L2.made (h : Lp w0 w1 Dx dx) {k s most : Int} {e : Ending} (hn : PwPost w1 k s most e w) (hp : ¬ pbad k s most) : ∃ Dy, e = .returned (.tuple #[.pointer (some ⟨Dy, 0, none⟩), .int .i64 0]) ∧ L2 w0 w Dx dx Dy (newD k.toNat s.toNat most) (fun _ => False) := by
  unfold PwPost at hn
  rw [if_neg hp] at hn
  obtain ⟨Dy, rfl, g1, g2⟩ := hn
  obtain ⟨h1, bx, FX, h2, h3⟩ := h
  have hz := h1.size
  have hz2 := g2.size
  refine ⟨Dy, rfl, below_base h1 g2 h1.size, fun b e => e.elim, bx, FX, _, _, h2.below g2, g1, fun b e => ?_, fun b e e2 => by have := (h3 b e).2; omega⟩
  rcases e with e | e
  · have := h3 b e; exact ⟨this.1, by omega, id⟩
  · exact ⟨by omega, e.2, id⟩
theorem l2_add (h : L2 w0 w1 Dx dx Dy dy Hd) (hb : Below w1.heap.size w1 w) {A B : Option Addr} {n nb cA cB : Nat} {set : List Int} {pay : List UInt8} {id : Int} (hN : dx.sets.length < 1000) (hr : Rd w A n (nums set)) (hn : n ≤ 1000000) (hp : Rd w B nb (bys pay)) (hnb : nb ≤ 140737488351232) (hw : (Lit.int .i64 id).wf = true)
    (hA : 0 < n → ∀ a, A = some a → a.block < w0.heap.size ∨ w1.heap.size ≤ a.block ∨ Hd a.block) (hB : 0 < nb → ∀ a, B = some a → a.block < w0.heap.size ∨ w1.heap.size ≤ a.block ∨ Hd a.block) :
    Calls Try.prog 14 #[.pointer (some ⟨Dx, 0, none⟩), .int .i64 id, .slice A n cA, .slice B nb cB] w fun e w' => ∃ v, e = .returned (.tuple #[v, .int .i64 (dx.add id set pay).2.1]) ∧ L2 w0 w' Dx (dx.add id set pay).2.2 Dy dy (fun b => Hd b ∨ v.ownBlock = some b) ∧ w'.ownsRow w.heap.size 3 1 v (dx.add id set pay).1.length (nums (dx.add id set pay).1) ∧ (∀ b, (b < w0.heap.size ∨ w1.heap.size ≤ b ∨ Hd b) → b < w.heap.size → w'.heap[b]? = w.heap[b]?) ∧ w.heap.size ≤ w'.heap.size := by
  obtain ⟨h1, h2, bx, FX, b2, FY, h3, h4, h5, h6⟩ := h
  have hap : ∀ b, (b < w0.heap.size ∨ w1.heap.size ≤ b ∨ Hd b) → ¬ FX b := fun b hb e => by
    have := h5 b (.inl e)
    rcases hb with e2 | e2 | e2
    · omega
    · omega
    · exact this.2.2 e2
  refine (add_dw (h3.below hb) hN hr hn hp hnb hw (fun h0 a ha => hap _ (hA h0 a ha)) (fun h0 a ha => hap _ (hB h0 a ha))).mono ?_
  rintro e w' ⟨v, FB, rfl, p1, p2, p3, p4⟩
  have hz := p3.size
  have hzb := hb.size
  have hb1 := below_base h1 hb h1.size
  have hz0 := hb1.size
  refine ⟨v, rfl, ⟨p3.below hb1 (fun b hb e => (h5 b (.inl e)).1) hb1.size, fun b e => ?_, bx, _, b2, FY, p1.tight, (h4.below hb).other p3 (fun b hb hx => h6 b hx hb), fun b e => ?_, fun b e hy => ?_⟩, p4.1, fun b hb hl => p3.2 b hl (hap b hb), hz⟩
  · rcases e with e | e
    · have := h2 b e; omega
    · obtain ⟨⟨cs, hk⟩, _⟩ := own_ty p4.1 e
      exact hk.lt
  · rcases e with e | e
    · rcases p2 b e.1 with g | g
      · have g5 := h5 b (.inl g)
        refine ⟨g5.1, e.2, fun hh => hh.elim g5.2.2 fun g2 => p4.2 b g2 e.1⟩
      · refine ⟨by omega, e.2, fun hh => hh.elim (fun g2 => by have := h2 b g2; omega) fun g2 => p4.2 b g2 e.1⟩
    · have g5 := h5 b (.inr e)
      refine ⟨g5.1, by omega, fun hh => hh.elim g5.2.2 fun g2 => ?_⟩
      have := (own_ty p4.1 g2).2
      omega
  · rcases p2 b e.1 with g | g
    · exact h6 b g hy
    · have := h5 b (.inr hy); omega
end
end Go.Proofs.Ytidoembkcaojoaa
namespace Go.Proofs.Ytidoembkcaojoaa
open Go.RowKit
set_option linter.unusedVariables false
/-- The state at the head of a round: both decoders are one. -/
structure RF (w0 wr : World) (Dx Dy k : Nat) (blk : List (List UInt8)) (sets : List (List Int)) (j : Nat) (d : DS) : Prop where
  l2 : L2 w0 wr Dx d Dy d fun _ => False
  ti : TI k blk d
  st : d.sets = sets.take j
  id : d.ids = idsTo j
theorem take_getD {sets : List (List Int)} {j : Nat} {S : List Int} (hj : j < sets.length) (h : sets.getD j [] = S) : sets.take j ++ [S] = sets.take (j + 1) := by
  rw [List.take_succ_eq_append_getElem hj, ← h, List.getD_eq_getElem?_getD, List.getElem?_eq_getElem hj]; rfl
theorem wf_small {j : Nat} (hj : j ≤ 1000) : (Lit.int .i64 (j : Int)).wf = true := by
  have h1 : IntKind.i64.min = -9223372036854775808 := by decide
  have h2 : IntKind.i64.max = 9223372036854775807 := by decide
  unfold Lit.wf
  simp [h1, h2]
  omega
/-- A sum is added to the first one. -/
theorem l2_sum {w0 wr w4 : World} {Dx Dy k : Nat} {blk : List (List UInt8)} {dx dy : DS} {Hd : Nat → Prop} (h : L2 w0 wr Dx dx Dy dy Hd) (ti : TI k blk dx) (hb : BlkOk k blk) {S : List Int} (hS : Sset k S) {id : Nat} (hid : ¬ (id : Int) ∈ dx.ids) (h25 : dx.sets.length < 25) (hi25 : id ≤ 25) (hb4 : Below wr.heap.size wr w4) {B V : Option Addr} {c cv L : Nat} (hL : S.length = L) (hr : Rd w0 B L (nums S)) (ho : w4.ownsRow wr.heap.size 5 1 (.slice V 2 cv) 2 (bys (sumB blk S))) (hk12 : k ≤ 12) :
    Calls Try.prog 14 #[.pointer (some ⟨Dx, 0, none⟩), .int .i64 (id : Nat), .slice B L c, .slice V 2 cv] w4 fun e w' => ∃ v out d', dx.add (id : Int) S (sumB blk S) = (out, 0, d') ∧ e = .returned (.tuple #[v, .int .i64 0]) ∧ L2 w0 w' Dx d' Dy dy (fun b => Hd b ∨ v.ownBlock = some b) ∧ TI k blk d' ∧ d'.sets = dx.sets ++ [S] ∧ d'.ids = dx.ids ++ [(id : Int)] ∧ w'.ownsRow w4.heap.size 3 1 v out.length (nums out) ∧ (∀ b, (b < w0.heap.size ∨ wr.heap.size ≤ b ∨ Hd b) → b < w4.heap.size → w'.heap[b]? = w4.heap[b]?) ∧ w4.heap.size ≤ w'.heap.size ∧ out.length ≤ 12 := by
  have he := ti.err hb (id := (id : Int)) (by omega) hS hid h25
  obtain ⟨out, d', e, p1, p2, p3, p4⟩ := ti.add hb he
  have hlen := hS.len
  have hb0 := h.lp.1
  refine (l2_add (cA := c) (cB := cv) h hb4 (by omega) (hr.below (below_base hb0 hb4 hb0.size)) (by omega) (Rd.of_own ho) (by decide) (wf_small (by omega)) (fun h0 a ha => .inl (hr.lt h0 a ha)) (fun h0 a ha => .inr (.inl (own_lt ho a ha).1))).mono ?_
  rintro e' w' ⟨v, rfl, q1, q2, q3, q4⟩
  rw [e] at q1 q2
  have h5 := unk_le dx.kn
  have h6 := ti.ok.kl
  have h7 := ti.kk
  exact ⟨v, out, d', e, by rw [e], q1, p1, p2, p3, q2, q3, q4, by omega⟩
theorem odd_err {k : Nat} {blk : List (List UInt8)} {d : DS} (ti : TI k blk d) {j : Nat} (hid : (j : Int) ∈ d.ids) {id : Int} {set : List Int} {pay : List UInt8} (h : id = j ∨ pay.length ≠ 2) : d.err id set pay ≠ 0 := by
  unfold DS.err
  split
  · decide
  · split
    · decide
    · rename_i h2
      split
      · decide
      · rename_i h3
        rcases h with h | h
        · rw [h] at h3; exact absurd hid h3
        · exact absurd (.inr (by rw [ti.ss]; exact h)) h2
/-- A packet that is refused. -/
theorem l2_odd {w0 wr w4 : World} {Dx Dy k : Nat} {blk : List (List UInt8)} {d : DS} (h : L2 w0 wr Dx d Dy d fun _ => False) (ti : TI k blk d) {j : Nat} (hid : (j : Int) ∈ d.ids) {id : Int} {set : List Int} {pay : List UInt8} (ho : id = j ∨ pay.length ≠ 2) (hb4 : Below wr.heap.size wr w4) {A V : Option Addr} {n c m cv : Nat} (hr : Rd w0 A n (nums set)) (hn : n ≤ 1000000) (hp : w4.ownsRow wr.heap.size 5 1 (.slice V m cv) m (bys pay)) (hm : m ≤ 1000) (hwf : (Lit.int .i64 id).wf = true) (h25 : d.sets.length ≤ 25) :
    Calls Try.prog 14 #[.pointer (some ⟨Dy, 0, none⟩), .int .i64 id, .slice A n c, .slice V m cv] w4 fun e w' => ∃ v x, e = .returned (.tuple #[v, .int .i64 x]) ∧ x ≠ 0 ∧ L2 w0 w' Dx d Dy d fun _ => False := by
  have he := odd_err ti hid (set := set) ho
  have hb0 := h.lp.1
  refine (l2_add (cA := c) (cB := cv) h.symm hb4 (by omega) (hr.below (below_base hb0 hb4 hb0.size)) hn (Rd.of_own hp) (by omega) hwf (fun h0 a ha => .inl (hr.lt h0 a ha)) (fun h0 a ha => .inr (.inl (own_lt hp a ha).1))).mono ?_
  rintro e w' ⟨v, rfl, q1, _⟩
  rw [dadd_bad he] at q1
  exact ⟨v, d.err id set pay, by rw [dadd_bad he], he, q1.symm.held fun b e => e.elim⟩
end Go.Proofs.Ytidoembkcaojoaa
