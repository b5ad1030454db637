/- GraphDeeds: done. -/
import Derived.Test.YtcgcbajgclkmkaaGd20
namespace Go.Proofs.Ytcgcbajgclkmkaa
open Go.RowKit
set_option linter.unusedVariables false
section
variable {w0 w w' : World} {G W KB : Nat} {A : Option Addr} {pc : Nat} {vs : List Value} {tag R : Nat → Option Nat} {L : GL} {kn : List Bool} {S : List (List Int)} {most : Int}
def TwPost (w0 : World) (G W : Nat) (k : Nat) (m : Nat) (most : Int) (w' : World) : Prop :=
  ∃ KB A pc vs tag R L kn S, Two w0 w' G W KB A pc vs tag R L kn S most ∧ kn.length = k ∧ S.length ≤ m
theorem adS_len (kn : List Bool) (S : List (List Int)) (most : Int) (l : List Int) : (adS kn S most l).length ≤ S.length + 1 := by
  unfold adS
  split
  · omega
  · split
    · omega
    · simp
set_option maxRecDepth 100000 in
set_option maxHeartbeats 3200000 in
theorem done_any (h : Two w0 w G W KB A pc vs tag R L kn S most) (hs : S.length < 100000) {it : De} {B : Option Addr} {n c : Nat} (hr : Rd w0 B n (nums it.set)) (hn : n ≤ 40) :
    Calls Try.prog 22 #[.pointer (some ⟨G, 0, none⟩), .pointer (some ⟨W, 0, none⟩), .agg #[.bool it.takes, .int .i64 it.sym, .slice B n c]] w fun e w' => e = .returned (.bool true) ∧ TwPost w0 G W kn.length (S.length + 1) most w' := by
  obtain ⟨tk, sym, set⟩ := it
  have hl : set.length = n := by have := hr.1; simpa [nums_length] using this
  have hbx := Bk.newA w 48 #[.bool tk, .int .i64 sym, .slice B n c]
  have hnb := h.new (Nat.le_refl _)
  have h1 := h.below ((Below.refl _ _).alloc (Nat.le_refl _) (.cells #[.bool tk, .int .i64 sym, .slice B n c] 48))
  have H := Lib.hid (And.intro h1 (And.intro hbx (And.intro hnb (And.intro hr (And.intro hl (And.intro hs h))))))
  have hbl := Lib.hid hbx.lt
  cases tk with
  | true =>
    have hbl2 : w.heap.size < (w.alloc (.cells #[.bool true, .int .i64 sym, .slice B n c] 48)).heap.size := hbl.out
    clear h hr hl hbx hnb h1 hs
    go_enter Try.func22, Try.ntmps22
    go_wp2_with fail
    refine (take_gr H.out.1.gr sym).mono ?_
    rintro e w2 ⟨v2, L2, rfl, ho2, g2, c2⟩
    have hx2 := c2.bk H.out.2.1 (fun e => e H.out.2.2.1.1)
    have r2 := H.out.1.rg.chg c2 (fun b hb e => hb (by
      cases q : R b with
      | none => rfl
      | some u => exact absurd (H.out.1.ap b e) (by rw [q]; simp)))
    have b2 := H.out.1.gr.chgB H.out.1.b c2
    have cx := hx2.cell 1
    have H2 := Lib.hid (And.intro g2 (And.intro r2 (And.intro b2 (And.intro ho2 hx2))))
    clear ho2 g2 c2 hx2 r2 b2
    go_wp2_with fail
    refine (rTake_any H2.out.2.1 sym).mono ?_
    rintro e w3 ⟨v3, rfl, ho3, r3, c3⟩
    obtain ⟨A2, d2, rfl, _⟩ := own_slice H2.out.2.2.2.1
    obtain ⟨A3, d3, rfl, _⟩ := own_slice ho3
    have hKl := H.out.2.2.2.2.2.2.rg.kb.lt
    have ho2 := own_chgv H2.out.2.2.2.1 c3 (fun b hb (e : b = KB) => by have := (H2.out.2.2.2.1.lt b hb).1; rw [World.size_alloc] at this; omega)
    have g3 := H2.out.1.other c3 (fun b hb (e : b = KB) => by have := H.out.1.ap b hb; rw [e, H.out.1.rg.tK] at this; cases this)
    have b3 := c3.below H2.out.2.2.1 (fun b _ (e : b = KB) => by rw [e]; exact (H.out.1.rg.lt KB (by rw [H.out.1.rg.tK]; simp)).1) H2.out.2.2.1.size
    have hll : (tkL kn S sym).length ≤ 100000 := Nat.le_trans (tkL_le _ _ _) H.out.1.rg.sz
    have H3 := Lib.hid (And.intro (Two.mk g3 r3 b3 H.out.1.ap) (And.intro ho2 ho3))
    have hle := Lib.hid (tkK_len kn sym)
    clear ho3 r3 c3 hKl ho2 g3 b3 cx
    obtain ⟨l, hl⟩ : ∃ l, tkL kn S sym = l := ⟨_, rfl⟩
    rw [hl] at H3 hll ⊢
    clear hl
    go_wp2_with fail
    refine (sameInts_any (Rd.of_own H3.out.2.1) (Rd.of_own H3.out.2.2) (by omega)).mono ?_
    rintro e w4 ⟨rfl, hb4⟩
    rw [show (l == l) = true from by simp]
    have H4 := Lib.hid (And.intro (H3.out.1.below hb4) (own_below H3.out.2.1 hb4))
    clear hb4
    go_wp2_with fail
    refine (overOwn H4.out.2 (by omega)).mono ?_
    rintro e w5 ⟨rfl, c5⟩
    have hfar : ∀ b, (Value.slice A2 l.length d2).ownBlock = some b → tag b = none ∧ R b = none ∧ w0.heap.size ≤ b := fun b hb => by
      have := (H3.out.2.1.lt b hb).1
      rw [World.size_alloc] at this
      exact H.out.2.2.2.2.2.2.new (by omega)
    have H5 := Lib.hid (H4.out.1.other c5 hfar)
    clear c5 hfar
    go_wp2
    go_ret
    exact ⟨rfl, _, _, _, _, _, _, _, _, _, H5.out, hle.out, by omega⟩
  | false =>
    have hbl2 : w.heap.size < (w.alloc (.cells #[.bool false, .int .i64 sym, .slice B n c] 48)).heap.size := hbl.out
    clear h hr hl hbx hnb h1 hs
    go_enter Try.func22, Try.ntmps22
    go_wp2_with fail
    refine (copyInts_any (l := set) (H.out.2.2.2.1.below H.out.1.b) (by omega)).mono ?_
    rintro e w2 ⟨v2, rfl, ho2, hb2⟩
    obtain ⟨A2, d2, rfl, _⟩ := own_slice ho2
    have hT2 := H.out.1.below hb2
    have hx2 := H.out.2.1.belowS hb2
    have hA2 : ∀ a, A2 = some a → tag a.block = none ∧ R a.block = none := fun a ha => by
      have := (own_ge ho2 a ha).1
      rw [World.size_alloc] at this
      have := H.out.2.2.2.2.2.2.new (b := a.block) (by omega)
      exact ⟨this.1, this.2.1⟩
    have hS2 := H.out.2.2.2.2.2.1
    have H2 := Lib.hid (And.intro hT2 (And.intro hx2 (And.intro hA2 ho2)))
    clear hT2 hx2 hA2 ho2 hb2
    go_wp2_with fail
    refine (add_gr (c := d2) H2.out.1.gr (Rd.of_own H2.out.2.2.2) (by omega) (fun _ a ha => (H2.out.2.2.1 a ha).1) hS2).mono ?_
    rintro e w3 ⟨rfl, tag3, L3, g3, c3, t3⟩
    have hx3 := c3.bk H2.out.2.1 (fun e => e H.out.2.2.1.1)
    have r3 := H2.out.1.rg.chg c3 (fun b hb e => hb (H2.out.1.ap b e))
    have b3 := H2.out.1.gr.chgB H2.out.1.b c3
    have ho3 := own_chgv H2.out.2.2.2 c3 (fun b hb e => by obtain ⟨a, ha, ha'⟩ := slice_block hb; rw [← ha'] at e; exact e (H2.out.2.2.1 a ha).1)
    have cx := hx3.cell 2
    have H3 := Lib.hid (And.intro g3 (And.intro r3 (And.intro b3 (And.intro ho3 (And.intro hx3 t3)))))
    have hrd3 := H.out.2.2.2.1.below b3
    clear g3 c3 t3 hx3 r3 b3 ho3
    go_wp2_with fail
    refine (rAdd_any (c := c) H3.out.2.1 hrd3 (by omega) (fun h0 a ha => (H.out.1.old (H.out.2.2.2.1.lt h0 a ha)).2) hS2).mono ?_
    rintro e w4 ⟨rfl, A4, pc4, vs4, R4, r4, c4, t4⟩
    have hap : ∀ x, tag3 x ≠ none → R x = none := fun x hx => by
      rcases Nat.lt_or_ge x w2.heap.size with e | e
      · rw [H3.out.2.2.2.2.2 x e] at hx; exact H.out.1.ap x hx
      · exact H2.out.1.rg.newTag e
    have hap4 : ∀ x, tag3 x ≠ none → R4 x = none := fun x hx => by
      rw [t4 x (H3.out.1.gm.lt x hx).2]
      exact hap x hx
    have hx4 := c4.bk H3.out.2.2.2.2.1 (fun e => e H.out.2.2.1.2.1)
    have ho4 := own_chgv H3.out.2.2.2.1 c4 (fun b hb e => by obtain ⟨a, ha, ha'⟩ := slice_block hb; rw [← ha'] at e; exact e (H2.out.2.2.1 a ha).2)
    have g4 := H3.out.1.other c4 (fun b hb e => e (hap b hb))
    have b4 := c4.below H3.out.2.2.1 (fun b _ e => (H3.out.2.1.lt b e).1) H3.out.2.2.1.size
    have hT4 := Two.mk g4 r4 b4 hap4
    have hf4 : ∀ b, (Value.slice A2 n d2).ownBlock = some b → tag3 b = none ∧ R4 b = none ∧ w0.heap.size ≤ b := fun b hb => by
      obtain ⟨a, ha, ha'⟩ := slice_block hb
      subst ha'
      have h1 := H2.out.2.2.1 a ha
      have h2 := own_ge H2.out.2.2.2 a ha
      have h3 := own_ge H3.out.2.2.2.1 a ha
      have h4 := H.out.1.b.size
      exact ⟨by rw [H3.out.2.2.2.2.2 _ h2.2]; exact h1.1, by rw [t4 _ h3.2]; exact h1.2, by omega⟩
    have cy := hx4.cell 2
    have hrd4 := H.out.2.2.2.1.below b4
    have H4 := Lib.hid (And.intro hT4 (And.intro ho4 hf4))
    have hal := Lib.hid (adS_len kn S most set)
    clear r4 c4 t4 hap hap4 hx4 ho4 g4 b4 hT4 hf4 cx hrd3 hS2
    obtain ⟨x1, hx1⟩ : ∃ x, (adR kn S most set).1 = x := ⟨_, rfl⟩
    obtain ⟨x2, hx2⟩ : ∃ x, (adR kn S most set).2.1 = x := ⟨_, rfl⟩
    obtain ⟨x3, hx3⟩ : ∃ x, (adR kn S most set).2.2 = x := ⟨_, rfl⟩
    rw [hx1, hx2, hx3]
    clear hx1 hx2 hx3
    go_wp2_with fail
    refine (sameInts_any (Rd.of_own H4.out.2.1) hrd4 (by omega)).mono ?_
    rintro e w5 ⟨rfl, hb5⟩
    rw [show (set == set) = true from by simp]
    have H5 := Lib.hid (And.intro (H4.out.1.below hb5) (own_below H4.out.2.1 hb5))
    clear hb5 cy hrd4
    go_wp2_with fail
    refine (overOwn H5.out.2 (by omega)).mono ?_
    rintro e w6 ⟨rfl, c6⟩
    have H6 := Lib.hid (H5.out.1.other c6 H4.out.2.2)
    clear c6
    go_wp2
    go_ret
    exact ⟨rfl, _, _, _, _, _, _, _, _, _, H6.out, rfl, hal.out⟩
end
end Go.Proofs.Ytcgcbajgclkmkaa
