/- Chapter 20: adds, takes, rests, waits. -/
import Derived.Test.YtcgcbajgclkmkaaGr20
import Derived.Test.YtcgcbajgclkmkaaE14
namespace Go.Proofs.Ytcgcbajgclkmkaa
open Go.RowKit
set_option linter.unusedVariables false
/-- A graph made since w0. -/
def GE (w0 w : World) (G : Nat) (kn : List Bool) (sets : List (List Int)) (most : Int) : Prop := ∃ tag L, Gr w w0.heap.size G tag L kn sets most ∧ Below w0.heap.size w0 w
section
variable {w0 w w1 w' : World} {base G : Nat} {tag : Nat → Option Nat} {L : GL} {kn : List Bool} {sets : List (List Int)} {most : Int}
theorem Gr.newTag (h : Gr w base G tag L kn sets most) {b : Nat} (hb : w.heap.size ≤ b) : tag b = none := by
  cases e : tag b with
  | none => rfl
  | some u => have := (h.gm.lt b (by rw [e]; simp)).2; omega
theorem GE.below (h : GE w0 w G kn sets most) (hb : Below w.heap.size w w') : GE w0 w' G kn sets most := by
  obtain ⟨tag, L, h1, h2⟩ := h
  exact ⟨tag, L, h1.below hb, below_base h2 hb h2.size⟩
theorem Gr.chgB (h : Gr w w0.heap.size G tag L kn sets most) (hb : Below w0.heap.size w0 w) (hc : Chg (fun b => tag b ≠ none) w w') : Below w0.heap.size w0 w' :=
  hc.below hb (fun k _ e => (h.gm.lt k e).1) hb.size
theorem GE.new (h : Below w.heap.size w w') (hG : Gr w' w.heap.size G tag L kn sets most) : GE w w' G kn sets most := ⟨tag, L, hG, h⟩
theorem GE.b (h : GE w0 w G kn sets most) : Below w0.heap.size w0 w := by obtain ⟨_, _, _, h⟩ := h; exact h
set_option maxRecDepth 100000 in
set_option maxHeartbeats 1600000 in
theorem adds_any (h : GE w0 w1 G kn sets most) (hb : Below w1.heap.size w1 w) {A : Option Addr} {n c : Nat} {l : List Int} (hr : Rd w A n (nums l)) (hA : ∀ a, A = some a → w1.heap.size ≤ a.block) (hn : n ≤ 1000000) (hs : sets.length < 100000) (x y z : Int) :
    Calls Try.prog 9 #[.pointer (some ⟨G, 0, none⟩), .int .i64 x, .int .i64 y, .int .i64 z, .slice A n c] w fun e w' => e = .returned (.bool ((adR kn sets most l).1 == x && ((adR kn sets most l).2.1 == y && (adR kn sets most l).2.2 == z))) ∧ GE w0 w' G kn (adS kn sets most l) most ∧ Below w0.heap.size w0 w' := by
  obtain ⟨tag, L, h1, h2⟩ := h
  have H := Lib.hid (And.intro (add_gr (c := c) (h1.below hb) hr hn (fun _ a ha => h1.newTag (hA a ha)) hs) (And.intro (h1.below hb) (below_base h2 hb h2.size)))
  clear h1 h2 hr hb hA hn hs
  go_enter Try.func9, Try.ntmps9
  go_wp2_with fail
  refine H.out.1.mono ?_
  rintro e w5 ⟨rfl, tag', L', g1, g2, g3⟩
  have H5 := Lib.hid (And.intro (show GE w0 w5 G kn (adS kn sets most l) most from ⟨tag', L', g1, H.out.2.1.chgB H.out.2.2 g2⟩) (H.out.2.1.chgB H.out.2.2 g2))
  clear g1 g2 g3
  generalize hq1 : (adR kn sets most l).1 = a1
  generalize hq2 : (adR kn sets most l).2.1 = a2
  generalize hq3 : (adR kn sets most l).2.2 = a3
  have HQ := Lib.hid (And.intro hq1 (And.intro hq2 hq3))
  clear hq1 hq2 hq3
  cases e1 : (a1 == x)
  · go_wp2
    go_ret
    exact ⟨ret_bool (by rw [HQ.out.1, HQ.out.2.1, HQ.out.2.2]; simp [*]), H5.out.1, H5.out.2⟩
  · cases e2 : (a2 == y)
    · go_wp2
      go_ret
      exact ⟨ret_bool (by rw [HQ.out.1, HQ.out.2.1, HQ.out.2.2]; simp [*]), H5.out.1, H5.out.2⟩
    · cases e3 : (a3 == z)
      · go_wp2
        go_ret
        exact ⟨ret_bool (by rw [HQ.out.1, HQ.out.2.1, HQ.out.2.2]; simp [*]), H5.out.1, H5.out.2⟩
      · go_wp2
        go_ret
        exact ⟨ret_bool (by rw [HQ.out.1, HQ.out.2.1, HQ.out.2.2]; simp [*]), H5.out.1, H5.out.2⟩
set_option maxRecDepth 100000 in
set_option maxHeartbeats 1600000 in
theorem takes_any (h : GE w0 w1 G kn sets most) (hb : Below w1.heap.size w1 w) {A : Option Addr} {n c : Nat} {l : List Int} (hr : Rd w A n (nums l)) (hA : ∀ a, A = some a → w1.heap.size ≤ a.block) (hn : n ≤ 1000000) (x z : Int) :
    Calls Try.prog 10 #[.pointer (some ⟨G, 0, none⟩), .int .i64 x, .int .i64 z, .slice A n c] w fun e w' => e = .returned (.bool (tkE kn x == z && tkL kn sets x == l)) ∧ GE w0 w' G (tkK kn x) sets most ∧ Below w0.heap.size w0 w' := by
  obtain ⟨tag, L, h1, h2⟩ := h
  have H := Lib.hid (And.intro (take_gr (h1.below hb) x) (And.intro (h1.below hb) (And.intro (below_base h2 hb h2.size) (And.intro hr (And.intro (fun a ha => h1.newTag (hA a ha)) h1.sz)))))
  clear h1 h2 hr hb hA hn
  go_enter Try.func10, Try.ntmps10
  go_wp2_with fail
  refine H.out.1.mono ?_
  rintro e w5 ⟨v, L', rfl, g0, g1, g2⟩
  have hr5 := g2.rd H.out.2.2.2.1 (fun a ha e => e (H.out.2.2.2.2.1 a ha))
  obtain ⟨A5, c5, rfl, hh⟩ := own_form g0
  have H5 := Lib.hid (And.intro (show GE w0 w5 G (tkK kn x) sets most from ⟨tag, L', g1, H.out.2.1.chgB H.out.2.2.1 g2⟩) (And.intro (Rd.of_own g0) hr5))
  have hlen : (tkL kn sets x).length ≤ 100000 := by
    unfold tkL
    split
    · exact Nat.le_trans (List.length_filter_le _ _) (Nat.le_trans (holds_le _ _) H.out.2.2.2.2.2)
    · simp
  have HL := Lib.hid hlen
  clear g0 g1 g2 hr5 hh hlen
  cases e1 : (tkE kn x == z)
  · go_wp2
    go_ret
    exact ⟨ret_bool (by rw [e1]; rfl), H5.out.1, H5.out.1.b⟩
  · go_wp2_with fail
    refine (sameInts_any H5.out.2.1 H5.out.2.2 (by have := HL.out; omega)).mono ?_
    rintro e w6 ⟨rfl, hb6⟩
    have H6 := Lib.hid (H5.out.1.below hb6)
    clear hb6
    go_wp2
    go_ret
    exact ⟨ret_bool (by rw [e1]; rfl), H6.out, H6.out.b⟩
set_option maxRecDepth 100000 in
set_option maxHeartbeats 1600000 in
theorem rests_any (h : GE w0 w G kn sets most) {A : Option Addr} {n c : Nat} {l : List Int} (hr : Rd w A n (nums l)) (hn : n ≤ 1000000) (x z : Int) :
    Calls Try.prog 13 #[.pointer (some ⟨G, 0, none⟩), .int .i64 x, .int .i64 z, .slice A n c] w fun e w' => e = .returned (.bool (rsE sets x == z && rsL kn sets x == l)) ∧ GE w0 w' G kn sets most ∧ Below w.heap.size w w' := by
  have HG := Lib.hid h
  obtain ⟨tag, L, h1, h2⟩ := h
  have H := Lib.hid (And.intro (rest_gr h1 x) (And.intro hr hn))
  have hlen : (rsL kn sets x).length ≤ 100000 := by
    unfold rsL
    split
    · rename_i hx
      have hp : x.toNat < sets.length := by omega
      have := (h1.ss _ (getD_mem hp)).len
      have := h1.kz
      have h2 : (rst kn (sets.getD x.toNat [])).length ≤ (sets.getD x.toNat []).length := List.length_filter_le _ _
      omega
    · simp
  have HL := Lib.hid hlen
  clear h1 h2 hr hn hlen
  go_enter Try.func13, Try.ntmps13
  go_wp2_with fail
  refine H.out.1.mono ?_
  rintro e w5 ⟨v, rfl, g0, g1⟩
  obtain ⟨A5, c5, rfl, hh⟩ := own_form g0
  have H5 := Lib.hid (And.intro (HG.out.below g1) (And.intro (Rd.of_own g0) (And.intro (H.out.2.1.below g1) g1)))
  clear g0 g1 hh
  cases e1 : (rsE sets x == z)
  · go_wp2
    go_ret
    exact ⟨ret_bool (by rw [e1]; rfl), H5.out.1, H5.out.2.2.2⟩
  · go_wp2_with fail
    refine (sameInts_any H5.out.2.1 H5.out.2.2.1 (by have := HL.out; omega)).mono ?_
    rintro e w6 ⟨rfl, hb6⟩
    have H6 := Lib.hid (And.intro (H5.out.1.below hb6) (below_base H5.out.2.2.2 hb6 H5.out.2.2.2.size))
    clear hb6
    go_wp2
    go_ret
    exact ⟨ret_bool (by rw [e1]; rfl), H6.out.1, H6.out.2⟩
set_option maxRecDepth 100000 in
set_option maxHeartbeats 1600000 in
theorem waits_any (h : GE w0 w G kn sets most) {A : Option Addr} {n c : Nat} {l : List Int} (hr : Rd w A n (nums l)) (hn : n ≤ 1000000) (x : Int) :
    Calls Try.prog 31 #[.pointer (some ⟨G, 0, none⟩), .int .i64 x, .slice A n c] w fun e w' => e = .returned (.bool (owE kn x == 0 && owL kn sets x == l)) ∧ GE w0 w' G kn sets most ∧ Below w.heap.size w w' := by
  have HG := Lib.hid h
  obtain ⟨tag, L, h1, h2⟩ := h
  have H := Lib.hid (And.intro (of_gr h1 x) (And.intro hr hn))
  have hlen : (owL kn sets x).length ≤ 100000 := by
    unfold owL
    split
    · exact Nat.le_trans (wts_le _ _ _) h1.sz
    · simp
  have HL := Lib.hid hlen
  clear h1 h2 hr hn hlen
  go_enter Try.func31, Try.ntmps31
  go_wp2_with fail
  refine H.out.1.mono ?_
  rintro e w5 ⟨v, rfl, g0, g1⟩
  obtain ⟨A5, c5, rfl, hh⟩ := own_form g0
  have H5 := Lib.hid (And.intro (HG.out.below g1) (And.intro (Rd.of_own g0) (And.intro (H.out.2.1.below g1) g1)))
  clear g0 g1 hh
  cases e1 : (owE kn x == 0)
  · go_wp2
    go_ret
    exact ⟨ret_bool (by rw [e1]; rfl), H5.out.1, H5.out.2.2.2⟩
  · go_wp2_with fail
    refine (sameInts_any H5.out.2.1 H5.out.2.2.1 (by have := HL.out; omega)).mono ?_
    rintro e w6 ⟨rfl, hb6⟩
    have H6 := Lib.hid (And.intro (H5.out.1.below hb6) (below_base H5.out.2.2.2 hb6 H5.out.2.2.2.size))
    clear hb6
    go_wp2
    go_ret
    exact ⟨ret_bool (by rw [e1]; rfl), H6.out.1, H6.out.2⟩
end
end Go.Proofs.Ytcgcbajgclkmkaa
