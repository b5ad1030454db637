/- Chapter 21: a decoder is made. -/
import Derived.Test.YtidoembkcaojoaaSh21
namespace Go.Proofs.Ytidoembkcaojoaa
open Go.RowKit Go.Maps
set_option linter.unusedVariables false
theorem run_make_syms (m : Nat) (hm : m ≤ 1000000) (w : World) : (Instr.makeSlice 30 (.int .i64 (m : Int)) (.int .i64 (m : Int))).run Try.prog w = .ok (.slice (some ⟨w.heap.size, 0, none⟩) m m) (w.alloc (.cells (List.replicate m (.slice none 0 0)).toArray 22)) := by
  obtain ⟨i0, hi0, hz0, hz1, hz2⟩ := info_parts ints2_info
  have := run_make (P := Try.prog) w 30 22 i0 (.slice none 0 0) Try.underlying30 hi0 hz0 .i64 .i64 m m (by omega) (by omega) (by rw [hz2]; omega) (by omega)
  rw [hz1] at this
  simp only [Int.toNat_natCast] at this
  rw [made_one rfl] at this
  exact this
def newD (k s : Nat) (most : Int) : DS := { k := k, s := s, most := most, ids := [], sets := [], pays := [], kn := List.replicate k false, vals := List.replicate k [] }
theorem knw_rep (k : Nat) (x : Int) : knw (List.replicate k false) x = false := by
  unfold knw
  rw [List.getD_eq_getElem?_getD, List.getElem?_replicate]
  split <;> rfl
theorem newD_ok {k s : Nat} {most : Int} (hk : 1 ≤ k ∧ k ≤ 100) (hs : 1 ≤ s ∧ s ≤ 65535) (hm : 1 ≤ most ∧ most ≤ 1048576) : (newD k s most).ok :=
  { k1 := hk, s1 := hs, ni := rfl, np := rfl, nm := by show ((0 : Nat) : Int) ≤ most; omega, m1 := hm, kl := by simp [newD], vl := by simp [newD]
    ss := fun l hl => by simp [newD] at hl
    pl := fun p hp => by simp [newD] at hp
    vs := fun i hi hk => by rw [show (newD k s most).kn = List.replicate k false from rfl, knw_rep] at hk; cases hk
    id := fun i hi => by simp [newD] at hi }
theorem newD_stable (k s : Nat) (most : Int) : Stable (newD k s most) := fun q hq => by simp [newD] at hq
def pbad (k s most : Int) : Prop := bad k most ∨ s < 1 ∨ 65535 < s
instance (k s most : Int) : Decidable (pbad k s most) := by unfold pbad; infer_instance
def PnPost (w : World) (k s most : Int) (e : Ending) (w' : World) : Prop :=
  if pbad k s most then e = .returned (.tuple #[.pointer none, .int .i64 3]) ∧ Below w.heap.size w w'
  else ∃ D m F, e = .returned (.tuple #[.pointer (some ⟨D, 0, none⟩), .int .i64 0]) ∧ Dp w' w.heap.size D m ((newD k.toNat s.toNat most).dc []) F ∧ Below w.heap.size w w'
theorem new_dp {w w1 : World} {G : Nat} {tag : Nat → Option Nat} {L : GL} {k s : Nat} {most : Int} (hk : 1 ≤ k ∧ k ≤ 100) (hs : 1 ≤ s ∧ s ≤ 65535) (hm : 1 ≤ most ∧ most ≤ 1048576) (hg : Gr w1 w.heap.size G tag L (List.replicate k false) [] most) (hb : Below w.heap.size w w1) (hG : ∀ b, tag b ≠ none → b < w1.heap.size) :
    ∃ m F, Dp (((w1.alloc (.map #[] 0)).alloc (.cells (Array.replicate k (.slice none 0 0)) 22)).alloc (.cells #[.pointer (some ⟨G, 0, none⟩), .int .i64 (s : Nat), .map (some w1.heap.size), .slice none 0 0, .slice (some ⟨w1.heap.size + 1, 0, none⟩) k k, .slice none 0 0, .int .i64 most] 67)) w.heap.size (w1.heap.size + 1 + 1) m ((newD k s most).dc []) F := by
  have b1 : Below w1.heap.size w1 (w1.alloc (.map #[] 0)) := (Below.refl _ _).alloc (Nat.le_refl _) _
  have z1 : (w1.alloc (.map #[] 0)).heap.size = w1.heap.size + 1 := World.size_alloc _ _
  have m1 : (w1.alloc (.map #[] 0)).ownsMap Try.prog 3 (unitElem (H := Unit)) w1.heap.size 0 (idD []) := World.ownsMap_made _ _ _ _
  generalize w1.alloc (.map #[] 0) = w2 at b1 z1 m1 ⊢
  have b2 : Below w2.heap.size w2 (w2.alloc (.cells (Array.replicate k (.slice none 0 0)) 22)) := (Below.refl _ _).alloc (Nat.le_refl _) _
  have z2 : (w2.alloc (.cells (Array.replicate k (.slice none 0 0)) 22)).heap.size = w2.heap.size + 1 := World.size_alloc _ _
  have m2 := m1.alloc (.cells (Array.replicate k (.slice none 0 0)) 22)
  have s2 : Bk (w2.alloc (.cells (Array.replicate k (.slice none 0 0)) 22)) w2.heap.size 22 (List.replicate k (.slice none 0 0)) := by
    have := Bk.newA w2 22 (Array.replicate k (.slice none 0 0))
    rw [Array.toList_replicate] at this
    exact this
  generalize w2.alloc (.cells (Array.replicate k (.slice none 0 0)) 22) = w3 at b2 z2 m2 s2 ⊢
  rw [z1] at s2
  generalize hcs : (#[.pointer (some ⟨G, 0, none⟩), .int .i64 (s : Nat), .map (some w1.heap.size), .slice none 0 0, .slice (some ⟨w1.heap.size + 1, 0, none⟩) k k, .slice none 0 0, .int .i64 most] : Array Value) = cs
  have b3 : Below w3.heap.size w3 (w3.alloc (.cells cs 67)) := (Below.refl _ _).alloc (Nat.le_refl _) _
  have z3 : (w3.alloc (.cells cs 67)).heap.size = w3.heap.size + 1 := World.size_alloc _ _
  have m3 := m2.alloc (.cells cs 67)
  have s3 := s2.alloc (.cells cs 67)
  have e3 := Bk.newA w3 67 cs
  generalize w3.alloc (.cells cs 67) = w4 at b3 z3 m3 s3 e3 ⊢
  rw [z2, z1] at e3
  have hbb : Below w1.heap.size w1 w4 := (b1.trans (b2.mono (by omega))).trans (b3.mono (by omega))
  have hkn : ∀ i : Nat, knw ((newD k s most).dc []).sk (i : Int) = false := fun i => knw_rep k i
  refine ⟨{ G := G, tag := tag, L := L, M := w1.heap.size, mn := 0, LA := none, lc := 0, lf := [], SB := w1.heap.size + 1, sy := fun _ => (none, 0), v := .slice none 0 0 }, fun b => b = w1.heap.size ∨ b = w1.heap.size + 1 ∨ b = w1.heap.size + 1 + 1, ?_⟩
  have hbs := hb.size
  have hn : ∀ b, w1.heap.size ≤ b → tag b = none := fun b hb => Classical.byContradiction fun e => by have := hG b e; omega
  exact {
    e := by rw [← hcs] at e3; exact e3
    gr := hg.below hbb
    gk := by show (List.replicate k false).length = k; simp
    mp := m3
    mq := by show 0 ≤ _; omega
    lw := World.ownsRow_nil _ _ _ _
    ll := rfl
    lx := fun p hp => absurd hp (Nat.not_lt_zero _)
    sb := by
      have e : (List.range k).map (syv ((newD k s most).dc []) { G := G, tag := tag, L := L, M := w1.heap.size, mn := 0, LA := none, lc := 0, lf := [], SB := w1.heap.size + 1, sy := fun _ => (none, 0), v := .slice none 0 0 }) = List.replicate k (.slice none 0 0) := by
        rw [List.eq_replicate_iff]
        refine ⟨by simp, fun b hb => ?_⟩
        obtain ⟨i, _, rfl⟩ := List.mem_map.1 hb
        exact Dp.symn (hkn i)
      show Bk w4 (w1.heap.size + 1) _ ((List.range k).map _)
      rw [e]; exact s3
    sx := fun i hi hk => by rw [hkn i] at hk; cases hk
    rp := World.ownsRow_nil _ _ _ _
    hp := by show Hp []; unfold Hp; intros; simp at *
    ft := fun e he => by simp [DS.dc] at he
    dl := fun p q hp => absurd hp (Nat.not_lt_zero _)
    ds := fun p i hp => absurd hp (Nat.not_lt_zero _)
    ls := fun a ha => by cases ha
    fD := .inr (.inr rfl), fM := .inl rfl, fS := .inr (.inl rfl)
    fL := fun a ha => by cases ha
    fv := fun b hb => by cases hb
    fl := fun p hp => absurd hp (Nat.not_lt_zero _)
    fy := fun i hi hk => by rw [hkn i] at hk; cases hk
    tg := fun b hb => hn b (by omega)
    fb := fun b hb => by omega
    bs := by omega
    s1 := hs, m1 := hm }
set_option maxRecDepth 100000 in
set_option maxHeartbeats 1600000 in
theorem new_pd {w : World} (k s most : Int) (hk : k ≤ 100 ∨ 65536 < k) : Calls Try.prog 13 #[.int .i64 k, .int .i64 s, .int .i64 most] w (PnPost w k s most) := by
  have HG := Lib.hid (new_gr (w := w) k most)
  by_cases hb : bad k most
  · have HP := Lib.hid (show pbad k s most from .inl hb)
    have HB := Lib.hid hb
    clear hb hk
    go_enter Try.func13, Try.ntmps13
    go_wp2_with fail
    refine HG.out.mono ?_
    intro e w1 hn
    unfold NgrPost at hn
    rw [if_pos HB.out] at hn
    obtain ⟨rfl, rfl⟩ := hn
    go_wp2_with fail
    go_ret2
    unfold PnPost
    rw [if_pos HP.out]
    exact ⟨rfl, Below.refl _ _⟩
  · have hk1 : 1 ≤ k ∧ k ≤ 100 := by unfold bad at hb; omega
    have hm1 : 1 ≤ most ∧ most ≤ 1048576 := by unfold bad at hb; omega
    have HB := Lib.hid (And.intro hb (And.intro hk1 hm1))
    obtain ⟨K, rfl⟩ : ∃ K : Nat, k = K := ⟨k.toNat, by omega⟩
    have hK : 1 ≤ K ∧ K ≤ 100 := by omega
    by_cases h1 : s < 1
    · have d1 : decide (s < 1) = true := decide_eq_true h1
      have HP := Lib.hid (show pbad K s most from .inr (.inl h1))
      clear h1 hb hk hk1 hm1 hK
      go_enter Try.func13, Try.ntmps13
      go_wp2_with fail
      refine HG.out.mono ?_
      intro e w1 hn
      unfold NgrPost at hn
      rw [if_neg HB.out.1] at hn
      obtain ⟨G, tag, L, rfl, hg, hbl⟩ := hn
      have HL := Lib.hid hbl
      clear hg hbl
      go_wp2_with fail
      go_ret2
      unfold PnPost
      rw [if_pos HP.out]
      exact ⟨rfl, HL.out⟩
    · have d1 : decide (s < 1) = false := decide_eq_false h1
      by_cases h2 : 65535 < s
      · have d2 : decide (65535 < s) = true := decide_eq_true h2
        have d3 : decide (s > 65535) = true := decide_eq_true h2
        have HP := Lib.hid (show pbad K s most from .inr (.inr h2))
        clear h1 h2 hb hk hk1 hm1 hK
        go_enter Try.func13, Try.ntmps13
        go_wp2_with fail
        refine HG.out.mono ?_
        intro e w1 hn
        unfold NgrPost at hn
        rw [if_neg HB.out.1] at hn
        obtain ⟨G, tag, L, rfl, hg, hbl⟩ := hn
        have HL := Lib.hid hbl
        clear hg hbl
        go_wp2_with fail
        go_ret2
        unfold PnPost
        rw [if_pos HP.out]
        exact ⟨rfl, HL.out⟩
      · have d2 : decide (65535 < s) = false := decide_eq_false h2
        have d3 : decide (s > 65535) = false := decide_eq_false h2
        obtain ⟨S, rfl⟩ : ∃ S : Nat, s = S := ⟨s.toNat, by omega⟩
        have HP := Lib.hid (show ¬ pbad K S most from by unfold pbad; intro h; rcases h with h | h | h; exact hb h; omega; omega)
        have HZ := Lib.hid (show (1 ≤ K ∧ K ≤ 100) ∧ (1 ≤ S ∧ S ≤ 65535) ∧ (1 ≤ most ∧ most ≤ 1048576) from ⟨hK, by omega, hm1⟩)
        have hmm := @run_makeMap Try.prog
        have hmk := run_make_syms K (by omega)
        clear h1 h2 hb hk hk1 hm1 hK
        go_enter Try.func13, Try.ntmps13
        go_wp2_with fail
        refine HG.out.mono ?_
        intro e w1 hn
        unfold NgrPost at hn
        rw [if_neg HB.out.1] at hn
        obtain ⟨G, tag, L, rfl, hg, hbl⟩ := hn
        rw [Int.toNat_natCast] at hg
        have HL := Lib.hid (And.intro hg hbl)
        clear hg hbl
        go_wp2_with fail
        go_ret2
        unfold PnPost
        rw [if_neg HP.out, Int.toNat_natCast, Int.toNat_natCast]
        obtain ⟨m, F, hD⟩ := new_dp HZ.out.1 HZ.out.2.1 HZ.out.2.2 HL.out.1 HL.out.2 (fun b hb => (HL.out.1.gm.lt b hb).2)
        refine ⟨_, m, F, rfl, hD, ?_⟩
        exact ((HL.out.2.alloc HL.out.2.size _).alloc (by have := HL.out.2.size; rw [World.size_alloc]; omega) _).alloc (by have := HL.out.2.size; rw [World.size_alloc, World.size_alloc]; omega) _
end Go.Proofs.Ytidoembkcaojoaa
