/- OctetWrites: its walk. -/
import Derived.Test.YtdepmogibhmdaaaWx10
namespace Go.Proofs.Ytdepmogibhmdaaa
open Go.RowKit
set_option linter.unusedVariables false
theorem wx_new {w w1 w2 : World} {m : Int} {e1 e2 : Ending} (h0 : ¬ (m < 0 ∨ 100000 < m)) (h1 : NwPost w m e1 w1) (h2 : NfPost w1 m e2 w2) :
    ∃ P F, e1 = .returned (.tuple #[.pointer (some ⟨P, 0, none⟩), .int .i64 0]) ∧ e2 = .returned (.tuple #[.pointer (some ⟨F, 0, none⟩), .int .i64 0]) ∧ WX w w2 P none 0 ⟨m, [], 0⟩ F none 0 ⟨m, [], 0⟩ := by
  unfold NwPost at h1
  unfold NfPost at h2
  rw [if_neg h0] at h1 h2
  obtain ⟨P, rfl, o1, o2, o3⟩ := h1
  obtain ⟨F, rfl, f1, f2, f3⟩ := h2
  have hs1 := o3.size
  have hs2 := f3.size
  have hP := o1.1.lt
  refine ⟨P, F, rfl, rfl, o1.below f3, ⟨f1.1, World.ownsRow_nil _ _ _ _, f1.2.2.1, by omega, f1.2.2.2.2⟩, o2, by omega, ?_, below_base o3 f3 hs1⟩
  rintro k (e | ⟨a, ha, _⟩) (e' | ⟨a', ha', _⟩)
  · omega
  · cases ha'
  · cases ha
  · cases ha
set_option maxRecDepth 100000 in
set_option maxHeartbeats 1600000 in
/-- artesianlaw10.OctetWrites -/
theorem writes_walk {w : World} {most : Int} (hmost : (Lit.int .i64 most).wf = true) {D : Option Addr} {m q : Nat} {its : List It} (g : Its w D m its ∧ m ≤ q ∧ m ≤ 2932031007402) :
    Calls Try.prog 3 #[.int .i64 most, .slice D m q] w fun e w' => e = .returned (.bool true) ∧ Below w.heap.size w w' := by
  obtain ⟨hi, hq, hm⟩ := g
  have HI := Lib.hid hi
  have HM := Lib.hid (bounds_i64 hmost)
  clear hi hq hmost
  have hlong : ∀ w', Below w.heap.size w w' → Calls Try.prog 11 #[.slice D m q] w' fun e w'' => e = .returned (.bool (longV its)) ∧ w' = w'' := fun w' hb => long_any (HI.out.below hb) hm
  have HLong := Lib.hid hlong
  clear hlong
  go_enter Try.func3, Try.ntmps3
  by_cases hbad : most < 0 ∨ 100000 < most
  · have HB := Lib.hid hbad
    clear hbad
    go_wp2_with fail
    refine (newW_any most).mono ?_
    intro e w1 h1
    unfold NwPost at h1
    rw [if_pos HB.out] at h1
    obtain ⟨rfl, hw⟩ := h1
    subst w1
    go_wp2_with fail
    refine (newWf_any most).mono ?_
    intro e w2 h2
    unfold NfPost at h2
    rw [if_pos HB.out] at h2
    obtain ⟨rfl, hw⟩ := h2
    subst w2
    go_wp2
    go_loopw [9] (fun i wr => i = .int .i64 0 ∧ Below w.heap.size w wr) (fun i wr => 0)
    case atStart => exact ⟨rfl, Below.refl _ _⟩
    case round =>
      obtain ⟨rfl, hbr⟩ := hrel
      have H4 := Lib.hid hbr
      clear hbr
      go_wp2_with fail
      refine awake_any.mono ?_
      rintro e w5 ⟨rfl, hb5⟩
      have H5 := Lib.hid (below_base H4.out hb5 H4.out.size)
      clear hb5
      go_wp2
      go_ret
      exact ⟨rfl, H5.out⟩
  · have HB := Lib.hid hbad
    clear hbad
    go_wp2_with fail
    refine (newW_any most).mono ?_
    intro e w1 h1
    have h1' := h1
    unfold NwPost at h1'
    rw [if_neg HB.out] at h1'
    obtain ⟨P, rfl, _⟩ := h1'
    have HN := Lib.hid h1
    clear h1
    go_wp2_with fail
    refine (newWf_any most).mono ?_
    intro e w2 h2
    obtain ⟨P', F, e1, rfl, hx⟩ := wx_new HB.out HN.out h2
    injection e1 with e1
    obtain rfl : P = P' := by simpa using e1
    have H2 := Lib.hid hx
    clear h2 e1 hx HN
    go_wp2
    go_loopw [9] (fun i wr => ∃ (k : Nat) (s : WS) (A : Option Addr) (c : Nat) (C : Option Addr) (m' : Nat), k ≤ m ∧ i = .int .i64 k ∧ WX w wr P A c s F C m' s) (fun i wr => m - (intOf i).toNat)
    case atStart => exact ⟨0, _, _, _, _, _, by omega, rfl, H2.out⟩
    case round =>
      clear H2
      obtain ⟨k, s, A, c, C, m', hk, rfl, hx⟩ := hrel
      have H4 := Lib.hid hx
      clear hx
      go_wp2_with fail
      refine (HLong.out wr H4.out.b).mono ?_
      rintro e w3 ⟨rfl, rfl⟩
      cases hlv : longV its with
      | true =>
        clear hlv
        go_wp2_with fail
        refine awake_any.mono ?_
        rintro e w5 ⟨rfl, hb5⟩
        have H5 := Lib.hid (H4.out.below hb5).b
        clear hb5
        go_wp2
        go_ret
        exact ⟨rfl, H5.out⟩
      | false =>
        have HV := Lib.hid (longV_no hlv)
        clear hlv
        by_cases hlt : k < m
        · obtain ⟨a, off, rfl, hal, hel⟩ := HI.out.2 (by omega)
          have hkl : k < its.length := by rw [HI.out.1]; exact hlt
          obtain ⟨e0, e1, e2, BB, mm, cc, e3, hrd, hmc, hmm, hI1, hI2⟩ := hel k hkl
          have km : (k : Int) < (m : Int) := by omega
          have HE := Lib.hid (And.intro hrd (And.intro hI2 (And.intro hmm hlt)))
          have c0 := (H4.out.b.cell (p := ⟨a, off + k * 4, none⟩) hal).trans e0
          have c1 := (H4.out.b.cell (p := ⟨a, off + k * 4 + 1, none⟩) hal).trans e1
          have c2 := (H4.out.b.cell (p := ⟨a, off + k * 4 + 2, none⟩) hal).trans e2
          have c3 := (H4.out.b.cell (p := ⟨a, off + k * 4 + 3, none⟩) hal).trans e3
          clear e0 e1 e2 e3 hrd hmc hmm hI1 hI2 hel hlt
          go_wp2_with fail
          refine (lays_any H4.out _ _ _ HE.out.1 HE.out.2.2.1 HE.out.2.1).mono ?_
          rintro e w5 ⟨rfl, A5, c5, C5, m5, s5, h5⟩
          have H5 := Lib.hid h5
          clear h5 c0 c1 c2 c3
          go_wp2_with fail
          refine (bytesW_any H5.out.o).mono ?_
          rintro e w6 ⟨v, rfl, ho6, hb6⟩
          obtain ⟨I, ci, rfl, _⟩ := own_form ho6
          have H6 := Lib.hid (And.intro (H5.out.below hb6) ho6)
          have HS6 := Lib.hid hb6.size
          clear ho6 hb6
          go_wp2_with fail
          refine (bytesF_any H6.out.1.f).mono ?_
          rintro e w7 ⟨v, rfl, ho7, hb7⟩
          obtain ⟨J, cj, rfl, _⟩ := own_form ho7
          have H7 := Lib.hid (And.intro (H6.out.1.below hb7) (And.intro (own_below H6.out.2 hb7) (And.intro (Rd.of_own ho7) (And.intro (show ∀ j, Aset I j → ¬ Wset P A5 j ∧ ¬ Wset F C5 j ∧ w.heap.size ≤ j from by
            rintro j ⟨a1, ha, e⟩
            have h1 := (own_ge H6.out.2 a1 ha).1
            exact ⟨fun e' => by have := (H5.out.ltO j e').1; omega, fun e' => by have := (H5.out.ltF j e').1; omega, by have := H5.out.b.size; omega⟩) (show s5.out.length ≤ 100000 from by
            have := H5.out.o.2.2.2.2.2
            unfold WS.out
            split
            · omega
            · simp)))))
          have HZ := Lib.hid (show w5.heap.size ≤ w7.heap.size from Nat.le_trans HS6.out hb7.size)
          clear ho7 hb7
          obtain ⟨x, hx⟩ : ∃ x, s5.e = x := ⟨_, rfl⟩
          have nx : (x != x) = false := by simp
          rw [hx]
          obtain ⟨L, hL⟩ : ∃ L, s5.out.length = L := ⟨_, rfl⟩
          rw [hL] at H7 ⊢
          clear hx hL
          go_wp2_with fail
          refine (same_true (Rd.of_own H7.out.2.1) H7.out.2.2.1).mono ?_
          rintro e w8 ⟨rfl, rfl⟩
          go_wp2_with fail
          refine (over_own H7.out.2.1 (Below.refl _ _) HZ.out (by have := H7.out.2.2.2.2; omega)).mono ?_
          rintro e w9 ⟨rfl, hch⟩
          have H9 := Lib.hid (H7.out.1.other hch (fun j hj hS => (H7.out.2.2.2.1 j hS).1 hj) (fun j hj hS => (H7.out.2.2.2.1 j hS).2.1 hj) (fun j _ hj => (H7.out.2.2.2.1 j hj).2.2))
          clear hch
          go_wp2
          exact ⟨⟨k + 1, s5, A5, c5, C5, m5, by have := HE.out.2.2.2; omega, by go_num, H9.out⟩, by have := HE.out.2.2.2; simp [intOf]; omega⟩
        · obtain rfl : k = m := by omega
          clear hlt hk
          go_wp2_with fail
          refine awake_any.mono ?_
          rintro e w5 ⟨rfl, hb5⟩
          have H5 := Lib.hid (H4.out.below hb5).b
          clear hb5
          go_wp2
          go_ret
          exact ⟨rfl, H5.out⟩
end Go.Proofs.Ytdepmogibhmdaaa
