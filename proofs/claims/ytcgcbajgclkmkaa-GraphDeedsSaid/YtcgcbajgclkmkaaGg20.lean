/- GraphDeeds: its walk. -/
import Derived.Test.YtcgcbajgclkmkaaGf20
namespace Go.Proofs.Ytcgcbajgclkmkaa
open Go.RowKit
set_option linter.unusedVariables false
theorem RG.base {w : World} {base base' W KB : Nat} {A : Option Addr} {pc : Nat} {vs : List Value} {R : Nat → Option Nat} {kn : List Bool} {S : List (List Int)} {most : Int} (h : RG w base W KB A pc vs R kn S most) (hb : base' ≤ base) : RG w base' W KB A pc vs R kn S most :=
  { h with so := own_mono h.so hb, lt := fun b e => ⟨Nat.le_trans hb (h.lt b e).1, (h.lt b e).2⟩, bs := Nat.le_trans hb h.bs }
set_option maxRecDepth 100000 in
set_option maxHeartbeats 6400000 in
/-- artesianlaw20.GraphDeeds -/
theorem graphDeeds_walk {w : World} {k most x y : Int} {A : Option Addr} {n c : Nat} {its : List De} (hk : (Lit.int .i64 k).wf = true) (hmost : (Lit.int .i64 most).wf = true) (h : Des w A n its ∧ n ≤ c ∧ n ≤ 3518437208780)
    (hx : (Lit.int .i64 x).wf = true) (hy : (Lit.int .i64 y).wf = true) :
    Calls Try.prog 5 #[.int .i64 k, .int .i64 most, .slice A n c, .int .i64 x, .int .i64 y] w fun e w' => e = .returned (.bool true) ∧ Below w.heap.size w w' := by
  obtain ⟨hd, hc, hn⟩ := h
  have H := Lib.hid (And.intro hd hn)
  clear hd hc hn hk hmost hx hy
  go_enter Try.func5, Try.ntmps5
  go_wp2_with fail
  refine (long_any H.out.1 H.out.2).mono ?_
  rintro e w1 ⟨rfl, rfl⟩
  cases hlong : longV its with
  | true =>
    clear hlong
    go_wp2_with fail
    refine awake_any.mono ?_
    rintro e w2 ⟨rfl, hb⟩
    have HB := Lib.hid hb
    clear hb
    go_wp2
    go_ret
    exact ⟨rfl, HB.out⟩
  | false =>
    have HL := Lib.hid (longV_no hlong)
    clear hlong
    have hn60 : n ≤ 60 := by rw [← H.out.1.1]; exact HL.out.1
    by_cases h1 : 40 < k
    · have d1 : decide (k > 40) = true := by simpa using h1
      have d2 : decide (40 < k) = true := by simpa using h1
      by_cases h2 : k ≤ 65536
      · have d3 : decide (k ≤ 65536) = true := by simpa using h2
        clear h1 h2 hn60
        go_wp2_with fail
        refine awake_any.mono ?_
        rintro e w2 ⟨rfl, hb⟩
        have HB := Lib.hid hb
        clear hb
        go_wp2
        go_ret
        exact ⟨rfl, HB.out⟩
      · have d3 : decide (k ≤ 65536) = false := by simpa using h2
        have hbad : bad k most := by unfold bad; omega
        have HBad := Lib.hid hbad
        clear h1 h2 hn60 hbad
        go_wp2_with fail
        refine (new_gr k most).mono ?_
        intro e w2 hN
        unfold NgrPost at hN
        rw [if_pos HBad.out] at hN
        obtain ⟨rfl, rfl⟩ := hN
        go_wp2_with fail
        refine (rNew_any k most).mono ?_
        intro e w3 hN
        unfold RNewPost at hN
        rw [if_pos HBad.out] at hN
        obtain ⟨rfl, rfl⟩ := hN
        go_wp2
        go_loopw [15] (fun i wr => i = .int .i64 0 ∧ wr = w3) (fun i wr => 0)
        case atStart => exact ⟨rfl, rfl⟩
        case round =>
          obtain ⟨rfl, rfl⟩ := hrel
          go_wp2_with fail
          refine awake_any.mono ?_
          rintro e w2 ⟨rfl, hb⟩
          have HB := Lib.hid hb
          clear hb
          go_wp2
          go_ret
          exact ⟨rfl, HB.out⟩
    · have d1 : decide (k > 40) = false := by simpa using h1
      have d2 : decide (40 < k) = false := by simpa using h1
      by_cases hbad : bad k most
      · have HBad := Lib.hid hbad
        clear h1 hn60 hbad
        go_wp2_with fail
        refine (new_gr k most).mono ?_
        intro e w2 hN
        unfold NgrPost at hN
        rw [if_pos HBad.out] at hN
        obtain ⟨rfl, rfl⟩ := hN
        go_wp2_with fail
        refine (rNew_any k most).mono ?_
        intro e w3 hN
        unfold RNewPost at hN
        rw [if_pos HBad.out] at hN
        obtain ⟨rfl, rfl⟩ := hN
        go_wp2
        go_loopw [15] (fun i wr => i = .int .i64 0 ∧ wr = w3) (fun i wr => 0)
        case atStart => exact ⟨rfl, rfl⟩
        case round =>
          obtain ⟨rfl, rfl⟩ := hrel
          go_wp2_with fail
          refine awake_any.mono ?_
          rintro e w2 ⟨rfl, hb⟩
          have HB := Lib.hid hb
          clear hb
          go_wp2
          go_ret
          exact ⟨rfl, HB.out⟩
      · have HBad := Lib.hid hbad
        obtain ⟨K, hK⟩ : ∃ K : Nat, k = K := ⟨k.toNat, by unfold bad at hbad; omega⟩
        subst hK
        have hK1 : 1 ≤ K ∧ K ≤ 40 := by unfold bad at hbad; omega
        have HK := Lib.hid hK1
        clear h1 hbad hK1
        go_wp2_with fail
        refine (new_gr (K : Int) most).mono ?_
        intro e w2 hN
        unfold NgrPost at hN
        rw [if_neg HBad.out, Int.toNat_natCast] at hN
        obtain ⟨G, tag, L, rfl, hg, hb2⟩ := hN
        have H2 := Lib.hid (And.intro hg hb2)
        clear hg hb2
        go_wp2_with fail
        refine (rNew_any (K : Int) most).mono ?_
        intro e w3 hN
        unfold RNewPost at hN
        rw [if_neg HBad.out, Int.toNat_natCast] at hN
        obtain ⟨W, KB, R, rfl, hg, hb3⟩ := hN
        have H3 := Lib.hid (show TwPost w G W K 0 most w3 from ⟨KB, none, 0, [], tag, R, L, k0s K, [], ⟨H2.out.1.below hb3, hg.base H2.out.2.size, below_base H2.out.2 hb3 H2.out.2.size, fun q hq => by
          cases e : R q with
          | none => rfl
          | some u => have h1 := (hg.lt q (by rw [e]; simp)).1; have h2 := (H2.out.1.gm.lt q hq).2; omega⟩, List.length_replicate, Nat.le_refl _⟩)
        clear hg hb3
        have hn' : (n : Int) ≤ 60 := by omega
        go_wp2
        go_loopw [15] (fun i wr => ∃ j : Nat, j ≤ n ∧ i = .int .i64 j ∧ TwPost w G W K j most wr) (fun i wr => n - (intOf i).toNat)
        case atStart => exact ⟨0, by omega, rfl, H3.out⟩
        case round =>
          obtain ⟨j, hj, rfl, KB, A', pc, vs, tag, R, L, kn, S, hT, hkl, hsl⟩ := hrel
          clear H3
          by_cases hlt : j < n
          · obtain ⟨a, off, rfl, hal, hel⟩ := H.out.1.2 (by omega)
            have hjl : j < its.length := by rw [H.out.1.1]; exact hlt
            have hset := HL.out.2 _ (List.getElem_mem hjl)
            have hat := hel j hjl
            obtain ⟨t0, t1, B, m, cc, t2, hrd, hmc, hm, hI64⟩ := hat
            have hml : its[j].set.length = m := by have := hrd.1; simpa [nums_length] using this
            have c0 := (hT.b.cell (p := ⟨a, off + j * 3, none⟩) hal).trans t0
            have c1 := (hT.b.cell (p := ⟨a, off + j * 3 + 1, none⟩) hal).trans t1
            have c2 := (hT.b.cell (p := ⟨a, off + j * 3 + 2, none⟩) hal).trans t2
            have HD := Lib.hid (done_any (c := cc) hT (by omega) hrd (by omega))
            obtain ⟨b1, hb1⟩ : ∃ b, its[j].takes = b := ⟨_, rfl⟩
            obtain ⟨s1, hs1⟩ : ∃ b, its[j].sym = b := ⟨_, rfl⟩
            rw [hb1] at c0 HD
            rw [hs1] at c1 HD
            have km : (j : Int) < (n : Int) := by omega
            have hK0 : (K : Int) ≠ 0 := by have := HK.out; omega
            have HJ := Lib.hid (And.intro hlt (And.intro hkl hsl))
            clear hmc hI64 hal hel hjl hset t0 t1 t2 hrd hm hml hb1 hs1 hT hlt hj hkl hsl
            go_wp2_with fail
            refine HD.out.mono ?_
            rintro e w4 ⟨rfl, KB4, A4, pc4, vs4, tag4, R4, L4, kn4, S4, h4, hk4, hs4⟩
            have H4 := Lib.hid (And.intro h4 (And.intro hk4 hs4))
            clear h4 hk4 hs4 c0 c1 c2
            go_wp2_with fail
            refine (alike_any H4.out.1 _ _).mono ?_
            rintro e w5 ⟨rfl, h5⟩
            have H5 := Lib.hid h5
            clear h5
            go_wp2_with fail
            refine (alike_any H5.out _ _).mono ?_
            rintro e w6 ⟨rfl, h6⟩
            have H6 := Lib.hid h6
            clear h6
            go_wp2
            exact ⟨⟨j + 1, by have := HJ.out.1; omega, by go_num, KB4, A4, pc4, vs4, tag4, R4, L4, kn4, S4, H6.out, H4.out.2.1.trans HJ.out.2.1, by have := H4.out.2.2; have := HJ.out.2.2; omega⟩, by have := HJ.out.1; simp [intOf]; omega⟩
          · obtain rfl : j = n := by omega
            have HB := Lib.hid hT.b
            clear hlt hj hT hkl hsl
            go_wp2_with fail
            refine awake_any.mono ?_
            rintro e w7 ⟨rfl, hb⟩
            have HB7 := Lib.hid (below_base HB.out hb HB.out.size)
            clear hb
            go_wp2
            go_ret
            exact ⟨rfl, HB7.out⟩
end Go.Proofs.Ytcgcbajgclkmkaa
