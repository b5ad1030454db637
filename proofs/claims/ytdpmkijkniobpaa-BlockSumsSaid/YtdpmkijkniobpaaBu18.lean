/- BlockCuts: its walk. -/
import Derived.Test.YtdpmkijkniobpaaKn18
namespace Go.Proofs.Ytdpmkijkniobpaa
open Go.RowKit
set_option linter.unusedVariables false
def fineB (k s : Int) : Bool := decide (1 ≤ k ∧ k ≤ 65536 ∧ 1 ≤ s ∧ s ≤ 65535)
theorem cutV_len (k s : Int) (data : List UInt8) : (cutV data k s).length ≤ 65536 := by
  unfold cutV
  split
  · rename_i h
    rw [cutL_len]
    unfold cutE at h
    split at h
    · rename_i h2; omega
    · simp at h
  · simp
theorem cutV_row (k s : Int) (data : List UInt8) : ∀ x ∈ cutV data k s, x.length ≤ 1000000 := by
  intro x hx
  unfold cutV at hx
  split at hx
  · rename_i h
    unfold cutE at h
    split at h
    · rename_i h2
      unfold cutL at hx
      obtain ⟨i, _, rfl⟩ := List.mem_map.1 hx
      have : (cutR data s.toNat i).length = s.toNat := evenL_length _ _
      omega
    · simp at h
  · simp at hx
theorem cutV_same (k s : Int) (data : List UInt8) : (cutV data k s == cutV data k s) = true := by simp
set_option maxRecDepth 100000 in
set_option maxHeartbeats 3200000 in
/-- artesianlaw18.BlockCuts -/
theorem blockCuts_walk {w : World} {A : Option Addr} {n c : Nat} {data : List UInt8} {k s : Int} (h : Rd w A n (bys data) ∧ n ≤ c ∧ n ≤ 140737488351232) (hk : (Lit.int .i64 k).wf = true) (hs : (Lit.int .i64 s).wf = true) :
    Calls Try.prog 3 #[.slice A n c, .int .i64 k, .int .i64 s] w fun e w' => e = .returned (.bool true) ∧ Below w.heap.size w w' := by
  obtain ⟨hr, hc, hn⟩ := h
  have hl : data.length = n := by have := hr.1; simpa [bys_length] using this
  have H := Lib.hid (And.intro hr (And.intro hl (And.intro hk (And.intro hs (And.intro hc hn)))))
  have hn' : (n : Int) ≤ 140737488351232 := by omega
  clear hr hl hk hs hc hn
  go_enter Try.func3, Try.ntmps3
  go_upto_region 1 with fail
  go_cut [7] (fun b wx => b = .bool (fineB k s) ∧ wx = w)
  case first =>
    by_cases h1 : 1 ≤ k
    · have d1 : decide (k ≥ 1) = true := by simpa using h1
      have d1' : decide (1 ≤ k) = true := by simpa using h1
      by_cases h2 : k ≤ 65536
      · have d2 : decide (k ≤ 65536) = true := by simpa using h2
        by_cases h3 : 1 ≤ s
        · have d3 : decide (s ≥ 1) = true := by simpa using h3
          have d3' : decide (1 ≤ s) = true := by simpa using h3
          have HF := Lib.hid (show fineB k s = decide (s ≤ 65535) from by unfold fineB; simp [h1, h2, h3])
          clear h1 h2 h3
          go_wp2_with fail
          go_meet
          exact ⟨by rw [HF.out], rfl⟩
        · have d3 : decide (s ≥ 1) = false := by simpa using h3
          have d3' : decide (1 ≤ s) = false := by simpa using h3
          have HF := Lib.hid (show fineB k s = false from decide_eq_false fun h => h3 h.2.2.1)
          clear h1 h2 h3
          go_wp2_with fail
          go_meet
          exact ⟨by rw [HF.out], rfl⟩
      · have d2 : decide (k ≤ 65536) = false := by simpa using h2
        have HF := Lib.hid (show fineB k s = false from decide_eq_false fun h => h2 h.2.1)
        clear h1 h2
        go_wp2_with fail
        go_meet
        exact ⟨by rw [HF.out], rfl⟩
    · have d1 : decide (k ≥ 1) = false := by simpa using h1
      have d1' : decide (1 ≤ k) = false := by simpa using h1
      have HF := Lib.hid (show fineB k s = false from decide_eq_false fun h => h1 h.1)
      clear h1
      go_wp2_with fail
      go_meet
      exact ⟨by rw [HF.out], rfl⟩
  case rest =>
    obtain ⟨rfl, rfl⟩ := hcut
    by_cases h3 : 300 < n
    · have d1 : decide ((n : Int) > 300) = true := by simp; omega
      have d2 : decide ((300 : Int) < (n : Int)) = true := by simp; omega
      have d3 : decide (300 < n) = true := by simpa using h3
      clear h3
      go_wp2_with fail
      refine awake_any.mono ?_
      rintro e w2 ⟨rfl, hb⟩
      have HB := Lib.hid hb
      clear hb
      go_wp2
      go_ret
      exact ⟨rfl, HB.out⟩
    · have d1 : decide ((n : Int) > 300) = false := by simp; omega
      have d2 : decide ((300 : Int) < (n : Int)) = false := by simp; omega
      have d3 : decide (300 < n) = false := by simpa using h3
      have hn3 : n ≤ 300 := by omega
      by_cases hbig : fineB k s = true ∧ 2000 < k * s
      · obtain ⟨hf, hb⟩ := hbig
        have hok := of_decide_eq_true (show decide (1 ≤ k ∧ k ≤ 65536 ∧ 1 ≤ s ∧ s ≤ 65535) = true from hf)
        obtain ⟨K, rfl⟩ : ∃ K : Nat, k = K := ⟨k.toNat, by omega⟩
        obtain ⟨Z, rfl⟩ : ∃ Z : Nat, s = Z := ⟨s.toNat, by omega⟩
        have hmul : K * Z ≤ 4294967296 := by
          have := Nat.mul_le_mul (show K ≤ 65536 by omega) (show Z ≤ 65535 by omega)
          omega
        rw [hf]
        have hw : IntKind.i64.wrap ((K : Int) * (Z : Int)) = (K : Int) * (Z : Int) := by rw [← Int.natCast_mul, IntKind.wrap_i64]; omega
        have d4 : decide ((K : Int) * (Z : Int) > 2000) = true := by simpa using hb
        have d5 : decide (2000 < (K : Int) * (Z : Int)) = true := by simpa using hb
        clear h3 hf hb hok hmul
        go_wp2_with fail
        refine awake_any.mono ?_
        rintro e w2 ⟨rfl, hb⟩
        have HB := Lib.hid hb
        clear hb
        go_wp2
        go_ret
        exact ⟨rfl, HB.out⟩
-- A
      · by_cases hf : fineB k s = true
        · have hok := of_decide_eq_true (show decide (1 ≤ k ∧ k ≤ 65536 ∧ 1 ≤ s ∧ s ≤ 65535) = true from hf)
          obtain ⟨K, rfl⟩ : ∃ K : Nat, k = K := ⟨k.toNat, by omega⟩
          obtain ⟨Z, rfl⟩ : ∃ Z : Nat, s = Z := ⟨s.toNat, by omega⟩
          have hmul : K * Z ≤ 4294967296 := by
            have := Nat.mul_le_mul (show K ≤ 65536 by omega) (show Z ≤ 65535 by omega)
            omega
          have hb : ¬ ((2000 : Int) < (K : Int) * (Z : Int)) := fun h => hbig ⟨hf, h⟩
          rw [hf]
          have hw : IntKind.i64.wrap ((K : Int) * (Z : Int)) = (K : Int) * (Z : Int) := by rw [← Int.natCast_mul, IntKind.wrap_i64]; omega
          have d4 : decide ((K : Int) * (Z : Int) > 2000) = false := by simpa using hb
          have d5 : decide (2000 < (K : Int) * (Z : Int)) = false := by simpa using hb
          clear h3 hf hb hok hmul hbig
          go_wp2_with fail
          refine (copy_any H.out.1 (by have := H.out.2.2.2.2.2; omega)).mono ?_
          rintro e w1 ⟨v, rfl, ho, hb⟩
          obtain ⟨A1, c1, rfl, hc1, _⟩ := own_form ho
          have H1 := Lib.hid (And.intro (Rd.of_own ho) (And.intro hc1 (And.intro (H.out.1.below hb) hb)))
          clear ho hb hc1
          go_wp2_with fail
          refine (cut_any H1.out.1 H1.out.2.1 (by omega) _ _ H.out.2.2.1 H.out.2.2.2.1).mono ?_
          rintro e w2 ⟨v2, vs2, rfl, ho2, hr2, hb2⟩
          obtain ⟨A2, c2, rfl, hs2⟩ := ToldL.syms ho2 hr2
          have H2 := Lib.hid (And.intro ho2 (And.intro hr2 (And.intro hs2 hb2)))
          clear ho2 hr2 hb2 hs2
          go_wp2_with fail
          refine (rcut_any (H1.out.2.2.1.below H2.out.2.2.2) H.out.2.2.2.2.1 (by omega) _ _ H.out.2.2.1 H.out.2.2.2.1).mono ?_
          rintro e w3 ⟨v3, vs3, rfl, ho3, hr3, hb3⟩
          obtain ⟨A3, c3, rfl, hs3⟩ := ToldL.syms ho3 hr3
          have H3 := Lib.hid (And.intro hs3 (And.intro (H2.out.2.2.1.below hb3) (And.intro (own_below H2.out.1 hb3) (And.intro (H2.out.2.1.below hb3) (below_base H2.out.2.2.2 hb3 H2.out.2.2.2.size)))))
          clear ho3 hr3 hb3 hs3
          go_wp2_with fail
          refine (sameSymbols_any H3.out.2.1 H3.out.1 (by have := cutV_len (K : Int) (Z : Int) data; omega)).mono ?_
          rintro e w4 ⟨rfl, hb4⟩
          have H4 := Lib.hid (And.intro (own_below H3.out.2.2.1 hb4) (And.intro (H3.out.2.2.2.1.below hb4) (below_base H3.out.2.2.2.2 hb4 H3.out.2.2.2.2.size)))
          clear hb4
          rw [cutV_same (K : Int) (Z : Int) data]
          go_wp2_with fail
          refine (overSymbols_any H4.out.1 H4.out.2.1 (by have := cutV_len (K : Int) (Z : Int) data; omega) (cutV_row (K : Int) (Z : Int) data)).mono ?_
          rintro e w5 ⟨rfl, hc5⟩
          have H5 := Lib.hid (hc5.below H4.out.2.2 (fun _ _ h => h) (H4.out.2.2.size))
          clear hc5
          go_wp2_with fail
          refine (same_true (H1.out.1.below H5.out) (H1.out.2.2.1.below H5.out)).mono ?_
          rintro e w6 ⟨rfl, rfl⟩
          go_wp2_with fail
          refine awake_any.mono ?_
          rintro e w7 ⟨rfl, hb7⟩
          have H7 := Lib.hid hb7
          clear hb7
          go_wp2
          go_ret
          exact ⟨rfl, below_base (below_base H1.out.2.2.2 H5.out H1.out.2.2.2.size) H7.out (by have := H1.out.2.2.2.size; have := H5.out.size; omega)⟩
        · have hf : fineB k s = false := by simpa using hf
          rw [hf]
          clear h3 hbig
          go_wp2_with fail
          refine (copy_any H.out.1 (by have := H.out.2.2.2.2.2; omega)).mono ?_
          rintro e w1 ⟨v, rfl, ho, hb⟩
          obtain ⟨A1, c1, rfl, hc1, _⟩ := own_form ho
          have H1 := Lib.hid (And.intro (Rd.of_own ho) (And.intro hc1 (And.intro (H.out.1.below hb) hb)))
          clear ho hb hc1
          go_wp2_with fail
          refine (cut_any H1.out.1 H1.out.2.1 (by omega) _ _ H.out.2.2.1 H.out.2.2.2.1).mono ?_
          rintro e w2 ⟨v2, vs2, rfl, ho2, hr2, hb2⟩
          obtain ⟨A2, c2, rfl, hs2⟩ := ToldL.syms ho2 hr2
          have H2 := Lib.hid (And.intro ho2 (And.intro hr2 (And.intro hs2 hb2)))
          clear ho2 hr2 hb2 hs2
          go_wp2_with fail
          refine (rcut_any (H1.out.2.2.1.below H2.out.2.2.2) H.out.2.2.2.2.1 (by omega) _ _ H.out.2.2.1 H.out.2.2.2.1).mono ?_
          rintro e w3 ⟨v3, vs3, rfl, ho3, hr3, hb3⟩
          obtain ⟨A3, c3, rfl, hs3⟩ := ToldL.syms ho3 hr3
          have H3 := Lib.hid (And.intro hs3 (And.intro (H2.out.2.2.1.below hb3) (And.intro (own_below H2.out.1 hb3) (And.intro (H2.out.2.1.below hb3) (below_base H2.out.2.2.2 hb3 H2.out.2.2.2.size)))))
          clear ho3 hr3 hb3 hs3
          go_wp2_with fail
          refine (sameSymbols_any H3.out.2.1 H3.out.1 (by have := cutV_len k s data; omega)).mono ?_
          rintro e w4 ⟨rfl, hb4⟩
          have H4 := Lib.hid (And.intro (own_below H3.out.2.2.1 hb4) (And.intro (H3.out.2.2.2.1.below hb4) (below_base H3.out.2.2.2.2 hb4 H3.out.2.2.2.2.size)))
          clear hb4
          rw [cutV_same k s data]
          go_wp2_with fail
          refine (overSymbols_any H4.out.1 H4.out.2.1 (by have := cutV_len k s data; omega) (cutV_row k s data)).mono ?_
          rintro e w5 ⟨rfl, hc5⟩
          have H5 := Lib.hid (hc5.below H4.out.2.2 (fun _ _ h => h) (H4.out.2.2.size))
          clear hc5
          go_wp2_with fail
          refine (same_true (H1.out.1.below H5.out) (H1.out.2.2.1.below H5.out)).mono ?_
          rintro e w6 ⟨rfl, rfl⟩
          go_wp2_with fail
          refine awake_any.mono ?_
          rintro e w7 ⟨rfl, hb7⟩
          have H7 := Lib.hid hb7
          clear hb7
          go_wp2
          go_ret
          exact ⟨rfl, below_base (below_base H1.out.2.2.2 H5.out H1.out.2.2.2.size) H7.out (by have := H1.out.2.2.2.size; have := H5.out.size; omega)⟩
-- B
end Go.Proofs.Ytdpmkijkniobpaa
