/- BlockBack: its walk. -/
import Derived.Test.YtdpmkijkniobpaaBb18
namespace Go.Proofs.Ytdpmkijkniobpaa
open Go.RowKit
set_option linter.unusedVariables false
theorem wfn {k : Nat} (h : k ≤ 1000000000) : (Lit.int .i64 (k : Int)).wf = true := by
  simp [Lit.wf, IntKind.min, IntKind.max, IntKind.signed, IntKind.bits]
  omega
set_option maxRecDepth 100000 in
set_option maxHeartbeats 6400000 in
/-- artesianlaw18.BlockBack -/
theorem blockBack_walk {w : World} {A : Option Addr} {n c : Nat} {data : List UInt8} {k s : Int} (h : Rd w A n (bys data) ∧ n ≤ c ∧ n ≤ 140737488351232) (hk : (Lit.int .i64 k).wf = true) (hs : (Lit.int .i64 s).wf = true) :
    Calls Try.prog 6 #[.slice A n c, .int .i64 k, .int .i64 s] w fun e w' => e = .returned (.bool true) ∧ Below w.heap.size w w' := by
  obtain ⟨hr, hc, hn⟩ := h
  have hl : data.length = n := by have := hr.1; simpa [bys_length] using this
  obtain ⟨K, hK⟩ : ∃ K : Nat, 1 + k % 40 = (K : Int) := ⟨(1 + k % 40).toNat, by omega⟩
  obtain ⟨Z, hZ⟩ : ∃ Z : Nat, 1 + s % 20 = (Z : Int) := ⟨(1 + s % 20).toNat, by omega⟩
  have K1 : 1 ≤ K := by omega
  have K2 : K ≤ 40 := by omega
  have Z1 : 1 ≤ Z := by omega
  have Z2 : Z ≤ 20 := by omega
  have H := Lib.hid (And.intro hr (And.intro hl (And.intro hk (And.intro hs (And.intro hc (And.intro hK hZ))))))
  have hn' : (n : Int) ≤ 140737488351232 := by omega
  clear hr hl hk hs hc hn hK hZ
  go_enter Try.func6, Try.ntmps6
  go_wp2_with fail
  refine blockKnown_any.mono ?_
  rintro e w1 ⟨rfl, hb1⟩
  have H1 := Lib.hid (And.intro (H.out.1.below hb1) hb1)
  clear hb1
  go_upto_region 2 with fail
  go_cut [1, 2] (fun a b wx => a = .int .i64 (K : Int) ∧ b = .int .i64 (Z : Int) ∧ wx = w1)
  case first =>
    go_wp2_with fail
    refine (pick_any k 40 H.out.2.2.1 (by decide) (by decide)).mono ?_
    rintro e w2 ⟨rfl, rfl⟩
    have r1 : 0 ≤ k % 40 := by omega
    have r2 : k % 40 ≤ 39 := by omega
    go_wp2_with fail
    refine (pick_any s 20 H.out.2.2.2.1 (by decide) (by decide)).mono ?_
    rintro e w2 ⟨rfl, rfl⟩
    have r3 : 0 ≤ s % 20 := by omega
    have r4 : s % 20 ≤ 19 := by omega
    go_wp2_with fail
    go_meet
    exact ⟨by rw [H.out.2.2.2.2.2.1], by rw [H.out.2.2.2.2.2.2], rfl⟩
  case rest =>
    obtain ⟨rfl, rfl, rfl⟩ := hcut
    by_cases h3 : 300 < n
    · have d1 : decide ((n : Int) > 300) = true := by simp; omega
      have d2 : decide ((300 : Int) < (n : Int)) = true := by simp; omega
      have d3 : decide (300 < n) = true := by simpa using h3
      clear h3
      go_wp2
      go_ret
      exact ⟨rfl, H1.out.2⟩
    · have d1 : decide ((n : Int) > 300) = false := by simp; omega
      have d2 : decide ((300 : Int) < (n : Int)) = false := by simp; omega
      have d3 : decide (300 < n) = false := by simpa using h3
      have hn3 : n ≤ 300 := by omega
      clear h3 hn'
      have hmul : K * Z ≤ 800 := Nat.mul_le_mul K2 Z2
      go_wp2_with fail
      refine (cut_any H1.out.1 H.out.2.2.2.2.1 (by omega) (K : Int) (Z : Int) (wfn (by omega)) (wfn (by omega))).mono ?_
      rintro e w2 ⟨v2, vs2, rfl, ho2, hr2, hb2⟩
      obtain ⟨A2, c2, rfl, hs2⟩ := ToldL.syms ho2 hr2
      have H2 := Lib.hid (And.intro hs2 (And.intro (H1.out.1.below hb2) (below_base H1.out.2 hb2 H1.out.2.size)))
      clear ho2 hr2 hb2 hs2
      have hw : IntKind.i64.wrap ((K : Int) * (Z : Int)) = (K : Int) * (Z : Int) := by rw [← Int.natCast_mul, IntKind.wrap_i64]; omega
      by_cases hbig : K * Z < n
      · have e1 := cut_big (data := data) K1 (by omega) Z1 (by omega) (by have := H.out.2.1; omega)
        rw [e1.1, e1.2]
        have d4 : decide ((n : Int) > (K : Int) * (Z : Int)) = true := by rw [← Int.natCast_mul]; simp only [decide_eq_true_eq]; omega
        have d5 : decide ((K : Int) * (Z : Int) < (n : Int)) = true := by rw [← Int.natCast_mul]; simp only [decide_eq_true_eq]; omega
        have d6 : decide (K * Z < n) = true := by simpa using hbig
        clear hbig e1
        go_wp2_with fail
        go_ret
        exact ⟨rfl, H2.out.2.2⟩
      · have d4 : decide ((n : Int) > (K : Int) * (Z : Int)) = false := by rw [← Int.natCast_mul]; simp only [decide_eq_false_iff_not]; omega
        have d5 : decide ((K : Int) * (Z : Int) < (n : Int)) = false := by rw [← Int.natCast_mul]; simp only [decide_eq_false_iff_not]; omega
        have d6 : decide (K * Z < n) = false := by simpa using hbig
        have hle : data.length ≤ K * Z := by have := H.out.2.1; omega
        have e1 := cut_ok (data := data) K1 (by omega) Z1 (by omega) hle
        have hlen : (cutV data (K : Int) (Z : Int)).length = K := by rw [e1.2, cutL_len]
        have hV := Lib.hid e1.2
        rw [e1.1, hlen]
        have h2 := H2.out.1
        rw [hlen, e1.2] at h2
        have HS := Lib.hid h2
        clear hbig e1 hlen h2
        obtain ⟨a, off, B, cc, hA2, ha, c0, hrd, _, _⟩ := HS.out.at_ (i := 0) (by omega)
        rw [cutL_get0 K1] at c0
        clear hrd
        subst hA2
        go_wp2_with fail
        refine (check_any HS.out (by omega)).mono ?_
        rintro e w3 ⟨rfl, hb3⟩
        rw [show bkE (cutL data K Z) = 0 from by unfold bkE; rw [cutL_bk K1 (by omega) Z1 (by omega)]; rfl]
        have c1 : w3.cell? ⟨a, off, none⟩ = some (.slice B Z cc) := (World.cell?_of_block (hb3.block a ha)).trans c0
        have hK0 : 0 < K := K1
        have H3 := Lib.hid (And.intro (HS.out.below hb3) (And.intro (H2.out.2.1.below hb3) (below_base H2.out.2.2 hb3 H2.out.2.2.size)))
        clear c0 hb3 ha
        go_wp2_with fail
        refine (joins_yes (z := (n : Int)) (err := 0) (cutL data K Z) data H3.out.1 (by omega) H3.out.2.1 (by
          have := jn_cut_n K1 (by omega) Z1 (by omega) hle
          rw [H.out.2.1] at this
          rw [this.1, this.2]; simp)).mono ?_
        rintro e w4 ⟨rfl, hb4⟩
        have H4 := Lib.hid (And.intro (H3.out.1.below hb4) (And.intro (H3.out.2.1.below hb4) (below_base H3.out.2.2 hb4 H3.out.2.2.size)))
        clear hb4 c1
        go_wp2_with fail
        refine (join_any H4.out.1 (by omega) ((K : Int) * (Z : Int))).mono ?_
        have HJ := Lib.hid (jn_cut_all (data := data) K1 (by omega) Z1 (by omega) hle)
        rw [← Int.natCast_mul, HJ.out.1, HJ.out.2]
        rintro e w5 ⟨v5, rfl, ho5, hb5⟩
        have hll : (data ++ List.replicate (K * Z - data.length) 0).length = K * Z := by simp; omega
        rw [hll] at ho5
        obtain ⟨A5, c5, rfl, hc5, hc5m, _, hA5⟩ := own_form ho5
        have hrd := Rd.of_own ho5
        have q1 := hrd.take_ (k := n) (by have := H.out.2.1; omega)
        rw [bys_take, List.take_append_of_le_length (by rw [H.out.2.1]; omega), List.take_of_length_le (by rw [H.out.2.1]; omega)] at q1
        have H5 := Lib.hid (And.intro q1 (And.intro hrd (And.intro (H4.out.1.below hb5) (And.intro (H4.out.2.1.below hb5) (below_base H4.out.2.2 hb5 H4.out.2.2.size)))))
        have hcs : n ≤ c5 := by have := H.out.2.1; omega
        clear ho5 hb5 q1
        have hc5m' : c5 ≤ 9223372036854775807 := hc5m
        have hle' : n ≤ K * Z := by have := H.out.2.1; omega
        have d7 : (((K : Int) * (Z : Int)) == ((K * Z : Nat) : Int)) = true := by rw [← Int.natCast_mul]; simp
        go_wp2_with fail
        refine (same_true H5.out.1 H5.out.2.2.2.1).mono ?_
        rintro e w6 ⟨rfl, rfl⟩
        obtain ⟨g, cur, rfl, hg1, hg2, _⟩ := hA5 (Nat.mul_pos K1 Z1)
        have HZ := Lib.hid (show ∀ A' : Option Addr, (n < K * Z → A' = some ⟨g, n, none⟩) → Rd w5 A' (K * Z - n) (bys (List.replicate (K * Z - n) 0)) from fun A' hA => by
          have := hrd.cut_at (k := n) (A' := A') hle' (fun h => by rw [hA h]; simp)
          rw [bys_drop, List.drop_append, List.drop_eq_nil_of_le (by rw [H.out.2.1]; omega), H.out.2.1] at this
          simpa using this)
        have HM := Lib.hid (jn_cut_more (data := data) K1 (by omega) Z1 (by omega))
        have hw2 : IntKind.i64.wrap ((K : Int) * (Z : Int) + 1) = (K : Int) * (Z : Int) + 1 := by rw [← Int.natCast_mul, IntKind.wrap_i64]; omega
        clear hrd
        go_wp2_with fail
        all_goals
          refine (zeros_any (HZ.out _ (by intro h; first | rfl | omega)) (by omega)).mono ?_
          rintro e w6 ⟨rfl, rfl⟩
          go_wp2_with fail
          refine (joins_yes (cutL data K Z) [] H5.out.2.2.1 (by omega) (Rd.nil _ _) (by rw [← Int.natCast_mul, HM.out.1, HM.out.2]; rfl)).mono ?_
          rintro e w7 ⟨rfl, hb7⟩
          have H7 := Lib.hid hb7
          clear hb7
          go_wp2
          go_ret
          exact ⟨rfl, below_base H5.out.2.2.2.2 H7.out H5.out.2.2.2.2.size⟩
end Go.Proofs.Ytdpmkijkniobpaa
