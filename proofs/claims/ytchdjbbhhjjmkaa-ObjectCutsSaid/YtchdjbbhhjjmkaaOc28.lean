/- Chapter 28: ObjectCuts' walk. -/
import Derived.Test.YtchdjbbhhjjmkaaJs28
namespace Go.Proofs.Ytchdjbbhhjjmkaa
open Go.RowKit
set_option linter.unusedVariables false
theorem syV_len (m : MF) (data : List UInt8) (b : Int) : (syV m data b).length ≤ 65536 ∧ ∀ x ∈ syV m data b, x.length ≤ 65535 := by
  unfold syV
  split
  · rename_i h
    have hm : mfB m = true := by
      unfold syE at h
      split at h
      · rename_i h2; exact h2.1
      · cases h
    have hk := mf_ks hm
    refine ⟨by rw [cutL_len]; omega, fun x hx => ?_⟩
    rw [cutL_row x hx]; omega
  · exact ⟨Nat.zero_le _, fun x hx => by simp at hx⟩
theorem ptV_le {m : MF} {b : Int} {xss : List (List UInt8)} {u : Nat} (hx : ∀ x ∈ xss, x.length ≤ u) : (ptV m b xss).length ≤ xss.length * u := by
  unfold ptV
  split
  · have := flat_le hx xss.length
    rw [List.take_of_length_le (Nat.le_refl _)] at this
    rw [List.length_take]
    omega
  · exact Nat.zero_le _
set_option maxRecDepth 100000 in
set_option maxHeartbeats 6400000 in
theorem objectCuts_any {w : World} {A B C : Option Addr} {n c l cc lc ccd : Nat} {m : MF} {xss : List (List UInt8)} {data : List UInt8} (h : MA w A n c m) (hdt : Rd w C lc (bys data)) (hcc : lc ≤ ccd) (hlc : lc ≤ 140737488351232) {b : Int} (hb : R64 b) (hs : Syms w B l xss) (hl : l ≤ 5864062014634) (hx : ∀ x ∈ xss, x.length ≤ 140737488351232) :
    Calls Try.prog 5 #[m.v A n c, .slice C lc ccd, .int .i64 b, .slice B l cc] w fun e w' => e = .returned (.bool true) ∧ Below w.heap.size w w' := by
  obtain ⟨z, s, k, d, t⟩ := m
  obtain ⟨w1, hw1⟩ : ∃ w1, w1 = w.alloc (.cells #[.int .i64 z, .int .i64 s, .int .i64 k, .int .i64 d, .slice A n c] 24) := ⟨_, rfl⟩
  have hM := MB.new h
  rw [← hw1] at hM
  have H1 := Lib.hid (And.intro hM (And.intro (hs.below hM.2.2) (hdt.below hM.2.2)))
  have HX := Lib.hid (And.intro hl (And.intro hx (And.intro hcc (And.intro hb (And.intro hs.len hlc)))))
  obtain ⟨c0, c1, c2, c3, c4⟩ := cells5 hM.1
  clear h hs hdt hM hl hx hb hcc hlc
  show Calls Try.prog 5 #[.agg #[.int .i64 z, .int .i64 s, .int .i64 k, .int .i64 d, .slice A n c], .slice C lc ccd, .int .i64 b, .slice B l cc] w _
  go_enter Try.func5, Try.ntmps5
  go_wp2_with fail
  rw [← hw1]
  clear hw1
  refine (longO_any (m := ⟨z, s, k, d, t⟩)).mono ?_
  rintro e w2 ⟨bb, rfl, hbb, hb2⟩
  have H2 := Lib.hid (And.intro (H1.out.1.below hb2) (And.intro (H1.out.2.1.below hb2) (H1.out.2.2.below hb2)))
  have HBB := Lib.hid hbb
  clear hb2 c0 c1 c2 c3 c4 hbb
  cases bb with
  | true =>
    go_wp2_with fail
    refine awake_any.mono ?_
    rintro e w3 ⟨rfl, hb3⟩
    go_wp2
    go_ret
    exact ⟨rfl, (H2.out.1.below hb3).2.2⟩
  | false =>
    go_wp2_with fail
    refine (longSymbols_any (many := 45) (bytes := 45) H2.out.2.1 HX.out.1 (by decide) (by decide) HX.out.2.1).mono ?_
    rintro e w3 ⟨rfl, rfl⟩
    cases hls : longS 45 45 xss with
    | true =>
      clear hls
      go_wp2_with fail
      refine awake_any.mono ?_
      rintro e w4 ⟨rfl, hb4⟩
      go_wp2
      go_ret
      exact ⟨rfl, (H2.out.1.below hb4).2.2⟩
    | false =>
      have HLS := Lib.hid (longS_no hls)
      have HLB := Lib.hid (show lc ≤ 500 from HBB.out (by first | rfl | trivial))
      clear hls
      obtain ⟨c0, c1, c2, c3, c4⟩ := cells5 H2.out.1.1
      have HL45 := Lib.hid (show l ≤ 45 by rw [← HX.out.2.2.2.2.1]; exact HLS.out.1)
      go_wp2_with fail
      refine (copyM_any H2.out.1.2.1).mono ?_
      rintro e w4 ⟨A4, d4, rfl, ho4, hb4⟩
      rw [v_mk]
      have hm4 : MA w4 A4 n d4 ⟨z, s, k, d, t⟩ := ⟨Rd.of_own ho4, by obtain ⟨_, _, ev, hle, _⟩ := own_form ho4; injection ev with _ _ e3; omega, H2.out.1.2.1.2.2⟩
      have H4 := Lib.hid (And.intro (H2.out.1.below hb4) (And.intro (H2.out.2.1.below hb4) (And.intro (H2.out.2.2.below hb4) hm4)))
      clear ho4 hb4 hm4 c0 c1 c2 c3 c4
      go_wp2_with fail
      refine (copy_any H4.out.2.2.1 HX.out.2.2.2.2.2).mono ?_
      rintro e w40 ⟨v40, rfl, ho40, hb40⟩
      obtain ⟨A40, d40, rfl, hd40, _⟩ := own_form ho40
      have H40 := Lib.hid (And.intro (H4.out.1.below hb40) (And.intro (H4.out.2.1.below hb40) (And.intro (H4.out.2.2.1.below hb40) (And.intro (H4.out.2.2.2.below hb40) (And.intro (Rd.of_own ho40) hd40)))))
      clear ho40 hb40 hd40
      go_wp2_with fail
      refine (copySymbols_any H40.out.2.1 (Nat.le_trans HL45.out (by decide)) HX.out.2.1).mono ?_
      rintro e w5 ⟨v5, vs5, rfl, ho5, hr5, hb5⟩
      obtain ⟨A5, d5, rfl, hd5, hs5⟩ := own_syms ho5 hr5
      have hb6 := (Below.refl w5.heap.size w5).alloc (Nat.le_refl _) (.cells #[.int .i64 z, .int .i64 s, .int .i64 k, .int .i64 d, .slice A4 n d4] 24)
      have hb7 := below_base hb5 hb6 hb5.size
      have H6 := Lib.hid (And.intro (show OS w (w5.alloc (.cells #[.int .i64 z, .int .i64 s, .int .i64 k, .int .i64 d, .slice A4 n d4] 24)) w5.heap.size A A4 n c d4 z s k d t from ⟨(H40.out.1.below hb7).1, Bk.newA w5 24 #[.int .i64 z, .int .i64 s, .int .i64 k, .int .i64 d, .slice A4 n d4], (H40.out.1.below hb7).2.1, H40.out.2.2.2.1.below hb7, (H40.out.1.below hb7).2.2⟩)
        (And.intro (hs5.below hb6) (And.intro (H40.out.2.1.below hb7) (And.intro (H40.out.2.2.1.below hb7) (H40.out.2.2.2.2.1.below hb7)))))
      have HD40 := Lib.hid H40.out.2.2.2.2.2
      clear ho5 hr5 hb5 hs5 hb6 hb7 hd5
      obtain ⟨c0, c1, c2, c3, c4, e0, e1, e2, e3, e4⟩ := H6.out.1.cells
      go_wp2_with fail
      clear c0 c1 c2 c3 c4 e0 e1 e2 e3 e4
      generalize w5.alloc (.cells #[.int .i64 z, .int .i64 s, .int .i64 k, .int .i64 d, .slice A4 n d4] 24) = w6 at H6 ⊢
      generalize w5.heap.size = G at H6 ⊢
      have HSV := Lib.hid (syV_len ⟨z, s, k, d, t⟩ data b)
      obtain ⟨E, hE⟩ : ∃ E, syE ⟨z, s, k, d, t⟩ data b = E := ⟨_, rfl⟩
      obtain ⟨V, hV⟩ : ∃ V, syV ⟨z, s, k, d, t⟩ data b = V := ⟨_, rfl⟩
      obtain ⟨F, hF⟩ : ∃ E, ptE ⟨z, s, k, d, t⟩ b xss = E := ⟨_, rfl⟩
      obtain ⟨U, hU⟩ : ∃ V, ptV ⟨z, s, k, d, t⟩ b xss = V := ⟨_, rfl⟩
      have hUL : U.length ≤ 2025 := by
        rw [← hU]
        have h1 := ptV_le (m := ⟨z, s, k, d, t⟩) (b := b) HLS.out.2
        have h2 := Nat.mul_le_mul_right 45 HLS.out.1
        omega
      rw [hV] at HSV
      have HE := Lib.hid (And.intro hE (And.intro hV (And.intro hF (And.intro hU hUL))))
      clear hE hV hF hU hUL
      have S1 := Lib.hid (symbols_any H6.out.1.2.2.2.1 H6.out.2.2.2.2 HD40.out (Nat.le_trans HLB.out (by decide)) HX.out.2.2.2.1)
      rw [HE.out.1, HE.out.2.1] at S1
      refine S1.out.mono ?_
      rintro e w7 ⟨v7, vs7, rfl, ho7, hr7, hb7⟩
      obtain ⟨L7, hL7⟩ : ∃ L, V.length = L := ⟨_, rfl⟩
      rw [hL7] at ho7 HSV
      obtain ⟨A7, d7, rfl, hd7, hs7⟩ := own_syms ho7 hr7
      have H7 := Lib.hid (And.intro hb7 (And.intro ho7 (And.intro hr7 hs7)))
      have HL7 := Lib.hid hL7
      clear ho7 hb7 hr7 hs7 hd7 S1 hL7
      obtain ⟨c0, c1, c2, c3, c4, e0, e1, e2, e3, e4⟩ := (H6.out.1.below H7.out.1).cells
      go_wp2_with fail
      clear c0 c1 c2 c3 c4 e0 e1 e2 e3 e4
      have S2 := Lib.hid (rsymbols_any (H6.out.1.below H7.out.1).2.2.1 (H6.out.2.2.2.1.below H7.out.1) HX.out.2.2.1 (Nat.le_trans HLB.out (by decide)) HX.out.2.2.2.1)
      rw [HE.out.1, HE.out.2.1] at S2
      refine S2.out.mono ?_
      rintro e w8 ⟨v8, vs8, rfl, ho8, hr8, hb8⟩
      rw [HL7.out] at ho8
      obtain ⟨A8, d8, rfl, hd8, hs8⟩ := own_syms ho8 hr8
      have H8 := Lib.hid (And.intro (below_base H7.out.1 hb8 H7.out.1.size) (And.intro hb8 hs8))
      clear ho8 hb8 hr8 hs8 hd8 S2
      obtain ⟨c0, c1, c2, c3, c4, e0, e1, e2, e3, e4⟩ := (H6.out.1.below H8.out.1).cells
      go_wp2_with fail
      clear c0 c1 c2 c3 c4 e0 e1 e2 e3 e4
      have S3 := Lib.hid (opart_any (cc := d5) (H6.out.1.below H8.out.1).2.2.2.1 (H6.out.2.1.below H8.out.1) (Nat.le_trans HL45.out (by decide)) HX.out.2.2.2.1)
      rw [HE.out.2.2.1, HE.out.2.2.2.1] at S3
      refine S3.out.mono ?_
      rintro e w9 ⟨v9, rfl, ho9, hb9⟩
      obtain ⟨L9, hL9⟩ : ∃ L, U.length = L := ⟨_, rfl⟩
      rw [hL9] at ho9
      obtain ⟨A9, d9, rfl, _⟩ := own_form ho9
      have H9 := Lib.hid (And.intro (below_base H8.out.1 hb9 H8.out.1.size) (And.intro (below_base H8.out.2.1 hb9 H8.out.2.1.size) (And.intro (H8.out.2.2.below hb9) ho9)))
      have HS9 := Lib.hid hb9.size
      have HL9 := Lib.hid (And.intro hL9 (show L9 ≤ 2025 by rw [← hL9]; exact HE.out.2.2.2.2))
      clear ho9 hb9 S3 hL9
      obtain ⟨c0, c1, c2, c3, c4, e0, e1, e2, e3, e4⟩ := (H6.out.1.below H9.out.1).cells
      go_wp2_with fail
      clear c0 c1 c2 c3 c4 e0 e1 e2 e3 e4
      have S4 := Lib.hid (ropart_any (cc := cc) (H6.out.1.below H9.out.1).2.2.1 (H6.out.2.2.1.below H9.out.1) (Nat.le_trans HL45.out (by decide)) HX.out.2.2.2.1)
      rw [HE.out.2.2.1, HE.out.2.2.2.1] at S4
      refine S4.out.mono ?_
      rintro e w10 ⟨v10, rfl, ho10, hb10⟩
      rw [HL9.out.1] at ho10
      obtain ⟨A10, d10, rfl, _⟩ := own_form ho10
      have H10 := Lib.hid (And.intro (below_base H9.out.1 hb10 H9.out.1.size) (And.intro (below_base H9.out.2.1 hb10 H9.out.2.1.size) (And.intro (H9.out.2.2.1.below hb10) (And.intro (own_below H9.out.2.2.2 hb10) (Rd.of_own ho10)))))
      have HS10 := Lib.hid hb10.size
      clear ho10 hb10 S4
      go_wp2_with fail
      refine (symsTrue (H7.out.2.2.2.below H10.out.2.1) H10.out.2.2.1 (by have := HSV.out.1; omega)).mono ?_
      rintro e w11 ⟨rfl, hb11⟩
      have H11 := Lib.hid (And.intro (below_base H10.out.1 hb11 H10.out.1.size) (And.intro (below_base H10.out.2.1 hb11 H10.out.2.1.size) (And.intro (own_below H10.out.2.2.2.1 hb11) (H10.out.2.2.2.2.below hb11))))
      have HS11 := Lib.hid hb11.size
      clear hb11
      go_wp2_with fail
      refine (same_true (Rd.of_own H11.out.2.2.1) H11.out.2.2.2).mono ?_
      rintro e w12 ⟨rfl, rfl⟩
      go_wp2_with fail
      have ho12 := own_below H7.out.2.1 H11.out.2.1
      have hr12 := H7.out.2.2.1.below H11.out.2.1
      have HO := Lib.hid (And.intro (overSymbols_rows ho12 hr12 (by have := HSV.out.1; omega) (fun x hx => Nat.le_trans (HSV.out.2 x hx) (by decide))) (fun (j : Nat) u bl (h : vs7[j]? = some u) e => hr12.blk j u bl h e))
      have HS8 := Lib.hid (show ∀ (j : Nat) u bl, vs7[j]? = some u → u.ownBlock = some bl → bl < w7.heap.size from fun j u bl h e => (H7.out.2.2.1.blk j u bl h e).2)
      clear ho12 hr12
      refine HO.out.1.mono ?_
      rintro e w13 ⟨rfl, hc13⟩
      have hb13 := hc13.below H11.out.1 (fun j _ ⟨i, u, h1, h2⟩ => (HO.out.2 i u j h1 h2).1) H11.out.1.size
      have ho13 := hc13.own H11.out.2.2.1 (fun a ha ⟨i, u, h1, h2⟩ => by
        have g1 := HS8.out i u _ h1 h2
        have g2 := (own_ge H11.out.2.2.1 a ha).1
        have g3 := H8.out.2.1.size
        omega)
      have H13 := Lib.hid (And.intro hb13 ho13)
      have HZ := Lib.hid hc13.size
      clear hc13 hb13 ho13
      go_wp2_with fail
      refine (overB_own H13.out.2 (by have := HS9.out; have := HS10.out; have := HS11.out; have := HZ.out; omega) (by have := HL9.out.2; omega)).mono ?_
      rintro e w14 ⟨rfl, hc14⟩
      have H14 := Lib.hid (hc14.below H13.out.1 (fun j _ hj => Nat.le_trans H8.out.1.size hj) H13.out.1.size)
      clear hc14
      obtain ⟨c0, c1, c2, c3, c4, e0, e1, e2, e3, e4⟩ := (H6.out.1.below H14.out).cells
      go_wp2_with fail
      clear c0 c1 c2 c3 c4 e0 e1 e2 e3 e4
      refine (sameM_any (H6.out.1.below H14.out).2.2.2.1 (H6.out.1.below H14.out).2.2.1).mono ?_
      rintro e w15 ⟨rfl, hb15⟩
      rw [same_refl]
      have H15 := Lib.hid (below_base H14.out hb15 H14.out.size)
      clear hb15
      go_wp2_with fail
      refine (same_true (H6.out.2.2.2.2.below H15.out) (H6.out.2.2.2.1.below H15.out)).mono ?_
      rintro e w16 ⟨rfl, rfl⟩
      go_wp2_with fail
      refine (symsTrue (H6.out.2.1.below H15.out) (H6.out.2.2.1.below H15.out) (Nat.le_trans HL45.out (by decide))).mono ?_
      rintro e w17 ⟨rfl, hb17⟩
      have H17 := Lib.hid (below_base H15.out hb17 H15.out.size)
      clear hb17
      go_wp2_with fail
      refine awake_any.mono ?_
      rintro e w18 ⟨rfl, hb18⟩
      go_wp2
      go_ret
      exact ⟨rfl, (H6.out.1.below (below_base H17.out hb18 H17.out.size)).2.2.2.2⟩
theorem objectCuts_walk {w : World} {A B C : Option Addr} {n c l cc lc ccd : Nat} {m : MF} {data : List UInt8} {b : Int} {vs : List Value} {xss : List (List UInt8)} (h : MA w A n c m) (h1 : Rd w C lc (bys data) ∧ lc ≤ ccd ∧ lc ≤ 140737488351232) (hb : (Lit.int .i64 b).wf = true) (h2 : Rd w B l vs ∧ Rows_ w vs xss ∧ l ≤ cc ∧ l ≤ 5864062014634 ∧ ∀ x ∈ xss, x.length ≤ 140737488351232) :
    Calls Try.prog 5 #[m.v A n c, .slice C lc ccd, .int .i64 b, .slice B l cc] w fun e w' => e = .returned (.bool true) ∧ Below w.heap.size w w' :=
  objectCuts_any h h1.1 h1.2.1 h1.2.2 (bounds_i64 hb) ⟨vs, h2.1, h2.2.1⟩ h2.2.2.2.1 h2.2.2.2.2
end Go.Proofs.Ytchdjbbhhjjmkaa
