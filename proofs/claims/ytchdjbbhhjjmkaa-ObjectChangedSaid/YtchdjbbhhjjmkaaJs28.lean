/- Chapter 28: ObjectJoins' walk. -/
import Derived.Test.YtchdjbbhhjjmkaaOv28
namespace Go.Proofs.Ytchdjbbhhjjmkaa
open Go.RowKit
set_option linter.unusedVariables false
theorem jyV_le {m : MF} {xss : List (List UInt8)} {b : Nat} (hx : ∀ x ∈ xss, x.length ≤ b) : (jyV m xss).length ≤ xss.length * b := by
  unfold jyV
  split
  · have := flat_le hx xss.length
    rw [List.take_of_length_le (Nat.le_refl _)] at this
    exact this
  · exact Nat.zero_le _
set_option maxRecDepth 100000 in
set_option maxHeartbeats 6400000 in
theorem objectJoins_any {w : World} {A B D : Option Addr} {n c l cc nd cd : Nat} {m : MF} {xss : List (List UInt8)} {dn : List Bool} (h : MA w A n c m) (hs : Syms w B l xss) (hl : l ≤ 5864062014634) (hx : ∀ x ∈ xss, x.length ≤ 140737488351232) (hd : Rd w D nd (bools dn)) (hdn : nd ≤ 140737488351232) {last : Int} (hla : R64 last) :
    Calls Try.prog 3 #[m.v A n c, .slice B l cc, .slice D nd cd, .int .i64 last] w fun e w' => e = .returned (.bool true) ∧ Below w.heap.size w w' := by
  obtain ⟨z, s, k, d, t⟩ := m
  obtain ⟨w1, hw1⟩ : ∃ w1, w1 = w.alloc (.cells #[.int .i64 z, .int .i64 s, .int .i64 k, .int .i64 d, .slice A n c] 24) := ⟨_, rfl⟩
  have hM := MB.new h
  rw [← hw1] at hM
  have H1 := Lib.hid (And.intro hM (And.intro (hs.below hM.2.2) (hd.below hM.2.2)))
  have HX := Lib.hid (And.intro hl (And.intro hx (And.intro hdn (And.intro hla hs.len))))
  obtain ⟨c0, c1, c2, c3, c4⟩ := cells5 hM.1
  clear h hs hd hM hl hx hla
  have hn0 : (nd : Int) ≤ 140737488351232 := by omega
  clear hdn
  show Calls Try.prog 3 #[.agg #[.int .i64 z, .int .i64 s, .int .i64 k, .int .i64 d, .slice A n c], .slice B l cc, .slice D nd cd, .int .i64 last] w _
  obtain ⟨q, hq⟩ : ∃ q, decide ((nd : Int) > 60) = q := ⟨_, rfl⟩
  have hq2 : decide (60 < (nd : Int)) = q := by rw [← hq]
  have hq3 : decide (60 < nd) = q := by rw [← hq, decide_eq_decide]; omega
  go_enter Try.func3, Try.ntmps3
  go_wp2_with fail
  rw [← hw1]
  clear hw1
  refine (longO_any (m := ⟨z, s, k, d, t⟩)).mono ?_
  rintro e w2 ⟨b, rfl, _, hb2⟩
  have H2 := Lib.hid (And.intro (H1.out.1.below hb2) (And.intro (H1.out.2.1.below hb2) (H1.out.2.2.below hb2)))
  clear hb2 c0 c1 c2 c3 c4
  cases b with
  | true =>
    go_wp2_with fail
    refine awake_any.mono ?_
    rintro e w3 ⟨rfl, hb3⟩
    go_wp2
    go_ret
    exact ⟨rfl, (H2.out.1.below hb3).2.2⟩
  | false =>
    go_wp2_with fail
    refine (longSymbols_any (many := 40) (bytes := 2000) H2.out.2.1 HX.out.1 (by decide) (by decide) HX.out.2.1).mono ?_
    rintro e w3 ⟨rfl, rfl⟩
    cases hls : longS 40 2000 xss with
    | true =>
      have HLS := Lib.hid hls
      clear hls
      go_wp2_with fail
      refine awake_any.mono ?_
      rintro e w4 ⟨rfl, hb4⟩
      go_wp2
      go_ret
      exact ⟨rfl, (H2.out.1.below hb4).2.2⟩
    | false =>
      have HLS := Lib.hid (longS_no hls)
      clear hls
      cases q with
      | true =>
        go_wp2_with fail
        refine awake_any.mono ?_
        rintro e w4 ⟨rfl, hb4⟩
        go_wp2
        go_ret
        exact ⟨rfl, (H2.out.1.below hb4).2.2⟩
      | false =>
        obtain ⟨c0, c1, c2, c3, c4⟩ := cells5 H2.out.1.1
        have hl40 : l ≤ 40 := by rw [← HX.out.2.2.2.2]; exact HLS.out.1
        go_wp2_with fail
        refine (copyM_any H2.out.1.2.1).mono ?_
        rintro e w4 ⟨A4, d4, rfl, ho4, hb4⟩
        rw [v_mk]
        have hm4 : MA w4 A4 n d4 ⟨z, s, k, d, t⟩ := ⟨Rd.of_own ho4, by obtain ⟨_, _, ev, hle, _⟩ := own_form ho4; injection ev with _ _ e3; omega, H2.out.1.2.1.2.2⟩
        have H4 := Lib.hid (And.intro (H2.out.1.below hb4) (And.intro (H2.out.2.1.below hb4) (And.intro (H2.out.2.2.below hb4) hm4)))
        clear ho4 hb4 hm4 c0 c1 c2 c3 c4
        go_wp2_with fail
        refine (copySymbols_any H4.out.2.1 (by omega) HX.out.2.1).mono ?_
        rintro e w5 ⟨v5, vs5, rfl, ho5, hr5, hb5⟩
        obtain ⟨A5, d5, rfl, hd5, hs5⟩ := own_syms ho5 hr5
        have hb6 := (Below.refl w5.heap.size w5).alloc (Nat.le_refl _) (.cells #[.int .i64 z, .int .i64 s, .int .i64 k, .int .i64 d, .slice A4 n d4] 24)
        have hb7 := below_base hb5 hb6 hb5.size
        have H6 := Lib.hid (And.intro (show OS w (w5.alloc (.cells #[.int .i64 z, .int .i64 s, .int .i64 k, .int .i64 d, .slice A4 n d4] 24)) w5.heap.size A A4 n c d4 z s k d t from ⟨(H4.out.1.below hb7).1, Bk.newA w5 24 #[.int .i64 z, .int .i64 s, .int .i64 k, .int .i64 d, .slice A4 n d4], (H4.out.1.below hb7).2.1, H4.out.2.2.2.below hb7, (H4.out.1.below hb7).2.2⟩)
          (And.intro (hs5.below hb6) (And.intro (H4.out.2.1.below hb7) (H4.out.2.2.1.below hb7))))
        clear ho5 hr5 hb5 hs5 hb6 hb7 hd5
        obtain ⟨c0, c1, c2, c3, c4, e0, e1, e2, e3, e4⟩ := H6.out.1.cells
        go_wp2_with fail
        clear c0 c1 c2 c3 c4 e0 e1 e2 e3 e4
        generalize w5.alloc (.cells #[.int .i64 z, .int .i64 s, .int .i64 k, .int .i64 d, .slice A4 n d4] 24) = w6 at H6 ⊢
        generalize w5.heap.size = G at H6 ⊢
        obtain ⟨E, hE⟩ : ∃ E, jyE ⟨z, s, k, d, t⟩ xss = E := ⟨_, rfl⟩
        obtain ⟨V, hV⟩ : ∃ V, jyV ⟨z, s, k, d, t⟩ xss = V := ⟨_, rfl⟩
        have hVL : V.length ≤ 80000 := by
          rw [← hV]
          have h1 := jyV_le (m := ⟨z, s, k, d, t⟩) HLS.out.2
          have h2 := Nat.mul_le_mul_right 2000 HLS.out.1
          omega
        have HE := Lib.hid (And.intro hE (And.intro hV hVL))
        clear hE hV hVL
        refine (ojoin_any H6.out.1.2.2.2.1 H6.out.2.1 (by omega) (fun x hx => Nat.le_trans (HLS.out.2 x hx) (by decide))).mono ?_
        rintro e w7 ⟨v7, rfl, ho7, hb7⟩
        rw [HE.out.1]
        rw [HE.out.2.1] at ho7
        obtain ⟨A7, d7, rfl, _⟩ := own_form ho7
        have H7 := Lib.hid (And.intro hb7 ho7)
        clear ho7 hb7
        obtain ⟨c0, c1, c2, c3, c4, e0, e1, e2, e3, e4⟩ := (H6.out.1.below H7.out.1).cells
        go_wp2_with fail
        clear c0 c1 c2 c3 c4 e0 e1 e2 e3 e4
        refine (rojoin_any (H6.out.1.below H7.out.1).2.2.1 (H6.out.2.2.1.below H7.out.1) (by omega) (fun x hx => Nat.le_trans (HLS.out.2 x hx) (by decide))).mono ?_
        rintro e w8 ⟨v8, rfl, ho8, hb8⟩
        rw [HE.out.1]
        rw [HE.out.2.1] at ho8
        obtain ⟨A8, d8, rfl, _⟩ := own_form ho8
        have H8 := Lib.hid (And.intro (below_base H7.out.1 hb8 H7.out.1.size) (And.intro (own_below H7.out.2 hb8) ho8))
        clear ho8 hb8
        go_wp2_with fail
        refine (turn_any (H6.out.2.2.2.below H8.out.1) (by omega) last HX.out.2.2.2.1).mono ?_
        rintro e w9 ⟨rfl, rfl⟩
        go_wp2_with fail
        refine (rturn_any (H6.out.2.2.2.below H8.out.1) (by omega) last HX.out.2.2.2.1).mono ?_
        rintro e w9 ⟨rfl, rfl⟩
        obtain ⟨ta, hta⟩ : ∃ x : Int, ((tnA dn last : Nat) : Int) = x := ⟨_, rfl⟩
        obtain ⟨tb, htb⟩ : ∃ x, tnB dn last = x := ⟨_, rfl⟩
        rw [hta, htb]
        clear hta htb
        go_wp2_with fail
        refine (same_true (Rd.of_own H8.out.2.1) (Rd.of_own H8.out.2.2)).mono ?_
        rintro e w9 ⟨rfl, rfl⟩
        go_wp2_with fail
        refine (overB_own H8.out.2.1 H8.out.1.size (by have := HE.out.2.2; omega)).mono ?_
        rintro e w9 ⟨rfl, hc9⟩
        have H9 := Lib.hid (hc9.below H8.out.1 (fun j _ hj => hj) H8.out.1.size)
        clear hc9
        obtain ⟨c0, c1, c2, c3, c4, e0, e1, e2, e3, e4⟩ := (H6.out.1.below H9.out).cells
        go_wp2_with fail
        clear c0 c1 c2 c3 c4 e0 e1 e2 e3 e4
        refine (sameM_any (H6.out.1.below H9.out).2.2.2.1 (H6.out.1.below H9.out).2.2.1).mono ?_
        rintro e w10 ⟨rfl, hb10⟩
        rw [same_refl]
        have H10 := Lib.hid (below_base H9.out hb10 H9.out.size)
        clear hb10
        go_wp2_with fail
        refine (symsTrue (H6.out.2.1.below H10.out) (H6.out.2.2.1.below H10.out) (by omega)).mono ?_
        rintro e w11 ⟨rfl, hb11⟩
        have H11 := Lib.hid (below_base H10.out hb11 H10.out.size)
        clear hb11
        go_wp2_with fail
        refine awake_any.mono ?_
        rintro e w12 ⟨rfl, hb12⟩
        go_wp2
        go_ret
        exact ⟨rfl, (H6.out.1.below (below_base H11.out hb12 H11.out.size)).2.2.2.2⟩
theorem objectJoins_walk {w : World} {A B D : Option Addr} {n c l cc nd cd : Nat} {m : MF} {vs : List Value} {xss : List (List UInt8)} {dn : List Bool} {last : Int} (h : MA w A n c m) (h2 : Rd w B l vs ∧ Rows_ w vs xss ∧ l ≤ cc ∧ l ≤ 5864062014634 ∧ ∀ x ∈ xss, x.length ≤ 140737488351232) (h3 : Rd w D nd (bools dn) ∧ nd ≤ cd ∧ nd ≤ 140737488351232) (hl : (Lit.int .i64 last).wf = true) :
    Calls Try.prog 3 #[m.v A n c, .slice B l cc, .slice D nd cd, .int .i64 last] w fun e w' => e = .returned (.bool true) ∧ Below w.heap.size w w' :=
  objectJoins_any h ⟨vs, h2.1, h2.2.1⟩ h2.2.2.2.1 h2.2.2.2.2 h3.1 h3.2.2 (bounds_i64 hl)
end Go.Proofs.Ytchdjbbhhjjmkaa
