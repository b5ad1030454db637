/- TopLeft: ratio: product (printed by gen_Rg27.py). TopLeft: fractions as pairs; rows of fractions in memory. -/
import Derived.Test.YtlhipaffhehcnaaGreatT22
namespace Go.Proofs.YtlhipaffhehcnaaGreat
open Go.RowKit
set_option linter.unusedVariables false
theorem NV.allocd {w : World} {v : Value} {n : Nat} (h : NV w v n) (o : Obj) : NV (w.alloc o) v n := h.below ((Below.refl _ _).alloc (Nat.le_refl _) _)
theorem NV.drew {w : World} {v : Value} {n : Nat} (h : NV w v n) : NV w.drew v n := h.below (Below.refl _ _).drew
/-- The parts of a product of two fractions. -/
def pz (za zb : Int) (da db : Nat) : Int := sg (decide (za < 0) != decide (zb < 0)) (za.natAbs / Nat.gcd za.natAbs db * (zb.natAbs / Nat.gcd zb.natAbs da))
def pd (za zb : Int) (da db : Nat) : Nat := da / Nat.gcd zb.natAbs da * (db / Nat.gcd za.natAbs db)
theorem NV.stored_int {w : World} {v : Value} {n n0 c0 G : Nat} {b0 : Bool} {A0 : Option Addr} (h : NV w v n) (hk : Bk w G 38 [.bool b0, .slice A0 n0 c0]) (x y : Value) : NV ((w.setCell ⟨G, 0, none⟩ x).setCell ⟨G, 1, none⟩ y) v n :=
  h.chg hk no_int2 (((Chg.refl (fun k => k = G) w).set_ (g := G) (show (fun k => k = G) G from rfl) 0 x).set_ (g := G) (show (fun k => k = G) G from rfl) 1 y)
theorem mul31 {a b x y : Nat} (ha : a < 2147483648) (hb : b < 2147483648) : a / x < 4294967296 ∧ b / y < 4294967296 ∧ a / x * (b / y) < 9223372036854775808 := by
  have h1 := Nat.div_le_self a x
  have h2 := Nat.div_le_self b y
  have h3 : a / x * (b / y) ≤ 4611686014132420609 := Nat.mul_le_mul (n₁ := a / x) (m₁ := b / y) (n₂ := 2147483647) (m₂ := 2147483647) (by omega) (by omega)
  exact ⟨by omega, by omega, by omega⟩
theorem rat_wv {w : World} {b : Bool} {u t : Value} {z : Int} {d : Nat} (h : WV w (.agg #[.bool b, u]) z) (h2 : NV w t d) : RV w (.agg #[.bool b, u, t]) z d := ⟨u, t, by rw [h.un.1], h.un.2, h2⟩
set_option maxRecDepth 100000 in
set_option maxHeartbeats 4000000 in
/-- ratio.product -/
theorem product_any {w : World} {va vb : Value} {za zb : Int} {da db : Nat} (ha : RV w va za da) (hb : RV w vb zb db) (h1 : za.natAbs < 2147483648) (h2 : zb.natAbs < 2147483648) (h3 : 0 < da ∧ da < 2147483648) (h4 : 0 < db ∧ db < 2147483648) : Calls Tryz.prog 27 #[va, vb] w fun e w' => ∃ v, e = .returned v ∧ RV w' v (pz za zb da db) (pd za zb da db) ∧ Below w.heap.size w w' := by
  have g1 : 0 < Nat.gcd za.natAbs db := Nat.gcd_pos_of_pos_right _ h4.1
  have g2 : 0 < Nat.gcd zb.natAbs da := Nat.gcd_pos_of_pos_right _ h3.1
  have g3 : Nat.gcd za.natAbs db ≤ db := Nat.le_of_dvd h4.1 (Nat.gcd_dvd_right _ _)
  have g4 : Nat.gcd zb.natAbs da ≤ da := Nat.le_of_dvd h3.1 (Nat.gcd_dvd_right _ _)
  unfold pz pd
  obtain ⟨G1, hG1⟩ : ∃ G1, Nat.gcd za.natAbs db = G1 := ⟨_, rfl⟩
  obtain ⟨G2, hG2⟩ : ∃ G2, Nat.gcd zb.natAbs da = G2 := ⟨_, rfl⟩
  rw [hG1] at g1 g3 ⊢
  rw [hG2] at g2 g4 ⊢
  have HP := Lib.hid (And.intro (mul31 (x := G1) (y := G2) h1 h2) (mul31 (x := G2) (y := G1) h3.2 h4.2))
  have HM := Lib.hid (And.intro h1 (And.intro h2 (And.intro h3 (And.intro h4 (And.intro g1 (And.intro g2 (And.intro g3 g4)))))))
  have HG := Lib.hid (And.intro hG1 hG2)
  obtain ⟨ua, ta, rfl, hna, hta⟩ := ha
  obtain ⟨ub, tb, rfl, hnb, htb⟩ := hb
  have HN := Lib.hid (And.intro hna (And.intro hta (And.intro hnb htb)))
  obtain ⟨A, c, rfl, _⟩ := hna
  obtain ⟨A', c', rfl, _⟩ := hta
  obtain ⟨B, d, rfl, _⟩ := hnb
  obtain ⟨B', d', rfl, _⟩ := htb
  generalize decide (za < 0) = sa at *
  generalize decide (zb < 0) = sb at *
  generalize ln za.natAbs = x1 at *
  generalize ln zb.natAbs = x2 at *
  generalize ln da = y1 at *
  generalize ln db = y2 at *
  obtain ⟨w1, hw1⟩ : ∃ w1, ((w.alloc (.cells #[.bool sa, .slice A x1 c, .slice A' y1 c'] 40)).alloc (.cells #[.bool sb, .slice B x2 d, .slice B' y2 d'] 40)).alloc (.cells #[.bool false, .slice none 0 0, .slice none 0 0] 40) = w1 := ⟨_, rfl⟩
  have hB := BxS.new w (.bool sa) (.slice A x1 c) (.slice A' y1 c') (.bool sb) (.slice B x2 d) (.slice B' y2 d')
  rw [hw1] at hB
  obtain ⟨g, hg⟩ : ∃ g, w.heap.size = g := ⟨_, rfl⟩
  rw [hg] at hB
  have H1 := Lib.hid (hB.below (Below.refl _ _).drew)
  have M1 := Lib.hid True.intro
  clear h1 h2 h3 h4 g1 g2 g3 g4 hB hG1 hG2
  go_enter Tryz.func27, Tryz.ntmps27
  go_wp2_with fail
  go_region_held3 (fun w' => w'.cell? ⟨g, 0, none⟩ = some (.bool sa) ∧ w'.cell? ⟨g, 1, none⟩ = some (.slice A x1 c) ∧ w'.cell? ⟨g, 2, none⟩ = some (.slice A' y1 c') ∧ w'.cell? ⟨g + 1, 0, none⟩ = some (.bool sb) ∧ w'.cell? ⟨g + 1, 1, none⟩ = some (.slice B x2 d) ∧ w'.cell? ⟨g + 1, 2, none⟩ = some (.slice B' y2 d'))
    (first | with_reducible exact H3.out.cellz | with_reducible exact H2.out.cellz | with_reducible exact H1.out.cellz)
    (first
    | (go_at_call 62; clear M1; refine (gcd_any (a := za.natAbs) (b := db) (HN.out.1.below (by with_reducible exact H1.out.l)) (HN.out.2.2.2.below (by with_reducible exact H1.out.l)) (by have := HM.out; omega) (by have := HM.out; omega)).mono ?_; rintro e w2 ⟨v2, rfl, hv2, hb2⟩; rw [HG.out.1] at hv2; have H2 := Lib.hid (H1.out.below hb2); obtain ⟨A2, m2, n2, rfl⟩ := hv2.form; have HV2 := Lib.hid hv2; clear hv2 hb2)
    | (go_at_call 62; refine (gcd_any (a := zb.natAbs) (b := da) (HN.out.2.2.1.below (by with_reducible exact H2.out.l)) (HN.out.2.1.below (by with_reducible exact H2.out.l)) (by have := HM.out; omega) (by have := HM.out; omega)).mono ?_; rintro e w3 ⟨v3, rfl, hv3, hb3⟩; rw [HG.out.2] at hv3; have H3 := Lib.hid (H2.out.below hb3); obtain ⟨A3, m3, n3, rfl⟩ := hv3.form; have HV3 := Lib.hid (And.intro (HV2.out.below hb3) hv3); clear hv3 hb3))
  have H0 := Lib.hid H3.out
  have H1 := Lib.hid (H3.out.below (Below.refl _ _).drew)
  have HQ := Lib.hid HV3.out
  have hc := H0.out.cellz
  clear H2 HV2 H3 HV3
  obtain ⟨c0, c1, c2, c3, c4, c5⟩ := hc
  go_wp2_with fail
  clear c0 c1 c2 c3 c4 c5
  generalize w3 = wz at *
  go_cut [7] (fun s7 wx => SmQ w wx g (.bool sa) (.slice A x1 c) (.slice A' y1 c') (.bool sb) (.slice B x2 d) (.slice B' y2 d') (sg (sa != sb) (za.natAbs / G1 * (zb.natAbs / G2))) s7 ∧ NV wx (.slice A2 m2 n2) G1 ∧ NV wx (.slice A3 m3 n3) G2)
  case first =>
    have M1 := Lib.hid True.intro
    go_region_held3 (fun w' => w'.cell? ⟨g, 0, none⟩ = some (.bool sa) ∧ w'.cell? ⟨g, 1, none⟩ = some (.slice A x1 c) ∧ w'.cell? ⟨g, 2, none⟩ = some (.slice A' y1 c') ∧ w'.cell? ⟨g + 1, 0, none⟩ = some (.bool sb) ∧ w'.cell? ⟨g + 1, 1, none⟩ = some (.slice B x2 d) ∧ w'.cell? ⟨g + 1, 2, none⟩ = some (.slice B' y2 d'))
      (first | with_reducible exact (H5.out.stored_int HK.out _ _).cellz | with_reducible exact (H5.out.allocd _).cellz | with_reducible exact H5.out.cellz | with_reducible exact (H4.out.allocd _).cellz | with_reducible exact H4.out.cellz | with_reducible exact (H3.out.allocd _).cellz | with_reducible exact H3.out.cellz | with_reducible exact (H2.out.allocd _).cellz | with_reducible exact H2.out.cellz | with_reducible exact (H0.out.allocD _).cellz | with_reducible exact H1.out.cellz)
      (first
      | (go_at_call 63; clear M1; refine (by_any (a := za.natAbs) (b := G1) (HN.out.1.below (by first | with_reducible exact H1.out.l | with_reducible exact (H0.out.allocD _).l)) (by first | with_reducible exact HQ.out.1.drew | with_reducible exact (HQ.out.1.allocd _).drew) (by have := HM.out; omega) (by have := HM.out; omega) (by have := HM.out; omega)).mono ?_; rintro e w2 ⟨v2, rfl, hv2, hb2⟩; (first | have H2 := Lib.hid (H1.out.below hb2) | have H2 := Lib.hid ((H0.out.allocD _).below hb2)); (first | have HK := Lib.hid (bk_afterD H0.out.l hb2) | have HK := Lib.hid (And.intro (HK.out.1.belowS hb2) HK.out.2) | skip); (first | have HQ2 := Lib.hid (And.intro (HQ.out.1.drew.below hb2) (HQ.out.2.drew.below hb2)) | have HQ2 := Lib.hid (And.intro ((HQ.out.1.allocd _).drew.below hb2) ((HQ.out.2.allocd _).drew.below hb2))); obtain ⟨B2, p2, q2, rfl⟩ := hv2.form; have HV2 := Lib.hid hv2; clear hv2 hb2)
      | (go_at_call 63; refine (by_any (a := zb.natAbs) (b := G2) (HN.out.2.2.1.below (by first | with_reducible exact H2.out.l | with_reducible exact (H2.out.allocd _).l)) (by first | with_reducible exact HQ2.out.2 | with_reducible exact HQ2.out.2.allocd _) (by have := HM.out; omega) (by have := HM.out; omega) (by have := HM.out; omega)).mono ?_; rintro e w3 ⟨v3, rfl, hv3, hb3⟩; (first | have H3 := Lib.hid (H2.out.below hb3) | have H3 := Lib.hid (H2.out.alloc_below hb3)); (first | have HK := Lib.hid (bk_after H2.out.l hb3) | have HK := Lib.hid (And.intro (HK.out.1.belowS hb3) HK.out.2) | skip); (first | have HQ3 := Lib.hid (And.intro (HQ2.out.1.below hb3) (HQ2.out.2.below hb3)) | have HQ3 := Lib.hid (And.intro (HQ2.out.1.alloc_below hb3) (HQ2.out.2.alloc_below hb3))); (first | have HV23 := Lib.hid (HV2.out.below hb3) | have HV23 := Lib.hid (HV2.out.alloc_below hb3)); obtain ⟨B3, p3, q3, rfl⟩ := hv3.form; have HV3 := Lib.hid hv3; clear hv3 hb3)
      | (go_at_call 61; refine (tMul_any (a := za.natAbs / G1) (b := zb.natAbs / G2) (by first | with_reducible exact HV23.out | with_reducible exact HV23.out.allocd _) (by first | with_reducible exact HV3.out | with_reducible exact HV3.out.allocd _) HP.out.1.1 HP.out.1.2.1 HP.out.1.2.2).mono ?_; rintro e w4 ⟨v4, rfl, hv4, hb4⟩; (first | have H4 := Lib.hid (H3.out.below hb4) | have H4 := Lib.hid (H3.out.alloc_below hb4)); (first | have HK := Lib.hid (bk_after H3.out.l hb4) | have HK := Lib.hid (And.intro (HK.out.1.belowS hb4) HK.out.2) | skip); (first | have HQ4 := Lib.hid (And.intro (HQ3.out.1.below hb4) (HQ3.out.2.below hb4)) | have HQ4 := Lib.hid (And.intro (HQ3.out.1.alloc_below hb4) (HQ3.out.2.alloc_below hb4))); obtain ⟨B4, p4, q4, rfl⟩ := hv4.form; have HV4 := Lib.hid hv4; clear hv4 hb4)
      | (go_at_call 50; refine (sMake_any (n := za.natAbs / G1 * (zb.natAbs / G2)) (sa != sb) (by first | with_reducible exact HV4.out | with_reducible exact HV4.out.allocd _)).mono ?_; rintro e w5 ⟨v5, rfl, hv5, hb5⟩; (first | have H5 := Lib.hid (H4.out.below hb5) | have H5 := Lib.hid (H4.out.alloc_below hb5)); (first | have HK := Lib.hid (bk_after H4.out.l hb5) | have HK := Lib.hid (And.intro (HK.out.1.belowS hb5) HK.out.2) | skip); (first | have HQ5 := Lib.hid (And.intro (HQ4.out.1.below hb5) (HQ4.out.2.below hb5)) | have HQ5 := Lib.hid (And.intro (HQ4.out.1.alloc_below hb5) (HQ4.out.2.alloc_below hb5))); obtain ⟨b5, B5, p5, q5, rfl⟩ := hv5.form; have HV5 := Lib.hid hv5; (first | (have q := cells_int HK.out.1; obtain ⟨r0, r1, s0, s1⟩ := q) | skip)))
    all_goals (go_wp2_with fail; go_meet; first | exact ⟨SmQ.of_alloc H5.out HV5.out, HQ5.out.1.allocd _, HQ5.out.2.allocd _⟩ | exact ⟨SmQ.of_store H5.out HK.out HV5.out, HQ5.out.1.stored_int HK.out.1 _ _, HQ5.out.2.stored_int HK.out.1 _ _⟩)
  case rest =>
    obtain ⟨⟨G, b, Au, mu, nu, rfl, hB, hK, hV⟩, hQ1, hQ2⟩ := hcut
    obtain ⟨c0, c1, c2, c3, c4, c5⟩ := hB.cellz
    obtain ⟨q0, q1, _, _⟩ := cells_int hK
    have H2 := Lib.hid (hB.below (Below.refl _ _).drew)
    have HV := Lib.hid (hV.below (Below.refl _ _).drew)
    have HKd : Bk wc.drew G 38 [.bool b, .slice Au mu nu] := hK
    have HK := Lib.hid HKd
    have HQ2 := Lib.hid (And.intro hQ1.drew hQ2.drew)
    have M1 := Lib.hid True.intro
    clear hB hK hV HKd hQ1 hQ2
    go_wp2_with fail
    clear c0 c1 c2 c3 c4 c5 q0 q1
    go_region_held3 (fun w' => w'.cell? ⟨g, 2, none⟩ = some (.slice A' y1 c') ∧ w'.cell? ⟨g + 1, 2, none⟩ = some (.slice B' y2 d') ∧ w'.cell? ⟨G, 0, none⟩ = some (.bool b) ∧ w'.cell? ⟨G, 1, none⟩ = some (.slice Au mu nu))
      (first | with_reducible exact SmQ.stored H5.out.1 H5.out.2 _ _ _ | with_reducible exact SmQ.held H5.out.1 H5.out.2 | with_reducible exact SmQ.held H4.out HK4.out | with_reducible exact SmQ.held H3.out HK3.out | with_reducible exact SmQ.held H2.out HK.out)
      (first
      | (go_at_call 63; clear M1; refine (by_any (a := da) (b := G2) (HN.out.2.1.below (by with_reducible exact H2.out.l)) (by with_reducible exact HQ2.out.2) (by have := HM.out; omega) (by have := HM.out; omega) (by have := HM.out; omega)).mono ?_; rintro e w3 ⟨v3, rfl, hv3, hb3⟩; have H3 := Lib.hid (H2.out.below hb3); have HS3 := Lib.hid (HV.out.below hb3); have HK3 := Lib.hid (HK.out.belowS hb3); have HQ3 := Lib.hid (HQ2.out.1.below hb3); obtain ⟨B3, p3, q3, rfl⟩ := hv3.form; have HV3 := Lib.hid hv3; clear hv3 hb3)
      | (go_at_call 63; refine (by_any (a := db) (b := G1) (HN.out.2.2.2.below (by with_reducible exact H3.out.l)) (by with_reducible exact HQ3.out) (by have := HM.out; omega) (by have := HM.out; omega) (by have := HM.out; omega)).mono ?_; rintro e w4 ⟨v4, rfl, hv4, hb4⟩; have H4 := Lib.hid (H3.out.below hb4); have HS4 := Lib.hid (HS3.out.below hb4); have HK4 := Lib.hid (HK3.out.belowS hb4); have HV34 := Lib.hid (HV3.out.below hb4); obtain ⟨B4, p4, q4, rfl⟩ := hv4.form; have HV4 := Lib.hid hv4; clear hv4 hb4)
      | (go_at_call 61; refine (tMul_any (a := da / G2) (b := db / G1) (by with_reducible exact HV34.out) (by with_reducible exact HV4.out) HP.out.2.1 HP.out.2.2.1 HP.out.2.2.2).mono ?_; rintro e w5 ⟨v5, rfl, hv5, hb5⟩; have H5 := Lib.hid (And.intro (H4.out.below hb5) (HK4.out.belowS hb5)); have HS5 := Lib.hid (HS4.out.below hb5); obtain ⟨B5, p5, q5, rfl⟩ := hv5.form; have HR := Lib.hid (rat_wv HS5.out hv5); have q := cells_rat H5.out.1.r; obtain ⟨r0, r1, r2, s0, s1, s2⟩ := q))
    go_wp2_with fail
    have HF := fin_rat H5.out.1.r HR.out H5.out.1.l (by have := H5.out.1.g; omega)
    refine bodyPost_ret (ret_rat27 rfl rfl HF.1) rfl ?_
    exact ⟨_, rfl, HF.2⟩
end Go.Proofs.YtlhipaffhehcnaaGreat
namespace Go.Proofs.YtlhipaffhehcnaaGreat
open Go.RowKit
set_option linter.unusedVariables false
/-- A fraction. -/
structure Q where
  z : Int
  d : Nat
deriving DecidableEq
/-- In lowest terms, of small numbers. -/
def Q.ok (q : Q) : Bool := Nat.blt 0 q.d && (Nat.beq (Nat.gcd q.z.natAbs q.d) 1 && (Nat.blt q.z.natAbs 2147483648 && Nat.blt q.d 2147483648))
theorem Q.ok_iff {q : Q} (h : q.ok = true) : 0 < q.d ∧ Nat.gcd q.z.natAbs q.d = 1 ∧ q.z.natAbs < 2147483648 ∧ q.d < 2147483648 := by
  unfold Q.ok at h
  simp only [Bool.and_eq_true, Nat.blt_eq] at h
  exact ⟨h.1, Nat.eq_of_beq_eq_true h.2.1, h.2.2⟩
/-- The lowest terms of a fraction. -/
def qlow (z : Int) (d : Nat) : Q := ⟨sg (decide (z < 0)) (z.natAbs / qg z d), d / qg z d⟩
def qsum (a b : Q) : Q := qlow (a.z * (b.d : Int) + b.z * (a.d : Int)) (a.d * b.d)
def qprod (a b : Q) : Q := ⟨pz a.z b.z a.d b.d, pd a.z b.z a.d b.d⟩
def qneg (a : Q) : Q := ⟨-a.z, a.d⟩
/-- A fraction in memory, in lowest terms and of small numbers. -/
def QV (w : World) (v : Value) (q : Q) : Prop := RV w v q.z q.d
theorem QV.below {w w' : World} {v : Value} {q : Q} (h : QV w v q) (hb : Below w.heap.size w w') : QV w' v q := RV.below h hb
theorem sum_q {w : World} {va vb : Value} {a b : Q} (ha : QV w va a) (hb : QV w vb b) (h1 : a.ok = true) (h2 : b.ok = true) : Calls Tryz.prog 26 #[va, vb] w fun e w' => ∃ v, e = .returned v ∧ QV w' v (qsum a b) ∧ Below w.heap.size w w' := by
  obtain ⟨a1, _, a2, a3⟩ := Q.ok_iff h1
  obtain ⟨b1, _, b2, b3⟩ := Q.ok_iff h2
  exact sum_any ha hb a2 b2 ⟨a1, a3⟩ ⟨b1, b3⟩
theorem product_q {w : World} {va vb : Value} {a b : Q} (ha : QV w va a) (hb : QV w vb b) (h1 : a.ok = true) (h2 : b.ok = true) : Calls Tryz.prog 27 #[va, vb] w fun e w' => ∃ v, e = .returned v ∧ QV w' v (qprod a b) ∧ Below w.heap.size w w' := by
  obtain ⟨a1, _, a2, a3⟩ := Q.ok_iff h1
  obtain ⟨b1, _, b2, b3⟩ := Q.ok_iff h2
  exact product_any ha hb a2 b2 ⟨a1, a3⟩ ⟨b1, b3⟩
theorem check_q {w : World} {v : Value} {q : Q} (h : QV w v q) (hq : q.ok = true) : Calls Tryz.prog 56 #[v] w fun e w' => e = .returned (.int .i64 0) ∧ Below w.heap.size w w' := by
  obtain ⟨a1, a0, a2, a3⟩ := Q.ok_iff hq
  exact rCheck_any h a1 a0 (by omega) (by omega)
/-- The cells of a fraction. -/
structure R3 where
  s : Bool
  A : Option Addr
  m : Nat
  c : Nat
  B : Option Addr
  n : Nat
  d : Nat
def R3.cells (r : R3) : List Value := [.bool r.s, .slice r.A r.m r.c, .slice r.B r.n r.d]
def R3.v (r : R3) : Value := .agg #[.bool r.s, .slice r.A r.m r.c, .slice r.B r.n r.d]
theorem QV.r3 {w : World} {v : Value} {q : Q} (h : QV w v q) : ∃ r : R3, v = r.v := by
  obtain ⟨b, A, m, n, A', m', n', rfl⟩ := RV.form h
  exact ⟨⟨b, A, m, n, A', m', n'⟩, rfl⟩
def R3.zero : R3 := ⟨false, none, 0, 0, none, 0, 0⟩
theorem R3.len (r : R3) : r.cells.length = 3 := rfl
/-- Cells of fractions hold no digits. -/
theorem R3.no_int (r : R3) : ∀ (i : Nat) (k : IntKind) (x : Int), r.cells[i]? ≠ some (.int k x) := no_int3
def r3s (l : List R3) : List Value := l.flatMap R3.cells
theorem r3s_len : ∀ (l : List R3), (r3s l).length = 3 * l.length
  | [] => rfl
  | r :: l => by
    show (r.cells ++ r3s l).length = _
    rw [List.length_append, r3s_len l, R3.len, List.length_cons]; omega
theorem r3s_get : ∀ {l : List R3} {i r : Nat} (h : i < l.length), r < 3 → (r3s l)[3 * i + r]? = (l[i]).cells[r]?
  | [], i, r, h, _ => absurd h (Nat.not_lt_zero _)
  | e :: l, 0, r, h, hr => by
    show (e.cells ++ r3s l)[3 * 0 + r]? = _
    rw [List.getElem?_append_left (by rw [R3.len]; omega), Nat.mul_zero, Nat.zero_add]; rfl
  | e :: l, i + 1, r, h, hr => by
    show (e.cells ++ r3s l)[3 * (i + 1) + r]? = _
    rw [List.getElem?_append_right (by rw [R3.len]; omega), R3.len, show 3 * (i + 1) + r - 3 = 3 * i + r from by omega]
    exact r3s_get (l := l) (Nat.lt_of_succ_lt_succ h) hr
theorem r3s_append (a b : List R3) : r3s (a ++ b) = r3s a ++ r3s b := by simp [r3s]
theorem r3s_no_int : ∀ (l : List R3) (i : Nat) (k : IntKind) (x : Int), (r3s l)[i]? ≠ some (.int k x) := by
  intro l i k x h
  have hi : i < 3 * l.length := by have := (List.getElem?_eq_some_iff.1 h).1; rwa [r3s_len] at this
  have e : i = 3 * (i / 3) + i % 3 := by omega
  rw [e, r3s_get (by omega) (by omega)] at h
  exact (l[i / 3]'(by omega)).no_int _ _ _ h
/-- Rows of values that are fractions. -/
def All3 (w : World) : List R3 → List Q → Prop
  | [], [] => True
  | r :: l, q :: qs => QV w r.v q ∧ All3 w l qs
  | _, _ => False
theorem All3.below {w w' : World} (hb : Below w.heap.size w w') : ∀ {l : List R3} {qs : List Q}, All3 w l qs → All3 w' l qs
  | [], [], _ => trivial
  | r :: l, q :: qs, h => ⟨h.1.below hb, All3.below hb h.2⟩
  | [], _ :: _, h => h
  | _ :: _, [], h => h
theorem All3.len {w : World} : ∀ {l : List R3} {qs : List Q}, All3 w l qs → l.length = qs.length
  | [], [], _ => rfl
  | r :: l, q :: qs, h => by rw [List.length_cons, List.length_cons, All3.len h.2]
  | [], _ :: _, h => h.elim
  | _ :: _, [], h => h.elim
theorem All3.get {w : World} : ∀ {l : List R3} {qs : List Q} (h : All3 w l qs) {i : Nat} (h1 : i < l.length) (h2 : i < qs.length), QV w (l[i]).v qs[i]
  | r :: l, q :: qs, h, 0, _, _ => h.1
  | r :: l, q :: qs, h, i + 1, h1, h2 => All3.get h.2 (Nat.lt_of_succ_lt_succ h1) (Nat.lt_of_succ_lt_succ h2)
  | [], _ :: _, h, _, _, _ => h.elim
  | _ :: _, [], h, _, _, _ => h.elim
theorem All3.snoc {w : World} : ∀ {l : List R3} {qs : List Q} (h : All3 w l qs) {r : R3} {q : Q} (hq : QV w r.v q), All3 w (l ++ [r]) (qs ++ [q])
  | [], [], _, _, _, hq => ⟨hq, trivial⟩
  | r :: l, q :: qs, h, _, _, hq => ⟨h.1, All3.snoc h.2 hq⟩
  | [], _ :: _, h, _, _, _ => h.elim
  | _ :: _, [], h, _, _, _ => h.elim
theorem All3.append {w : World} : ∀ {l m : List R3} {qs ps : List Q} (h : All3 w l qs) (h' : All3 w m ps), All3 w (l ++ m) (qs ++ ps)
  | [], _, [], _, _, h' => h'
  | r :: l, _, q :: qs, _, h, h' => ⟨h.1, All3.append h.2 h'⟩
  | [], _, _ :: _, _, h, _ => h.elim
  | _ :: _, _, [], _, h, _ => h.elim
theorem All3.chg {w w' : World} {g : Nat} {t : TypeId} {cs : List Value} (hb : Bk w g t cs) (hc : ∀ (i : Nat) (k : IntKind) (x : Int), cs[i]? ≠ some (.int k x)) (hch : Chg (fun k => k = g) w w') : ∀ {l : List R3} {qs : List Q}, All3 w l qs → All3 w' l qs
  | [], [], _ => trivial
  | r :: l, q :: qs, h => by
    refine ⟨?_, All3.chg hb hc hch h.2⟩
    obtain ⟨u, t, e, h1, h2⟩ := h.1
    exact ⟨u, t, e, h1.chg hb hc hch, h2.chg hb hc hch⟩
  | [], _ :: _, h => h
  | _ :: _, [], h => h
theorem QV.chg {w w' : World} {g : Nat} {t : TypeId} {cs : List Value} {v : Value} {q : Q} (h : QV w v q) (hb : Bk w g t cs) (hc : ∀ (i : Nat) (k : IntKind) (x : Int), cs[i]? ≠ some (.int k x)) (hch : Chg (fun k => k = g) w w') : QV w' v q := by
  obtain ⟨u, t, e, h1, h2⟩ := h
  exact ⟨u, t, e, h1.chg hb hc hch, h2.chg hb hc hch⟩
theorem NV.chgP {w w' : World} {v : Value} {n : Nat} {S : Nat → Prop} (h : NV w v n) (hS : ∀ g, S g → ∃ t cs, Bk w g t cs ∧ ∀ (i : Nat) (x : Int), cs[i]? ≠ some (.int .u64 x)) (hch : Chg S w w') : NV w' v n := by
  obtain ⟨A, c, rfl, h1, h2⟩ := h
  refine ⟨A, c, rfl, h1, ?_⟩
  rcases Nat.eq_zero_or_pos n with h0 | h0
  · subst h0
    exact ⟨rfl, fun h => absurd h (by rw [ln_zero]; omega)⟩
  · refine hch.rd h2 fun a ha => ?_
    rw [ln_pos h0, dg_pos h0] at h2
    obtain ⟨b, off, e, _, h3⟩ := h2.form (by omega)
    rw [e] at ha
    injection ha with ha
    subst ha
    intro e2
    obtain ⟨t, cs, hb, hc⟩ := hS _ e2
    have h4 := h3 0 _ rfl
    rw [Nat.add_zero, hb.cell off] at h4
    exact hc _ _ h4
theorem QV.chgP {w w' : World} {v : Value} {q : Q} {S : Nat → Prop} (h : QV w v q) (hS : ∀ g, S g → ∃ t cs, Bk w g t cs ∧ ∀ (i : Nat) (x : Int), cs[i]? ≠ some (.int .u64 x)) (hch : Chg S w w') : QV w' v q := by
  obtain ⟨u, t, e, h1, h2⟩ := h
  exact ⟨u, t, e, h1.chgP hS hch, h2.chgP hS hch⟩
theorem All3.chgP {w w' : World} {S : Nat → Prop} (hS : ∀ g, S g → ∃ t cs, Bk w g t cs ∧ ∀ (i : Nat) (x : Int), cs[i]? ≠ some (.int .u64 x)) (hch : Chg S w w') : ∀ {l : List R3} {qs : List Q}, All3 w l qs → All3 w' l qs
  | [], [], _ => trivial
  | r :: l, q :: qs, h => ⟨h.1.chgP hS hch, All3.chgP hS hch h.2⟩
  | [], _ :: _, h => h
  | _ :: _, [], h => h
/-- A slice of fractions. -/
def QR (w : World) (A : Option Addr) (n : Nat) (qs : List Q) : Prop := ∃ rs : List R3, rs.length = n ∧ Rd w A (3 * n) (r3s rs) ∧ All3 w rs qs
theorem QR.below {w w' : World} {A : Option Addr} {n : Nat} {qs : List Q} (h : QR w A n qs) (hb : Below w.heap.size w w') : QR w' A n qs := by
  obtain ⟨rs, h1, h2, h3⟩ := h
  exact ⟨rs, h1, h2.below hb, h3.below hb⟩
theorem QR.len {w : World} {A : Option Addr} {n : Nat} {qs : List Q} (h : QR w A n qs) : qs.length = n := by
  obtain ⟨rs, h1, h2, h3⟩ := h
  rw [← h3.len]; exact h1
theorem QR.nil (w : World) (A : Option Addr) : QR w A 0 [] := ⟨[], rfl, Rd.nil _ _, trivial⟩
theorem QR.form {w : World} {A : Option Addr} {n : Nat} {qs : List Q} (h : QR w A n qs) (hn : 0 < n) : ∃ b off, A = some ⟨b, off, none⟩ ∧ b < w.heap.size ∧ ∀ (i : Nat) (hi : i < qs.length), ∃ r : R3, QV w r.v qs[i] ∧ w.cell? ⟨b, off + i * 3, none⟩ = some (.bool r.s) ∧ w.cell? ⟨b, off + i * 3 + 1, none⟩ = some (.slice r.A r.m r.c) ∧ w.cell? ⟨b, off + i * 3 + 2, none⟩ = some (.slice r.B r.n r.d) := by
  have hl := h.len
  obtain ⟨rs, h1, h2, h3⟩ := h
  obtain ⟨b, off, e, hb, hc⟩ := h2.form (by omega)
  refine ⟨b, off, e, hb, fun i hi => ⟨rs[i]'(by omega), h3.get _ _, ?_, ?_, ?_⟩⟩
  all_goals rw [Nat.mul_comm i 3]
  · exact hc (3 * i + 0) _ (by rw [r3s_get (by omega) (by omega)]; rfl)
  · rw [Nat.add_assoc]; exact hc (3 * i + 1) _ (by rw [r3s_get (by omega) (by omega)]; rfl)
  · rw [Nat.add_assoc]; exact hc (3 * i + 2) _ (by rw [r3s_get (by omega) (by omega)]; rfl)
end Go.Proofs.YtlhipaffhehcnaaGreat
