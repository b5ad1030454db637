/- Chapter 12: ManifestBack's walk. -/
import Derived.Test.YthnoeiiebokooaaKw12
namespace Go.Proofs.Ythnoeiiebokooaa
open Go.RowKit
set_option linter.unusedVariables false
theorem long_no {m : MF} {n : Nat} (hn : m.t.length = n) (h : mfB m = true) : n ≤ 10000 := by have := (mfB_iff.1 h).2.2.2.2.1; omega
theorem ptV_le {m : MF} (h : mfB m = true) : (ptV m).length ≤ 50000 := by
  have := (mfB_iff.1 h).2.2.2.2.1
  unfold ptV
  rw [h, if_pos rfl, mfP_len]; omega
/-- Two manifests in blocks, side by side. -/
def BS (w w' : World) (A A' : Option Addr) (n c n' c' : Nat) (z s k d : Int) (t : List Int) (z' s' k' d' : Int) (t' : List Int) : Prop :=
  LM w' w.heap.size A n c z s k d t ∧ LM w' (w.heap.size + 1) A' n' c' z' s' k' d' t' ∧ Below w.heap.size w w'
section
variable {w w' w'' : World} {A A' : Option Addr} {n c n' c' : Nat} {z s k d z' s' k' d' : Int} {t t' : List Int}
theorem BS.below (h : BS w w' A A' n c n' c' z s k d t z' s' k' d' t') (hb : Below w'.heap.size w' w'') : BS w w'' A A' n c n' c' z s k d t z' s' k' d' t' :=
  ⟨h.1.below hb, h.2.1.below hb, below_base h.2.2 hb h.2.2.size⟩
def XS (w w' : World) (A A' : Option Addr) (n c n' c' : Nat) (z s k d : Int) (t : List Int) (z' s' k' d' : Int) (t' : List Int) (G : Nat) (A10 : Option Addr) (d10 : Nat) (A8 A9 : Option Addr) (L1 L2 : Nat) (P1 P2 : List UInt8) : Prop :=
  BS w w' A A' n c n' c' z s k d t z' s' k' d' t' ∧ LM w' G A10 n d10 z s k d t ∧ Rd w' A8 L1 (bys P1) ∧ Rd w' A9 L2 (bys P2)
theorem XS.below {G d10 L1 L2 : Nat} {A10 A8 A9 : Option Addr} {P1 P2 : List UInt8} (h : XS w w' A A' n c n' c' z s k d t z' s' k' d' t' G A10 d10 A8 A9 L1 L2 P1 P2) (hb : Below w'.heap.size w' w'') : XS w w'' A A' n c n' c' z s k d t z' s' k' d' t' G A10 d10 A8 A9 L1 L2 P1 P2 :=
  ⟨h.1.below hb, h.2.1.below hb, h.2.2.1.below hb, h.2.2.2.below hb⟩
theorem flat {a0 a1 a2 a3 a4 b0 b1 b2 b3 b4 C : Prop} (h : (a0 ∧ a1 ∧ a2 ∧ a3 ∧ a4) ∧ (b0 ∧ b1 ∧ b2 ∧ b3 ∧ b4) ∧ C) : a0 ∧ a1 ∧ a2 ∧ a3 ∧ a4 ∧ b0 ∧ b1 ∧ b2 ∧ b3 ∧ b4 ∧ C := ⟨h.1.1, h.1.2.1, h.1.2.2.1, h.1.2.2.2.1, h.1.2.2.2.2, h.2.1.1, h.2.1.2.1, h.2.1.2.2.1, h.2.1.2.2.2.1, h.2.1.2.2.2.2, h.2.2⟩
theorem XS.cells {G d10 L1 L2 : Nat} {A10 A8 A9 : Option Addr} {P1 P2 : List UInt8} (h : XS w w' A A' n c n' c' z s k d t z' s' k' d' t' G A10 d10 A8 A9 L1 L2 P1 P2) : w'.cell? ⟨w.heap.size, 0, none⟩ = some (.int .i64 z) ∧ w'.cell? ⟨w.heap.size, 1, none⟩ = some (.int .i64 s) ∧ w'.cell? ⟨w.heap.size, 2, none⟩ = some (.int .i64 k) ∧ w'.cell? ⟨w.heap.size, 3, none⟩ = some (.int .i64 d) ∧ w'.cell? ⟨w.heap.size, 4, none⟩ = some (.slice A n c) ∧ w'.cell? ⟨w.heap.size + 1, 0, none⟩ = some (.int .i64 z') ∧ w'.cell? ⟨w.heap.size + 1, 1, none⟩ = some (.int .i64 s') ∧ w'.cell? ⟨w.heap.size + 1, 2, none⟩ = some (.int .i64 k') ∧ w'.cell? ⟨w.heap.size + 1, 3, none⟩ = some (.int .i64 d') ∧ w'.cell? ⟨w.heap.size + 1, 4, none⟩ = some (.slice A' n' c') ∧ w'.cell? ⟨G, 0, none⟩ = some (.int .i64 z) ∧ w'.cell? ⟨G, 1, none⟩ = some (.int .i64 s) ∧ w'.cell? ⟨G, 2, none⟩ = some (.int .i64 k) ∧ w'.cell? ⟨G, 3, none⟩ = some (.int .i64 d) ∧ w'.cell? ⟨G, 4, none⟩ = some (.slice A10 n d10) := flat ⟨cells5 h.1.1.1, cells5 h.1.2.1.1, cells5 h.2.1.1⟩
end
set_option maxRecDepth 100000 in
set_option maxHeartbeats 3200000 in
theorem back_any {w : World} {A A' A2 : Option Addr} {n c n' c' n2 c2 : Nat} {m m' : MF} {b : List UInt8} (h : MA w A n c m) (h' : MA w A' n' c' m') (hb : Rd w A2 n2 (bys b) ∧ n2 ≤ c2 ∧ n2 ≤ 140737488351232) :
    Calls Try.prog 6 #[m.v A n c, m'.v A' n' c', .slice A2 n2 c2] w fun e w' => e = .returned (.bool true) ∧ Below w.heap.size w w' := by
  obtain ⟨z, s, k, d, t⟩ := m
  obtain ⟨z', s', k', d', t'⟩ := m'
  have hS : BS w ((w.alloc (.cells #[.int .i64 z, .int .i64 s, .int .i64 k, .int .i64 d, .slice A n c] 27)).alloc (.cells #[.int .i64 z', .int .i64 s', .int .i64 k', .int .i64 d', .slice A' n' c'] 27)) A A' n c n' c' z s k d t z' s' k' d' t' := by
    have hb1 : Below w.heap.size w ((w.alloc (.cells #[.int .i64 z, .int .i64 s, .int .i64 k, .int .i64 d, .slice A n c] 27)).alloc (.cells #[.int .i64 z', .int .i64 s', .int .i64 k', .int .i64 d', .slice A' n' c'] 27)) := ((Below.refl _ _).alloc (Nat.le_refl _) _).alloc (by rw [World.size_alloc]; omega) _
    have q2 := Bk.newA (w.alloc (.cells #[.int .i64 z, .int .i64 s, .int .i64 k, .int .i64 d, .slice A n c] 27)) 27 #[.int .i64 z', .int .i64 s', .int .i64 k', .int .i64 d', .slice A' n' c']
    rw [World.size_alloc] at q2
    exact ⟨⟨(Bk.newA w _ _).alloc _, h.below hb1⟩, ⟨q2, h'.below hb1⟩, hb1⟩
  have HS := Lib.hid (And.intro hS hb)
  clear hS h h' hb
  show Calls Try.prog 6 #[.agg #[.int .i64 z, .int .i64 s, .int .i64 k, .int .i64 d, .slice A n c], .agg #[.int .i64 z', .int .i64 s', .int .i64 k', .int .i64 d', .slice A' n' c'], .slice A2 n2 c2] w _
  cases hl1 : (decide (100 < n) && decide (n ≤ 10000)) with
  | true =>
    have HL1 := Lib.hid hl1
    clear hl1
    go_enter Try.func6, Try.ntmps6
    go_wp2_with fail
    generalize (w.alloc (.cells #[.int .i64 z, .int .i64 s, .int .i64 k, .int .i64 d, .slice A n c] 27)).alloc (.cells #[.int .i64 z', .int .i64 s', .int .i64 k', .int .i64 d', .slice A' n' c'] 27) = w1 at HS ⊢
    refine known_any.mono ?_
    rintro e w2 ⟨rfl, hb2⟩
    have H2 := Lib.hid (HS.out.1.below hb2)
    clear hb2
    obtain ⟨c0, c1, c2, c3, c4⟩ := cells5 H2.out.1.1
    obtain ⟨e0, e1, e2, e3, e4⟩ := cells5 H2.out.2.1.1
    go_wp2_with fail
    refine (longM_any (m := ⟨z, s, k, d, t⟩)).mono ?_
    rintro e w3 ⟨rfl, hb3⟩
    rw [HL1.out]
    have H3 := Lib.hid (H2.out.below hb3)
    clear hb3 c0 c1 c2 c3 c4 e0 e1 e2 e3 e4
    go_wp2
    go_ret
    exact ⟨rfl, H3.out.2.2⟩
  | false =>
    have HL1 := Lib.hid hl1
    clear hl1
    cases hl2 : (decide (100 < n') && decide (n' ≤ 10000)) with
    | true =>
      have HL2 := Lib.hid hl2
      clear hl2
      go_enter Try.func6, Try.ntmps6
      go_wp2_with fail
      generalize (w.alloc (.cells #[.int .i64 z, .int .i64 s, .int .i64 k, .int .i64 d, .slice A n c] 27)).alloc (.cells #[.int .i64 z', .int .i64 s', .int .i64 k', .int .i64 d', .slice A' n' c'] 27) = w1 at HS ⊢
      refine known_any.mono ?_
      rintro e w2 ⟨rfl, hb2⟩
      have H2 := Lib.hid (HS.out.1.below hb2)
      clear hb2
      obtain ⟨c0, c1, c2, c3, c4⟩ := cells5 H2.out.1.1
      obtain ⟨e0, e1, e2, e3, e4⟩ := cells5 H2.out.2.1.1
      go_wp2_with fail
      refine (longM_any (m := ⟨z, s, k, d, t⟩)).mono ?_
      rintro e w3 ⟨rfl, hb3⟩
      rw [HL1.out]
      have H3 := Lib.hid (H2.out.below hb3)
      clear hb3 c0 c1 c2 c3 c4 e0 e1 e2 e3 e4
      obtain ⟨c0, c1, c2, c3, c4⟩ := cells5 H3.out.1.1
      obtain ⟨e0, e1, e2, e3, e4⟩ := cells5 H3.out.2.1.1
      go_wp2_with fail
      refine (longM_any (m := ⟨z', s', k', d', t'⟩)).mono ?_
      rintro e w4 ⟨rfl, hb4⟩
      rw [HL2.out]
      have H4 := Lib.hid (H3.out.below hb4)
      clear hb4 c0 c1 c2 c3 c4 e0 e1 e2 e3 e4
      go_wp2
      go_ret
      exact ⟨rfl, H4.out.2.2⟩
    | false =>
      have HL2 := Lib.hid hl2
      clear hl2
      by_cases h5 : 500 < n2
      · have g1 : decide ((n2 : Int) > 500) = true := by simp; omega
        have g2 : decide (500 < n2) = true := by simp; omega
        clear h5
        go_enter Try.func6, Try.ntmps6
        go_wp2_with fail
        generalize (w.alloc (.cells #[.int .i64 z, .int .i64 s, .int .i64 k, .int .i64 d, .slice A n c] 27)).alloc (.cells #[.int .i64 z', .int .i64 s', .int .i64 k', .int .i64 d', .slice A' n' c'] 27) = w1 at HS ⊢
        refine known_any.mono ?_
        rintro e w2 ⟨rfl, hb2⟩
        have H2 := Lib.hid (HS.out.1.below hb2)
        clear hb2
        obtain ⟨c0, c1, c2, c3, c4⟩ := cells5 H2.out.1.1
        obtain ⟨e0, e1, e2, e3, e4⟩ := cells5 H2.out.2.1.1
        go_wp2_with fail
        refine (longM_any (m := ⟨z, s, k, d, t⟩)).mono ?_
        rintro e w3 ⟨rfl, hb3⟩
        rw [HL1.out]
        have H3 := Lib.hid (H2.out.below hb3)
        clear hb3 c0 c1 c2 c3 c4 e0 e1 e2 e3 e4
        obtain ⟨c0, c1, c2, c3, c4⟩ := cells5 H3.out.1.1
        obtain ⟨e0, e1, e2, e3, e4⟩ := cells5 H3.out.2.1.1
        go_wp2_with fail
        refine (longM_any (m := ⟨z', s', k', d', t'⟩)).mono ?_
        rintro e w4 ⟨rfl, hb4⟩
        rw [HL2.out]
        have H4 := Lib.hid (H3.out.below hb4)
        clear hb4 c0 c1 c2 c3 c4 e0 e1 e2 e3 e4
        go_wp2
        go_ret
        exact ⟨rfl, H4.out.2.2⟩
      · have g1 : decide ((n2 : Int) > 500) = false := by simp; omega
        have g2 : decide (500 < n2) = false := by simp; omega
        have HN := Lib.hid (show n2 ≤ 500 from by omega)
        clear h5
        go_enter Try.func6, Try.ntmps6
        go_wp2_with fail
        generalize (w.alloc (.cells #[.int .i64 z, .int .i64 s, .int .i64 k, .int .i64 d, .slice A n c] 27)).alloc (.cells #[.int .i64 z', .int .i64 s', .int .i64 k', .int .i64 d', .slice A' n' c'] 27) = w1 at HS ⊢
        refine known_any.mono ?_
        rintro e w2 ⟨rfl, hb2⟩
        have H2 := Lib.hid (HS.out.1.below hb2)
        clear hb2
        obtain ⟨c0, c1, c2, c3, c4⟩ := cells5 H2.out.1.1
        obtain ⟨e0, e1, e2, e3, e4⟩ := cells5 H2.out.2.1.1
        go_wp2_with fail
        refine (longM_any (m := ⟨z, s, k, d, t⟩)).mono ?_
        rintro e w3 ⟨rfl, hb3⟩
        rw [HL1.out]
        have H3 := Lib.hid (H2.out.below hb3)
        clear hb3 c0 c1 c2 c3 c4 e0 e1 e2 e3 e4
        obtain ⟨c0, c1, c2, c3, c4⟩ := cells5 H3.out.1.1
        obtain ⟨e0, e1, e2, e3, e4⟩ := cells5 H3.out.2.1.1
        go_wp2_with fail
        refine (longM_any (m := ⟨z', s', k', d', t'⟩)).mono ?_
        rintro e w4 ⟨rfl, hb4⟩
        rw [HL2.out]
        have H4 := Lib.hid (H3.out.below hb4)
        clear hb4 c0 c1 c2 c3 c4 e0 e1 e2 e3 e4
        obtain ⟨mb, hmb⟩ : ∃ mb, gtM b = mb := ⟨_, rfl⟩
        obtain ⟨zb, sb, kb, db, tb⟩ := mb
        obtain ⟨T, hT⟩ : ∃ T, tb.length = T := ⟨_, rfl⟩
        obtain ⟨E, hE⟩ : ∃ E, gtE b = E := ⟨_, rfl⟩
        have HR := Lib.hid (And.intro hmb (And.intro hT hE))
        clear hmb hT hE
        go_wp2_with fail
        refine (getM_lit (HS.out.2.1.below (by exact H4.out.2.2)) (by have := HN.out; omega) HR.out.1 HR.out.2.1).mono ?_
        rw [HR.out.2.2]
        rintro e w5 ⟨A5, d5, rfl, ho5, hm5, hb5⟩
        have hb6 := (Below.refl w5.heap.size w5).alloc (Nat.le_refl _) (.cells #[.int .i64 zb, .int .i64 sb, .int .i64 kb, .int .i64 db, .slice A5 T d5] 27)
        have H6 := Lib.hid (And.intro (H4.out.below (below_base hb5 hb6 hb5.size)) (show LM (w5.alloc (.cells #[.int .i64 zb, .int .i64 sb, .int .i64 kb, .int .i64 db, .slice A5 T d5] 27)) w5.heap.size A5 T d5 zb sb kb db tb from ⟨Bk.newA w5 _ _, hm5.below hb6⟩))
        clear ho5 hm5 hb5 hb6
        go_upto_if 37 with fail
        generalize w5.alloc (.cells #[.int .i64 zb, .int .i64 sb, .int .i64 kb, .int .i64 db, .slice A5 T d5] 27) = w6 at H6 ⊢
        generalize w5.heap.size = G5 at H6 ⊢
        go_cut [] (fun wx => Below w6.heap.size w6 wx)
        case first =>
          cases hq : rgB b with
          | false =>
            obtain rfl : E = 6 := by rw [← HR.out.2.2]; exact (gt_no hq).2
            clear hq
            go_wp2_with fail
            go_meet
            exact Below.refl _ _
          | true =>
            obtain ⟨hp1, hp2⟩ := put_rg hq
            have hgm : rgM b = ⟨zb, sb, kb, db, tb⟩ := by
              rw [← HR.out.1, (gt_rt b).1]; unfold rtM; rw [hq, if_pos rfl]
            obtain rfl : E = 0 := by
              rw [← HR.out.2.2, (gt_rt b).2]; unfold rtE; rw [hq, if_pos rfl]
            rw [hgm] at hp1 hp2
            have hme : mfE ⟨zb, sb, kb, db, tb⟩ = 0 := by unfold mfE; rw [hp1]; rfl
            have HP := Lib.hid (And.intro hp2 hme)
            clear hq hp1 hp2 hgm hme
            obtain ⟨c0, c1, c2, c3, c4⟩ := cells5 H6.out.2.1
            go_wp2_with fail
            refine (putM_any (m := ⟨zb, sb, kb, db, tb⟩) H6.out.2.2).mono ?_
            rw [HP.out.1, HP.out.2]
            rintro e w7 ⟨v7, rfl, ho7, hb7⟩
            obtain ⟨A7, d7, rfl, hd7⟩ := own_form ho7
            have H7 := Lib.hid (And.intro (Rd.of_own ho7) hb7)
            clear ho7 hb7 hd7 c0 c1 c2 c3 c4
            go_wp2_with fail
            refine (same_true H7.out.1 (HS.out.2.1.below (below_base H6.out.1.2.2 H7.out.2 H6.out.1.2.2.size))).mono ?_
            rintro e w8 ⟨rfl, rfl⟩
            go_wp2_with fail
            go_meet
            exact H7.out.2
        case rest =>
          have H7 := Lib.hid (H6.out.1.below hcut)
          clear hcut
          obtain ⟨E1, hE1⟩ : ∃ E, mfE ⟨z, s, k, d, t⟩ = E := ⟨_, rfl⟩
          obtain ⟨E2, hE2⟩ : ∃ E, mfE ⟨z', s', k', d', t'⟩ = E := ⟨_, rfl⟩
          obtain ⟨P1, hP1⟩ : ∃ P, ptV ⟨z, s, k, d, t⟩ = P := ⟨_, rfl⟩
          obtain ⟨P2, hP2⟩ : ∃ P, ptV ⟨z', s', k', d', t'⟩ = P := ⟨_, rfl⟩
          obtain ⟨L1, hL1⟩ : ∃ L, P1.length = L := ⟨_, rfl⟩
          obtain ⟨L2, hL2⟩ : ∃ L, P2.length = L := ⟨_, rfl⟩
          have HE := Lib.hid (And.intro hE1 (And.intro hE2 (And.intro hP1 (And.intro hP2 (And.intro hL1 hL2)))))
          clear hE1 hE2 hP1 hP2 hL1 hL2
          obtain ⟨c0, c1, c2, c3, c4⟩ := cells5 H7.out.1.1
          obtain ⟨e0, e1, e2, e3, e4⟩ := cells5 H7.out.2.1.1
          go_wp2_with fail
          have Q1 := putM_any (m := ⟨z, s, k, d, t⟩) H7.out.1.2
          rw [HE.out.1, HE.out.2.2.1] at Q1
          unfold TdB at Q1
          rw [HE.out.2.2.2.2.1] at Q1
          refine Q1.mono ?_
          clear Q1
          rintro e w8 ⟨v8, rfl, ho8, hb8⟩
          obtain ⟨A8, d8, rfl, hd8, _⟩ := own_form ho8
          have H8 := Lib.hid (And.intro (H7.out.below hb8) (And.intro (Rd.of_own ho8) hd8))
          clear ho8 hb8 hd8 c0 c1 c2 c3 c4 e0 e1 e2 e3 e4
          obtain ⟨c0, c1, c2, c3, c4⟩ := cells5 H8.out.1.1.1
          obtain ⟨e0, e1, e2, e3, e4⟩ := cells5 H8.out.1.2.1.1
          go_wp2_with fail
          have Q1 := putM_any (m := ⟨z', s', k', d', t'⟩) H8.out.1.2.1.2
          rw [HE.out.2.1, HE.out.2.2.2.1] at Q1
          unfold TdB at Q1
          rw [HE.out.2.2.2.2.2] at Q1
          refine Q1.mono ?_
          clear Q1
          rintro e w9 ⟨v9, rfl, ho9, hb9⟩
          obtain ⟨A9, d9, rfl, hd9, _⟩ := own_form ho9
          have H9 := Lib.hid (And.intro (H8.out.1.below hb9) (And.intro (H8.out.2.1.below hb9) (And.intro H8.out.2.2 (And.intro (Rd.of_own ho9) hd9))))
          clear ho9 hb9 hd9 c0 c1 c2 c3 c4 e0 e1 e2 e3 e4
          obtain ⟨c0, c1, c2, c3, c4⟩ := cells5 H9.out.1.1.1
          obtain ⟨e0, e1, e2, e3, e4⟩ := cells5 H9.out.1.2.1.1
          cases hq1 : mfB ⟨z, s, k, d, t⟩ with
          | false =>
            obtain rfl : E1 = 2 := by rw [← HE.out.1]; unfold mfE; rw [hq1]; rfl
            clear hq1
            cases hq2 : mfB ⟨z', s', k', d', t'⟩ with
            | false =>
              obtain rfl : E2 = 2 := by rw [← HE.out.2.1]; unfold mfE; rw [hq2]; rfl
              clear hq2
              go_wp2_with fail
              refine (check_any (m := ⟨z, s, k, d, t⟩) H9.out.1.1.2).mono ?_
              rintro e w10 ⟨rfl, hb10⟩
              rw [HE.out.1]
              have H10 := Lib.hid (H9.out.1.below hb10)
              clear hb10 c0 c1 c2 c3 c4 e0 e1 e2 e3 e4
              obtain ⟨c0, c1, c2, c3, c4⟩ := cells5 H10.out.1.1
              obtain ⟨e0, e1, e2, e3, e4⟩ := cells5 H10.out.2.1.1
              go_wp2_with fail
              refine (check_any (m := ⟨z', s', k', d', t'⟩) H10.out.2.1.2).mono ?_
              rintro e w11 ⟨rfl, hb11⟩
              rw [HE.out.2.1]
              have H11 := Lib.hid (H10.out.below hb11)
              clear hb11 c0 c1 c2 c3 c4 e0 e1 e2 e3 e4
              go_wp2
              go_ret
              exact ⟨rfl, H11.out.2.2⟩
            | true =>
              obtain rfl : E2 = 0 := by rw [← HE.out.2.1]; unfold mfE; rw [hq2]; rfl
              clear hq2
              go_wp2_with fail
              refine (check_any (m := ⟨z, s, k, d, t⟩) H9.out.1.1.2).mono ?_
              rintro e w10 ⟨rfl, hb10⟩
              rw [HE.out.1]
              have H10 := Lib.hid (H9.out.1.below hb10)
              clear hb10 c0 c1 c2 c3 c4 e0 e1 e2 e3 e4
              obtain ⟨c0, c1, c2, c3, c4⟩ := cells5 H10.out.1.1
              obtain ⟨e0, e1, e2, e3, e4⟩ := cells5 H10.out.2.1.1
              go_wp2_with fail
              refine (check_any (m := ⟨z', s', k', d', t'⟩) H10.out.2.1.2).mono ?_
              rintro e w11 ⟨rfl, hb11⟩
              rw [HE.out.2.1]
              have H11 := Lib.hid (H10.out.below hb11)
              clear hb11 c0 c1 c2 c3 c4 e0 e1 e2 e3 e4
              go_wp2
              go_ret
              exact ⟨rfl, H11.out.2.2⟩
          | true =>
            have HQ1 := Lib.hid hq1
            obtain rfl : E1 = 0 := by rw [← HE.out.1]; unfold mfE; rw [hq1]; rfl
            clear hq1
            cases hq2 : mfB ⟨z', s', k', d', t'⟩ with
            | false =>
              obtain rfl : E2 = 2 := by rw [← HE.out.2.1]; unfold mfE; rw [hq2]; rfl
              clear hq2
              go_wp2_with fail
              refine (check_any (m := ⟨z, s, k, d, t⟩) H9.out.1.1.2).mono ?_
              rintro e w10 ⟨rfl, hb10⟩
              rw [HE.out.1]
              have H10 := Lib.hid (H9.out.1.below hb10)
              clear hb10 c0 c1 c2 c3 c4 e0 e1 e2 e3 e4
              obtain ⟨c0, c1, c2, c3, c4⟩ := cells5 H10.out.1.1
              obtain ⟨e0, e1, e2, e3, e4⟩ := cells5 H10.out.2.1.1
              go_wp2_with fail
              refine (check_any (m := ⟨z', s', k', d', t'⟩) H10.out.2.1.2).mono ?_
              rintro e w11 ⟨rfl, hb11⟩
              rw [HE.out.2.1]
              have H11 := Lib.hid (H10.out.below hb11)
              clear hb11 c0 c1 c2 c3 c4 e0 e1 e2 e3 e4
              go_wp2
              go_ret
              exact ⟨rfl, H11.out.2.2⟩
            | true =>
              have HQ2 := Lib.hid hq2
              obtain rfl : E2 = 0 := by rw [← HE.out.2.1]; unfold mfE; rw [hq2]; rfl
              clear hq2 c0 c1 c2 c3 c4 e0 e1 e2 e3 e4
              have hd1 : R64 d := H9.out.1.1.2.2.2.2.2.2.2.2.1
              have hd2 : R64 d' := H9.out.1.2.1.2.2.2.2.2.2.2.2.1
              have hrt := rt_put HQ1.out hd1
              have hlp := ptV_le HQ1.out
              rw [HE.out.2.2.1] at hrt hlp
              rw [HE.out.2.2.2.2.1] at hlp
              have hinj := put_inj HQ1.out HQ2.out hd1 hd2
              have hfr := put_free HQ1.out HQ2.out hd1 hd2
              have hfr2 := put_free HQ2.out HQ1.out hd2 hd1
              rw [HE.out.2.2.1, HE.out.2.2.2.1] at hinj hfr hfr2
              rw [HE.out.2.2.2.2.1, HE.out.2.2.2.2.2] at hfr hfr2
              have hT : t.length = n := H9.out.1.1.2.2.2.2.1
              have HF := Lib.hid (And.intro hrt (And.intro hinj (And.intro hfr (And.intro hfr2 hT))))
              clear hd1 hd2 hrt hinj hfr hfr2 hT
              go_wp2_with fail
              refine (getM_lit H9.out.2.1 (by omega) HF.out.1.1 HF.out.2.2.2.2).mono ?_
              rw [HF.out.1.2]
              rintro e w10 ⟨A10, d10, rfl, ho10, hm10, hb10⟩
              have hb11 := (Below.refl w10.heap.size w10).alloc (Nat.le_refl _) (.cells #[.int .i64 z, .int .i64 s, .int .i64 k, .int .i64 d, .slice A10 n d10] 27)
              have hb12 := below_base hb10 hb11 hb10.size
              have H11 := Lib.hid (And.intro (H9.out.1.below hb12) (And.intro (show LM (w10.alloc (.cells #[.int .i64 z, .int .i64 s, .int .i64 k, .int .i64 d, .slice A10 n d10] 27)) w10.heap.size A10 n d10 z s k d t from ⟨Bk.newA w10 _ _, hm10.below hb11⟩) (And.intro (H9.out.2.1.below hb12) (H9.out.2.2.2.1.below hb12))))
              clear ho10 hm10 hb10 hb11 hb12
              go_wp2_with fail
              generalize w10.alloc (.cells #[.int .i64 z, .int .i64 s, .int .i64 k, .int .i64 d, .slice A10 n d10] 27) = w11 at H11 ⊢
              generalize w10.heap.size = G at H11 ⊢
              obtain ⟨c0, c1, c2, c3, c4⟩ := cells5 H11.out.1.1.1
              obtain ⟨e0, e1, e2, e3, e4⟩ := cells5 H11.out.1.2.1.1
              obtain ⟨f0, f1, f2, f3, f4⟩ := cells5 H11.out.2.1.1
              obtain ⟨S, hS⟩ : ∃ S, (⟨z, s, k, d, t⟩ : MF).same ⟨z', s', k', d', t'⟩ = S := ⟨_, rfl⟩
              have HSS := Lib.hid hS
              clear hS
              have HX := Lib.hid (show XS w w11 A A' n c n' c' z s k d t z' s' k' d' t' G A10 d10 A8 A9 L1 L2 P1 P2 from H11.out)
              have hd8 : L1 ≤ d8 := H9.out.2.2.1
              have hd9 : L2 ≤ d9 := H9.out.2.2.2.2
              go_region_held3 (fun w' => w'.cell? ⟨w.heap.size, 0, none⟩ = some (.int .i64 z) ∧ w'.cell? ⟨w.heap.size, 1, none⟩ = some (.int .i64 s) ∧ w'.cell? ⟨w.heap.size, 2, none⟩ = some (.int .i64 k) ∧ w'.cell? ⟨w.heap.size, 3, none⟩ = some (.int .i64 d) ∧ w'.cell? ⟨w.heap.size, 4, none⟩ = some (.slice A n c) ∧ w'.cell? ⟨w.heap.size + 1, 0, none⟩ = some (.int .i64 z') ∧ w'.cell? ⟨w.heap.size + 1, 1, none⟩ = some (.int .i64 s') ∧ w'.cell? ⟨w.heap.size + 1, 2, none⟩ = some (.int .i64 k') ∧ w'.cell? ⟨w.heap.size + 1, 3, none⟩ = some (.int .i64 d') ∧ w'.cell? ⟨w.heap.size + 1, 4, none⟩ = some (.slice A' n' c') ∧ w'.cell? ⟨G, 0, none⟩ = some (.int .i64 z) ∧ w'.cell? ⟨G, 1, none⟩ = some (.int .i64 s) ∧ w'.cell? ⟨G, 2, none⟩ = some (.int .i64 k) ∧ w'.cell? ⟨G, 3, none⟩ = some (.int .i64 d) ∧ w'.cell? ⟨G, 4, none⟩ = some (.slice A10 n d10))
                (first | go_keep | exact K2.out.cells | exact K1.out.cells)
                (first
                  | (go_at_call 12; first
                    | (have K1' := K1.out; refine (sameM_any K1'.1.1.2 K1'.1.2.1.2).mono ?_; rintro e wq ⟨rfl, hbq⟩; rw [HSS.out]; have K2 := Lib.hid (K1'.below hbq); clear hbq K1')
                    | (refine (sameM_any (HX.out.below (Below.refl w11.heap.size w11).drew).2.1.2 (HX.out.below (Below.refl w11.heap.size w11).drew).1.1.2).mono ?_; rintro e wq ⟨rfl, hbq⟩; rw [same_refl]; have K1 := Lib.hid (HX.out.below (below_undrew hbq)); clear hbq))
                  | (go_at_call 14; refine (same_any K1.out.2.2.1 K1.out.2.2.2).mono ?_; rintro e wq ⟨rfl, rfl⟩; rw [HF.out.2.1, HSS.out])
                  | (go_at_call 28; first
                    | (have KB' := KB; refine (begins_any K2.out.2.2.2 K2.out.2.2.1 hd9).mono ?_; rintro e wq ⟨rfl, rfl⟩; rw [HF.out.2.2.2.1])
                    | (refine (begins_any K2.out.2.2.1 K2.out.2.2.2 hd8).mono ?_; rintro e wq ⟨rfl, rfl⟩; rw [HF.out.2.2.1]; have KB := Lib.hid trivial)))
              all_goals go_wp2
              all_goals go_ret
              all_goals exact ⟨rfl, K2.out.1.2.2⟩
end Go.Proofs.Ythnoeiiebokooaa
