/- Chapter 12: Get. -/
import Derived.Test.YthnoeiiebokooaaGt12
namespace Go.Proofs.Ythnoeiiebokooaa
open Go.RowKit
set_option linter.unusedVariables false
def gvC (b : List UInt8) (k : Nat) : List Value := (List.range 5).map fun j => if j < k then .int .i64 (gV b j) else .int .i64 0
def mz : MF := ⟨0, 0, 0, 0, []⟩
def gtM (b : List UInt8) : MF := if pgB b then pgM b else mz
def gtE (b : List UInt8) : Int := if pgB b then 0 else 6
def GmPost (w : World) (m : MF) (E : Int) (e : Ending) (w' : World) : Prop :=
  ∃ A' c', e = .returned (.tuple #[m.v A' m.t.length c', .int .i64 E]) ∧ w'.ownsRow w.heap.size 3 1 (.slice A' m.t.length c') m.t.length (nums m.t) ∧ Below w.heap.size w w'
theorem setM {w w' : World} (hb : Below w.heap.size w w') {t : TypeId} {x0 x1 x2 x3 x4 : Value} (h : Bk w' w.heap.size t [x0, x1, x2, x3, x4]) (u0 u1 u2 u3 u4 : Value) :
    Bk (((((w'.setCell ⟨w.heap.size, 0, none⟩ u0).setCell ⟨w.heap.size, 1, none⟩ u1).setCell ⟨w.heap.size, 2, none⟩ u2).setCell ⟨w.heap.size, 3, none⟩ u3).setCell ⟨w.heap.size, 4, none⟩ u4) w.heap.size t [u0, u1, u2, u3, u4] ∧
    Below w.heap.size w (((((w'.setCell ⟨w.heap.size, 0, none⟩ u0).setCell ⟨w.heap.size, 1, none⟩ u1).setCell ⟨w.heap.size, 2, none⟩ u2).setCell ⟨w.heap.size, 3, none⟩ u3).setCell ⟨w.heap.size, 4, none⟩ u4) ∧
    Chg (fun k => k = w.heap.size) w' (((((w'.setCell ⟨w.heap.size, 0, none⟩ u0).setCell ⟨w.heap.size, 1, none⟩ u1).setCell ⟨w.heap.size, 2, none⟩ u2).setCell ⟨w.heap.size, 3, none⟩ u3).setCell ⟨w.heap.size, 4, none⟩ u4) := by
  refine ⟨((((h.set_ 0 u0).set_ 1 u1).set_ 2 u2).set_ 3 u3).set_ 4 u4, ?_, ?_⟩
  · exact ((((hb.setCell (Nat.le_refl _) u0).setCell (Nat.le_refl _) u1).setCell (Nat.le_refl _) u2).setCell (Nat.le_refl _) u3).setCell (Nat.le_refl _) u4
  · exact (((((Chg.refl (fun k => k = w.heap.size) w').set_ (show w.heap.size = w.heap.size from rfl) 0 u0).set_ (show w.heap.size = w.heap.size from rfl) 1 u1).set_ (show w.heap.size = w.heap.size from rfl) 2 u2).set_ (show w.heap.size = w.heap.size from rfl) 3 u3).set_ (show w.heap.size = w.heap.size from rfl) 4 u4
/-- The end of Get where there is no manifest. -/
theorem gm_no {w w' : World} {b : List UInt8} (hb : Below w.heap.size w w') (hp : pgB b = false) : GmPost w (gtM b) (gtE b) (.returned (.tuple #[.agg #[.int .i64 0, .int .i64 0, .int .i64 0, .int .i64 0, .slice none 0 0], .int .i64 6])) w' := by
  unfold GmPost gtM gtE
  rw [hp]
  exact ⟨none, 0, rfl, World.ownsRow_nil _ _ _ _, hb⟩
set_option maxRecDepth 100000 in
set_option maxHeartbeats 1600000 in
/-- manifest.Get -/
theorem getM_any {w : World} {A : Option Addr} {n c : Nat} {b : List UInt8} (h : Rd w A n (bys b)) (hn : n ≤ 140737488351232) :
    Calls Try.prog 10 #[.slice A n c] w (GmPost w (gtM b) (gtE b)) := by
  have hbl : b.length = n := by have := h.1; simpa [bys_length] using this
  have hb1 := (Below.refl w.heap.size w).alloc (Nat.le_refl _) (.cells #[.int .i64 0, .int .i64 0, .int .i64 0, .int .i64 0, .slice none 0 0] 27)
  have hz := Bk.newA w 27 #[.int .i64 0, .int .i64 0, .int .i64 0, .int .i64 0, .slice none 0 0]
  have H := Lib.hid (And.intro hb1 (And.intro hz (h.below hb1)))
  have hwa : ∃ wa, wa = w.alloc (.cells #[.int .i64 0, .int .i64 0, .int .i64 0, .int .i64 0, .slice none 0 0] 27) := ⟨_, rfl⟩
  obtain ⟨wa, hwa⟩ := hwa
  have hws : wa.heap.size = w.heap.size + 1 := by rw [hwa, World.size_alloc]
  rw [← hwa] at H
  clear h hb1 hz
  have HWS := Lib.hid (And.intro hws hbl)
  clear hws hbl
  go_enter Try.func10, Try.ntmps10
  go_wp2_with fail
  rw [← hwa]
  clear hwa
  refine (newR_any H.out.2.2 hn).mono ?_
  rintro e w2 ⟨P, B, d, rfl, hro, hb2, hP, hB⟩
  have hLn := Bk.newA w2 50 #[.int .i64 0, .int .i64 0, .int .i64 0, .int .i64 0, .int .i64 0]
  have H2 := Lib.hid (And.intro (show GL wa (w2.alloc (.cells #[.int .i64 0, .int .i64 0, .int .i64 0, .int .i64 0, .int .i64 0] 50)) P B d (gS b 0) w2.heap.size (gvC b 0) from ⟨hro.below ((Below.refl _ _).alloc (Nat.le_refl _) _), hLn, hP, Nat.ne_of_gt hro.1.lt, fun a ha => Nat.ne_of_lt (hB a ha).2, below_base hb2 ((Below.refl _ _).alloc (Nat.le_refl _) _) hb2.size, hb2.size⟩) (And.intro hro.1.lt (fun a ha => (hB a ha).2)))
  clear hro hb2 hP hB hLn
  go_wp2_with fail
  refine widths_any.mono ?_
  rintro e w3 ⟨rfl, hb3⟩
  have H3 := Lib.hid (H2.out.1.below hb3)
  clear hb3
  go_wp2_with fail
  go_loopw [12] (fun i wr => ∃ q : Nat, q ≤ 5 ∧ i = .int .i64 q ∧ GL wa wr P B d (gS b q) w2.heap.size (gvC b q)) (fun i wr => 5 - (intOf i).toNat)
  case atStart => exact ⟨0, by omega, rfl, H3.out⟩
  case round =>
    obtain ⟨q, hq5, hi, hK⟩ := hrel
    rcases (show q = 0 ∨ q = 1 ∨ q = 2 ∨ q = 3 ∨ q = 4 ∨ q = 5 from by omega) with rfl | rfl | rfl | rfl | rfl | rfl
    · have HK := Lib.hid hK
      replace hi := hi.trans (show Value.int .i64 ((0 : Nat) : Int) = .int .i64 0 from rfl)
      subst hi
      have x2 := ixA0 4 2 4 8 2
      clear hK
      go_wp2_with fail
      refine (getR_any HK.out.1 4).mono ?_
      intro e wx hg
      obtain ⟨rfl, hX, _⟩ := HK.out.get hg
      have k0 : wx.cell? { block := w2.heap.size, off := 0 } = some (.int .i64 0) := (hX.2.1.cell 0).trans rfl
      have f0 := hX.2.1.frozen 0
      have HX := Lib.hid hX
      clear hX hg
      go_wp2_with fail
      exact ⟨⟨1, by omega, rfl, HX.out.set 0 (.int .i64 (gV b 0))⟩, by show 5 - 1 < 5 - 0; omega⟩
    · have HK := Lib.hid hK
      replace hi := hi.trans (show Value.int .i64 ((1 : Nat) : Int) = .int .i64 1 from rfl)
      subst hi
      have x2 := ixA1 4 2 4 8 2
      clear hK
      go_wp2_with fail
      refine (getR_any HK.out.1 2).mono ?_
      intro e wx hg
      obtain ⟨rfl, hX, _⟩ := HK.out.get hg
      have k0 : wx.cell? { block := w2.heap.size, off := 1 } = some (.int .i64 0) := (hX.2.1.cell 1).trans rfl
      have f0 := hX.2.1.frozen 1
      have HX := Lib.hid hX
      clear hX hg
      go_wp2_with fail
      exact ⟨⟨2, by omega, rfl, HX.out.set 1 (.int .i64 (gV b 1))⟩, by show 5 - 2 < 5 - 1; omega⟩
    · have HK := Lib.hid hK
      replace hi := hi.trans (show Value.int .i64 ((2 : Nat) : Int) = .int .i64 2 from rfl)
      subst hi
      have x2 := ixA2 4 2 4 8 2
      clear hK
      go_wp2_with fail
      refine (getR_any HK.out.1 4).mono ?_
      intro e wx hg
      obtain ⟨rfl, hX, _⟩ := HK.out.get hg
      have k0 : wx.cell? { block := w2.heap.size, off := 2 } = some (.int .i64 0) := (hX.2.1.cell 2).trans rfl
      have f0 := hX.2.1.frozen 2
      have HX := Lib.hid hX
      clear hX hg
      go_wp2_with fail
      exact ⟨⟨3, by omega, rfl, HX.out.set 2 (.int .i64 (gV b 2))⟩, by show 5 - 3 < 5 - 2; omega⟩
    · have HK := Lib.hid hK
      replace hi := hi.trans (show Value.int .i64 ((3 : Nat) : Int) = .int .i64 3 from rfl)
      subst hi
      have x2 := ixA3 4 2 4 8 2
      clear hK
      go_wp2_with fail
      refine (getR_any HK.out.1 8).mono ?_
      intro e wx hg
      obtain ⟨rfl, hX, _⟩ := HK.out.get hg
      have k0 : wx.cell? { block := w2.heap.size, off := 3 } = some (.int .i64 0) := (hX.2.1.cell 3).trans rfl
      have f0 := hX.2.1.frozen 3
      have HX := Lib.hid hX
      clear hX hg
      go_wp2_with fail
      exact ⟨⟨4, by omega, rfl, HX.out.set 3 (.int .i64 (gV b 3))⟩, by show 5 - 4 < 5 - 3; omega⟩
    · have HK := Lib.hid hK
      replace hi := hi.trans (show Value.int .i64 ((4 : Nat) : Int) = .int .i64 4 from rfl)
      subst hi
      have x2 := ixA4 4 2 4 8 2
      clear hK
      go_wp2_with fail
      refine (getR_any HK.out.1 2).mono ?_
      intro e wx hg
      obtain ⟨rfl, hX, _⟩ := HK.out.get hg
      have k0 : wx.cell? { block := w2.heap.size, off := 4 } = some (.int .i64 0) := (hX.2.1.cell 4).trans rfl
      have f0 := hX.2.1.frozen 4
      have HX := Lib.hid hX
      clear hX hg
      go_wp2_with fail
      exact ⟨⟨5, by omega, rfl, HX.out.set 4 (.int .i64 (gV b 4))⟩, by show 5 - 5 < 5 - 4; omega⟩
    · have HK := Lib.hid (And.intro hK (Nat.lt_of_lt_of_le H2.out.2.1 (show w2.heap.size ≤ wr.heap.size from by have := hK.2.1.lt; omega)))
      replace hi := hi.trans (show Value.int .i64 ((5 : Nat) : Int) = .int .i64 5 from rfl)
      subst hi
      have k0 : wr.cell? { block := w2.heap.size, off := 0 } = some (.int .i64 (gV b 0)) := (hK.2.1.cell 0).trans rfl
      have k1 : wr.cell? { block := w2.heap.size, off := 1 } = some (.int .i64 (gV b 1)) := (hK.2.1.cell 1).trans rfl
      have k2 : wr.cell? { block := w2.heap.size, off := 2 } = some (.int .i64 (gV b 2)) := (hK.2.1.cell 2).trans rfl
      have k3 : wr.cell? { block := w2.heap.size, off := 3 } = some (.int .i64 (gV b 3)) := (hK.2.1.cell 3).trans rfl
      have k4 : wr.cell? { block := w2.heap.size, off := 4 } = some (.int .i64 (gV b 4)) := (hK.2.1.cell 4).trans rfl
      obtain ⟨v0, hv0⟩ : ∃ v, gV b 0 = v := ⟨_, rfl⟩
      obtain ⟨v1, hv1⟩ : ∃ v, gV b 1 = v := ⟨_, rfl⟩
      obtain ⟨v2, hv2⟩ : ∃ v, gV b 2 = v := ⟨_, rfl⟩
      obtain ⟨v3, hv3⟩ : ∃ v, gV b 3 = v := ⟨_, rfl⟩
      obtain ⟨v4, hv4⟩ : ∃ v, gV b 4 = v := ⟨_, rfl⟩
      rw [hv0] at k0
      rw [hv1] at k1
      rw [hv2] at k2
      rw [hv3] at k3
      rw [hv4] at k4
      have HV := Lib.hid (And.intro hv0 (And.intro hv1 (And.intro hv2 (And.intro hv3 hv4))))
      clear hv0 hv1 hv2 hv3 hv4
      have hb1 := (Below.refl wr.heap.size wr).alloc (Nat.le_refl _) (.cells #[.int .i64 v0, .int .i64 v1, .int .i64 v2, .int .i64 v3, .slice none 0 0] 27)
      have hM := Bk.newA wr 27 #[.int .i64 v0, .int .i64 v1, .int .i64 v2, .int .i64 v3, .slice none 0 0]
      have hG : GT wa (wr.alloc (.cells #[.int .i64 v0, .int .i64 v1, .int .i64 v2, .int .i64 v3, .slice none 0 0] 27)) P B d (gS b 5) w2.heap.size (gvC b 5) wr.heap.size (wr.heap.size + 1) v0 v1 v2 v3 none 0 0 [] :=
        ⟨hK.below hb1, hM, World.ownsRow_nil _ _ _ _, ⟨Nat.lt_succ_self _, Nat.lt_succ_of_lt hK.1.1.lt, Nat.lt_succ_of_lt hK.2.1.lt, fun a ha => by have := H2.out.2.2 a ha; have := hK.2.1.lt; omega, by rw [World.size_alloc]; exact Nat.le_refl _⟩, Nat.ne_of_gt hK.1.1.lt, Nat.ne_of_gt hK.2.1.lt, fun a ha => by have := H2.out.2.2 a ha; have := hK.2.1.lt; omega, hK.2.2.2.2.2.1.size⟩
      have HG := Lib.hid hG
      have hL : w2.heap.size < wr.heap.size := hK.2.1.lt
      clear hK hb1 hM hG
      go_wp2_with fail
      have k4' := (((Below.refl wr.heap.size wr).alloc (Nat.le_refl _) (.cells #[.int .i64 v0, .int .i64 v1, .int .i64 v2, .int .i64 v3, .slice none 0 0] 27)).cell (p := ⟨w2.heap.size, 4, none⟩) hL).trans k4
      generalize (wr.alloc (.cells #[.int .i64 v0, .int .i64 v1, .int .i64 v2, .int .i64 v3, .slice none 0 0] 27)) = wg at HG k4' ⊢
      clear k0 k1 k2 k3 k4
      obtain ⟨R, hR⟩ : ∃ R, (gS b 5).rest = R := ⟨_, rfl⟩
      have hR0 : 0 ≤ R := by rw [← hR]; have := HG.out.1.1.2.2.1; unfold RS.rest; split <;> omega
      have hv0 : 0 ≤ v4 ∧ v4 < 65536 := by rw [← HV.out.2.2.2.2]; exact ⟨(gV_range b 4).2, gV_four b⟩
      obtain ⟨Q, hQ⟩ : ∃ Q : Nat, min v4 R = Q := ⟨(min v4 R).toNat, by omega⟩
      have hQ1 : gQ b = Q := by unfold gQ; rw [HV.out.2.2.2.2, hR, hQ]; rfl
      have hQ2 : Q ≤ 65535 := by omega
      have HQ := Lib.hid (And.intro hR (And.intro hR0 (And.intro hv0 (And.intro hQ (And.intro hQ1 hQ2)))))
      clear hR0 hv0 hQ1 hQ2
      go_cut [35, 36] (fun s35 s36 wx => s35 = .int .i64 (Q : Int) ∧ s36 = .int .i64 0 ∧ Below wg.heap.size wg wx)
      case first =>
        by_cases hmn : v4 ≤ R
        · have hQv : v4 = Q := by omega
          have hmin : min v4 R = v4 := by omega
          have HM := Lib.hid hQv
          clear hQ hQv
          go_region_held3 (fun w' => w'.cell? ⟨w2.heap.size, 4, none⟩ = some (.int .i64 v4))
            (first | go_keep | exact k4' | exact S4.out)
            ((go_at_call 32; refine (restR_any (HG.out.1.1.below (Below.refl _ _).drew)).mono ?_; rintro e wq ⟨rfl, hbq⟩; rw [hR]; have hbq' := below_undrew hbq; have S4 := Lib.hid ((hbq'.cell (p := ⟨w2.heap.size, 4, none⟩) HG.out.1.2.1.lt).trans k4'); have SB := Lib.hid hbq'; clear hbq hbq'))
          all_goals go_wp2_with fail
          all_goals go_meet
          all_goals exact ⟨by rw [HM.out], rfl, SB.out⟩
        · have hQv : R = Q := by omega
          have hmin : min v4 R = R := by omega
          have HM := Lib.hid hQv
          clear hQ hQv
          go_region_held3 (fun w' => w'.cell? ⟨w2.heap.size, 4, none⟩ = some (.int .i64 v4))
            (first | go_keep | exact k4' | exact S4.out)
            ((go_at_call 32; refine (restR_any (HG.out.1.1.below (Below.refl _ _).drew)).mono ?_; rintro e wq ⟨rfl, hbq⟩; rw [hR]; have hbq' := below_undrew hbq; have S4 := Lib.hid ((hbq'.cell (p := ⟨w2.heap.size, 4, none⟩) HG.out.1.2.1.lt).trans k4'); have SB := Lib.hid hbq'; clear hbq hbq'))
          all_goals go_wp2_with fail
          all_goals go_meet
          all_goals exact ⟨by rw [HM.out], rfl, SB.out⟩
      case rest =>
        obtain ⟨rfl, rfl, hbl⟩ := hcut
        have HC := Lib.hid (HG.out.below hbl)
        clear hbl k4' hQ hR
        generalize wr.heap.size = G at HC hL ⊢
        obtain ⟨s5, hs5⟩ : ∃ s5, gS b 5 = s5 := ⟨_, rfl⟩
        rw [hs5] at HC
        have HS5 := Lib.hid hs5
        clear hs5 hq5
        have hQ2 : Q ≤ 65535 := HQ.out.2.2.2.2.2
        obtain ⟨i0, hi0, hz0, hz1, hz2⟩ := info_parts u3_info
        go_wp2_with fail
        go_loopw [36] (fun i wr => ∃ (q : Nat) (A' : Option Addr) (c' : Nat), q ≤ Q ∧ i = .int .i64 q ∧ GT wa wr P B d (tS s5 q) w2.heap.size (gvC b 5) G (G + 1) v0 v1 v2 v3 A' q c' (tV s5 q)) (fun i wr => Q - (intOf i).toNat)
        case atStart => exact ⟨0, none, 0, by omega, rfl, HC.out⟩
        case round =>
          obtain ⟨q, A', c', hqQ, rfl, hK⟩ := hrel
          by_cases hlt : q < Q
          · have km : (q : Int) < (Q : Int) := by omega
            have k4 := hK.2.1.cell 4
            have HK := Lib.hid (And.intro hK (And.intro (tV_succ s5 q) hlt))
            have hb1 := hK.2.2.2.1.2.2.2.2
            obtain ⟨st, hst⟩ : ∃ st, tS s5 q = st := ⟨_, rfl⟩
            obtain ⟨lq, hlq⟩ : ∃ lq, tV s5 q = lq := ⟨_, rfl⟩
            have hst2 : tS s5 (q + 1) = (st.get 4).2 := by rw [← hst]; rfl
            rw [hst, hlq] at HK
            have HT := Lib.hid hst2
            clear hK hqQ hlt hst hlq hst2
            go_wp2_with fail
            go_region_law
              (first
                | (refine step_append_rd (by rfl) (.tmp 39) (.tmp 42) _ (by rfl) (G + 1) 3 i0 _ 1 8 Try.underlying25 hi0 hz0 hz1 hz2 rfl (by omega) _ q (nums lq) (by rfl) (own_below S1.out.2.2.1 ((Below.refl _ _).alloc (Nat.le_refl _) _)) (some ⟨wx.heap.size, 0, none⟩) 1 1 (nums [(st.get 4).1]) (by rfl) (Rd.lit _ _ _ _ rfl 1 rfl _ rfl) (nums_one _) (by simp only [maxLen]; omega) (by omega) (by rw [World.size_alloc]; exact Nat.le_succ_of_le hb2) ?_; intro v1 w4 hown1 hg1 hat1; rw [← nums_append] at hown1; obtain ⟨A1, c1, rfl, _⟩ := own_form hown1; obtain ⟨z1, z2⟩ := S1.out.app hg1 hown1; have k5 := z1.cell 4; have f5 := z1.frozen 4; have S2 := Lib.hid z2; clear hown1 hg1 hat1 z1 z2)
                | (go_simp; go_at_call 31; refine (getR_any (HK.out.1.1.1.below (Below.refl _ _).drew) 4).mono ?_; intro e wx hg; obtain ⟨rfl, hX⟩ := (HK.out.1.below (Below.refl wr.heap.size wr).drew).get hg; have k6 := hX.2.1.cell 4; have k7 := (hX.2.1.alloc (.cells #[.int .i64 (st.get 4).1] 3)).cell 4; have S1 := Lib.hid hX; have hb2 := hX.2.2.2.1.2.2.2.2; clear hX hg))
            all_goals go_wp2_with fail
            all_goals refine ⟨⟨q + 1, A1, c1, by have := HK.out.2.2; omega, by go_num, ?_⟩, by have := HK.out.2.2; simp [intOf]; omega⟩
            all_goals (rw [HT.out, HK.out.2.1]; exact S2.out)
          · have hqe : q = Q := by omega
            subst hqe
            have km : ¬ (q : Int) < (q : Int) := by omega
            have k4 := hK.2.1.cell 4
            have l4 : wr.cell? { block := w2.heap.size, off := 4 } = some (.int .i64 v4) := (hK.1.2.1.cell 4).trans (by rw [← HV.out.2.2.2.2]; rfl)
            have hM0 := H.out.2.1.below hK.1.2.2.2.2.2.1 (by rw [HWS.out.1]; exact Nat.lt_succ_self _)
            have f0 := hM0.frozen 0
            have f1 := hM0.frozen 1
            have f2 := hM0.frozen 2
            have f3 := hM0.frozen 3
            have f4 := hM0.frozen 4
            obtain ⟨c0, c1, c2, c3, c4⟩ := cells5 hM0
            have hne : w.heap.size ≠ G := by have := hK.2.2.2.2.2.2.2; have := HWS.out.1; omega
            have HK := Lib.hid (And.intro hK hM0)
            have hpm : pgM b = ⟨v0, v1, v2, v3, tV s5 q⟩ := by unfold pgM; rw [HV.out.1, HV.out.2.1, HV.out.2.2.1, HV.out.2.2.2.1, HS5.out, HQ.out.2.2.2.2.1]
            have hpb : pgB b = (decide ((q : Int) = v4) && (decide ((tS s5 q).fin = (0, 0)) && mfB ⟨v0, v1, v2, v3, tV s5 q⟩)) := by unfold pgB; rw [hpm, HV.out.2.2.2.2, HS5.out, HQ.out.2.2.2.2.1]
            have HP := Lib.hid (And.intro hpm hpb)
            obtain ⟨st, hst⟩ : ∃ st, tS s5 q = st := ⟨_, rfl⟩
            obtain ⟨lq, hlq⟩ : ∃ lq, tV s5 q = lq := ⟨_, rfl⟩
            rw [hst, hlq] at HK HP
            have hlen : lq.length = q := by rw [← hlq]; exact tV_len _ _
            have hR : ∀ x ∈ lq, R64 x := by rw [← hlq]; exact tV_range _ _
            have HL := Lib.hid (And.intro hlen hR)
            clear hK hM0 hpm hpb hst hlq hlen hR hlt hqQ HQ
            by_cases hqv : (q : Int) = v4
            · have d1 : ((q : Int) != v4) = false := by simpa using hqv
              have HQV := Lib.hid hqv
              clear hqv
              go_wp2_with fail
              refine (endR_any HK.out.1.1.1).mono ?_
              rintro e wx ⟨rfl, hbx⟩
              have hX := HK.out.1.below hbx
              have hM1 := HK.out.2.belowS hbx
              have HX := Lib.hid (And.intro hX hM1)
              clear c0 c1 c2 c3 c4 f0 f1 f2 f3 f4 k4 l4 hbx
              obtain ⟨c0, c1, c2, c3, c4⟩ := cells5 hX.2.1
              clear hX hM1
              obtain ⟨g1, hg1⟩ : ∃ g1, st.fin.1 = g1 := ⟨_, rfl⟩
              obtain ⟨g2, hg2⟩ : ∃ g2, st.fin.2 = g2 := ⟨_, rfl⟩
              rw [hg1, hg2]
              have HF := Lib.hid (show st.fin = (g1, g2) from by rw [← hg1, ← hg2])
              clear hg1 hg2
              by_cases e1 : g1 = 0
              · by_cases e2 : g2 = 0
                · subst e1 e2
                  go_wp2_with fail
                  have hma : MA wx A' q c' ⟨v0, v1, v2, v3, lq⟩ := ⟨Rd.of_own HX.out.1.2.2.1, by obtain ⟨_, _, ev, hle, _⟩ := own_form HX.out.1.2.2.1; injection ev with _ _ e3; omega, by omega, HL.out.1, by rw [← HV.out.1]; exact (gV_range b 0).1, by rw [← HV.out.2.1]; exact (gV_range b 1).1, by rw [← HV.out.2.2.1]; exact (gV_range b 2).1, by rw [← HV.out.2.2.2.1]; exact (gV_range b 3).1, HL.out.2⟩
                  refine (check_any hma).mono ?_
                  rintro e wy ⟨rfl, hby⟩
                  have HY := Lib.hid (And.intro (HX.out.1.below hby) (HX.out.2.belowS hby))
                  clear c0 c1 c2 c3 c4 hby hma
                  have hM1 := HY.out.2
                  have f0 := hM1.frozen 0
                  have f1 := hM1.frozen 1
                  have f2 := hM1.frozen 2
                  have f3 := hM1.frozen 3
                  have f4 := hM1.frozen 4
                  obtain ⟨m0, m1, m2, m3, m4⟩ := cells5 hM1
                  obtain ⟨c0, c1, c2, c3, c4⟩ := cells5 HY.out.1.2.1
                  clear hM1
                  cases hq : mfB ⟨v0, v1, v2, v3, lq⟩ with
                  | false =>
                    rw [show mfE ⟨v0, v1, v2, v3, lq⟩ = 2 from by unfold mfE; rw [hq]; rfl]
                    have HE := Lib.hid (show pgB b = false from by rw [HP.out.2, hq]; simp)
                    clear hq
                    go_wp2_with fail
                    have hB := below_base H.out.1 HY.out.1.1.2.2.2.2.2.1 H.out.1.size
                    have h9 := setM hB HY.out.2 (.int .i64 0) (.int .i64 0) (.int .i64 0) (.int .i64 0) (.slice none 0 0)
                    exact ret_mfE (v5 := .int .i64 6) rfl rfl rfl rfl h9.1 (gm_no h9.2.1 HE.out)
                  | true =>
                    rw [show mfE ⟨v0, v1, v2, v3, lq⟩ = 0 from by unfold mfE; rw [hq]; rfl]
                    have HE := Lib.hid (show pgB b = true from by rw [HP.out.2, hq, HF.out, HQV.out]; simp)
                    clear hq
                    go_wp2_with fail
                    have hB := below_base H.out.1 HY.out.1.1.2.2.2.2.2.1 H.out.1.size
                    have h9 := setM hB HY.out.2 (.int .i64 v0) (.int .i64 v1) (.int .i64 v2) (.int .i64 v3) (.slice A' q c')
                    refine ret_mfE (v5 := .int .i64 0) rfl rfl rfl rfl h9.1 ?_
                    unfold GmPost gtM gtE
                    rw [HE.out, HP.out.1]
                    have ho := h9.2.2.own HY.out.1.2.2.1 (fun a ha e => by have := (own_ge HY.out.1.2.2.1 a ha).1; have := HY.out.1.2.2.2.2.2.2.2; have := HWS.out.1; omega)
                    rw [if_pos rfl, if_pos rfl]
                    show ∃ A1 c1, _ = Ending.returned (.tuple #[.agg #[.int .i64 v0, .int .i64 v1, .int .i64 v2, .int .i64 v3, .slice A1 lq.length c1], _]) ∧ World.ownsRow _ _ _ _ (.slice A1 lq.length c1) lq.length (nums lq) ∧ _
                    rw [HL.out.1]
                    exact ⟨A', c', rfl, own_mono ho (by have := HY.out.1.2.2.2.2.2.2.2; have := HWS.out.1; omega), h9.2.1⟩
                · have d2 : (g2 == 0) = false := by simpa using e2
                  have d3 : decide (g2 = 0) = false := by simpa using e2
                  have HE := Lib.hid (show pgB b = false from by rw [HP.out.2, HF.out]; simp [e2])
                  subst e1
                  have hM1 := HX.out.2
                  have f0 := hM1.frozen 0
                  have f1 := hM1.frozen 1
                  have f2 := hM1.frozen 2
                  have f3 := hM1.frozen 3
                  have f4 := hM1.frozen 4
                  obtain ⟨m0, m1, m2, m3, m4⟩ := cells5 hM1
                  clear hM1
                  go_wp2_with fail
                  have hB := below_base H.out.1 HX.out.1.1.2.2.2.2.2.1 H.out.1.size
                  have h9 := setM hB HX.out.2 (.int .i64 0) (.int .i64 0) (.int .i64 0) (.int .i64 0) (.slice none 0 0)
                  exact ret_mfE (v5 := .int .i64 6) rfl rfl rfl rfl h9.1 (gm_no h9.2.1 HE.out)
              · have d2 : (g1 == 0) = false := by simpa using e1
                have d3 : decide (g1 = 0) = false := by simpa using e1
                have HE := Lib.hid (show pgB b = false from by rw [HP.out.2, HF.out]; simp [e1])
                have hM1 := HX.out.2
                have f0 := hM1.frozen 0
                have f1 := hM1.frozen 1
                have f2 := hM1.frozen 2
                have f3 := hM1.frozen 3
                have f4 := hM1.frozen 4
                obtain ⟨m0, m1, m2, m3, m4⟩ := cells5 hM1
                clear hM1
                go_wp2_with fail
                have hB := below_base H.out.1 HX.out.1.1.2.2.2.2.2.1 H.out.1.size
                have h9 := setM hB HX.out.2 (.int .i64 0) (.int .i64 0) (.int .i64 0) (.int .i64 0) (.slice none 0 0)
                exact ret_mfE (v5 := .int .i64 6) rfl rfl rfl rfl h9.1 (gm_no h9.2.1 HE.out)
            · have d1 : ((q : Int) != v4) = true := by simpa using hqv
              have HE := Lib.hid (show pgB b = false from by rw [HP.out.2]; simp [hqv])
              clear hqv
              go_wp2_with fail
              have hB := below_base H.out.1 HK.out.1.1.2.2.2.2.2.1 H.out.1.size
              have h9 := setM hB HK.out.2 (.int .i64 0) (.int .i64 0) (.int .i64 0) (.int .i64 0) (.slice none 0 0)
              exact ret_mfE (v5 := .int .i64 6) rfl rfl rfl rfl h9.1 (gm_no h9.2.1 HE.out)
end Go.Proofs.Ythnoeiiebokooaa
