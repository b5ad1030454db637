/- OctetBack: its walk. -/
import Derived.Test.YtdepmogibhmdaaaBw10
import Derived.Test.YtdepmogibhmdaaaWn10
import Derived.Test.YtdepmogibhmdaaaRx10
namespace Go.Proofs.Ytdepmogibhmdaaa
open Go.RowKit
set_option linter.unusedVariables false
theorem item_info : (Try.prog.info? 34).map (fun i => (i.zero, i.size, i.bytes)) = some (some (.agg #[.bool false, .int .i64 0, .int .i64 0, .slice none 0 0]), 4, 48) := by kernel_rfl
set_option maxRecDepth 100000 in
set_option maxHeartbeats 1600000 in
/-- artesianlaw10.OctetBack -/
theorem back_walk {w : World} {D : Option Addr} {m q : Nat} {its : List It} (g : Its w D m its ∧ m ≤ q ∧ m ≤ 2932031007402) :
    Calls Try.prog 7 #[.slice D m q] w fun e w' => e = .returned (.bool true) ∧ Below w.heap.size w w' := by
  obtain ⟨hi, hq, hm⟩ := g
  have HI := Lib.hid hi
  clear hi hq
  have hlong : ∀ w', Below w.heap.size w w' → Calls Try.prog 11 #[.slice D m q] w' fun e w'' => e = .returned (.bool (longV its)) ∧ w' = w'' := fun w' hb => long_any (HI.out.below hb) hm
  have HLong := Lib.hid hlong
  clear hlong
  go_enter Try.func7, Try.ntmps7
  go_wp2_with fail
  refine (known_walk w).mono ?_
  rintro e w1 ⟨rfl, hb1⟩
  have H1 := Lib.hid hb1
  clear hb1
  go_wp2_with fail
  refine (newW_any 100000).mono ?_
  intro e w2 h2
  obtain ⟨P, rfl, hw2⟩ := ww_new H1.out (by omega) (by omega) h2
  have H2 := Lib.hid hw2
  clear h2 hw2
  go_wp2_with fail
  refine (HLong.out w2 H2.out.2.2).mono ?_
  rintro e w3 ⟨rfl, hw⟩
  subst w3
  cases hlv : longV its with
  | true =>
    clear hlv
    go_wp2
    go_ret
    exact ⟨rfl, H2.out.2.2⟩
  | false =>
    have HV := Lib.hid (longV_no hlv)
    clear hlv
    go_wp2
    go_loopw [6, 7] (fun v i wr => ∃ (k : Nat) (A : Option Addr) (c : Nat), k ≤ m ∧ i = .int .i64 k ∧ BK w wr P A c ⟨100000, enc (its.take k), 0⟩ v k (its.take k) ∧ ∀ it ∈ its.take k, okI it) (fun v i wr => m - (intOf i).toNat)
    case atStart => exact ⟨0, none, 0, by omega, rfl, ⟨H2.out, ⟨[], World.ownsRow_nil _ _ _ _, KI.nil _⟩, fun g e => by cases e⟩, fun it h => by simp at h⟩
    case round =>
      clear H2
      obtain ⟨k, A, c, hk, rfl, hbk, hall⟩ := hrel
      have H4 := Lib.hid (And.intro hbk hall)
      clear hbk hall
      by_cases hlt : k < m
      · obtain ⟨a, off, rfl, hal, hel⟩ := HI.out.2 (by omega)
        have hkl : k < its.length := by rw [HI.out.1]; exact hlt
        obtain ⟨e0, e1, e2, BB, mm, cc, e3, hrd, hmc, hmm, hI1, hI2⟩ := hel k hkl
        have km : (k : Int) < (m : Int) := by omega
        have HE := Lib.hid (And.intro hrd (And.intro hmm (And.intro hI2 (And.intro hmc hlt))))
        have hbw := H4.out.1.ww.2.2
        have c0 := (hbw.cell (p := ⟨a, off + k * 4, none⟩) hal).trans e0
        have c1 := (hbw.cell (p := ⟨a, off + k * 4 + 1, none⟩) hal).trans e1
        have c2 := (hbw.cell (p := ⟨a, off + k * 4 + 2, none⟩) hal).trans e2
        have c3 := (hbw.cell (p := ⟨a, off + k * 4 + 3, none⟩) hal).trans e3
        clear e0 e1 e2 e3 hrd hmc hmm hI1 hI2 hel hlt hbw
        generalize hwd : its[k].wd = wd at c1
        generalize hnn : its[k].n = nn at c2
        have HW := Lib.hid (And.intro hwd hnn)
        clear hwd hnn
        obtain ⟨g8, hg8⟩ : ∃ g, g = wr.heap.size := ⟨_, rfl⟩
        cases hraw : its[k].raws with
        | true =>
          rw [hraw] at c0
          have HB8 := Lib.hid (And.intro ((Below.refl wr.heap.size wr).alloc (Nat.le_refl _) (.cells #[.bool true, .int .i64 wd, .int .i64 nn, .slice BB mm cc] 34)) (And.intro (show Bk (wr.alloc (.cells #[.bool true, .int .i64 wd, .int .i64 nn, .slice BB mm cc] 34)) g8 34 [.bool true, .int .i64 wd, .int .i64 nn, .slice BB mm cc] from by rw [hg8]; exact Bk.newA wr _ _) hg8))
          go_wp2_with fail
          rw [← hg8]
          clear hg8
          refine (rawW_any (H4.out.1.below HB8.out.1).ww.1 (HE.out.1.below (H4.out.1.below HB8.out.1).ww.2.2) HE.out.2.1).mono ?_
          rintro e w5 h5
          obtain ⟨rfl, A5, c5, hb5, hc5⟩ := (H4.out.1.below HB8.out.1).step h5
          have hg5 : Bk w5 g8 34 [.bool true, .int .i64 wd, .int .i64 nn, .slice BB mm cc] := hc5.bk HB8.out.2.1 (by
            rintro (e | ⟨a1, ha, e⟩)
            · have := H4.out.1.ww.1.1.lt; have := HB8.out.2.2; omega
            · have := (own_ge H4.out.1.ww.1.2.1 a1 ha).2; have := HB8.out.2.2; omega)
          have HS := Lib.hid (show wrS ⟨100000, enc (its.take k), 0⟩ its[k] = (⟨100000, enc (its.take k), 0⟩ : WS).raw its[k].b from by unfold wrS; rw [hraw]; rfl)
          obtain ⟨s5, hs5⟩ : ∃ s5, (⟨100000, enc (its.take k), 0⟩ : WS).raw its[k].b = s5 := ⟨_, rfl⟩
          rw [hs5] at hb5 HS ⊢
          have H5 := Lib.hid (And.intro hb5 hg5)
          clear hb5 hg5 hc5 h5 hs5
          by_cases hx : s5.e = 0
          · have HX := Lib.hid hx
            rw [hx]
            clear hx
            have hok := wr_ok (s := ⟨100000, enc (its.take k), 0⟩) (it := its[k]) rfl HE.out.2.2.1.2 (by rw [HS.out]; exact HX.out)
            rw [HS.out, show (⟨(⟨100000, enc (its.take k), 0⟩ : WS).m, (⟨100000, enc (its.take k), 0⟩ : WS).b ++ encI its[k], 0⟩ : WS) = ⟨100000, enc (its.take (k + 1)), 0⟩ from by rw [enc_take hkl]] at hok
            have hb6 := H5.out.1
            rw [hok.1] at hb6
            have H6 := Lib.hid (And.intro hb6 hok.2)
            have g0 := H5.out.2.cell 0
            have g1 := H5.out.2.cell 1
            have g2 := H5.out.2.cell 2
            have g3 := H5.out.2.cell 3
            clear hok hb6
            obtain ⟨cells, hown, hki⟩ := H6.out.1.own
            have HO := Lib.hid (And.intro hown hki)
            clear hown hki
            obtain ⟨i0, hi0, hz0, hz1, hz2⟩ := info_parts item_info
            have k40 : k ≤ 40 := by have := HV.out.1; have := HI.out.1; have := HE.out.2.2.2.2; omega
            go_wp2_with (at_builtin; refine wpList_append_rd _ rfl (.tmp 66) (.tmp 68) _ rfl w.heap.size 34 i0 _ 4 48 Try.underlying22 hi0 hz0 hz1 hz2 rfl (by omega) _ k cells rfl (own_below HO.out.1 ((Below.refl _ _).alloc (Nat.le_refl _) _)) (some ⟨w5.heap.size, 0, none⟩) 1 1 [.bool true, .int .i64 wd, .int .i64 nn, .slice BB mm cc] rfl (Rd.lit _ _ _ _ rfl 4 rfl _ rfl) (by intro u hu; simp at hu; rcases hu with rfl | rfl | rfl | rfl <;> rfl) (by simp only [maxLen]; omega) (by omega) (by rw [World.size_alloc]; exact Nat.le_succ_of_le H6.out.1.ww.2.2.size) ?_; intro v6 w6 hown6 hg6 hat6)
            have hb7 := (H6.out.1.below ((Below.refl _ _).alloc (Nat.le_refl _) (.cells #[.bool true, .int .i64 wd, .int .i64 nn, .slice BB mm cc] 34))).app (it := its[k]) (B := BB) (m := mm) (cc := cc) (by rw [hraw, HW.out.1, HW.out.2]; exact hown6) HO.out.2 HE.out.1 HE.out.2.2.2.1 HE.out.2.1 hg6 hat6
            rw [← List.take_succ_eq_append_getElem hkl] at hb7
            exact ⟨⟨k + 1, A5, c5, by have := HE.out.2.2.2.2; omega, by go_num, hb7, fun it hit => by
              rw [List.take_succ_eq_append_getElem hkl, List.mem_append] at hit
              rcases hit with hit | hit
              · exact H4.out.2 it hit
              · rw [List.mem_singleton] at hit; subst hit; exact H6.out.2⟩, by have := HE.out.2.2.2.2; simp [intOf]; omega⟩
          · have d1 : (s5.e != 0) = true := by simpa using hx
            obtain ⟨x, hxx⟩ : ∃ x, s5.e = x := ⟨_, rfl⟩
            have nx : (x == x) = true := by simp
            have HXX := Lib.hid hxx
            rw [hxx] at d1 ⊢
            clear hx hxx
            go_wp2_with fail
            refine (bytesW_any H5.out.1.ww.1).mono ?_
            rintro e w6 ⟨v6, rfl, ho6, hb6⟩
            have H6 := Lib.hid (H5.out.1.below hb6)
            rw [HXX.out]
            clear ho6 hb6
            go_wp2
            go_ret
            exact ⟨rfl, H6.out.ww.2.2⟩
        | false =>
          rw [hraw] at c0
          have HB8 := Lib.hid (And.intro ((Below.refl wr.heap.size wr).alloc (Nat.le_refl _) (.cells #[.bool false, .int .i64 wd, .int .i64 nn, .slice BB mm cc] 34)) (And.intro (show Bk (wr.alloc (.cells #[.bool false, .int .i64 wd, .int .i64 nn, .slice BB mm cc] 34)) g8 34 [.bool false, .int .i64 wd, .int .i64 nn, .slice BB mm cc] from by rw [hg8]; exact Bk.newA wr _ _) hg8))
          go_wp2_with fail
          rw [← hg8]
          clear hg8
          refine (putW_any (wide := wd) (n := nn) (H4.out.1.below HB8.out.1).ww.1 (by rw [← HW.out.2]; exact HE.out.2.2.1)).mono ?_
          rintro e w5 h5
          obtain ⟨rfl, A5, c5, hb5, hc5⟩ := (H4.out.1.below HB8.out.1).step h5
          have hg5 : Bk w5 g8 34 [.bool false, .int .i64 wd, .int .i64 nn, .slice BB mm cc] := hc5.bk HB8.out.2.1 (by
            rintro (e | ⟨a1, ha, e⟩)
            · have := H4.out.1.ww.1.1.lt; have := HB8.out.2.2; omega
            · have := (own_ge H4.out.1.ww.1.2.1 a1 ha).2; have := HB8.out.2.2; omega)
          have HS := Lib.hid (show wrS ⟨100000, enc (its.take k), 0⟩ its[k] = (⟨100000, enc (its.take k), 0⟩ : WS).put wd nn from by unfold wrS; rw [hraw, ← HW.out.1, ← HW.out.2]; rfl)
          obtain ⟨s5, hs5⟩ : ∃ s5, (⟨100000, enc (its.take k), 0⟩ : WS).put wd nn = s5 := ⟨_, rfl⟩
          rw [hs5] at hb5 HS ⊢
          have H5 := Lib.hid (And.intro hb5 hg5)
          clear hb5 hg5 hc5 h5 hs5
          by_cases hx : s5.e = 0
          · have HX := Lib.hid hx
            rw [hx]
            clear hx
            have hok := wr_ok (s := ⟨100000, enc (its.take k), 0⟩) (it := its[k]) rfl HE.out.2.2.1.2 (by rw [HS.out]; exact HX.out)
            rw [HS.out, show (⟨(⟨100000, enc (its.take k), 0⟩ : WS).m, (⟨100000, enc (its.take k), 0⟩ : WS).b ++ encI its[k], 0⟩ : WS) = ⟨100000, enc (its.take (k + 1)), 0⟩ from by rw [enc_take hkl]] at hok
            have hb6 := H5.out.1
            rw [hok.1] at hb6
            have H6 := Lib.hid (And.intro hb6 hok.2)
            have g0 := H5.out.2.cell 0
            have g1 := H5.out.2.cell 1
            have g2 := H5.out.2.cell 2
            have g3 := H5.out.2.cell 3
            clear hok hb6
            obtain ⟨cells, hown, hki⟩ := H6.out.1.own
            have HO := Lib.hid (And.intro hown hki)
            clear hown hki
            obtain ⟨i0, hi0, hz0, hz1, hz2⟩ := info_parts item_info
            have k40 : k ≤ 40 := by have := HV.out.1; have := HI.out.1; have := HE.out.2.2.2.2; omega
            go_wp2_with (at_builtin; refine wpList_append_rd _ rfl (.tmp 66) (.tmp 68) _ rfl w.heap.size 34 i0 _ 4 48 Try.underlying22 hi0 hz0 hz1 hz2 rfl (by omega) _ k cells rfl (own_below HO.out.1 ((Below.refl _ _).alloc (Nat.le_refl _) _)) (some ⟨w5.heap.size, 0, none⟩) 1 1 [.bool false, .int .i64 wd, .int .i64 nn, .slice BB mm cc] rfl (Rd.lit _ _ _ _ rfl 4 rfl _ rfl) (by intro u hu; simp at hu; rcases hu with rfl | rfl | rfl | rfl <;> rfl) (by simp only [maxLen]; omega) (by omega) (by rw [World.size_alloc]; exact Nat.le_succ_of_le H6.out.1.ww.2.2.size) ?_; intro v6 w6 hown6 hg6 hat6)
            have hb7 := (H6.out.1.below ((Below.refl _ _).alloc (Nat.le_refl _) (.cells #[.bool false, .int .i64 wd, .int .i64 nn, .slice BB mm cc] 34))).app (it := its[k]) (B := BB) (m := mm) (cc := cc) (by rw [hraw, HW.out.1, HW.out.2]; exact hown6) HO.out.2 HE.out.1 HE.out.2.2.2.1 HE.out.2.1 hg6 hat6
            rw [← List.take_succ_eq_append_getElem hkl] at hb7
            exact ⟨⟨k + 1, A5, c5, by have := HE.out.2.2.2.2; omega, by go_num, hb7, fun it hit => by
              rw [List.take_succ_eq_append_getElem hkl, List.mem_append] at hit
              rcases hit with hit | hit
              · exact H4.out.2 it hit
              · rw [List.mem_singleton] at hit; subst hit; exact H6.out.2⟩, by have := HE.out.2.2.2.2; simp [intOf]; omega⟩
          · have d1 : (s5.e != 0) = true := by simpa using hx
            obtain ⟨x, hxx⟩ : ∃ x, s5.e = x := ⟨_, rfl⟩
            have nx : (x == x) = true := by simp
            have HXX := Lib.hid hxx
            rw [hxx] at d1 ⊢
            clear hx hxx
            go_wp2_with fail
            refine (bytesW_any H5.out.1.ww.1).mono ?_
            rintro e w6 ⟨v6, rfl, ho6, hb6⟩
            have H6 := Lib.hid (H5.out.1.below hb6)
            rw [HXX.out]
            clear ho6 hb6
            go_wp2
            go_ret
            exact ⟨rfl, H6.out.ww.2.2⟩
      · obtain rfl : k = m := by omega
        have h4 := H4.out
        rw [show its.take k = its from List.take_of_length_le (by rw [HI.out.1]; exact Nat.le_refl _)] at h4
        obtain ⟨E, hE⟩ : ∃ E, enc its = E := ⟨_, rfl⟩
        have hE0 : (⟨100000, enc its, 0⟩ : WS).out = E := hE
        obtain ⟨cells, hown, hki⟩ := h4.1.own
        obtain ⟨K, ck, hv, hKb⟩ := own_slice hown
        obtain ⟨L, hL⟩ : ∃ L, E.length = L := ⟨_, rfl⟩
        have hL5 : L ≤ 100000 := by have := h4.1.ww.1.2.2.2.2.2.2; have h9 : (enc its).length = L := by rw [hE, hL]
                                    rw [show (⟨100000, enc its, 0⟩ : WS).b.length = L from h9] at this; have h8 := h4.1.ww.1.2.2.2.2.2.1; omega
        have H5 := Lib.hid (And.intro h4.1 (And.intro h4.2 (And.intro hE (And.intro hE0 (And.intro hL (And.intro (show ∀ a, K = some a → a.block < wr.heap.size from fun a e => (hown.lt _ (hKb a e)).2) hv))))))
        have HE := Lib.hid (And.intro hL hE)
        clear h4 hE hE0 hown hki hL hKb hlt hk
        subst hv
        go_wp2_with fail
        refine (bytesW_any H5.out.1.ww.1).mono ?_
        rintro e w6 ⟨v6, rfl, ho6, hb6⟩
        rw [H5.out.2.2.2.1, H5.out.2.2.2.2.1] at ho6
        obtain ⟨Bb, cb, rfl, hcb, hcm, _, _⟩ := own_form ho6
        have h6 : B2 w w6 K k ck its Bb L E w6.heap.size := by
          obtain ⟨cells, hown, hki⟩ := H5.out.1.own
          have hs := hb6.size
          have hbw := H5.out.1.ww.2.2
          exact ⟨⟨cells, own_below hown hb6, hki⟩, Rd.of_own ho6, fun a e => by have := H5.out.2.2.2.2.2.1 a e; omega, fun a e => (own_ge ho6 a e).2, Nat.le_trans hbw.size hs, Nat.le_refl _, below_base hbw hb6 hbw.size⟩
        have H6 := Lib.hid h6
        have HC := Lib.hid (And.intro hcb hcm)
        obtain ⟨X, hX⟩ : ∃ X, w6.heap.size = X := ⟨_, rfl⟩
        rw [hX] at H6
        have HX := Lib.hid hX
        clear h6 ho6 hb6 hcb hcm hX
        go_wp2_with fail
        refine (newR_any H6.out.rd (by omega)).mono ?_
        rintro e w7 ⟨Q1, B1, d1, rfl, hr7, hb7, hQ7, hB7⟩
        have H7 := Lib.hid (And.intro (H6.out.below hb7) (And.intro hr7 (And.intro hQ7 hB7)))
        clear hr7 hb7 hQ7 hB7
        go_wp2_with fail
        refine (copy_any H7.out.1.rd (by omega)).mono ?_
        rintro e w8 ⟨v8, rfl, ho8, hb8⟩
        obtain ⟨C8, c8, rfl, _⟩ := own_form ho8
        have ha9 := (Below.refl w8.heap.size w8).alloc (Nat.le_refl _) (.cells #[.int .u8 7] 5)
        have hb9 := below_base hb8 ha9 hb8.size
        have H9 := Lib.hid (And.intro (H7.out.1.below hb9) (And.intro (H7.out.2.1.below hb9) (And.intro (own_below ho8 ha9) (And.intro hb9.size (And.intro (own_ge (own_below ho8 ha9)) ha9)))))
        clear ho8 hb8 ha9 hb9
        obtain ⟨i0, hi0, hz0, hz1, hz2⟩ := info_parts u8_info
        go_wp2_with (at_builtin; refine wpList_append_rd _ rfl (.tmp 78) (.tmp 79) _ rfl w7.heap.size 5 i0 _ 1 1 Try.underlying32 hi0 hz0 hz1 hz2 rfl (by omega) _ L (bys E) rfl H9.out.2.2.1 (some ⟨w8.heap.size, 0, none⟩) 1 1 [.int .u8 7] rfl (Rd.lit _ _ _ _ rfl 1 rfl _ rfl) (by simp [Value.oneCell']) (by simp only [maxLen]; omega) (by omega) H9.out.2.2.2.1 ?_; intro v10 w10 hown10 hg10 hat10; obtain ⟨A10, c10, rfl, _, _, _, _⟩ := own_form hown10)
        have hc10 : Chg (Aset C8) (w8.alloc (.cells #[.int .u8 7] 5)) w10 := Chg.of_grown hg10 fun j e => by
          rcases C8 with _ | a8
          · cases e
          · injection e with e; exact ⟨a8, rfl, e⟩
        have hC8 : ∀ j, Aset C8 j → w7.heap.size ≤ j := by
          rintro j ⟨a8, ha8, e⟩
          have := (H9.out.2.2.2.2.1 a8 ha8).1; omega
        have hs7 : X ≤ w7.heap.size := H7.out.1.xs
        have H10 := Lib.hid (And.intro (H9.out.1.chg hc10 fun j e => Nat.le_trans hs7 (hC8 j e)) (And.intro (H9.out.2.1.chg hc10 (fun e => by have := hC8 _ e; have := H7.out.2.1.1.lt; omega) (fun b hb e => by have := hC8 _ e; have := (H7.out.2.2.2 b hb).2; omega)) (Rd.of_own hown10)))
        have hrd10 : Rd w10 A10 (L + 1) (bys (E ++ [7])) := by
          have := H10.out.2.2
          rw [bys_append]
          exact this
        have HR10 := Lib.hid hrd10
        have HQ1 := Lib.hid (And.intro H7.out.2.2.1 (And.intro (Nat.lt_of_lt_of_le H7.out.2.1.1.lt (Nat.le_trans H9.out.2.2.2.1 hc10.size)) (fun b hb => Nat.lt_of_lt_of_le (H7.out.2.2.2 b hb).2 (Nat.le_trans H9.out.2.2.2.1 hc10.size))))
        clear hown10 hg10 hat10 hc10 hC8 hs7 hrd10
        refine (newR_any HR10.out (by omega)).mono ?_
        rintro e w11 ⟨Q2, B2', d2, rfl, hr11, hb11, hQ11, hB11⟩
        have h11 : R2 w w11 Q1 B1 d1 ⟨E, 0, 0, 0⟩ Q2 B2' d2 ⟨E ++ [7], 0, 0, 0⟩ := by
          have hx0 := H6.out.x0
          have hq := HQ1.out.1
          have hq2 := HQ1.out.2.1
          rw [HX.out] at hq
          have hbl := (H10.out.1.below hb11).b
          have hs10 := H10.out.1.xs
          exact ⟨⟨H10.out.2.1.below hb11, by omega, hbl⟩, ⟨hr11, by omega, hbl⟩, by omega, fun b hb => by have := HQ1.out.2.2 b hb; omega, fun b hb => by have := (hB11 b hb).1; omega⟩
        have H11 := Lib.hid (And.intro h11 (And.intro (H10.out.1.below hb11) (And.intro (show X ≤ Q1 from by have := HQ1.out.1; rw [HX.out] at this; exact this) (show X ≤ Q2 from Nat.le_trans H10.out.1.xs hQ11))))
        clear h11 hr11 hb11 hQ11 hB11
        have hEn : enc its = E := HE.out.2
        have hra := read_all (its := its) (L := E) (rest := []) (p := 0) H5.out.2.1 (Nat.zero_le _) (by rw [hEn]; simp)
        have hrb := read_all (its := its) (L := E ++ [7]) (rest := [7]) (p := 0) H5.out.2.1 (Nat.zero_le _) (by rw [hEn]; simp)
        rw [hEn, HE.out.1, Nat.zero_add] at hra hrb
        have HRA := Lib.hid hra
        have HRB := Lib.hid hrb
        clear hra hrb hEn
        go_wp2_with fail
        refine (H11.out.2.1.takes H11.out.1.1.1 H11.out.2.2.1 hm).mono ?_
        rintro e w12 ⟨rfl, hr12, hc12, hb12⟩
        rw [HRA.out.2] at hr12
        have H12 := Lib.hid (And.intro (H11.out.1.one hr12 hc12) hb12)
        rw [HRA.out.1, HRA.out.2, show (true && (⟨E, L, 0, 0⟩ : RS).fin.1 != 7) = true from by unfold RS.fin; rw [if_neg (by rw [← HE.out.1]; simp)]; rfl]
        clear hr12 hc12 hb12
        go_wp2_with fail
        refine (H12.out.2.takes H12.out.1.2.1.1 H11.out.2.2.2 hm).mono ?_
        rintro e w13 ⟨rfl, hr13, hc13, hb13⟩
        rw [HRB.out.2] at hr13
        have H13 := Lib.hid (And.intro ((H12.out.1.swap.one hr13 hc13).swap) hb13)
        have hfb : (⟨E ++ [7], L, 0, 0⟩ : RS).fin = (4, (L : Int)) := by unfold RS.fin; rw [if_pos ⟨rfl, by show L < (E ++ [7]).length; rw [List.length_append, HE.out.1]; simp⟩]
        have HFB := Lib.hid hfb
        rw [HRB.out.1, HRB.out.2, HFB.out, show (true && ((4, (L : Int)) : Int × Int).1 != 7) = true from rfl]
        clear hr13 hc13 hb13 hfb
        go_wp2_with fail
        refine (ends_any H13.out.1.1.1 0 0).mono ?_
        rintro e w14 ⟨rfl, hb14⟩
        have H14 := Lib.hid (And.intro (H13.out.1.below hb14) (H13.out.2.below hb14))
        rw [show ((⟨E, L, 0, 0⟩ : RS).fin.1 == 0 && (⟨E, L, 0, 0⟩ : RS).fin.2 == 0) = true from by unfold RS.fin; rw [if_neg (by rw [← HE.out.1]; simp)]; rfl]
        clear hb14
        go_wp2_with fail
        refine (restR_any H14.out.1.1.1).mono ?_
        rintro e w15 ⟨rfl, hb15⟩
        have H15 := Lib.hid (And.intro (H14.out.1.below hb15) (H14.out.2.below hb15))
        rw [show (⟨E, L, 0, 0⟩ : RS).rest = 0 from by unfold RS.rest; rw [if_neg (by simp)]; show (E.length : Int) - L = 0; rw [HE.out.1]; omega]
        clear hb15
        go_wp2_with fail
        refine (ends_any H15.out.1.2.1.1 4 L).mono ?_
        rintro e w16 ⟨rfl, hb16⟩
        have H16 := Lib.hid (H15.out.2.below hb16)
        rw [HFB.out, show ((((4, (L : Int)) : Int × Int).1 == 4) && (((4, (L : Int)) : Int × Int).2 == (L : Int))) = true from by simp]
        clear hb16
        by_cases h0 : L = 0
        · have d0 : ((L : Int) == 0) = true := by simp [h0]
          have d1 : (L == 0) = true := by simp [h0]
          clear h0
          go_wp2
          go_ret
          exact ⟨rfl, H16.out.b⟩
        · have d0 : ((L : Int) == 0) = false := by simpa using h0
          have d1 : (L == 0) = false := by simpa using h0
          obtain ⟨M, hM⟩ : ∃ M, L = M + 1 := ⟨L - 1, by omega⟩
          have hto := fun w => run_to (P := Try.prog) (t := 32) Try.underlying32 hi0 hz1 Bb L cb M .i64 (by have := HC.out.1; omega) w
          have hwr : IntKind.i64.wrap ((L : Int) - 1) = (M : Int) := by rw [IntKind.wrap_i64]; omega
          have hwm : (L : Int) - 1 = (M : Int) := by omega
          have hM5 : (M : Int) ≤ 100000 := by omega
          have HM := Lib.hid hM
          clear h0 hM hi0 hz0 hz1 hz2
          go_wp2_with fail
          have hrt : Rd w16 Bb M (bys (E.take M)) := by
            have := H16.out.rd.take_ (k := M) (by have := HM.out; omega)
            rw [bys_take] at this
            exact this
          have hlt : (E.take M).length = M := by simp; have := HE.out.1; have := HM.out; omega
          have HT := Lib.hid hlt
          refine (newR_any hrt (by omega)).mono ?_
          rintro e w17 ⟨Q3, B3, d3, rfl, hr17, hb17, hQ17, hB17⟩
          have H17 := Lib.hid (And.intro (H16.out.below hb17) (And.intro hr17 (show X ≤ Q3 from Nat.le_trans H16.out.xs hQ17)))
          clear hr17 hb17 hQ17 hB17 hrt hlt hto
          obtain ⟨p3, hp3⟩ := read_cut (its := its) (L := E.take M) (p := 0) H5.out.2.1 (Nat.zero_le _) (by rw [HE.out.2, HT.out, HE.out.1]; have := HM.out; omega) (by rw [HE.out.2, HT.out]; simp)
          rw [HT.out] at hp3
          have hff : (⟨E.take M, p3, 7, (M : Int)⟩ : RS).fin = (7, (M : Int)) := by unfold RS.fin; rw [if_neg (by simp)]
          have HF := Lib.hid (And.intro hp3 hff)
          clear hp3 hff
          go_wp2_with fail
          refine (H17.out.1.takes H17.out.2.1 H17.out.2.2 hm).mono ?_
          rintro e w18 ⟨rfl, hr18, hc18, hb18⟩
          rw [HF.out.1] at hr18
          have H18 := Lib.hid (And.intro hb18 hr18)
          rw [HF.out.1, HF.out.2, show (tkV (⟨E.take M, 0, 0, 0⟩ : RS) its && ((7, (M : Int)) : Int × Int).1 != 7) = false from by simp]
          clear hr18 hc18 hb18
          go_wp2_with fail
          refine (ends_any H18.out.2 7 M).mono ?_
          rintro e w19 ⟨rfl, hb19⟩
          have H19 := Lib.hid (H18.out.1.below hb19)
          rw [HF.out.2, show ((((7, (M : Int)) : Int × Int).1 == 7) && (((7, (M : Int)) : Int × Int).2 == (M : Int))) = true from by simp]
          clear hb19
          go_wp2
          go_ret
          exact ⟨rfl, H19.out.b⟩
end Go.Proofs.Ytdepmogibhmdaaa
