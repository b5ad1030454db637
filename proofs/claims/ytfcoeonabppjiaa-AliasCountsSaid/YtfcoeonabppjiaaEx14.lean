/- AliasExact: its walk. -/
import Derived.Test.YtfcoeonabppjiaaKw14
namespace Go.Proofs.Ytfcoeonabppjiaa
open Go.RowKit
set_option linter.unusedVariables false
theorem alOk_mk {t : List Int} (h : tabOk t = true) : alOk t.sum (mk t).cut (mk t).other = true := by
  have hi : AInv t.sum t.length (mk t) := (iter_all h t.length).1
  have hw : Wi t.sum t (mk t) := (iter_all h t.length).2
  obtain ⟨hl, hm, hs⟩ := (tabOk_iff t).1 h
  have hp := sum_pos hm hs
  have hb := (sum_bound hm).2
  have hlen : 1 ≤ t.length := by
    rcases Nat.eq_zero_or_pos t.length with e | e
    · have : t = [] := List.eq_nil_of_length_eq_zero e
      subst this; simp at hp
    · exact e
  refine (alOk_iff _ _ _).2 ⟨by omega, by omega, by rw [hi.lc]; exact hlen, by rw [hi.lc]; exact hl, by rw [hi.lo, hi.lc], fun x hx => ?_, fun y hy => ?_⟩
  · obtain ⟨i, hil, rfl⟩ := mem_gi hx
    exact hw.cuts i (by rw [hi.lc] at hil; exact hil)
  · obtain ⟨i, hil, rfl⟩ := mem_gi hy
    rw [hi.lc]
    exact hw.others i (by rw [hi.lo] at hil; exact hil)
theorem weight_mk {t : List Int} (h : tabOk t = true) {k : Nat} (hk : k < t.length) : weightV t.sum (mk t).cut (mk t).other (k : Int) = (gi t k * (t.length : Int), 0) := by
  rw [weight_in (alOk_mk h) (by rw [(mk_inv h).lc]; exact hk), mk_exact h hk, Int.mul_comm]
set_option maxRecDepth 100000 in
set_option maxHeartbeats 4000000 in
/-- artesianlaw14.AliasExact -/
theorem exact_walk {w : World} {A : Option Addr} {n c : Nat} {t : List Int} (h : Rd w A n (nums t) ∧ n ≤ c ∧ n ≤ 17592186043904 ∧ ∀ x ∈ t, -9223372036854775808 ≤ x ∧ x ≤ 9223372036854775807) :
    Calls Try.prog 7 #[.slice A n c] w fun e w' => e = .returned (.bool true) ∧ Below w.heap.size w w' := by
  obtain ⟨hr, hc, hn, hbz⟩ := h
  have hx : t.length = n := by have := hr.1; simpa [nums_length] using this
  have HR := Lib.hid (And.intro hr (And.intro hn hx))
  clear hr hc hn hx hbz
  go_enter Try.func7, Try.ntmps7
  go_wp2_with fail
  refine (known_walk w).mono ?_
  rintro e w1 ⟨rfl, hb1⟩
  have H1 := Lib.hid (And.intro hb1 (HR.out.1.below hb1))
  clear hb1
  by_cases hbig : n > 60
  · have d1 : decide ((n : Int) > 60) = true := by simp; omega
    have d2 : decide ((60 : Int) < (n : Int)) = true := by simp; omega
    have d3 : decide (60 < n) = true := by simp; omega
    clear hbig
    go_wp2
    go_ret
    exact ⟨rfl, H1.out.1⟩
  · have d1 : decide ((n : Int) > 60) = false := by simp; omega
    have d2 : decide ((60 : Int) < (n : Int)) = false := by simp; omega
    have d3 : decide (60 < n) = false := by simp; omega
    have HB := Lib.hid hbig
    clear hbig
    cases hok : tabOk t with
    | false =>
      have HO := Lib.hid hok
      clear hok
      go_wp2_with fail
      refine (make_no H1.out.2 (by have := HB.out; omega) HO.out).mono ?_
      rintro e w2 ⟨rfl, hb2⟩
      have h2 := below_base H1.out.1 hb2 H1.out.1.size
      have P4 := Bk.newA w2 26 #[.int .i64 0, .slice none 0 0, .slice none 0 0]
      have H3 := Lib.hid (h2.alloc h2.size (.cells #[.int .i64 0, .slice none 0 0, .slice none 0 0] 26))
      have c0 := P4.cell 0
      have c1 := P4.cell 1
      have c2 := P4.cell 2
      clear hb2 h2 P4
      go_wp2_with fail
      refine (sameAlias_any (Al.nil _) (Al.nil _)).mono ?_
      rintro e w3 ⟨rfl, hb3⟩
      have H4 := Lib.hid (below_base H3.out hb3 H3.out.size)
      rw [show ((0 : Int) == 0 && (([] : List Int) == [] && ([] : List Int) == [])) = true from rfl]
      clear hb3 c0 c1 c2
      go_wp2
      go_ret
      exact ⟨rfl, H4.out⟩
    | true =>
      have HO := Lib.hid hok
      clear hok
      go_wp2_with fail
      refine (make_ok H1.out.2 (by have := HB.out; omega) HO.out).mono ?_
      rintro e w2 ⟨C, O, rfl, hC, hO, _, _, _, hb2⟩
      have hal := al_of HO.out hC hO
      have HV := Lib.hid (alVar_new hal (below_base H1.out.1 hb2 H1.out.1.size))
      have hr3 := (H1.out.2.below hb2).below ((Below.refl w2.heap.size w2).alloc (Nat.le_refl _) (.cells #[.int .i64 t.sum, .slice (some ⟨C, 0, none⟩) t.length t.length, .slice (some ⟨O, 0, none⟩) t.length t.length] 26))
      have HR3 := Lib.hid hr3
      have P1 := HV.out.1
      have c0 := P1.cell 0
      have c1 := P1.cell 1
      have c2 := P1.cell 2
      clear hb2 hC hO hal hr3 P1
      go_wp2_with fail
      refine (check_any HV.out.2.1).mono ?_
      rintro e w3 ⟨rfl, hb3⟩
      have HV3 := Lib.hid (And.intro (HV.out.below hb3) (HR3.out.below hb3))
      rw [chk_true (alOk_mk HO.out)]
      have e1 := HV3.out.1.1.cell 1
      obtain ⟨L, hL⟩ : ∃ L, t.length = L := ⟨_, rfl⟩
      obtain rfl : L = n := by rw [← hL]; exact HR.out.2.2
      clear c0 c1 c2 hb3
      generalize hPP : w2.heap.size = P at HV3 e1 ⊢
      clear HV HR3 hPP
      rw [hL] at HV3 e1 ⊢
      have HL := Lib.hid hL
      clear hL
      have nn : ((L : Int) != (L : Int)) = false := by simp
      have nb : (L : Int) ≤ 60 := by have := HB.out; omega
      go_wp2
      go_loopw [6] (fun i wr => ∃ (k : Nat), k ≤ L ∧ i = .int .i64 k ∧ AlVar w P C O L t.sum (mk t).cut (mk t).other wr ∧ Rd wr A L (nums t)) (fun i wr => L - (intOf i).toNat)
      case atStart => exact ⟨0, by omega, rfl, HV3.out.1, HV3.out.2⟩
      case round =>
        clear HV3 e1
        obtain ⟨k, hk, rfl, hv, hrd⟩ := hrel
        have HK := Lib.hid (And.intro hv hrd)
        by_cases hlt : k < L
        · obtain ⟨a, off, rfl, hbl, hcc⟩ := hrd.form (by omega)
          have hkt : k < t.length := by rw [HL.out]; exact hlt
          have cx := hcc k _ (nums_gi hkt)
          have c0 := hv.1.cell 0
          have c1 := hv.1.cell 1
          have c2 := hv.1.cell 2
          have km : (k : Int) < (L : Int) := by omega
          have hm := ((tabOk_iff t).1 HO.out).2.1 _ (gi_mem hkt)
          have hv0 : 0 ≤ gi t k * (L : Int) := Int.mul_nonneg hm.1 (by omega)
          have hv1 : gi t k * (L : Int) ≤ 16777215 * 60 := Int.mul_le_mul hm.2 nb (by omega) (by omega)
          obtain ⟨v, hvv⟩ : ∃ v, gi t k * (L : Int) = v := ⟨_, rfl⟩
          rw [hvv] at hv0 hv1
          have hwr : IntKind.i64.wrap v = v := by rw [IntKind.wrap_i64]; omega
          have hwm := weight_mk HO.out hkt
          rw [HL.out, hvv] at hwm
          have HW := Lib.hid (And.intro hwm hlt)
          have HBL := Lib.hid hbl
          clear hcc hbl hkt hm hwm hv hrd hlt hk
          go_wp2_with fail
          go_cut [56] (fun s56 wx => s56 = .bool false ∧ AlVar w P C O L t.sum (mk t).cut (mk t).other wx ∧ Rd wx (some ⟨a, off, none⟩) L (nums t))
          case first =>
            have HC : Hid (wr.cell? ⟨P, 0, none⟩ = some (.int .i64 t.sum) ∧ wr.cell? ⟨P, 1, none⟩ = some (.slice (some ⟨C, 0, none⟩) L L) ∧ wr.cell? ⟨P, 2, none⟩ = some (.slice (some ⟨O, 0, none⟩) L L) ∧ wr.cell? ⟨a, off + k, none⟩ = some (.int .i64 (gi t k))) := Lib.hid ⟨c0, c1, c2, cx⟩
            go_region_held3 (fun w' => w'.cell? ⟨P, 0, none⟩ = some (.int .i64 t.sum) ∧ w'.cell? ⟨P, 1, none⟩ = some (.slice (some ⟨C, 0, none⟩) L L) ∧ w'.cell? ⟨P, 2, none⟩ = some (.slice (some ⟨O, 0, none⟩) L L) ∧ w'.cell? ⟨a, off + k, none⟩ = some (.int .i64 (gi t k)))
              (first | exact S2.out | exact HC.out)
              ((first | (go_at_call 24; refine (weighs_any (k : Int) v (HK.out.1.2.1.below (Below.refl _ _).drew)).mono ?_; rintro e w4 ⟨rfl, hb4⟩; have hb5 := below_undrew hb4; have S1 := Lib.hid (And.intro (HK.out.1.below hb5) (HK.out.2.below hb5)); rw [show ((weightV t.sum (mk t).cut (mk t).other (k : Int)).1 == v && (weightV t.sum (mk t).cut (mk t).other (k : Int)).2 == 0) = true from by rw [HW.out.1]; simp]; have S2 := Lib.hid (And.intro (S1.out.1.1.cell 0) (And.intro (S1.out.1.1.cell 1) (And.intro (S1.out.1.1.cell 2) ((hb5.cell (p := ⟨a, off + k, none⟩) HBL.out).trans HC.out.2.2.2)))); clear hb4 hb5)))
            all_goals go_wp2_with fail
            all_goals go_meet
            all_goals exact ⟨rfl, S1.out.1, S1.out.2⟩
          case rest =>
            obtain ⟨rfl, hv5, hr5⟩ := hcut
            have H5 := Lib.hid (And.intro hv5 hr5)
            clear hv5 hr5 cx c0 c1 c2
            go_wp2
            exact ⟨⟨k + 1, by have := HW.out.2; omega, by go_num, H5.out.1, H5.out.2⟩, by have := HW.out.2; simp [intOf]; omega⟩
        · obtain rfl : k = L := by omega
          clear hlt hk hv hrd
          go_wp2
          go_ret
          exact ⟨rfl, HK.out.1.2.2⟩
end Go.Proofs.Ytfcoeonabppjiaa
