/- AliasTables: its walk. -/
import Derived.Test.YtfcoeonabppjiaaAg14
import Derived.Test.YtfcoeonabppjiaaEx14
namespace Go.Proofs.Ytfcoeonabppjiaa
open Go.RowKit
set_option linter.unusedVariables false
def fineP (x : Int) : Bool := decide (0 ≤ x) && decide (x ≤ 16777215)
theorem all_take_succ {t : List Int} {k : Nat} (h : k < t.length) : (t.take (k + 1)).all fineP = ((t.take k).all fineP && fineP (gi t k)) := by
  rw [List.take_succ_eq_append_getElem h, List.all_append, gi_get h]; simp
theorem tab_split {t : List Int} (h : t.length ≤ 65536) : tabOk t = (t.all fineP && t.any (fun x => decide (0 < x))) := by
  have : decide (t.length ≤ 65536) = true := by simpa using h
  unfold tabOk; rw [this]; rfl
theorem Sg_mono {f : Nat → Int} {k n : Nat} (hk : k ≤ n) (h : ∀ i, i < n → 0 ≤ f i) : Sg k f ≤ Sg n f := by
  induction n with
  | zero => have : k = 0 := by omega
            subst this; exact Int.le_refl _
  | succ n ih =>
    rcases Nat.lt_or_ge n k with e | e
    · have : k = n + 1 := by omega
      subst this; exact Int.le_refl _
    · have h1 := ih e fun i hi => h i (by omega)
      have h2 := h n (by omega)
      show _ ≤ Sg n f + f n
      omega
theorem wt_nonneg {T : Int} {xs ys : List Int} (h : alOk T xs ys = true) {i : Nat} (hi : i < xs.length) : 0 ≤ wt T xs ys (i : Int) := by
  have hal := (alOk_iff T xs ys).1 h
  unfold wt
  have h1 := (hal.2.2.2.2.2.1 _ (gi_mem hi)).1
  have h2 : 0 ≤ Sg xs.length (fun c => if gi ys c = (i : Int) then T - gi xs c else 0) := Sg_ge fun c hc => by
    have := hal.2.2.2.2.2.1 _ (gi_mem hc)
    split <;> omega
  rw [Int.toNat_natCast]
  omega
set_option maxRecDepth 100000 in
set_option maxHeartbeats 8000000 in
/-- artesianlaw14.AliasTables -/
theorem tables_walk {w : World} {A B D : Option Addr} {n c l q m r : Nat} {t xs ys : List Int} {T : Int} (h : Rd w A n (nums t) ∧ n ≤ c ∧ n ≤ 17592186043904 ∧ ∀ x ∈ t, -9223372036854775808 ≤ x ∧ x ≤ 9223372036854775807)
    (g : Rd w B l (nums xs) ∧ Rd w D m (nums ys) ∧ l ≤ q ∧ m ≤ r ∧ l ≤ 17592186043904 ∧ m ≤ 17592186043904 ∧ (-9223372036854775808 ≤ T ∧ T ≤ 9223372036854775807) ∧ (∀ x ∈ xs, -9223372036854775808 ≤ x ∧ x ≤ 9223372036854775807) ∧ (∀ x ∈ ys, -9223372036854775808 ≤ x ∧ x ≤ 9223372036854775807)) :
    Calls Try.prog 4 #[.slice A n c, .agg #[.int .i64 T, .slice B l q, .slice D m r]] w fun e w' => e = .returned (.bool true) ∧ Below w.heap.size w w' := by
  obtain ⟨hr, hc, hn, hbz⟩ := h
  obtain ⟨g1, g2, g3, g4, g5, g6, g7, g8, g9⟩ := g
  have hx : t.length = n := by have := hr.1; simpa [nums_length] using this
  have hx1 : xs.length = l := by have := g1.1; simpa [nums_length] using this
  have hy1 : ys.length = m := by have := g2.1; simpa [nums_length] using this
  have hS := ckS_new (c := q) (d := r) (T := T) g1 g2
  have hr0 := hr.below ((Below.refl w.heap.size w).alloc (Nat.le_refl _) (.cells #[.int .i64 T, .slice B l q, .slice D m r] 26))
  have HR := Lib.hid (And.intro hn (And.intro hx (And.intro hx1 hy1)))
  have H0 := Lib.hid (And.intro hS hr0)
  clear hr hc hn hbz g1 g2 g3 g4 g5 g6 g7 g8 g9 hx hx1 hy1 hS hr0
  go_enter Try.func4, Try.ntmps4
  go_wp2_with fail
  refine awake_any.mono ?_
  rintro e w1 ⟨rfl, hb1⟩
  have hS := H0.out.1.below hb1
  have H1 := Lib.hid (And.intro hS (H0.out.2.below hb1))
  have c0 := hS.1
  have c1 := hS.2.1
  have c2 := hS.2.2.1
  clear hb1 hS H0
  by_cases q0 : n > 80
  · have d1 : decide ((n : Int) > 80) = true := by simp; omega
    have d2 : decide ((80 : Int) < (n : Int)) = true := by simp; omega
    have d3 : decide (80 < n) = true := by simp; omega
    clear q0
    go_wp2
    go_ret
    exact ⟨rfl, H1.out.1.2.2.2.2.2.2⟩
  · have d1 : decide ((n : Int) > 80) = false := by simp; omega
    have d2 : decide ((80 : Int) < (n : Int)) = false := by simp; omega
    have d3 : decide (80 < n) = false := by simp; omega
    by_cases q1 : l > 80
    · have d4 : decide ((l : Int) > 80) = true := by simp; omega
      have d5 : decide ((80 : Int) < (l : Int)) = true := by simp; omega
      have d6 : decide (80 < l) = true := by simp; omega
      clear q0 q1
      go_wp2
      go_ret
      exact ⟨rfl, H1.out.1.2.2.2.2.2.2⟩
    · have d4 : decide ((l : Int) > 80) = false := by simp; omega
      have d5 : decide ((80 : Int) < (l : Int)) = false := by simp; omega
      have d6 : decide (80 < l) = false := by simp; omega
      by_cases q2 : m > 80
      · have d7 : decide ((m : Int) > 80) = true := by simp; omega
        have d8 : decide ((80 : Int) < (m : Int)) = true := by simp; omega
        have d9 : decide (80 < m) = true := by simp; omega
        clear q0 q1 q2
        go_wp2
        go_ret
        exact ⟨rfl, H1.out.1.2.2.2.2.2.2⟩
      · have d7 : decide ((m : Int) > 80) = false := by simp; omega
        have d8 : decide ((80 : Int) < (m : Int)) = false := by simp; omega
        have d9 : decide (80 < m) = false := by simp; omega
        have HQ := Lib.hid (And.intro q0 (And.intro q1 q2))
        have nb : (n : Int) ≤ 80 := by omega
        have lb : (l : Int) ≤ 80 := by omega
        clear q0 q1 q2
        go_wp2
        go_loopw [6, 7, 8] (fun f s i wr => ∃ (k : Nat) (f' s' : Bool), k ≤ n ∧ i = .int .i64 k ∧ f = .bool f' ∧ s = .bool s' ∧ f' = (t.take k).all fineP ∧ s' = (t.take k).any (fun x => decide (0 < x)) ∧ wr = w1) (fun f s i wr => n - (intOf i).toNat)
        case atStart => exact ⟨0, true, false, by omega, rfl, rfl, rfl, by simp, by simp, rfl⟩
        case round =>
          obtain ⟨k, f', s', hk, rfl, rfl, rfl, hf', hs', rfl⟩ := hrel
          have HF := Lib.hid (And.intro hf' hs')
          clear hf' hs'
          by_cases hlt : k < n
          · obtain ⟨a, off, rfl, hbl, hcc⟩ := H1.out.2.form (by omega)
            have hkt : k < t.length := by have := HR.out.2.1; omega
            have cx := hcc k _ (nums_gi hkt)
            have km : (k : Int) < (n : Int) := by omega
            have HL := Lib.hid (And.intro hlt (And.intro (all_take_succ hkt) (any_take_succ hkt)))
            obtain ⟨z1, hz1⟩ : ∃ z, z = decide (gi t k ≥ 0) := ⟨_, rfl⟩
            obtain ⟨z2, hz2⟩ : ∃ z, z = decide (gi t k ≤ 16777215) := ⟨_, rfl⟩
            obtain ⟨z3, hz3⟩ : ∃ z, z = decide (gi t k > 0) := ⟨_, rfl⟩
            have e1 := hz1.symm
            have e2 := hz2.symm
            have e3 := hz3.symm
            have e4 : decide (0 ≤ gi t k) = z1 := e1
            have e5 : decide (0 < gi t k) = z3 := e3
            have HZ := Lib.hid (And.intro e4 (And.intro e2 e5))
            clear hz1 hz2 hz3 hcc hbl hkt hlt hk
            have fin : (t.take (k + 1)).all fineP = (f' && (z1 && z2)) ∧ (t.take (k + 1)).any (fun x => decide (0 < x)) = (s' || z3) := by
              rw [HL.out.2.1, HL.out.2.2, ← HF.out.1, ← HF.out.2]
              unfold fineP
              rw [HZ.out.1, HZ.out.2.1, HZ.out.2.2]
              exact ⟨rfl, rfl⟩
            have HFI := Lib.hid fin
            clear fin
            cases f' <;> cases s' <;> cases z1 <;> cases z2 <;> cases z3
            all_goals go_wp2
            all_goals exact ⟨⟨k + 1, _, _, by have := HL.out.1; omega, by go_num, rfl, rfl, by rw [HFI.out.1]; rfl, by rw [HFI.out.2]; rfl, trivial⟩, by have := HL.out.1; simp [intOf]; omega⟩
          · obtain rfl : k = n := by omega
            have hf' := HF.out.1
            have hs' := HF.out.2
            rw [List.take_of_length_le (by have := HR.out.2.1; omega)] at hf' hs'
            have htab : tabOk t = (f' && s') := by rw [tab_split (by have := HR.out.2.1; omega), ← hf', ← hs']
            have HT := Lib.hid htab
            clear hf' hs' htab hlt hk c0 c1 c2
            go_upto_region 10 with fail
            go_cut [10] (fun s10 wx => s10 = .int .i64 (bif tabOk t then 0 else 13) ∧ CkS w w.heap.size T B D l q m r xs ys wx)
            case first =>
              cases hok : tabOk t with
              | false =>
                have HO := Lib.hid hok
                clear hok
                go_wp2_with fail
                refine (make_no H1.out.2 (by have := HR.out.1; omega) HO.out).mono ?_
                rintro e w2 ⟨rfl, hb2⟩
                have H2 := Lib.hid ((H1.out.1.below hb2).alloc (.cells #[.int .i64 0, .slice none 0 0, .slice none 0 0] 26))
                clear hb2
                go_wp2_with fail
                go_meet
                exact ⟨by rw [HO.out]; rfl, H2.out⟩
              | true =>
                have HO := Lib.hid hok
                clear hok
                go_wp2_with fail
                refine (make_ok H1.out.2 (by have := HQ.out.1; omega) HO.out).mono ?_
                rintro e w2 ⟨C, O, rfl, _, _, _, _, _, hb2⟩
                have H2 := Lib.hid ((H1.out.1.below hb2).alloc (.cells #[.int .i64 t.sum, .slice (some ⟨C, 0, none⟩) t.length t.length, .slice (some ⟨O, 0, none⟩) t.length t.length] 26))
                clear hb2
                go_wp2_with fail
                go_meet
                exact ⟨by rw [HO.out]; rfl, H2.out⟩
            case rest =>
              obtain ⟨rfl, hS⟩ := hcut
              have H2 := Lib.hid hS
              clear hS
              rw [HT.out]
              go_upto_region 11 with fail
              go_cut [72] (fun s72 wx => s72 = .bool false ∧ CkS w w.heap.size T B D l q m r xs ys wx)
              case first =>
                cases f' <;> cases s' <;> (go_wp2_with fail; go_meet; exact ⟨rfl, H2.out⟩)
              case rest =>
                clear H2
                obtain ⟨rfl, hS⟩ := hcut
                have H2 := Lib.hid hS
                have c0 := hS.1
                have c1 := hS.2.1
                have c2 := hS.2.2.1
                clear hS HT
                go_wp2_with fail
                refine (check_any ⟨B, l, q, D, m, r, rfl, H2.out.2.2.2.2.1, H2.out.2.2.2.2.2.1, by have := HQ.out.2.1; omega, by have := HQ.out.2.2; omega⟩).mono ?_
                rintro e w3 ⟨rfl, hb3⟩
                have H3 := Lib.hid (H2.out.below hb3)
                clear hb3 c0 c1 c2 H2
                cases hok : alOk T xs ys with
                | false =>
                  rw [chk_false hok]
                  clear hok
                  go_wp2
                  go_ret
                  exact ⟨rfl, H3.out.2.2.2.2.2.2⟩
                | true =>
                  rw [chk_true hok]
                  have HO := Lib.hid hok
                  have hal := (alOk_iff T xs ys).1 hok
                  have HA := Lib.hid hal
                  have hT0 : 0 ≤ T := by omega
                  have hTm : T ≤ 1099511627776 := hal.2.1
                  have hall : Sg xs.length (fun i => wt T xs ys (i : Int)) = (xs.length : Int) * T := wt_all hal.2.2.2.2.1 hal.2.2.2.2.2.2
                  have hlT0 : 0 ≤ (l : Int) * T := Int.mul_nonneg (by omega) hT0
                  have hlT1 : (l : Int) * T ≤ 80 * 1099511627776 := Int.mul_le_mul lb hTm hT0 (by omega)
                  rw [HR.out.2.2.1] at hall
                  obtain ⟨pr, hpr⟩ : ∃ v, (l : Int) * T = v := ⟨_, rfl⟩
                  rw [hpr] at hall hlT0 hlT1
                  have hwp : IntKind.i64.wrap pr = pr := by rw [IntKind.wrap_i64]; omega
                  have HALL := Lib.hid hall
                  clear hok hal hall
                  go_wp2
                  go_loopw [11, 12] (fun a i wr => ∃ (k : Nat) (z : Int), k ≤ l ∧ i = .int .i64 k ∧ a = .int .i64 z ∧ z = Sg k (fun i => wt T xs ys (i : Int)) ∧ CkS w w.heap.size T B D l q m r xs ys wr) (fun a i wr => l - (intOf i).toNat)
                  case atStart => exact ⟨0, 0, by omega, rfl, rfl, rfl, H3.out⟩
                  case round =>
                    clear H3
                    obtain ⟨k2, z, hk2, rfl, rfl, hz, hS⟩ := hrel
                    have HK := Lib.hid (And.intro hz hS)
                    have c0 := hS.1
                    have c1 := hS.2.1
                    have c2 := hS.2.2.1
                    clear hz hS
                    have hzl : 0 ≤ z ∧ z ≤ pr := by
                      rw [HK.out.1, ← HALL.out]
                      exact ⟨Sg_ge fun j hj => wt_nonneg HO.out (by have := HR.out.2.2.1; omega), Sg_mono hk2 fun j hj => wt_nonneg HO.out (by have := HR.out.2.2.1; omega)⟩
                    have hz0 : 0 ≤ z := hzl.1
                    have hz1 : z ≤ pr := hzl.2
                    clear hzl
                    by_cases hlt2 : k2 < l
                    · have hkx : k2 < xs.length := by have := HR.out.2.2.1; omega
                      have hkm : (k2 : Int) < (l : Int) := by omega
                      obtain ⟨v, hv⟩ : ∃ v, v = wt T xs ys (k2 : Int) := ⟨_, rfl⟩
                      have hv0 : 0 ≤ v := by rw [hv]; exact wt_nonneg HO.out hkx
                      have hsum : z + v = Sg (k2 + 1) (fun i => wt T xs ys (i : Int)) := by rw [HK.out.1, hv]; rfl
                      have hzv : z + v ≤ pr := by rw [hsum, ← HALL.out]; exact Sg_mono (by omega) fun j hj => wt_nonneg HO.out (by have := HR.out.2.2.1; omega)
                      have hww : IntKind.i64.wrap (z + v) = z + v := by rw [IntKind.wrap_i64]; omega
                      have hwi := weight_in HO.out hkx
                      rw [← hv] at hwi
                      have dneg : decide (v < 0) = false := by simp; omega
                      have HW := Lib.hid (And.intro hwi (And.intro hsum hlt2))
                      clear hv hsum hwi hkx hlt2 hk2
                      go_wp2_with fail
                      refine (weight_any (k2 : Int) ⟨B, l, q, D, m, r, rfl, HK.out.2.2.2.2.2.1, HK.out.2.2.2.2.2.2.1, by have := HQ.out.2.1; omega, by have := HQ.out.2.2; omega⟩).mono ?_
                      rintro e w5 ⟨rfl, hb5⟩
                      rw [HW.out.1]
                      have H5 := Lib.hid (HK.out.2.below hb5)
                      clear hb5 c0 c1 c2
                      go_wp2
                      exact ⟨⟨k2 + 1, z + v, by have := HW.out.2.2; omega, by go_num, by go_num, HW.out.2.1, H5.out⟩, by have := HW.out.2.2; simp [intOf]; omega⟩
                    · obtain rfl : k2 = l := by omega
                      have hzp : z = pr := by rw [HK.out.1, HALL.out]
                      subst hzp
                      clear hlt2 hk2
                      go_wp2
                      go_ret
                      exact ⟨rfl, HK.out.2.2.2.2.2.2.2⟩
end Go.Proofs.Ytfcoeonabppjiaa
