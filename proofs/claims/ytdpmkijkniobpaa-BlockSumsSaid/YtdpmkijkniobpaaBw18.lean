/- BlockSums: its walk. -/
import Derived.Test.YtdpmkijkniobpaaBv18
namespace Go.Proofs.Ytdpmkijkniobpaa
open Go.RowKit
set_option linter.unusedVariables false
theorem bounds_u64 {a : Int} (h : (Lit.int .u64 a).wf = true) : ∃ b : Nat, a = b ∧ b < 18446744073709551616 := by
  simp [Lit.wf, IntKind.min, IntKind.max, IntKind.signed, IntKind.bits] at h
  exact ⟨a.toNat, by omega, by omega⟩
set_option maxRecDepth 100000 in
set_option maxHeartbeats 6400000 in
/-- artesianlaw18.BlockSums -/
theorem blockSums_walk {w : World} {A : Option Addr} {n c : Nat} {vs : List Value} {xss : List (List UInt8)} {a b : Int} (h : Rd w A n vs ∧ Rows_ w vs xss ∧ n ≤ c ∧ n ≤ 5864062014634 ∧ ∀ x ∈ xss, x.length ≤ 140737488351232) (hwa : (Lit.int .u64 a).wf = true) (hwb : (Lit.int .u64 b).wf = true) :
    Calls Try.prog 7 #[.slice A n c, .int .u64 a, .int .u64 b] w fun e w' => e = .returned (.bool true) ∧ Below w.heap.size w w' := by
  have hs : Syms w A n xss := ⟨vs, h.1, h.2.1⟩
  have hn := h.2.2.2.1
  have hx := h.2.2.2.2
  obtain ⟨α, rfl, hα⟩ := bounds_u64 hwa
  obtain ⟨β, rfl, hβ⟩ := bounds_u64 hwb
  have H := Lib.hid (And.intro hs (And.intro hs.len (And.intro hn (And.intro hx (And.intro hα hβ)))))
  clear h hs hn hx hwa hwb hα hβ
  go_enter Try.func7, Try.ntmps7
  go_wp2_with fail
  refine awake_any.mono ?_
  rintro e w1 ⟨rfl, hb1⟩
  have H1 := Lib.hid (And.intro (H.out.1.below hb1) hb1)
  clear hb1
  go_wp2_with fail
  refine (longSymbols_any (many := 30) (bytes := 30) H1.out.1 H.out.2.2.1 (by decide) (by decide) H.out.2.2.2.1).mono ?_
  rintro e w0 ⟨rfl, rfl⟩
  cases hq : longS 30 30 xss with
  | true =>
    clear hq
    go_wp2
    go_ret
    exact ⟨rfl, H1.out.2⟩
  | false =>
    have hno := longS_no hq
    rw [H.out.2.1] at hno
    have hn3 : n ≤ 30 := hno.1
    have HX := Lib.hid hno.2
    clear hq hno
    go_wp2_with fail
    refine (check_any H1.out.1 (by omega)).mono ?_
    rintro e w2 ⟨rfl, hb2⟩
    have H2 := Lib.hid (And.intro (H1.out.1.below hb2) (below_base H1.out.2 hb2 H1.out.2.size))
    clear hb2
    cases hk : bkB xss with
    | false =>
      rw [show bkE xss = 2 from by unfold bkE; rw [hk]; rfl]
      clear hk
      go_wp2
      go_ret
      exact ⟨rfl, H2.out.2⟩
    | true =>
      rw [show bkE xss = 0 from by unfold bkE; rw [hk]; rfl]
      have HB := Lib.hid hk
      have hn1 : 1 ≤ n := by have := (bkB_iff.1 hk).1.1; have := H.out.2.1; omega
      clear hk
      go_wp2_with fail
      go_loopw [9] (fun i wr => ∃ k : Nat, k ≤ n ∧ i = .int .i64 k ∧ Below w2.heap.size w2 wr) (fun i wr => n - (intOf i).toNat)
      case atStart => exact ⟨0, by omega, rfl, Below.refl _ _⟩
      case round =>
        obtain ⟨k, hk, rfl, hb⟩ := hrel
        by_cases hlt : k < n
        · have km : (k : Int) < (n : Int) := by omega
          obtain ⟨aa, off, B, cc, rfl, _, c3, hrd, _, hm9⟩ := (H2.out.1.below hb).at_ hlt
          have HS := Lib.hid (And.intro hb (And.intro hlt (And.intro hrd (H2.out.1.below hb))))
          clear hb hlt hrd
          go_wp2_with fail
          refine (sums_yes xss (xss.getD k []) [(k : Int)] (err := 0) (HS.out.2.2.2.below ((Below.refl _ _).alloc (Nat.le_refl _) _)) (by omega) (HS.out.2.2.1.alloc _) (Rd.lit _ _ _ _ rfl 1 rfl _ rfl) (by decide) (by
            have := sm_one HB.out (i := k) (by have := H.out.2.1; have := HS.out.2.1; omega)
            rw [this.1, this.2]; simp)).mono ?_
          rintro e w4 ⟨rfl, hb4⟩
          have H4 := Lib.hid (below_base ((HS.out.1).alloc HS.out.1.size _) hb4 (by have := HS.out.1.size; rw [World.size_alloc]; omega))
          clear hb4
          go_wp2
          exact ⟨⟨k + 1, by have := HS.out.2.1; omega, by go_num, H4.out⟩, by have := HS.out.2.1; simp [intOf]; omega⟩
        · obtain rfl : k = n := by omega
          have HW := Lib.hid (And.intro (H2.out.1.below hb) (below_base H2.out.2 hb H2.out.2.size))
          clear hlt hk hb
          go_wp2_with fail
          refine (chosen_any k hn3 α H.out.2.2.2.2.1).mono ?_
          rintro e w5 ⟨v5, rfl, ho5, hb5⟩
          obtain ⟨A5, c5, rfl, _⟩ := own_form ho5
          have H5 := Lib.hid (And.intro (Rd.of_own ho5) hb5)
          clear ho5 hb5
          go_wp2_with fail
          refine (chosen_any k hn3 β H.out.2.2.2.2.2).mono ?_
          rintro e w6 ⟨v6, rfl, ho6, hb6⟩
          obtain ⟨A6, c6, rfl, _⟩ := own_form ho6
          have H6 := Lib.hid (And.intro (Rd.of_own ho6) hb6)
          clear ho6 hb6
          go_wp2_with fail
-- A
          rw [u64_xor_nat _ _ H.out.2.2.2.2.1 H.out.2.2.2.2.2]
          refine (chosen_any k hn3 (α ^^^ β) (Nat.xor_lt_two_pow (n := 64) H.out.2.2.2.2.1 H.out.2.2.2.2.2)).mono ?_
          rintro e w7 ⟨v7, rfl, ho7, hb7⟩
          obtain ⟨A7, c7, rfl, _⟩ := own_form ho7
          have H7 := Lib.hid (And.intro (Rd.of_own ho7) (And.intro (H6.out.1.below hb7) (And.intro (H5.out.1.below (below_base H6.out.2 hb7 H6.out.2.size)) (below_base (below_base H5.out.2 H6.out.2 H5.out.2.size) hb7 (by have := H5.out.2.size; have := H6.out.2.size; omega)))))
          clear ho7 hb7
          have l1 := chs_len k α
          have l2 := chs_len k β
          have l3 := chs_len k (α ^^^ β)
          have HL := Lib.hid H.out.2.1
          have HE := Lib.hid (show ∀ b, smE xss (chs k b) = (if chs k b = [] then 3 else 0) from fun b => by have := sm_chs HB.out b; rwa [HL.out] at this)
          have HV := Lib.hid (show ∀ b, chs k b ≠ [] → (smV xss (chs k b)).length = (xss.getD 0 []).length from fun b hb => by have := sm_len HB.out b; rw [HL.out] at this; exact this hb)
          have HD := Lib.hid (show chs k α ≠ [] → chs k β ≠ [] → chs k (α ^^^ β) ≠ [] → smV xss (chs k (α ^^^ β)) = xorL (smV xss (chs k α)) (smV xss (chs k β)) from by have := sm_xor HB.out α β; rwa [HL.out] at this)
          have HN := Lib.hid (chs_none k α β)
          generalize hL1 : chs k α = L1 at *
          generalize hL2 : chs k β = L2 at *
          generalize hL3 : chs k (α ^^^ β) = L3 at *
          have e1 := HE.out α
          have e2 := HE.out β
          have e3 := HE.out (α ^^^ β)
          have f1 := HV.out α
          have f2 := HV.out β
          rw [hL1] at e1 f1
          rw [hL2] at e2 f2
          rw [hL3] at e3
          clear HE HV hL1 hL2 hL3
          have HF := Lib.hid (And.intro f1 f2)
          clear f1 f2
          have HE1 := Lib.hid (And.intro e1 (And.intro e2 e3))
          clear e1 e2 e3
          obtain ⟨p, hp⟩ : ∃ p, L1.length = p := ⟨_, rfl⟩
          obtain ⟨q, hq⟩ : ∃ q, L2.length = q := ⟨_, rfl⟩
          obtain ⟨r, hr⟩ : ∃ r, L3.length = r := ⟨_, rfl⟩
          rw [hp] at H7 l1 ⊢
          rw [hq] at H7 l2 ⊢
          rw [hr] at H7 l3
          rw [hr]
          go_wp2_with fail
          refine (sum_any (HW.out.1.below H7.out.2.2.2) (by omega) H7.out.2.2.1 (by omega)).mono ?_
          rintro e w8 ⟨v8, rfl, ho8, hb8⟩
          obtain ⟨A8, c8, rfl, _⟩ := own_form ho8
          have H8 := Lib.hid (And.intro (Rd.of_own ho8) (And.intro hb8 (below_base H7.out.2.2.2 hb8 H7.out.2.2.2.size)))
          clear ho8 hb8
          go_wp2_with fail
          refine (sum_any (HW.out.1.below H8.out.2.2) (by omega) (H7.out.2.1.below H8.out.2.1) (by omega)).mono ?_
          rintro e w9 ⟨v9, rfl, ho9, hb9⟩
          obtain ⟨A9, c9, rfl, _⟩ := own_form ho9
          have H9 := Lib.hid (And.intro (H8.out.1.below hb9) (And.intro (Rd.of_own ho9) (And.intro (H7.out.1.below (below_base H8.out.2.1 hb9 H8.out.2.1.size)) (And.intro (below_base H8.out.2.2 hb9 H8.out.2.2.size) (HW.out.1.below (below_base H8.out.2.2 hb9 H8.out.2.2.size))))))
          clear ho9 hb9
          rcases Nat.eq_zero_or_pos p with zp | zp
          · rcases Nat.eq_zero_or_pos q with zq | zq
            · rcases Nat.eq_zero_or_pos r with zr | zr
              · obtain ⟨e1, e2, e3⟩ := HE1.out
                clear HE1
                obtain rfl : L1 = [] := List.eq_nil_of_length_eq_zero (by omega)
                obtain rfl : p = 0 := by simpa using hp.symm
                rw [if_pos rfl] at e1
                obtain rfl : L2 = [] := List.eq_nil_of_length_eq_zero (by omega)
                obtain rfl : q = 0 := by simpa using hq.symm
                rw [if_pos rfl] at e2
                obtain rfl : L3 = [] := List.eq_nil_of_length_eq_zero (by omega)
                obtain rfl : r = 0 := by simpa using hr.symm
                rw [if_pos rfl] at e3
                simp only [e1, e2]
                have HQ := Lib.hid (HN.out rfl)
                clear e1 e2 e3 HN HD HF hp hq hr l1 l2 l3
                go_wp2_with fail
                refine (same_any H9.out.1 H9.out.2.1).mono ?_
                rintro e w10 ⟨rfl, rfl⟩
                rw [show (smV xss [] == smV xss []) = true from by simp]
                go_wp2
                go_ret
                exact ⟨rfl, below_base HW.out.2 H9.out.2.2.2.1 HW.out.2.size⟩
              · obtain ⟨e1, e2, e3⟩ := HE1.out
                clear HE1
                obtain rfl : L1 = [] := List.eq_nil_of_length_eq_zero (by omega)
                obtain rfl : p = 0 := by simpa using hp.symm
                rw [if_pos rfl] at e1
                obtain rfl : L2 = [] := List.eq_nil_of_length_eq_zero (by omega)
                obtain rfl : q = 0 := by simpa using hq.symm
                rw [if_pos rfl] at e2
                have n3 : L3 ≠ [] := fun h => by rw [h] at hr; simp at hr; omega
                rw [if_neg n3] at e3
                have g3 : decide ((r : Int) > 0) = true := by simp; omega
                have g3' : decide (0 < r) = true := by simp; omega
                have g3'' : ((r : Int) == 0) = false := by simp; omega
                simp only [e1, e2]
                clear e1 e2 e3 HN HD HF hp hq hr l1 l2 l3
                go_wp2
                go_ret
                exact ⟨rfl, below_base HW.out.2 H9.out.2.2.2.1 HW.out.2.size⟩
            · rcases Nat.eq_zero_or_pos r with zr | zr
              · obtain ⟨e1, e2, e3⟩ := HE1.out
                clear HE1
                obtain rfl : L1 = [] := List.eq_nil_of_length_eq_zero (by omega)
                obtain rfl : p = 0 := by simpa using hp.symm
                rw [if_pos rfl] at e1
                have n2 : L2 ≠ [] := fun h => by rw [h] at hq; simp at hq; omega
                rw [if_neg n2] at e2
                have g2 : decide ((q : Int) > 0) = true := by simp; omega
                have g2' : decide (0 < q) = true := by simp; omega
                have g2'' : ((q : Int) == 0) = false := by simp; omega
                obtain rfl : L3 = [] := List.eq_nil_of_length_eq_zero (by omega)
                obtain rfl : r = 0 := by simpa using hr.symm
                rw [if_pos rfl] at e3
                simp only [e1, e2]
                exact absurd (HN.out rfl).symm n2
              · obtain ⟨e1, e2, e3⟩ := HE1.out
                clear HE1
                obtain rfl : L1 = [] := List.eq_nil_of_length_eq_zero (by omega)
                obtain rfl : p = 0 := by simpa using hp.symm
                rw [if_pos rfl] at e1
                have n2 : L2 ≠ [] := fun h => by rw [h] at hq; simp at hq; omega
                rw [if_neg n2] at e2
                have g2 : decide ((q : Int) > 0) = true := by simp; omega
                have g2' : decide (0 < q) = true := by simp; omega
                have g2'' : ((q : Int) == 0) = false := by simp; omega
                have n3 : L3 ≠ [] := fun h => by rw [h] at hr; simp at hr; omega
                rw [if_neg n3] at e3
                have g3 : decide ((r : Int) > 0) = true := by simp; omega
                have g3' : decide (0 < r) = true := by simp; omega
                have g3'' : ((r : Int) == 0) = false := by simp; omega
                simp only [e1, e2]
                clear e1 e2 e3 HN HD HF hp hq hr l1 l2 l3
                go_wp2
                go_ret
                exact ⟨rfl, below_base HW.out.2 H9.out.2.2.2.1 HW.out.2.size⟩
          · rcases Nat.eq_zero_or_pos q with zq | zq
            · rcases Nat.eq_zero_or_pos r with zr | zr
              · obtain ⟨e1, e2, e3⟩ := HE1.out
                clear HE1
                have n1 : L1 ≠ [] := fun h => by rw [h] at hp; simp at hp; omega
                rw [if_neg n1] at e1
                have g1 : decide ((p : Int) > 0) = true := by simp; omega
                have g1' : decide (0 < p) = true := by simp; omega
                have g1'' : ((p : Int) == 0) = false := by simp; omega
                obtain rfl : L2 = [] := List.eq_nil_of_length_eq_zero (by omega)
                obtain rfl : q = 0 := by simpa using hq.symm
                rw [if_pos rfl] at e2
                obtain rfl : L3 = [] := List.eq_nil_of_length_eq_zero (by omega)
                obtain rfl : r = 0 := by simpa using hr.symm
                rw [if_pos rfl] at e3
                simp only [e1, e2]
                exact absurd (HN.out rfl) n1
              · obtain ⟨e1, e2, e3⟩ := HE1.out
                clear HE1
                have n1 : L1 ≠ [] := fun h => by rw [h] at hp; simp at hp; omega
                rw [if_neg n1] at e1
                have g1 : decide ((p : Int) > 0) = true := by simp; omega
                have g1' : decide (0 < p) = true := by simp; omega
                have g1'' : ((p : Int) == 0) = false := by simp; omega
                obtain rfl : L2 = [] := List.eq_nil_of_length_eq_zero (by omega)
                obtain rfl : q = 0 := by simpa using hq.symm
                rw [if_pos rfl] at e2
                have n3 : L3 ≠ [] := fun h => by rw [h] at hr; simp at hr; omega
                rw [if_neg n3] at e3
                have g3 : decide ((r : Int) > 0) = true := by simp; omega
                have g3' : decide (0 < r) = true := by simp; omega
                have g3'' : ((r : Int) == 0) = false := by simp; omega
                simp only [e1, e2]
                clear e1 e2 e3 HN HD HF hp hq hr l1 l2 l3
                go_wp2
                go_ret
                exact ⟨rfl, below_base HW.out.2 H9.out.2.2.2.1 HW.out.2.size⟩
            · rcases Nat.eq_zero_or_pos r with zr | zr
              · obtain ⟨e1, e2, e3⟩ := HE1.out
                clear HE1
                have n1 : L1 ≠ [] := fun h => by rw [h] at hp; simp at hp; omega
                rw [if_neg n1] at e1
                have g1 : decide ((p : Int) > 0) = true := by simp; omega
                have g1' : decide (0 < p) = true := by simp; omega
                have g1'' : ((p : Int) == 0) = false := by simp; omega
                have n2 : L2 ≠ [] := fun h => by rw [h] at hq; simp at hq; omega
                rw [if_neg n2] at e2
                have g2 : decide ((q : Int) > 0) = true := by simp; omega
                have g2' : decide (0 < q) = true := by simp; omega
                have g2'' : ((q : Int) == 0) = false := by simp; omega
                obtain rfl : L3 = [] := List.eq_nil_of_length_eq_zero (by omega)
                obtain rfl : r = 0 := by simpa using hr.symm
                rw [if_pos rfl] at e3
                simp only [e1, e2]
                have HQ := Lib.hid (HN.out rfl)
                clear e1 e2 e3 HN HD HF hp hq hr l1 l2 l3
                go_wp2_with fail
                refine (same_any H9.out.1 H9.out.2.1).mono ?_
                rintro e w10 ⟨rfl, rfl⟩
                rw [show (smV xss L1 == smV xss L2) = true from by rw [HQ.out]; simp]
                go_wp2
                go_ret
                exact ⟨rfl, below_base HW.out.2 H9.out.2.2.2.1 HW.out.2.size⟩
              · obtain ⟨e1, e2, e3⟩ := HE1.out
                clear HE1
                have n1 : L1 ≠ [] := fun h => by rw [h] at hp; simp at hp; omega
                rw [if_neg n1] at e1
                have g1 : decide ((p : Int) > 0) = true := by simp; omega
                have g1' : decide (0 < p) = true := by simp; omega
                have g1'' : ((p : Int) == 0) = false := by simp; omega
                have n2 : L2 ≠ [] := fun h => by rw [h] at hq; simp at hq; omega
                rw [if_neg n2] at e2
                have g2 : decide ((q : Int) > 0) = true := by simp; omega
                have g2' : decide (0 < q) = true := by simp; omega
                have g2'' : ((q : Int) == 0) = false := by simp; omega
                have n3 : L3 ≠ [] := fun h => by rw [h] at hr; simp at hr; omega
                rw [if_neg n3] at e3
                have g3 : decide ((r : Int) > 0) = true := by simp; omega
                have g3' : decide (0 < r) = true := by simp; omega
                have g3'' : ((r : Int) == 0) = false := by simp; omega
                simp only [e1, e2]
                have hX := HF.out.1 n1
                have hY := HF.out.2 n2
                have HZ := Lib.hid (And.intro (HD.out n1 n2 n3) e3)
                obtain ⟨d, hd⟩ : ∃ d, (xss.getD 0 []).length = d := ⟨_, rfl⟩
                rw [hd] at hX hY
                obtain ⟨X, hXe⟩ : ∃ X, smV xss L1 = X := ⟨_, rfl⟩
                obtain ⟨Y, hYe⟩ : ∃ Y, smV xss L2 = Y := ⟨_, rfl⟩
                rw [hXe] at hX HZ H9 ⊢
                rw [hYe] at hY HZ H9 ⊢
                rw [hX] at H9 ⊢
                rw [hY] at H9 ⊢
                have hd30 : d ≤ 30 := by rw [← hd]; exact HX.out _ (by rw [getD_at (by have := HL.out; omega)]; exact List.getElem_mem _)
                obtain ⟨aa, off, B, cc, hA, ha, c0, hrd, _, hm9⟩ := HW.out.1.at_ (i := 0) (by omega)
                rw [hd] at c0
                subst hA
                have c1 : w9.cell? ⟨aa, off, none⟩ = some (.slice B d cc) := (World.cell?_of_block (H9.out.2.2.2.1.block aa ha)).trans c0
                clear hrd hm9 ha c0
                have hk0 : 0 < k := by omega
                have HS := Lib.hid (And.intro hX hY)
                clear hX hY hXe hYe e1 e2 e3 HN HD HF hp hq l1 l2 n1 n2 n3
                go_wp2_with fail
                clear c1
                have hd' : (d : Int) ≤ 30 := by omega
                obtain ⟨i0, hi0, hz0, hz1, hz2⟩ := info_parts u8_info
                go_loopw [17, 18] (fun v i wq => ∃ j : Nat, j ≤ d ∧ i = .int .i64 j ∧ wq.ownsRow w9.heap.size 5 1 v j (bys (xorL (X.take j) (Y.take j))) ∧ Below w9.heap.size w9 wq) (fun v i wq => d - (intOf i).toNat)
                case atStart => exact ⟨0, by omega, rfl, World.ownsRow_nil _ _ _ _, Below.refl _ _⟩
                case round =>
                  obtain ⟨j, hj, rfl, hown, hb⟩ := hrel
                  by_cases hlt : j < d
                  · have hjX : j < X.length := by have := HS.out; omega
                    have hjY : j < Y.length := by have := HS.out; omega
                    obtain ⟨b1, o1, rfl, hb1, hc1⟩ := H9.out.1.form (by omega)
                    obtain ⟨b2, o2, rfl, hb2, hc2⟩ := H9.out.2.1.form (by omega)
                    have hc1 := hc1 j _ (bys_get X j hjX)
                    have hc2 := hc2 j _ (bys_get Y j hjY)
                    have cx := (hb.cell (p := ⟨b1, o1 + j, none⟩) hb1).trans hc1
                    have cy := (hb.cell (p := ⟨b2, o2 + j, none⟩) hb2).trans hc2
                    have HT := Lib.hid (xorL_take_succ hjX hjY)
                    have k0 : (0 : Int) ≤ (j : Int) := by omega
                    have kn : (j : Int) < (d : Int) := by omega
                    have lx := byte_lt X[j]
                    have ly := byte_lt Y[j]
                    have HG := Lib.hid (And.intro hown (And.intro hc1 hc2))
                    clear hc1 hc2 hown hk0
                    go_wp2_with fail
                    go_region_held3 (fun w' => w'.cell? ⟨b1, o1 + j, none⟩ = some (.int .u8 (X[j].toNat : Int)) ∧ w'.cell? ⟨b2, o2 + j, none⟩ = some (.int .u8 (Y[j].toNat : Int)))
                      (first | go_keep | exact ⟨(hbw1.cell (p := ⟨b1, o1 + j, none⟩) hb1).trans HG.out.2.1, (hbw1.cell (p := ⟨b2, o2 + j, none⟩) hb2).trans HG.out.2.2⟩)
                      ((refine step_append_rd (by rfl) (.tmp 135) (.tmp 145) _ (by rfl) w9.heap.size 5 i0 _ 1 1 Try.underlying22 hi0 hz0 hz1 hz2 rfl (by omega) _ j _ (by rfl) (HG.out.1.drew.alloc _) _ 1 1 _ (by rfl) (Rd.one _ _ _) (by simp [Value.oneCell']) (by simp only [maxLen]; omega) (by omega) (by simp; have := hb.size; omega) ?_; intro v1 w1 hown1 hg1 hat1; have hbw1 := (hb.drew.alloc hb.size _).grown hg1 (by simp; have := hb.size; omega) (fun q hq => (HG.out.1.lt q hq).1)))
                    go_wp2
                    rw [xor_u8] at hown1
                    refine ⟨⟨j + 1, by omega, by go_num, ?_, hbw1⟩, by simp [intOf]; omega⟩
                    rw [HT.out, bys_append]
                    exact hown1
                  · obtain rfl : j = d := by omega
                    obtain ⟨A10, c10, rfl, _⟩ := own_form hown
                    have hrd := Rd.of_own hown
                    rw [List.take_of_length_le (by have := HS.out; omega), List.take_of_length_le (by have := HS.out; omega), ← HZ.out.1] at hrd
                    have HG := Lib.hid (And.intro hrd hb)
                    clear hb hown hrd hlt hj hk0
                    go_wp2_with fail
                    refine (sums_yes xss (smV xss L3) L3 (err := 0) (H9.out.2.2.2.2.below HG.out.2) (by omega) HG.out.1 (H9.out.2.2.1.below HG.out.2) (by omega) (by rw [HZ.out.2]; simp)).mono ?_
                    rintro e w10 ⟨rfl, hb10⟩
                    have H10 := Lib.hid hb10
                    clear hb10
                    go_wp2
                    go_ret
                    exact ⟨rfl, below_base (below_base HW.out.2 H9.out.2.2.2.1 HW.out.2.size) (below_base HG.out.2 H10.out HG.out.2.size) (by have := HW.out.2.size; have := H9.out.2.2.2.1.size; omega)⟩
-- B
end Go.Proofs.Ytdpmkijkniobpaa
