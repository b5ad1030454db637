/- TopLeft: its walk (printed by gen_Vj27.py). -/
import Derived.Test.YtlhipaffhehcnaaGreatT43
import Derived.Test.YtlhipaffhehcnaaGreatT49
import Derived.Test.YtlhipaffhehcnaaGreatT42
import Derived.Deep.CutBlock
import Derived.Deep.CutRange
import Derived.StillTailTactics
namespace Go.Proofs.YtlhipaffhehcnaaGreat
open Go.RowKit Go.Shelf
set_option linter.unusedVariables false
set_option linter.unusedSimpArgs false
theorem tl_11 : qlow ((1 : Nat) : Int) 1 = ⟨1, 1⟩ := by decide +kernel
theorem tl_01 : qlow ((0 : Nat) : Int) 1 = ⟨0, 1⟩ := by decide +kernel
theorem tl_add0 : addO [] = some ⟨0, 1⟩ := by decide +kernel
/-- One weight more. -/
theorem tab_push {w W : World} {v8 : Value} {j p : Nat} {ys : List Value} (h : OutX W 3 1 w.heap.size v8 j ys) (hb : Below w.heap.size w W) (hj : j ≤ 3) :
    ∃ v' W', (Builtin.append_ #[22, 22] 22 #[v8, .slice (some ⟨W.heap.size, 0, none⟩) 1 1]).run Tryz.prog (W.alloc (.cells #[.int .i64 (p : Nat)] 3)) = .ok v' W' ∧ OutX W' 3 1 w.heap.size v' (j + 1) (ys ++ [.int .i64 (p : Nat)]) ∧ Below w.heap.size w W' := by
  obtain ⟨i1, hi1, hy0, hy1, hy2⟩ := info_parts27 int27_info
  have hba : Below W.heap.size W (W.alloc (.cells #[.int .i64 (p : Nat)] 3)) := bl_allocd (Below.refl _ _) _
  have kb := Bk.newA W 3 #[.int .i64 (p : Nat)]
  have hb2 := bl_next hb hba
  have news : ∀ (i : Nat) u, ([.int .i64 (p : Nat)] : List Value)[i]? = some u → (W.alloc (.cells #[.int .i64 (p : Nat)] 3)).cell? ((⟨W.heap.size, 0, none⟩ : Addr).add i) = some u := by
    intro i u hu
    rw [Addr.add_lit, Nat.zero_add, kb.cell]
    exact hu
  obtain ⟨v', W', hr, o1, c1, at1⟩ := run_append_x (c1 := 1) (m := 1) Tryz.underlying22 hi1 hy0 hy1 hy2 rfl (noU_zero1 rfl (fun x => by simp)) (by omega) (h.below hba) rfl news (wts_one [p]) (wts_noU [p]) (Nat.le_refl _) (by omega) (show w.heap.size ≤ (W.alloc (.cells #[.int .i64 (p : Nat)] 3)).heap.size from hb2.size)
  exact ⟨v', W', hr, o1, c1.below hb2 (fun k _ e => ((h.below hba).blk e).1) hb2.size⟩
set_option maxRecDepth 100000 in
set_option maxHeartbeats 32000000 in
/-- artesiantop.TopLeft -/
theorem top_walk {w : World} {A : Option Addr} {l c : Nat} {x : List Int} {a1 a2 : Int} (h : Rd w A l (nums x) ∧ l ≤ c ∧ l ≤ 17592186043904 ∧ ∀ z ∈ x, -9223372036854775808 ≤ z ∧ z ≤ 9223372036854775807) (h1 : (Lit.int .i64 a1).wf = true) (h2 : (Lit.int .i64 a2).wf = true) :
    Calls Tryz.prog 3 #[.slice A l c, .int .i64 a1, .int .i64 a2] w fun e w' => e = .returned (.bool true) ∧ Below w.heap.size w w' := by
  obtain ⟨hr, hc, hl, hz⟩ := h
  have hx : x.length = l := by have := hr.1; simpa [nums_length] using this
  obtain ⟨p, hp⟩ : ∃ p : Nat, a1 % 3 = (p : Int) := ⟨(a1 % 3).toNat, by omega⟩
  obtain ⟨n, hn⟩ : ∃ n : Nat, a2 % 4 = (n : Int) := ⟨(a2 % 4).toNat, by omega⟩
  obtain ⟨k, hk⟩ : ∃ k : Nat, 1 + p = k := ⟨_, rfl⟩
  obtain ⟨K, hK⟩ : ∃ K : Nat, k + 1 = K := ⟨_, rfl⟩
  have hp2 : (p : Int) ≤ 2 := by omega
  have hk1 : 1 ≤ k := by omega
  have hk3 : k ≤ 3 := by omega
  have hn3 : n ≤ 3 := by omega
  have hwp : IntKind.i64.wrap (1 + (p : Int)) = (k : Int) := by rw [IntKind.wrap_i64]; omega
  have hmp : 1 + (p : Int) = (k : Int) := by omega
  have HP1 := Lib.hid (fun w => pick_any (w := w) a1 3 h1 (by decide) (by decide))
  have HP2 := Lib.hid (fun w => pick_any (w := w) a2 4 h2 (by decide) (by decide))
  rw [hp] at HP1
  rw [hn] at HP2
  have HX := Lib.hid (And.intro hr (And.intro hx (And.intro hz hl)))
  have HN := Lib.hid (And.intro hk1 (And.intro hk3 (And.intro hn3 hK)))
  have hkI : (k : Int) ≤ 3 := by omega
  have hnI : (n : Int) ≤ 3 := by omega
  clear hr hc hl hz hx hp hn h1 h2 hk hk1 hk3 hn3 hK
  go_enter Tryz.func3, Tryz.ntmps3
  go_wp2_with fail
  refine alive27_any.mono ?_
  rintro e w1 ⟨rfl, hb1⟩
  have H1 := Lib.hid hb1
  clear hb1
  go_wp2_with fail
  refine (HP1.out _).mono ?_
  rintro e w2 ⟨rfl, rfl⟩
  go_wp2_with fail
  refine (HP2.out _).mono ?_
  rintro e w2 ⟨rfl, rfl⟩
  clear HP1 HP2
  go_upto_block 0 with fail
  clear hwp hmp hp2
  go_cut [8, 9] (fun v8 v9 wx => ∃ n0 : Nat, n0 ≤ 3 ∧ n0 ≤ l ∧ OutX wx 3 1 w.heap.size v8 n0 (wts (tabN x n0)) ∧ Below w.heap.size w wx)
  case first =>
    go_wp2_with fail
    go_loopw [8, 9] (fun v8 s wr => ∃ j : Nat, j ≤ k ∧ j ≤ l ∧ s = .int .i64 (j : Nat) ∧ OutX wr 3 1 w.heap.size v8 j (wts (tabN x j)) ∧ Below w.heap.size w wr) (fun v8 s wr => k - (intOf s).toNat)
    case atStart => exact ⟨0, Nat.zero_le _, Nat.zero_le _, rfl, out_nil _ _ _ _, H1.out⟩
    case round =>
      obtain ⟨j, hjk, hjl, rfl, hO, hb⟩ := hrel
      by_cases hj1 : j < k
      · have d1 : decide ((j : Int) < (k : Int)) = true := decide_eq_true (by omega)
        have d1' : decide (j < k) = true := decide_eq_true hj1
        by_cases hj2 : j < l
        · have d2 : decide ((j : Int) < (l : Int)) = true := decide_eq_true (by omega)
          have d2' : decide (j < l) = true := decide_eq_true hj2
          have d3 : (j : Int) < (l : Int) := by omega
          obtain ⟨hr, hx, hz, hl⟩ := HX.out
          have hjx : j < x.length := by omega
          obtain ⟨bA, oA, rfl, hbA, hcA⟩ := hr.form (by omega)
          have cx : wr.cell? ⟨bA, oA + j, none⟩ = some (.int .i64 (x[j])) := (hb.cell (p := ⟨bA, oA + j, none⟩) hbA).trans (hcA j _ (by unfold nums; rw [List.getElem?_map, List.getElem?_eq_getElem hjx]; rfl))
          have HW := Lib.hid (WalkArith.wf_i64 (hz _ (List.getElem_mem hjx)))
          obtain ⟨p, hp⟩ : ∃ p : Nat, x[j] % 4 = (p : Int) := ⟨(x[j] % 4).toNat, by omega⟩
          have HS := Lib.hid (tabN_succ hjx hp)
          have HPk := Lib.hid (fun w => pick_any (w := w) (x[j]) 4 HW.out (by decide) (by decide))
          rw [hp] at HPk
          have HO := Lib.hid (And.intro hO (And.intro hb (show j ≤ 3 by have := HN.out.2.1; omega)))
          have HJ := Lib.hid (And.intro hj1 hj2)
          have hjI : (j : Int) ≤ 3 := by have := HN.out.2.1; omega
          clear hr hx hz hl hcA HW hp hO hb hjk hjl hj1
          generalize x[j] = y at cx HPk
          clear hjx
          go_wp2_with fail
          refine (HPk.out _).mono ?_
          rintro e w2 ⟨rfl, rfl⟩
          obtain ⟨v', W', hrun, o1, hb1⟩ := tab_push (p := p) HO.out.1 HO.out.2.1 HO.out.2.2
          rw [← HS.out] at o1
          have H2 := Lib.hid (And.intro o1 hb1)
          clear o1 hb1
          go_wp2_with (at_builtin; refine Lib.wpList_append_run _ rfl _ _ _ _ rfl _ _ rfl rfl _ _ hrun ?_)
          go_roundw
          case rel =>
            have := HJ.out
            exact ⟨j + 1, by omega, by omega, by go_num, H2.out⟩
          case measure =>
            have := HJ.out
            simp [intOf]
            omega
        · have d2 : decide ((j : Int) < (l : Int)) = false := decide_eq_false (by omega)
          have d2' : decide (j < l) = false := decide_eq_false hj2
          have HO := Lib.hid (And.intro (show j ≤ 3 by have := HN.out.2.1; omega) (And.intro hjl (And.intro hO hb)))
          clear hO hb hj1 hj2 hjk hjl
          go_wp2_with fail
          go_meet
          exact ⟨j, HO.out⟩
      · have d1 : decide ((j : Int) < (k : Int)) = false := decide_eq_false (by omega)
        have d1' : decide (j < k) = false := decide_eq_false hj1
        have HO := Lib.hid (And.intro (show j ≤ 3 by have := HN.out.2.1; omega) (And.intro hjl (And.intro hO hb)))
        clear hO hb hj1 hjk hjl
        go_wp2_with fail
        go_meet
        exact ⟨j, HO.out⟩
  case rest =>
    obtain ⟨n0, hn0, hn0l, hO, hb⟩ := hcut
    obtain ⟨A1, c1, rfl, hcc, hRd, hz5⟩ := hO.form
    rw [Nat.mul_one] at hRd
    obtain ⟨t, ht0⟩ : ∃ t, tabN x n0 = t := ⟨_, rfl⟩
    have htl : t.length = n0 := by rw [← ht0]; exact tabN_len (by have := HX.out.2.1; omega)
    have ht3 : ∀ z ∈ t, z ≤ 3 := by rw [← ht0]; exact tabN_le
    rw [ht0] at hRd
    have hT : Tb wc A1 n0 t := ⟨hRd, htl, hn0, ht3⟩
    have HC := Lib.hid (solCheck_any (c := c1) (k := k) hT (by omega))
    have hn0I : (n0 : Int) ≤ 3 := by omega
    by_cases ht : tOk t k = true
    · rw [chkN_yes ht] at HC
      obtain ⟨st, out, wantF, e1, e2, e3, e4, e5⟩ := topB_says (topB_all ht HN.out.2.1 ht3 HN.out.2.2.1)
      have HT := Lib.hid (And.intro hT (And.intro ht (And.intro htl (And.intro ht3 hb))))
      have HB := Lib.hid (And.intro e1 (And.intro e2 (And.intro e3 (And.intro e4 e5))))
      have HTC := Lib.hid (top_tpc ht HN.out.2.1 HN.out.2.2.1 ht3 htl)
      clear hz5 hn0 hn0l hO hb hcc hRd ht0 htl ht3 hT ht e1 e2 e3 e4 e5
      go_wp2_with fail
      refine HC.out.mono ?_
      rintro e w1 ⟨rfl, rfl⟩
      go_wp2_with fail
      refine (sets_any (nc := c1) HT.out.1 (by omega) HT.out.2.1 (by have := (sets_says HT.out.2.1 HN.out.2.1 HT.out.2.2.2.1).1; omega)).mono ?_
      rintro e w2 ⟨A2, c2, hs, he, hc2, hR2, hLL, hb2⟩
      obtain ⟨ns, hns⟩ : ∃ ns, hs.length = ns := ⟨_, rfl⟩
      rw [hns] at he hc2 hR2
      subst he
      have H2 := Lib.hid (And.intro (HT.out.1.below hb2) (And.intro hR2 (And.intro hLL (bl_next HT.out.2.2.2.2 hb2))))
      clear hc2 hR2 hLL hb2 hns HC
      have hKw : IntKind.i64.wrap ((k : Int) + 1) = (K : Int) := by rw [IntKind.wrap_i64]; have := HN.out.2.2.2; omega
      have hKm : (k : Int) + 1 = (K : Int) := by have := HN.out.2.2.2; omega
      have hKI : (K : Int) ≤ 4 := by omega
      go_wp2_with fail
      have HS := Lib.hid (stuck_any (nc := c1) H2.out.1 (by omega) HN.out.1 HT.out.2.1 (by omega) HB.out.1)
      rw [HN.out.2.2.2] at HS
      refine HS.out.mono ?_
      rintro e w3 ⟨GS, rfl, hg3, hG3, hb3⟩
      have H3 := Lib.hid (And.intro (H2.out.1.below hb3) (And.intro (H2.out.2.1.below hb3) (And.intro (H2.out.2.2.1.below hb3) (And.intro (bl_next H2.out.2.2.2 hb3) (And.intro hg3 (Nat.le_trans H2.out.2.2.2.size hG3))))))
      clear hg3 hG3 hb3 HS
      go_wp2_with fail
      refine (part27_any (n := 1) (d := 1) (by decide) (by decide) (by decide)).mono ?_
      rintro e w4 ⟨v4, rfl, hv4, hb4⟩
      rw [tl_11] at hv4
      have H4 := Lib.hid (And.intro (H3.out.1.below hb4) (And.intro (H3.out.2.1.below hb4) (And.intro (H3.out.2.2.1.below hb4) (And.intro (bl_next H3.out.2.2.2.1 hb4) (And.intro (H3.out.2.2.2.2.1.below hb4) (And.intro H3.out.2.2.2.2.2 (And.intro (Nat.lt_of_lt_of_le H3.out.2.2.2.2.1.lt hb4.size) hv4)))))))
      clear hv4 hb4
      go_wp2_with fail
      have HTu := Lib.hid (tuples27_any HTC.out (by omega) n w4 A1 A2 none c1 ns c2 0 0 hs [] [] v4 ⟨1, 1⟩ out H4.out.1 H4.out.2.1 H4.out.2.2.1 (Rd.nil _ _) trivial (fun b hb => by cases hb) (Nat.zero_add _) H4.out.2.2.2.2.2.2.2 HB.out.2.1)
      refine HTu.out.mono ?_
      rintro e w5 ⟨vM, vL, rs, rfl, oM, oA, oL, hb5⟩
      obtain ⟨M, hM⟩ : ∃ M, out.length = M := ⟨_, rfl⟩
      obtain ⟨B, hB⟩ : ∃ B, w4.heap.size = B := ⟨_, rfl⟩
      rw [hB] at oM oL
      have hMI : (M : Int) ≤ 1000 := by have := tupO_le HB.out.2.1; omega
      have oM' := oM
      have oL' := oL
      rw [hM] at oM' oL'
      obtain ⟨AM, cM, rfl, hcM, hz6, hz7⟩ := oM'.form
      obtain ⟨AL, cL, rfl, hcL, hz8, hz9⟩ := oL'.form
      have H5 := Lib.hid (And.intro (bl_next H4.out.2.2.2.1 hb5) (And.intro (H4.out.2.2.2.2.1.below hb5) (And.intro oM (And.intro oA (And.intro oL (And.intro H4.out.2.2.2.2.2.1 (And.intro (by rw [← hB]; exact H4.out.2.2.2.2.2.2.1 : GS < B) (And.intro (by rw [← hB]; exact hb5.size : B ≤ w5.heap.size) (fun g (e : (Value.slice AM M cM).ownBlock = some g) => (oM.blk e).2)))))))))
      have HM := Lib.hid hM
      clear oM oA oL oM' oL' hb5 hB hM HTu hcM hcL hz6 hz7 hz8 hz9
      obtain ⟨i0, hi0, hz0, hz1, hz2⟩ := info_parts27 rat_info
      have hKb : (K == K) = true := by simp
      have hKn : ((K : Int) != (K : Int)) = false := by simp
      go_wp2_with (at_make; refine wpList_make_full _ rfl _ _ 30 rfl w5.heap.size 40 i0 (.agg #[.bool false, .slice none 0 0, .slice none 0 0]) 3 Tryz.underlying30 hi0 hz0 hz1 .i64 .i64 _ _ K rfl rfl rfl rfl (by rw [hz2]; omega) (by simp only [maxLen]; omega) (Nat.le_refl _) ?_; intro w6 hown hgw; rw [zeros_r3s] at hown; have H6 := Lib.hid (And.intro (gb_made hown (by have := HN.out.2.2.2; omega)) (below_of_grownN hgw)); clear hown hgw)
      obtain ⟨G, hG⟩ : ∃ G, w5.heap.size = G := ⟨_, rfl⟩
      have HA := Lib.hid (show TmA w w6 B GS G (.slice AM M cM) (.slice AL M cL) out st (List.replicate K ⟨0, 0⟩) by
        obtain ⟨⟨g1, _⟩, g3⟩ := H6.out
        obtain ⟨b1, b2, b3, b4, b5, b6, b7, b8, b9⟩ := H5.out
        rw [hG] at g1 b8
        refine ⟨bl_next b1 g3, b2.below g3, ⟨rs, b3.below g3, b4.below g3⟩, b5.below g3, g1, ⟨b6, b7, b8⟩, fun g e => ?_⟩
        obtain ⟨cur, hk, _⟩ := b9 g e
        have := hk.lt
        omega)
      rw [hG]
      clear H6 H5 hG hz0 hz1 hz2 hi0 i0 HTC H4 H3 H2 hKb hKn
      clear rs w5 w4 w3 w2
      go_loopw [18] (fun s wr => ∃ i : Nat, i ≤ K ∧ s = .int .i64 (i : Nat) ∧ TmA w wr B GS G (.slice AM M cM) (.slice AL M cL) out st (List.replicate i ⟨0, 1⟩ ++ List.replicate (K - i) ⟨0, 0⟩)) (fun s wr => K - (intOf s).toNat)
      case atStart => exact ⟨0, Nat.zero_le _, rfl, by simpa using HA.out⟩
      case round =>
        obtain ⟨i, hi, rfl, hA⟩ := hrel
        by_cases hlt : i < K
        · have hik : i ≤ k := by have := HN.out.2.2.2; omega
          have d1 : decide ((i : Int) ≤ (k : Int)) = true := decide_eq_true (by omega)
          have d1' : decide (i ≤ k) = true := decide_eq_true hik
          have d2 : (i : Int) < (K : Int) := by omega
          have HAi := Lib.hid hA
          have Hlt := Lib.hid hlt
          clear hA hi
          go_wp2_with fail
          refine (add_o (qs := []) (QR.nil _ _) (by decide) (Nat.le_refl _) tl_add0).mono ?_
          rintro e w7 ⟨v, rfl, hv, hb7⟩
          obtain ⟨r, rfl⟩ := hv.r3
          have hA2 := HAi.out.below hb7
          obtain ⟨y, hy, c0, c1', c2', f0, f1, f2⟩ := hA2.s.form (i := i) (by simp; omega)
          have H7 := Lib.hid (And.intro hA2 hv)
          clear hA2 hv hy hb7
          unfold R3.v
          go_wp2_with fail
          go_roundw
          case rel =>
            have hlt := Hlt.out
            refine ⟨i + 1, by omega, by go_num, ?_⟩
            have h := H7.out.1.putS (u := i) (by simp; omega) H7.out.2
            rw [List.set_append_right _ _ (by simp), List.length_replicate, Nat.sub_self, show K - i = (K - (i + 1)) + 1 from by omega, List.replicate_succ, List.set_cons_zero] at h
            rw [List.replicate_succ', List.append_assoc]
            exact h
          case measure => have := Hlt.out; simp [intOf]; omega
        · obtain rfl : K = i := by omega
          have d1 : decide ((K : Int) ≤ (k : Int)) = false := decide_eq_false (by omega)
          have d1' : decide (K ≤ k) = false := decide_eq_false (by have := HN.out.2.2.2; omega)
          rw [Nat.sub_self, List.replicate_zero, List.append_nil] at hA
          have HAi := Lib.hid hA
          clear hA hi hlt HA
          go_wp2_with fail
          refine (part27_any (n := 0) (d := 1) (by decide) (by decide) (by decide)).mono ?_
          rintro e w7 ⟨v7, rfl, hv7, hb7⟩
          rw [tl_01] at hv7
          have H7 := Lib.hid (And.intro (HAi.out.below hb7) hv7)
          clear hv7 hb7
          go_wp2_with fail
          refine (part27_any (n := 0) (d := 1) (by decide) (by decide) (by decide)).mono ?_
          rintro e w8 ⟨v8, rfl, hv8, hb8⟩
          rw [tl_01] at hv8
          obtain ⟨ra, rfl⟩ := H7.out.2.r3
          obtain ⟨rb, rfl⟩ := hv8.r3
          obtain ⟨M1, hM1⟩ : ∃ M1, w8.heap.size = M1 := ⟨_, rfl⟩
          have HI := Lib.hid ((H7.out.1.below hb8).boxes hM1 (H7.out.2.below hb8) hv8)
          clear hv8 hb8 H7 HAi
          unfold R3.v
          go_wp2_with fail
          generalize (w8.alloc (.cells #[.bool ra.s, .slice ra.A ra.m ra.c, .slice ra.B ra.n ra.d] 40)).alloc (.cells #[.bool rb.s, .slice rb.A rb.m rb.c, .slice rb.B rb.n rb.d] 40) = wb at HI ⊢
          clear hM1 d1 d1'
          go_loopw [21] (fun s wr => ∃ (j : Nat) (a : List Q × Q) (r1 : R3), j ≤ M ∧ s = .int .i64 (j : Nat) ∧ smO k out j = some a ∧ TmI w wr B GS G M1 (.slice AM M cM) (.slice AL M cL) out st a.1 r1 rb a.2 ⟨0, 1⟩) (fun s wr => M - (intOf s).toNat)
          case atStart => exact ⟨0, (List.replicate K ⟨0, 1⟩, ⟨0, 1⟩), ra, Nat.zero_le _, rfl, by unfold smO; rw [HN.out.2.2.2], HI.out⟩
          case round =>
            obtain ⟨j, a, r1, hj, rfl, hsm, hI⟩ := hrel
            by_cases hlt : j < M
            · have d1 : decide ((j : Int) < (M : Int)) = true := decide_eq_true (by omega)
              have d1' : decide (j < M) = true := decide_eq_true hlt
              have d2 : (j : Int) < (M : Int) := by omega
              have e3 := HB.out.2.2.1
              rw [HM.out] at e3
              obtain ⟨a', x, old, y, more, m, s1, s2, s3', s4, s5, s6, s7⟩ := smO_at e3 hlt
              obtain rfl := Option.some.inj (hsm.symm.trans s1)
              obtain ⟨q, u⟩ := x
              dsimp only at s3' s4 s5 s6 s7
              obtain ⟨bM, oM, bL, oL, rx, rfl, rfl, hrow, hne1, hne2⟩ := hI.row HM.out hlt s2
              dsimp only at hrow
              have huk : u ≤ k := HB.out.2.2.2.2 (q, u) (List.mem_of_getElem? s2)
              have hul := (List.getElem?_eq_some_iff.1 s3').1
              have huK : u < K := by have := HN.out.2.2.2; omega
              have huI : (u : Int) < (K : Int) := by omega
              have huI3 : (u : Int) ≤ 3 := by omega
              have du : decide ((u : Int) > (k : Int)) = false := decide_eq_false (by omega)
              have du' : decide ((k : Int) < (u : Int)) = false := decide_eq_false (by omega)
              have du'' : decide (k < u) = false := decide_eq_false (by omega)
              have cL0 := hrow.e
              have HS := Lib.hid (And.intro s2 (And.intro s3' (And.intro s4 (And.intro s5 (And.intro s6 (And.intro s7 (And.intro hne1 (And.intro hne2 (And.intro hlt (And.intro hul huk))))))))))
              have HI0 := Lib.hid hI
              have HI1 := Lib.hid (hI.below (Below.refl _ _).drew)
              have HR1 := Lib.hid hrow.drew
              clear s1 s2 s3' s4 s5 s6 s7 hne1 hne2 hI hrow hsm hj e3 hul huk
              go_wp2_with fail
              refine region_plain (S := fun w' => w'.cell? ⟨bM, oM + j * 3, none⟩ = some (.bool rx.s) ∧ w'.cell? ⟨bM, oM + j * 3 + 1, none⟩ = some (.slice rx.A rx.m rx.c) ∧ w'.cell? ⟨bM, oM + j * 3 + 2, none⟩ = some (.slice rx.B rx.n rx.d) ∧ w'.cell? ⟨bL, oL + j, none⟩ = some (.int .i64 (u : Nat))) (by kernel_rfl) HR1.out.four (fun hS => ?_)
              refine wpAnyH_take (i := 0) (v := _) rfl (by kernel_rfl) (by kernel_rfl) (by kernel_rfl) (fun _ _ _ h => h) (Or.inl ⟨by rfl, fun w' hw' => by ((try dsimp only at hw'); go_split_ands; first | (go_simp; done) | (go_simp; with_reducible rfl))⟩) hS ?_
              simp only [Act.put, List.getElem_toArray, List.getElem_cons_zero, List.getElem_cons_succ, List.setIfInBounds_toArray, List.set_cons_zero, List.set_cons_succ]
              refine wpAnyH_take (i := 1) (v := _) rfl (by kernel_rfl) (by kernel_rfl) (by kernel_rfl) (fun _ _ _ h => h) (Or.inl ⟨by rfl, fun w' hw' => by ((try dsimp only at hw'); go_split_ands; first | (go_simp; done) | (go_simp; with_reducible rfl))⟩) hS ?_
              simp only [Act.put, List.getElem_toArray, List.getElem_cons_zero, List.getElem_cons_succ, List.setIfInBounds_toArray, List.set_cons_zero, List.set_cons_succ]
              refine wpAnyH_take (i := 2) (v := _) rfl (by kernel_rfl) (by kernel_rfl) (by kernel_rfl) (fun _ _ _ h => h) (Or.inl ⟨by rfl, fun w' hw' => by ((try dsimp only at hw'); go_split_ands; first | (go_simp; done) | (go_simp; with_reducible rfl))⟩) hS ?_
              simp only [Act.put, List.getElem_toArray, List.getElem_cons_zero, List.getElem_cons_succ, List.setIfInBounds_toArray, List.set_cons_zero, List.set_cons_succ]
              refine wpAnyH_take (i := 3) (v := _) rfl (by kernel_rfl) (by kernel_rfl) (by kernel_rfl) (fun _ _ _ h => h) (Or.inl ⟨by rfl, fun w' hw' => by ((try dsimp only at hw'); go_split_ands; first | (go_simp; done) | (go_simp; with_reducible rfl))⟩) hS ?_
              simp only [Act.put, List.getElem_toArray, List.getElem_cons_zero, List.getElem_cons_succ, List.setIfInBounds_toArray, List.set_cons_zero, List.set_cons_succ]
              refine wpAnyH_take (i := 4) (v := _) rfl (by kernel_rfl) (by kernel_rfl) (by kernel_rfl) (fun _ _ _ h => h) (Or.inl ⟨by rfl, fun w' hw' => by ((try dsimp only at hw'); go_split_ands; first | (go_simp; done) | (go_simp; with_reducible rfl))⟩) hS ?_
              simp only [Act.put, List.getElem_toArray, List.getElem_cons_zero, List.getElem_cons_succ, List.setIfInBounds_toArray, List.set_cons_zero, List.set_cons_succ]
              refine wpAnyH_take (i := 5) (v := _) rfl (by kernel_rfl) (by kernel_rfl) (by kernel_rfl) (fun _ _ _ h => h) (Or.inl ⟨by rfl, fun w' hw' => by ((try dsimp only at hw'); go_split_ands; first | (go_simp; done) | (go_simp; with_reducible rfl))⟩) hS ?_
              simp only [Act.put, List.getElem_toArray, List.getElem_cons_zero, List.getElem_cons_succ, List.setIfInBounds_toArray, List.set_cons_zero, List.set_cons_succ]
              refine wpAnyH_take (i := 6) (v := _) rfl (by kernel_rfl) (by kernel_rfl) (by kernel_rfl) (fun _ _ _ h => h) (Or.inl ⟨by rfl, fun w' hw' => by ((try dsimp only at hw'); go_split_ands; first | (go_simp; done) | (go_simp; with_reducible rfl))⟩) hS ?_
              simp only [Act.put, List.getElem_toArray, List.getElem_cons_zero, List.getElem_cons_succ, List.setIfInBounds_toArray, List.set_cons_zero, List.set_cons_succ]
              refine wpAnyH_take (i := 7) (v := _) rfl (by kernel_rfl) (by kernel_rfl) (by kernel_rfl) (fun _ _ _ h => h) (Or.inl ⟨by rfl, fun w' hw' => by ((try dsimp only at hw'); go_split_ands; first | (go_simp; done) | (go_simp; with_reducible rfl))⟩) hS ?_
              simp only [Act.put, List.getElem_toArray, List.getElem_cons_zero, List.getElem_cons_succ, List.setIfInBounds_toArray, List.set_cons_zero, List.set_cons_succ]
              refine wpAnyH_take (i := 8) (v := _) rfl (by kernel_rfl) (by kernel_rfl) (by kernel_rfl) (fun _ _ _ h => h) (Or.inl ⟨by rfl, fun w' hw' => by ((try dsimp only at hw'); go_split_ands; first | (go_simp; done) | (go_simp; with_reducible rfl))⟩) hS ?_
              simp only [Act.put, List.getElem_toArray, List.getElem_cons_zero, List.getElem_cons_succ, List.setIfInBounds_toArray, List.set_cons_zero, List.set_cons_succ]
              refine wpAnyH_take (i := 9) (v := _) rfl (by kernel_rfl) (by kernel_rfl) (by kernel_rfl) (fun _ _ _ h => h) (Or.inl ⟨by rfl, fun w' hw' => by ((try dsimp only at hw'); go_split_ands; first | (go_simp; done) | (go_simp; with_reducible rfl))⟩) hS ?_
              simp only [Act.put, List.getElem_toArray, List.getElem_cons_zero, List.getElem_cons_succ, List.setIfInBounds_toArray, List.set_cons_zero, List.set_cons_succ]
              refine wpAnyH_take (i := 10) (v := _) rfl (by kernel_rfl) (by kernel_rfl) (by kernel_rfl) (fun _ _ _ h => h) (Or.inl ⟨by rfl, fun w' hw' => by ((try dsimp only at hw'); go_split_ands; first | (go_simp; done) | (go_simp; with_reducible rfl))⟩) hS ?_
              simp only [Act.put, List.getElem_toArray, List.getElem_cons_zero, List.getElem_cons_succ, List.setIfInBounds_toArray, List.set_cons_zero, List.set_cons_succ]
              refine wpAnyH_take (i := 12) (v := _) rfl (by kernel_rfl) (by kernel_rfl) (by kernel_rfl) (fun _ _ _ h => h) (Or.inl ⟨by rfl, fun w' hw' => by ((try dsimp only at hw'); go_split_ands; first | (go_simp; done) | (go_simp; with_reducible rfl))⟩) hS ?_
              simp only [Act.put, List.getElem_toArray, List.getElem_cons_zero, List.getElem_cons_succ, List.setIfInBounds_toArray, List.set_cons_zero, List.set_cons_succ]
              refine wpAnyH_take (i := 13) (v := _) rfl (by kernel_rfl) (by kernel_rfl) (by kernel_rfl) (fun _ _ _ h => h) (Or.inl ⟨by rfl, fun w' hw' => by ((try dsimp only at hw'); go_split_ands; first | (go_simp; done) | (go_simp; with_reducible rfl))⟩) hS ?_
              simp only [Act.put, List.getElem_toArray, List.getElem_cons_zero, List.getElem_cons_succ, List.setIfInBounds_toArray, List.set_cons_zero, List.set_cons_succ]
              refine wpAnyH_take (i := 14) (v := _) rfl (by kernel_rfl) (by kernel_rfl) (by kernel_rfl) (fun _ _ _ h => h) (Or.inl ⟨by rfl, fun w' hw' => by ((try dsimp only at hw'); go_split_ands; first | (go_simp; done) | (go_simp; with_reducible rfl))⟩) hS ?_
              simp only [Act.put, List.getElem_toArray, List.getElem_cons_zero, List.getElem_cons_succ, List.setIfInBounds_toArray, List.set_cons_zero, List.set_cons_succ]
              refine wpAnyH_take (i := 15) (v := _) rfl (by kernel_rfl) (by kernel_rfl) (by kernel_rfl) (fun _ _ _ h => h) (Or.inl ⟨by rfl, fun w' hw' => by ((try dsimp only at hw'); go_split_ands; first | (go_simp; done) | (go_simp; with_reducible rfl))⟩) hS ?_
              simp only [Act.put, List.getElem_toArray, List.getElem_cons_zero, List.getElem_cons_succ, List.setIfInBounds_toArray, List.set_cons_zero, List.set_cons_succ]
              obtain ⟨ro, hro, g0, g1, g2, _, _, _⟩ := HI1.out.s.form (i := u) HS.out.2.2.2.2.2.2.2.2.2.1
              have hroe : a.1[u]'HS.out.2.2.2.2.2.2.2.2.2.1 = old := (List.getElem?_eq_some_iff.1 HS.out.2.1).2
              rw [hroe] at hro
              have HQo := Lib.hid hro
              clear hro hroe
              refine wpAnyH_ready (rs := [11]) (by kernel_rfl) (by simp) ?_
              refine AllReadyH.cons rfl (fun K hK => ?_) AllReadyH.nil
              simp only [List.getElem_toArray, List.getElem_cons_zero, List.getElem_cons_succ]
              go_simp
              refine hK.out _ _ ?_ (fun hS1 => ?_)
              · exact HR1.out.four
              clear hK K
              (try simp only [Act.put, List.setIfInBounds_toArray, List.set_cons_zero, List.set_cons_succ])
              clear g0 g1 g2
              refine wpAnyH_ready (rs := [16]) (by kernel_rfl) (by simp) ?_
              refine AllReadyH.cons rfl (fun K hK => ?_) AllReadyH.nil
              simp only [List.getElem_toArray, List.getElem_cons_zero, List.getElem_cons_succ]
              go_simp
              have HQ := Lib.hid (QR.new2' HQo.out HR1.out.a.v rfl)
              have HI2 := Lib.hid (HI1.out.below (bl_allocd (Below.refl _ _) (.cells #[.bool ro.s, .slice ro.A ro.m ro.c, .slice ro.B ro.n ro.d, .bool rx.s, .slice rx.A rx.m rx.c, .slice rx.B rx.n rx.d] 40)))
              have HR2 := Lib.hid (HR1.out.allocd (.cells #[.bool ro.s, .slice ro.A ro.m ro.c, .slice ro.B ro.n ro.d, .bool rx.s, .slice rx.A rx.m rx.c, .slice rx.B rx.n rx.d] 40))
              refine hK.out _ _ ?_ (fun hS2 => ?_)
              · exact HR2.out.four
              clear hK K
              (try simp only [Act.put, List.setIfInBounds_toArray, List.set_cons_zero, List.set_cons_succ])
              refine wpAnyH_ready (rs := [17]) (by kernel_rfl) (by simp) ?_
              refine AllReadyH.cons rfl (fun K hK => ?_) AllReadyH.nil
              simp only [List.getElem_toArray, List.getElem_cons_zero, List.getElem_cons_succ]
              go_simp
              refine (add_o (qs := [old, q]) HQ.out (by decide) (Nat.le_refl _) HS.out.2.2.1).mono ?_
              rintro e w7 ⟨v7, rfl, hv7, hb7⟩
              obtain ⟨r7, rfl⟩ := hv7.r3
              have HI3 := Lib.hid (HI2.out.below hb7)
              have HR3 := Lib.hid (HR2.out.below hb7)
              have HV := Lib.hid hv7
              clear hv7 hb7
              unfold R3.v
              try dsimp only
              refine hK.out _ _ ?_ (fun hS3 => ?_)
              · exact HR3.out.four
              clear hK K
              (try simp only [Act.put, List.setIfInBounds_toArray, List.set_cons_zero, List.set_cons_succ])
              refine wpAnyH_take (i := 18) (v := _) rfl (by kernel_rfl) (by kernel_rfl) (by kernel_rfl) (fun _ _ _ h => h) (Or.inl ⟨by rfl, fun w' hw' => by ((try dsimp only at hw'); go_split_ands; first | (go_simp; done) | (go_simp; with_reducible rfl))⟩) hS3 ?_
              simp only [Act.put, List.getElem_toArray, List.getElem_cons_zero, List.getElem_cons_succ, List.setIfInBounds_toArray, List.set_cons_zero, List.set_cons_succ]
              refine wpAnyH_take (i := 19) (v := _) rfl (by kernel_rfl) (by kernel_rfl) (by kernel_rfl) (fun _ _ _ h => h) (Or.inl ⟨by rfl, fun w' hw' => by ((try dsimp only at hw'); go_split_ands; first | (go_simp; done) | (go_simp; with_reducible rfl))⟩) hS3 ?_
              simp only [Act.put, List.getElem_toArray, List.getElem_cons_zero, List.getElem_cons_succ, List.setIfInBounds_toArray, List.set_cons_zero, List.set_cons_succ]
              refine wpAnyH_take (i := 20) (v := _) rfl (by kernel_rfl) (by kernel_rfl) (by kernel_rfl) (fun _ _ _ h => h) (Or.inl ⟨by rfl, fun w' hw' => by ((try dsimp only at hw'); go_split_ands; first | (go_simp; done) | (go_simp; with_reducible rfl))⟩) hS3 ?_
              simp only [Act.put, List.getElem_toArray, List.getElem_cons_zero, List.getElem_cons_succ, List.setIfInBounds_toArray, List.set_cons_zero, List.set_cons_succ]
              refine wpAnyH_take (i := 21) (v := _) rfl (by kernel_rfl) (by kernel_rfl) (by kernel_rfl) (fun _ _ _ h => h) (Or.inl ⟨by rfl, fun w' hw' => by ((try dsimp only at hw'); go_split_ands; first | (go_simp; done) | (go_simp; with_reducible rfl))⟩) hS3 ?_
              simp only [Act.put, List.getElem_toArray, List.getElem_cons_zero, List.getElem_cons_succ, List.setIfInBounds_toArray, List.set_cons_zero, List.set_cons_succ]
              obtain ⟨r8, _, g0, g1, g2, f0, f1, f2⟩ := HI3.out.s.form (i := u) HS.out.2.2.2.2.2.2.2.2.2.1
              refine wpAnyH_ready (rs := [22]) (by kernel_rfl) (by simp) ?_
              refine AllReadyH.cons rfl (fun K hK => ?_) AllReadyH.nil
              simp only [List.getElem_toArray, List.getElem_cons_zero, List.getElem_cons_succ]
              go_simp
              have HI4 := Lib.hid (HI3.out.putS HS.out.2.2.2.2.2.2.2.2.2.1 HV.out)
              refine hK.out _ _ ?_ (fun hS4 => ?_)
              · exact HR3.out.chg (chg_s3 _ _ _ _) HS.out.2.2.2.2.2.2.1 HS.out.2.2.2.2.2.2.2.1
              clear hK K
              (try simp only [Act.put, List.setIfInBounds_toArray, List.set_cons_zero, List.set_cons_succ])
              clear g0 g1 g2 f0 f1 f2
              refine wpAnyH_done (by kernel_rfl) ?_ _
              unfold s3 at HI4
              generalize ((w7.setCell ⟨G, u * 3, none⟩ (.bool r7.s)).setCell ⟨G, u * 3 + 1, none⟩ (.slice r7.A r7.m r7.c)).setCell ⟨G, u * 3 + 2, none⟩ (.slice r7.B r7.n r7.d) = wz at HI4 ⊢
              clear hS hS1 hS2 hS3 hS4
              obtain ⟨bM', oM', bL', oL', rz, e1, e2, hrow, _, _⟩ := HI4.out.row HM.out HS.out.2.2.2.2.2.2.2.2.1 HS.out.1
              injection e1 with e1
              injection e1 with e1 e1' _
              injection e2 with e2
              injection e2 with e2 e2' _
              subst e1
              subst e1'
              subst e2
              subst e2'
              dsimp only at hrow
              have H0 := Lib.hid hrow
              have H1' := Lib.hid hrow.drew
              have HE := Lib.hid (Below.refl wz.heap.size wz)
              clear hrow HI0 HI1 HI2 HI3 HR1 HR2 HR3 HV HQ HQo cL0
              go_wp2_with fail
              go_cut [22, 23] from 114 to 168 (fun v22 v23 wx => ∃ z r, v22 = .pointer (some ⟨z, 0, none⟩) ∧ Bk wx z 40 (R3.cells r) ∧ QV wx r.v more ∧ Below wz.heap.size wz wx)
              case first =>
                go_region_held3 (fun w' => w'.cell? ⟨bM, oM + j * 3, none⟩ = some (.bool rz.s) ∧ w'.cell? ⟨bM, oM + j * 3 + 1, none⟩ = some (.slice rz.A rz.m rz.c) ∧ w'.cell? ⟨bM, oM + j * 3 + 2, none⟩ = some (.slice rz.B rz.n rz.d) ∧ w'.cell? ⟨bL, oL + j, none⟩ = some (.int .i64 (u : Nat)))
                  (first | with_reducible exact H3'.out.four3 HK.out.2 _ | with_reducible exact (H3'.out.allocd _).four | with_reducible exact H3'.out.four | with_reducible exact ((H2'.out.allocd _).allocd _).four | with_reducible exact (H2'.out.allocd _).four | with_reducible exact H2'.out.four | with_reducible exact (H0.out.allocd _).drew.four | with_reducible exact H1'.out.four)
                  (first
                  | (go_at_call 10; refine (part27_any (n := u) (d := 1) (by decide) (by omega) (by decide)).mono ?_; rintro e w2 ⟨v2, rfl, hv2, hb2⟩; (first | have H2' := Lib.hid (H1'.out.below hb2) | have H2' := Lib.hid ((H0.out.allocd _).drew.below hb2) | fail); (first | have HK := Lib.hid (zr_D HE.out hb2) | skip); (first | have HE2 := Lib.hid (bl_drew HE.out hb2) | have HE2 := Lib.hid (bl_allocD HE.out hb2) | fail); obtain ⟨r2, rfl⟩ := hv2.r3; have HV2 := Lib.hid hv2; clear hv2 hb2; unfold R3.v)
                  | (go_at_call 12; refine (mul_o (qs := [q, qlow ((u : Nat) : Int) 1]) (by first | with_reducible exact QR.new2' H2'.out.a.v HV2.out rfl | with_reducible exact QR.new2' (H2'.out.allocd _).a.v (HV2.out.allocd _) (by rw [World.size_alloc]) | with_reducible exact (QR.new2' H2'.out.a.v HV2.out rfl).allocd _) (by decide) (Nat.le_refl _) HS.out.2.2.2.1).mono ?_; rintro e w3 ⟨v3, rfl, hv3, hb3⟩; (first | have H3' := Lib.hid ((H2'.out.allocd _).below hb3) | have H3' := Lib.hid (((H2'.out.allocd _).allocd _).below hb3) | fail); (first | have HK := Lib.hid (zr_a HE2.out hb3) | have HK := Lib.hid (zr_b HE2.out hb3) | have HK := Lib.hid (zr_c HK.out hb3) | skip); (first | have HE3 := Lib.hid (bl_alloc2 HE2.out hb3) | have HE3 := Lib.hid (bl_alloc HE2.out hb3) | fail); obtain ⟨r3', rfl⟩ := hv3.r3; have HV3 := Lib.hid hv3; (first | (have qk := cells_rat HK.out.1; obtain ⟨k0, k1, k2, s0, s1, s2⟩ := qk) | skip); unfold R3.v)
                  | fail)
                all_goals (go_wp2_with fail; go_meet; first | exact ⟨_, r3', rfl, Bk.newA w3 40 #[.bool r3'.s, .slice r3'.A r3'.m r3'.c, .slice r3'.B r3'.n r3'.d], HV3.out.allocd _, bl_allocd HE3.out _⟩ | exact ⟨_, r3', rfl, HK.out.1.set3 r3', HV3.out.set3 HK.out.1 r3', bl_set3 HE3.out HK.out.2 r3'⟩)
              case rest =>
                obtain ⟨z, r, rfl, hkz, hqz, hbz⟩ := hcut
                have hI5 := HI4.out.below hbz
                obtain ⟨t0, t1, t2, _, _, _⟩ := cells_rat hkz
                obtain ⟨m0, m1, m2, _, _, _⟩ := cells_rat hI5.k1
                have H5 := Lib.hid (And.intro hI5 hqz)
                clear hI5 hkz hqz hbz HI4 H0 H1' HE
                go_wp2_with fail
                refine (add_o (qs := [a.2, more]) (QR.new2' H5.out.1.q1 H5.out.2 rfl) (by decide) (Nat.le_refl _) HS.out.2.2.2.2.1).mono ?_
                rintro e w7 ⟨v7, rfl, hv7, hb7⟩
                obtain ⟨r7, rfl⟩ := hv7.r3
                have hI6 := (H5.out.1.below (bl_allocd (Below.refl _ _) _)).below hb7
                obtain ⟨_, _, _, f0, f1, f2⟩ := cells_rat hI6.k1
                have H6 := Lib.hid (And.intro hI6 hv7)
                clear hI6 hv7 hb7 t0 t1 t2 m0 m1 m2
                unfold R3.v
                go_wp2_with fail
                have hlt := HS.out.2.2.2.2.2.2.2.2.1
                have hj1 : j + 1 ≤ M := hlt
                have hj2 : M - (j + 1) < M - j := by omega
                refine ⟨?_, by simpa [intOf] using hj2⟩
                exact ⟨j + 1, (a.1.set u y, m), r7, hj1, by go_num, HS.out.2.2.2.2.2.1, H6.out.1.putM H6.out.2⟩
            · obtain rfl : M = j := by omega
              have d1 : decide ((M : Int) < (M : Int)) = false := by simp
              have d1' : decide (M < M) = false := by simp
              have e3 := HB.out.2.2.1
              rw [HM.out] at e3
              obtain rfl := Option.some.inj (hsm.symm.trans e3)
              dsimp only at hI
              have HI2 := Lib.hid hI
              clear hI hj hlt hsm e3 HI
              go_wp2_with fail
              clear d1 d1'
              go_loopw [24] (fun s wr => ∃ (i : Nat) (b : Q) (r2 : R3), i ≤ K ∧ s = .int .i64 (i : Nat) ∧ wtO st i = some b ∧ TmI w wr B GS G M1 (.slice AM M cM) (.slice AL M cL) out st st r1 r2 wantF b) (fun s wr => K - (intOf s).toNat)
              case atStart => exact ⟨0, ⟨0, 1⟩, rb, Nat.zero_le _, rfl, rfl, HI2.out⟩
              case round =>
                obtain ⟨i, b, r2, hi, rfl, hwt, hI⟩ := hrel
                by_cases hlt : i < K
                · have hik : i ≤ k := by have := HN.out.2.2.2; omega
                  have d1 : decide ((i : Int) ≤ (k : Int)) = true := decide_eq_true (by omega)
                  have d1' : decide (i ≤ k) = true := decide_eq_true hik
                  have d2 : (i : Int) < (K : Int) := by omega
                  have hiI : (i : Int) ≤ 3 := by omega
                  have e4 := HB.out.2.2.2.1
                  rw [HN.out.2.2.2] at e4
                  obtain ⟨b', sq, more, b2, s1, s2, s3', s4, s5⟩ := wtO_at e4 hlt
                  obtain rfl := Option.some.inj (hwt.symm.trans s1)
                  obtain ⟨rc, hrc⟩ := hI.s.row s2
                  obtain ⟨rd, hrd⟩ := hI.st.row s2
                  obtain ⟨x0, x1, x2⟩ := hrc.three
                  obtain ⟨y0, y1, y2⟩ := hrd.three
                  have HS := Lib.hid (And.intro s2 (And.intro s3' (And.intro s4 (And.intro s5 hlt))))
                  have HI3 := Lib.hid (And.intro (hI.below (Below.refl _ _).drew) (And.intro hrc.drew.v hrd.drew.v))
                  clear s1 s2 s3' s4 s5 e4 hwt hI hrc hrd hi hik HI2
                  go_wp2_with fail
                  go_still_tail 8, (by kernel_rfl)
                  change wpList _ _ _ _ _ wr.drew
                  go_wp2_with fail
                  refine (sameRatio_any (va := rc.v) (vb := rd.v) (q := sq) HI3.out.2.1 HI3.out.2.2).mono ?_
                  rintro e w7 ⟨rfl, hb7⟩
                  have hI7 := HI3.out.1.below hb7
                  obtain ⟨re, hre⟩ := hI7.st.row HS.out.1
                  have HI7 := Lib.hid hI7
                  have H0 := Lib.hid hre
                  have H1' := Lib.hid hre.drew
                  have HE := Lib.hid (Below.refl w7.heap.size w7)
                  clear hI7 hre hb7 HI3 x0 x1 x2 y0 y1 y2
                  go_wp2_with fail
                  go_cut [25, 26] from 169 to 201 (fun v25 v26 wx => ∃ z r, v25 = .pointer (some ⟨z, 0, none⟩) ∧ Bk wx z 40 (R3.cells r) ∧ QV wx r.v more ∧ Below w7.heap.size w7 wx)
                  case first =>
                    go_region_held3 (fun w' => w'.cell? ⟨GS, i * 3, none⟩ = some (.bool re.s) ∧ w'.cell? ⟨GS, i * 3 + 1, none⟩ = some (.slice re.A re.m re.c) ∧ w'.cell? ⟨GS, i * 3 + 2, none⟩ = some (.slice re.B re.n re.d))
                      (first | with_reducible exact H3'.out.three3 HK.out.2 _ | with_reducible exact (H3'.out.allocd _).three | with_reducible exact H3'.out.three | with_reducible exact ((H2'.out.allocd _).allocd _).three | with_reducible exact (H2'.out.allocd _).three | with_reducible exact H2'.out.three | with_reducible exact (H0.out.allocd _).drew.three | with_reducible exact H1'.out.three)
                      (first
                      | (go_at_call 10; refine (part27_any (n := i) (d := 1) (by decide) (by omega) (by decide)).mono ?_; rintro e w2 ⟨v2, rfl, hv2, hb2⟩; (first | have H2' := Lib.hid (H1'.out.below hb2) | have H2' := Lib.hid ((H0.out.allocd _).drew.below hb2) | fail); (first | have HK := Lib.hid (zr_D HE.out hb2) | skip); (first | have HE2 := Lib.hid (bl_drew HE.out hb2) | have HE2 := Lib.hid (bl_allocD HE.out hb2) | fail); obtain ⟨r2', rfl⟩ := hv2.r3; have HV2 := Lib.hid hv2; clear hv2 hb2; unfold R3.v)
                      | (go_at_call 12; refine (mul_o (qs := [sq, qlow ((i : Nat) : Int) 1]) (by first | with_reducible exact QR.new2' H2'.out.v HV2.out rfl | with_reducible exact QR.new2' (H2'.out.allocd _).v (HV2.out.allocd _) (by rw [World.size_alloc]) | with_reducible exact (QR.new2' H2'.out.v HV2.out rfl).allocd _) (by decide) (Nat.le_refl _) HS.out.2.1).mono ?_; rintro e w3 ⟨v3, rfl, hv3, hb3⟩; (first | have H3' := Lib.hid ((H2'.out.allocd _).below hb3) | have H3' := Lib.hid (((H2'.out.allocd _).allocd _).below hb3) | fail); (first | have HK := Lib.hid (zr_a HE2.out hb3) | have HK := Lib.hid (zr_b HE2.out hb3) | have HK := Lib.hid (zr_c HK.out hb3) | skip); (first | have HE3 := Lib.hid (bl_alloc2 HE2.out hb3) | have HE3 := Lib.hid (bl_alloc HE2.out hb3) | fail); obtain ⟨r3', rfl⟩ := hv3.r3; have HV3 := Lib.hid hv3; (first | (have qk := cells_rat HK.out.1; obtain ⟨k0, k1, k2, s0, s1, s2⟩ := qk) | skip); unfold R3.v)
                      | fail)
                    all_goals (go_wp2_with fail; go_meet; first | exact ⟨_, r3', rfl, Bk.newA w3 40 #[.bool r3'.s, .slice r3'.A r3'.m r3'.c, .slice r3'.B r3'.n r3'.d], HV3.out.allocd _, bl_allocd HE3.out _⟩ | exact ⟨_, r3', rfl, HK.out.1.set3 r3', HV3.out.set3 HK.out.1 r3', bl_set3 HE3.out HK.out.2 r3'⟩)
                  case rest =>
                    obtain ⟨z, r, rfl, hkz, hqz, hbz⟩ := hcut
                    have hI5 := HI7.out.below hbz
                    obtain ⟨t0, t1, t2, _, _, _⟩ := cells_rat hkz
                    obtain ⟨m0, m1, m2, _, _, _⟩ := cells_rat hI5.k2
                    have H5 := Lib.hid (And.intro hI5 hqz)
                    clear hI5 hkz hqz hbz HI7 H0 H1' HE
                    go_wp2_with fail
                    refine (add_o (qs := [b, more]) (QR.new2' H5.out.1.q2 H5.out.2 rfl) (by decide) (Nat.le_refl _) HS.out.2.2.1).mono ?_
                    rintro e w8 ⟨v8, rfl, hv8, hb8⟩
                    obtain ⟨r8, rfl⟩ := hv8.r3
                    have hI6 := (H5.out.1.below (bl_allocd (Below.refl _ _) _)).below hb8
                    obtain ⟨_, _, _, f0, f1, f2⟩ := cells_rat hI6.k2
                    have H6 := Lib.hid (And.intro hI6 hv8)
                    clear hI6 hv8 hb8 t0 t1 t2 m0 m1 m2
                    unfold R3.v
                    go_wp2_with fail
                    have hlt := HS.out.2.2.2.2
                    have hj1 : i + 1 ≤ K := hlt
                    have hj2 : K - (i + 1) < K - i := by omega
                    refine ⟨?_, by simpa [intOf] using hj2⟩
                    exact ⟨i + 1, b2, r8, hj1, by go_num, HS.out.2.2.2.1, H6.out.1.putW H6.out.2⟩
                · obtain rfl : K = i := by omega
                  have d1 : decide ((K : Int) ≤ (k : Int)) = false := decide_eq_false (by omega)
                  have d1' : decide (K ≤ k) = false := decide_eq_false (by have := HN.out.2.2.2; omega)
                  have e4 := HB.out.2.2.2.1
                  rw [HN.out.2.2.2] at e4
                  obtain rfl := Option.some.inj (hwt.symm.trans e4)
                  obtain ⟨x0, x1, x2, _, _, _⟩ := cells_rat hI.k1
                  obtain ⟨y0, y1, y2, _, _, _⟩ := cells_rat hI.k2
                  have HF := Lib.hid hI
                  clear hI hwt e4 hi hlt HI2
                  go_wp2_with fail
                  refine (sameRatio_any (va := r1.v) (vb := r2.v) HF.out.q1 HF.out.q2).mono ?_
                  rintro e w7 ⟨rfl, hb7⟩
                  have HG := Lib.hid (bl_next HF.out.b hb7)
                  clear hb7
                  go_wp2_with fail
                  go_ret
                  exact ⟨rfl, HG.out⟩
    · have ht' : tOk t k = false := by simpa using ht
      rw [chkN_no ht'] at HC
      have Hb := Lib.hid hb
      clear hz5 hn0 hn0l hO hb hcc hRd ht0 htl ht3 hT ht ht'
      go_wp2_with fail
      refine HC.out.mono ?_
      rintro e w1 ⟨rfl, rfl⟩
      go_wp2_with fail
      go_ret
      exact ⟨rfl, Hb.out⟩
end Go.Proofs.YtlhipaffhehcnaaGreat
