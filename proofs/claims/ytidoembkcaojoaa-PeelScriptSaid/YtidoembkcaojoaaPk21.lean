/- Chapter 21: peeling: its walk. -/
import Derived.Test.YtidoembkcaojoaaPm21
namespace Go.Proofs.Ytidoembkcaojoaa
open Go.RowKit Go.Maps
set_option linter.unusedVariables false
theorem unk_step {d : DS} {x p : Nat} (hd : d.ok) (hn : Next d x p) (N : Nat) : unk d.kn * (N + 1) = unk (d.took x p).kn * (N + 1) + (N + 1) := by
  have h2 : unk (d.kn.set x true) + 1 = unk d.kn := unk_set (by rw [hd.kl]; exact hn.lt hd) hn.mem.2
  have h3 : unk (d.took x p).kn = unk (d.kn.set x true) := rfl
  rw [h3, ← h2, Nat.succ_mul]
set_option maxRecDepth 100000 in
set_option maxHeartbeats 3200000 in
theorem peel_any {w : World} {base D : Nat} {m : DM} {F : Nat → Prop} {d : DS} {rl : List HE} (h : Dp w base D m (d.dc rl) F) (hd : d.ok) (hN : d.sets.length ≤ 1000) (hrl : rl.length ≤ 1000) (hx : RipX d rl []) :
    Calls Try.prog 45 #[.pointer (some ⟨D, 0, none⟩)] w (PkPost w base D m F d) := by
  obtain ⟨i0, hi0, hz0, hz1, hz2⟩ := info_parts u3_info
  have hstart : PkR w w base D m F d (unk d.kn * (d.sets.length + 1) + rl.length) (.slice none 0 0) := by
    refine ⟨d, rl, [], m, F, h, Turn.refl, .nil _, hd, hx, ⟨World.ownsRow_nil _ _ _ _, fun b hb => by cases hb⟩, rfl, ?_⟩
    have h1 := unk_le d.kn
    have h2 := hd.kl
    have h3 := hd.k1
    have h4 : unk d.kn * (d.sets.length + 1) ≤ 100 * 1001 := Nat.mul_le_mul (by omega) (by omega)
    omega
  generalize unk d.kn * (d.sets.length + 1) + rl.length = q0 at hstart
  have HS := Lib.hid hstart
  have HN := Lib.hid hN
  have HD := Lib.hid hd
  clear h hd hx hstart hrl hN
  go_enter Try.func45, Try.ntmps45
  go_wp2_with fail
  go_loopg [2] q0 (fun q v wr => PkR w wr base D m F d q v)
  case atStart => exact HS.out
  case round =>
    obtain ⟨d1, rl, l, m1, F1, hD, hT, hP, hok, hR, hL, hq, hq9⟩ := hrel
    obtain ⟨A, cc, hv, _, _⟩ := hD.rp.form
    have c5 := hD.c5
    rw [hv] at c5
    obtain ⟨L, hL9⟩ : ∃ L, (d1.dc rl).rl.length = L := ⟨_, rfl⟩
    have hL8 : rl.length = L := hL9
    rw [hL9] at c5 hv
    have hLz : L ≤ 110000 := by omega
    have H := Lib.hid (And.intro hD (And.intro hT (And.intro hP (And.intro hok (And.intro hR (And.intro hL (And.intro hq (And.intro hq9 (And.intro hv hL8)))))))))
    clear hD hT hP hok hR hL hq hq9 hv hL9 hL8 HS
    go_wp2_with fail
    refine (hLen_any (by omega)).mono ?_
    rintro e wx ⟨rfl, rfl⟩
    by_cases h0 : 0 < L
    · obtain ⟨n, rfl⟩ : ∃ n, L = n + 1 := ⟨L - 1, by omega⟩
      have z1 : decide (0 < n + 1) = true := decide_eq_true h0
      have z2 : decide (((n + 1 : Nat) : Int) > 0) = true := decide_eq_true (by omega)
      have z3 : decide ((0 : Int) < ((n + 1 : Nat) : Int)) = true := decide_eq_true (by omega)
      clear h0
      go_wp2_with fail
      have hhf := H.out.1.hf
      rw [H.out.2.2.2.2.2.2.2.2.1] at hhf
      refine (heapPop_any (o := 5) (m := n) (c := cc) hhf H.out.2.2.2.2.2.2.2.2.2 H.out.1.hp H.out.1.ft (by omega)).mono ?_
      rintro x2 w2 ⟨hx2, l', p1, p2, p3, p4, p5⟩
      have hl0 : 0 < rl.length := by have := H.out.2.2.2.2.2.2.2.2.2; omega
      obtain ⟨x, p, ha, hb, hpN, hxk, hor⟩ := H.out.2.2.2.2.1.1 _ (gx_mem hl0)
      have he : gx rl 0 = ⟨x, p⟩ := by rw [← ha, ← hb]
      have hx3 : x2 = .returned (.iface 101 (.agg #[.int .i64 (x : Nat), .int .i64 (p : Nat)])) := by
        rw [hx2]
        show Ending.returned (gx rl 0).any = _
        rw [he]; rfl
      have hpp : (gx rl 0 :: l').Perm rl := p2
      have hpm : ∀ f ∈ rl, (gx rl 0).key ≤ f.key := p4
      subst hx3
      obtain ⟨m2, F2, hD2, hT2⟩ : ∃ m2 F2, Dp w2 base D m2 (d1.dc l') F2 ∧ Turn wr m1 F1 w2 m2 F2 := by
        have := H.out.1.pop H.out.2.2.2.2.2.2.2.2.1 p1 p2 p3 p5
        exact ⟨_, _, this.1, this.2⟩
      have hrs := RS.made (x := x) (p := p) hD2 (H.out.2.1.trans hT2) (H.out.2.2.2.2.2.1.step hT2)
      rw [he] at hpp hpm
      have HP := Lib.hid (And.intro hpp (And.intro hpm (And.intro hpN hxk)))
      clear hx2 ha hb hpN hxk hor he hpp hpm hD2 hT2 p1 p2 p3 p4 p5 c5 hhf hl0
      have has := fun w => assert_el ⟨x, p⟩ w
      go_wp2_with fail
      generalize w2.alloc (.cells #[.int .i64 (x : Nat), .int .i64 (p : Nat)] 101) = w3 at hrs ⊢
      generalize w2.heap.size = K at hrs ⊢
      have c4 := hrs.dp.c4
      have k0 := hrs.bx.1
      have k1 := hrs.bx.2.1
      have cs := hrs.dp.symc (show x < (d1.dc l').k from HP.out.2.2.2)
      have hxk : (x : Int) < (((d1.dc l').k : Nat) : Int) := by have := HP.out.2.2.2; show (x : Int) < ((d1.k : Nat) : Int); omega
      cases hkx : knw d1.kn (x : Int) with
      | true =>
        obtain ⟨gs, cq, _, hsy, _, _, _⟩ := hrs.dp.symk (show x < (d1.dc l').k from HP.out.2.2.2) hkx
        rw [hsy] at cs
        have hq := fun w => neq_some ⟨gs, 0, none⟩ (d1.dc l').s cq w
        have R := Lib.hid hrs
        have HK := Lib.hid hkx
        clear hrs hsy hkx
        go_quiet (fail)
        go_wp2_with fail
        have hrs4 := R.out.drawn nq
        generalize w3.drewN nq = w4 at hrs4 ⊢
        have hln : l'.length = n := by have := HP.out.1.length_eq; have := H.out.2.2.2.2.2.2.2.2.2; simp at *; omega
        go_roundg (gk - 1)
        case measure => have := H.out.2.2.2.2.2.2.1; have := H.out.2.2.2.2.2.2.2.2.2; omega
        case rel =>
          refine ⟨d1, l', l, m2, F2, hrs4.dp, hrs4.tn, H.out.2.2.1, H.out.2.2.2.1, (H.out.2.2.2.2.1.perm HP.out.1).stale HK.out, hrs4.hl, ?_, ?_⟩
          · have := H.out.2.2.2.2.2.2.1; have := H.out.2.2.2.2.2.2.2.2.2; omega
          · have := H.out.2.2.2.2.2.2.2.1; omega
      | false =>
        rw [Dp.symn (c := d1.dc l') (m := m2) hkx] at cs
        have hq := neq_none
        have R := Lib.hid hrs
        have HK := Lib.hid hkx
        clear hrs hkx
        have hnx : Next d1 x p := by
          obtain ⟨x', p', e1, e2, e3⟩ := (H.out.2.2.2.2.1.perm HP.out.1).next H.out.2.2.2.1 HK.out fun f hf => HP.out.2.1 f (HP.out.1.mem_iff.1 hf)
          obtain rfl : x = x' := by have : (x : Int) = x' := e1; omega
          obtain rfl : p = p' := by have : (p : Int) = p' := e2; omega
          exact e3
        have HX := Lib.hid hnx
        clear hnx
        go_quiet (fail)
        go_wp2_with fail
        have hrs4 := R.out.drawn nq
        generalize w3.drewN nq = w4 at hrs4 ⊢
        clear R hq cs c4 k0 k1
        have c0 := hrs4.dp.c0
        have k0 := hrs4.bx.1
        have R := Lib.hid hrs4
        clear hrs4
        go_region_held3 (fun w' => w'.cell? ⟨D, 0, none⟩ = some (.pointer (some ⟨m2.G, 0, none⟩)) ∧ w'.cell? ⟨K, 0, none⟩ = some (.int .i64 (x : Nat))) (first | exact ⟨S5.out.1.dp.c0, S5.out.1.bx.1⟩ | exact ⟨c0, k0⟩ | go_keep)
          (first
            | (go_at_call 64; refine (of_gr (R.out.dp.gr.below (Below.refl _ w4).drew) (x : Int)).mono ?_; rintro e w5 ⟨v5, rfl, ho5, hb5⟩; have S5 := Lib.hid (And.intro (R.out.below (below_undrew hb5)) ho5); clear ho5 hb5))
        have hxL : x < d1.kn.length := by rw [H.out.2.2.2.1.kl]; exact HP.out.2.2.2
        have hW : Hl w5 w.heap.size (m2.all F2) v5 (holds d1.sets (x : Int)) := by
          have ho := S5.out.2
          rw [show owL (d1.dc l').kn (d1.dc l').sets (x : Int) = holds d1.sets (x : Int) from ow_holds hxL HK.out] at ho
          exact Hl.new R.out.dp ho R.out.tn.1.size
        have hrs := S5.out.1
        obtain ⟨A5, c5', hv5⟩ := own_sl hW.1
        obtain ⟨M, hM⟩ : ∃ M, (holds d1.sets (x : Int)).length = M := ⟨_, rfl⟩
        rw [hM] at hv5
        subst hv5
        have hMN : M ≤ 1000 := by
          rw [← hM]
          have h1 := holds_le d1.sets (x : Int)
          have h2 := H.out.2.2.1.same.2.2.2.2.1
          have h3 := HN.out
          rw [h2] at h1
          rw [h2]
          omega
        have HM5 := Lib.hid hM
        clear S5 R c0 k0 hM
        obtain ⟨g, cl, LA, e1, e2, e3, e4, e5⟩ := hrs.dp.lf (p := p) (show p < (d1.dc l').lefts.length from by show p < d1.lefts.length; rw [lefts_length]; exact HP.out.2.2.1)
        have c3 := hrs.dp.c3
        rw [e2] at c3
        have k1 := hrs.bx.2.1
        have pN : (p : Int) < (((d1.dc l').lefts.length : Nat) : Int) := by
          have : (d1.dc l').lefts.length = d1.sets.length := lefts_length d1
          rw [this]; have := HP.out.2.2.1; omega
        obtain ⟨N, hNN⟩ : ∃ N, (d1.dc l').lefts.length = N := ⟨_, rfl⟩
        rw [hNN] at c3 pN
        have hup : (d1.dc l').lefts.getD p [] = d1.left p := lefts_get HP.out.2.2.1
        rw [hup] at e5
        have hsz : d1.s ≤ 65535 := H.out.2.2.2.1.s1.2
        have R := Lib.hid (And.intro hrs (And.intro hW (And.intro e5 hNN)))
        clear hrs hW e1 e2 e4 e5 hNN hup hxL
        go_wp2_with fail
        go_region_held3 (fun w' => w'.cell? ⟨D, 3, none⟩ = some (.slice (some ⟨LA, 0, none⟩) N m2.lc) ∧ w'.cell? ⟨K, 1, none⟩ = some (.int .i64 (p : Nat)) ∧ w'.cell? ⟨LA, p, none⟩ = some (.slice (some ⟨g, 0, none⟩) (d1.dc l').s cl)) (first | exact S6.out.1 | exact ⟨c3, k1, e3⟩ | go_keep)
          (first
            | (go_at_call 42; refine (clone_any ((Rd.of_own R.out.2.2.1).below (Below.refl w5.heap.size w5).drew) (by show d1.s ≤ _; omega)).mono ?_; rintro e w6 ⟨v6, rfl, ho6, hb6⟩; obtain ⟨A6, d6, rfl, hd6, hx6⟩ := own_form ho6; clear hx6 hd6; have hb7 := below_undrew hb6; have S6 := Lib.hid (And.intro (And.intro (cell_below hb7 c3) (And.intro (cell_below hb7 k1) (cell_below hb7 e3))) (And.intro ho6 hb7)); clear ho6 hb6 hb7))
        have c4 := (R.out.1.below S6.out.2.2).dp.c4
        have k0 := (R.out.1.below S6.out.2.2).bx.1
        have f4 := (R.out.1.below S6.out.2.2).dp.sb.frozen x
        have cs6 := (R.out.1.below S6.out.2.2).dp.symc (show x < (d1.dc l').k from HP.out.2.2.2)
        rw [Dp.symn (c := d1.dc l') (m := m2) HK.out] at cs6
        have HM := Lib.hid (PM.start H.out.2.2.2.1 HX.out R.out.1 R.out.2.1 S6.out.2.1 S6.out.2.2)
        clear R c3 k1 e3 pN S6
        go_wp2_with fail
        go_cut [] (fun wx => PM w base D m F u2 l K x p d1 l' (.slice A5 M c5') A6 d6 wx 0)
        case first =>
          go_region
          all_goals go_wp2_with fail
          all_goals go_meet
          all_goals exact HM.out.drew
        case rest =>
          have HC := Lib.hid hcut
          clear hcut HM c4 k0 f4 cs6
          go_wp2_with fail
          go_loopw [63] (fun a wx => ∃ j : Nat, j ≤ M ∧ a = .int .i64 j ∧ PM w base D m F u2 l K x p d1 l' (.slice A5 M c5') A6 d6 wx j) (fun a wx => M - (intOf a).toNat)
          case atStart => exact ⟨0, by omega, rfl, HC.out⟩
          case round =>
            obtain ⟨j, hj, rfl, hT⟩ := hrel
            by_cases hlt : j < M
            · obtain ⟨q, g7, cc7, LA7, lc7, b7, hqN, q3, cq, e5, cb, hcall⟩ := hT.into H.out.2.2.2.1 HX.out HM5.out hlt
              subst e5
              have km : (j : Int) < (M : Int) := by omega
              have kd : decide ((j : Int) < (M : Int)) = true := decide_eq_true km
              have kd' : decide (j < M) = true := decide_eq_true hlt
              have j0 : (0 : Int) ≤ (j : Int) := by omega
              have qN : (q : Int) < ((d1.sets.length : Nat) : Int) := by omega
              have q0 : (0 : Int) ≤ (q : Int) := by omega
              have HI := Lib.hid hcall
              have HJ := Lib.hid hlt
              clear hcall hqN hlt hT
              go_wp2_with fail
              refine HI.out.mono ?_
              rintro e w7 ⟨rfl, h7⟩
              have H7 := Lib.hid h7
              clear h7
              go_wp2_with fail
              exact ⟨⟨j + 1, HJ.out, by go_num, H7.out⟩, by have := HJ.out; simp [intOf]; omega⟩
            · obtain rfl : j = M := by omega
              have kd : decide ((j : Int) < (j : Int)) = false := decide_eq_false (by omega)
              have kd' : decide (j < j) = false := decide_eq_false (by omega)
              have hTM := hT
              rw [← HM5.out] at hTM
              obtain ⟨G, q0c, qk, hcall⟩ := PM.take H.out.2.2.2.1 HX.out (e := ⟨x, p⟩) rfl rfl (H.out.2.2.2.2.1.perm HP.out.1) hTM
              have HI := Lib.hid hcall
              clear hcall hT hTM hlt hj
              go_wp2_with fail
              go_region_held3 (fun w' => w'.cell? ⟨D, 0, none⟩ = some (.pointer (some ⟨G, 0, none⟩)) ∧ w'.cell? ⟨K, 0, none⟩ = some (.int .i64 (x : Nat))) (first | exact S9.out.2 | exact ⟨q0c, qk⟩ | go_keep)
                (first
                  | (go_at_call 65; refine HI.out.mono ?_; rintro e w9 ⟨v9, rfl, h9, h90, h91⟩; have S9 := Lib.hid (And.intro h9 (And.intro h90 h91)); clear h9 h90 h91))
              obtain ⟨A9, c9, hv9⟩ := S9.out.1.form
              obtain ⟨R, hRr⟩ : ∃ R, (tkL d1.kn d1.sets (x : Int)).length = R := ⟨_, rfl⟩
              rw [hRr] at hv9
              subst hv9
              have hR1 : R ≤ d1.sets.length := by rw [← hRr]; exact tkL_le _ _ _
              have hsame : d1.sets = d.sets := H.out.2.2.1.same.2.2.2.2.1
              have hR2 : R ≤ 1000 := by have := HN.out; rw [hsame] at hR1; omega
              have hll : l'.length = n := by have := HP.out.1.length_eq; have := H.out.2.2.2.2.2.2.2.2.2; simp at *; omega
              have H9 := Lib.hid (And.intro S9.out.1 (And.intro hRr (And.intro hR1 (And.intro hsame hll))))
              clear S9 hRr hR1 hsame hll q0c qk HI
              go_wp2_with fail
              go_loopw [89] (fun a wx => ∃ i : Nat, i ≤ R ∧ a = .int .i64 i ∧ PF w base D m F u2 l K x p d1 l'.length (.slice A9 R c9) wx i) (fun a wx => R - (intOf a).toNat)
              case atStart => exact ⟨0, by omega, rfl, H9.out.1⟩
              case round =>
                obtain ⟨i, hi, rfl, hT⟩ := hrel
                by_cases hlt : i < R
                · obtain ⟨q, b7, e5, cb, hqN, hcall⟩ := hT.wait H.out.2.2.2.1 HX.out H9.out.2.1 hlt (by have := H9.out.2.2.2.2; omega)
                  subst e5
                  have km : (i : Int) < (R : Int) := by omega
                  have kd : decide ((i : Int) < (R : Int)) = true := decide_eq_true km
                  have kd' : decide (i < R) = true := decide_eq_true hlt
                  have j0 : (0 : Int) ≤ (i : Int) := by omega
                  have HI := Lib.hid hcall
                  have HJ := Lib.hid hlt
                  clear hcall hqN hlt hT
                  go_wp2_with fail
                  refine HI.out.mono ?_
                  rintro e w7 ⟨rfl, h7⟩
                  have H7 := Lib.hid h7
                  clear h7
                  go_wp2_with fail
                  exact ⟨⟨i + 1, HJ.out, by go_num, H7.out⟩, by have := HJ.out; simp [intOf]; omega⟩
                · obtain rfl : i = R := by omega
                  have kd : decide ((i : Int) < (i : Int)) = false := decide_eq_false (by omega)
                  have kd' : decide (i < i) = false := decide_eq_false (by omega)
                  obtain ⟨k0, hown, hsz⟩ := hT.box
                  obtain ⟨r, hr⟩ : ∃ r, l.length = r := ⟨_, rfl⟩
                  have hr1 : r ≤ 100 := by
                    have h1 := H.out.2.2.1.len HD.out
                    have h2 := unk_le d.kn
                    have h3 := HD.out.kl
                    have h4 := HD.out.k1
                    omega
                  rw [hr] at hown
                  have HT := Lib.hid (And.intro hT (And.intro hr (And.intro hown hsz)))
                  clear hT hr hown hsz hlt
                  go_wp2_with (at_builtin; refine wpList_append_rd _ rfl (.tmp 97) (.tmp 100) _ rfl w.heap.size 3 i0 _ 1 8 Try.underlying23 hi0 hz0 hz1 hz2 rfl (by omega) _ r (nums l) rfl (own_below HT.out.2.2.1 ((Below.refl _ _).alloc (Nat.le_refl _) _)) (some ⟨wr.heap.size, 0, none⟩) 1 1 (nums [(x : Int)]) rfl (Rd.lit _ _ _ _ rfl 1 rfl _ rfl) (nums_one _) (by simp only [maxLen]; omega) (by omega) (by have := HT.out.2.2.2; rw [World.size_alloc]; omega) ?_; intro v1 w3 hown1 hg1 hat1; rw [← nums_append] at hown1)
                  have HW := Lib.hid (And.intro hown1 (And.intro hg1 hat1))
                  clear hown1 hg1 hat1
                  have hT0 : PF w base D m F u2 l K x p d1 l'.length (.slice A9 i c9) wr (tkL d1.kn d1.sets (x : Int)).length := by rw [H9.out.2.1]; exact HT.out.1
                  obtain ⟨m6, F6, rl6, t1, t2, t3, t4, t5⟩ := hT0.told HW.out.2.1 (by rw [HT.out.2.1]; exact HW.out.1) HW.out.2.2
                  rw [H9.out.2.1] at t5
                  have hus := unk_step H.out.2.2.2.1 HX.out d.sets.length
                  generalize unk (d1.took x p).kn * (d.sets.length + 1) = U at hus
                  have hq1 := H.out.2.2.2.2.2.2.1
                  have hq2 := H.out.2.2.2.2.2.2.2.1
                  have hq3 := H.out.2.2.2.2.2.2.2.2.2
                  have hq4 := H9.out.2.2.1
                  have hq5 := H9.out.2.2.2.2
                  rw [H9.out.2.2.2.1] at hq4
                  rw [hus] at hq1
                  have hU : U = unk (d1.took x p).kn * (d.sets.length + 1) := by
                    have := unk_step H.out.2.2.2.1 HX.out d.sets.length
                    omega
                  go_roundg (U + rl6.length)
                  case measure => omega
                  case rel => exact ⟨d1.took x p, rl6, l ++ [(x : Int)], m6, F6, t1, t2, H.out.2.2.1.snoc HX.out, H.out.2.2.2.1.took HX.out, t3, t4, by rw [hU], by omega⟩
    · have z1 : decide (0 < L) = false := decide_eq_false h0
      have z2 : decide ((L : Int) > 0) = false := decide_eq_false (by omega)
      have z3 : decide ((0 : Int) < (L : Int)) = false := decide_eq_false (by omega)
      obtain rfl : L = 0 := by omega
      clear h0
      go_wp2_with fail
      go_ret
      obtain ⟨hD, hT, hP, hok, hR, hL, hq, hq9, hv, hl0⟩ := H.out
      obtain rfl := List.eq_nil_of_length_eq_zero hl0
      exact ⟨_, l, d1, m1, F1, rfl, hP, hR.stable, hD, hT, hL⟩
end Go.Proofs.Ytidoembkcaojoaa
