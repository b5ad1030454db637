/- Chapter 21: PeelScript's walk. -/
import Derived.Test.YtidoembkcaojoaaSq21
namespace Go.Proofs.Ytidoembkcaojoaa
open Go.RowKit
set_option linter.unusedVariables false
theorem add_sets (d : DS) (id : Int) (set : List Int) (pay : List UInt8) (hd : d.ok) : (d.add id set pay).2.2.sets.length ≤ d.sets.length + 1 ∧ (d.add id set pay).2.2.k = d.k := by
  by_cases he : d.err id set pay = 0
  · obtain ⟨out, d', e, h1, _⟩ := add_spec hd he
    rw [e]
    have h2 := h1.same
    refine ⟨?_, h2.1⟩
    show d'.sets.length ≤ _
    rw [h2.2.2.2.2.1]
    show (d.sets ++ [set]).length ≤ _
    rw [List.length_append]; exact Nat.le_refl _
  · rw [dadd_bad he]; exact ⟨Nat.le_succ _, rfl⟩
theorem add_out (d : DS) (id : Int) (set : List Int) (pay : List UInt8) (hd : d.ok) : (d.add id set pay).1.length ≤ 1000 := by
  by_cases he : d.err id set pay = 0
  · obtain ⟨out, d', e, h1, _⟩ := add_spec hd he
    rw [e]
    have h4 := h1.len (hd.addP he)
    have h5 := unk_le (d.addP id set pay).kn
    have h6 := (hd.addP he).kl
    have h7 := (hd.addP he).k1
    show out.length ≤ 1000
    omega
  · rw [dadd_bad he]; exact Nat.zero_le _
theorem rn_made {w w1 w2 : World} {Dx : Nat} {k s most : Int} (hp : ¬ pbad k s most) (h : Lp w w1 Dx (newD k.toNat s.toNat most)) {e : Ending} (hn : RnPost w1 k s most e w2) : ∃ Dr, e = .returned (.tuple #[.pointer (some ⟨Dr, 0, none⟩), .int .i64 0]) ∧ Sp w w2 Dx Dr (newD k.toNat s.toNat most) := by
  unfold RnPost at hn
  rw [if_neg hp] at hn
  obtain ⟨Dr, m, F, rfl, g1, g2⟩ := hn
  obtain ⟨h1, bx, FX, h2, h3⟩ := h
  have hz := h1.size
  have hz2 := g2.size
  refine ⟨Dr, rfl, below_base h1 g2 h1.size, bx, _, FX, m, F, h2.below g2, g1, fun b e => ?_, fun b e e2 => by have := (h3 b e).2; have := (g1.fb b e2).1; omega⟩
  rcases e with e | e
  · have := h3 b e; omega
  · have := g1.fb b e; omega
def RQ (w w4 w5 : World) (Dx : Nat) (dx : DS) (Dr : Nat) (dr : DS) (Hd : Nat → Prop) (V5 : Option Addr) (tl cv5 : Nat) (T1 : List Int) : Prop :=
  Sq w w5 Dx dx Dr dr (fun b => Hd b ∨ (Value.slice V5 tl cv5).ownBlock = some b) ∧ w5.ownsRow w4.heap.size 3 1 (.slice V5 tl cv5) tl (nums T1) ∧ ∀ b, (b < w.heap.size ∨ Hd b) → b < w4.heap.size → w5.heap[b]? = w4.heap[b]?
theorem own_blk {w w' : World} {base size n c : Nat} {e : TypeId} {A : Option Addr} {xs : List Value} (h : w.ownsRow base e size (.slice A n c) n xs) (hk : ∀ a, A = some a → w'.heap[a.block]? = w.heap[a.block]?) : w'.ownsRow base e size (.slice A n c) n xs := by
  refine ⟨h.1, ?_⟩
  rcases h.2 with h0 | ⟨g, cap, cur, hv, hbg, hh, r⟩
  · exact .inl h0
  · injection hv with e1 e2 e3
    subst e1
    exact .inr ⟨g, cap, cur, by rw [e3], hbg, (hk _ rfl).trans hh, r⟩
set_option maxRecDepth 100000 in
set_option maxHeartbeats 12800000 in
theorem script_walk {w : World} {A : Option Addr} {c : Nat} {l : List PA} {k s most : Int} (wk : (Lit.int .i64 k).wf = true) (ws : (Lit.int .i64 s).wf = true) (wm : (Lit.int .i64 most).wf = true) (hl : Rd w A (l.length * 3) (l.flatMap PA.cells) ∧ l.length ≤ c ∧ l.length ≤ 2513169434845 ∧ ∀ a ∈ l, a.ok w) :
    Calls Try.prog 5 #[.int .i64 k, .int .i64 s, .int .i64 most, .slice A l.length c] w fun e w' => e = .returned (.bool true) ∧ Below w.heap.size w w' := by
  have H := Lib.hid (And.intro hl.1 hl.2.2.2)
  have hl9 := hl.2.2.1
  clear hl
  by_cases h1 : k > 60 ∧ k ≤ 65536
  · have d1 : decide (k > 60) = true := decide_eq_true h1.1
    have d1' : decide (60 < k) = true := decide_eq_true h1.1
    have d2 : decide (k ≤ 65536) = true := decide_eq_true h1.2
    clear h1
    go_enter Try.func5, Try.ntmps5
    go_wp2_with fail
    refine awake_any.mono ?_
    rintro e w1 ⟨rfl, hb1⟩
    have HB := Lib.hid hb1
    clear hb1
    go_wp2_with fail
    go_ret
    exact ⟨rfl, HB.out⟩
  · have hk : k ≤ 100 ∨ 65536 < k := by omega
    have HK := Lib.hid hk
    obtain ⟨M, hM⟩ : ∃ M, l.length = M := ⟨_, rfl⟩
    have HM := Lib.hid hM
    rw [hM] at hl9 ⊢
    clear hM
    go_enter Try.func5, Try.ntmps5
    go_upto_region 1 with fail
    go_cut [25] (fun v wx => v = .bool false ∧ wx = w)
    case first =>
      by_cases g1 : k > 60
      · have d1 : decide (k > 60) = true := decide_eq_true g1
        have d1' : decide (60 < k) = true := decide_eq_true g1
        have d2 : decide (k ≤ 65536) = false := decide_eq_false (by omega)
        clear h1 hk g1
        go_wp2_with fail
        go_meet
        exact ⟨rfl, rfl⟩
      · have d1 : decide (k > 60) = false := decide_eq_false g1
        have d1' : decide (60 < k) = false := decide_eq_false g1
        clear h1 hk g1
        go_wp2_with fail
        go_meet
        exact ⟨rfl, rfl⟩
    case rest =>
      obtain ⟨rfl, e0⟩ := hcut
      have e1 := e0.symm
      clear e0
      subst e1
      clear h1 hk
      go_wp2_with fail
      refine (new_dw k s most HK.out).mono ?_
      intro e w1 h3
      by_cases hp : pbad k s most
      · unfold PwPost at h3
        rw [if_pos hp] at h3
        obtain ⟨rfl, hb1⟩ := h3
        have HB1 := Lib.hid (And.intro hp hb1)
        clear hp hb1
        go_wp2_with fail
        refine (rnew_any k s most HK.out).mono ?_
        intro e w2 h4
        unfold RnPost at h4
        rw [if_pos HB1.out.1] at h4
        obtain ⟨rfl, hb2⟩ := h4
        have HB2 := Lib.hid (below_base HB1.out.2 hb2 HB1.out.2.size)
        clear hb2
        go_wp2_with fail
        refine awake_any.mono ?_
        rintro e w3 ⟨rfl, hb3⟩
        have HB3 := Lib.hid (below_base HB2.out hb3 HB2.out.size)
        clear hb3
        go_wp2_with fail
        go_ret
        exact ⟨rfl, HB3.out⟩
      · obtain ⟨Dx, rfl, h4⟩ := lp_new (Below.refl _ _) h3 hp
        have HLx : Hid (Lp w w1 Dx (newD k.toNat s.toNat most)) := Lib.hid h4
        have HP := Lib.hid hp
        clear h3 h4 hp
        go_wp2_with fail
        refine (rnew_any k s most HK.out).mono ?_
        intro e w2 h5
        obtain ⟨Dr, rfl, h6⟩ := rn_made HP.out HLx.out h5
        have HS0 := Lib.hid h6
        clear h5 h6
        go_wp2_with fail
        have hlg := long_any (c := c) (H.out.1.below HS0.out.1)
        rw [HM.out] at hlg
        obtain ⟨q, hq⟩ : ∃ q, longP l = q := ⟨_, rfl⟩
        rw [hq] at hlg
        have HQ := Lib.hid (And.intro hlg hq)
        clear hlg hq
        refine HQ.out.1.mono ?_
        rintro e w3 ⟨rfl, rfl⟩
        cases q with
        | true =>
          go_wp2_with fail
          refine awake_any.mono ?_
          rintro e w4 ⟨rfl, hb4⟩
          have HB4 := Lib.hid (below_base HS0.out.1 hb4 HS0.out.1.size)
          clear hb4
          go_wp2_with fail
          go_ret
          exact ⟨rfl, HB4.out⟩
        | false =>
          have hlong := longP_no HQ.out.2
          have hM50 : M ≤ 50 := by rw [← HM.out]; exact hlong.1
          have HLg := Lib.hid hlong.2
          clear hlong
          go_wp2_with fail
          go_loopw [13] (fun i wr => ∃ (j : Nat) (d : DS), j ≤ M ∧ i = .int .i64 j ∧ Sp w wr Dx Dr d ∧ d.sets.length ≤ j) (fun i wr => M - (intOf i).toNat)
          case atStart => exact ⟨0, _, by omega, rfl, HS0.out, Nat.le_refl _⟩
          case round =>
            obtain ⟨j, d, hj, rfl, hS, hdl⟩ := hrel
            by_cases hlt : j < M
            · have km : (j : Int) < (M : Int) := by omega
              have kd : decide ((j : Int) < (M : Int)) = true := decide_eq_true km
              have kd' : decide (j < M) = true := decide_eq_true hlt
              have j0 : (0 : Int) ≤ (j : Int) := by omega
              have hjl : j < l.length := by rw [HM.out]; exact hlt
              obtain ⟨b, off, e, hbb, hcc⟩ := (H.out.1.below hS.1).form (by omega)
              have hin := List.getElem_mem hjl
              obtain ⟨a, ha⟩ : ∃ a, l[j] = a := ⟨_, rfl⟩
              have hc : ∀ r v, r < 3 → a.cells[r]? = some v → wr.cell? ⟨b, off + j * 3 + r, none⟩ = some v := fun r v hr hv => by
                have := hcc (j * 3 + r) v (by rw [flat_get pa_len hjl hr, ha]; exact hv)
                rw [← Nat.add_assoc] at this
                exact this
              rw [ha] at hin
              have hok := H.out.2 a hin
              have hsz := HLg.out a hin
              obtain ⟨id, PA1, n, cp, set, PB1, m, ce, pay⟩ := a
              have ca : wr.cell? ⟨b, off + j * 3, none⟩ = some (.int .i64 id) := hc 0 _ (by omega) rfl
              have cb : wr.cell? ⟨b, off + j * 3 + 1, none⟩ = some (.slice PA1 n cp) := hc 1 _ (by omega) rfl
              have cd : wr.cell? ⟨b, off + j * 3 + 2, none⟩ = some (.slice PB1 m ce) := hc 2 _ (by omega) rfl
              have hn9 : n ≤ 40 ∧ m ≤ 200 := hsz
              have HX := Lib.hid (And.intro hS (And.intro hok (And.intro hdl (And.intro hlt (H.out.1.lt (by omega) _ e)))))
              subst e
              clear hS hok hdl hlt hj hcc hc hin ha hsz hjl hbb
              have HRr := Lib.hid (And.intro (HX.out.2.1.rs.below HX.out.1.1) (HX.out.2.1.rp.below HX.out.1.1))
              go_wp2_with fail
              go_cut [14, 15] (fun v14 v15 wx => ∃ A1 c1 A2 c2, v14 = .slice A1 n c1 ∧ v15 = .slice A2 m c2 ∧ m + 4 ≤ c2 ∧ Below wr.heap.size wr wx ∧ wx.ownsRow wr.heap.size 3 1 (.slice A1 n c1) n (nums set) ∧ wx.ownsRow wr.heap.size 5 1 (.slice A2 (m + 4) c2) (m + 4) (bys (pay ++ spare)))
              case first =>
                go_region_law (first
                  | (go_simp; go_at_call 27; refine (copyInts_any (HRr.out.1.below (Below.refl _ _).drew) (by omega)).mono ?_; rintro e w4 ⟨v4, rfl, ho, hb⟩; obtain ⟨A1, c1, rfl⟩ := own_sl ho; have H4 := Lib.hid (And.intro ho (below_undrew hb)); have ce4 := cell_below (below_undrew hb) cd; clear ho hb)
                  | (go_simp; go_at_call 28; refine (lent_any (HRr.out.2.below H4.out.2) (by omega)).mono ?_; rintro e w5 ⟨A2, c2, rfl, h1, ho, hb⟩; have H5 := Lib.hid (And.intro h1 (And.intro ho hb)); clear h1 ho hb))
                all_goals go_wp2_with fail
                all_goals go_meet
                all_goals exact ⟨A1, c1, A2, c2, rfl, rfl, H5.out.1, below_base H4.out.2 H5.out.2.2 H4.out.2.size, own_below H4.out.1 H5.out.2.2, own_mono H5.out.2.1 H4.out.2.size⟩
              case rest =>
                rename World => wd
                obtain ⟨A1, c1, A2, c2, rfl, rfl, g1, g2, g3, g4⟩ := hcut
                have H6 := Lib.hid (And.intro g1 (And.intro g2 (And.intro g3 g4)))
                have ca := cell_below g2 ca
                have cb := cell_below g2 cb
                have cd := cell_below g2 cd
                have hQ0 : Sq w wd Dx d Dr d (fun b => wr.heap.size ≤ b ∧ b < wd.heap.size) := HX.out.1.sq g2
                have hpt : (bys (pay ++ spare)).take m = bys pay := by
                  have hm : pay.length = m := by have := HRr.out.2.1; rw [bys_length] at this; exact this
                  rw [bys_append, List.take_left' (by rw [bys_length]; exact hm)]
                have hp2 : Rd wd A2 m (bys pay) := by rw [← hpt]; exact Rd.of_own (own_short g4 (by decide))
                have hadd := sq_add (cA := c1) (cB := c2) (id := id) hQ0 (Below.refl _ _) (by have := HX.out.2.2.1; omega) (Rd.of_own g3) (by omega) hp2 (by omega) HX.out.2.1.wf (fun h0 x hx => .inr (.inr (own_lt g3 x hx))) (fun h0 x hx => .inr (.inr (own_lt g4 x hx)))
                have hao := add_out d id set pay HX.out.1.ok
                have has := add_sets d id set pay HX.out.1.ok
                obtain ⟨⟨T1, T2, T3⟩, hT⟩ : ∃ T, d.add id set pay = T := ⟨_, rfl⟩
                rw [hT] at hao has hadd
                dsimp only at hao has hadd
                obtain ⟨tl, htl⟩ : ∃ tl, T1.length = tl := ⟨_, rfl⟩
                rw [htl] at hao hadd
                have HT := Lib.hid (And.intro hT (And.intro has (And.intro hpt htl)))
                have HA := Lib.hid (And.intro hQ0 hadd)
                clear g1 g2 g3 g4 hQ0 hadd hT has hpt hp2 htl
                go_wp2_with fail
                refine HA.out.2.mono ?_
                rintro e w4 ⟨v4, rfl, p1, p2, p3, p4⟩
                obtain ⟨V4, cv4, rfl⟩ := own_sl p2
                have hold : ∀ b' : Nat, b' < w.heap.size → w4.heap[b']? = wd.heap[b']? := fun b' hb' => p3 b' (.inl hb') (by have := HA.out.1.1.size; omega)
                have rs4 : Rd w4 PA1 n (nums set) := rd_blk (HRr.out.1.below H6.out.2.1) fun h0 x hx => hold _ (HX.out.2.1.rs.lt h0 x hx)
                have rp4 : Rd w4 PB1 m (bys pay) := rd_blk (HRr.out.2.below H6.out.2.1) fun h0 x hx => hold _ (HX.out.2.1.rp.lt h0 x hx)
                have ca := (World.cell?_of_block (a := ⟨b, off + j * 3, none⟩) (hold b HX.out.2.2.2.2)).trans ca
                have cb := (World.cell?_of_block (a := ⟨b, off + j * 3 + 1, none⟩) (hold b HX.out.2.2.2.2)).trans cb
                have cd := (World.cell?_of_block (a := ⟨b, off + j * 3 + 2, none⟩) (hold b HX.out.2.2.2.2)).trans cd
                have a1 : w4.ownsRow wr.heap.size 3 1 (.slice A1 n c1) n (nums set) := own_blk H6.out.2.2.1 fun x hx => p3 _ (.inr (.inr (own_lt H6.out.2.2.1 x hx))) (own_lt H6.out.2.2.1 x hx).2
                have a2 : w4.ownsRow wr.heap.size 5 1 (.slice A2 (m + 4) c2) (m + 4) (bys (pay ++ spare)) := own_blk H6.out.2.2.2 fun x hx => p3 _ (.inr (.inr (own_lt H6.out.2.2.2 x hx))) (own_lt H6.out.2.2.2 x hx).2
                have hrd := sq_radd (cA := cp) (cB := ce) (id := id) (p1.below (Below.refl _ _).drew) (by have := HX.out.2.2.1; omega) HX.out.1.ok (rs4.below (Below.refl _ _).drew) (by omega) (rp4.below (Below.refl _ _).drew) (by omega)
                rw [HT.out.1] at hrd
                dsimp only at hrd
                rw [HT.out.2.2.2] at hrd
                have H4 := Lib.hid (And.intro p1 (And.intro p2 (And.intro p4 (And.intro a1 (And.intro a2 (And.intro (And.intro rs4 rp4) hrd))))))
                clear p1 p2 p3 p4 hold rs4 rp4 a1 a2 hrd
                go_wp2_with fail
                have HQr := Lib.hid (show Calls Try.prog 29 #[.pointer (some ⟨Dr, 0, none⟩), .int .i64 id, .slice PA1 n cp, .slice PB1 m ce] w4.drew fun e w' => ∃ V5 cv5, e = .returned (.tuple #[.slice V5 tl cv5, .int .i64 T2]) ∧ RQ w w4 w' Dx T3 Dr T3 (fun b => (wr.heap.size ≤ b ∧ b < wd.heap.size) ∨ (Value.slice V4 tl cv4).ownBlock = some b) V5 tl cv5 T1 from H4.out.2.2.2.2.2.2.mono (by
                  rintro e w5 ⟨v5, rfl, r1, r2, r3, r4⟩
                  obtain ⟨V5, cv5, rfl⟩ := own_sl r2
                  exact ⟨V5, cv5, rfl, r1, r2, r3⟩))
                go_cut [18, 19] (fun v18 v19 wx => ∃ V5 cv5, v18 = .slice V5 tl cv5 ∧ v19 = .int .i64 T2 ∧ RQ w w4 wx Dx T3 Dr T3 (fun b => (wr.heap.size ≤ b ∧ b < wd.heap.size) ∨ (Value.slice V4 tl cv4).ownBlock = some b) V5 tl cv5 T1)
                case first =>
                  go_region_with (go_at_call 29; refine HQr.out.mono ?_; rintro e w5 ⟨V5, cv5, rfl, hrq⟩; have HRQ := Lib.hid hrq; clear hrq)
                  all_goals go_wp2_with fail
                  all_goals go_meet
                  all_goals exact ⟨V5, cv5, rfl, rfl, HRQ.out⟩
                case rest =>
                  obtain ⟨V5, cv5, rfl, rfl, r1, r2, r3⟩ := hcut
                  rename World => w5
                  have hold : ∀ b' : Nat, b' < w.heap.size → w5.heap[b']? = w4.heap[b']? := fun b' hb' => r3 b' (.inl hb') (by have := H4.out.1.1.size; exact Nat.lt_of_lt_of_le hb' this)
                  have rs5 : Rd w5 PA1 n (nums set) := rd_blk H4.out.2.2.2.2.2.1.1 fun h0 x hx => hold _ (HX.out.2.1.rs.lt h0 x hx)
                  have rp5 : Rd w5 PB1 m (bys pay) := rd_blk H4.out.2.2.2.2.2.1.2 fun h0 x hx => hold _ (HX.out.2.1.rp.lt h0 x hx)
                  have cb := (World.cell?_of_block (a := ⟨b, off + j * 3 + 1, none⟩) (hold b HX.out.2.2.2.2)).trans cb
                  have cd := (World.cell?_of_block (a := ⟨b, off + j * 3 + 2, none⟩) (hold b HX.out.2.2.2.2)).trans cd
                  have b1 : w5.ownsRow wr.heap.size 3 1 (.slice A1 n c1) n (nums set) := own_blk H4.out.2.2.2.1 fun x hx => r3 _ (.inr (.inl (by have := own_lt H6.out.2.2.1 x hx; exact this))) (own_lt H4.out.2.2.2.1 x hx).2
                  have b2 : w5.ownsRow wr.heap.size 5 1 (.slice A2 (m + 4) c2) (m + 4) (bys (pay ++ spare)) := own_blk H4.out.2.2.2.2.1 fun x hx => r3 _ (.inr (.inl (by have := own_lt H6.out.2.2.2 x hx; exact this))) (own_lt H4.out.2.2.2.2.1 x hx).2
                  have b4 : w5.ownsRow wd.heap.size 3 1 (.slice V4 tl cv4) tl (nums T1) := own_blk H4.out.2.1 fun x hx => r3 _ (.inr (.inr (own_b1 hx))) (own_lt H4.out.2.1 x hx).2
                  have hq := sameInts_any (c := cv4) (c' := cv5) (Rd.of_own b4) (Rd.of_own r2) (by omega)
                  rw [show (T1 == T1) = true from by simp] at hq
                  have H5 := Lib.hid (And.intro r1 (And.intro hq (And.intro b1 (And.intro b2 (And.intro rs5 rp5)))))
                  clear r1 r2 r3 hold rs5 rp5 b1 b2 b4 hq ca
                  go_wp2_with fail
                  refine H5.out.2.1.mono ?_
                  rintro e w6 ⟨rfl, hb6⟩
                  have cb := cell_below hb6 cb
                  have cd := cell_below hb6 cd
                  have hq := sameInts_any (c := c1) (c' := cp) ((Rd.of_own H5.out.2.2.1).below hb6) (H5.out.2.2.2.2.1.below hb6) (by omega)
                  rw [show (set == set) = true from by simp] at hq
                  have H7 := Lib.hid (And.intro hq hb6)
                  clear hq hb6
                  go_wp2_with fail
                  refine H7.out.1.mono ?_
                  rintro e w7 ⟨rfl, hb7⟩
                  have cd := cell_below hb7 cd
                  have hb57 := below_base H7.out.2 hb7 H7.out.2.size
                  have hq := kept_any (c := c2) (c' := ce) ((Rd.of_own H5.out.2.2.2.1).below hb57) (H5.out.2.2.2.2.2.below hb57) (by omega) H6.out.1
                  have H8 := Lib.hid (And.intro hq hb57)
                  clear hq hb7 hb57 cb
                  go_wp2_with fail
                  refine H8.out.1.mono ?_
                  rintro e w8 ⟨rfl, hb8⟩
                  have hb58 := below_base H8.out.2 hb8 H8.out.2.size
                  have hS8 := H5.out.1.below hb58
                  have H9 := Lib.hid (And.intro hS8 (And.intro hb58 (alike_any hS8.sp)))
                  clear hb8 hb58 hS8 cd
                  go_wp2_with fail
                  refine H9.out.2.2.mono ?_
                  rintro e w9 ⟨rfl, hb9⟩
                  have hb59 := below_base H9.out.2.1 hb9 H9.out.2.1.size
                  have H10 := Lib.hid (And.intro (H9.out.1.below hb9) (And.intro (own_below H5.out.2.2.1 hb59) (own_below H5.out.2.2.2.1 hb59)))
                  clear hb9 hb59
                  go_wp2_with fail
                  refine (overOwn H10.out.2.1 (by omega)).mono ?_
                  rintro e wa ⟨rfl, hca⟩
                  have ha2 := hca.own (H10.out.2.2) fun x hx => own_apart H10.out.2.1 H10.out.2.2 (by decide) x hx
                  have hsa := H10.out.1.turn hca fun b' hb' e => by
                    obtain ⟨x, hx, ex⟩ := ownB e
                    have := own_lt H6.out.2.2.1 x hx
                    rw [ex] at this
                    exact ⟨.inl (.inl this), by have := HX.out.1.1.size; omega⟩
                  have H11 := Lib.hid (And.intro hsa (And.intro (own_short ha2 (by decide)) ha2))
                  clear hca ha2 hsa
                  go_wp2_with fail
                  have hov := overOwnS (w := wa) (base := wr.heap.size) (A := A2) (n := m) (c := c2) (l := pay) (by have := H11.out.2.1; rw [HT.out.2.2.1] at this; exact this) (by obtain ⟨g9, cur9, _, h8, h9, _⟩ := own_formN H11.out.2.2 (by omega); omega) (by omega)
                  refine hov.mono ?_
                  rintro e wb ⟨rfl, hcb⟩
                  clear hov
                  have hsb := H11.out.1.turn hcb fun b' hb' e => by
                    rcases e with e | e
                    · obtain ⟨x, hx, ex⟩ := ownB e
                      have := own_lt H6.out.2.2.2 x hx
                      rw [ex] at this
                      exact ⟨.inl (.inl this), by have := HX.out.1.1.size; omega⟩
                    · omega
                  have H12 := Lib.hid hsb.sp
                  clear hcb hsb
                  go_wp2_with fail
                  exact ⟨⟨j + 1, T3, HX.out.2.2.2.1, by go_num, H12.out, by have h1 := HT.out.2.1.1; have h2 := HX.out.2.2.1; omega⟩, by have := HX.out.2.2.2.1; simp [intOf]; omega⟩
            · have kd : decide ((j : Int) < (M : Int)) = false := decide_eq_false (by omega)
              have kd' : decide (j < M) = false := decide_eq_false (by omega)
              have HS := Lib.hid hS
              clear hS hdl hj hlt
              go_wp2_with fail
              refine (alike_any HS.out).mono ?_
              rintro e w4 ⟨rfl, hb4⟩
              have HB4 := Lib.hid (below_base HS.out.1 hb4 HS.out.1.size)
              clear hb4
              go_wp2_with fail
              refine awake_any.mono ?_
              rintro e w5 ⟨rfl, hb5⟩
              have HB5 := Lib.hid (below_base HB4.out hb5 HB4.out.size)
              clear hb5
              go_wp2_with fail
              go_ret
              exact ⟨rfl, HB5.out⟩
end Go.Proofs.Ytidoembkcaojoaa
