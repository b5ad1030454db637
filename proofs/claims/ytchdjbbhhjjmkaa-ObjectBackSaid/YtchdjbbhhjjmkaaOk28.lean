/- Chapter 28: small; ObjectBack's walk. -/
import Derived.Test.YtchdjbbhhjjmkaaOc28
import Derived.Test.YtchdjbbhhjjmkaaPq28
namespace Go.Proofs.Ytchdjbbhhjjmkaa
open Go.RowKit
set_option linter.unusedVariables false
set_option maxRecDepth 100000 in
set_option maxHeartbeats 3200000 in
theorem small_any {w : World} {n : Nat} {k s : Int} (hn : n ≤ 200) (hk : (Lit.int .i64 k).wf = true) (hs : (Lit.int .i64 s).wf = true) :
    Calls Try.prog 22 #[.int .i64 (n : Int), .int .i64 k, .int .i64 s] w fun e w' => ∃ A', e = .returned (.agg #[.int .i64 (n : Int), .int .i64 (1 + s % 6), .int .i64 (1 + k % 6), .int .i64 0, .slice A' 1 1]) ∧ MA w' A' 1 1 (smM n k s) ∧ Below w.heap.size w w' := by
  have h1 := Int.emod_nonneg s (show (6 : Int) ≠ 0 by decide)
  have h2 := Int.emod_lt_of_pos s (show (0 : Int) < 6 by decide)
  have h3 := Int.emod_nonneg k (show (6 : Int) ≠ 0 by decide)
  have h4 := Int.emod_lt_of_pos k (show (0 : Int) < 6 by decide)
  have HA := Lib.hid (And.intro (pick_any (w := w.alloc (.cells #[.int .i64 0, .int .i64 0, .int .i64 0, .int .i64 0, .slice none 0 0] 24)) s 6 hs (by decide) (by decide)) (pick_any (w := w.alloc (.cells #[.int .i64 0, .int .i64 0, .int .i64 0, .int .i64 0, .slice none 0 0] 24)) k 6 hk (by decide) (by decide)))
  have HB := Lib.hid (fun (wx : World) (h : Rd wx (some ⟨w.heap.size + 1, 0, none⟩) 1 (nums [1])) => (show MA wx (some ⟨w.heap.size + 1, 0, none⟩) 1 1 (smM n k s) from ⟨h, Nat.le_refl _, by omega, rfl, by unfold R64 smM; simp only; omega, by unfold R64 smM; simp only; omega, by unfold R64 smM; simp only; omega, by unfold R64 smM; simp only; omega, fun x hx => by
    have : x = 1 := by
      have hx' : x ∈ [(1 : Int)] := hx
      simpa using hx'
    subst this
    constructor <;> decide⟩))
  obtain ⟨x, hx⟩ : ∃ x, s % 6 = x := ⟨_, rfl⟩
  obtain ⟨y, hy⟩ : ∃ y, k % 6 = y := ⟨_, rfl⟩
  rw [hx] at HA h1 h2 ⊢
  rw [hy] at HA h3 h4 ⊢
  have hwx : IntKind.i64.wrap (1 + x) = 1 + x := by rw [IntKind.wrap_i64]; omega
  have hwy : IntKind.i64.wrap (1 + y) = 1 + y := by rw [IntKind.wrap_i64]; omega
  clear hx hy
  have hz := Bk.newA w 24 #[.int .i64 0, .int .i64 0, .int .i64 0, .int .i64 0, .slice none 0 0]
  have h5 := hz.alloc (.cells #[.int .i64 1] 3)
  have g0 := h5.frozen 0
  have g1 := h5.frozen 1
  have g2 := h5.frozen 2
  have g3 := h5.frozen 3
  have g4 := h5.frozen 4
  obtain ⟨m0, m1, m2, m3, m4⟩ := cells5 h5
  clear hz h5
  go_enter Try.func22, Try.ntmps22
  go_wp2_with fail
  refine HA.out.1.mono ?_
  rintro e w2 ⟨rfl, rfl⟩
  go_wp2_with fail
  refine HA.out.2.mono ?_
  rintro e w2 ⟨rfl, rfl⟩
  go_wp2_with fail
  have hz := (Bk.newA w 24 #[.int .i64 (n : Int), .int .i64 (1 + x), .int .i64 (1 + y), .int .i64 0, .slice (some ⟨w.heap.size + 1, 0, none⟩) 1 1]).alloc (.cells #[.int .i64 1] 3)
  refine ret_mf rfl rfl rfl hz ⟨some ⟨w.heap.size + 1, 0, none⟩, rfl, HB.out _ (Rd.lit _ _ _ _ (by rw [World.size_alloc]) 1 rfl _ rfl), ((Below.refl _ _).alloc (Nat.le_refl _) _).alloc (by rw [World.size_alloc]; exact Nat.le_succ _) _⟩
/-- One more row, behind an append. -/
theorem rows_app {W w5 w6 : World} {base n s c5 : Nat} {A5 : Option Addr} {v : Value} {vs : List Value} {o : Obj} {xss : List (List UInt8)} {r : List UInt8}
    (h4 : ORows W base vs xss) (hW : base ≤ W.heap.size) (hv : W.ownsRow base 32 1 v n vs) (hb5 : Below W.heap.size W w5)
    (hrow : w5.ownsRow W.heap.size 5 1 (.slice A5 s c5) s (bys r)) (hr : r.length = s) (hg6 : (w5.alloc o).grownBy w6 v.ownBlock) :
    ORows w6 base (vs ++ [.slice A5 s c5]) (xss ++ [r]) ∧ Chg (fun b => v.ownBlock = some b) w5 w6 := by
  have q3 := own_below hv hb5
  have q4 := h4.below hb5
  have hc6 : Chg (fun b => v.ownBlock = some b) w5 w6 := ((Chg.refl _ w5).alloc o).trans (Chg.of_grown hg6 (S := fun b => v.ownBlock = some b) fun k e => e) fun _ _ x => x
  refine ⟨?_, hc6⟩
  subst hr
  refine ORows.snoc (B := W.heap.size) ⟨q4.1, fun i y hy => ?_, q4.2.2⟩ ?_ hW fun i v b hv e => (h4.blk i v b hv e).2
  · obtain ⟨A', c', h1, h2⟩ := q4.2.1 i y hy
    exact ⟨A', c', h1, hc6.own h2 fun a ha e => by
      rcases q3.2 with ⟨rfl, _⟩ | ⟨g', cap, cur, rfl, hx⟩
      · cases e
      · exact own_apart q3 h2 (by decide) a ha e⟩
  · exact hc6.own hrow fun a ha e => by
      rcases q3.2 with ⟨rfl, _⟩ | ⟨g', cap, cur, rfl, hx⟩
      · cases e
      · exact own_apart q3 hrow (by decide) a ha e
/-- The object's manifest in a block, above older memory. -/
def KS (w w3 w' : World) (G : Nat) (A : Option Addr) (z s k : Int) (nd : Nat) (D : Option Addr) (data : List UInt8) : Prop :=
  Bk w' G 24 [.int .i64 z, .int .i64 s, .int .i64 k, .int .i64 0, .slice A 1 1] ∧ MA w' A 1 1 ⟨z, s, k, 0, [1]⟩ ∧ Rd w' D nd (bys data) ∧ Below w3.heap.size w3 w' ∧ Below w.heap.size w w'
theorem KS.below {w w3 w' w'' : World} {G : Nat} {A : Option Addr} {z s k : Int} {nd : Nat} {D : Option Addr} {data : List UInt8} (h : KS w w3 w' G A z s k nd D data) (hb : Below w'.heap.size w' w'') : KS w w3 w'' G A z s k nd D data :=
  ⟨h.1.belowS hb, h.2.1.below hb, h.2.2.1.below hb, below_base h.2.2.2.1 hb h.2.2.2.1.size, below_base h.2.2.2.2 hb h.2.2.2.2.size⟩
set_option maxRecDepth 100000 in
set_option maxHeartbeats 6400000 in
theorem objectBack_any {w : World} {D : Option Addr} {nd cd : Nat} {data : List UInt8} {k s : Int} (hd : Rd w D nd (bys data)) (hcd : nd ≤ cd) (hnd : nd ≤ 140737488351232) (hk : (Lit.int .i64 k).wf = true) (hs : (Lit.int .i64 s).wf = true) :
    Calls Try.prog 7 #[.slice D nd cd, .int .i64 k, .int .i64 s] w fun e w' => e = .returned (.bool true) ∧ Below w.heap.size w w' := by
  have hdl : data.length = nd := by have := hd.1; simpa [bys_length] using this
  have HX := Lib.hid (And.intro hd (And.intro hcd (And.intro hk (And.intro hs hdl))))
  clear hd hcd hk hs hdl
  by_cases hbig : 200 < nd
  · have d1 : decide ((nd : Int) > 200) = true := by simp; omega
    have d2 : decide (200 < nd) = true := by simp; omega
    go_enter Try.func7, Try.ntmps7
    go_wp2_with fail
    refine objectKnown_any.mono ?_
    rintro e w1 ⟨rfl, hb1⟩
    have H1 := Lib.hid hb1
    clear hb1 hbig
    go_wp2
    go_ret
    exact ⟨rfl, H1.out⟩
  · have d1 : decide ((nd : Int) > 200) = false := by simp; omega
    have d2 : decide (200 < nd) = false := by simp; omega
    have hn200 : (nd : Int) ≤ 200 := by omega
    have hok := smM_ok (z := nd) k s (by omega)
    have hN200 := smM_N (z := nd) k s (by omega)
    have hN0 := mfN_range (m := smM nd k s)
    obtain ⟨N, hN⟩ : ∃ N : Nat, mfN (smM nd k s) = N := ⟨(mfN (smM nd k s)).toNat, by omega⟩
    have hNb : (N : Int) ≤ 200 := by omega
    have HN := Lib.hid (And.intro hok hN)
    have hR1 := Int.emod_nonneg s (show (6 : Int) ≠ 0 by decide)
    have hR2 := Int.emod_lt_of_pos s (show (0 : Int) < 6 by decide)
    have hR3 := Int.emod_nonneg k (show (6 : Int) ≠ 0 by decide)
    have hR4 := Int.emod_lt_of_pos k (show (0 : Int) < 6 by decide)
    clear hok hN200 hN0 hN hbig hnd
    obtain ⟨S, hS⟩ : ∃ S, 1 + s % 6 = S := ⟨_, rfl⟩
    obtain ⟨K, hK⟩ : ∃ K, 1 + k % 6 = K := ⟨_, rfl⟩
    have hSM : smM nd k s = ⟨(nd : Int), S, K, 0, [1]⟩ := by unfold smM; rw [hS, hK]
    have HM := Lib.hid (And.intro hSM (And.intro hS hK))
    have hSK : 1 ≤ S ∧ S ≤ 6 ∧ 1 ≤ K ∧ K ≤ 6 := by omega
    clear hSM hS hK hR1 hR2 hR3 hR4
    rw [HM.out.1] at HN
    obtain ⟨i0, hi0, hz0, hz1, hz2⟩ := info_parts ints2_info
    go_enter Try.func7, Try.ntmps7
    go_wp2_with fail
    refine objectKnown_any.mono ?_
    rintro e w1 ⟨rfl, hb1⟩
    have H1 := Lib.hid hb1
    clear hb1
    go_wp2_with fail
    refine (small_any (by omega) HX.out.2.2.1 HX.out.2.2.2.1).mono ?_
    rintro e w3 ⟨A3, rfl, hm3, hb3⟩
    rw [HM.out.2.1, HM.out.2.2]
    rw [HM.out.1] at hm3
    have hb4 := (Below.refl w3.heap.size w3).alloc (Nat.le_refl _) (.cells #[.int .i64 (nd : Int), .int .i64 S, .int .i64 K, .int .i64 0, .slice A3 1 1] 24)
    have hb03 := below_base H1.out hb3 H1.out.size
    have H4 := Lib.hid (show KS w w3 (w3.alloc (.cells #[.int .i64 (nd : Int), .int .i64 S, .int .i64 K, .int .i64 0, .slice A3 1 1] 24)) w3.heap.size A3 nd S K nd D data from ⟨Bk.newA w3 _ _, hm3.below hb4, (HX.out.1.below hb03).below hb4, hb4, below_base hb03 hb4 hb03.size⟩)
    have H3 := Lib.hid (And.intro hm3 (And.intro (HX.out.1.below hb03) hb03))
    clear hm3 hb3 hb4 hb03
    obtain ⟨c0, c1, c2, c3, c4⟩ := cells5 H4.out.1
    go_wp2_with fail
    clear c0 c1 c2 c3 c4
    generalize w3.alloc (.cells #[.int .i64 (nd : Int), .int .i64 S, .int .i64 K, .int .i64 0, .slice A3 1 1] 24) = w4 at H4 ⊢
    generalize hG : w3.heap.size = G at H4 ⊢
    have HG := Lib.hid hG
    clear hG
    refine (blocks_any H4.out.2.1).mono ?_
    rintro e wb ⟨rfl, hbb⟩
    rw [HN.out.2]
    have HB := Lib.hid (H4.out.below hbb)
    clear hbb
    go_wp2
    go_loopw [10, 11] (fun v i wr => ∃ (j : Nat) (vs : List Value), j ≤ N ∧ i = .int .i64 (j : Int) ∧ wr.ownsRow wb.heap.size 32 1 v j vs ∧ ORows wr wb.heap.size vs (partsL ⟨(nd : Int), S, K, 0, [1]⟩ data j) ∧ Below wb.heap.size wb wr) (fun v i wr => N - (intOf i).toNat)
    case atStart => exact ⟨0, [], by omega, rfl, World.ownsRow_nil _ _ _ _, ORows.nil _ _, Below.refl _ _⟩
    case round =>
      obtain ⟨j, vs, hj, rfl, ho, hr, hbw⟩ := hrel
      by_cases hlt : j < N
      · obtain ⟨s1, s2, s3, s4, s5⟩ := sy_in (data := data) HN.out.1 (by rw [HX.out.2.2.2.2]) (i := j) (by rw [HN.out.2]; omega)
        have hKr := HB.out.below hbw
        have hplen : (syP ⟨(nd : Int), S, K, 0, [1]⟩ data (j : Int)).length ≤ 200 := by
          unfold syP
          rw [List.length_take, List.length_drop]
          have := HX.out.2.2.2.2
          omega
        obtain ⟨Av, cv, rfl, _⟩ := own_form ho
        have HK := Lib.hid (And.intro ho (And.intro hr (And.intro hbw (And.intro hlt (And.intro hKr (And.intro s4 (And.intro s3 hplen)))))))
        have HS := Lib.hid (symbols_any hKr.2.1 hKr.2.2.1 HX.out.2.1 (by omega) (show R64 (j : Int) by unfold R64; omega))
        rw [s1] at HS
        obtain ⟨L, hL⟩ : ∃ L, (syV ⟨(nd : Int), S, K, 0, [1]⟩ data (j : Int)).length = L := ⟨_, rfl⟩
        have hLK : (L : Int) = K := by rw [← hL]; exact s4
        have hne : ((L : Int) != K) = false := by rw [hLK]; simp
        have HP := Lib.hid (And.intro hL s2)
        have km : (j : Int) < (N : Int) := by omega
        obtain ⟨c0, c1, c2, c3, c4⟩ := cells5 hKr.1
        clear ho hr hbw hlt hKr s1 s2 s3 s4 s5 hplen hj hL
        go_wp2_with fail
        refine HS.out.mono ?_
        rintro e w6 ⟨v6, vs6, rfl, ho6, hr6, hb6⟩
        rw [HP.out.1] at ho6
        obtain ⟨A6, d6, rfl, hd6, hs6⟩ := own_syms ho6 hr6
        have H6 := Lib.hid (And.intro (HK.out.2.2.2.2.1.below hb6) (And.intro hs6 hb6))
        clear ho6 hr6 hs6 hb6 hd6 c0 c1 c2 c3 c4
        obtain ⟨c0, c1, c2, c3, c4⟩ := cells5 H6.out.1.1
        go_wp2_with fail
        have HT := Lib.hid (opart_any (cc := d6) H6.out.1.2.1 H6.out.2.1 (by omega) (show R64 (j : Int) by unfold R64; omega))
        rw [HP.out.2, HK.out.2.2.2.2.2.2.1] at HT
        refine HT.out.mono ?_
        rintro e w7 ⟨v7, rfl, ho7, hb7⟩
        obtain ⟨L7, hL7⟩ : ∃ L, (syP ⟨(nd : Int), S, K, 0, [1]⟩ data (j : Int)).length = L := ⟨_, rfl⟩
        rw [hL7] at ho7
        obtain ⟨A7, d7, rfl, _⟩ := own_form ho7
        have H7 := Lib.hid (And.intro (H6.out.1.below hb7) (And.intro (below_base H6.out.2.2 hb7 H6.out.2.2.size) (And.intro (own_mono ho7 H6.out.2.2.size) hL7)))
        clear ho7 hb7 hL7 c0 c1 c2 c3 c4 HT HS
        obtain ⟨c0, c1, c2, c3, c4⟩ := cells5 H7.out.1.1
        have hob := own_below (own_below HK.out.1 H7.out.2.1) ((Below.refl w7.heap.size w7).alloc (Nat.le_refl _) (.cells #[.slice A7 L7 d7] 32))
        go_wp2_with (at_builtin; refine wpList_append_rd _ rfl (.tmp 66) (.tmp 68) _ rfl wb.heap.size 32 i0 _ 1 24 Try.underlying25 hi0 hz0 hz1 hz2 rfl (by omega) _ j vs rfl hob (some ⟨w7.heap.size, 0, none⟩) 1 1 [.slice A7 L7 d7] rfl (Rd.lit _ _ _ _ rfl 1 rfl _ rfl) slice_one (by simp only [maxLen]; omega) (by omega) (by have := HK.out.2.2.1.size; have := H7.out.2.1.size; rw [World.size_alloc]; omega) ?_; intro v8 w8 hown8 hg8 hat8)
        obtain ⟨r1, r2⟩ := rows_app HK.out.2.1 HK.out.2.2.1.size HK.out.1 H7.out.2.1 H7.out.2.2.1 H7.out.2.2.2 hg8
        refine ⟨⟨j + 1, _, by have := HK.out.2.2.2.1; omega, by go_num, hown8, by rw [partsL_succ]; exact r1, ?_⟩, by have := HK.out.2.2.2.1; simp [intOf]; omega⟩
        exact r2.below (below_base HK.out.2.2.1 H7.out.2.1 HK.out.2.2.1.size) (fun b _ e => (HK.out.1.lt b e).1) (Nat.le_trans HK.out.2.2.1.size H7.out.2.1.size)
      · obtain rfl : j = N := by omega
        obtain ⟨p1, p2⟩ := parts_all (data := data) HN.out.1 (by rw [HX.out.2.2.2.2]) HN.out.2
        have p3 := sy_out (data := data) HN.out.1 (by rw [HX.out.2.2.2.2]) HN.out.2
        have hKr := HB.out.below hbw
        obtain ⟨Av, cv, rfl, hcv, hsy⟩ := own_syms ho hr
        have HK := Lib.hid (And.intro hKr (And.intro hsy (And.intro p1 (And.intro p2 p3))))
        have HPL := Lib.hid (show ∀ x ∈ partsL ⟨(nd : Int), S, K, 0, [1]⟩ data j, x.length ≤ 65535 from fun x hx => by
          unfold partsL at hx
          obtain ⟨i, _, rfl⟩ := List.mem_map.1 hx
          unfold syP
          rw [List.length_take, List.length_drop]
          have := HX.out.2.2.2.2
          omega)
        obtain ⟨c0, c1, c2, c3, c4⟩ := cells5 hKr.1
        clear ho hr hbw hlt hKr hsy p1 p2 p3 hj hcv
        go_wp2_with fail
        refine (ojoin_any HK.out.1.2.1 HK.out.2.1 (by omega) HPL.out).mono ?_
        rintro e w6 ⟨v6, rfl, ho6, hb6⟩
        rw [HK.out.2.2.1]
        rw [HK.out.2.2.2.1, HX.out.2.2.2.2] at ho6
        obtain ⟨A6, d6, rfl, _⟩ := own_form ho6
        have hGs := HK.out.1.1.lt
        have H6 := Lib.hid (And.intro (HK.out.1.below hb6) (And.intro ho6 hGs))
        clear ho6 hb6 hGs c0 c1 c2 c3 c4
        obtain ⟨c0, c1, c2, c3, c4⟩ := cells5 H6.out.1.1
        go_wp2_with fail
        have HT := Lib.hid (symbols_any H6.out.1.2.1 H6.out.1.2.2.1 HX.out.2.1 (by omega) (show R64 (j : Int) by unfold R64; omega))
        rw [HK.out.2.2.2.2] at HT
        refine HT.out.mono ?_
        rintro e w7 ⟨v7, vs7, rfl, ho7, _, hb7⟩
        obtain ⟨A7, d7, rfl, _⟩ := own_form ho7
        have h7 := H6.out.1.below hb7
        have c0' := h7.1.cell 0
        have f0' := h7.1.frozen 0
        have hset : Bk (w7.setCell ⟨G, 0, none⟩ (.int .i64 ((nd : Int) + 1))) G 24 [.int .i64 ((nd : Int) + 1), .int .i64 S, .int .i64 K, .int .i64 0, .slice A3 1 1] := h7.1.set_ 0 (.int .i64 ((nd : Int) + 1))
        have hb37 : Below w3.heap.size w3 (w7.setCell ⟨G, 0, none⟩ (.int .i64 ((nd : Int) + 1))) := h7.2.2.2.1.setCell (p := ⟨G, 0, none⟩) (by rw [HG.out]; exact Nat.le_refl _) _
        have hmz : MA (w7.setCell ⟨G, 0, none⟩ (.int .i64 ((nd : Int) + 1))) A3 1 1 ⟨(nd : Int) + 1, S, K, 0, [1]⟩ := ⟨(H3.out.1.below hb37).1, H3.out.1.2.1, H3.out.1.2.2.1, H3.out.1.2.2.2.1, by unfold R64; simp only; omega, H3.out.1.2.2.2.2.2⟩
        have hcG : Chg (fun b => b = G) w7 (w7.setCell ⟨G, 0, none⟩ (.int .i64 ((nd : Int) + 1))) := (Chg.refl (fun b => b = G) w7).set_ (g := G) (show (fun b => b = G) G from rfl) _ _
        have ho67 := hcG.own (own_below H6.out.2.1 hb7) (fun a ha (e : a.block = G) => by have := (own_ge H6.out.2.1 a ha).1; have := H6.out.2.2; omega)
        have H8 := Lib.hid (And.intro hset (And.intro hmz (And.intro (H3.out.2.1.below hb37) (And.intro ho67 (below_base H3.out.2.2 hb37 H3.out.2.2.size)))))
        have hwz : IntKind.i64.wrap ((nd : Int) + 1) = (nd : Int) + 1 := by rw [IntKind.wrap_i64]; omega
        clear ho7 hb7 h7 hset hb37 hmz hcG ho67 c0 c1 c2 c3 c4 HT
        have c0 := c0'
        clear c0'
        obtain ⟨e0, e1, e2, e3, e4⟩ := cells5 H8.out.1
        go_wp2_with fail
        clear e0 e1 e2 e3 e4 c0 f0'
        have hE2 : syE ⟨(nd : Int) + 1, S, K, 0, [1]⟩ data 0 = 2 := by
          unfold syE
          rw [if_neg]
          rintro ⟨_, h⟩
          rw [HX.out.2.2.2.2] at h
          simp only at h
          omega
        have HT := Lib.hid (symbols_any H8.out.2.1 H8.out.2.2.1 HX.out.2.1 (by omega) (b := 0) (by constructor <;> decide))
        rw [hE2] at HT
        clear hE2
        refine HT.out.mono ?_
        rintro e w9 ⟨v9, vs9, rfl, ho9, _, hb9⟩
        obtain ⟨A9, d9, rfl, _⟩ := own_form ho9
        have H9 := Lib.hid (And.intro (Rd.of_own (own_below H8.out.2.2.2.1 hb9)) (And.intro (H8.out.2.2.1.below hb9) (below_base H8.out.2.2.2.2 hb9 H8.out.2.2.2.2.size)))
        clear ho9 hb9 HT
        go_wp2_with fail
        refine (same_true H9.out.1 H9.out.2.1).mono ?_
        rintro e w10 ⟨rfl, rfl⟩
        go_wp2
        go_ret
        exact ⟨rfl, H9.out.2.2⟩
theorem objectBack_walk {w : World} {D : Option Addr} {nd cd : Nat} {data : List UInt8} {k s : Int} (h : Rd w D nd (bys data) ∧ nd ≤ cd ∧ nd ≤ 140737488351232) (hk : (Lit.int .i64 k).wf = true) (hs : (Lit.int .i64 s).wf = true) :
    Calls Try.prog 7 #[.slice D nd cd, .int .i64 k, .int .i64 s] w fun e w' => e = .returned (.bool true) ∧ Below w.heap.size w w' := objectBack_any h.1 h.2.1 h.2.2 hk hs
end Go.Proofs.Ytchdjbbhhjjmkaa
