/- Chapter 31: EtherTrue's walk. -/
import Derived.Test.YtknpghemogfenaaTg31
namespace Go.Proofs.Ytknpghemogfenaa
open Go.Conc Go.RowKit
set_option linter.unusedVariables false
set_option maxRecDepth 100000 in
set_option maxHeartbeats 6400000 in
theorem true_walk {A B D : Option Addr} {c d m : Nat} {fl : List FT} {sl : List SY} {al : List AC} {w : World} (h1 : Rd w A (fl.length * 4) (fl.flatMap FT.cells) ∧ fl.length ≤ c ∧ fl.length ≤ 4398046510976 ∧ ∀ a ∈ fl, I64 a.late ∧ I64 a.again)
    (h2 : Rd w B (sl.length * 3) (sl.flatMap SY.cells) ∧ sl.length ≤ d ∧ sl.length ≤ 3518437208780 ∧ ∀ a ∈ sl, I64 a.at_ ∧ I64 a.dst ∧ Rd w a.A a.n (bys a.x) ∧ a.n ≤ a.c ∧ a.n ≤ 140737488351232)
    (h3 : Rd w D (al.length * 4) (al.flatMap AC.cells) ∧ al.length ≤ m ∧ al.length ≤ 2932031007317 ∧ ∀ a ∈ al, I64 a.kind ∧ I64 a.dst ∧ I64 a.many ∧ Rd w a.A a.n (bys a.x) ∧ a.n ≤ a.c ∧ a.n ≤ 140737488351232) :
    Calls Try.prog 4 #[.slice A fl.length c, .slice B sl.length d, .slice D al.length m] w fun e w' => e = .returned (.bool true) ∧ Below w.heap.size w w' := by
  obtain ⟨nf, hnf⟩ : ∃ n, fl.length = n := ⟨_, rfl⟩
  obtain ⟨ns, hns⟩ : ∃ n, sl.length = n := ⟨_, rfl⟩
  obtain ⟨n, hn⟩ : ∃ n, al.length = n := ⟨_, rfl⟩
  have HN := Lib.hid (And.intro hnf (And.intro hns hn))
  have H := Lib.hid (And.intro h1 (And.intro h2 h3))
  rw [hnf, hns, hn]
  clear h1 h2 h3 hnf hns hn
  go_enter Try.func4, Try.ntmps4
  go_wp2_with fail
  refine awake_any.mono ?_
  rintro _ w1 ⟨rfl, h1⟩
  have H1 := Lib.hid h1
  clear h1
  go_wp2_with fail
  refine (by have := long_any (nf := nf) (A0 := A) (A1 := B) (A2 := D) (c0 := c) (c1 := d) (c2 := m) (H.out.2.1.1.below H1.out) (H.out.2.2.1.below H1.out); rw [HN.out.2.1, HN.out.2.2] at this; exact this : Calls _ _ _ _ _).mono ?_
  rintro _ w2 ⟨rfl, rfl⟩
  cases hlg : long31 nf sl al with
  | true =>
    go_wp2_with fail
    go_ret
    exact ⟨rfl, H1.out⟩
  | false =>
    obtain ⟨q1, q2, q3, q4, q5⟩ := long31_all hlg
    rw [HN.out.2.1] at q2
    rw [HN.out.2.2] at q3
    have HQ := Lib.hid (And.intro q4 q5)
    clear hlg q4 q5
    go_wp2_with fail
    refine (by have := good_any (A := A) (B := B) (c := c) (d := d) (H.out.1.1.below H1.out) (H.out.2.1.1.below H1.out) (by rw [HN.out.1]; exact q1) (by rw [HN.out.2.1]; exact q2) H.out.1.2.2.2 (fun a ha => by have := H.out.2.1.2.2.2 a ha; exact ⟨this.1, this.2.1, this.2.2.1.below H1.out, this.2.2.2⟩); rw [HN.out.1, HN.out.2.1] at this; exact this : Calls _ _ _ _ _).mono ?_
    rintro _ w3 ⟨A1, c1, B1, d1, rfl, ho1, ho2, hb3⟩
    have H3 := Lib.hid (And.intro ho1 (And.intro ho2 hb3))
    clear ho1 ho2 hb3
    go_wp2_with fail
    have hlf : (fl.map goodF).length = nf := by rw [List.length_map, HN.out.1]
    have hls : (sl.map goodS).length = ns := by rw [List.length_map, HN.out.2.1]
    have hb13 := below_base H1.out H3.out.2.2 H1.out.size
    refine (by have := lf_new (w0 := w) (w := w3) (A := A1) (B := B1) (c := c1) (d := d1) (fl := fl.map goodF) (sl := sl.map goodS) hb13.size (by rw [hlf]; exact (own_rdN H3.out.1).1) (by rw [hls]; exact (own_rdN H3.out.2.1).1) (own_at0 H3.out.1) (own_at0 H3.out.2.1) (good_rd fun a ha => (H.out.2.1.2.2.2 a ha).2.2.1.below hb13) (by omega) (by omega) good_new; rw [hlf, hls] at this; exact this : Calls _ _ _ _ _).mono ?_
    rintro _ w4 ⟨X, rfl, hb4, Fx, hL, hF⟩
    have H4 := Lib.hid (And.intro hb4 (And.intro hL hF))
    clear hb4 hL hF
    have hb14 := below_base hb13 H4.out.1 hb13.size
    go_wp2_with fail
    refine (by have := lf_new (w0 := w) (w := w4) (A := A1) (B := B1) (c := c1) (d := d1) (fl := fl.map goodF) (sl := sl.map goodS) hb14.size (by rw [hlf]; exact (own_rdN H3.out.1).1.below H4.out.1) (by rw [hls]; exact (own_rdN H3.out.2.1).1.below H4.out.1) (own_at0 H3.out.1) (own_at0 H3.out.2.1) (good_rd fun a ha => (H.out.2.1.2.2.2 a ha).2.2.1.below hb14) (by omega) (by omega) good_new; rw [hlf, hls] at this; exact this : Calls _ _ _ _ _).mono ?_
    rintro _ w5 ⟨Y, rfl, hb5, Fy, hL5, hF5⟩
    have hb15 := below_base hb14 hb5 hb14.size
    have hci0 : CI (fl.map goodF) ((sl.map goodS).map SY.t) (ES.new (fl.map goodF) (sl.map goodS)) 0 0 0 0 := CI.new good_late good_at
    have hmi0 : ∀ may : Nat → List (List UInt8), (∀ k, k < 2 → may k = stD ((sl.map goodS).map SY.t) (k : Nat)) → MI may (ES.new (fl.map goodF) (sl.map goodS)) := fun may h => MI.new h
    have hT0 : TR0 w (w5.alloc (.cells #[.slice none 0 0, .slice none 0 0] 30)) w5.heap.size X Y (ES.new (fl.map goodF) (sl.map goodS)) B1 (sl.map goodS) 0 := by
      have hb35 : Below w3.heap.size w3 w5 := below_base H4.out.1 hb5 H4.out.1.size
      have hal := (Below.refl w5.heap.size w5).alloc (Nat.le_refl _) (.cells #[.slice none 0 0, .slice none 0 0] 30)
      refine ⟨_, _, _, _, _, TC.new H4.out.2.1 hb5 hL5 hF5 hb15, fun k hk => ⟨rfl, Nat.le_refl _⟩, by rw [hls]; exact (((own_rdN H3.out.2.1).1.below hb35).below hal), fun a ha => ?_⟩
      have hl := (own_lt H3.out.2.1 a ha).2
      have hz := hb35.size
      refine ⟨fun hg => ?_, by rw [World.size_alloc]; omega⟩
      rcases hg with e | e | e
      · omega
      · cases e
      · cases e
    have hgy : ∀ y ∈ sl.map goodS, (y.dst = 0 ∨ y.dst = 1) ∧ BOK w w ⟨y.A, y.n, y.c, y.x⟩ := fun y hy => by
      have hr := good_rd (fun a ha => (H.out.2.1.2.2.2 a ha).2.2.1) y hy
      obtain ⟨g, hg, rfl⟩ := List.mem_map.1 hy
      exact ⟨by show g.dst % 2 = 0 ∨ g.dst % 2 = 1; omega, hr, Nat.min_le_right _ _, rd_block hr⟩
    have HC := Lib.hid (And.intro hT0 (And.intro hci0 (And.intro hmi0 (And.intro hlf (And.intro hls hgy)))))
    clear hT0 hci0 hmi0 hL5 hF5 hb5 hlf hls hb13 hb14 hb15 hgy H1 H3 H4
    obtain ⟨gf, hgf⟩ : ∃ g, fl.map goodF = g := ⟨_, rfl⟩
    obtain ⟨gs, hgs⟩ : ∃ g, sl.map goodS = g := ⟨_, rfl⟩
    rw [hgf, hgs] at HC
    clear hgf hgs
    go_wp2_with fail
    generalize w5.alloc (.cells #[.slice none 0 0, .slice none 0 0] 30) = wb at HC ⊢
    generalize w5.heap.size = P at HC ⊢
    generalize ES.new gf gs = s0 at HC
    go_loopw [15] (fun i wx => ∃ q : Nat, q ≤ ns ∧ i = .int .i64 q ∧ Hid (TR0 w wx P X Y s0 B1 gs q)) (fun i wx => ns - (intOf i).toNat)
    case atStart => exact ⟨0, Nat.zero_le _, rfl, Lib.hid HC.out.1⟩
    case round =>
      obtain ⟨q, hq, rfl, HT⟩ := hrel
      by_cases hqs : q < ns
      · have qd : decide ((q : Int) < (ns : Int)) = true := decide_eq_true (by omega)
        have qdp : (q : Int) < (ns : Int) := by omega
        have qd' : decide (q < ns) = true := decide_eq_true hqs
        have eq' : IntKind.i64.wrap ((q : Int) + 1) = ((q + 1 : Nat) : Int) := by rw [IntKind.wrap_i64]; omega
        have hql : q < gs.length := by rw [HC.out.2.2.2.2.1]; exact hqs
        obtain ⟨bs, Fx1, Fy1, Aa, Cc, hTC, hm, hR, hBG⟩ := HT.out
        obtain ⟨gg, oo, hB1, hcc⟩ := rd_cell (f := SY.cells) (k := 3) (fun _ => rfl) hR hql (by decide)
        have hgy := HC.out.2.2.2.2.2 _ (List.getElem_mem hql)
        obtain ⟨⟨ya, yd, yA, yn, yc, yx⟩, hx⟩ : ∃ f, gs[q] = f := ⟨_, rfl⟩
        rw [hx] at hcc hgy
        have hgy : (yd = 0 ∨ yd = 1) ∧ BOK w w ⟨yA, yn, yc, yx⟩ := hgy
        obtain ⟨k, hk, hk2⟩ : ∃ k : Nat, yd = (k : Int) ∧ k < 2 := by
          rcases hgy.1 with h | h
          · exact ⟨0, h, by decide⟩
          · exact ⟨1, h, by decide⟩
        have hk3 : (k : Int) < 2 := by omega
        have e1 : wr.cell? ⟨gg, oo + q * 3 + 1, none⟩ = some (.int .i64 (k : Int)) := by rw [← hk]; exact hcc 1 _ rfl
        have e2 : wr.cell? ⟨gg, oo + q * 3 + 2, none⟩ = some (.slice yA yn yc) := hcc 2 _ rfl
        have hal := (Below.refl wr.heap.size wr).alloc (Nat.le_refl _) (.cells #[.slice yA yn yc] 32)
        have e1a := cell_below hal e1
        have e2a := cell_below hal e2
        have c5 := hTC.bw.cell hk2
        have c6 := (hTC.bw.p.alloc (.cells #[.slice yA yn yc] 32)).celln hk2
        have hro := hTC.bw.r k hk2
        have hrl := (hm k hk2).2
        have hb0 := hTC.lx.2.2
        have hgB := hBG _ hB1
        have hfar : gg ∉ blk (Aa k) := fun hin => by
          obtain ⟨x, hx', e⟩ := mem_blk.1 hin
          exact hgB.1 (by show BG P Aa gg; rw [← e]; exact BG.row hk2 hx')
        obtain ⟨rA, hrA⟩ : ∃ r, Aa k = r := ⟨_, rfl⟩
        obtain ⟨rc, hrc⟩ : ∃ r, Cc k = r := ⟨_, rfl⟩
        obtain ⟨rn, hrn⟩ : ∃ r, (bs k).length = r := ⟨_, rfl⟩
        rw [hrA, hrc, hrn] at c5 c6 hro
        rw [hrn] at hrl
        rw [hrA] at hfar
        obtain ⟨i0, hi0, hz0, hz1, hz2⟩ := info_parts ss_info
        have HB := Lib.hid (And.intro hTC (And.intro hm (And.intro hR (And.intro hBG (And.intro hro (And.intro hrA (And.intro hrc hrn)))))))
        have HY := Lib.hid (And.intro hgy.2 (And.intro hk (And.intro hx (And.intro hk2 hfar))))
        have HGP := Lib.hid (show gg ≠ P from fun e => hgB.1 (.inl e))
        clear hTC hm hR hBG hro hrA hrc hrn hcc hgy hk hfar hal
        subst hB1
        go_upto_region 13 with fail
        have HFin := Lib.hid (show ∀ (A4 : Option Addr) (d4 : Nat) (w4 : World), Hid (w4.ownsRow w.heap.size 32 1 (.slice A4 (rn + 1) d4) (rn + 1) ((bs k).map BX.v ++ [.slice yA yn yc]) ∧ Chg (fun j => j ∈ blk (Aa k)) wr w4 ∧ ∀ a, A4 = some a → a.block ∈ blk rA ∨ wr.heap.size ≤ a.block) → Hid (TR0 w (w4.setCell ⟨P, k, none⟩ (.slice A4 (rn + 1) d4)) P X Y s0 (some ⟨gg, oo, none⟩) gs (q + 1)) from fun A4 d4 w4 H4 => Lib.hid (first_end HB.out.1 HB.out.2.1 HB.out.2.2.1 HB.out.2.2.2.1 HY.out.1 HY.out.2.1 hql HY.out.2.2.1 HY.out.2.2.2.1 HB.out.2.2.2.2.2.2.2 H4.out.1 H4.out.2.1 (by rw [HB.out.2.2.2.2.2.1]; exact H4.out.2.2)))
        have HMs := Lib.hid (show q + 1 ≤ ns ∧ ns - ((q : Int) + 1).toNat < ns - ((q : Int)).toNat by omega)
        go_region_law ((refine step_append_rd (by rfl) (.tmp 79) (.tmp 85) _ (by rfl) w.heap.size 32 i0 _ 1 24 Try.underlying29 hi0 hz0 hz1 hz2 rfl (by omega) _ rn _ (by rfl) (own_below HB.out.2.2.2.2.1 (((Below.refl _ _).alloc (Nat.le_refl _) _).drew)) (some ⟨wr.heap.size, 0, none⟩) 1 1 [.slice yA yn yc] (by rfl) ((Rd.lit _ _ _ _ rfl 1 rfl _ rfl).drew) (bx_one ⟨yA, yn, yc, yx⟩) (by simp only [maxLen]; omega) (by omega) (by show w.heap.size ≤ (wr.alloc _).heap.size; rw [World.size_alloc]; omega) ?_; intro v1 w4 hown1 hg1 hat1; obtain ⟨hch4, c4', f4'⟩ := HB.out.1.bw.grown HY.out.2.2.2.1 (by rw [HB.out.2.2.2.2.2.1]; exact hg1); rw [HB.out.2.2.2.2.2.1, HB.out.2.2.2.2.2.2.1, HB.out.2.2.2.2.2.2.2] at c4'; have e1b := (hch4.cell' e1 (by rw [HB.out.2.2.2.2.2.1]; exact HY.out.2.2.2.2)); have e2b := (hch4.cell' e2 (by rw [HB.out.2.2.2.2.2.1]; exact HY.out.2.2.2.2)); have e1c := (fun u => ((Chg.refl (fun j => j = P) w4).set_ (show P = P from rfl) k u).cell' e1b (fun e => HGP.out e) : ∀ u, (w4.setCell ⟨P, k, none⟩ u).cell? ⟨gg, oo + q * 3 + 1, none⟩ = some (.int .i64 (k : Int))); have e2c := (fun u => ((Chg.refl (fun j => j = P) w4).set_ (show P = P from rfl) k u).cell' e2b (fun e => HGP.out e) : ∀ u, (w4.setCell ⟨P, k, none⟩ u).cell? ⟨gg, oo + q * 3 + 2, none⟩ = some (.slice yA yn yc)); obtain ⟨A4, d4, rfl⟩ := own_sl hown1; have H4 := Lib.hid (And.intro hown1 (And.intro hch4 (row_at hat1))); clear hown1 hg1 hat1 hch4))
        all_goals go_wp2_with fail
        all_goals exact ⟨⟨q + 1, HMs.out.1, rfl, HFin.out A4 d4 w4 H4⟩, HMs.out.2⟩
      · obtain rfl : q = ns := by omega
        have qd : decide ((q : Int) < (q : Int)) = false := decide_eq_false (by omega)
        have qd' : decide (q < q) = false := decide_eq_false (by omega)
        have HT1 := Lib.hid (show TR1 w wr P X Y gf gs 0 20 from by
          obtain ⟨bs, Fx1, Fy1, Aa, Cc, hTC, hm, hR, hBG⟩ := HT.out
          refine ⟨s0, bs, Fx1, Fy1, Aa, Cc, 0, 0, 0, hTC, HC.out.2.1, HC.out.2.2.1 _ fun k hk => ?_, fun k hk => by have := (hm k hk).2; omega⟩
          show (bs k).map BX.x = _
          rw [(hm k hk).1, List.take_of_length_le (by rw [HC.out.2.2.2.2.1]; exact Nat.le_refl _)])
        clear HT hqs hq
        go_wp2_with fail
        go_loopw [16] (fun i wx => ∃ j : Nat, j ≤ n ∧ i = .int .i64 j ∧ Hid (TR1 w wx P X Y gf gs (4 * j) (20 + 2 * j))) (fun i wx => n - (intOf i).toNat)
        case atStart => exact ⟨0, Nat.zero_le _, rfl, HT1⟩
        case round =>
          obtain ⟨j, hj, rfl, HJ⟩ := hrel
          by_cases hlt : j < n
          · have kd : decide ((j : Int) < (n : Int)) = true := decide_eq_true (by omega)
            have kdp : (j : Int) < (n : Int) := by omega
            have kd' : decide (j < n) = true := decide_eq_true hlt
            have ej : IntKind.i64.wrap ((j : Int) + 1) = ((j + 1 : Nat) : Int) := by rw [IntKind.wrap_i64]; omega
            have hjl : j < al.length := by rw [HN.out.2.2]; exact hlt
            obtain ⟨g, off, rfl, hc0⟩ := rd_cell (f := AC.cells) (k := 4) (fun _ => rfl) H.out.2.2.1 hjl (by decide)
            obtain ⟨⟨ak, ad, am, aA, an, ac, ax⟩, haj⟩ : ∃ a, al[j] = a := ⟨_, rfl⟩
            rw [haj] at hc0
            have ham : al[j] ∈ al := List.getElem_mem hjl
            have c1' := hc0 1 _ rfl
            have c3 := hc0 3 _ rfl
            have hgl : g < w.heap.size := World.block_lt_of_cell? _ _ c3
            have hok : I64 ak ∧ I64 ad ∧ I64 am ∧ Rd w aA an (bys ax) ∧ an ≤ ac ∧ an ≤ 140737488351232 := by have := H.out.2.2.2.2.2 _ ham; rw [haj] at this; exact this
            have hsz : an ≤ 100 ∨ 70000 < an := by have := HQ.out.2 _ ham; rw [haj] at this; exact this
            have HX := Lib.hid (And.intro (fun (wx : World) (hx : Below w.heap.size w wx) => (⟨cell_below hx c1', cell_below hx c3, hok.2.2.2.1.below hx⟩ : wx.cell? ⟨g, off + j * 4 + 1, none⟩ = some (.int .i64 ad) ∧ wx.cell? ⟨g, off + j * 4 + 3, none⟩ = some (.slice aA an ac) ∧ Rd wx aA an (bys ax))) (And.intro hsz (And.intro (wf_i64 hok.2.1) (And.intro hlt (And.intro (rd_block hok.2.2.2.1) hgl)))))
            obtain ⟨k, hk, hk2⟩ : ∃ k : Nat, ad % 2 = (k : Int) ∧ k < 2 := ⟨(ad % 2).toNat, by omega, by omega⟩
            have HK := Lib.hid hk2
            have hk3 : (k : Int) < 2 := by omega
            obtain ⟨s, bs, Fx1, Fy1, Aa, Cc, sent, gt, many, hTC, hCI, hMI, hbl⟩ := HJ.out
            have HA := Lib.hid (And.intro hTC (And.intro hCI (And.intro hMI hbl)))
            clear hc0 c1' c3 hok hsz ham haj hjl hgl hTC hCI hMI hbl HJ
            obtain ⟨c1', c3, _⟩ := HX.out.1 wr HA.out.1.b
            go_wp2_with fail
            refine (pick_any ad 2 HX.out.2.2.1 (by decide) (by decide)).mono ?_
            rw [hk]
            rintro _ w6 ⟨rfl, rfl⟩
            clear hk
            go_upto_if 106 with fail
            go_cut [16] (fun s16 wx => s16 = .int .i64 (j : Int) ∧ TR1 w wx P X Y gf gs (4 * j + 1) (20 + 2 * j + 2))
            case first =>
              by_cases hsm : an ≤ 100
              · have s1 : decide ((an : Int) ≤ 100) = true := decide_eq_true (by omega)
                have s2 : decide (an ≤ 100) = true := decide_eq_true hsm
                have HM := Lib.hid hsm
                rw [s1]
                clear hsm
                have hci := HA.out.2.1
                have hb1 := hci.now
                have hb2 := hci.num
                have hb3 := hci.lost (by rw [List.length_map, HC.out.2.2.2.2.1]; exact q2)
                have hb4 := hci.sky
                have hj6 : j ≤ 60 := by omega
                have HB := Lib.hid (show s.now ≤ 1000000 ∧ s.number ≤ 900000 ∧ s.sky.length ≤ 900000 ∧ s.lost ≤ 900000000 by omega)
                clear hci hb1 hb2 hb3 hb4
                go_wp2_with fail
                refine (lf_send HA.out.1.lx (HX.out.1 _ HA.out.1.b).2.2 HX.out.2.2.2.2.1 (by have := HM.out; omega) (k01 HK.out) HB.out.1 HB.out.2.1 HB.out.2.2.1 HB.out.2.2.2).mono ?_
                rintro _ w7 ⟨rfl, hd7⟩
                obtain ⟨Fx2, hT7⟩ := HA.out.1.deedX hd7
                have H7 := Lib.hid hT7
                clear hd7 hT7 c1' c3
                obtain ⟨c1', c3, _⟩ := HX.out.1 w7 H7.out.b
                go_wp2_with fail
                refine (lf_send H7.out.ly (HX.out.1 _ H7.out.b).2.2 HX.out.2.2.2.2.1 (by have := HM.out; omega) (k01 HK.out) HB.out.1 HB.out.2.1 HB.out.2.2.1 HB.out.2.2.2).mono ?_
                rintro _ w8 ⟨rfl, hd8⟩
                obtain ⟨Fy2, hT8⟩ := H7.out.deedY hd8
                clear hd8 c1' c3
                obtain ⟨c1', c3, _⟩ := HX.out.1 w8 hT8.b
                have hal := (Below.refl w8.heap.size w8).alloc (Nat.le_refl _) (.cells #[.slice aA an ac, .slice aA an ac] 32)
                have c3a := cell_below hal c3
                have c5 := hT8.bw.cell hk2
                have c6 := (hT8.bw.p.alloc (.cells #[.slice aA an ac, .slice aA an ac] 32)).celln hk2
                have hro := hT8.bw.r k hk2
                have hrl := HA.out.2.2.2 k hk2
                have hb0 := hT8.lx.2.2
                obtain ⟨rA, hrA⟩ : ∃ r, Aa k = r := ⟨_, rfl⟩
                obtain ⟨rc, hrc⟩ : ∃ r, Cc k = r := ⟨_, rfl⟩
                obtain ⟨rn, hrn⟩ : ∃ r, (bs k).length = r := ⟨_, rfl⟩
                have hfar : g ∉ blk (Aa k) := fun hin => by
                  obtain ⟨x, hx', e⟩ := mem_blk.1 hin
                  have := (hT8.bw.rowTy hk2 hx').2
                  have := HX.out.2.2.2.2.2
                  omega
                have HGP := Lib.hid (show g ≠ P from fun e => by have := hT8.bw.p0; have := HX.out.2.2.2.2.2; omega)
                rw [hrA, hrc, hrn] at c5 c6 hro
                rw [hrn] at hrl
                obtain ⟨i0, hi0, hz0, hz1, hz2⟩ := info_parts ss_info
                have H8 := Lib.hid (And.intro hT8 (And.intro hro (And.intro hrA (And.intro hrc (And.intro hrn hfar)))))
                clear hT8 hro hrA hrc hrn hfar hal H7
                go_wp2_with fail
                have HFin := Lib.hid (show ∀ (A4 : Option Addr) (d4 : Nat) (w9 : World), Hid (w9.ownsRow w.heap.size 32 1 (.slice A4 (rn + 2) d4) (rn + 2) ((bs k).map BX.v ++ [.slice aA an ac, .slice aA an ac]) ∧ Chg (fun j => j ∈ blk (Aa k)) w8 w9 ∧ ∀ a, A4 = some a → a.block ∈ blk rA ∨ w8.heap.size ≤ a.block) → TR1 w (w9.setCell ⟨P, k, none⟩ (.slice A4 (rn + 2) d4)) P X Y gf gs (4 * j + 1) (20 + 2 * j + 2) from fun A4 d4 w9 H9 => by
                  obtain ⟨A', c', hT⟩ := send_end H8.out.1 ⟨(HX.out.1 w8 H8.out.1.b).2.2, HM.out, HX.out.2.2.2.2.1⟩ HK.out H8.out.2.2.2.2.1 H9.out.1 H9.out.2.1 (by rw [H8.out.2.2.1]; exact H9.out.2.2)
                  refine ⟨_, _, _, _, A', c', _, _, _, hT, HA.out.2.1.send (k : Int) ax, HA.out.2.2.1.sendU HK.out ⟨aA, an, ac, ax⟩, fun i hi => ?_⟩
                  by_cases e : i = k
                  · subst e; rw [upd_self, List.length_append, H8.out.2.2.2.2.1]; show rn + 2 ≤ _; omega
                  · rw [upd_ne _ _ e]; have := HA.out.2.2.2 i hi; omega)
                go_region_law ((refine step_append_rd (by rfl) (.tmp 126) (.tmp 137) _ (by rfl) w.heap.size 32 i0 _ 1 24 Try.underlying29 hi0 hz0 hz1 hz2 rfl (by omega) _ rn _ (by rfl) (own_below H8.out.2.1 (((Below.refl _ _).alloc (Nat.le_refl _) _).drew)) (some ⟨w8.heap.size, 0, none⟩) 2 2 [.slice aA an ac, .slice aA an ac] (by rfl) ((Rd.lit _ _ _ _ rfl 2 rfl _ rfl).drew) (bx_two ⟨aA, an, ac, ax⟩) (by simp only [maxLen]; omega) (by omega) (by show w.heap.size ≤ (w8.alloc _).heap.size; rw [World.size_alloc]; omega) ?_; intro v1 w9 hown1 hg1 hat1; obtain ⟨hch4, c4', f4'⟩ := H8.out.1.bw.grown HK.out (by rw [H8.out.2.2.1]; exact hg1); rw [H8.out.2.2.1, H8.out.2.2.2.1, H8.out.2.2.2.2.1] at c4'; obtain ⟨A4, d4, rfl⟩ := own_sl hown1; have H9 := Lib.hid (And.intro hown1 (And.intro hch4 (row_at hat1))); clear hown1 hg1 hat1 hch4))
                all_goals go_wp2_with fail
                all_goals go_meet
                all_goals exact ⟨rfl, HFin.out A4 d4 w9 H9⟩
              · have s1 : decide ((an : Int) ≤ 100) = false := decide_eq_false (by omega)
                have s2 : decide (an ≤ 100) = false := decide_eq_false hsm
                rw [s1]
                clear hsm
                go_wp2_with fail
                go_meet
                exact ⟨rfl, _, _, _, _, _, _, _, _, _, HA.out.1, HA.out.2.1.next, HA.out.2.2.1, fun i hi => by have := HA.out.2.2.2 i hi; omega⟩
            case rest =>
              obtain ⟨rfl, s, bs, Fx1, Fy1, Aa, Cc, sent, gt, many, hTC, hCI, hMI, hbl⟩ := hcut
              have hb1 := hCI.now
              have hb2 := hCI.num
              have hb3 := hCI.lost (by rw [List.length_map, HC.out.2.2.2.2.1]; exact q2)
              have hb4 := hCI.sky
              have hj6 : j ≤ 60 := by omega
              have HB := Lib.hid (show s.now ≤ 1000000 ∧ s.sky.length ≤ 900000 ∧ s.lost ≤ 900000000 by omega)
              have hok := hTC.lx.ok
              have HA2 := Lib.hid (And.intro hTC (And.intro (hCI.tick hok (by rw [List.length_map, HC.out.2.2.2.2.1]; exact q2)) (And.intro (hMI.tick hok) hbl)))
              have HJN := Lib.hid (show j < n from HX.out.2.2.2.1)
              clear hTC hCI hMI hbl hb1 hb2 hb3 hb4 hok HA HX c1' c3 hk2 hk3 HK hlt
              go_wp2_with fail
              refine (lf_tick HA2.out.1.lx HB.out.1 HB.out.2.2 HB.out.2.1).mono ?_
              rintro _ w7 ⟨rfl, hd7⟩
              obtain ⟨Fx2, hT7⟩ := HA2.out.1.deedX hd7
              have H7 := Lib.hid hT7
              clear hd7 hT7
              go_wp2_with fail
              refine (lf_tick H7.out.ly HB.out.1 HB.out.2.2 HB.out.2.1).mono ?_
              rintro _ w8 ⟨rfl, hd8⟩
              obtain ⟨Fy2, hT8⟩ := H7.out.deedY hd8
              have HT8 := Lib.hid (show TR1 w w8 P X Y gf gs (4 * j + 2 + 0) (20 + 2 * j + 2) from ⟨_, _, _, _, _, _, _, _, _, hT8, HA2.out.2.1, HA2.out.2.2.1, HA2.out.2.2.2⟩)
              clear hd8 hT8 HA2 H7 HB
              go_wp2_with fail
              go_loopw [18] (fun i wx => ∃ kk : Nat, kk ≤ 2 ∧ i = .int .i64 kk ∧ Hid (TR1 w wx P X Y gf gs (4 * j + 2 + kk) (20 + 2 * j + 2))) (fun i wx => 2 - (intOf i).toNat)
              case atStart => exact ⟨0, Nat.zero_le _, rfl, HT8⟩
              case round =>
                obtain ⟨kk, hkk, rfl, HKK⟩ := hrel
                by_cases hk2 : kk < 2
                · have hk3 : (kk : Int) < 2 := by omega
                  have hkd : decide ((kk : Int) < 2) = true := decide_eq_true hk3
                  have hkd' : decide (kk < 2) = true := decide_eq_true hk2
                  have ek : IntKind.i64.wrap ((kk : Int) + 1) = ((kk + 1 : Nat) : Int) := by rw [IntKind.wrap_i64]; omega
                  obtain ⟨s, bs, Fx1, Fy1, Aa, Cc, sent, gt, many, hTC, hCI, hMI, hbl⟩ := HKK.out
                  have HA := Lib.hid (And.intro hTC (And.intro hCI (And.intro hMI hbl)))
                  clear hTC hCI hMI hbl HKK
                  cases hbx : s.box (kk : Int) with
                  | nil =>
                    have HBX := Lib.hid hbx
                    have HK2 := Lib.hid hk2
                    clear hbx
                    go_wp2_with fail
                    refine (lf_get_none HA.out.1.lx (k01 HK2.out) HBX.out).mono ?_
                    rintro _ _ ⟨rfl, rfl⟩
                    go_wp2_with fail
                    refine (lf_get_none HA.out.1.ly (k01 HK2.out) HBX.out).mono ?_
                    rintro _ _ ⟨rfl, rfl⟩
                    go_wp2_with fail
                    refine (same_true (l := []) (Rd.nil _ _) (Rd.nil _ _)).mono ?_
                    rintro _ _ ⟨rfl, rfl⟩
                    go_wp2_with fail
                    refine ⟨⟨kk + 1, HK2.out, rfl, Lib.hid ⟨_, _, _, _, _, _, _, _, _, HA.out.1, HA.out.2.1.next, HA.out.2.2⟩⟩, by have := HK2.out; show 2 - ((kk : Int) + 1).toNat < 2 - ((kk : Int)).toNat; omega⟩
                  | cons x r =>
                    have HBX := Lib.hid hbx
                    have HK2 := Lib.hid hk2
                    clear hbx
                    go_wp2_with fail
                    refine (lf_get HA.out.1.lx (k01 HK2.out) HBX.out).mono ?_
                    rintro _ w9 ⟨rA, rn, rc, rfl, hr, hrn, hrf, Fx2, g1, g2, g3, hc9⟩
                    have hT9 := HA.out.1.chgX g1 (fun k hk => .inl (g2 k hk)) hc9
                    have H9 := Lib.hid (And.intro hT9 (And.intro hr hrf))
                    clear hr hrn hrf g1 g2 g3 hc9 hT9
                    go_wp2_with fail
                    refine (lf_get H9.out.1.ly (k01 HK2.out) HBX.out).mono ?_
                    rintro _ w10 ⟨tA, tn, tc, rfl, hr, _, _, Fy2, g1, g2, _, hc10⟩
                    have hT10 := H9.out.1.chgY g1 (fun k hk => .inl (g2 k hk)) hc10
                    have H10 := Lib.hid (And.intro hT10 (And.intro (hc10.rd H9.out.2.1 fun a ha => HA.out.1.xy _ (H9.out.2.2 a ha)) (And.intro hr (And.intro (HA.out.2.1.got HBX.out) (HA.out.2.2.1.has HK2.out HBX.out)))))
                    clear hr g1 g2 hc10 hT10
                    go_wp2_with fail
                    refine (same_true H10.out.2.1 H10.out.2.2.1).mono ?_
                    rintro _ w11 ⟨rfl, rfl⟩
                    have c5 := H10.out.1.bw.cell HK2.out
                    have hrow := Rd.of_own (H10.out.1.bw.r kk HK2.out)
                    have hbok := H10.out.1.bw.x kk HK2.out
                    obtain ⟨qA, hqA⟩ : ∃ r, Aa kk = r := ⟨_, rfl⟩
                    obtain ⟨qc, hqc⟩ : ∃ r, Cc kk = r := ⟨_, rfl⟩
                    obtain ⟨qn, hqn⟩ : ∃ r, (bs kk).length = r := ⟨_, rfl⟩
                    have hq200 : qn ≤ 200 := by have := HA.out.2.2.2 kk HK2.out; have := HJN.out; omega
                    rw [hqA, hqc, hqn] at c5
                    rw [hqA, hqn] at hrow
                    have hx0 : ∃ a, ∃ h : a < qn, ((bs kk)[a]'(by rw [hqn]; exact h)).x = x := by
                      have hmem : x ∈ (bs kk).map BX.x := H10.out.2.2.2.2
                      obtain ⟨b, hb, hbx⟩ := List.mem_map.1 hmem
                      obtain ⟨a, ha, rfl⟩ := List.getElem_of_mem hb
                      exact ⟨a, by rw [← hqn]; exact ha, hbx⟩
                    obtain ⟨qb, qo, rfl, _, hcell⟩ := hrow.form (by obtain ⟨a, h, _⟩ := hx0; omega)
                    have HR := Lib.hid (And.intro hcell (And.intro hbok (And.intro hqn (And.intro hx0 (And.intro hrow (And.intro hqA hqc))))))
                    clear hrow hbok hx0 hcell hqA hqc
                    go_wp2_with fail
                    go_loopw [23] (fun i wx => ∃ a : Nat, a < qn ∧ i = .int .i64 a ∧ wx = w10 ∧ Hid (∀ i, ∀ h : i < (bs kk).length, i < a → (bs kk)[i].x ≠ x)) (fun i wx => qn - (intOf i).toNat)
                    case atStart => exact ⟨0, by obtain ⟨a, h, _⟩ := HR.out.2.2.2.1; omega, rfl, rfl, Lib.hid fun i _ hi => absurd hi (Nat.not_lt_zero _)⟩
                    case round =>
                      obtain ⟨a, ha, rfl, rfl, HN2⟩ := hrel
                      have md : decide ((a : Int) < (qn : Int)) = true := decide_eq_true (by omega)
                      have mdp : (a : Int) < (qn : Int) := by omega
                      have md' : decide (a < qn) = true := decide_eq_true ha
                      have em : IntKind.i64.wrap ((a : Int) + 1) = ((a + 1 : Nat) : Int) := by rw [IntKind.wrap_i64]; omega
                      have hab : a < (bs kk).length := by rw [HR.out.2.2.1]; exact ha
                      have hcm := HR.out.1 a _ (by rw [List.getElem?_map, List.getElem?_eq_getElem hab]; rfl)
                      have hbm := HR.out.2.1 _ (List.getElem_mem hab)
                      obtain ⟨⟨mA, mn, mc, mx⟩, hmx⟩ : ∃ b, (bs kk)[a] = b := ⟨_, rfl⟩
                      rw [hmx] at hcm hbm
                      have hcm : World.cell? _ ⟨qb, qo + a, none⟩ = some (.slice mA mn mc) := hcm
                      have HM2 := Lib.hid (And.intro hbm (And.intro hmx ha))
                      clear hbm ha
                      go_wp2_with fail
                      refine (same_any HM2.out.1.1 H10.out.2.1).mono ?_
                      rintro _ _ ⟨rfl, rfl⟩
                      cases hmm : (mx == x) with
                      | false =>
                        have hnx : ∀ i, ∀ h : i < (bs kk).length, i < a + 1 → (bs kk)[i].x ≠ x := fun i h hi => by
                          rcases Nat.lt_or_ge i a with h1 | h1
                          · exact HN2.out i h h1
                          · obtain rfl : i = a := by omega
                            rw [HM2.out.2.1]; simpa using hmm
                        have hlt1 : a + 1 < qn := by
                          obtain ⟨a0, h0, hx0⟩ := HR.out.2.2.2.1
                          have : ¬ a0 < a + 1 := fun h => hnx a0 (by rw [hqn]; exact h0) h hx0
                          omega
                        have HMX := Lib.hid (And.intro hnx hlt1)
                        clear hmm hnx hlt1
                        go_wp2_with fail
                        refine ⟨⟨a + 1, HMX.out.2, rfl, trivial, Lib.hid HMX.out.1⟩, by have := HMX.out.2; show qn - ((a : Int) + 1).toNat < qn - ((a : Int)).toNat; omega⟩
                      | true =>
                        have HMX := Lib.hid (show mx = x by simpa using hmm)
                        have hqcc : qn ≤ qc := by have := (own_rdN (H10.out.1.bw.r kk HK2.out)).2; rw [hqn, HR.out.2.2.2.2.2.2] at this; exact this
                        have ha := HM2.out.2.2
                        have n1 : (a : Int) ≤ (qc : Int) := by omega
                        have n2 : (a : Int) + 1 ≤ (qn : Int) := by omega
                        have n3 : a ≤ qc := by omega
                        have n4 : a + 1 ≤ qn := by omega
                        have n5 : ((a + 1 : Nat) : Int) ≤ (qn : Int) := by omega
                        have n6 : (qn : Int) ≤ (qc : Int) := by omega
                        have n8 : (0 : Int) ≤ (a : Int) + 1 := by omega
                        have n9 : (0 : Int) ≤ ((a + 1 : Nat) : Int) := by omega
                        have n10 : ((a : Int) + 1).toNat = a + 1 := by omega
                        have hb0 := H10.out.1.lx.2.2
                        obtain ⟨i0, hi0, hz0, hz1, hz2⟩ := info_parts ss_info
                        have HC5 := Lib.hid (And.intro c5 (And.intro (H10.out.1.bw.p.frozen kk) (bxs_one (bs kk))))
                        have c5z := cell_below ((Below.refl wr.heap.size wr).alloc (Nat.le_refl _) (.cells #[] 32)) c5
                        clear hmm ha hqcc hcm
                        go_wp2_with fail
                        have n7 : ¬ qc = 0 := by omega
                        have HN20 := Lib.hid (show a + (qn - (a + 1)) ≤ 400 by omega)
                        have HN21 := Lib.hid (show a ≤ qn by omega)
                        have HD1 := Lib.hid (HR.out.2.2.2.2.1.dropq n4)
                        obtain ⟨Ad, hif⟩ : ∃ Ad, (if qc = a + 1 then some (⟨qb, qo, none⟩ : Addr) else some ⟨qb, qo + (a + 1), none⟩) = Ad := ⟨_, rfl⟩
                        have HAd := Lib.hid (show Rd wr Ad (qn - (a + 1)) (((bs kk).map BX.v).drop (a + 1)) from by
                          rw [← hif]
                          by_cases hce : qc = a + 1
                          · rw [if_pos hce]
                            have hqe : qn - (a + 1) = 0 := by omega
                            rw [hqe]
                            exact ⟨by rw [List.length_drop, List.length_map, hqn]; exact hqe, fun h => absurd h (Nat.lt_irrefl _)⟩
                          · rw [if_neg hce]
                            exact HD1.out)
                        clear HD1
                        have HFin := Lib.hid (show ∀ (A5 : Option Addr) (d5 : Nat) (w14 : World), Hid (w14.ownsRow wr.heap.size 32 1 (.slice A5 (a + (qn - (a + 1))) d5) (a + (qn - (a + 1))) (((bs kk).map BX.v).take a ++ ((bs kk).map BX.v).drop (a + 1)) ∧ Below wr.heap.size wr w14) → Hid (TR1 w (w14.setCell ⟨P, kk, none⟩ (.slice A5 (a + (qn - (a + 1))) d5)) P X Y gf gs (4 * j + 2 + (kk + 1)) (20 + 2 * j + 2)) from fun A5 d5 w14 H14 => Lib.hid (by
                          obtain ⟨A', c', hT⟩ := true_end H10.out.1 HK2.out (by rw [hqn]; exact HM2.out.2.2) (by rw [hqn]; omega) H14.out.1 rfl H14.out.2
                          refine ⟨_, _, _, _, A', c', _, _, _, hT, H10.out.2.2.2.1, HA.out.2.2.1.gotU HK2.out HBX.out (by rw [hqn]; exact HM2.out.2.2) (by rw [HM2.out.2.1]; exact HMX.out), fun i hi => ?_⟩
                          have hbl := HA.out.2.2.2 i hi
                          by_cases e : i = kk
                          · subst e
                            rw [upd_self, List.length_append, List.length_take, List.length_drop]; omega
                          · rw [upd_ne _ _ e]; exact hbl))
                        have HMs := Lib.hid (show 2 - ((kk : Int) + 1).toNat < 2 - ((kk : Int)).toNat by have := HK2.out; omega)
                        refine Code.wp_mono NormalR.imp (reg37_any hk3 HC5.out.1 HC5.out.2.1 HR.out.2.2.2.2.1 HAd.out hif n4 (by omega) hq200 ?_)
                        intro A5 d5 w14 H14 f196 f197 f198 f199 f200 f201 f202 f203 f204 f205 f206 f207 f208 f209 f210 f211
                        go_wp2_with fail
                        exact ⟨⟨kk + 1, HK2.out, rfl, HFin.out A5 d5 w14 H14⟩, HMs.out⟩
                · obtain rfl : kk = 2 := by omega
                  clear hk2 hkk
                  go_wp2_with fail
                  refine ⟨⟨j + 1, HJN.out, rfl, HKK⟩, by have := HJN.out; show n - ((j : Int) + 1).toNat < n - ((j : Int)).toNat; omega⟩
          · obtain rfl : j = n := by omega
            have kd : decide ((j : Int) < (j : Int)) = false := decide_eq_false (by omega)
            have kd' : decide (j < j) = false := decide_eq_false (by omega)
            obtain ⟨s, bs, Fx1, Fy1, Aa, Cc, sent, gt, many, hTC, _⟩ := HJ.out
            have HB := Lib.hid hTC.b
            clear hlt hj HJ hTC
            go_wp2_with fail
            go_ret
            exact ⟨rfl, HB.out⟩
end Go.Proofs.Ytknpghemogfenaa
