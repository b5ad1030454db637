/- octet's writers: Raw, Put. -/
import Derived.Test.YtpfamjgdfcnieaaDo10
namespace Go.Proofs.Ytpfamjgdfcnieaa
open Go.RowKit
set_option linter.unusedVariables false
theorem LyPost.from_ {w w2 : World} {base P : Nat} {A : Option Addr} {x : Int} {s : WS} {e : Ending} {w' : World} (hb : Below w.heap.size w w2) (h : LyPost w2 base P A x s e w') : LyPost w base P A x s e w' := by
  obtain ⟨he, A', c', h1, h2, h3⟩ := h
  have hs := hb.size
  refine ⟨he, A', c', h1, fun a ha => ?_, (Chg.of_below (S := Wset P A) hb).trans h3 fun _ _ z => z⟩
  rcases h2 a ha with e | e
  · exact .inl e
  · exact .inr (by omega)
/-- Raw's closure. -/
theorem rawC {w : World} {base P c : Nat} {A : Option Addr} {s : WS} (h : Wo w base P A c s) {B : Option Addr} {n d bw bb : Nat} {l : List UInt8} (hr : Rd w B n (bys l)) (hn : n ≤ 140737488351232)
    (h0 : Bk w bw 44 [.pointer (some ⟨P, 0, none⟩)]) (h1 : Bk w bb 22 [.slice B n d]) :
    Calls Try.prog 54 #[.pointer (some ⟨bw, 0, none⟩), .pointer (some ⟨bb, 0, none⟩)] w (LyPost w base P A (s.lay l).e ⟨s.m, (s.lay l).b, s.e⟩) := by
  have H := Lib.hid (And.intro h (And.intro hr hn))
  have g0 := h0.cell 0
  have g1 := h1.cell 0
  clear h hr hn h0 h1
  go_enter Try.func54, Try.ntmps54
  go_wp2_with fail
  refine (lay_any H.out.1 H.out.2.1 H.out.2.2).mono ?_
  rintro e w1 ⟨rfl, h1⟩
  have H1 := Lib.hid h1
  clear h1
  go_wp2
  go_ret
  exact ⟨rfl, H1.out⟩
theorem lay_m (s : WS) (l : List UInt8) : (s.lay l).m = s.m := by unfold WS.lay; split <;> rfl
/-- (*Writer).Raw -/
theorem rawW_any {w : World} {base P c : Nat} {A : Option Addr} {s : WS} (h : Wo w base P A c s) {B : Option Addr} {n d : Nat} {l : List UInt8} (hr : Rd w B n (bys l)) (hn : n ≤ 140737488351232) :
    Calls Try.prog 31 #[.pointer (some ⟨P, 0, none⟩), .slice B n d] w (LyPost w base P A (s.raw l).e (s.raw l)) := by
  have hmf : ∀ (fn : Fn) (first cap : Array Value) (w : World), (Instr.makeFunc fn first cap).run Try.prog w = .ok (.func fn first cap) w := fun _ _ _ _ => rfl
  have hst : ∃ w2, w2 = (w.alloc (.cells #[.pointer (some ⟨P, 0, none⟩)] 44)).alloc (.cells #[.slice B n d] 22) ∧ Bk w2 w.heap.size 44 [.pointer (some ⟨P, 0, none⟩)] ∧ Bk w2 (w.heap.size + 1) 22 [.slice B n d] ∧ Below w.heap.size w w2 :=
    ⟨_, rfl, (Bk.newA w _ _).alloc _, Bk.new2 w _ _ _, ((Below.refl _ _).alloc (Nat.le_refl _) _).alloc (by rw [World.size_alloc]; omega) _⟩
  obtain ⟨w2, hw2, hb0, hb1, hbl⟩ := hst
  have HB := Lib.hid (And.intro hb0 (And.intro hb1 (And.intro hbl (And.intro (h.below hbl) (And.intro (hr.below hbl) hn)))))
  have g0 := hb0.cell 0
  rw [hw2] at g0
  clear h hr hn hb0 hb1 hbl
  go_enter Try.func31, Try.ntmps31
  go_wp2_with fail
  rw [← hw2]
  clear g0 hw2
  by_cases he : s.e = 0
  · refine (does_any (s' := ⟨s.m, (s.lay l).b, s.e⟩) (x := (s.lay l).e) HB.out.2.2.2.1 (fun w1 hb => rawC (HB.out.2.2.2.1.below hb) (HB.out.2.2.2.2.1.below hb) HB.out.2.2.2.2.2 (HB.out.1.belowS hb) (HB.out.2.1.belowS hb)) he (fun w => rfl)).mono ?_
    rintro e w1 h1
    have h2 := LyPost.from_ HB.out.2.2.1 h1
    obtain ⟨rfl, h3⟩ := h2
    have e1 : s.raw l = s.lay l := by unfold WS.raw; rw [if_neg (by simpa using he)]
    have e2 : (⟨s.m, (s.lay l).b, (s.lay l).e⟩ : WS) = s.lay l := by rw [← lay_m s l]
    rw [show (⟨(⟨s.m, (s.lay l).b, s.e⟩ : WS).m, (⟨s.m, (s.lay l).b, s.e⟩ : WS).b, (s.lay l).e⟩ : WS) = s.lay l from e2] at h3
    have H3 := Lib.hid h3
    have E1 := Lib.hid e1
    clear h3 e1 e2 h1 he
    go_wp2
    go_ret
    rw [E1.out]
    exact ⟨rfl, H3.out⟩
  · refine (does_err HB.out.2.2.2.1 _ he).mono ?_
    rintro e w1 h1
    obtain ⟨rfl, h3⟩ := LyPost.from_ HB.out.2.2.1 h1
    have e1 : s.raw l = s := by unfold WS.raw; rw [if_pos (by simpa using he)]
    have H3 := Lib.hid h3
    have E1 := Lib.hid e1
    clear h3 e1 h1 he
    go_wp2
    go_ret
    rw [E1.out]
    exact ⟨rfl, H3.out⟩
theorem put_m (s : WS) (wide n : Int) : (s.put wide n).m = s.m := by
  unfold WS.put
  split
  · rfl
  · split
    · rfl
    · split
      · rfl
      · exact lay_m s _
/-- The eight bytes that Put lays, after k rounds. -/
def arr8 (n : Int) (k : Nat) : List Value := (List.range 8).map fun j => .int .u8 (if 7 - j < k then ((byt n (7 - j)).toNat : Int) else 0)
theorem arr8_set (n : Int) {k : Nat} (h : k < 8) : (arr8 n k).set (7 - k) (.int .u8 ((byt n k).toNat : Int)) = arr8 n (k + 1) := by
  match k, h with
  | 0, _ | 1, _ | 2, _ | 3, _ | 4, _ | 5, _ | 6, _ | 7, _ => rfl
theorem arr8_end (n : Int) {wd : Nat} (h : wd = 1 ∨ wd = 2 ∨ wd = 4 ∨ wd = 8) : ((arr8 n 8).drop (8 - wd)).take wd = bys (bebs wd n) := by
  rcases h with rfl | rfl | rfl | rfl <;> rfl
theorem byt_wrap (n : Int) (k : Nat) : IntKind.u8.wrap (n / 2 ^ (8 * k)) = ((byt n k).toNat : Int) := by
  rw [IntKind.wrap_u8', byt_toNat]
theorem run_arr {wd : Nat} (h1 : 1 ≤ wd) (h8 : wd ≤ 8) (g : Nat) (w : World) : (Instr.sliceAt 76 (.pointer (some ⟨g, 0, none⟩)) (some (.int .i64 (8 - (wd : Int)))) none none).run Try.prog w = .ok (.slice (some ⟨g, 8 - wd, none⟩) wd wd) w := by
  obtain ⟨i0, hi0, hz0, hz1, hz2⟩ := info_parts u8_info
  have hb : (Instr.sliceBound (.int .i64 (8 - (wd : Int))) 8 .sliceB).run Try.prog w = .ok (8 - wd) w := by
    rw [run_sliceBound _ .i64 (8 - (wd : Int)) 8 .sliceB (by omega) (by omega)]
    congr 1
    omega
  have e1 : 8 - (8 - wd) = wd := by omega
  simp [Instr.sliceAt, Instr.sureAddr, Instr.sliceBounds, run_underlying Try.underlying76, sizeOf, typeInfo, hi0, hz1, hb, e1, Addr.add]
  rw [if_neg (by omega)]
  split
  · rename_i h; rw [h]
  · rfl
set_option maxRecDepth 100000 in
set_option maxHeartbeats 2000000 in
/-- Put's closure. -/
theorem putC {w : World} {base P c : Nat} {A : Option Addr} {s : WS} (h : Wo w base P A c s) {bw bn bp : Nat} {wide n : Int} (hn : -9223372036854775808 ≤ n ∧ n ≤ 9223372036854775807)
    (h0 : Bk w bw 3 [.int .i64 wide]) (h1 : Bk w bn 3 [.int .i64 n]) (h2 : Bk w bp 44 [.pointer (some ⟨P, 0, none⟩)]) (he : s.e = 0) (hbw : ¬ Wset P A bw) (hbp : ¬ Wset P A bp) :
    Calls Try.prog 51 #[.pointer (some ⟨bw, 0, none⟩), .pointer (some ⟨bn, 0, none⟩), .pointer (some ⟨bp, 0, none⟩)] w (LyPost w base P A (s.put wide n).e ⟨s.m, (s.put wide n).b, s.e⟩) := by
  have H := Lib.hid (And.intro h he)
  have HB := Lib.hid (And.intro h0 (And.intro h1 h2))
  have HN := Lib.hid (And.intro hbw hbp)
  clear hbw hbp
  have g0 := h0.cell 0
  have g1 := h1.cell 0
  have g2 := h2.cell 0
  clear h h0 h1 h2 he
  cases hw : wid wide with
  | false =>
    have HP := Lib.hid (show s.put wide n = ⟨s.m, s.b, 2⟩ from by unfold WS.put; rw [if_neg (by simpa using H.out.2), if_pos hw])
    have HW := Lib.hid hw
    clear hw
    go_enter Try.func51, Try.ntmps51
    go_wp2_with fail
    refine (width_any wide).mono ?_
    rintro e w1 ⟨rfl, rfl⟩
    rw [HW.out]
    go_wp2
    go_ret
    rw [HP.out]
    exact ⟨rfl, A, c, H.out.1, fun a ha => .inl ⟨a, ha, rfl⟩, Chg.refl _ _⟩
  | true =>
    have hwd := (wid_iff wide).1 hw
    obtain ⟨wd, rfl⟩ : ∃ wd : Nat, wide = wd := ⟨wide.toNat, by omega⟩
    have HW := Lib.hid hw
    have w1 : 1 ≤ wd := by omega
    have w8 : wd ≤ 8 := by omega
    have HD := Lib.hid (show wd = 1 ∨ wd = 2 ∨ wd = 4 ∨ wd = 8 from by omega)
    clear hw hwd
    by_cases hneg : n < 0
    · have d1 : decide (n < 0) = true := by simpa using hneg
      have HP := Lib.hid (show s.put (wd : Int) n = ⟨s.m, s.b, 3⟩ from by unfold WS.put; rw [if_neg (by simpa using H.out.2), if_neg (by rw [HW.out]; simp), if_pos (.inl hneg)])
      clear hneg
      go_enter Try.func51, Try.ntmps51
      go_wp2_with fail
      refine (width_any (wd : Int)).mono ?_
      rintro e w1 ⟨rfl, rfl⟩
      rw [HW.out]
      go_wp2
      go_ret
      rw [HP.out]
      exact ⟨rfl, A, c, H.out.1, fun a ha => .inl ⟨a, ha, rfl⟩, Chg.refl _ _⟩
    · have d1 : decide (n < 0) = false := by simpa using hneg
      by_cases hbig : 0 < n / 2 ^ (8 * wd)
      · have d2 : decide (0 < n / 2 ^ (8 * wd)) = true := by simpa using hbig
        have d3 : decide (n / 2 ^ (8 * wd) > 0) = true := by simpa using hbig
        have HP := Lib.hid (show s.put (wd : Int) n = ⟨s.m, s.b, 3⟩ from by unfold WS.put; rw [if_neg (by simpa using H.out.2), if_neg (by rw [HW.out]; simp), if_pos (.inr (by rw [Int.toNat_natCast]; exact hbig))])
        clear hneg hbig
        go_enter Try.func51, Try.ntmps51
        go_wp2_with fail
        refine (width_any (wd : Int)).mono ?_
        rintro e w1 ⟨rfl, rfl⟩
        rw [HW.out]
        go_wp2
        go_ret
        rw [HP.out]
        exact ⟨rfl, A, c, H.out.1, fun a ha => .inl ⟨a, ha, rfl⟩, Chg.refl _ _⟩
      · have d2 : decide (0 < n / 2 ^ (8 * wd)) = false := by simpa using hbig
        have d3 : decide (n / 2 ^ (8 * wd) > 0) = false := by simpa using hbig
        have HP := Lib.hid (show s.put (wd : Int) n = s.lay (bebs wd n) from by unfold WS.put; rw [if_neg (by simpa using H.out.2), if_neg (by rw [HW.out]; simp), if_neg (by rw [Int.toNat_natCast]; intro h; rcases h with h | h; exact hneg h; exact hbig h), Int.toNat_natCast])
        have HG := Lib.hid hneg
        clear hneg hbig
        go_enter Try.func51, Try.ntmps51
        go_wp2_with fail
        refine (width_any (wd : Int)).mono ?_
        rintro e w1 ⟨rfl, rfl⟩
        rw [HW.out]
        go_wp2
        have hst : ∃ w5, w5 = w.alloc (.cells #[.int .u8 0, .int .u8 0, .int .u8 0, .int .u8 0, .int .u8 0, .int .u8 0, .int .u8 0, .int .u8 0] 76) ∧ Bk w5 w.heap.size 76 (arr8 n 0) ∧ Below w.heap.size w w5 :=
          ⟨_, rfl, Bk.newA w _ _, (Below.refl _ _).alloc (Nat.le_refl _) _⟩
        obtain ⟨w5, hw5, hk5, hb5⟩ := hst
        rw [← hw5]
        obtain ⟨g, hg⟩ : ∃ g, g = w.heap.size := ⟨_, rfl⟩
        rw [← hg] at hk5 ⊢
        have HG5 := Lib.hid hg
        have H5 := Lib.hid (And.intro hk5 hb5)
        clear hw5 hk5 hb5 hg
        clear d2 d3
        go_loopw [20] (fun i wr => ∃ k : Nat, k ≤ 8 ∧ i = .int .i64 k ∧ Bk wr g 76 (arr8 n k) ∧ Below w.heap.size w wr) (fun i wr => 8 - (intOf i).toNat)
        case atStart => exact ⟨0, by omega, rfl, H5.out.1, H5.out.2⟩
        case round =>
          obtain ⟨k, hk, rfl, hbk, hbl⟩ := hrel
          have HK := Lib.hid (And.intro hbk hbl)
          have g1 := (HB.out.2.1.belowS hbl).cell 0
          by_cases hlt : k < 8
          · have cg := hbk.cell (7 - k)
            rw [show (arr8 n k)[7 - k]? = some (.int .u8 (if 7 - (7 - k) < k then ((byt n (7 - (7 - k))).toNat : Int) else 0)) from by unfold arr8; rw [List.getElem?_map, List.getElem?_range (by omega)]; rfl] at cg
            have fg := hbk.frozen (7 - k)
            have km : (k : Int) < 8 := by omega
            have hHK := Lib.hid hlt
            clear hbk hbl hlt
            go_wp2
            rw [← byt_toNat]
            have hs := HK.out.1.set_ (7 - k) (.int .u8 ((byt n k).toNat : Int))
            rw [arr8_set n hHK.out] at hs
            exact ⟨⟨k + 1, by have := hHK.out; omega, by go_num, hs, HK.out.2.setCell (by have := HG5.out; show w.heap.size ≤ g; omega) _⟩, by have := hHK.out; simp [intOf]; omega⟩
          · obtain rfl : k = 8 := by omega
            have g0 := (HB.out.1.belowS hbl).cell 0
            have g2 := (HB.out.2.2.belowS hbl).cell 0
            have hrd : Rd wr (some ⟨g, 8 - wd, none⟩) wd (bys (bebs wd n)) := Rd.of_bk hbk (by rw [show (arr8 n 8).length = 8 from rfl]; omega) (arr8_end n HD.out)
            have HL := Lib.hid hrd
            have HS := Lib.hid (H.out.1.below hbl)
            have b0 : (0 : Int) ≤ 8 - (wd : Int) := by omega
            have b1 : 8 - (wd : Int) ≤ 8 := by omega
            have hw2 : IntKind.i64.wrap (8 - (wd : Int)) = 8 - (wd : Int) := by rw [IntKind.wrap_i64]; omega
            have hra := run_arr w1 w8 g
            clear hbk hbl hlt hk hrd
            go_wp2_with fail
            have hsz := HK.out.2.size
            have HZ := Lib.hid (And.intro (HB.out.1.belowS HK.out.2) (HB.out.2.2.belowS HK.out.2))
            go_region_held3 (fun w' => w'.cell? ⟨bw, 0, none⟩ = some (.int .i64 wd) ∧ w'.cell? ⟨bp, 0, none⟩ = some (.pointer (some ⟨P, 0, none⟩)))
              (first | exact S2.out | exact ⟨g0, g2⟩)
              ((first | (go_at_call 53; refine (lay_any (HS.out.below (Below.refl _ _).drew) HL.out.drew (by omega)).mono ?_; rintro e w6 ⟨rfl, h6⟩; have S1 := Lib.hid h6; have S2 := Lib.hid (And.intro ((h6.choose_spec.choose_spec.2.2.bk HZ.out.1.drew HN.out.1).cell 0) ((h6.choose_spec.choose_spec.2.2.bk HZ.out.2.drew HN.out.2).cell 0)); clear h6)))
            all_goals go_wp2_with fail
            all_goals go_ret
            rw [HP.out]
            have h7 : LyPost wr base P A (s.lay (bebs wd n)).e ⟨s.m, (s.lay (bebs wd n)).b, s.e⟩ (.returned (.int .i64 (s.lay (bebs wd n)).e)) w6 := LyPost.from_ (w2 := wr.drew) (Below.refl _ _).drew ⟨rfl, S1.out⟩
            exact LyPost.from_ HK.out.2 h7
/-- (*Writer).Put -/
theorem putW_any {w : World} {base P c : Nat} {A : Option Addr} {s : WS} (h : Wo w base P A c s) {wide n : Int} (hn : -9223372036854775808 ≤ n ∧ n ≤ 9223372036854775807) :
    Calls Try.prog 30 #[.pointer (some ⟨P, 0, none⟩), .int .i64 wide, .int .i64 n] w (LyPost w base P A (s.put wide n).e (s.put wide n)) := by
  have hmf : ∀ (fn : Fn) (first cap : Array Value) (w : World), (Instr.makeFunc fn first cap).run Try.prog w = .ok (.func fn first cap) w := fun _ _ _ _ => rfl
  have hst : ∃ w2, w2 = ((w.alloc (.cells #[.pointer (some ⟨P, 0, none⟩)] 44)).alloc (.cells #[.int .i64 wide] 3)).alloc (.cells #[.int .i64 n] 3) ∧ Bk w2 w.heap.size 44 [.pointer (some ⟨P, 0, none⟩)] ∧ Bk w2 (w.heap.size + 1) 3 [.int .i64 wide] ∧ Bk w2 (w.heap.size + 1 + 1) 3 [.int .i64 n] ∧ Below w.heap.size w w2 := by
    refine ⟨_, rfl, ((Bk.newA w _ _).alloc _).alloc _, (Bk.new2 w _ _ _).alloc _, ?_, (((Below.refl _ _).alloc (Nat.le_refl _) _).alloc (by rw [World.size_alloc]; omega) _).alloc (by rw [World.size_alloc, World.size_alloc]; omega) _⟩
    have := Bk.newA ((w.alloc (.cells #[.pointer (some ⟨P, 0, none⟩)] 44)).alloc (.cells #[.int .i64 wide] 3)) 3 #[.int .i64 n]
    rw [World.size_alloc, World.size_alloc] at this
    exact this
  obtain ⟨w2, hw2, hb0, hb1, hb2, hbl⟩ := hst
  have hfar : ∀ k, w.heap.size ≤ k → ¬ Wset P A k := by
    rintro k hk (e | ⟨a, ha, e⟩)
    · have := h.1.lt; omega
    · have := (own_ge h.2.1 a ha).2; omega
  have HB := Lib.hid (And.intro hb0 (And.intro hb1 (And.intro hb2 (And.intro hbl (And.intro (h.below hbl) hfar)))))
  have g0 := hb0.cell 0
  rw [hw2] at g0
  clear h hb0 hb1 hb2 hbl hfar
  go_enter Try.func30, Try.ntmps30
  go_wp2_with fail
  rw [← hw2]
  clear g0 hw2
  by_cases he : s.e = 0
  · refine (does_any (s' := ⟨s.m, (s.put wide n).b, s.e⟩) (x := (s.put wide n).e) HB.out.2.2.2.2.1 (fun w1 hb => putC (HB.out.2.2.2.2.1.below hb) hn (HB.out.2.1.belowS hb) (HB.out.2.2.1.belowS hb) (HB.out.1.belowS hb) he (HB.out.2.2.2.2.2 _ (by omega)) (HB.out.2.2.2.2.2 _ (by omega))) he (fun w => rfl)).mono ?_
    rintro e w1 h1
    obtain ⟨rfl, h3⟩ := LyPost.from_ HB.out.2.2.2.1 h1
    have e2 : (⟨s.m, (s.put wide n).b, (s.put wide n).e⟩ : WS) = s.put wide n := by rw [← put_m s wide n]
    rw [show (⟨(⟨s.m, (s.put wide n).b, s.e⟩ : WS).m, (⟨s.m, (s.put wide n).b, s.e⟩ : WS).b, (s.put wide n).e⟩ : WS) = s.put wide n from e2] at h3
    have H3 := Lib.hid h3
    clear h3 e2 h1 he
    go_wp2
    go_ret
    exact ⟨rfl, H3.out⟩
  · refine (does_err HB.out.2.2.2.2.1 _ he).mono ?_
    rintro e w1 h1
    obtain ⟨rfl, h3⟩ := LyPost.from_ HB.out.2.2.2.1 h1
    have e1 : s.put wide n = s := by unfold WS.put; rw [if_pos (by simpa using he)]
    have H3 := Lib.hid h3
    have E1 := Lib.hid e1
    clear h3 e1 h1 he
    go_wp2
    go_ret
    rw [E1.out]
    exact ⟨rfl, H3.out⟩
end Go.Proofs.Ytpfamjgdfcnieaa
