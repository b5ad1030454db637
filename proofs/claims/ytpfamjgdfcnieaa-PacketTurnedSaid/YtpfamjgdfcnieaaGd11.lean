/- Chapter 11: the document's Get. -/
import Derived.Test.YtpfamjgdfcnieaaGr11
namespace Go.Proofs.Ytpfamjgdfcnieaa
open Go.RowKit
set_option linter.unusedVariables false
/-- Its memory: a packet in a block, bytes elsewhere. -/
def RD (wa wx : World) (K g : Nat) (cs : List Value) (s : Value) (r : List UInt8) : Prop :=
  ∃ A n c off, s = .slice A n c ∧ Bk wx K 24 cs ∧ Mut wx A n g off (bys r) ∧ n ≤ c ∧ r.length = n ∧ n ≤ 17592186044416 ∧ g ≠ K ∧ wa.heap.size ≤ K ∧ Below wa.heap.size wa wx
section
variable {wa w w' : World} {K g off n c : Nat} {cs : List Value} {A A' : Option Addr} {r : List UInt8}
theorem RD.mk' (h1 : Bk w K 24 cs) (h2 : Mut w A n g off (bys r)) (h3 : n ≤ c) (h5 : n ≤ 17592186044416) (h6 : g ≠ K) (h7 : wa.heap.size ≤ K) (h8 : Below wa.heap.size wa w) : RD wa w K g cs (.slice A n c) r :=
  ⟨A, n, c, off, rfl, h1, h2, h3, by have := h2.1; simpa [bys_length] using this, h5, h6, h7, h8⟩
end
def tv (r : List UInt8) : Int := if 4 ≤ r.length then nbI r 0 4 else 0
def tb (r : List UInt8) : Bool := decide (4 ≤ r.length)
theorem RD.take {wa w : World} {K g n c : Nat} {cs : List Value} {A : Option Addr} {r : List UInt8} (h : RD wa w K g cs (.slice A n c) r) :
    Calls Try.prog 49 #[.slice A n c] w fun e w' => ∃ A' c', e = .returned (.tuple #[.int .i64 (tv r), .slice A' (n - 4) c', .bool (tb r)]) ∧ Bk w' K 24 cs ∧ ∀ i, RD wa (w'.setCell ⟨K, i, none⟩ (.int .i64 (tv r))) K g (cs.set i (.int .i64 (tv r))) (.slice A' (n - 4) c') (r.drop 4) := by
  obtain ⟨A0, n0, c0, off, e0, h1, h2, h3, h4, h5, h6, h7, h8⟩ := h
  injection e0 with e1 e2 e3
  subst e1 e2 e3
  refine (rtake_any h2.rd (by omega) h3).mono ?_
  rintro e w' ⟨A', c', he, hc', hA, hbw⟩
  refine ⟨A', c', he, h1.belowS hbw, fun i => ?_⟩
  have hc : Chg (fun k => k = K) w' (w'.setCell ⟨K, i, none⟩ (.int .i64 (tv r))) := (Chg.refl (fun k => k = K) w').set_ (show K = K from rfl) _ _
  exact RD.mk' ((h1.belowS hbw).set_ i _) ((mut_tk h2 hA hbw).keep fun t cs hb => hc.bk hb h6) hc' (by omega) h6 h7 ((below_base h8 hbw h8.size).setCell (p := ⟨K, i, none⟩) h7 _)
theorem RD.bk {wa w : World} {K g : Nat} {cs : List Value} {s : Value} {r : List UInt8} (h : RD wa w K g cs s r) : Bk w K 24 cs := by
  obtain ⟨A0, n0, c0, off, e0, h1, h2⟩ := h; exact h1
theorem RD.form {wa w : World} {K g : Nat} {cs : List Value} {s : Value} {r : List UInt8} (h : RD wa w K g cs s r) : ∃ A c, s = .slice A r.length c := by
  obtain ⟨A0, n0, c0, off, e0, h1, h2, h3, h4, h5⟩ := h; exact ⟨A0, c0, by rw [e0, h4]⟩
theorem RD.opn {wa w : World} {K g n c : Nat} {cs : List Value} {A : Option Addr} {r : List UInt8} (h : RD wa w K g cs (.slice A n c) r) :
    ∃ off, Bk w K 24 cs ∧ Mut w A n g off (bys r) ∧ n ≤ c ∧ r.length = n ∧ n ≤ 17592186044416 ∧ g ≠ K ∧ wa.heap.size ≤ K ∧ Below wa.heap.size wa w := by
  obtain ⟨A0, n0, c0, off, e0, h1, h2, h3, h4, h5, h6, h7, h8⟩ := h
  injection e0 with e1 e2 e3
  subst e1 e2 e3
  exact ⟨off, h1, h2, h3, h4, h5, h6, h7, h8⟩
theorem nbI_one {r : List UInt8} (h : 0 < r.length) : ((r[0]'h).toNat : Int) = nbI r 0 1 := by
  unfold nbI
  match r, h with
  | a :: r, _ => simp [be]
theorem RD.byte {wa w : World} {K g n c : Nat} {cs : List Value} {A : Option Addr} {r : List UInt8} (h : RD wa w K g cs (.slice A n c) r) (h0 : 0 < n) :
    ∃ off, A = some ⟨g, off, none⟩ ∧ w.cell? ⟨g, off, none⟩ = some (.int .u8 (nbI r 0 1)) ∧ 0 ≤ nbI r 0 1 ∧ nbI r 0 1 ≤ 255 ∧
      ∀ (A' : Option Addr) (i : Nat), (1 < n → A' = A.map (fun a => a.add 1)) → RD wa (w.setCell ⟨K, i, none⟩ (.int .i64 (nbI r 0 1))) K g (cs.set i (.int .i64 (nbI r 0 1))) (.slice A' (n - 1) (c - 1)) (r.drop 1) := by
  obtain ⟨off, h1, h2, h3, h4, h5, h6, h7, h8⟩ := h.opn
  have hA := (h2.2 h0).1
  obtain ⟨b, o, hA', hb0, hcc⟩ := h2.rd.form h0
  have hbo : b = g ∧ o = off := by rw [hA] at hA'; injection hA' with hA'; injection hA' with e1 e2; exact ⟨e1.symm, e2.symm⟩
  obtain ⟨rfl, rfl⟩ := hbo
  have hrl : 0 < r.length := by omega
  have x0 := hcc 0 _ (bys_get r 0 hrl)
  rw [nbI_one hrl] at x0
  have hlt := r[0].toNat_lt
  have hn1 := nbI_one hrl
  refine ⟨o, hA, x0, by omega, by omega, fun A' i hA1 => ?_⟩
  have hc : Chg (fun k => k = K) w (w.setCell ⟨K, i, none⟩ (.int .i64 (nbI r 0 1))) := (Chg.refl (fun k => k = K) w).set_ (show K = K from rfl) _ _
  exact RD.mk' (h1.set_ i _) ((by rw [← bys_drop]; exact h2.drop_ (by omega) (fun hh => by rw [hA1 hh, hA]; rfl) : Mut w A' (n - 1) b (o + 1) (bys (r.drop 1))).keep fun t cs hb => hc.bk hb h6) (by omega) (by omega) h6 h7 (h8.setCell (p := ⟨K, i, none⟩) h7 _)
theorem nbI_i64 (l : List UInt8) (i : Nat) {n : Nat} (hn : n ≤ 4) : I64 (nbI l i n) := by
  have h1 : ((l.drop i).take n).length ≤ 4 := by rw [List.length_take]; omega
  have h2 := be_lt _ ((l.drop i).take n) rfl
  have h3 : 256 ^ ((l.drop i).take n).length ≤ 256 ^ 4 := Nat.pow_le_pow_right (by decide) h1
  unfold nbI I64
  have h4 : (256 : Nat) ^ 4 = 4294967296 := by decide
  rw [h4] at h3
  omega
theorem rPk_i64 (l : List UInt8) : I64 (nbI l 0 1) ∧ I64 (rV1 l) ∧ I64 (rV2 l) ∧ I64 (rV3 l) ∧ I64 (rV4 l) := by
  have h0 : I64 0 := ⟨by decide, by decide⟩
  refine ⟨nbI_i64 _ _ (by decide), ?_, ?_, ?_, ?_⟩
  · unfold rV1; split
    · exact nbI_i64 _ _ (by decide)
    · exact h0
  · unfold rV2; split
    · split
      · exact nbI_i64 _ _ (by decide)
      · exact h0
    · exact h0
  · unfold rV3; split
    · split
      · exact nbI_i64 _ _ (by decide)
      · exact h0
    · exact h0
  · unfold rV4; split
    · exact nbI_i64 _ _ (by decide)
    · exact h0
/-- Its memory at the end: the packet with its data. -/
def RZ (wa wx : World) (K g : Nat) (A : Option Addr) (n c : Nat) (k : Int) (l : List UInt8) : Prop :=
  Bk wx K 24 [.int .i64 k, .int .i64 (rV1 l), .int .i64 (rV2 l), .int .i64 (rV3 l), .int .i64 (rV4 l), .slice A n c] ∧ Mut wx A n g 0 (bys (rR4 l)) ∧ n ≤ c ∧ (rR4 l).length = n ∧ n ≤ 17592186044416 ∧ g ≠ K ∧ wa.heap.size ≤ g ∧ wa.heap.size ≤ K ∧ Below wa.heap.size wa wx
theorem RZ.below {wa wx wy : World} {K g : Nat} {A : Option Addr} {n c : Nat} {k : Int} {l : List UInt8} (h : RZ wa wx K g A n c k l) (hb : Below wx.heap.size wx wy) : RZ wa wy K g A n c k l :=
  ⟨h.1.belowS hb, h.2.1.below hb, h.2.2.1, h.2.2.2.1, h.2.2.2.2.1, h.2.2.2.2.2.1, h.2.2.2.2.2.2.1, h.2.2.2.2.2.2.2.1, below_base h.2.2.2.2.2.2.2.2 hb h.2.2.2.2.2.2.2.2.size⟩
theorem rz_of {wa w8 w1 : World} {K g8 n m c d : Nat} {A A1 : Option Addr} {k : Int} {l : List UInt8} {u : Value} (h : RD wa w8 K g8 [.int .i64 k, .int .i64 (rV1 l), .int .i64 (rV2 l), .int .i64 (rV3 l), .int .i64 (rV4 l), u] (.slice A n c) (rR4 l))
    (ho : w1.ownsRow w8.heap.size 5 1 (.slice A1 m d) m (bys (rR4 l))) (hg : Below w8.heap.size w8 w1) (hd : m ≤ d) : ∃ g, RZ wa (w1.setCell ⟨K, 5, none⟩ (.slice A1 m d)) K g A1 m d k l := by
  obtain ⟨off, h1, h2, h3, h4, h5, h6, h7, h8⟩ := h.opn
  obtain ⟨g, hm, hgb, _⟩ := Mut.of_own ho
  have hK := h1.lt
  have hml : (rR4 l).length = m := by have := hm.1; simpa [bys_length] using this
  have hc : Chg (fun k => k = K) w1 (w1.setCell ⟨K, 5, none⟩ (.slice A1 m d)) := (Chg.refl (fun k => k = K) w1).set_ (show K = K from rfl) _ _
  have hs := h8.size
  exact ⟨g, (h1.belowS hg).set_ 5 _, hm.keep fun t cs hb => hc.bk hb (by omega), hd, hml, by omega, by omega, by omega, h7, (below_base h8 hg hs).setCell (p := ⟨K, 5, none⟩) h7 _⟩
theorem ge_nil {b : List UInt8} (hE : openE tableL b = 0) (hl : openB tableL b = []) : geP b = pz ∧ geE b = 6 := ge_bad hE hl (by decide)
set_option maxRecDepth 100000 in
set_option maxHeartbeats 6400000 in
theorem rpget_any {w : World} {A : Option Addr} {n c : Nat} {b : List UInt8} (h : Rd w A n (bys b)) (hn : n ≤ 17592186044416) (hc : n ≤ c) :
    Calls Try.prog 23 #[.slice A n c] w (GePost w (geP b) (geE b)) := by
  have hb1 := (Below.refl w.heap.size w).alloc (Nat.le_refl _) (.cells #[.int .i64 0, .int .i64 0, .int .i64 0, .int .i64 0, .int .i64 0, .slice none 0 0] 24)
  have hz := Bk.newA w 24 #[.int .i64 0, .int .i64 0, .int .i64 0, .int .i64 0, .int .i64 0, .slice none 0 0]
  have H := Lib.hid (And.intro hb1 (And.intro hz (h.below hb1)))
  have hwa : ∃ wa, wa = w.alloc (.cells #[.int .i64 0, .int .i64 0, .int .i64 0, .int .i64 0, .int .i64 0, .slice none 0 0] 24) := ⟨_, rfl⟩
  obtain ⟨wa, hwa⟩ := hwa
  have hws : wa.heap.size = w.heap.size + 1 := by rw [hwa, World.size_alloc]
  rw [← hwa] at H
  clear h hb1 hz
  have HWS := Lib.hid hws
  clear hws
  go_enter Try.func23, Try.ntmps23
  go_wp2_with fail
  rw [← hwa]
  clear hwa
  refine (refOpen_any (t := tableL) (.inl ⟨rfl, rfl⟩) H.out.2.2 hn hc).mono ?_
  rintro e w2 ⟨A1, n1, c1, g1, rfl, hnc, hm, hg1, hb2⟩
  have hB2 := below_base H.out.1 hb2 H.out.1.size
  have hK2 := H.out.2.1.belowS hb2
  have hl1 : (openB tableL b).length = n1 := by have := hm.1; simpa [bys_length] using this
  have hn1 : (openB tableL b).length ≤ b.length := by
    unfold openB; split
    · rw [List.length_take]; omega
    · exact Nat.zero_le _
  have hbl : b.length = n := by have := H.out.2.2.1; simpa [bys_length] using this
  have hn2 : n1 ≤ 17592186044416 := by omega
  have H2 := Lib.hid (And.intro hm (And.intro hB2 (And.intro hK2 (And.intro hl1 (And.intro hnc (And.intro hb2 hn2))))))
  obtain ⟨c0, c1', c2, c3, c4, c5⟩ := cells6 hK2
  obtain ⟨f0, f1, f2, f3, f4, f5⟩ := fr6 hK2
  clear hm hB2 hK2 hl1 hn1 hbl hnc hg1 hb2 hn2
  by_cases hE : openE tableL b = 0
  · have HE := Lib.hid hE
    rw [hE]
    clear hE
    obtain ⟨l, hl⟩ : ∃ l, openB tableL b = l := ⟨_, rfl⟩
    rw [hl] at H2
    have HL := Lib.hid hl
    clear hl
    by_cases h0 : n1 = 0
    · subst h0
      have HN := Lib.hid (List.eq_nil_of_length_eq_zero H2.out.2.2.2.1)
      go_wp2_with fail
      have h9 := set6 H2.out.2.1 H2.out.2.2.1 (.int .i64 0) (.int .i64 0) (.int .i64 0) (.int .i64 0) (.int .i64 0) (.slice none 0 0)
      exact ret_pkE (v6 := .int .i64 6) rfl rfl rfl rfl h9.1 (ge_no h9.2.1 (ge_nil HE.out (HL.out.trans HN.out)).1 (ge_nil HE.out (HL.out.trans HN.out)).2)
    · clear c0 c1' c2 c3 c4 c5 f0 f1 f2 f3 f4 f5
      have hll : 0 < l.length := by rw [H2.out.2.2.2.1]; omega
      have hA1 := (H2.out.1.2 (by omega)).1
      obtain ⟨bb, off, hAe, hb0, hcc⟩ := H2.out.1.rd.form (by omega)
      have hbo : bb = g1 ∧ off = 0 := by rw [hA1] at hAe; injection hAe with hAe; injection hAe with e1 e2; exact ⟨e1.symm, e2.symm⟩
      obtain ⟨rfl, rfl⟩ := hbo
      have x0 := hcc 0 _ (bys_get l 0 hll)
      simp only [Nat.add_zero] at x0
      have hkd : ((l[0]'hll).toNat : Int) = nbI l 0 1 := by
        unfold nbI
        match l, hll with
        | a :: r, _ => simp [be]
      rw [hkd] at x0
      obtain ⟨k, hk⟩ : ∃ k, nbI l 0 1 = k := ⟨_, rfl⟩
      have hk0 : 0 ≤ k ∧ k ≤ 255 := by rw [← hk, ← hkd]; have := (l[0]'hll).toNat_lt; omega
      rw [hk] at x0
      subst hAe
      have hcv : wrap64 k = k := by unfold wrap64; omega
      have j0 : 0 < n1 := by omega
      have i0 : (0 : Int) < (n1 : Int) := by omega
      have d1 : (n1 == 0) = false := by simpa using h0
      have d2 : ((n1 : Int) == 0) = false := by simp; omega
      obtain ⟨i0', hi0, hz0, hz1, hz2⟩ := info_parts u8_info
      obtain ⟨A', hs, hA'⟩ := run_from (P := Try.prog) (t := 22) Try.underlying22 hi0 hz1 (some ⟨bb, 0, none⟩) n1 c1 1 .i64 (by omega) H2.out.2.2.2.2.1
      have hs2 : ∀ w, (Instr.slice 22 (.slice (some ⟨bb, 0, none⟩) n1 c1) (some (.int .i64 1)) none none).run Try.prog w = .ok (.slice A' (n1 - 1) (c1 - 1)) w := hs
      have hm1 : Mut w2 A' (n1 - 1) bb (0 + 1) (bys (l.drop 1)) := by rw [← bys_drop]; exact H2.out.1.drop_ (by omega) (fun hh => by rw [hA' hh]; rfl)
      have hne : bb ≠ w2.heap.size := Nat.ne_of_lt hb0
      have hR3 : RD wa (w2.alloc (.cells #[.int .i64 k, .int .i64 0, .int .i64 0, .int .i64 0, .int .i64 0, .slice none 0 0] 24)) w2.heap.size bb [.int .i64 k, .int .i64 0, .int .i64 0, .int .i64 0, .int .i64 0, .slice none 0 0] (.slice A' (n1 - 1) (c1 - 1)) (l.drop 1) :=
        RD.mk' (Bk.newA w2 _ _) (hm1.alloc _) (by have := H2.out.2.2.2.2.1; omega) (by have := H2.out.2.2.2.2.2.2; omega) hne H2.out.2.2.2.2.2.1.size (below_base H2.out.2.2.2.2.2.1 ((Below.refl _ _).alloc (Nat.le_refl _) _) H2.out.2.2.2.2.2.1.size)
      have H3 := Lib.hid hR3
      have HK := Lib.hid (And.intro hk (And.intro hk0 hll))
      clear hll hA1 hcc hkd hk hk0 hi0 hz0 hz1 hz2 hA' hs hm1 h0 hb0 hR3 hne
      go_wp2_with fail
      refine H3.out.take.mono ?_
      rintro e w4 ⟨A2, c2, rfl, hk4, hr4⟩
      have H4 := Lib.hid (show RD wa (w4.setCell ⟨w2.heap.size, 1, none⟩ (.int .i64 (rV1 l))) w2.heap.size bb [.int .i64 k, .int .i64 (rV1 l), .int .i64 0, .int .i64 0, .int .i64 0, .slice none 0 0] (.slice A2 (n1 - 1 - 4) c2) ((l.drop 1).drop 4) from hr4 1)
      rw [show tv (l.drop 1) = rV1 l from rfl, show tb (l.drop 1) = rB1 l from rfl]
      obtain ⟨c0, c1', c2', c3, c4, c5⟩ := cells6 hk4
      obtain ⟨f0, f1, f2, f3, f4, f5⟩ := fr6 hk4
      clear hk4 hr4 x0 hs2 hcv j0 i0 d1 d2
      go_upto_region 9 with (fail)
      generalize w4.setCell ⟨w2.heap.size, 1, none⟩ (.int .i64 (rV1 l)) = w5 at H4 ⊢
      have hKb : wa.heap.size ≤ w2.heap.size := H2.out.2.2.2.2.2.1.size
      generalize w2.heap.size = K at H4 hKb ⊢
      clear c0 c1' c2' c3 c4 c5 f0 f1 f2 f3 f4 f5 H3
      obtain ⟨c0, c1', c2', c3, c4, c5⟩ := cells6 H4.out.bk
      obtain ⟨f0, f1, f2, f3, f4, f5⟩ := fr6 H4.out.bk
      have HKB := Lib.hid hKb
      clear hKb
      go_cut [9, 47] from 25 to 47 (fun s9 s wx => s9 = .bool (rB1 l) ∧ s = .bool (rC2 l) ∧ wx = w5)
      case first =>
        cases hb1 : rB1 l with
        | false =>
          have HC := Lib.hid (show rC2 l = false from by unfold rC2; rw [hb1]; rfl)
          have HB := Lib.hid hb1
          clear hb1
          go_wp2_with fail
          go_meet
          exact ⟨by rw [HB.out], by rw [HC.out], rfl⟩
        | true =>
          have HB := Lib.hid hb1
          by_cases k1 : k = 1
          · subst k1
            have HC := Lib.hid (show rC2 l = true from by unfold rC2; rw [hb1, HK.out.1]; rfl)
            clear hb1
            go_wp2_with fail
            go_meet
            exact ⟨by rw [HB.out], by rw [HC.out], rfl⟩
          · by_cases k2 : k = 2
            · subst k2
              have HC := Lib.hid (show rC2 l = true from by unfold rC2; rw [hb1, HK.out.1]; rfl)
              clear hb1 k1
              go_wp2_with fail
              go_meet
              exact ⟨by rw [HB.out], by rw [HC.out], rfl⟩
            · have HC := Lib.hid (show rC2 l = false from by unfold rC2; rw [hb1, HK.out.1]; simp [k1, k2])
              have d1 : (k == 1) = false := by simpa using k1
              have d2 : (k == 2) = false := by simpa using k2
              clear hb1 k1 k2
              go_wp2_with fail
              go_meet
              exact ⟨by rw [HB.out], by rw [HC.out], rfl⟩
      case rest =>
        obtain ⟨rfl, rfl, hww⟩ := hcut
        subst wc
        go_upto_if 47 with fail
        go_cut [8, 9] from 47 to 54 (fun s8 s9 wx => s9 = .bool (rB2 l) ∧ RD wa wx K bb [.int .i64 k, .int .i64 (rV1 l), .int .i64 (rV2 l), .int .i64 0, .int .i64 0, .slice none 0 0] s8 (rR2 l))
        case first =>
          cases hC : rC2 l with
          | false =>
            have HC := Lib.hid (show rB2 l = rB1 l ∧ rV2 l = 0 ∧ rR2 l = (l.drop 1).drop 4 from by unfold rB2 rV2 rR2; rw [hC]; exact ⟨rfl, rfl, rfl⟩)
            clear hC
            go_wp2_with fail
            go_meet
            exact ⟨by rw [HC.out.1], by rw [HC.out.2.1, HC.out.2.2]; exact H4.out⟩
          | true =>
            have HC := Lib.hid (show rB2 l = tb ((l.drop 1).drop 4) ∧ rV2 l = tv ((l.drop 1).drop 4) ∧ rR2 l = ((l.drop 1).drop 4).drop 4 from by unfold rB2 rV2 rR2; rw [hC]; exact ⟨rfl, rfl, rfl⟩)
            clear hC
            go_wp2_with fail
            refine H4.out.take.mono ?_
            rintro e w6 ⟨A3, c9, rfl, hk6, hr6⟩
            have hq6 := hr6 2
            rw [← HC.out.1, ← HC.out.2.1]
            rw [← HC.out.2.1, ← HC.out.2.2] at hq6
            have H6 := Lib.hid hq6
            clear hq6
            clear c0 c1' c2' c3 c4 c5 f0 f1 f2 f3 f4 f5
            obtain ⟨c0, c1', c2', c3, c4, c5⟩ := cells6 hk6
            obtain ⟨f0, f1, f2, f3, f4, f5⟩ := fr6 hk6
            clear hk6 hr6
            go_wp2_with fail
            go_meet
            exact ⟨rfl, H6.out⟩
        case rest =>
          obtain ⟨rfl, hR6⟩ := hcut
          obtain ⟨A3, c9, rfl⟩ := hR6.form
          clear c0 c1' c2' c3 c4 c5 f0 f1 f2 f3 f4 f5 H4
          generalize wc = w6 at hR6 ⊢
          have H6 := Lib.hid hR6
          clear hR6
          obtain ⟨c0, c1', c2', c3, c4, c5⟩ := cells6 H6.out.bk
          obtain ⟨f0, f1, f2, f3, f4, f5⟩ := fr6 H6.out.bk
          go_upto_region 11 with fail
          go_cut [9, 60] from 55 to 60 (fun s9 s wx => s9 = .bool (rB2 l) ∧ s = .bool (rC3 l) ∧ wx = w6)
          case first =>
            cases hb1 : rB2 l with
            | false =>
              have HC := Lib.hid (show rC3 l = false from by unfold rC3; rw [hb1]; rfl)
              have HB := Lib.hid hb1
              clear hb1
              go_wp2_with fail
              go_meet
              exact ⟨by rw [HB.out], by rw [HC.out], rfl⟩
            | true =>
              have HC := Lib.hid (show rC3 l = (k == 1) from by unfold rC3; rw [hb1, HK.out.1]; rfl)
              have HB := Lib.hid hb1
              clear hb1
              go_wp2_with fail
              go_meet
              exact ⟨by rw [HB.out], by rw [HC.out], rfl⟩
          case rest =>
            obtain ⟨rfl, rfl, hww⟩ := hcut
            subst wc
            go_upto_if 60 with fail
            go_cut [8, 9] from 60 to 67 (fun s8 s9 wx => s9 = .bool (rB3 l) ∧ RD wa wx K bb [.int .i64 k, .int .i64 (rV1 l), .int .i64 (rV2 l), .int .i64 (rV3 l), .int .i64 0, .slice none 0 0] s8 (rR3 l))
            case first =>
              cases hC : rC3 l with
              | false =>
                have HC := Lib.hid (show rB3 l = rB2 l ∧ rV3 l = 0 ∧ rR3 l = rR2 l from by unfold rB3 rV3 rR3; rw [hC]; exact ⟨rfl, rfl, rfl⟩)
                clear hC
                go_wp2_with fail
                go_meet
                exact ⟨by rw [HC.out.1], by rw [HC.out.2.1, HC.out.2.2]; exact H6.out⟩
              | true =>
                have HC := Lib.hid (show rB3 l = tb (rR2 l) ∧ rV3 l = tv (rR2 l) ∧ rR3 l = (rR2 l).drop 4 from by unfold rB3 rV3 rR3; rw [hC]; exact ⟨rfl, rfl, rfl⟩)
                clear hC
                go_wp2_with fail
                refine H6.out.take.mono ?_
                rintro e w7 ⟨A4, c10, rfl, hk7, hr7⟩
                have hq7 := hr7 3
                rw [← HC.out.1, ← HC.out.2.1]
                rw [← HC.out.2.1, ← HC.out.2.2] at hq7
                have H7 := Lib.hid hq7
                clear hq7
                clear c0 c1' c2' c3 c4 c5 f0 f1 f2 f3 f4 f5
                obtain ⟨c0, c1', c2', c3, c4, c5⟩ := cells6 hk7
                obtain ⟨f0, f1, f2, f3, f4, f5⟩ := fr6 hk7
                clear hk7 hr7
                go_wp2_with fail
                go_meet
                exact ⟨rfl, H7.out⟩
            case rest =>
              obtain ⟨rfl, hR7⟩ := hcut
              obtain ⟨A4, c10, rfl⟩ := hR7.form
              clear c0 c1' c2' c3 c4 c5 f0 f1 f2 f3 f4 f5 H6
              generalize wc = w7 at hR7 ⊢
              have H7 := Lib.hid hR7
              clear hR7
              obtain ⟨c0, c1', c2', c3, c4, c5⟩ := cells6 H7.out.bk
              obtain ⟨f0, f1, f2, f3, f4, f5⟩ := fr6 H7.out.bk
              go_upto_region 13 with fail
              go_cut [9, 78] from 68 to 78 (fun s9 s wx => s9 = .bool (rB3 l) ∧ s = .bool (rC4 l) ∧ wx = w7)
              case first =>
                cases hb1 : rB3 l with
                | false =>
                  have HC := Lib.hid (show rC4 l = false from by unfold rC4; rw [hb1]; rfl)
                  have HB := Lib.hid hb1
                  clear hb1
                  go_wp2_with fail
                  go_meet
                  exact ⟨by rw [HB.out], by rw [HC.out], rfl⟩
                | true =>
                  have HB := Lib.hid hb1
                  by_cases k4 : k = 4
                  · subst k4
                    have HC := Lib.hid (show rC4 l = decide (0 < (rR3 l).length) from by unfold rC4; rw [hb1, HK.out.1]; simp)
                    clear hb1
                    go_wp2_with fail
                    go_meet
                    exact ⟨by rw [HB.out], by rw [HC.out], rfl⟩
                  · have HC := Lib.hid (show rC4 l = false from by unfold rC4; rw [hb1, HK.out.1]; simp [k4])
                    have d1 : (k == 4) = false := by simpa using k4
                    clear hb1 k4
                    go_wp2_with fail
                    go_meet
                    exact ⟨by rw [HB.out], by rw [HC.out], rfl⟩
              case rest =>
                obtain ⟨rfl, rfl, hww⟩ := hcut
                subst wc
                go_upto_if 78 with fail
                go_cut [8] from 78 to 85 (fun s8 wx => RD wa wx K bb [.int .i64 k, .int .i64 (rV1 l), .int .i64 (rV2 l), .int .i64 (rV3 l), .int .i64 (rV4 l), .slice none 0 0] s8 (rR4 l))
                case first =>
                  cases hC : rC4 l with
                  | false =>
                    have HC := Lib.hid (show rV4 l = 0 ∧ rR4 l = rR3 l from by unfold rV4 rR4; rw [hC]; exact ⟨rfl, rfl⟩)
                    clear hC
                    go_wp2_with fail
                    go_meet
                    rw [HC.out.1, HC.out.2]
                    exact H7.out
                  | true =>
                    have HC := Lib.hid (show rV4 l = nbI (rR3 l) 0 1 ∧ rR4 l = (rR3 l).drop 1 from by unfold rV4 rR4; rw [hC]; exact ⟨rfl, rfl⟩)
                    have hpos : 0 < (rR3 l).length := by
                      unfold rC4 at hC; rw [Bool.and_eq_true] at hC; simpa using hC.2
                    clear hC
                    generalize hN : (rR3 l).length = N at H7 hpos ⊢
                    clear hN
                    obtain ⟨off, hA4, x0, v0, v1, hnx⟩ := H7.out.byte hpos
                    subst hA4
                    generalize hB : nbI (rR3 l) 0 1 = bb4 at x0 v0 v1 hnx HC
                    clear hB
                    have hN8 := H7.out.opn
                    obtain ⟨_, _, _, hNc, _, hNl, _⟩ := hN8
                    have hcv : wrap64 bb4 = bb4 := by unfold wrap64; omega
                    have i0 : (0 : Int) < (N : Int) := by omega
                    obtain ⟨i0', hi0, hz0, hz1, hz2⟩ := info_parts u8_info
                    obtain ⟨A', hs, hA'⟩ := run_from (P := Try.prog) (t := 22) Try.underlying22 hi0 hz1 (some ⟨bb, off, none⟩) N c10 1 .i64 (by omega) hNc
                    have hs2 : ∀ w, (Instr.slice 22 (.slice (some ⟨bb, off, none⟩) N c10) (some (.int .i64 1)) none none).run Try.prog w = .ok (.slice A' (N - 1) (c10 - 1)) w := hs
                    have HX := Lib.hid (hnx A' 4 hA')
                    clear hs hA' hnx hi0 hz0 hz1 hz2 hNl hNc
                    go_wp2_with fail
                    go_meet
                    rw [HC.out.1, HC.out.2]
                    exact HX.out
                case rest =>
                  obtain ⟨A5, c11, rfl⟩ := hcut.form
                  clear c0 c1' c2' c3 c4 c5 f0 f1 f2 f3 f4 f5 H7
                  generalize wc = w8 at hcut ⊢
                  generalize hN : (rR4 l).length = N at hcut ⊢
                  clear hN
                  obtain ⟨off8, p1, p2, p3, p4, p5, p6, p7, p8⟩ := hcut.opn
                  have H8 := Lib.hid hcut
                  have HK8 := Lib.hid (And.intro p1 (And.intro p2.rd p5))
                  have hK8 : K ≠ w8.heap.size := Nat.ne_of_lt p1.lt
                  clear hcut p1 p2 p3 p4 p5 p6 p7 p8
                  obtain ⟨i0', hi0, hz0, hz1, hz2⟩ := info_parts u8_info
                  go_upto_region 17 with (at_builtin; refine wpList_append_rd _ rfl (.tmp 86) (.tmp 87) _ rfl w8.heap.size 5 i0' _ 1 1 Try.underlying22 hi0 hz0 hz1 hz2 rfl (by omega) _ 0 [] rfl (own_new0 w8 _ _ (Nat.le_refl _)) A5 N c11 (bys (rR4 l)) rfl (by simpa using HK8.out.2.1.alloc _) (bys_one _) (by simp only [maxLen]; have := HK8.out.2.2; omega) (by have := HK8.out.2.2; omega) (by simp) ?_; intro v1 w9 hown1 hg1 hat1; simp only [Nat.zero_add, List.nil_append] at hown1; have hb9 := ((Below.refl w8.heap.size w8).alloc (Nat.le_refl _) _).grown hg1 (by simp) (fun k hk => ((own_new0 w8 5 _ (Nat.le_refl _)).lt k hk).1); obtain ⟨A9, d9, rfl, hd9, hx9⟩ := own_form hown1; clear hx9; obtain ⟨c0, c1', c2', c3, c4, c5⟩ := cells6 (HK8.out.1.belowS hb9); obtain ⟨f0, f1, f2, f3, f4, f5⟩ := fr6 (HK8.out.1.belowS hb9); have H9 := Lib.hid (And.intro hown1 (And.intro hb9 hd9)); clear hown1 hb9 hd9 hg1 hat1)
                  obtain ⟨g9, hz⟩ := rz_of H8.out H9.out.1 H9.out.2.1 H9.out.2.2
                  generalize w9.setCell ⟨K, 5, none⟩ (.slice A9 N d9) = w10 at hz ⊢
                  have H10 := Lib.hid hz
                  clear hz H8 HK8 H9 hi0 hz0 hz1 hz2 c0 c1' c2' c3 c4 c5 f0 f1 f2 f3 f4 f5 hK8
                  have hwK : w.heap.size < K := by have := HKB.out; have := HWS.out; omega
                  have HWK := Lib.hid hwK
                  clear hwK
                  obtain ⟨c0, c1', c2', c3, c4, c5⟩ := cells6 H10.out.1
                  have hR := H.out.2.1.below H10.out.2.2.2.2.2.2.2.2 (by rw [HWS.out]; exact Nat.lt_succ_self _)
                  obtain ⟨m0, m1, m2, m3, m4, m5⟩ := cells6 hR
                  obtain ⟨y0, y1, y2, y3, y4, y5⟩ := fr6 hR
                  have HR := Lib.hid hR
                  clear hR
                  have hll := HK.out.2.2
                  have HQ := Lib.hid (rOk_eq l hll)
                  clear hll
                  cases hb : rB3 l with
                  | false =>
                    have HG := Lib.hid (show gpB l = false from by rw [← HQ.out.1]; unfold rOk; rw [hb]; rfl)
                    clear hb
                    go_wp2_with fail
                    have hB := below_base H.out.1 H10.out.2.2.2.2.2.2.2.2 H.out.1.size
                    have h9 := set6 hB HR.out (.int .i64 0) (.int .i64 0) (.int .i64 0) (.int .i64 0) (.int .i64 0) (.slice none 0 0)
                    exact ret_pkE (v6 := .int .i64 6) rfl rfl rfl rfl h9.1 (ge_no h9.2.1 (ge_bad HE.out HL.out HG.out).1 (ge_bad HE.out HL.out HG.out).2)
                  | true =>
                    have HB := Lib.hid hb
                    clear hb
                    have hi := rPk_i64 l
                    rw [HK.out.1] at hi
                    have hpa : PA w10 A9 N d9 ⟨k, rV1 l, rV2 l, rV3 l, rV4 l, rR4 l⟩ := ⟨H10.out.2.1.rd, H10.out.2.2.1, by have := H10.out.2.2.2.2.1; omega, H10.out.2.2.2.1, hi⟩
                    have hpk : (⟨k, rV1 l, rV2 l, rV3 l, rV4 l, rR4 l⟩ : PK) = rPk l := by unfold rPk; rw [HK.out.1]
                    have HP := Lib.hid (And.intro hpa hpk)
                    clear hi hpa hpk
                    go_wp2_with fail
                    refine (rpcheck_any HP.out.1).mono ?_
                    rintro e w12 ⟨rfl, hb12⟩
                    rw [HP.out.2]
                    have H12 := Lib.hid (H10.out.below hb12)
                    clear c0 c1' c2' c3 c4 c5 m0 m1 m2 m3 m4 m5 y0 y1 y2 y3 y4 y5 hb12 HR
                    obtain ⟨c0, c1', c2', c3, c4, c5⟩ := cells6 H12.out.1
                    obtain ⟨f0, f1, f2, f3, f4, f5⟩ := fr6 H12.out.1
                    have hR := H.out.2.1.below H12.out.2.2.2.2.2.2.2.2 (by rw [HWS.out]; exact Nat.lt_succ_self _)
                    obtain ⟨m0, m1, m2, m3, m4, m5⟩ := cells6 hR
                    obtain ⟨y0, y1, y2, y3, y4, y5⟩ := fr6 hR
                    have HR := Lib.hid hR
                    clear hR
                    cases hq : pkB (rPk l) with
                    | false =>
                      have HG := Lib.hid (show gpB l = false from by rw [← HQ.out.1]; unfold rOk; rw [hq]; simp)
                      rw [show pkE (rPk l) = 2 from by unfold pkE; rw [hq]; rfl]
                      clear hq
                      go_wp2_with fail
                      have hB := below_base H.out.1 H12.out.2.2.2.2.2.2.2.2 H.out.1.size
                      have h9 := set6 hB HR.out (.int .i64 0) (.int .i64 0) (.int .i64 0) (.int .i64 0) (.int .i64 0) (.slice none 0 0)
                      exact ret_pkE (v6 := .int .i64 6) rfl rfl rfl rfl h9.1 (ge_no h9.2.1 (ge_bad HE.out HL.out HG.out).1 (ge_bad HE.out HL.out HG.out).2)
                    | true =>
                      have hgo : rOk l = true := by unfold rOk; rw [hq, HB.out]; rfl
                      have HG := Lib.hid (And.intro (show gpB l = true from by rw [← HQ.out.1]; exact hgo) (HQ.out.2 hgo))
                      rw [show pkE (rPk l) = 0 from by unfold pkE; rw [hq]; rfl]
                      have hne1 : w.heap.size ≠ K := Nat.ne_of_lt HWK.out
                      have hne2 : K ≠ w.heap.size := Nat.ne_of_gt HWK.out
                      clear hq hgo
                      go_wp2_with fail
                      have hB := below_base H.out.1 H12.out.2.2.2.2.2.2.2.2 H.out.1.size
                      have h9 := set6 hB HR.out (.int .i64 k) (.int .i64 (rV1 l)) (.int .i64 (rV2 l)) (.int .i64 (rV3 l)) (.int .i64 (rV4 l)) (.slice A9 N d9)
                      have hgd := ge_good HE.out HL.out HG.out.1
                      refine ret_pkE (v6 := .int .i64 0) rfl rfl rfl rfl h9.1 ?_
                      rw [hgd.1, hgd.2, ← HG.out.2, ← HP.out.2]
                      have hgw : g9 ≠ w.heap.size := by have := H12.out.2.2.2.2.2.2.1; have := HWS.out; omega
                      exact ⟨A9, N, d9, g9, rfl, H12.out.2.2.1, H12.out.2.2.2.1, H12.out.2.1.keep fun t cs hb => h9.2.2.bk hb hgw, by have := H12.out.2.2.2.2.2.2.1; have := HWS.out; omega, h9.2.1⟩
  · have d1 : (openE tableL b != 0) = true := by simpa using hE
    have HE := Lib.hid hE
    obtain ⟨x, hx⟩ : ∃ x, openE tableL b = x := ⟨_, rfl⟩
    rw [hx] at d1 ⊢
    have HX := Lib.hid hx
    clear hE hx
    go_wp2_with fail
    have h9 := set6 H2.out.2.1 H2.out.2.2.1 (.int .i64 0) (.int .i64 0) (.int .i64 0) (.int .i64 0) (.int .i64 0) (.slice none 0 0)
    exact ret_pkE (v6 := .int .i64 x) rfl rfl rfl rfl h9.1 (ge_no h9.2.1 (ge_shut HE.out).1 ((ge_shut HE.out).2.trans HX.out))
end Go.Proofs.Ytpfamjgdfcnieaa
