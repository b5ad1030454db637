/- Chapter 11: the document's Put. -/
import Derived.Test.YtpfamjgdfcnieaaPn11
import Derived.Test.YtpfamjgdfcnieaaPd11
namespace Go.Proofs.Ytpfamjgdfcnieaa
open Go.RowKit
set_option linter.unusedVariables false
theorem four_bys {n : Int} (h0 : 0 ≤ n) (h1 : n ≤ 4294967295) : (bys (bebs 4 n)).toArray = #[.int .u8 (n / 16777216), .int .u8 (n / 65536 % 256), .int .u8 (n / 256 % 256), .int .u8 (n % 256)] := by
  have e : bebs 4 n = [byt n 3, byt n 2, byt n 1, byt n 0] := rfl
  rw [e]
  unfold bys
  simp only [List.map_cons, List.map_nil, byt_toNat]
  have h3 : n / 2 ^ (8 * 3) % 256 = n / 16777216 := by
    rw [show (2 : Int) ^ (8 * 3) = 16777216 from rfl]; omega
  rw [h3]
  simp
theorem four_any {w : World} {n : Int} (h0 : 0 ≤ n) (h1 : n ≤ 4294967295) :
    Calls Try.prog 34 #[.int .i64 n] w fun e w' => e = .returned (.slice (some ⟨w.heap.size, 0, none⟩) 4 4) ∧ w' = w.alloc (.cells (bys (bebs 4 n)).toArray 5) := by
  rw [four_bys h0 h1]
  go_enter Try.func34, Try.ntmps34
  go_wp2
  go_ret
  exact ⟨rfl, rfl⟩
theorem own_newA (w : World) (e : TypeId) (cs : Array Value) (base n : Nat) (xs : List Value) (hn : cs.size = n) (hb : base ≤ w.heap.size) (hm : n ≤ 1000000) (hx : xs = cs.toList) : (w.alloc (.cells cs e)).ownsRow base e 1 (.slice (some ⟨w.heap.size, 0, none⟩) n n) n xs := by
  subst hx
  exact ⟨by simp [hn], .inr ⟨w.heap.size, n, cs, rfl, hb, Bk.newA w e cs, Nat.le_refl _, by simp only [maxLen]; omega, by simp [hn], by rw [List.take_of_length_le (by simp [hn])]⟩⟩
/-- A row of one's own beside a packet. -/
def RP (w wx : World) (A : Option Addr) (n c : Nat) (p : PK) (v : Value) (b : List UInt8) : Prop := wx.ownsRow w.heap.size 5 1 v b.length (bys b) ∧ PB w wx A n c p
theorem bk_apart2 {w : World} {g base size n : Nat} {t e : TypeId} {cs xs : List Value} {v : Value} (h : Bk w g t cs) (ho : w.ownsRow base e size v n xs) (hne : t ≠ e) : ¬ (v.ownBlock = some g) := by
  intro e1
  rcases ho.2 with ⟨rfl, _⟩ | ⟨g', cap, cur, rfl, _, hh, _⟩
  · cases e1
  · injection e1 with e1
    have e2 : g' = g := e1
    subst e2
    have hk : Bk w g' e cur.toList := hh
    unfold Bk at h hk
    rw [h] at hk
    injection hk with hk; injection hk with _ hk
    exact hne hk
theorem rp_app {w w4 wq : World} {A : Option Addr} {n c : Nat} {p : PK} {v v1 : Value} {b l : List UInt8} {m s : Nat} (h0 : PA w A n c p) (hq : PB w wq A n c p) (hoq : wq.ownsRow w.heap.size 5 1 v m (bys b)) (hm : b.length = m) (hs : l.length = s)
    (hown : w4.ownsRow w.heap.size 5 1 v1 (m + s) (bys b ++ bys l)) (hg : wq.grownBy w4 v.ownBlock) : RP w w4 A n c p v1 (b ++ l) := by
  have hc : Chg (fun k => v.ownBlock = some k) wq w4 := Chg.of_grown hg fun k e => e
  have hb4 := hq.2.2.grown hg hq.2.2.size (fun k e => (hoq.lt k e).1)
  subst hs
  subst hm
  exact ⟨by rw [List.length_append, bys_append]; exact hown, hc.bk hq.1 (bk_apart2 hq.1 hoq (by decide)), h0.below hb4, hb4⟩
set_option maxRecDepth 100000 in
set_option maxHeartbeats 6400000 in
theorem rpput_any {w : World} {A : Option Addr} {n c : Nat} {p : PK} (h : PA w A n c p) :
    Calls Try.prog 12 #[p.v A n c] w (PtPost w (pkV p) (pkE p)) := by
  obtain ⟨kd, ses, blk, id, rsn, dat⟩ := p
  obtain ⟨w1, hw1⟩ : ∃ w1, w1 = w.alloc (.cells #[.int .i64 kd, .int .i64 ses, .int .i64 blk, .int .i64 id, .int .i64 rsn, .slice A n c] 24) := ⟨_, rfl⟩
  have hM := PB.new h
  rw [← hw1] at hM
  have H1 := Lib.hid hM
  have HD := Lib.hid h.2.2.2.1
  have H0 := Lib.hid h
  obtain ⟨c0, c1, c2, c3, c4, c5⟩ := cells6 hM.1
  simp only at c0 c1 c2 c3 c4
  clear h hM
  obtain ⟨i0, hi0, hz0, hz1, hz2⟩ := info_parts u8_info
  show Calls Try.prog 12 #[.agg #[.int .i64 kd, .int .i64 ses, .int .i64 blk, .int .i64 id, .int .i64 rsn, .slice A n c]] w _
  go_enter Try.func12, Try.ntmps12
  go_wp2_with fail
  rw [← hw1]
  clear hw1
  refine (rpcheck_any H1.out.2.1).mono ?_
  rintro e w2 ⟨rfl, hb2⟩
  have H2 := Lib.hid (H1.out.below hb2)
  clear hb2 c0 c1 c2 c3 c4 c5
  cases hq : pkB ⟨kd, ses, blk, id, rsn, dat⟩ with
  | false =>
    have hE : pkE ⟨kd, ses, blk, id, rsn, dat⟩ = 2 := by unfold pkE; rw [hq]; rfl
    have HN := Lib.hid (And.intro (show pkV ⟨kd, ses, blk, id, rsn, dat⟩ = [] from by unfold pkV; rw [hq]; rfl) hE)
    rw [hE]
    clear hq hE
    go_wp2
    go_ret2
    rw [HN.out.1, HN.out.2]
    exact ⟨none, 0, w.heap.size, rfl, Nat.le_refl _, mut_nil _ _, Nat.le_refl _, H2.out.2.2⟩
  | true =>
    have hE : pkE ⟨kd, ses, blk, id, rsn, dat⟩ = 0 := by unfold pkE; rw [hq]; rfl
    have HN := Lib.hid (And.intro (show pkV ⟨kd, ses, blk, id, rsn, dat⟩ = crcSeal tableL (pkBody ⟨kd, ses, blk, id, rsn, dat⟩) from by unfold pkV; rw [hq]; rfl) hE)
    rw [hE]
    have HF := Lib.hid (pk_fit hq)
    have HL := Lib.hid (body_len (p := ⟨kd, ses, blk, id, rsn, dat⟩))
    clear hq hE
    rcases (show kd = 1 ∨ kd = 2 ∨ kd = 3 ∨ kd = 4 ∨ kd = 5 by have := HF.out.1; (try simp only at this); omega) with rfl | rfl | rfl | rfl | rfl
    · obtain ⟨c0, c1, c2, c3, c4, c5⟩ := cells6 H2.out.1
      simp only at c0 c1 c2 c3 c4
      go_wp2_with fail
      go_cut [4] (fun v wx => RP w wx A n c ⟨1, ses, blk, id, rsn, dat⟩ v (bebs 1 1 ++ bebs 4 ses))
      case first =>
        have hne := World.new_ne w2 ⟨w.heap.size, 0, none⟩ c0
        simp only at hne
        have hne2 : w.heap.size ≠ w2.heap.size := fun e => hne e.symm
        have hlt := H2.out.1.lt
        have hF : 0 ≤ ses ∧ ses ≤ 4294967295 := by have := HF.out; (try simp only at this); omega
        have hF4 := four_bys hF.1 hF.2
        have HP := Lib.hid hF
        clear hF
        have hw8 : IntKind.u8.wrap 1 = 1 := by decide
        have HS := Lib.hid H2.out.2.2.size
        clear hF4
        have HA := Lib.hid (show (((w2.alloc (.cells #[.int .u8 1] 5)).alloc (.cells (bys (bebs 4 ses)).toArray 5)).drew).ownsRow w.heap.size 5 1 (.slice (some ⟨w2.heap.size, 0, none⟩) 1 1) 1 (bys (bebs 1 1)) ∧ Rd (((w2.alloc (.cells #[.int .u8 1] 5)).alloc (.cells (bys (bebs 4 ses)).toArray 5)).drew) (some ⟨w2.heap.size + 1, 0, none⟩) (4 * 1) (bys (bebs 4 ses)) from
          ⟨own_below (own_newA w2 5 #[.int .u8 1] w.heap.size 1 (bys (bebs 1 1)) rfl HS.out (by omega) (by kernel_rfl)) (((Below.refl _ _).alloc (Nat.le_refl _) (.cells (bys (bebs 4 ses)).toArray 5)).drew), (Rd.lit _ _ _ _ (by rw [World.size_alloc]) (4 * 1) (by simp [bys, bebs_length]) _ (by simp)).drew⟩)
        have HB := Lib.hid (show (((w2.alloc (.cells (bys (bebs 4 ses)).toArray 5)).alloc (.cells #[.int .u8 1] 5)).drew).ownsRow w.heap.size 5 1 (.slice (some ⟨w2.heap.size + 1, 0, none⟩) 1 1) 1 (bys (bebs 1 1)) ∧ Rd (((w2.alloc (.cells (bys (bebs 4 ses)).toArray 5)).alloc (.cells #[.int .u8 1] 5)).drew) (some ⟨w2.heap.size, 0, none⟩) (4 * 1) (bys (bebs 4 ses)) from by
          refine ⟨?_, ((Rd.lit _ _ _ _ rfl (4 * 1) (by simp [bys, bebs_length]) _ (by simp)).alloc _).drew⟩
          have hoA := own_below (own_newA (w2.alloc (.cells (bys (bebs 4 ses)).toArray 5)) 5 #[.int .u8 1] w.heap.size 1 (bys (bebs 1 1)) rfl (by have := HS.out; rw [World.size_alloc]; omega) (by omega) (by kernel_rfl)) (Below.refl _ _).drew
          rw [World.size_alloc] at hoA
          exact hoA)
        have HQ := Lib.hid (show ∀ o1 o2, PB w (((w2.alloc o1).alloc o2).drew) A n c ⟨1, ses, blk, id, rsn, dat⟩ from fun o1 o2 => H2.out.below ((((Below.refl w2.heap.size w2).alloc (Nat.le_refl _) _).alloc (by rw [World.size_alloc]; exact Nat.le_succ _) _).drew))
        first
          | (go_region_held3 (fun w' => w'.cell? ⟨w.heap.size, 0, none⟩ = some (.int .i64 1) ∧ w'.cell? ⟨w.heap.size, 1, none⟩ = some (.int .i64 ses))
              (first | go_keep | exact ⟨KR.out.2.1.cell 0, KR.out.2.1.cell 1⟩)
              (first
                | (go_at_call 34; refine (four_any HP.out.1 HP.out.2).mono ?_; rintro e wq ⟨rfl, rfl⟩)
                | (refine step_append_rd (by rfl) (.tmp 11) (.tmp 14) _ (by rfl) w.heap.size 5 i0 _ 1 1 Try.underlying22 hi0 hz0 hz1 hz2 rfl (by omega) _ 1 (bys (bebs 1 1)) (by rfl) (by first | exact HA.out.1 | exact HB.out.1) _ 4 4 (bys (bebs 4 ses)) (by rfl) (by first | exact HA.out.2 | exact HB.out.2) (bys_one _) (by simp only [maxLen]; omega) (by omega) (HQ.out _ _).2.2.size ?_; intro v1 w4 hown1 hg1 hat1; have KR := Lib.hid (show RP w w4 A n c ⟨1, ses, blk, id, rsn, dat⟩ v1 (bebs 1 1 ++ bebs 4 ses) from by first | exact rp_app H0.out (HQ.out _ _) HA.out.1 rfl rfl hown1 hg1 | exact rp_app H0.out (HQ.out _ _) HB.out.1 rfl rfl hown1 hg1); obtain ⟨A4, c4', rfl, _⟩ := own_form hown1; clear hown1 hg1 hat1)))
          | fail
        all_goals go_wp2_with fail
        all_goals go_meet
        all_goals exact KR.out
      case rest =>
        obtain ⟨h1, h2⟩ := hcut
        obtain ⟨A0, d0, rfl, _⟩ := own_form h1
        have K0 := Lib.hid (show wc.ownsRow w.heap.size 5 1 (.slice A0 5 d0) 5 (bys (bebs 1 1 ++ bebs 4 ses)) ∧ PB w wc A n c ⟨1, ses, blk, id, rsn, dat⟩ from ⟨h1, h2⟩)
        clear h1 h2 c0 c1 c2 c3 c4 c5
        have hF := HF.out
        try simp only at hF
        obtain ⟨c0, c1, c2, c3, c4, c5⟩ := cells6 K0.out.2.1
        simp only at c0 c1 c2 c3 c4
        go_wp2_with fail
        refine (four_any (n := blk) (by omega) (by omega)).mono ?_
        rintro e wq ⟨rfl, rfl⟩
        go_wp2_with (at_builtin; refine wpList_append_rd _ rfl (.tmp 24) (.tmp 27) _ rfl w.heap.size 5 i0 _ 1 1 Try.underlying22 hi0 hz0 hz1 hz2 rfl (by omega) _ 5 (bys (bebs 1 1 ++ bebs 4 ses)) rfl (own_below K0.out.1 ((Below.refl _ _).alloc (Nat.le_refl _) _)) (some ⟨wc.heap.size, 0, none⟩) 4 4 (bys (bebs 4 blk)) rfl (Rd.lit _ _ _ _ rfl (4 * 1) (by simp [bys, bebs_length]) _ (by simp)) (bys_one _) (by simp only [maxLen]; omega) (by omega) (by rw [World.size_alloc]; exact Nat.le_succ_of_le K0.out.2.2.2.size) ?_; intro v1 x1 hown1 hg1 hat1; obtain ⟨K1A, K1c, rfl, _⟩ := own_form hown1; have K1 := Lib.hid (show x1.ownsRow w.heap.size 5 1 (.slice K1A (5 + 4) K1c) (5 + 4) (bys (bebs 1 1 ++ bebs 4 ses ++ bebs 4 blk)) ∧ PB w x1 A n c ⟨1, ses, blk, id, rsn, dat⟩ from ⟨by rw [bys_append]; exact hown1, (rp_app H0.out (K0.out.2.below ((Below.refl _ _).alloc (Nat.le_refl _) _)) (own_below K0.out.1 ((Below.refl _ _).alloc (Nat.le_refl _) _)) (by simp [bebs_length]) rfl hown1 hg1).2⟩); clear hown1 hg1 hat1 c0 c1 c2 c3 c4 c5; obtain ⟨c0, c1, c2, c3, c4, c5⟩ := cells6 K1.out.2.1; simp only at c0 c1 c2 c3 c4)
        go_wp2_with fail
        refine (four_any (n := id) (by omega) (by omega)).mono ?_
        rintro e wq ⟨rfl, rfl⟩
        go_wp2_with (first | (at_builtin; refine wpList_append_rd _ rfl (.tmp 32) (.tmp 35) _ rfl w.heap.size 5 i0 _ 1 1 Try.underlying22 hi0 hz0 hz1 hz2 rfl (by omega) _ 9 (bys (bebs 1 1 ++ bebs 4 ses ++ bebs 4 blk)) rfl (own_below K1.out.1 ((Below.refl _ _).alloc (Nat.le_refl _) _)) (some ⟨x1.heap.size, 0, none⟩) 4 4 (bys (bebs 4 id)) rfl (Rd.lit _ _ _ _ rfl (4 * 1) (by simp [bys, bebs_length]) _ (by simp)) (bys_one _) (by simp only [maxLen]; omega) (by omega) (by rw [World.size_alloc]; exact Nat.le_succ_of_le K1.out.2.2.2.size) ?_; intro v1 x2 hown1 hg1 hat1; obtain ⟨K2A, K2c, rfl, _⟩ := own_form hown1; have K2 := Lib.hid (show x2.ownsRow w.heap.size 5 1 (.slice K2A (9 + 4) K2c) (9 + 4) (bys (bebs 1 1 ++ bebs 4 ses ++ bebs 4 blk ++ bebs 4 id)) ∧ PB w x2 A n c ⟨1, ses, blk, id, rsn, dat⟩ from ⟨by rw [bys_append]; exact hown1, (rp_app H0.out (K1.out.2.below ((Below.refl _ _).alloc (Nat.le_refl _) _)) (own_below K1.out.1 ((Below.refl _ _).alloc (Nat.le_refl _) _)) (by simp [bebs_length]) rfl hown1 hg1).2⟩); clear hown1 hg1 hat1 c0 c1 c2 c3 c4 c5; obtain ⟨c0, c1, c2, c3, c4, c5⟩ := cells6 K2.out.2.1; simp only at c0 c1 c2 c3 c4) | (at_builtin; refine wpList_append_rd _ rfl (.tmp 46) (.tmp 48) _ rfl w.heap.size 5 i0 _ 1 1 Try.underlying22 hi0 hz0 hz1 hz2 rfl (by omega) _ 13 (bys (bebs 1 1 ++ bebs 4 ses ++ bebs 4 blk ++ bebs 4 id)) rfl (K2.out.1) A n c (bys (dat)) rfl (by rw [Nat.mul_one]; exact K2.out.2.2.1.1) (bys_one _) (by simp only [maxLen]; have := HD.out; omega) (by have := HD.out; omega) (K2.out.2.2.2.size) ?_; intro v1 xd hown1 hg1 hat1; obtain ⟨KDA, KDc, rfl, _⟩ := own_form hown1; have KD := Lib.hid (show xd.ownsRow w.heap.size 5 1 (.slice KDA (13 + n) KDc) (13 + n) (bys (bebs 1 1 ++ bebs 4 ses ++ bebs 4 blk ++ bebs 4 id ++ dat)) ∧ PB w xd A n c ⟨1, ses, blk, id, rsn, dat⟩ from ⟨by rw [bys_append]; exact hown1, (rp_app H0.out (K2.out.2) (K2.out.1) (by simp [bebs_length]) HD.out hown1 hg1).2⟩); clear hown1 hg1 hat1 c0 c1 c2 c3 c4 c5; obtain ⟨c0, c1, c2, c3, c4, c5⟩ := cells6 KD.out.2.1; simp only at c0 c1 c2 c3 c4))
        have hYb : pkBody ⟨1, ses, blk, id, rsn, dat⟩ = bebs 1 1 ++ bebs 4 ses ++ bebs 4 blk ++ bebs 4 id ++ dat := by simp [pkBody, fmB, fmD, fmR]
        obtain ⟨Y, hY⟩ : ∃ Y, (bebs 1 1 ++ bebs 4 ses ++ bebs 4 blk ++ bebs 4 id ++ dat : List UInt8) = Y := ⟨_, rfl⟩
        have hYl : Y.length = 13 + n := by rw [← hY]; simp only [List.length_append, bebs_length]; have := HD.out; omega
        have KY := Lib.hid KD.out
        rw [hY] at KY hYb
        obtain ⟨M, hM⟩ : ∃ M, 13 + n = M := ⟨_, rfl⟩
        rw [hM] at hYl KY ⊢
        have hMb : M ≤ 65549 := by have := HD.out; omega
        have JY := Lib.hid (And.intro hYb hYl)
        clear hY hYb hYl hM
        refine (refSeal_any (t := tableL) (.inl ⟨rfl, rfl⟩) (Rd.of_own KY.out.1) (by omega)).mono ?_
        rintro e y3 ⟨A9, d9, g9, rfl, hd9, hm9, hg9, hb9⟩
        have J3 := Lib.hid (And.intro hm9 (And.intro hd9 (And.intro hg9 hb9)))
        clear hm9 hd9 hg9 hb9
        go_wp2
        go_ret2
        rw [HN.out.1, HN.out.2, JY.out.1]
        refine ⟨A9, d9, g9, by rw [seal_length, JY.out.2]; rfl, by rw [seal_length, JY.out.2]; exact J3.out.2.1, by rw [seal_length, JY.out.2]; exact J3.out.1, Nat.le_trans KY.out.2.2.2.size J3.out.2.2.1, below_base KY.out.2.2.2 J3.out.2.2.2 KY.out.2.2.2.size⟩
    · obtain ⟨c0, c1, c2, c3, c4, c5⟩ := cells6 H2.out.1
      simp only at c0 c1 c2 c3 c4
      go_wp2_with fail
      go_cut [4] (fun v wx => RP w wx A n c ⟨2, ses, blk, id, rsn, dat⟩ v (bebs 1 2 ++ bebs 4 ses))
      case first =>
        have hne := World.new_ne w2 ⟨w.heap.size, 0, none⟩ c0
        simp only at hne
        have hne2 : w.heap.size ≠ w2.heap.size := fun e => hne e.symm
        have hlt := H2.out.1.lt
        have hF : 0 ≤ ses ∧ ses ≤ 4294967295 := by have := HF.out; (try simp only at this); omega
        have hF4 := four_bys hF.1 hF.2
        have HP := Lib.hid hF
        clear hF
        have hw8 : IntKind.u8.wrap 2 = 2 := by decide
        have HS := Lib.hid H2.out.2.2.size
        clear hF4
        have HA := Lib.hid (show (((w2.alloc (.cells #[.int .u8 2] 5)).alloc (.cells (bys (bebs 4 ses)).toArray 5)).drew).ownsRow w.heap.size 5 1 (.slice (some ⟨w2.heap.size, 0, none⟩) 1 1) 1 (bys (bebs 1 2)) ∧ Rd (((w2.alloc (.cells #[.int .u8 2] 5)).alloc (.cells (bys (bebs 4 ses)).toArray 5)).drew) (some ⟨w2.heap.size + 1, 0, none⟩) (4 * 1) (bys (bebs 4 ses)) from
          ⟨own_below (own_newA w2 5 #[.int .u8 2] w.heap.size 1 (bys (bebs 1 2)) rfl HS.out (by omega) (by kernel_rfl)) (((Below.refl _ _).alloc (Nat.le_refl _) (.cells (bys (bebs 4 ses)).toArray 5)).drew), (Rd.lit _ _ _ _ (by rw [World.size_alloc]) (4 * 1) (by simp [bys, bebs_length]) _ (by simp)).drew⟩)
        have HB := Lib.hid (show (((w2.alloc (.cells (bys (bebs 4 ses)).toArray 5)).alloc (.cells #[.int .u8 2] 5)).drew).ownsRow w.heap.size 5 1 (.slice (some ⟨w2.heap.size + 1, 0, none⟩) 1 1) 1 (bys (bebs 1 2)) ∧ Rd (((w2.alloc (.cells (bys (bebs 4 ses)).toArray 5)).alloc (.cells #[.int .u8 2] 5)).drew) (some ⟨w2.heap.size, 0, none⟩) (4 * 1) (bys (bebs 4 ses)) from by
          refine ⟨?_, ((Rd.lit _ _ _ _ rfl (4 * 1) (by simp [bys, bebs_length]) _ (by simp)).alloc _).drew⟩
          have hoA := own_below (own_newA (w2.alloc (.cells (bys (bebs 4 ses)).toArray 5)) 5 #[.int .u8 2] w.heap.size 1 (bys (bebs 1 2)) rfl (by have := HS.out; rw [World.size_alloc]; omega) (by omega) (by kernel_rfl)) (Below.refl _ _).drew
          rw [World.size_alloc] at hoA
          exact hoA)
        have HQ := Lib.hid (show ∀ o1 o2, PB w (((w2.alloc o1).alloc o2).drew) A n c ⟨2, ses, blk, id, rsn, dat⟩ from fun o1 o2 => H2.out.below ((((Below.refl w2.heap.size w2).alloc (Nat.le_refl _) _).alloc (by rw [World.size_alloc]; exact Nat.le_succ _) _).drew))
        first
          | (go_region_held3 (fun w' => w'.cell? ⟨w.heap.size, 0, none⟩ = some (.int .i64 2) ∧ w'.cell? ⟨w.heap.size, 1, none⟩ = some (.int .i64 ses))
              (first | go_keep | exact ⟨KR.out.2.1.cell 0, KR.out.2.1.cell 1⟩)
              (first
                | (go_at_call 34; refine (four_any HP.out.1 HP.out.2).mono ?_; rintro e wq ⟨rfl, rfl⟩)
                | (refine step_append_rd (by rfl) (.tmp 11) (.tmp 14) _ (by rfl) w.heap.size 5 i0 _ 1 1 Try.underlying22 hi0 hz0 hz1 hz2 rfl (by omega) _ 1 (bys (bebs 1 2)) (by rfl) (by first | exact HA.out.1 | exact HB.out.1) _ 4 4 (bys (bebs 4 ses)) (by rfl) (by first | exact HA.out.2 | exact HB.out.2) (bys_one _) (by simp only [maxLen]; omega) (by omega) (HQ.out _ _).2.2.size ?_; intro v1 w4 hown1 hg1 hat1; have KR := Lib.hid (show RP w w4 A n c ⟨2, ses, blk, id, rsn, dat⟩ v1 (bebs 1 2 ++ bebs 4 ses) from by first | exact rp_app H0.out (HQ.out _ _) HA.out.1 rfl rfl hown1 hg1 | exact rp_app H0.out (HQ.out _ _) HB.out.1 rfl rfl hown1 hg1); obtain ⟨A4, c4', rfl, _⟩ := own_form hown1; clear hown1 hg1 hat1)))
          | fail
        all_goals go_wp2_with fail
        all_goals go_meet
        all_goals exact KR.out
      case rest =>
        obtain ⟨h1, h2⟩ := hcut
        obtain ⟨A0, d0, rfl, _⟩ := own_form h1
        have K0 := Lib.hid (show wc.ownsRow w.heap.size 5 1 (.slice A0 5 d0) 5 (bys (bebs 1 2 ++ bebs 4 ses)) ∧ PB w wc A n c ⟨2, ses, blk, id, rsn, dat⟩ from ⟨h1, h2⟩)
        clear h1 h2 c0 c1 c2 c3 c4 c5
        have hF := HF.out
        try simp only at hF
        obtain ⟨c0, c1, c2, c3, c4, c5⟩ := cells6 K0.out.2.1
        simp only at c0 c1 c2 c3 c4
        go_wp2_with fail
        refine (four_any (n := blk) (by omega) (by omega)).mono ?_
        rintro e wq ⟨rfl, rfl⟩
        go_wp2_with (first | (at_builtin; refine wpList_append_rd _ rfl (.tmp 24) (.tmp 27) _ rfl w.heap.size 5 i0 _ 1 1 Try.underlying22 hi0 hz0 hz1 hz2 rfl (by omega) _ 5 (bys (bebs 1 2 ++ bebs 4 ses)) rfl (own_below K0.out.1 ((Below.refl _ _).alloc (Nat.le_refl _) _)) (some ⟨wc.heap.size, 0, none⟩) 4 4 (bys (bebs 4 blk)) rfl (Rd.lit _ _ _ _ rfl (4 * 1) (by simp [bys, bebs_length]) _ (by simp)) (bys_one _) (by simp only [maxLen]; omega) (by omega) (by rw [World.size_alloc]; exact Nat.le_succ_of_le K0.out.2.2.2.size) ?_; intro v1 x1 hown1 hg1 hat1; obtain ⟨K1A, K1c, rfl, _⟩ := own_form hown1; have K1 := Lib.hid (show x1.ownsRow w.heap.size 5 1 (.slice K1A (5 + 4) K1c) (5 + 4) (bys (bebs 1 2 ++ bebs 4 ses ++ bebs 4 blk)) ∧ PB w x1 A n c ⟨2, ses, blk, id, rsn, dat⟩ from ⟨by rw [bys_append]; exact hown1, (rp_app H0.out (K0.out.2.below ((Below.refl _ _).alloc (Nat.le_refl _) _)) (own_below K0.out.1 ((Below.refl _ _).alloc (Nat.le_refl _) _)) (by simp [bebs_length]) rfl hown1 hg1).2⟩); clear hown1 hg1 hat1 c0 c1 c2 c3 c4 c5; obtain ⟨c0, c1, c2, c3, c4, c5⟩ := cells6 K1.out.2.1; simp only at c0 c1 c2 c3 c4) | (at_builtin; refine wpList_append_rd _ rfl (.tmp 46) (.tmp 48) _ rfl w.heap.size 5 i0 _ 1 1 Try.underlying22 hi0 hz0 hz1 hz2 rfl (by omega) _ 9 (bys (bebs 1 2 ++ bebs 4 ses ++ bebs 4 blk)) rfl (K1.out.1) A n c (bys (dat)) rfl (by rw [Nat.mul_one]; exact K1.out.2.2.1.1) (bys_one _) (by simp only [maxLen]; have := HD.out; omega) (by have := HD.out; omega) (K1.out.2.2.2.size) ?_; intro v1 xd hown1 hg1 hat1; obtain ⟨KDA, KDc, rfl, _⟩ := own_form hown1; have KD := Lib.hid (show xd.ownsRow w.heap.size 5 1 (.slice KDA (9 + n) KDc) (9 + n) (bys (bebs 1 2 ++ bebs 4 ses ++ bebs 4 blk ++ dat)) ∧ PB w xd A n c ⟨2, ses, blk, id, rsn, dat⟩ from ⟨by rw [bys_append]; exact hown1, (rp_app H0.out (K1.out.2) (K1.out.1) (by simp [bebs_length]) HD.out hown1 hg1).2⟩); clear hown1 hg1 hat1 c0 c1 c2 c3 c4 c5; obtain ⟨c0, c1, c2, c3, c4, c5⟩ := cells6 KD.out.2.1; simp only at c0 c1 c2 c3 c4))
        have hYb : pkBody ⟨2, ses, blk, id, rsn, dat⟩ = bebs 1 2 ++ bebs 4 ses ++ bebs 4 blk ++ dat := by simp [pkBody, fmB, fmD, fmR]
        obtain ⟨Y, hY⟩ : ∃ Y, (bebs 1 2 ++ bebs 4 ses ++ bebs 4 blk ++ dat : List UInt8) = Y := ⟨_, rfl⟩
        have hYl : Y.length = 9 + n := by rw [← hY]; simp only [List.length_append, bebs_length]; have := HD.out; omega
        have KY := Lib.hid KD.out
        rw [hY] at KY hYb
        obtain ⟨M, hM⟩ : ∃ M, 9 + n = M := ⟨_, rfl⟩
        rw [hM] at hYl KY ⊢
        have hMb : M ≤ 65549 := by have := HD.out; omega
        have JY := Lib.hid (And.intro hYb hYl)
        clear hY hYb hYl hM
        refine (refSeal_any (t := tableL) (.inl ⟨rfl, rfl⟩) (Rd.of_own KY.out.1) (by omega)).mono ?_
        rintro e y3 ⟨A9, d9, g9, rfl, hd9, hm9, hg9, hb9⟩
        have J3 := Lib.hid (And.intro hm9 (And.intro hd9 (And.intro hg9 hb9)))
        clear hm9 hd9 hg9 hb9
        go_wp2
        go_ret2
        rw [HN.out.1, HN.out.2, JY.out.1]
        refine ⟨A9, d9, g9, by rw [seal_length, JY.out.2]; rfl, by rw [seal_length, JY.out.2]; exact J3.out.2.1, by rw [seal_length, JY.out.2]; exact J3.out.1, Nat.le_trans KY.out.2.2.2.size J3.out.2.2.1, below_base KY.out.2.2.2 J3.out.2.2.2 KY.out.2.2.2.size⟩
    · obtain ⟨c0, c1, c2, c3, c4, c5⟩ := cells6 H2.out.1
      simp only at c0 c1 c2 c3 c4
      go_wp2_with fail
      go_cut [4] (fun v wx => RP w wx A n c ⟨3, ses, blk, id, rsn, dat⟩ v (bebs 1 3 ++ bebs 4 ses))
      case first =>
        have hne := World.new_ne w2 ⟨w.heap.size, 0, none⟩ c0
        simp only at hne
        have hne2 : w.heap.size ≠ w2.heap.size := fun e => hne e.symm
        have hlt := H2.out.1.lt
        have hF : 0 ≤ ses ∧ ses ≤ 4294967295 := by have := HF.out; (try simp only at this); omega
        have hF4 := four_bys hF.1 hF.2
        have HP := Lib.hid hF
        clear hF
        have hw8 : IntKind.u8.wrap 3 = 3 := by decide
        have HS := Lib.hid H2.out.2.2.size
        clear hF4
        have HA := Lib.hid (show (((w2.alloc (.cells #[.int .u8 3] 5)).alloc (.cells (bys (bebs 4 ses)).toArray 5)).drew).ownsRow w.heap.size 5 1 (.slice (some ⟨w2.heap.size, 0, none⟩) 1 1) 1 (bys (bebs 1 3)) ∧ Rd (((w2.alloc (.cells #[.int .u8 3] 5)).alloc (.cells (bys (bebs 4 ses)).toArray 5)).drew) (some ⟨w2.heap.size + 1, 0, none⟩) (4 * 1) (bys (bebs 4 ses)) from
          ⟨own_below (own_newA w2 5 #[.int .u8 3] w.heap.size 1 (bys (bebs 1 3)) rfl HS.out (by omega) (by kernel_rfl)) (((Below.refl _ _).alloc (Nat.le_refl _) (.cells (bys (bebs 4 ses)).toArray 5)).drew), (Rd.lit _ _ _ _ (by rw [World.size_alloc]) (4 * 1) (by simp [bys, bebs_length]) _ (by simp)).drew⟩)
        have HB := Lib.hid (show (((w2.alloc (.cells (bys (bebs 4 ses)).toArray 5)).alloc (.cells #[.int .u8 3] 5)).drew).ownsRow w.heap.size 5 1 (.slice (some ⟨w2.heap.size + 1, 0, none⟩) 1 1) 1 (bys (bebs 1 3)) ∧ Rd (((w2.alloc (.cells (bys (bebs 4 ses)).toArray 5)).alloc (.cells #[.int .u8 3] 5)).drew) (some ⟨w2.heap.size, 0, none⟩) (4 * 1) (bys (bebs 4 ses)) from by
          refine ⟨?_, ((Rd.lit _ _ _ _ rfl (4 * 1) (by simp [bys, bebs_length]) _ (by simp)).alloc _).drew⟩
          have hoA := own_below (own_newA (w2.alloc (.cells (bys (bebs 4 ses)).toArray 5)) 5 #[.int .u8 3] w.heap.size 1 (bys (bebs 1 3)) rfl (by have := HS.out; rw [World.size_alloc]; omega) (by omega) (by kernel_rfl)) (Below.refl _ _).drew
          rw [World.size_alloc] at hoA
          exact hoA)
        have HQ := Lib.hid (show ∀ o1 o2, PB w (((w2.alloc o1).alloc o2).drew) A n c ⟨3, ses, blk, id, rsn, dat⟩ from fun o1 o2 => H2.out.below ((((Below.refl w2.heap.size w2).alloc (Nat.le_refl _) _).alloc (by rw [World.size_alloc]; exact Nat.le_succ _) _).drew))
        first
          | (go_region_held3 (fun w' => w'.cell? ⟨w.heap.size, 0, none⟩ = some (.int .i64 3) ∧ w'.cell? ⟨w.heap.size, 1, none⟩ = some (.int .i64 ses))
              (first | go_keep | exact ⟨KR.out.2.1.cell 0, KR.out.2.1.cell 1⟩)
              (first
                | (go_at_call 34; refine (four_any HP.out.1 HP.out.2).mono ?_; rintro e wq ⟨rfl, rfl⟩)
                | (refine step_append_rd (by rfl) (.tmp 11) (.tmp 14) _ (by rfl) w.heap.size 5 i0 _ 1 1 Try.underlying22 hi0 hz0 hz1 hz2 rfl (by omega) _ 1 (bys (bebs 1 3)) (by rfl) (by first | exact HA.out.1 | exact HB.out.1) _ 4 4 (bys (bebs 4 ses)) (by rfl) (by first | exact HA.out.2 | exact HB.out.2) (bys_one _) (by simp only [maxLen]; omega) (by omega) (HQ.out _ _).2.2.size ?_; intro v1 w4 hown1 hg1 hat1; have KR := Lib.hid (show RP w w4 A n c ⟨3, ses, blk, id, rsn, dat⟩ v1 (bebs 1 3 ++ bebs 4 ses) from by first | exact rp_app H0.out (HQ.out _ _) HA.out.1 rfl rfl hown1 hg1 | exact rp_app H0.out (HQ.out _ _) HB.out.1 rfl rfl hown1 hg1); obtain ⟨A4, c4', rfl, _⟩ := own_form hown1; clear hown1 hg1 hat1)))
          | fail
        all_goals go_wp2_with fail
        all_goals go_meet
        all_goals exact KR.out
      case rest =>
        obtain ⟨h1, h2⟩ := hcut
        obtain ⟨A0, d0, rfl, _⟩ := own_form h1
        have K0 := Lib.hid (show wc.ownsRow w.heap.size 5 1 (.slice A0 5 d0) 5 (bys (bebs 1 3 ++ bebs 4 ses)) ∧ PB w wc A n c ⟨3, ses, blk, id, rsn, dat⟩ from ⟨h1, h2⟩)
        clear h1 h2 c0 c1 c2 c3 c4 c5
        have hF := HF.out
        try simp only at hF
        obtain ⟨c0, c1, c2, c3, c4, c5⟩ := cells6 K0.out.2.1
        simp only at c0 c1 c2 c3 c4
        go_wp2_with (at_builtin; refine wpList_append_rd _ rfl (.tmp 46) (.tmp 48) _ rfl w.heap.size 5 i0 _ 1 1 Try.underlying22 hi0 hz0 hz1 hz2 rfl (by omega) _ 5 (bys (bebs 1 3 ++ bebs 4 ses)) rfl (K0.out.1) A n c (bys (dat)) rfl (by rw [Nat.mul_one]; exact K0.out.2.2.1.1) (bys_one _) (by simp only [maxLen]; have := HD.out; omega) (by have := HD.out; omega) (K0.out.2.2.2.size) ?_; intro v1 xd hown1 hg1 hat1; obtain ⟨KDA, KDc, rfl, _⟩ := own_form hown1; have KD := Lib.hid (show xd.ownsRow w.heap.size 5 1 (.slice KDA (5 + n) KDc) (5 + n) (bys (bebs 1 3 ++ bebs 4 ses ++ dat)) ∧ PB w xd A n c ⟨3, ses, blk, id, rsn, dat⟩ from ⟨by rw [bys_append]; exact hown1, (rp_app H0.out (K0.out.2) (K0.out.1) (by simp [bebs_length]) HD.out hown1 hg1).2⟩); clear hown1 hg1 hat1 c0 c1 c2 c3 c4 c5; obtain ⟨c0, c1, c2, c3, c4, c5⟩ := cells6 KD.out.2.1; simp only at c0 c1 c2 c3 c4)
        have hYb : pkBody ⟨3, ses, blk, id, rsn, dat⟩ = bebs 1 3 ++ bebs 4 ses ++ dat := by simp [pkBody, fmB, fmD, fmR]
        obtain ⟨Y, hY⟩ : ∃ Y, (bebs 1 3 ++ bebs 4 ses ++ dat : List UInt8) = Y := ⟨_, rfl⟩
        have hYl : Y.length = 5 + n := by rw [← hY]; simp only [List.length_append, bebs_length]; have := HD.out; omega
        have KY := Lib.hid KD.out
        rw [hY] at KY hYb
        obtain ⟨M, hM⟩ : ∃ M, 5 + n = M := ⟨_, rfl⟩
        rw [hM] at hYl KY ⊢
        have hMb : M ≤ 65549 := by have := HD.out; omega
        have JY := Lib.hid (And.intro hYb hYl)
        clear hY hYb hYl hM
        refine (refSeal_any (t := tableL) (.inl ⟨rfl, rfl⟩) (Rd.of_own KY.out.1) (by omega)).mono ?_
        rintro e y3 ⟨A9, d9, g9, rfl, hd9, hm9, hg9, hb9⟩
        have J3 := Lib.hid (And.intro hm9 (And.intro hd9 (And.intro hg9 hb9)))
        clear hm9 hd9 hg9 hb9
        go_wp2
        go_ret2
        rw [HN.out.1, HN.out.2, JY.out.1]
        refine ⟨A9, d9, g9, by rw [seal_length, JY.out.2]; rfl, by rw [seal_length, JY.out.2]; exact J3.out.2.1, by rw [seal_length, JY.out.2]; exact J3.out.1, Nat.le_trans KY.out.2.2.2.size J3.out.2.2.1, below_base KY.out.2.2.2 J3.out.2.2.2 KY.out.2.2.2.size⟩
    · obtain ⟨c0, c1, c2, c3, c4, c5⟩ := cells6 H2.out.1
      simp only at c0 c1 c2 c3 c4
      go_wp2_with fail
      go_cut [4] (fun v wx => RP w wx A n c ⟨4, ses, blk, id, rsn, dat⟩ v (bebs 1 4 ++ bebs 4 ses))
      case first =>
        have hne := World.new_ne w2 ⟨w.heap.size, 0, none⟩ c0
        simp only at hne
        have hne2 : w.heap.size ≠ w2.heap.size := fun e => hne e.symm
        have hlt := H2.out.1.lt
        have hF : 0 ≤ ses ∧ ses ≤ 4294967295 := by have := HF.out; (try simp only at this); omega
        have hF4 := four_bys hF.1 hF.2
        have HP := Lib.hid hF
        clear hF
        have hw8 : IntKind.u8.wrap 4 = 4 := by decide
        have HS := Lib.hid H2.out.2.2.size
        clear hF4
        have HA := Lib.hid (show (((w2.alloc (.cells #[.int .u8 4] 5)).alloc (.cells (bys (bebs 4 ses)).toArray 5)).drew).ownsRow w.heap.size 5 1 (.slice (some ⟨w2.heap.size, 0, none⟩) 1 1) 1 (bys (bebs 1 4)) ∧ Rd (((w2.alloc (.cells #[.int .u8 4] 5)).alloc (.cells (bys (bebs 4 ses)).toArray 5)).drew) (some ⟨w2.heap.size + 1, 0, none⟩) (4 * 1) (bys (bebs 4 ses)) from
          ⟨own_below (own_newA w2 5 #[.int .u8 4] w.heap.size 1 (bys (bebs 1 4)) rfl HS.out (by omega) (by kernel_rfl)) (((Below.refl _ _).alloc (Nat.le_refl _) (.cells (bys (bebs 4 ses)).toArray 5)).drew), (Rd.lit _ _ _ _ (by rw [World.size_alloc]) (4 * 1) (by simp [bys, bebs_length]) _ (by simp)).drew⟩)
        have HB := Lib.hid (show (((w2.alloc (.cells (bys (bebs 4 ses)).toArray 5)).alloc (.cells #[.int .u8 4] 5)).drew).ownsRow w.heap.size 5 1 (.slice (some ⟨w2.heap.size + 1, 0, none⟩) 1 1) 1 (bys (bebs 1 4)) ∧ Rd (((w2.alloc (.cells (bys (bebs 4 ses)).toArray 5)).alloc (.cells #[.int .u8 4] 5)).drew) (some ⟨w2.heap.size, 0, none⟩) (4 * 1) (bys (bebs 4 ses)) from by
          refine ⟨?_, ((Rd.lit _ _ _ _ rfl (4 * 1) (by simp [bys, bebs_length]) _ (by simp)).alloc _).drew⟩
          have hoA := own_below (own_newA (w2.alloc (.cells (bys (bebs 4 ses)).toArray 5)) 5 #[.int .u8 4] w.heap.size 1 (bys (bebs 1 4)) rfl (by have := HS.out; rw [World.size_alloc]; omega) (by omega) (by kernel_rfl)) (Below.refl _ _).drew
          rw [World.size_alloc] at hoA
          exact hoA)
        have HQ := Lib.hid (show ∀ o1 o2, PB w (((w2.alloc o1).alloc o2).drew) A n c ⟨4, ses, blk, id, rsn, dat⟩ from fun o1 o2 => H2.out.below ((((Below.refl w2.heap.size w2).alloc (Nat.le_refl _) _).alloc (by rw [World.size_alloc]; exact Nat.le_succ _) _).drew))
        first
          | (go_region_held3 (fun w' => w'.cell? ⟨w.heap.size, 0, none⟩ = some (.int .i64 4) ∧ w'.cell? ⟨w.heap.size, 1, none⟩ = some (.int .i64 ses))
              (first | go_keep | exact ⟨KR.out.2.1.cell 0, KR.out.2.1.cell 1⟩)
              (first
                | (go_at_call 34; refine (four_any HP.out.1 HP.out.2).mono ?_; rintro e wq ⟨rfl, rfl⟩)
                | (refine step_append_rd (by rfl) (.tmp 11) (.tmp 14) _ (by rfl) w.heap.size 5 i0 _ 1 1 Try.underlying22 hi0 hz0 hz1 hz2 rfl (by omega) _ 1 (bys (bebs 1 4)) (by rfl) (by first | exact HA.out.1 | exact HB.out.1) _ 4 4 (bys (bebs 4 ses)) (by rfl) (by first | exact HA.out.2 | exact HB.out.2) (bys_one _) (by simp only [maxLen]; omega) (by omega) (HQ.out _ _).2.2.size ?_; intro v1 w4 hown1 hg1 hat1; have KR := Lib.hid (show RP w w4 A n c ⟨4, ses, blk, id, rsn, dat⟩ v1 (bebs 1 4 ++ bebs 4 ses) from by first | exact rp_app H0.out (HQ.out _ _) HA.out.1 rfl rfl hown1 hg1 | exact rp_app H0.out (HQ.out _ _) HB.out.1 rfl rfl hown1 hg1); obtain ⟨A4, c4', rfl, _⟩ := own_form hown1; clear hown1 hg1 hat1)))
          | fail
        all_goals go_wp2_with fail
        all_goals go_meet
        all_goals exact KR.out
      case rest =>
        obtain ⟨h1, h2⟩ := hcut
        obtain ⟨A0, d0, rfl, _⟩ := own_form h1
        have K0 := Lib.hid (show wc.ownsRow w.heap.size 5 1 (.slice A0 5 d0) 5 (bys (bebs 1 4 ++ bebs 4 ses)) ∧ PB w wc A n c ⟨4, ses, blk, id, rsn, dat⟩ from ⟨h1, h2⟩)
        clear h1 h2 c0 c1 c2 c3 c4 c5
        have hF := HF.out
        try simp only at hF
        obtain ⟨c0, c1, c2, c3, c4, c5⟩ := cells6 K0.out.2.1
        simp only at c0 c1 c2 c3 c4
        have hw8r : IntKind.u8.wrap rsn = rsn := by rw [IntKind.wrap_u8]; omega
        have hbr : bys (bebs 1 rsn) = [.int .u8 rsn] := by rw [show bebs 1 rsn = [byt rsn 0] from rfl]; unfold bys; simp only [List.map_cons, List.map_nil, byt_toNat]; rw [show rsn / 2 ^ (8 * 0) % 256 = rsn by rw [show (2 : Int) ^ (8 * 0) = 1 from rfl]; omega]
        have HBR := Lib.hid hbr
        clear hbr
        go_wp2_with (first | (at_builtin; refine wpList_append_rd _ rfl (.tmp 40) (.tmp 44) _ rfl w.heap.size 5 i0 _ 1 1 Try.underlying22 hi0 hz0 hz1 hz2 rfl (by omega) _ 5 (bys (bebs 1 4 ++ bebs 4 ses)) rfl (own_below K0.out.1 ((Below.refl _ _).alloc (Nat.le_refl _) _)) (some ⟨wc.heap.size, 0, none⟩) 1 1 (bys (bebs 1 rsn)) rfl (Rd.lit _ _ _ _ rfl (1 * 1) rfl _ (by rw [HBR.out])) (bys_one _) (by simp only [maxLen]; omega) (by omega) (by rw [World.size_alloc]; exact Nat.le_succ_of_le K0.out.2.2.2.size) ?_; intro v1 x1 hown1 hg1 hat1; obtain ⟨K1A, K1c, rfl, _⟩ := own_form hown1; have K1 := Lib.hid (show x1.ownsRow w.heap.size 5 1 (.slice K1A (5 + 1) K1c) (5 + 1) (bys (bebs 1 4 ++ bebs 4 ses ++ bebs 1 rsn)) ∧ PB w x1 A n c ⟨4, ses, blk, id, rsn, dat⟩ from ⟨by rw [bys_append]; exact hown1, (rp_app H0.out (K0.out.2.below ((Below.refl _ _).alloc (Nat.le_refl _) _)) (own_below K0.out.1 ((Below.refl _ _).alloc (Nat.le_refl _) _)) (by simp [bebs_length]) rfl hown1 hg1).2⟩); clear hown1 hg1 hat1 c0 c1 c2 c3 c4 c5; obtain ⟨c0, c1, c2, c3, c4, c5⟩ := cells6 K1.out.2.1; simp only at c0 c1 c2 c3 c4) | (at_builtin; refine wpList_append_rd _ rfl (.tmp 46) (.tmp 48) _ rfl w.heap.size 5 i0 _ 1 1 Try.underlying22 hi0 hz0 hz1 hz2 rfl (by omega) _ 6 (bys (bebs 1 4 ++ bebs 4 ses ++ bebs 1 rsn)) rfl (K1.out.1) A n c (bys (dat)) rfl (by rw [Nat.mul_one]; exact K1.out.2.2.1.1) (bys_one _) (by simp only [maxLen]; have := HD.out; omega) (by have := HD.out; omega) (K1.out.2.2.2.size) ?_; intro v1 xd hown1 hg1 hat1; obtain ⟨KDA, KDc, rfl, _⟩ := own_form hown1; have KD := Lib.hid (show xd.ownsRow w.heap.size 5 1 (.slice KDA (6 + n) KDc) (6 + n) (bys (bebs 1 4 ++ bebs 4 ses ++ bebs 1 rsn ++ dat)) ∧ PB w xd A n c ⟨4, ses, blk, id, rsn, dat⟩ from ⟨by rw [bys_append]; exact hown1, (rp_app H0.out (K1.out.2) (K1.out.1) (by simp [bebs_length]) HD.out hown1 hg1).2⟩); clear hown1 hg1 hat1 c0 c1 c2 c3 c4 c5; obtain ⟨c0, c1, c2, c3, c4, c5⟩ := cells6 KD.out.2.1; simp only at c0 c1 c2 c3 c4))
        have hYb : pkBody ⟨4, ses, blk, id, rsn, dat⟩ = bebs 1 4 ++ bebs 4 ses ++ bebs 1 rsn ++ dat := by simp [pkBody, fmB, fmD, fmR]
        obtain ⟨Y, hY⟩ : ∃ Y, (bebs 1 4 ++ bebs 4 ses ++ bebs 1 rsn ++ dat : List UInt8) = Y := ⟨_, rfl⟩
        have hYl : Y.length = 6 + n := by rw [← hY]; simp only [List.length_append, bebs_length]; have := HD.out; omega
        have KY := Lib.hid KD.out
        rw [hY] at KY hYb
        obtain ⟨M, hM⟩ : ∃ M, 6 + n = M := ⟨_, rfl⟩
        rw [hM] at hYl KY ⊢
        have hMb : M ≤ 65549 := by have := HD.out; omega
        have JY := Lib.hid (And.intro hYb hYl)
        clear hY hYb hYl hM
        refine (refSeal_any (t := tableL) (.inl ⟨rfl, rfl⟩) (Rd.of_own KY.out.1) (by omega)).mono ?_
        rintro e y3 ⟨A9, d9, g9, rfl, hd9, hm9, hg9, hb9⟩
        have J3 := Lib.hid (And.intro hm9 (And.intro hd9 (And.intro hg9 hb9)))
        clear hm9 hd9 hg9 hb9
        go_wp2
        go_ret2
        rw [HN.out.1, HN.out.2, JY.out.1]
        refine ⟨A9, d9, g9, by rw [seal_length, JY.out.2]; rfl, by rw [seal_length, JY.out.2]; exact J3.out.2.1, by rw [seal_length, JY.out.2]; exact J3.out.1, Nat.le_trans KY.out.2.2.2.size J3.out.2.2.1, below_base KY.out.2.2.2 J3.out.2.2.2 KY.out.2.2.2.size⟩
    · obtain ⟨c0, c1, c2, c3, c4, c5⟩ := cells6 H2.out.1
      simp only at c0 c1 c2 c3 c4
      go_wp2_with fail
      go_cut [4] (fun v wx => RP w wx A n c ⟨5, ses, blk, id, rsn, dat⟩ v (bebs 1 5 ++ bebs 4 ses))
      case first =>
        have hne := World.new_ne w2 ⟨w.heap.size, 0, none⟩ c0
        simp only at hne
        have hne2 : w.heap.size ≠ w2.heap.size := fun e => hne e.symm
        have hlt := H2.out.1.lt
        have hF : 0 ≤ ses ∧ ses ≤ 4294967295 := by have := HF.out; (try simp only at this); omega
        have hF4 := four_bys hF.1 hF.2
        have HP := Lib.hid hF
        clear hF
        have hw8 : IntKind.u8.wrap 5 = 5 := by decide
        have HS := Lib.hid H2.out.2.2.size
        clear hF4
        have HA := Lib.hid (show (((w2.alloc (.cells #[.int .u8 5] 5)).alloc (.cells (bys (bebs 4 ses)).toArray 5)).drew).ownsRow w.heap.size 5 1 (.slice (some ⟨w2.heap.size, 0, none⟩) 1 1) 1 (bys (bebs 1 5)) ∧ Rd (((w2.alloc (.cells #[.int .u8 5] 5)).alloc (.cells (bys (bebs 4 ses)).toArray 5)).drew) (some ⟨w2.heap.size + 1, 0, none⟩) (4 * 1) (bys (bebs 4 ses)) from
          ⟨own_below (own_newA w2 5 #[.int .u8 5] w.heap.size 1 (bys (bebs 1 5)) rfl HS.out (by omega) (by kernel_rfl)) (((Below.refl _ _).alloc (Nat.le_refl _) (.cells (bys (bebs 4 ses)).toArray 5)).drew), (Rd.lit _ _ _ _ (by rw [World.size_alloc]) (4 * 1) (by simp [bys, bebs_length]) _ (by simp)).drew⟩)
        have HB := Lib.hid (show (((w2.alloc (.cells (bys (bebs 4 ses)).toArray 5)).alloc (.cells #[.int .u8 5] 5)).drew).ownsRow w.heap.size 5 1 (.slice (some ⟨w2.heap.size + 1, 0, none⟩) 1 1) 1 (bys (bebs 1 5)) ∧ Rd (((w2.alloc (.cells (bys (bebs 4 ses)).toArray 5)).alloc (.cells #[.int .u8 5] 5)).drew) (some ⟨w2.heap.size, 0, none⟩) (4 * 1) (bys (bebs 4 ses)) from by
          refine ⟨?_, ((Rd.lit _ _ _ _ rfl (4 * 1) (by simp [bys, bebs_length]) _ (by simp)).alloc _).drew⟩
          have hoA := own_below (own_newA (w2.alloc (.cells (bys (bebs 4 ses)).toArray 5)) 5 #[.int .u8 5] w.heap.size 1 (bys (bebs 1 5)) rfl (by have := HS.out; rw [World.size_alloc]; omega) (by omega) (by kernel_rfl)) (Below.refl _ _).drew
          rw [World.size_alloc] at hoA
          exact hoA)
        have HQ := Lib.hid (show ∀ o1 o2, PB w (((w2.alloc o1).alloc o2).drew) A n c ⟨5, ses, blk, id, rsn, dat⟩ from fun o1 o2 => H2.out.below ((((Below.refl w2.heap.size w2).alloc (Nat.le_refl _) _).alloc (by rw [World.size_alloc]; exact Nat.le_succ _) _).drew))
        first
          | (go_region_held3 (fun w' => w'.cell? ⟨w.heap.size, 0, none⟩ = some (.int .i64 5) ∧ w'.cell? ⟨w.heap.size, 1, none⟩ = some (.int .i64 ses))
              (first | go_keep | exact ⟨KR.out.2.1.cell 0, KR.out.2.1.cell 1⟩)
              (first
                | (go_at_call 34; refine (four_any HP.out.1 HP.out.2).mono ?_; rintro e wq ⟨rfl, rfl⟩)
                | (refine step_append_rd (by rfl) (.tmp 11) (.tmp 14) _ (by rfl) w.heap.size 5 i0 _ 1 1 Try.underlying22 hi0 hz0 hz1 hz2 rfl (by omega) _ 1 (bys (bebs 1 5)) (by rfl) (by first | exact HA.out.1 | exact HB.out.1) _ 4 4 (bys (bebs 4 ses)) (by rfl) (by first | exact HA.out.2 | exact HB.out.2) (bys_one _) (by simp only [maxLen]; omega) (by omega) (HQ.out _ _).2.2.size ?_; intro v1 w4 hown1 hg1 hat1; have KR := Lib.hid (show RP w w4 A n c ⟨5, ses, blk, id, rsn, dat⟩ v1 (bebs 1 5 ++ bebs 4 ses) from by first | exact rp_app H0.out (HQ.out _ _) HA.out.1 rfl rfl hown1 hg1 | exact rp_app H0.out (HQ.out _ _) HB.out.1 rfl rfl hown1 hg1); obtain ⟨A4, c4', rfl, _⟩ := own_form hown1; clear hown1 hg1 hat1)))
          | fail
        all_goals go_wp2_with fail
        all_goals go_meet
        all_goals exact KR.out
      case rest =>
        obtain ⟨h1, h2⟩ := hcut
        obtain ⟨A0, d0, rfl, _⟩ := own_form h1
        have K0 := Lib.hid (show wc.ownsRow w.heap.size 5 1 (.slice A0 5 d0) 5 (bys (bebs 1 5 ++ bebs 4 ses)) ∧ PB w wc A n c ⟨5, ses, blk, id, rsn, dat⟩ from ⟨h1, h2⟩)
        clear h1 h2 c0 c1 c2 c3 c4 c5
        have hF := HF.out
        try simp only at hF
        obtain ⟨c0, c1, c2, c3, c4, c5⟩ := cells6 K0.out.2.1
        simp only at c0 c1 c2 c3 c4
        go_wp2_with (at_builtin; refine wpList_append_rd _ rfl (.tmp 46) (.tmp 48) _ rfl w.heap.size 5 i0 _ 1 1 Try.underlying22 hi0 hz0 hz1 hz2 rfl (by omega) _ 5 (bys (bebs 1 5 ++ bebs 4 ses)) rfl (K0.out.1) A n c (bys (dat)) rfl (by rw [Nat.mul_one]; exact K0.out.2.2.1.1) (bys_one _) (by simp only [maxLen]; have := HD.out; omega) (by have := HD.out; omega) (K0.out.2.2.2.size) ?_; intro v1 xd hown1 hg1 hat1; obtain ⟨KDA, KDc, rfl, _⟩ := own_form hown1; have KD := Lib.hid (show xd.ownsRow w.heap.size 5 1 (.slice KDA (5 + n) KDc) (5 + n) (bys (bebs 1 5 ++ bebs 4 ses ++ dat)) ∧ PB w xd A n c ⟨5, ses, blk, id, rsn, dat⟩ from ⟨by rw [bys_append]; exact hown1, (rp_app H0.out (K0.out.2) (K0.out.1) (by simp [bebs_length]) HD.out hown1 hg1).2⟩); clear hown1 hg1 hat1 c0 c1 c2 c3 c4 c5; obtain ⟨c0, c1, c2, c3, c4, c5⟩ := cells6 KD.out.2.1; simp only at c0 c1 c2 c3 c4)
        have hYb : pkBody ⟨5, ses, blk, id, rsn, dat⟩ = bebs 1 5 ++ bebs 4 ses ++ dat := by simp [pkBody, fmB, fmD, fmR]
        obtain ⟨Y, hY⟩ : ∃ Y, (bebs 1 5 ++ bebs 4 ses ++ dat : List UInt8) = Y := ⟨_, rfl⟩
        have hYl : Y.length = 5 + n := by rw [← hY]; simp only [List.length_append, bebs_length]; have := HD.out; omega
        have KY := Lib.hid KD.out
        rw [hY] at KY hYb
        obtain ⟨M, hM⟩ : ∃ M, 5 + n = M := ⟨_, rfl⟩
        rw [hM] at hYl KY ⊢
        have hMb : M ≤ 65549 := by have := HD.out; omega
        have JY := Lib.hid (And.intro hYb hYl)
        clear hY hYb hYl hM
        refine (refSeal_any (t := tableL) (.inl ⟨rfl, rfl⟩) (Rd.of_own KY.out.1) (by omega)).mono ?_
        rintro e y3 ⟨A9, d9, g9, rfl, hd9, hm9, hg9, hb9⟩
        have J3 := Lib.hid (And.intro hm9 (And.intro hd9 (And.intro hg9 hb9)))
        clear hm9 hd9 hg9 hb9
        go_wp2
        go_ret2
        rw [HN.out.1, HN.out.2, JY.out.1]
        refine ⟨A9, d9, g9, by rw [seal_length, JY.out.2]; rfl, by rw [seal_length, JY.out.2]; exact J3.out.2.1, by rw [seal_length, JY.out.2]; exact J3.out.1, Nat.le_trans KY.out.2.2.2.size J3.out.2.2.1, below_base KY.out.2.2.2 J3.out.2.2.2 KY.out.2.2.2.size⟩
end Go.Proofs.Ytpfamjgdfcnieaa
