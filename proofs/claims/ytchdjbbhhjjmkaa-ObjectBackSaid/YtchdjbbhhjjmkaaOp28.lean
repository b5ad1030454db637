/- Chapter 28: Part, of both. -/
import Derived.Test.YtchdjbbhhjjmkaaOs28
namespace Go.Proofs.Ytchdjbbhhjjmkaa
open Go.RowKit
set_option linter.unusedVariables false
/-- The one operation that is ready is run by hand. -/
theorem wpAny_one {P : Program} {md : Region.Mode} {ops : Array Oper} {Q : Exit → Act → World → Prop} {fuel : Nat} {listed : Array Bool} {a : Act} {w : World} (i : Nat) {oi : Oper} (hr : Region.ready md ops listed = [i]) (hi : ops[i]? = some oi) (hw : Region.wanted oi (yielded ops a.tmps) = true)
    (h : oi.wp P a w (fun a' w' => wpAny P md ops Q fuel (listed.setIfInBounds i true) a' w') Q) : wpAny P md ops Q (fuel + 1) listed a w :=
  wpAny_all hr (by simp) (fun j hj => by
    have e : j = i := by simpa using hj
    subst e
    unfold wpOp
    rw [hi]
    simp only [hw, if_true]
    exact .inl h)
section
variable {w : World} {A B : Option Addr} {n c l cc : Nat} {m : MF}
set_option maxRecDepth 100000 in
set_option maxHeartbeats 3200000 in
theorem opart_any {xss : List (List UInt8)} (h : MA w A n c m) (hd : Syms w B l xss) (hl : l ≤ 5864062014634) {b : Int} (hb : R64 b) :
    Calls Try.prog 27 #[m.v A n c, .int .i64 b, .slice B l cc] w (Told w (ptV m b xss) (ptE m b xss)) := by
  have hdl : xss.length = l := hd.len
  obtain ⟨z, s, k, d, t⟩ := m
  obtain ⟨w1, hw1⟩ : ∃ w1, w1 = w.alloc (.cells #[.int .i64 z, .int .i64 s, .int .i64 k, .int .i64 d, .slice A n c] 24) := ⟨_, rfl⟩
  have hM := MB.new h
  rw [← hw1] at hM
  have H1 := Lib.hid (And.intro hM (hd.below hM.2.2))
  have HD := Lib.hid (And.intro hdl (And.intro hl hb))
  obtain ⟨c0, c1, c2, c3, c4⟩ := cells5 hM.1
  have hl' : (l : Int) ≤ 5864062014634 := by omega
  clear h hd hM hdl hl hb
  show Calls Try.prog 27 #[.agg #[.int .i64 z, .int .i64 s, .int .i64 k, .int .i64 d, .slice A n c], .int .i64 b, .slice B l cc] w _
  by_cases hp : prE ⟨z, s, k, d, t⟩ b = 0
  · have HP := Lib.hid hp
    obtain ⟨x1, hx1⟩ : ∃ x, prF ⟨z, s, k, d, t⟩ b = x := ⟨_, rfl⟩
    obtain ⟨x2, hx2⟩ : ∃ x, prS ⟨z, s, k, d, t⟩ b = x := ⟨_, rfl⟩
    have HX := Lib.hid (And.intro hx1 hx2)
    clear hp hx1 hx2
    cases hbk : bkB xss with
    | false =>
      have HE := Lib.hid (show bkE xss = 2 from by unfold bkE; rw [hbk]; rfl)
      have hE := pt_bad HP.out (show ptO ⟨z, s, k, d, t⟩ xss = false from by unfold ptO; rw [hbk]; rfl)
      rw [pt_no hE (by decide), hE]
      clear hbk hE
      go_enter Try.func27, Try.ntmps27
      go_wp2_with fail
      rw [← hw1]
      clear hw1
      refine (part_any H1.out.1.2.1 HD.out.2.2).mono ?_
      rintro e w2 ⟨rfl, hb2⟩
      rw [HX.out.1, HX.out.2, HP.out]
      have H2 := Lib.hid (And.intro (H1.out.1.below hb2) (H1.out.2.below hb2))
      clear hb2 c0 c1 c2 c3 c4
      obtain ⟨c0, c1, c2, c3, c4⟩ := cells5 H2.out.1.1
      go_wp2_with fail
      go_region_with (go_at_call 45; refine (bkcheck_any (H2.out.2.below (Below.refl w2.heap.size w2).drew) HD.out.2.1).mono ?_; rintro e wq ⟨rfl, hbq⟩; rw [HE.out]; have K1 := Lib.hid (H2.out.1.below (below_undrew hbq)); clear hbq; dsimp only; rename_i hKx; refine hKx _ _ ?_; refine wpAny_take (i := 2) (v := Value.bool true) rfl (by kernel_rfl) (by kernel_rfl) (by kernel_rfl) (fun _ _ _ h => h) (Or.inl ⟨by rfl, fun w => by first | rfl | go_simp⟩) ?_; go_simp; refine wpAny_take (i := 3) (v := Value.bool true) rfl (by kernel_rfl) (by kernel_rfl) (by kernel_rfl) (fun _ _ _ h => h) (Or.inl ⟨by rfl, fun w => by first | rfl | go_simp⟩) ?_; go_simp; refine wpAny_take (i := 4) (v := undef) rfl (by kernel_rfl) (by kernel_rfl) (by kernel_rfl) (fun _ _ _ h => h) (Or.inr ⟨by rfl, rfl⟩) ?_; go_simp; refine wpAny_take (i := 5) (v := undef) rfl (by kernel_rfl) (by kernel_rfl) (by kernel_rfl) (fun _ _ _ h => h) (Or.inr ⟨by rfl, rfl⟩) ?_; go_simp; refine wpAny_take (i := 6) (v := undef) rfl (by kernel_rfl) (by kernel_rfl) (by kernel_rfl) (fun _ _ _ h => h) (Or.inr ⟨by rfl, rfl⟩) ?_; go_simp; refine wpAny_take (i := 7) (v := undef) rfl (by kernel_rfl) (by kernel_rfl) (by kernel_rfl) (fun _ _ _ h => h) (Or.inr ⟨by rfl, rfl⟩) ?_; go_simp; refine wpAny_take (i := 8) (v := undef) rfl (by kernel_rfl) (by kernel_rfl) (by kernel_rfl) (fun _ _ _ h => h) (Or.inr ⟨by rfl, rfl⟩) ?_; go_simp; refine wpAny_take (i := 9) (v := Value.bool true) rfl (by kernel_rfl) (by kernel_rfl) (by kernel_rfl) (fun _ _ _ h => h) (Or.inl ⟨by rfl, fun w => by first | rfl | go_simp⟩) ?_; go_simp; refine wpAny_take (i := 10) (v := Value.bool true) rfl (by kernel_rfl) (by kernel_rfl) (by kernel_rfl) (fun _ _ _ h => h) (Or.inl ⟨by rfl, fun w => by first | rfl | go_simp⟩) ?_; go_simp; refine wpAny_take (i := 11) (v := undef) rfl (by kernel_rfl) (by kernel_rfl) (by kernel_rfl) (fun _ _ _ h => h) (Or.inr ⟨by rfl, rfl⟩) ?_; go_simp; refine wpAny_take (i := 12) (v := undef) rfl (by kernel_rfl) (by kernel_rfl) (by kernel_rfl) (fun _ _ _ h => h) (Or.inr ⟨by rfl, rfl⟩) ?_; go_simp; refine wpAny_take (i := 13) (v := undef) rfl (by kernel_rfl) (by kernel_rfl) (by kernel_rfl) (fun _ _ _ h => h) (Or.inr ⟨by rfl, rfl⟩) ?_; go_simp; refine wpAny_take (i := 14) (v := undef) rfl (by kernel_rfl) (by kernel_rfl) (by kernel_rfl) (fun _ _ _ h => h) (Or.inr ⟨by rfl, rfl⟩) ?_; go_simp; refine wpAny_take (i := 15) (v := undef) rfl (by kernel_rfl) (by kernel_rfl) (by kernel_rfl) (fun _ _ _ h => h) (Or.inr ⟨by rfl, rfl⟩) ?_; go_simp; refine wpAny_take (i := 16) (v := undef) rfl (by kernel_rfl) (by kernel_rfl) (by kernel_rfl) (fun _ _ _ h => h) (Or.inr ⟨by rfl, rfl⟩) ?_; go_simp; refine wpAny_take (i := 17) (v := undef) rfl (by kernel_rfl) (by kernel_rfl) (by kernel_rfl) (fun _ _ _ h => h) (Or.inr ⟨by rfl, rfl⟩) ?_; go_simp; refine wpAny_take (i := 18) (v := Value.bool true) rfl (by kernel_rfl) (by kernel_rfl) (by kernel_rfl) (fun _ _ _ h => h) (Or.inl ⟨by rfl, fun w => by first | rfl | go_simp⟩) ?_; go_simp; refine wpAny_take (i := 19) (v := Value.bool true) rfl (by kernel_rfl) (by kernel_rfl) (by kernel_rfl) (fun _ _ _ h => h) (Or.inl ⟨by rfl, fun w => by first | rfl | go_simp⟩) ?_; go_simp)
      all_goals go_wp2
      all_goals go_ret2
      all_goals exact ⟨_, rfl, World.ownsRow_nil _ _ _ _, K1.out.2.2⟩
    | true =>
      have HE := Lib.hid (show bkE xss = 0 from by unfold bkE; rw [hbk]; rfl)
      have hl0 : 0 < l := by have := (bkB_iff.1 hbk).1.1; rw [HD.out.1] at this; exact this
      obtain ⟨a, off, B0, q0, rfl, ha, hc0, hr0, hq0, hm0⟩ := H1.out.2.at_ hl0
      rw [Nat.add_zero] at hc0
      obtain ⟨L0, hL0⟩ : ∃ L0, (xss.getD 0 []).length = L0 := ⟨_, rfl⟩
      rw [hL0] at hc0
      have HC := Lib.hid (show ∀ wx, Below w1.heap.size w1 wx → wx.cell? ⟨a, off, none⟩ = some (.slice B0 L0 q0) from fun wx hx => (hx.cell (p := ⟨a, off, none⟩) ha).trans hc0)
      have HB := Lib.hid (And.intro hbk hL0)
      have hl0' : (0 : Int) < (l : Int) := by omega
      clear ha hc0 hr0 hq0 hm0 hbk hL0
      cases hk : ((l : Int) != k) with
      | true =>
        have hE := pt_bad HP.out (show ptO ⟨z, s, k, d, t⟩ xss = false from by
          cases hq : ptO ⟨z, s, k, d, t⟩ xss with
          | false => rfl
          | true => have := (ptO_iff.1 hq).2.1; rw [HD.out.1] at this; simp only at this; rw [this] at hk; simp at hk)
        rw [pt_no hE (by decide), hE]
        clear hE
        go_enter Try.func27, Try.ntmps27
        go_wp2_with fail
        rw [← hw1]
        clear hw1
        refine (part_any H1.out.1.2.1 HD.out.2.2).mono ?_
        rintro e w2 ⟨rfl, hb2⟩
        rw [HX.out.1, HX.out.2, HP.out]
        have H2 := Lib.hid (And.intro (H1.out.1.below hb2) (And.intro (H1.out.2.below hb2) hb2))
        clear hb2 c0 c1 c2 c3 c4
        obtain ⟨c0, c1, c2, c3, c4⟩ := cells5 H2.out.1.1
        go_wp2_with fail
        go_region_with (go_at_call 45; refine (bkcheck_any (H2.out.2.1.below (Below.refl w2.heap.size w2).drew) HD.out.2.1).mono ?_; rintro e wq ⟨rfl, hbq⟩; rw [HE.out]; have K1 := Lib.hid (H2.out.1.below (below_undrew hbq)); clear hbq; go_loud (dsimp only; rename_i hKx; refine hKx _ _ ?_; refine wpAny_take (i := 2) (v := Value.bool false) rfl (by kernel_rfl) (by kernel_rfl) (by kernel_rfl) (fun _ _ _ h => h) (Or.inl ⟨by rfl, fun w => by first | rfl | go_simp⟩) ?_; go_simp; refine wpAny_take (i := 3) (v := Value.bool false) rfl (by kernel_rfl) (by kernel_rfl) (by kernel_rfl) (fun _ _ _ h => h) (Or.inl ⟨by rfl, fun w => by first | rfl | go_simp⟩) ?_; go_simp; refine wpAny_take (i := 4) (v := Value.slice (some ⟨a, off, none⟩) l cc) rfl (by kernel_rfl) (by kernel_rfl) (by kernel_rfl) (fun _ _ _ h => h) (Or.inl ⟨by rfl, fun w => by first | rfl | go_simp⟩) ?_; go_simp; refine wpAny_take (i := 5) (v := Value.int .i64 (l : Int)) rfl (by kernel_rfl) (by kernel_rfl) (by kernel_rfl) (fun _ _ _ h => h) (Or.inl ⟨by rfl, fun w => by first | rfl | go_simp⟩) ?_; go_simp; refine wpAny_take (i := 6) (v := Value.pointer (some ⟨w.heap.size, 2, none⟩)) rfl (by kernel_rfl) (by kernel_rfl) (by kernel_rfl) (fun _ _ _ h => h) (Or.inl ⟨by rfl, fun w => by first | rfl | go_simp⟩) ?_; go_simp; have c2 := (cells5 K1.out.1).2.2.1; refine wpAny_one 7 (by kernel_rfl) rfl (by rfl) ?_; go_simp; refine wpAny_take (i := 8) (v := Value.bool true) rfl (by kernel_rfl) (by kernel_rfl) (by kernel_rfl) (fun _ _ _ h => h) (Or.inl ⟨by rfl, fun w => by first | rfl | go_simp⟩) ?_; go_simp; refine wpAny_take (i := 9) (v := Value.bool true) rfl (by kernel_rfl) (by kernel_rfl) (by kernel_rfl) (fun _ _ _ h => h) (Or.inl ⟨by rfl, fun w => by first | rfl | go_simp⟩) ?_; go_simp; refine wpAny_take (i := 10) (v := Value.bool true) rfl (by kernel_rfl) (by kernel_rfl) (by kernel_rfl) (fun _ _ _ h => h) (Or.inl ⟨by rfl, fun w => by first | rfl | go_simp⟩) ?_; go_simp; refine wpAny_take (i := 11) (v := undef) rfl (by kernel_rfl) (by kernel_rfl) (by kernel_rfl) (fun _ _ _ h => h) (Or.inr ⟨by rfl, rfl⟩) ?_; go_simp; refine wpAny_take (i := 12) (v := undef) rfl (by kernel_rfl) (by kernel_rfl) (by kernel_rfl) (fun _ _ _ h => h) (Or.inr ⟨by rfl, rfl⟩) ?_; go_simp; refine wpAny_take (i := 13) (v := undef) rfl (by kernel_rfl) (by kernel_rfl) (by kernel_rfl) (fun _ _ _ h => h) (Or.inr ⟨by rfl, rfl⟩) ?_; go_simp; refine wpAny_take (i := 14) (v := undef) rfl (by kernel_rfl) (by kernel_rfl) (by kernel_rfl) (fun _ _ _ h => h) (Or.inr ⟨by rfl, rfl⟩) ?_; go_simp; refine wpAny_take (i := 15) (v := undef) rfl (by kernel_rfl) (by kernel_rfl) (by kernel_rfl) (fun _ _ _ h => h) (Or.inr ⟨by rfl, rfl⟩) ?_; go_simp; refine wpAny_take (i := 16) (v := undef) rfl (by kernel_rfl) (by kernel_rfl) (by kernel_rfl) (fun _ _ _ h => h) (Or.inr ⟨by rfl, rfl⟩) ?_; go_simp; refine wpAny_take (i := 17) (v := undef) rfl (by kernel_rfl) (by kernel_rfl) (by kernel_rfl) (fun _ _ _ h => h) (Or.inr ⟨by rfl, rfl⟩) ?_; go_simp; refine wpAny_take (i := 18) (v := Value.bool true) rfl (by kernel_rfl) (by kernel_rfl) (by kernel_rfl) (fun _ _ _ h => h) (Or.inl ⟨by rfl, fun w => by first | rfl | go_simp⟩) ?_; go_simp; refine wpAny_take (i := 19) (v := Value.bool true) rfl (by kernel_rfl) (by kernel_rfl) (by kernel_rfl) (fun _ _ _ h => h) (Or.inl ⟨by rfl, fun w => by first | rfl | go_simp⟩) ?_; go_simp))
        all_goals go_wp2
        all_goals go_ret2
        all_goals exact ⟨_, rfl, World.ownsRow_nil _ _ _ _, K1.out.2.2⟩
      | false =>
        cases hs : ((L0 : Int) != s) with
        | true =>
          have hE := pt_bad HP.out (show ptO ⟨z, s, k, d, t⟩ xss = false from by
            cases hq : ptO ⟨z, s, k, d, t⟩ xss with
            | false => rfl
            | true => have := (ptO_iff.1 hq).2.2; rw [HB.out.2] at this; simp only at this; rw [this] at hs; simp at hs)
          rw [pt_no hE (by decide), hE]
          clear hE
          go_enter Try.func27, Try.ntmps27
          go_wp2_with fail
          rw [← hw1]
          clear hw1
          refine (part_any H1.out.1.2.1 HD.out.2.2).mono ?_
          rintro e w2 ⟨rfl, hb2⟩
          rw [HX.out.1, HX.out.2, HP.out]
          have H2 := Lib.hid (And.intro (H1.out.1.below hb2) (And.intro (H1.out.2.below hb2) hb2))
          clear c0 c1 c2 c3 c4
          obtain ⟨c0, c1, c2, c3, c4⟩ := cells5 H2.out.1.1
          have c5 := HC.out _ hb2
          clear hb2
          go_wp2_with fail
          go_region_held3 (fun w' => w'.cell? ⟨w.heap.size, 0, none⟩ = some (.int .i64 z) ∧ w'.cell? ⟨w.heap.size, 1, none⟩ = some (.int .i64 s) ∧ w'.cell? ⟨w.heap.size, 2, none⟩ = some (.int .i64 k) ∧ w'.cell? ⟨w.heap.size, 3, none⟩ = some (.int .i64 d) ∧ w'.cell? ⟨w.heap.size, 4, none⟩ = some (.slice A n c) ∧ w'.cell? ⟨a, off, none⟩ = some (.slice B0 L0 q0))
            (first | go_keep | (obtain ⟨x0, x1, x2, x3, x4⟩ := cells5 K1.out.1.1; exact ⟨x0, x1, x2, x3, x4, K1.out.2⟩))
            ((go_at_call 45; refine (bkcheck_any (H2.out.2.1.below (Below.refl w2.heap.size w2).drew) HD.out.2.1).mono ?_; rintro e wq ⟨rfl, hbq⟩; rw [HE.out]; have K1 := Lib.hid (And.intro (H2.out.1.below (below_undrew hbq)) (HC.out _ (below_base H2.out.2.2 (below_undrew hbq) H2.out.2.2.size))); clear hbq))
          all_goals go_wp2
          all_goals go_ret2
          all_goals exact ⟨_, rfl, World.ownsRow_nil _ _ _ _, K1.out.1.2.2⟩
        | false =>
          obtain ⟨o1, o2, o3⟩ := pt_ok (m := ⟨z, s, k, d, t⟩) (xss := xss) HP.out (ptO_iff.2 ⟨HB.out.1, by rw [HD.out.1]; simpa using hk, by rw [HB.out.2]; simpa using hs⟩)
          rw [o1]
          have HJ := Lib.hid (fun (wx : World) (hx : Syms wx (some ⟨a, off, none⟩) l xss) => join_any (c := cc) hx HD.out.2.1 (prS ⟨z, s, k, d, t⟩ b))
          rw [← o3, o2, HX.out.2] at HJ
          clear o1 o2 o3
          go_enter Try.func27, Try.ntmps27
          go_wp2_with fail
          rw [← hw1]
          clear hw1
          refine (part_any H1.out.1.2.1 HD.out.2.2).mono ?_
          rintro e w2 ⟨rfl, hb2⟩
          rw [HX.out.1, HX.out.2, HP.out]
          have H2 := Lib.hid (And.intro (H1.out.1.below hb2) (And.intro (H1.out.2.below hb2) hb2))
          clear c0 c1 c2 c3 c4
          obtain ⟨c0, c1, c2, c3, c4⟩ := cells5 H2.out.1.1
          have c5 := HC.out _ hb2
          clear hb2
          go_wp2_with fail
          go_region_held3 (fun w' => w'.cell? ⟨w.heap.size, 0, none⟩ = some (.int .i64 z) ∧ w'.cell? ⟨w.heap.size, 1, none⟩ = some (.int .i64 s) ∧ w'.cell? ⟨w.heap.size, 2, none⟩ = some (.int .i64 k) ∧ w'.cell? ⟨w.heap.size, 3, none⟩ = some (.int .i64 d) ∧ w'.cell? ⟨w.heap.size, 4, none⟩ = some (.slice A n c) ∧ w'.cell? ⟨a, off, none⟩ = some (.slice B0 L0 q0))
            (first | go_keep | (obtain ⟨x0, x1, x2, x3, x4⟩ := cells5 K1.out.1.1; exact ⟨x0, x1, x2, x3, x4, K1.out.2.1⟩))
            ((go_at_call 45; refine (bkcheck_any (H2.out.2.1.below (Below.refl w2.heap.size w2).drew) HD.out.2.1).mono ?_; rintro e wq ⟨rfl, hbq⟩; rw [HE.out]; have K1 := Lib.hid (And.intro (H2.out.1.below (below_undrew hbq)) (And.intro (HC.out _ (below_base H2.out.2.2 (below_undrew hbq) H2.out.2.2.size)) (H2.out.2.1.below (below_undrew hbq)))); clear hbq))
          all_goals clear c0 c1 c2 c3 c4 c5
          all_goals go_wp2_with fail
          all_goals refine (HJ.out _ K1.out.2.2).mono ?_
          all_goals rintro e w4 ⟨v, rfl, ho, hb4⟩
          all_goals go_wp2
          all_goals go_ret2
          all_goals exact ⟨_, rfl, own_mono ho K1.out.1.2.2.size, below_base K1.out.1.2.2 hb4 K1.out.1.2.2.size⟩
  · have hE : ptE ⟨z, s, k, d, t⟩ b xss = prE ⟨z, s, k, d, t⟩ b := by unfold ptE; rw [if_neg hp]
    rw [pt_no hE hp, hE]
    have hne := (prE_no hp).2.2
    obtain ⟨x1, hx1⟩ : ∃ x, prF ⟨z, s, k, d, t⟩ b = x := ⟨_, rfl⟩
    obtain ⟨x2, hx2⟩ : ∃ x, prS ⟨z, s, k, d, t⟩ b = x := ⟨_, rfl⟩
    obtain ⟨x3, hx3⟩ : ∃ x, prE ⟨z, s, k, d, t⟩ b = x := ⟨_, rfl⟩
    rw [hx3] at hne ⊢
    have HX := Lib.hid (And.intro hx1 (And.intro hx2 hx3))
    clear hp hE hx1 hx2 hx3
    rcases hne with rfl | rfl
    all_goals go_enter Try.func27, Try.ntmps27
    all_goals go_wp2_with fail
    all_goals rw [← hw1]
    all_goals clear hw1
    all_goals refine (part_any H1.out.1.2.1 HD.out.2.2).mono ?_
    all_goals rintro e w2 ⟨rfl, hb2⟩
    all_goals rw [HX.out.1, HX.out.2.1, HX.out.2.2]
    all_goals have H2 := Lib.hid (H1.out.1.below hb2)
    all_goals clear hb2 c0 c1 c2 c3 c4
    all_goals go_wp2
    all_goals go_ret2
    all_goals exact ⟨_, rfl, World.ownsRow_nil _ _ _ _, H2.out.2.2⟩
set_option maxRecDepth 100000 in
set_option maxHeartbeats 3200000 in
theorem ropart_any {xss : List (List UInt8)} (h : MA w A n c m) (hd : Syms w B l xss) (hl : l ≤ 5864062014634) {b : Int} (hb : R64 b) :
    Calls Try.prog 28 #[m.v A n c, .int .i64 b, .slice B l cc] w (Told w (ptV m b xss) (ptE m b xss)) := by
  have hdl : xss.length = l := hd.len
  obtain ⟨z, s, k, d, t⟩ := m
  obtain ⟨w1, hw1⟩ : ∃ w1, w1 = w.alloc (.cells #[.int .i64 z, .int .i64 s, .int .i64 k, .int .i64 d, .slice A n c] 24) := ⟨_, rfl⟩
  have hM := MB.new h
  rw [← hw1] at hM
  have H1 := Lib.hid (And.intro hM (hd.below hM.2.2))
  have HD := Lib.hid (And.intro hdl (And.intro hl hb))
  obtain ⟨c0, c1, c2, c3, c4⟩ := cells5 hM.1
  have hl' : (l : Int) ≤ 5864062014634 := by omega
  clear h hd hM hdl hl hb
  show Calls Try.prog 28 #[.agg #[.int .i64 z, .int .i64 s, .int .i64 k, .int .i64 d, .slice A n c], .int .i64 b, .slice B l cc] w _
  by_cases hp : prE ⟨z, s, k, d, t⟩ b = 0
  · have HP := Lib.hid hp
    obtain ⟨x1, hx1⟩ : ∃ x, prF ⟨z, s, k, d, t⟩ b = x := ⟨_, rfl⟩
    obtain ⟨x2, hx2⟩ : ∃ x, prS ⟨z, s, k, d, t⟩ b = x := ⟨_, rfl⟩
    have HX := Lib.hid (And.intro hx1 hx2)
    clear hp hx1 hx2
    cases hbk : bkB xss with
    | false =>
      have HE := Lib.hid (show bkE xss = 2 from by unfold bkE; rw [hbk]; rfl)
      have hE := pt_bad HP.out (show ptO ⟨z, s, k, d, t⟩ xss = false from by unfold ptO; rw [hbk]; rfl)
      rw [pt_no hE (by decide), hE]
      clear hbk hE
      go_enter Try.func28, Try.ntmps28
      go_wp2_with fail
      rw [← hw1]
      clear hw1
      refine (rpart_any H1.out.1.2.1 HD.out.2.2).mono ?_
      rintro e w2 ⟨rfl, hb2⟩
      rw [HX.out.1, HX.out.2, HP.out]
      have H2 := Lib.hid (And.intro (H1.out.1.below hb2) (H1.out.2.below hb2))
      clear hb2 c0 c1 c2 c3 c4
      obtain ⟨c0, c1, c2, c3, c4⟩ := cells5 H2.out.1.1
      go_wp2_with fail
      go_region_with (go_at_call 47; refine (bkrcheck_any (H2.out.2.below (Below.refl w2.heap.size w2).drew) HD.out.2.1).mono ?_; rintro e wq ⟨rfl, hbq⟩; rw [HE.out]; have K1 := Lib.hid (H2.out.1.below (below_undrew hbq)); clear hbq; dsimp only; rename_i hKx; refine hKx _ _ ?_; refine wpAny_take (i := 2) (v := Value.bool true) rfl (by kernel_rfl) (by kernel_rfl) (by kernel_rfl) (fun _ _ _ h => h) (Or.inl ⟨by rfl, fun w => by first | rfl | go_simp⟩) ?_; go_simp; refine wpAny_take (i := 3) (v := Value.bool true) rfl (by kernel_rfl) (by kernel_rfl) (by kernel_rfl) (fun _ _ _ h => h) (Or.inl ⟨by rfl, fun w => by first | rfl | go_simp⟩) ?_; go_simp; refine wpAny_take (i := 4) (v := undef) rfl (by kernel_rfl) (by kernel_rfl) (by kernel_rfl) (fun _ _ _ h => h) (Or.inr ⟨by rfl, rfl⟩) ?_; go_simp; refine wpAny_take (i := 5) (v := undef) rfl (by kernel_rfl) (by kernel_rfl) (by kernel_rfl) (fun _ _ _ h => h) (Or.inr ⟨by rfl, rfl⟩) ?_; go_simp; refine wpAny_take (i := 6) (v := undef) rfl (by kernel_rfl) (by kernel_rfl) (by kernel_rfl) (fun _ _ _ h => h) (Or.inr ⟨by rfl, rfl⟩) ?_; go_simp; refine wpAny_take (i := 7) (v := undef) rfl (by kernel_rfl) (by kernel_rfl) (by kernel_rfl) (fun _ _ _ h => h) (Or.inr ⟨by rfl, rfl⟩) ?_; go_simp; refine wpAny_take (i := 8) (v := undef) rfl (by kernel_rfl) (by kernel_rfl) (by kernel_rfl) (fun _ _ _ h => h) (Or.inr ⟨by rfl, rfl⟩) ?_; go_simp; refine wpAny_take (i := 9) (v := Value.bool true) rfl (by kernel_rfl) (by kernel_rfl) (by kernel_rfl) (fun _ _ _ h => h) (Or.inl ⟨by rfl, fun w => by first | rfl | go_simp⟩) ?_; go_simp; refine wpAny_take (i := 10) (v := Value.bool true) rfl (by kernel_rfl) (by kernel_rfl) (by kernel_rfl) (fun _ _ _ h => h) (Or.inl ⟨by rfl, fun w => by first | rfl | go_simp⟩) ?_; go_simp; refine wpAny_take (i := 11) (v := undef) rfl (by kernel_rfl) (by kernel_rfl) (by kernel_rfl) (fun _ _ _ h => h) (Or.inr ⟨by rfl, rfl⟩) ?_; go_simp; refine wpAny_take (i := 12) (v := undef) rfl (by kernel_rfl) (by kernel_rfl) (by kernel_rfl) (fun _ _ _ h => h) (Or.inr ⟨by rfl, rfl⟩) ?_; go_simp; refine wpAny_take (i := 13) (v := undef) rfl (by kernel_rfl) (by kernel_rfl) (by kernel_rfl) (fun _ _ _ h => h) (Or.inr ⟨by rfl, rfl⟩) ?_; go_simp; refine wpAny_take (i := 14) (v := undef) rfl (by kernel_rfl) (by kernel_rfl) (by kernel_rfl) (fun _ _ _ h => h) (Or.inr ⟨by rfl, rfl⟩) ?_; go_simp; refine wpAny_take (i := 15) (v := undef) rfl (by kernel_rfl) (by kernel_rfl) (by kernel_rfl) (fun _ _ _ h => h) (Or.inr ⟨by rfl, rfl⟩) ?_; go_simp; refine wpAny_take (i := 16) (v := undef) rfl (by kernel_rfl) (by kernel_rfl) (by kernel_rfl) (fun _ _ _ h => h) (Or.inr ⟨by rfl, rfl⟩) ?_; go_simp; refine wpAny_take (i := 17) (v := undef) rfl (by kernel_rfl) (by kernel_rfl) (by kernel_rfl) (fun _ _ _ h => h) (Or.inr ⟨by rfl, rfl⟩) ?_; go_simp; refine wpAny_take (i := 18) (v := Value.bool true) rfl (by kernel_rfl) (by kernel_rfl) (by kernel_rfl) (fun _ _ _ h => h) (Or.inl ⟨by rfl, fun w => by first | rfl | go_simp⟩) ?_; go_simp)
      all_goals go_wp2
      all_goals go_ret2
      all_goals exact ⟨_, rfl, World.ownsRow_nil _ _ _ _, K1.out.2.2⟩
    | true =>
      have HE := Lib.hid (show bkE xss = 0 from by unfold bkE; rw [hbk]; rfl)
      have hl0 : 0 < l := by have := (bkB_iff.1 hbk).1.1; rw [HD.out.1] at this; exact this
      obtain ⟨a, off, B0, q0, rfl, ha, hc0, hr0, hq0, hm0⟩ := H1.out.2.at_ hl0
      rw [Nat.add_zero] at hc0
      obtain ⟨L0, hL0⟩ : ∃ L0, (xss.getD 0 []).length = L0 := ⟨_, rfl⟩
      rw [hL0] at hc0
      have HC := Lib.hid (show ∀ wx, Below w1.heap.size w1 wx → wx.cell? ⟨a, off, none⟩ = some (.slice B0 L0 q0) from fun wx hx => (hx.cell (p := ⟨a, off, none⟩) ha).trans hc0)
      have HB := Lib.hid (And.intro hbk hL0)
      have hl0' : (0 : Int) < (l : Int) := by omega
      clear ha hc0 hr0 hq0 hm0 hbk hL0
      cases hk : ((l : Int) != k) with
      | true =>
        have hE := pt_bad HP.out (show ptO ⟨z, s, k, d, t⟩ xss = false from by
          cases hq : ptO ⟨z, s, k, d, t⟩ xss with
          | false => rfl
          | true => have := (ptO_iff.1 hq).2.1; rw [HD.out.1] at this; simp only at this; rw [this] at hk; simp at hk)
        rw [pt_no hE (by decide), hE]
        clear hE
        go_enter Try.func28, Try.ntmps28
        go_wp2_with fail
        rw [← hw1]
        clear hw1
        refine (rpart_any H1.out.1.2.1 HD.out.2.2).mono ?_
        rintro e w2 ⟨rfl, hb2⟩
        rw [HX.out.1, HX.out.2, HP.out]
        have H2 := Lib.hid (And.intro (H1.out.1.below hb2) (And.intro (H1.out.2.below hb2) hb2))
        clear hb2 c0 c1 c2 c3 c4
        obtain ⟨c0, c1, c2, c3, c4⟩ := cells5 H2.out.1.1
        go_wp2_with fail
        go_region_with (go_at_call 47; refine (bkrcheck_any (H2.out.2.1.below (Below.refl w2.heap.size w2).drew) HD.out.2.1).mono ?_; rintro e wq ⟨rfl, hbq⟩; rw [HE.out]; have K1 := Lib.hid (H2.out.1.below (below_undrew hbq)); clear hbq; go_loud (dsimp only; rename_i hKx; refine hKx _ _ ?_; refine wpAny_take (i := 2) (v := Value.bool false) rfl (by kernel_rfl) (by kernel_rfl) (by kernel_rfl) (fun _ _ _ h => h) (Or.inl ⟨by rfl, fun w => by first | rfl | go_simp⟩) ?_; go_simp; refine wpAny_take (i := 3) (v := Value.bool false) rfl (by kernel_rfl) (by kernel_rfl) (by kernel_rfl) (fun _ _ _ h => h) (Or.inl ⟨by rfl, fun w => by first | rfl | go_simp⟩) ?_; go_simp; refine wpAny_take (i := 4) (v := Value.slice (some ⟨a, off, none⟩) l cc) rfl (by kernel_rfl) (by kernel_rfl) (by kernel_rfl) (fun _ _ _ h => h) (Or.inl ⟨by rfl, fun w => by first | rfl | go_simp⟩) ?_; go_simp; refine wpAny_take (i := 5) (v := Value.int .i64 (l : Int)) rfl (by kernel_rfl) (by kernel_rfl) (by kernel_rfl) (fun _ _ _ h => h) (Or.inl ⟨by rfl, fun w => by first | rfl | go_simp⟩) ?_; go_simp; refine wpAny_take (i := 6) (v := Value.pointer (some ⟨w.heap.size, 2, none⟩)) rfl (by kernel_rfl) (by kernel_rfl) (by kernel_rfl) (fun _ _ _ h => h) (Or.inl ⟨by rfl, fun w => by first | rfl | go_simp⟩) ?_; go_simp; have c2 := (cells5 K1.out.1).2.2.1; refine wpAny_one 7 (by kernel_rfl) rfl (by rfl) ?_; go_simp; refine wpAny_take (i := 8) (v := Value.bool true) rfl (by kernel_rfl) (by kernel_rfl) (by kernel_rfl) (fun _ _ _ h => h) (Or.inl ⟨by rfl, fun w => by first | rfl | go_simp⟩) ?_; go_simp; refine wpAny_take (i := 9) (v := Value.bool true) rfl (by kernel_rfl) (by kernel_rfl) (by kernel_rfl) (fun _ _ _ h => h) (Or.inl ⟨by rfl, fun w => by first | rfl | go_simp⟩) ?_; go_simp; refine wpAny_take (i := 10) (v := Value.bool true) rfl (by kernel_rfl) (by kernel_rfl) (by kernel_rfl) (fun _ _ _ h => h) (Or.inl ⟨by rfl, fun w => by first | rfl | go_simp⟩) ?_; go_simp; refine wpAny_take (i := 11) (v := undef) rfl (by kernel_rfl) (by kernel_rfl) (by kernel_rfl) (fun _ _ _ h => h) (Or.inr ⟨by rfl, rfl⟩) ?_; go_simp; refine wpAny_take (i := 12) (v := undef) rfl (by kernel_rfl) (by kernel_rfl) (by kernel_rfl) (fun _ _ _ h => h) (Or.inr ⟨by rfl, rfl⟩) ?_; go_simp; refine wpAny_take (i := 13) (v := undef) rfl (by kernel_rfl) (by kernel_rfl) (by kernel_rfl) (fun _ _ _ h => h) (Or.inr ⟨by rfl, rfl⟩) ?_; go_simp; refine wpAny_take (i := 14) (v := undef) rfl (by kernel_rfl) (by kernel_rfl) (by kernel_rfl) (fun _ _ _ h => h) (Or.inr ⟨by rfl, rfl⟩) ?_; go_simp; refine wpAny_take (i := 15) (v := undef) rfl (by kernel_rfl) (by kernel_rfl) (by kernel_rfl) (fun _ _ _ h => h) (Or.inr ⟨by rfl, rfl⟩) ?_; go_simp; refine wpAny_take (i := 16) (v := undef) rfl (by kernel_rfl) (by kernel_rfl) (by kernel_rfl) (fun _ _ _ h => h) (Or.inr ⟨by rfl, rfl⟩) ?_; go_simp; refine wpAny_take (i := 17) (v := undef) rfl (by kernel_rfl) (by kernel_rfl) (by kernel_rfl) (fun _ _ _ h => h) (Or.inr ⟨by rfl, rfl⟩) ?_; go_simp; refine wpAny_take (i := 18) (v := Value.bool true) rfl (by kernel_rfl) (by kernel_rfl) (by kernel_rfl) (fun _ _ _ h => h) (Or.inl ⟨by rfl, fun w => by first | rfl | go_simp⟩) ?_; go_simp))
        all_goals go_wp2
        all_goals go_ret2
        all_goals exact ⟨_, rfl, World.ownsRow_nil _ _ _ _, K1.out.2.2⟩
      | false =>
        cases hs : ((L0 : Int) != s) with
        | true =>
          have hE := pt_bad HP.out (show ptO ⟨z, s, k, d, t⟩ xss = false from by
            cases hq : ptO ⟨z, s, k, d, t⟩ xss with
            | false => rfl
            | true => have := (ptO_iff.1 hq).2.2; rw [HB.out.2] at this; simp only at this; rw [this] at hs; simp at hs)
          rw [pt_no hE (by decide), hE]
          clear hE
          go_enter Try.func28, Try.ntmps28
          go_wp2_with fail
          rw [← hw1]
          clear hw1
          refine (rpart_any H1.out.1.2.1 HD.out.2.2).mono ?_
          rintro e w2 ⟨rfl, hb2⟩
          rw [HX.out.1, HX.out.2, HP.out]
          have H2 := Lib.hid (And.intro (H1.out.1.below hb2) (And.intro (H1.out.2.below hb2) hb2))
          clear c0 c1 c2 c3 c4
          obtain ⟨c0, c1, c2, c3, c4⟩ := cells5 H2.out.1.1
          have c5 := HC.out _ hb2
          clear hb2
          go_wp2_with fail
          go_region_held3 (fun w' => w'.cell? ⟨w.heap.size, 0, none⟩ = some (.int .i64 z) ∧ w'.cell? ⟨w.heap.size, 1, none⟩ = some (.int .i64 s) ∧ w'.cell? ⟨w.heap.size, 2, none⟩ = some (.int .i64 k) ∧ w'.cell? ⟨w.heap.size, 3, none⟩ = some (.int .i64 d) ∧ w'.cell? ⟨w.heap.size, 4, none⟩ = some (.slice A n c) ∧ w'.cell? ⟨a, off, none⟩ = some (.slice B0 L0 q0))
            (first | go_keep | (obtain ⟨x0, x1, x2, x3, x4⟩ := cells5 K1.out.1.1; exact ⟨x0, x1, x2, x3, x4, K1.out.2⟩))
            ((go_at_call 47; refine (bkrcheck_any (H2.out.2.1.below (Below.refl w2.heap.size w2).drew) HD.out.2.1).mono ?_; rintro e wq ⟨rfl, hbq⟩; rw [HE.out]; have K1 := Lib.hid (And.intro (H2.out.1.below (below_undrew hbq)) (HC.out _ (below_base H2.out.2.2 (below_undrew hbq) H2.out.2.2.size))); clear hbq))
          all_goals go_wp2
          all_goals go_ret2
          all_goals exact ⟨_, rfl, World.ownsRow_nil _ _ _ _, K1.out.1.2.2⟩
        | false =>
          obtain ⟨o1, o2, o3⟩ := pt_ok (m := ⟨z, s, k, d, t⟩) (xss := xss) HP.out (ptO_iff.2 ⟨HB.out.1, by rw [HD.out.1]; simpa using hk, by rw [HB.out.2]; simpa using hs⟩)
          rw [o1]
          have HJ := Lib.hid (fun (wx : World) (hx : Syms wx (some ⟨a, off, none⟩) l xss) => rjoin_any (c := cc) hx HD.out.2.1 (prS ⟨z, s, k, d, t⟩ b))
          rw [← o3, o2, HX.out.2] at HJ
          clear o1 o2 o3
          go_enter Try.func28, Try.ntmps28
          go_wp2_with fail
          rw [← hw1]
          clear hw1
          refine (rpart_any H1.out.1.2.1 HD.out.2.2).mono ?_
          rintro e w2 ⟨rfl, hb2⟩
          rw [HX.out.1, HX.out.2, HP.out]
          have H2 := Lib.hid (And.intro (H1.out.1.below hb2) (And.intro (H1.out.2.below hb2) hb2))
          clear c0 c1 c2 c3 c4
          obtain ⟨c0, c1, c2, c3, c4⟩ := cells5 H2.out.1.1
          have c5 := HC.out _ hb2
          clear hb2
          go_wp2_with fail
          go_region_held3 (fun w' => w'.cell? ⟨w.heap.size, 0, none⟩ = some (.int .i64 z) ∧ w'.cell? ⟨w.heap.size, 1, none⟩ = some (.int .i64 s) ∧ w'.cell? ⟨w.heap.size, 2, none⟩ = some (.int .i64 k) ∧ w'.cell? ⟨w.heap.size, 3, none⟩ = some (.int .i64 d) ∧ w'.cell? ⟨w.heap.size, 4, none⟩ = some (.slice A n c) ∧ w'.cell? ⟨a, off, none⟩ = some (.slice B0 L0 q0))
            (first | go_keep | (obtain ⟨x0, x1, x2, x3, x4⟩ := cells5 K1.out.1.1; exact ⟨x0, x1, x2, x3, x4, K1.out.2.1⟩))
            ((go_at_call 47; refine (bkrcheck_any (H2.out.2.1.below (Below.refl w2.heap.size w2).drew) HD.out.2.1).mono ?_; rintro e wq ⟨rfl, hbq⟩; rw [HE.out]; have K1 := Lib.hid (And.intro (H2.out.1.below (below_undrew hbq)) (And.intro (HC.out _ (below_base H2.out.2.2 (below_undrew hbq) H2.out.2.2.size)) (H2.out.2.1.below (below_undrew hbq)))); clear hbq))
          all_goals clear c0 c1 c2 c3 c4 c5
          all_goals go_wp2_with fail
          all_goals refine (HJ.out _ K1.out.2.2).mono ?_
          all_goals rintro e w4 ⟨v, rfl, ho, hb4⟩
          all_goals go_wp2
          all_goals go_ret2
          all_goals exact ⟨_, rfl, own_mono ho K1.out.1.2.2.size, below_base K1.out.1.2.2 hb4 K1.out.1.2.2.size⟩
  · have hE : ptE ⟨z, s, k, d, t⟩ b xss = prE ⟨z, s, k, d, t⟩ b := by unfold ptE; rw [if_neg hp]
    rw [pt_no hE hp, hE]
    have hne := (prE_no hp).2.2
    obtain ⟨x1, hx1⟩ : ∃ x, prF ⟨z, s, k, d, t⟩ b = x := ⟨_, rfl⟩
    obtain ⟨x2, hx2⟩ : ∃ x, prS ⟨z, s, k, d, t⟩ b = x := ⟨_, rfl⟩
    obtain ⟨x3, hx3⟩ : ∃ x, prE ⟨z, s, k, d, t⟩ b = x := ⟨_, rfl⟩
    rw [hx3] at hne ⊢
    have HX := Lib.hid (And.intro hx1 (And.intro hx2 hx3))
    clear hp hE hx1 hx2 hx3
    rcases hne with rfl | rfl
    all_goals go_enter Try.func28, Try.ntmps28
    all_goals go_wp2_with fail
    all_goals rw [← hw1]
    all_goals clear hw1
    all_goals refine (rpart_any H1.out.1.2.1 HD.out.2.2).mono ?_
    all_goals rintro e w2 ⟨rfl, hb2⟩
    all_goals rw [HX.out.1, HX.out.2.1, HX.out.2.2]
    all_goals have H2 := Lib.hid (H1.out.1.below hb2)
    all_goals clear hb2 c0 c1 c2 c3 c4
    all_goals go_wp2
    all_goals go_ret2
    all_goals exact ⟨_, rfl, World.ownsRow_nil _ _ _ _, H2.out.2.2⟩
end
end Go.Proofs.Ytchdjbbhhjjmkaa
