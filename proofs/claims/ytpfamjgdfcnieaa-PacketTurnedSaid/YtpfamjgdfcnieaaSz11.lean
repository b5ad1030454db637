/- Chapter 11: Size and Sends of both, SamePacket. -/
import Derived.Test.YtpfamjgdfcnieaaPr11
namespace Go.Proofs.Ytpfamjgdfcnieaa
open Go.RowKit
set_option linter.unusedVariables false
def pkS (p : PK) : Bool := pkB p && (if p.kd = 4 then decide (p.rsn < 8) else (p.kd == 1 || p.kd == 5))
def PK.same (a b : PK) : Bool := a.kd == b.kd && (a.ses == b.ses && (a.blk == b.blk && (a.id == b.id && (a.rsn == b.rsn && a.dat == b.dat))))
theorem psame_iff {a b : PK} : a.same b = true ↔ a = b := by
  obtain ⟨a1, a2, a3, a4, a5, a6⟩ := a
  obtain ⟨b1, b2, b3, b4, b5, b6⟩ := b
  unfold PK.same
  simp only [Bool.and_eq_true, beq_iff_eq, PK.mk.injEq]
theorem psame_refl (a : PK) : a.same a = true := psame_iff.2 rfl
set_option maxRecDepth 100000 in
theorem psize_any {w : World} {A : Option Addr} {n c : Nat} {p : PK} (h : PA w A n c p) :
    Calls Try.prog 16 #[p.v A n c] w fun e w' => e = .returned (.int .i64 ((pkV p).length : Nat)) ∧ Below w.heap.size w w' := by
  obtain ⟨kd, ses, blk, id, rsn, dat⟩ := p
  obtain ⟨w1, hw1⟩ : ∃ w1, w1 = w.alloc (.cells #[.int .i64 kd, .int .i64 ses, .int .i64 blk, .int .i64 id, .int .i64 rsn, .slice A n c] 24) := ⟨_, rfl⟩
  have hM := PB.new h
  rw [← hw1] at hM
  have H1 := Lib.hid hM
  obtain ⟨c0, c1, c2, c3, c4, c5⟩ := cells6 hM.1
  simp only at c0 c1 c2 c3 c4
  clear h hM
  show Calls Try.prog 16 #[.agg #[.int .i64 kd, .int .i64 ses, .int .i64 blk, .int .i64 id, .int .i64 rsn, .slice A n c]] w _
  go_enter Try.func16, Try.ntmps16
  go_wp2_with fail
  rw [← hw1]
  clear hw1
  refine (pput_any H1.out.2.1).mono ?_
  rintro e w2 ⟨A9, c9, g9, rfl, _, _, _, hb2⟩
  have H2 := Lib.hid (below_base H1.out.2.2 hb2 H1.out.2.2.size)
  clear hb2 c0 c1 c2 c3 c4 c5
  go_wp2
  go_ret
  exact ⟨rfl, H2.out⟩
set_option maxRecDepth 100000 in
theorem rpsize_any {w : World} {A : Option Addr} {n c : Nat} {p : PK} (h : PA w A n c p) :
    Calls Try.prog 17 #[p.v A n c] w fun e w' => e = .returned (.int .i64 ((pkV p).length : Nat)) ∧ Below w.heap.size w w' := by
  obtain ⟨kd, ses, blk, id, rsn, dat⟩ := p
  obtain ⟨w1, hw1⟩ : ∃ w1, w1 = w.alloc (.cells #[.int .i64 kd, .int .i64 ses, .int .i64 blk, .int .i64 id, .int .i64 rsn, .slice A n c] 24) := ⟨_, rfl⟩
  have hM := PB.new h
  rw [← hw1] at hM
  have H1 := Lib.hid hM
  obtain ⟨c0, c1, c2, c3, c4, c5⟩ := cells6 hM.1
  simp only at c0 c1 c2 c3 c4
  clear h hM
  show Calls Try.prog 17 #[.agg #[.int .i64 kd, .int .i64 ses, .int .i64 blk, .int .i64 id, .int .i64 rsn, .slice A n c]] w _
  go_enter Try.func17, Try.ntmps17
  go_wp2_with fail
  rw [← hw1]
  clear hw1
  refine (rpput_any H1.out.2.1).mono ?_
  rintro e w2 ⟨A9, c9, g9, rfl, _, _, _, hb2⟩
  have H2 := Lib.hid (below_base H1.out.2.2 hb2 H1.out.2.2.size)
  clear hb2 c0 c1 c2 c3 c4 c5
  go_wp2
  go_ret
  exact ⟨rfl, H2.out⟩
set_option maxRecDepth 100000 in
set_option maxHeartbeats 1600000 in
theorem psends_any {w : World} {A : Option Addr} {n c : Nat} {p : PK} (h : PA w A n c p) :
    Calls Try.prog 18 #[p.v A n c] w fun e w' => e = .returned (.bool (pkS p)) ∧ Below w.heap.size w w' := by
  obtain ⟨kd, ses, blk, id, rsn, dat⟩ := p
  obtain ⟨w1, hw1⟩ : ∃ w1, w1 = w.alloc (.cells #[.int .i64 kd, .int .i64 ses, .int .i64 blk, .int .i64 id, .int .i64 rsn, .slice A n c] 24) := ⟨_, rfl⟩
  have hM := PB.new h
  rw [← hw1] at hM
  have H1 := Lib.hid hM
  obtain ⟨c0, c1, c2, c3, c4, c5⟩ := cells6 hM.1
  simp only at c0 c1 c2 c3 c4
  clear h hM
  show Calls Try.prog 18 #[.agg #[.int .i64 kd, .int .i64 ses, .int .i64 blk, .int .i64 id, .int .i64 rsn, .slice A n c]] w _
  go_enter Try.func18, Try.ntmps18
  go_wp2_with fail
  rw [← hw1]
  clear hw1
  refine (pcheck_any H1.out.2.1).mono ?_
  rintro e w2 ⟨rfl, hb2⟩
  have H2 := Lib.hid (H1.out.below hb2)
  clear hb2 c0 c1 c2 c3 c4 c5
  obtain ⟨c0, c1, c2, c3, c4, c5⟩ := cells6 H2.out.1
  simp only at c0 c1 c2 c3 c4
  cases hq : pkB ⟨kd, ses, blk, id, rsn, dat⟩ with
  | false =>
    rw [show pkE ⟨kd, ses, blk, id, rsn, dat⟩ = 2 from by unfold pkE; rw [hq]; rfl]
    have HN := Lib.hid (show pkS ⟨kd, ses, blk, id, rsn, dat⟩ = false from by unfold pkS; rw [hq]; rfl)
    clear hq
    go_wp2
    go_ret
    exact ⟨ret_bool (by rw [HN.out]), H2.out.2.2⟩
  | true =>
    rw [show pkE ⟨kd, ses, blk, id, rsn, dat⟩ = 0 from by unfold pkE; rw [hq]; rfl]
    have hk := (pk_fit hq).1
    simp only at hk
    have hS : pkS ⟨kd, ses, blk, id, rsn, dat⟩ = (if kd = 4 then decide (rsn < 8) else (kd == 1 || kd == 5)) := by unfold pkS; rw [hq]; rfl
    clear hq
    rcases (show kd = 1 ∨ kd = 2 ∨ kd = 3 ∨ kd = 4 ∨ kd = 5 by omega) with rfl | rfl | rfl | rfl | rfl
    all_goals have HN := Lib.hid hS
    all_goals clear hS hk
    all_goals go_wp2
    all_goals go_ret
    all_goals exact ⟨ret_bool (by rw [HN.out]; first | rfl | simp), H2.out.2.2⟩
set_option maxRecDepth 100000 in
set_option maxHeartbeats 1600000 in
theorem rpsends_any {w : World} {A : Option Addr} {n c : Nat} {p : PK} (h : PA w A n c p) :
    Calls Try.prog 19 #[p.v A n c] w fun e w' => e = .returned (.bool (pkS p)) ∧ Below w.heap.size w w' := by
  obtain ⟨kd, ses, blk, id, rsn, dat⟩ := p
  obtain ⟨w1, hw1⟩ : ∃ w1, w1 = w.alloc (.cells #[.int .i64 kd, .int .i64 ses, .int .i64 blk, .int .i64 id, .int .i64 rsn, .slice A n c] 24) := ⟨_, rfl⟩
  have hM := PB.new h
  rw [← hw1] at hM
  have H1 := Lib.hid hM
  obtain ⟨c0, c1, c2, c3, c4, c5⟩ := cells6 hM.1
  simp only at c0 c1 c2 c3 c4
  clear h hM
  show Calls Try.prog 19 #[.agg #[.int .i64 kd, .int .i64 ses, .int .i64 blk, .int .i64 id, .int .i64 rsn, .slice A n c]] w _
  go_enter Try.func19, Try.ntmps19
  go_wp2_with fail
  rw [← hw1]
  clear hw1
  refine (rpcheck_any H1.out.2.1).mono ?_
  rintro e w2 ⟨rfl, hb2⟩
  have H2 := Lib.hid (H1.out.below hb2)
  clear hb2 c0 c1 c2 c3 c4 c5
  obtain ⟨c0, c1, c2, c3, c4, c5⟩ := cells6 H2.out.1
  simp only at c0 c1 c2 c3 c4
  cases hq : pkB ⟨kd, ses, blk, id, rsn, dat⟩ with
  | false =>
    rw [show pkE ⟨kd, ses, blk, id, rsn, dat⟩ = 2 from by unfold pkE; rw [hq]; rfl]
    have HN := Lib.hid (show pkS ⟨kd, ses, blk, id, rsn, dat⟩ = false from by unfold pkS; rw [hq]; rfl)
    clear hq
    go_wp2
    go_ret
    exact ⟨ret_bool (by rw [HN.out]), H2.out.2.2⟩
  | true =>
    rw [show pkE ⟨kd, ses, blk, id, rsn, dat⟩ = 0 from by unfold pkE; rw [hq]; rfl]
    have hk := (pk_fit hq).1
    simp only at hk
    have hS : pkS ⟨kd, ses, blk, id, rsn, dat⟩ = (if kd = 4 then decide (rsn < 8) else (kd == 1 || kd == 5)) := by unfold pkS; rw [hq]; rfl
    clear hq
    rcases (show kd = 1 ∨ kd = 2 ∨ kd = 3 ∨ kd = 4 ∨ kd = 5 by omega) with rfl | rfl | rfl | rfl | rfl
    all_goals have HN := Lib.hid hS
    all_goals clear hS hk
    all_goals go_wp2
    all_goals go_ret
    all_goals exact ⟨ret_bool (by rw [HN.out]; first | rfl | simp), H2.out.2.2⟩
set_option maxRecDepth 100000 in
set_option maxHeartbeats 1600000 in
theorem sameP_any {w : World} {A A' : Option Addr} {n n' c c' : Nat} {p p' : PK} (h : PA w A n c p) (h' : PA w A' n' c' p') :
    Calls Try.prog 24 #[p.v A n c, p'.v A' n' c'] w fun e w' => e = .returned (.bool (p.same p')) ∧ Below w.heap.size w w' := by
  obtain ⟨kd, ses, blk, id, rsn, dat⟩ := p
  obtain ⟨kd', ses', blk', id', rsn', dat'⟩ := p'
  obtain ⟨w1, hw1⟩ : ∃ w1, w1 = w.alloc (.cells #[.int .i64 kd, .int .i64 ses, .int .i64 blk, .int .i64 id, .int .i64 rsn, .slice A n c] 24) := ⟨_, rfl⟩
  have hb1 : Below w.heap.size w w1 := by rw [hw1]; exact (Below.refl _ _).alloc (Nat.le_refl _) _
  have hz1 : Bk w1 w.heap.size 24 [.int .i64 kd, .int .i64 ses, .int .i64 blk, .int .i64 id, .int .i64 rsn, .slice A n c] := by rw [hw1]; exact Bk.newA w _ _
  have hs1 : w1.heap.size = w.heap.size + 1 := by rw [hw1, World.size_alloc]
  obtain ⟨w2, hw2⟩ : ∃ w2, w2 = w1.alloc (.cells #[.int .i64 kd', .int .i64 ses', .int .i64 blk', .int .i64 id', .int .i64 rsn', .slice A' n' c'] 24) := ⟨_, rfl⟩
  have hb2 : Below w1.heap.size w1 w2 := by rw [hw2]; exact (Below.refl _ _).alloc (Nat.le_refl _) _
  have hz2 : Bk w2 (w.heap.size + 1) 24 [.int .i64 kd', .int .i64 ses', .int .i64 blk', .int .i64 id', .int .i64 rsn', .slice A' n' c'] := by rw [hw2, ← hs1]; exact Bk.newA w1 _ _
  obtain ⟨c0, c1, c2, c3, c4, c5⟩ := cells6 (hz1.belowS hb2)
  obtain ⟨e0, e1, e2, e3, e4, e5⟩ := cells6 hz2
  have hB := below_base hb1 hb2 hb1.size
  have H := Lib.hid (And.intro (h.below hB) (And.intro (h'.below hB) hB))
  clear h h' hb1 hz1 hb2 hz2 hB
  show Calls Try.prog 24 #[.agg #[.int .i64 kd, .int .i64 ses, .int .i64 blk, .int .i64 id, .int .i64 rsn, .slice A n c], .agg #[.int .i64 kd', .int .i64 ses', .int .i64 blk', .int .i64 id', .int .i64 rsn', .slice A' n' c']] w _
  cases x0 : (kd == kd') with
  | false =>
    go_enter Try.func24, Try.ntmps24
    go_wp2_with fail
    rw [← hw1, ← hw2]
    clear hw1 hw2 hs1
    go_wp2_with fail
    go_ret
    exact ⟨ret_bool (by simp [PK.same, x0]), H.out.2.2⟩
  | true =>
    cases x1 : (ses == ses') with
    | false =>
      go_enter Try.func24, Try.ntmps24
      go_wp2_with fail
      rw [← hw1, ← hw2]
      clear hw1 hw2 hs1
      go_wp2_with fail
      go_ret
      exact ⟨ret_bool (by simp [PK.same, x0, x1]), H.out.2.2⟩
    | true =>
      cases x2 : (blk == blk') with
      | false =>
        go_enter Try.func24, Try.ntmps24
        go_wp2_with fail
        rw [← hw1, ← hw2]
        clear hw1 hw2 hs1
        go_wp2_with fail
        go_ret
        exact ⟨ret_bool (by simp [PK.same, x0, x1, x2]), H.out.2.2⟩
      | true =>
        cases x3 : (id == id') with
        | false =>
          go_enter Try.func24, Try.ntmps24
          go_wp2_with fail
          rw [← hw1, ← hw2]
          clear hw1 hw2 hs1
          go_wp2_with fail
          go_ret
          exact ⟨ret_bool (by simp [PK.same, x0, x1, x2, x3]), H.out.2.2⟩
        | true =>
          cases x4 : (rsn == rsn') with
          | false =>
            go_enter Try.func24, Try.ntmps24
            go_wp2_with fail
            rw [← hw1, ← hw2]
            clear hw1 hw2 hs1
            go_wp2_with fail
            go_ret
            exact ⟨ret_bool (by simp [PK.same, x0, x1, x2, x3, x4]), H.out.2.2⟩
          | true =>
            go_enter Try.func24, Try.ntmps24
            go_wp2_with fail
            rw [← hw1, ← hw2]
            clear hw1 hw2 hs1
            go_wp2_with fail
            refine (same_any H.out.1.1 H.out.2.1.1).mono ?_
            rintro e w3 ⟨rfl, rfl⟩
            go_wp2
            go_ret
            exact ⟨ret_bool (by simp [PK.same, x0, x1, x2, x3, x4]), H.out.2.2⟩
end Go.Proofs.Ytpfamjgdfcnieaa
