/- Chapter 11: packet.Check. -/
import Derived.Test.YtpfamjgdfcnieaaPk11
namespace Go.Proofs.Ytpfamjgdfcnieaa
open Go.RowKit
set_option linter.unusedVariables false
def FmP (w wx : World) (A : Option Addr) (n c : Nat) (p : PK) (v : Value) : Prop := ∃ g, v = .pointer (some ⟨g, 0, none⟩) ∧ Bk wx g 48 [.bool (fmB p.kd), .bool (fmD p.kd), .int .i64 (fmR p.kd)] ∧ PB w wx A n c p
theorem fm_set {w w2 wq : World} {A : Option Addr} {n c : Nat} {p : PK} (h : PB w w2 A n c p) (hw : Below w2.heap.size w2 wq) (hb : Bk wq w2.heap.size 48 [.bool false, .bool false, .int .i64 0]) (B D : Bool) (R : Int) (e1 : fmB p.kd = B) (e2 : fmD p.kd = D) (e3 : fmR p.kd = R) :
    FmP w (((wq.setCell ⟨w2.heap.size, 0, none⟩ (.bool B)).setCell ⟨w2.heap.size, 1, none⟩ (.bool D)).setCell ⟨w2.heap.size, 2, none⟩ (.int .i64 R)) A n c p (.pointer (some ⟨w2.heap.size, 0, none⟩)) := by
  refine ⟨w2.heap.size, rfl, ?_, h.below (((hw.setCell (p := ⟨w2.heap.size, 0, none⟩) (Nat.le_refl _) _).setCell (p := ⟨w2.heap.size, 1, none⟩) (Nat.le_refl _) _).setCell (p := ⟨w2.heap.size, 2, none⟩) (Nat.le_refl _) _)⟩
  rw [e1, e2, e3]; exact ((hb.set_ 0 (.bool B)).set_ 1 (.bool D)).set_ 2 (.int .i64 R)
theorem fm_new {w wq : World} {A : Option Addr} {n c : Nat} {p : PK} (h : PB w wq A n c p) (B D : Bool) (R : Int) (e1 : fmB p.kd = B) (e2 : fmD p.kd = D) (e3 : fmR p.kd = R) :
    FmP w (wq.alloc (.cells #[.bool B, .bool D, .int .i64 R] 48)) A n c p (.pointer (some ⟨wq.heap.size, 0, none⟩)) := by
  refine ⟨wq.heap.size, rfl, ?_, h.below ((Below.refl _ _).alloc (Nat.le_refl _) _)⟩
  rw [e1, e2, e3]; exact Bk.newA wq _ _
set_option maxRecDepth 100000 in
set_option maxHeartbeats 3200000 in
theorem pcheck_any {w : World} {A : Option Addr} {n c : Nat} {p : PK} (h : PA w A n c p) :
    Calls Try.prog 14 #[p.v A n c] w fun e w' => e = .returned (.int .i64 (pkE p)) ∧ Below w.heap.size w w' := by
  obtain ⟨kd, ses, blk, id, rsn, dat⟩ := p
  obtain ⟨w1, hw1⟩ : ∃ w1, w1 = w.alloc (.cells #[.int .i64 kd, .int .i64 ses, .int .i64 blk, .int .i64 id, .int .i64 rsn, .slice A n c] 24) := ⟨_, rfl⟩
  have hM := PB.new h
  rw [← hw1] at hM
  have H1 := Lib.hid hM
  have hdl := h.2.2.2.1
  obtain ⟨c0, c1, c2, c3, c4, c5⟩ := cells6 hM.1
  simp only at c0 c1 c2 c3 c4 hdl
  clear h hM
  show Calls Try.prog 14 #[.agg #[.int .i64 kd, .int .i64 ses, .int .i64 blk, .int .i64 id, .int .i64 rsn, .slice A n c]] w _
  cases q1 : win kd 1 5 with
  | false =>
    have HE := Lib.hid (show pkE ⟨kd, ses, blk, id, rsn, dat⟩ = 2 from by unfold pkE pkB; rw [q1]; rfl)
    have HQ := Lib.hid q1
    clear q1
    go_enter Try.func14, Try.ntmps14
    go_wp2_with fail
    rw [← hw1]
    clear hw1
    go_wp2_with fail
    refine (pwithin_any kd 1 5).mono ?_
    rintro e w2 ⟨rfl, rfl⟩
    rw [HQ.out]
    go_wp2
    go_ret
    exact ⟨ret_int HE.out.symm, H1.out.2.2⟩
  | true =>
    have HQ := Lib.hid q1
    cases q2 : win ses 0 4294967295 with
    | false =>
      have HE := Lib.hid (show pkE ⟨kd, ses, blk, id, rsn, dat⟩ = 2 from by unfold pkE pkB; rw [q1, q2]; rfl)
      have HQ2 := Lib.hid q2
      clear q1 q2
      go_enter Try.func14, Try.ntmps14
      go_wp2_with fail
      rw [← hw1]
      clear hw1
      go_wp2_with fail
      refine (pwithin_any kd 1 5).mono ?_
      rintro e w2 ⟨rfl, rfl⟩
      rw [HQ.out]
      go_wp2_with fail
      refine (pwithin_any ses 0 4294967295).mono ?_
      rintro e w2 ⟨rfl, rfl⟩
      rw [HQ2.out]
      go_wp2
      go_ret
      exact ⟨ret_int HE.out.symm, H1.out.2.2⟩
    | true =>
      have HE := Lib.hid (show ∀ b, (win blk 0 (mst (fmB kd) 4294967295) && (win id 0 (mst (fmB kd && fmD kd) 4294967295) && (win dat.length (mst (fmD kd) 1) (mst (fmD kd) 65535) && win rsn (fmR kd) (fmR kd * 15)))) = b → pkE ⟨kd, ses, blk, id, rsn, dat⟩ = if b = true then 0 else 2 from fun b hb => by unfold pkE pkB; simp only; rw [q1, q2, hb]; rfl)
      have HI := Lib.hid (ixf q1)
      have HQ2 := Lib.hid q2
      clear q1 q2
      go_enter Try.func14, Try.ntmps14
      go_wp2_with fail
      rw [← hw1]
      clear hw1
      go_wp2_with fail
      refine (pwithin_any kd 1 5).mono ?_
      rintro e w2 ⟨rfl, rfl⟩
      rw [HQ.out]
      go_wp2_with fail
      refine (pwithin_any ses 0 4294967295).mono ?_
      rintro e w2 ⟨rfl, rfl⟩
      rw [HQ2.out]
      go_wp2_with fail
      obtain ⟨wz, hwz⟩ : ∃ wz, w2 = wz := ⟨_, rfl⟩
      subst hwz
      go_cut [3] (fun v wx => FmP w wx A n c ⟨kd, ses, blk, id, rsn, dat⟩ v)
      case first =>
        obtain ⟨B, hB⟩ : ∃ B, fmB kd = B := ⟨_, rfl⟩
        obtain ⟨D, hD⟩ : ∃ B, fmD kd = B := ⟨_, rfl⟩
        obtain ⟨R, hR⟩ : ∃ B, fmR kd = B := ⟨_, rfl⟩
        have hix := HI.out
        rw [hB, hD, hR] at hix
        have hne := World.new_ne w2 ⟨w.heap.size, 0, none⟩ c0
        simp only at hne
        have hne2 : w.heap.size ≠ w2.heap.size := fun e => hne e.symm
        go_region_held3 (fun w' => w'.cell? ⟨w.heap.size, 0, none⟩ = some (.int .i64 kd))
          (first | go_keep | exact c0q)
          (first
            | (go_at_call 29; refine forms_any.mono ?_; rintro e wq ⟨rfl, hbq⟩; have K1 := Lib.hid (H1.out.below (below_undrew hbq)); have c0q := K1.out.1.cell 0; clear hbq)
            | (go_at_call 29; refine forms_any.mono ?_; rintro e wq ⟨rfl, hbq⟩; have KB := Lib.hid (below_base (((Below.refl w2.heap.size w2).drew).alloc (Nat.le_refl _) _) hbq (by rw [World.size_alloc]; exact Nat.le_succ _)); have K1 := Lib.hid (H1.out.below KB.out); have c0q := K1.out.1.cell 0; have zb : Bk wq w2.heap.size 48 [.bool false, .bool false, .int .i64 0] := (Bk.newA w2.drew 48 #[.bool false, .bool false, .int .i64 0]).belowS hbq; obtain ⟨z0, z1, z2⟩ := cells3 zb; have y0 := zb.frozen 0; have y1 := zb.frozen 1; have y2 := zb.frozen 2; have KZ := Lib.hid zb; clear hbq zb))
        all_goals go_wp2_with fail
        all_goals go_meet
        all_goals first
          | exact fm_new K1.out B D R hB hD hR
          | exact fm_set H1.out KB.out KZ.out B D R hB hD hR
      case rest =>
        obtain ⟨g, rfl, hg, hM⟩ := hcut
        obtain ⟨B, hB⟩ : ∃ B, fmB kd = B := ⟨_, rfl⟩
        obtain ⟨D, hD⟩ : ∃ B, fmD kd = B := ⟨_, rfl⟩
        obtain ⟨R, hR⟩ : ∃ B, fmR kd = B := ⟨_, rfl⟩
        have hR15 : 0 ≤ R ∧ R ≤ 1 := by rw [← hR]; unfold fmR; split <;> omega
        simp only at hg
        rw [hB, hD, hR] at HE hg
        have hwR : IntKind.i64.wrap (R * 15) = R * 15 := by rw [IntKind.wrap_i64]; omega
        have hwR2 : wrap64 (R * 15) = R * 15 := by unfold wrap64; omega
        have H5 := Lib.hid (And.intro hg hM)
        obtain ⟨c0, c1, c2, c3, c4, c5⟩ := cells6 hM.1
        obtain ⟨e0, e1, e2⟩ := cells3 hg
        clear HI hB hD hR hg hM hR15
        go_wp2_with fail
        refine (most_any D 1).mono ?_
        rintro e w3 ⟨rfl, rfl⟩
        go_wp2_with fail
        obtain ⟨x1, hx1⟩ : ∃ x, win blk 0 (mst B 4294967295) = x := ⟨_, rfl⟩
        obtain ⟨x2, hx2⟩ : ∃ x, win id 0 (mst (B && D) 4294967295) = x := ⟨_, rfl⟩
        obtain ⟨x3, hx3⟩ : ∃ x, win (dat.length : Int) (mst D 1) (mst D 65535) = x := ⟨_, rfl⟩
        obtain ⟨x4, hx4⟩ : ∃ x, win rsn R (R * 15) = x := ⟨_, rfl⟩
        have HF := Lib.hid (HE.out _ rfl)
        rw [hx1, hx2, hx3, hx4] at HF
        rw [hdl] at hx3
        have HX := Lib.hid (And.intro hx1 (And.intro hx2 (And.intro hx3 hx4)))
        clear HE hx1 hx2 hx3 hx4
        cases x1 with
        | false =>
          go_quiet (first | (go_at_call 37; exact Calls.quiet_of_same (most_any _ _)) | (go_at_call_of 36 (Value.int .i64 blk); refine Calls.quiet_of_same (v := .bool false) ((pwithin_any _ _ _).mono ?_); rintro e w' ⟨rfl, rfl⟩; exact ⟨by rw [HX.out.1], rfl⟩))
          go_wp2
          go_ret
          exact ⟨ret_int (by rw [HF.out]; first | rfl | simp), below_dN H5.out.2.2.2 _⟩
        | true =>
          cases B with
          | false =>
            cases x2 with
            | false =>
              go_quiet (first | (go_at_call 37; exact Calls.quiet_of_same (most_any _ _)) | (go_at_call_of 36 (Value.int .i64 blk); refine Calls.quiet_of_same (v := .bool true) ((pwithin_any _ _ _).mono ?_); rintro e w' ⟨rfl, rfl⟩; exact ⟨by rw [HX.out.1], rfl⟩) | (go_at_call_of 36 (Value.int .i64 id); refine Calls.quiet_of_same (v := .bool false) ((pwithin_any _ _ _).mono ?_); rintro e w' ⟨rfl, rfl⟩; exact ⟨by have hh := HX.out.2.1; simp only [Bool.false_and] at hh; rw [hh], rfl⟩))
              go_wp2
              go_ret
              exact ⟨ret_int (by rw [HF.out]; first | rfl | simp), below_dN H5.out.2.2.2 _⟩
            | true =>
              cases x3 with
              | false =>
                go_quiet (first | (go_at_call 37; exact Calls.quiet_of_same (most_any _ _)) | (go_at_call_of 36 (Value.int .i64 blk); refine Calls.quiet_of_same (v := .bool true) ((pwithin_any _ _ _).mono ?_); rintro e w' ⟨rfl, rfl⟩; exact ⟨by rw [HX.out.1], rfl⟩) | (go_at_call_of 36 (Value.int .i64 id); refine Calls.quiet_of_same (v := .bool true) ((pwithin_any _ _ _).mono ?_); rintro e w' ⟨rfl, rfl⟩; exact ⟨by have hh := HX.out.2.1; simp only [Bool.false_and] at hh; rw [hh], rfl⟩) | (go_at_call_of 36 (Value.int .i64 (n : Int)); refine Calls.quiet_of_same (v := .bool false) ((pwithin_any _ _ _).mono ?_); rintro e w' ⟨rfl, rfl⟩; exact ⟨by rw [HX.out.2.2.1], rfl⟩))
                go_wp2
                go_ret
                exact ⟨ret_int (by rw [HF.out]; first | rfl | simp), below_dN H5.out.2.2.2 _⟩
              | true =>
                cases x4 with
                | false =>
                  go_quiet (first | (go_at_call 37; exact Calls.quiet_of_same (most_any _ _)) | (go_at_call_of 36 (Value.int .i64 blk); refine Calls.quiet_of_same (v := .bool true) ((pwithin_any _ _ _).mono ?_); rintro e w' ⟨rfl, rfl⟩; exact ⟨by rw [HX.out.1], rfl⟩) | (go_at_call_of 36 (Value.int .i64 id); refine Calls.quiet_of_same (v := .bool true) ((pwithin_any _ _ _).mono ?_); rintro e w' ⟨rfl, rfl⟩; exact ⟨by have hh := HX.out.2.1; simp only [Bool.false_and] at hh; rw [hh], rfl⟩) | (go_at_call_of 36 (Value.int .i64 (n : Int)); refine Calls.quiet_of_same (v := .bool true) ((pwithin_any _ _ _).mono ?_); rintro e w' ⟨rfl, rfl⟩; exact ⟨by rw [HX.out.2.2.1], rfl⟩) | (go_at_call_of 36 (Value.int .i64 rsn); refine Calls.quiet_of_same (v := .bool false) ((pwithin_any _ _ _).mono ?_); rintro e w' ⟨rfl, rfl⟩; exact ⟨by rw [HX.out.2.2.2], rfl⟩))
                  go_wp2
                  go_ret
                  exact ⟨ret_int (by rw [HF.out]; first | rfl | simp), below_dN H5.out.2.2.2 _⟩
                | true =>
                  go_quiet (first | (go_at_call 37; exact Calls.quiet_of_same (most_any _ _)) | (go_at_call_of 36 (Value.int .i64 blk); refine Calls.quiet_of_same (v := .bool true) ((pwithin_any _ _ _).mono ?_); rintro e w' ⟨rfl, rfl⟩; exact ⟨by rw [HX.out.1], rfl⟩) | (go_at_call_of 36 (Value.int .i64 id); refine Calls.quiet_of_same (v := .bool true) ((pwithin_any _ _ _).mono ?_); rintro e w' ⟨rfl, rfl⟩; exact ⟨by have hh := HX.out.2.1; simp only [Bool.false_and] at hh; rw [hh], rfl⟩) | (go_at_call_of 36 (Value.int .i64 (n : Int)); refine Calls.quiet_of_same (v := .bool true) ((pwithin_any _ _ _).mono ?_); rintro e w' ⟨rfl, rfl⟩; exact ⟨by rw [HX.out.2.2.1], rfl⟩) | (go_at_call_of 36 (Value.int .i64 rsn); refine Calls.quiet_of_same (v := .bool true) ((pwithin_any _ _ _).mono ?_); rintro e w' ⟨rfl, rfl⟩; exact ⟨by rw [HX.out.2.2.2], rfl⟩))
                  go_wp2
                  go_ret
                  exact ⟨ret_int (by rw [HF.out]; first | rfl | simp), below_dN H5.out.2.2.2 _⟩
          | true =>
            cases x2 with
            | false =>
              go_quiet (first | (go_at_call 37; exact Calls.quiet_of_same (most_any _ _)) | (go_at_call_of 36 (Value.int .i64 blk); refine Calls.quiet_of_same (v := .bool true) ((pwithin_any _ _ _).mono ?_); rintro e w' ⟨rfl, rfl⟩; exact ⟨by rw [HX.out.1], rfl⟩) | (go_at_call_of 36 (Value.int .i64 id); refine Calls.quiet_of_same (v := .bool false) ((pwithin_any _ _ _).mono ?_); rintro e w' ⟨rfl, rfl⟩; exact ⟨by have hh := HX.out.2.1; simp only [Bool.true_and] at hh; rw [hh], rfl⟩))
              go_wp2
              go_ret
              exact ⟨ret_int (by rw [HF.out]; first | rfl | simp), below_dN H5.out.2.2.2 _⟩
            | true =>
              cases x3 with
              | false =>
                go_quiet (first | (go_at_call 37; exact Calls.quiet_of_same (most_any _ _)) | (go_at_call_of 36 (Value.int .i64 blk); refine Calls.quiet_of_same (v := .bool true) ((pwithin_any _ _ _).mono ?_); rintro e w' ⟨rfl, rfl⟩; exact ⟨by rw [HX.out.1], rfl⟩) | (go_at_call_of 36 (Value.int .i64 id); refine Calls.quiet_of_same (v := .bool true) ((pwithin_any _ _ _).mono ?_); rintro e w' ⟨rfl, rfl⟩; exact ⟨by have hh := HX.out.2.1; simp only [Bool.true_and] at hh; rw [hh], rfl⟩) | (go_at_call_of 36 (Value.int .i64 (n : Int)); refine Calls.quiet_of_same (v := .bool false) ((pwithin_any _ _ _).mono ?_); rintro e w' ⟨rfl, rfl⟩; exact ⟨by rw [HX.out.2.2.1], rfl⟩))
                go_wp2
                go_ret
                exact ⟨ret_int (by rw [HF.out]; first | rfl | simp), below_dN H5.out.2.2.2 _⟩
              | true =>
                cases x4 with
                | false =>
                  go_quiet (first | (go_at_call 37; exact Calls.quiet_of_same (most_any _ _)) | (go_at_call_of 36 (Value.int .i64 blk); refine Calls.quiet_of_same (v := .bool true) ((pwithin_any _ _ _).mono ?_); rintro e w' ⟨rfl, rfl⟩; exact ⟨by rw [HX.out.1], rfl⟩) | (go_at_call_of 36 (Value.int .i64 id); refine Calls.quiet_of_same (v := .bool true) ((pwithin_any _ _ _).mono ?_); rintro e w' ⟨rfl, rfl⟩; exact ⟨by have hh := HX.out.2.1; simp only [Bool.true_and] at hh; rw [hh], rfl⟩) | (go_at_call_of 36 (Value.int .i64 (n : Int)); refine Calls.quiet_of_same (v := .bool true) ((pwithin_any _ _ _).mono ?_); rintro e w' ⟨rfl, rfl⟩; exact ⟨by rw [HX.out.2.2.1], rfl⟩) | (go_at_call_of 36 (Value.int .i64 rsn); refine Calls.quiet_of_same (v := .bool false) ((pwithin_any _ _ _).mono ?_); rintro e w' ⟨rfl, rfl⟩; exact ⟨by rw [HX.out.2.2.2], rfl⟩))
                  go_wp2
                  go_ret
                  exact ⟨ret_int (by rw [HF.out]; first | rfl | simp), below_dN H5.out.2.2.2 _⟩
                | true =>
                  go_quiet (first | (go_at_call 37; exact Calls.quiet_of_same (most_any _ _)) | (go_at_call_of 36 (Value.int .i64 blk); refine Calls.quiet_of_same (v := .bool true) ((pwithin_any _ _ _).mono ?_); rintro e w' ⟨rfl, rfl⟩; exact ⟨by rw [HX.out.1], rfl⟩) | (go_at_call_of 36 (Value.int .i64 id); refine Calls.quiet_of_same (v := .bool true) ((pwithin_any _ _ _).mono ?_); rintro e w' ⟨rfl, rfl⟩; exact ⟨by have hh := HX.out.2.1; simp only [Bool.true_and] at hh; rw [hh], rfl⟩) | (go_at_call_of 36 (Value.int .i64 (n : Int)); refine Calls.quiet_of_same (v := .bool true) ((pwithin_any _ _ _).mono ?_); rintro e w' ⟨rfl, rfl⟩; exact ⟨by rw [HX.out.2.2.1], rfl⟩) | (go_at_call_of 36 (Value.int .i64 rsn); refine Calls.quiet_of_same (v := .bool true) ((pwithin_any _ _ _).mono ?_); rintro e w' ⟨rfl, rfl⟩; exact ⟨by rw [HX.out.2.2.2], rfl⟩))
                  go_wp2
                  go_ret
                  exact ⟨ret_int (by rw [HF.out]; first | rfl | simp), below_dN H5.out.2.2.2 _⟩
end Go.Proofs.Ytpfamjgdfcnieaa
