/- Chapter 11: packet.Put. -/
import Derived.Test.YtpfamjgdfcnieaaPc11
import Derived.Test.YtpfamjgdfcnieaaWk10
namespace Go.Proofs.Ytpfamjgdfcnieaa
open Go.RowKit
set_option linter.unusedVariables false
/-- A packet's bytes, ahead of the sum. -/
def pkBody (p : PK) : List UInt8 := bebs 1 p.kd ++ bebs 4 p.ses ++ (if fmB p.kd then bebs 4 p.blk else []) ++ (if fmB p.kd && fmD p.kd then bebs 4 p.id else []) ++ (if 0 < fmR p.kd then bebs 1 p.rsn else []) ++ p.dat
def pkV (p : PK) : List UInt8 := if pkB p then crcSeal tableL (pkBody p) else []
/-- What a Put tells: bytes in new memory, or none. -/
def PtPost (w : World) (V : List UInt8) (E : Int) (e : Ending) (w' : World) : Prop :=
  ∃ A c g, e = .returned (.tuple #[.slice A V.length c, .int .i64 E]) ∧ V.length ≤ c ∧ Mut w' A V.length g 0 (bys V) ∧ w.heap.size ≤ g ∧ Below w.heap.size w w'
theorem mut_nil (w : World) (g : Nat) : Mut w none 0 g 0 (bys []) := ⟨rfl, fun h => absurd h (Nat.lt_irrefl _)⟩
theorem pk_fit {p : PK} (h : pkB p = true) : (1 ≤ p.kd ∧ p.kd ≤ 5) ∧ (0 ≤ p.ses ∧ p.ses ≤ 4294967295) ∧ (0 ≤ p.blk ∧ p.blk ≤ 4294967295) ∧ (0 ≤ p.id ∧ p.id ≤ 4294967295) ∧ (0 ≤ p.rsn ∧ p.rsn ≤ 15) ∧ p.dat.length ≤ 65535 := by
  unfold pkB at h
  simp only [Bool.and_eq_true, win_iff] at h
  obtain ⟨⟨h1, h2⟩, h3, h4, h5, h6⟩ := h
  have m1 : ∀ (b : Bool) (n : Int), 0 ≤ n → mst b n ≤ n := fun b n hn => by unfold mst; split <;> omega
  have m0 : ∀ (b : Bool) (n : Int), 0 ≤ n → 0 ≤ mst b n := fun b n hn => by unfold mst; split <;> omega
  have e1 := m1 (fmB p.kd) 4294967295 (by omega)
  have e2 := m1 (fmB p.kd && fmD p.kd) 4294967295 (by omega)
  have e3 := m1 (fmD p.kd) 65535 (by omega)
  have e5 : 0 ≤ fmR p.kd ∧ fmR p.kd ≤ 1 := by unfold fmR; split <;> omega
  omega
theorem body_len {p : PK} : (pkBody p).length ≤ p.dat.length + 14 := by
  unfold pkBody
  simp only [List.length_append, bebs_length]
  split <;> split <;> split <;> simp only [bebs_length, List.length_nil] <;> omega
/-- The form of a kind, in new memory. -/
def FmQ (w2 wx : World) (kd : Int) (v : Value) : Prop := ∃ g, v = .pointer (some ⟨g, 0, none⟩) ∧ Bk wx g 48 [.bool (fmB kd), .bool (fmD kd), .int .i64 (fmR kd)] ∧ w2.heap.size ≤ g ∧ Below w2.heap.size w2 wx
theorem fq_set {w2 wq : World} {kd : Int} (hw : Below w2.heap.size w2 wq) (hb : Bk wq w2.heap.size 48 [.bool false, .bool false, .int .i64 0]) (B D : Bool) (R : Int) (e1 : fmB kd = B) (e2 : fmD kd = D) (e3 : fmR kd = R) :
    FmQ w2 (((wq.setCell ⟨w2.heap.size, 0, none⟩ (.bool B)).setCell ⟨w2.heap.size, 1, none⟩ (.bool D)).setCell ⟨w2.heap.size, 2, none⟩ (.int .i64 R)) kd (.pointer (some ⟨w2.heap.size, 0, none⟩)) := by
  refine ⟨w2.heap.size, rfl, ?_, Nat.le_refl _, (((hw.setCell (p := ⟨w2.heap.size, 0, none⟩) (Nat.le_refl _) _).setCell (p := ⟨w2.heap.size, 1, none⟩) (Nat.le_refl _) _).setCell (p := ⟨w2.heap.size, 2, none⟩) (Nat.le_refl _) _)⟩
  rw [e1, e2, e3]; exact ((hb.set_ 0 (.bool B)).set_ 1 (.bool D)).set_ 2 (.int .i64 R)
theorem fq_new {w2 wq : World} {kd : Int} (h : Below w2.heap.size w2 wq) (B D : Bool) (R : Int) (e1 : fmB kd = B) (e2 : fmD kd = D) (e3 : fmR kd = R) :
    FmQ w2 (wq.alloc (.cells #[.bool B, .bool D, .int .i64 R] 48)) kd (.pointer (some ⟨wq.heap.size, 0, none⟩)) := by
  refine ⟨wq.heap.size, rfl, ?_, h.size, h.alloc h.size _⟩
  rw [e1, e2, e3]; exact Bk.newA wq _ _
/-- A writer beside a form and older memory. -/
def WF (w1 wx : World) (P : Nat) (A : Option Addr) (c : Nat) (b : List UInt8) (G : Nat) (kd : Int) : Prop := WrK w1 wx P A c ⟨100000, b, 0⟩ G 48 [.bool (fmB kd), .bool (fmD kd), .int .i64 (fmR kd)]
theorem WF.below {w1 wx wy : World} {P : Nat} {A : Option Addr} {c : Nat} {b : List UInt8} {G : Nat} {kd : Int} (h : WF w1 wx P A c b G kd) (hb : Below wx.heap.size wx wy) : WF w1 wy P A c b G kd := WrK.below h hb
/-- One more number is put. -/
theorem WF.put {w1 wx : World} {P : Nat} {A : Option Addr} {c : Nat} {b : List UInt8} {G : Nat} {kd : Int} (h : WF w1 wx P A c b G kd) {wd : Nat} {n : Int} (hw : wid (wd : Int) = true) (h0 : 0 ≤ n) (h1 : n < 2 ^ (8 * wd)) (h2 : n ≤ 4294967295) (hM : (b.length : Int) + wd ≤ 100000) :
    Calls Try.prog 30 #[.pointer (some ⟨P, 0, none⟩), .int .i64 (wd : Int), .int .i64 n] wx fun e w' => e = .returned (.int .i64 0) ∧ ∃ A' c', WF w1 w' P A' c' (b ++ bebs wd n) G kd := by
  refine (putW_any h.1.1 (wide := (wd : Int)) (n := n) ⟨by omega, by omega⟩).mono fun e w' hl => ?_
  rw [put_ok hw h0 h1 hM] at hl
  exact WrK.step h hl
theorem WF.raw {w1 wx : World} {P : Nat} {A : Option Addr} {c : Nat} {b : List UInt8} {G : Nat} {kd : Int} (h : WF w1 wx P A c b G kd) {B : Option Addr} {n d : Nat} {l : List UInt8} (hr : Rd wx B n (bys l)) (hn : l.length = n) (hM : b.length + n ≤ 100000) :
    Calls Try.prog 31 #[.pointer (some ⟨P, 0, none⟩), .slice B n d] wx fun e w' => e = .returned (.int .i64 0) ∧ ∃ A' c', WF w1 w' P A' c' (b ++ l) G kd := by
  refine (rawW_any h.1.1 hr (by omega)).mono fun e w' hl => ?_
  have e1 : (⟨100000, b, 0⟩ : WS).raw l = ⟨100000, b ++ l, 0⟩ := by
    unfold WS.raw WS.lay
    rw [if_neg (by simp), if_neg (by simp only; omega)]
  rw [e1] at hl
  exact WrK.step h hl
set_option maxRecDepth 100000 in
set_option maxHeartbeats 6400000 in
theorem pput_any {w : World} {A : Option Addr} {n c : Nat} {p : PK} (h : PA w A n c p) :
    Calls Try.prog 11 #[p.v A n c] w (PtPost w (pkV p) (pkE p)) := by
  obtain ⟨kd, ses, blk, id, rsn, dat⟩ := p
  obtain ⟨w1, hw1⟩ : ∃ w1, w1 = w.alloc (.cells #[.int .i64 kd, .int .i64 ses, .int .i64 blk, .int .i64 id, .int .i64 rsn, .slice A n c] 24) := ⟨_, rfl⟩
  have hM := PB.new h
  rw [← hw1] at hM
  have H1 := Lib.hid hM
  have HD := Lib.hid h.2.2.2.1
  obtain ⟨c0, c1, c2, c3, c4, c5⟩ := cells6 hM.1
  simp only at c0 c1 c2 c3 c4
  clear h hM
  show Calls Try.prog 11 #[.agg #[.int .i64 kd, .int .i64 ses, .int .i64 blk, .int .i64 id, .int .i64 rsn, .slice A n c]] w _
  go_enter Try.func11, Try.ntmps11
  go_wp2_with fail
  rw [← hw1]
  clear hw1
  refine (pcheck_any H1.out.2.1).mono ?_
  rintro e w2 ⟨rfl, hb2⟩
  have H2 := Lib.hid (H1.out.below hb2)
  clear hb2 c0 c1 c2 c3 c4 c5
  cases hq : pkB ⟨kd, ses, blk, id, rsn, dat⟩ with
  | false =>
    have hE : pkE ⟨kd, ses, blk, id, rsn, dat⟩ = 2 := by unfold pkE; rw [hq]; rfl
    have HN := Lib.hid (And.intro (show pkV ⟨kd, ses, blk, id, rsn, dat⟩ = [] from by unfold pkV; rw [hq]; rfl) hE)
    rw [hE]
    clear hq hE
    go_wp2
    go_ret2
    rw [HN.out.1, HN.out.2]
    exact ⟨none, 0, w.heap.size, rfl, Nat.le_refl _, mut_nil _ _, Nat.le_refl _, H2.out.2.2⟩
  | true =>
    have hE : pkE ⟨kd, ses, blk, id, rsn, dat⟩ = 0 := by unfold pkE; rw [hq]; rfl
    have HN := Lib.hid (And.intro (show pkV ⟨kd, ses, blk, id, rsn, dat⟩ = crcSeal tableL (pkBody ⟨kd, ses, blk, id, rsn, dat⟩) from by unfold pkV; rw [hq]; rfl) hE)
    rw [hE]
    have HF := Lib.hid (pk_fit hq)
    have HI := Lib.hid (ixf (win_iff.2 (pk_fit hq).1))
    have HL := Lib.hid (body_len (p := ⟨kd, ses, blk, id, rsn, dat⟩))
    clear hq hE
    go_wp2_with fail
    refine (newW_any _).mono ?_
    intro e w3 hNw
    unfold NwPost at hNw
    rw [if_neg (by omega)] at hNw
    obtain ⟨P, rfl, hwo, hP, hb3⟩ := hNw
    have H3 := Lib.hid (And.intro (show WrS w2 w3 P none 0 ⟨100000, [], 0⟩ from ⟨hwo, hP, hb3⟩) (H2.out.below hb3))
    clear hwo hP hb3
    obtain ⟨c0, c1, c2, c3, c4, c5⟩ := cells6 H3.out.2.1
    simp only at c0 c1 c2 c3 c4
    go_wp2_with fail
    go_cut [6] (fun v wx => FmQ w3 wx kd v)
    case first =>
      obtain ⟨B, hB⟩ : ∃ B, fmB kd = B := ⟨_, rfl⟩
      obtain ⟨D, hD⟩ : ∃ B, fmD kd = B := ⟨_, rfl⟩
      obtain ⟨R, hR⟩ : ∃ B, fmR kd = B := ⟨_, rfl⟩
      have hix := HI.out
      rw [hB, hD, hR] at hix
      have hne := World.new_ne w3 ⟨w.heap.size, 0, none⟩ c0
      simp only at hne
      have hne2 : w.heap.size ≠ w3.heap.size := fun e => hne e.symm
      go_region_held3 (fun w' => w'.cell? ⟨w.heap.size, 0, none⟩ = some (.int .i64 kd))
        (first | go_keep | exact c0q)
        (first
          | (go_at_call 29; refine forms_any.mono ?_; rintro e wq ⟨rfl, hbq⟩; have K1 := Lib.hid (below_undrew hbq); have c0q := (H3.out.2.below K1.out).1.cell 0; clear hbq)
          | (go_at_call 29; refine forms_any.mono ?_; rintro e wq ⟨rfl, hbq⟩; have K1 := Lib.hid (below_base (((Below.refl w3.heap.size w3).drew).alloc (Nat.le_refl _) _) hbq (by rw [World.size_alloc]; exact Nat.le_succ _)); have c0q := (H3.out.2.below K1.out).1.cell 0; have zb : Bk wq w3.heap.size 48 [.bool false, .bool false, .int .i64 0] := (Bk.newA w3.drew 48 #[.bool false, .bool false, .int .i64 0]).belowS hbq; obtain ⟨z0, z1, z2⟩ := cells3 zb; have y0 := zb.frozen 0; have y1 := zb.frozen 1; have y2 := zb.frozen 2; have KZ := Lib.hid zb; clear hbq zb))
      all_goals go_wp2_with fail
      all_goals go_meet
      all_goals first
        | exact fq_new K1.out B D R hB hD hR
        | exact fq_set K1.out KZ.out B D R hB hD hR
    case rest =>
      obtain ⟨G, rfl, hg, hGs, hb4⟩ := hcut
      have H4 := Lib.hid (And.intro (show WF w2 _ P none 0 [] G kd from ⟨H3.out.1.below hb4, hg, wset_new (w := w3) H3.out.1.1 hGs⟩) (H3.out.2.below hb4))
      clear c0 c1 c2 c3 c4 c5 hg hGs hb4 HI
      rcases (show kd = 1 ∨ kd = 2 ∨ kd = 3 ∨ kd = 4 ∨ kd = 5 by have := HF.out.1; (try simp only at this); omega) with rfl | rfl | rfl | rfl | rfl
      · obtain ⟨c0, c1, c2, c3, c4, c5⟩ := cells6 H4.out.2.1
        simp only at c0 c1 c2 c3 c4
        obtain ⟨f0, f1, f2⟩ := cells3 H4.out.1.2.1
        have e0 := f0.trans (show some (Value.bool (fmB 1)) = some (.bool true) from rfl)
        have e1 := f1.trans (show some (Value.bool (fmD 1)) = some (.bool true) from rfl)
        have e2 := f2.trans (show some (Value.int .i64 (fmR 1)) = some (.int .i64 0) from rfl)
        clear f0 f1 f2
        go_wp2_with fail
        refine (H4.out.1.put (wd := 1) (n := 1) (by decide) (by have := HF.out; (try simp only at this); omega) (by have := HF.out; (try simp only at this); omega) (by have := HF.out; (try simp only at this); omega) (by decide)).mono ?_
        rintro e x0 ⟨rfl, A0, d0, hW⟩
        have K1 := Lib.hid (And.intro hW (H2.out.below hW.1.2.2))
        clear hW c0 c1 c2 c3 c4 c5 e0 e1 e2
        obtain ⟨c0, c1, c2, c3, c4, c5⟩ := cells6 K1.out.2.1
        simp only at c0 c1 c2 c3 c4
        obtain ⟨f0, f1, f2⟩ := cells3 K1.out.1.2.1
        have e0 := f0.trans (show some (Value.bool (fmB 1)) = some (.bool true) from rfl)
        have e1 := f1.trans (show some (Value.bool (fmD 1)) = some (.bool true) from rfl)
        have e2 := f2.trans (show some (Value.int .i64 (fmR 1)) = some (.int .i64 0) from rfl)
        clear f0 f1 f2
        go_wp2_with fail
        refine (K1.out.1.put (wd := 4) (n := ses) (by decide) (by have := HF.out; (try simp only at this); omega) (by have := HF.out; (try simp only at this); omega) (by have := HF.out; (try simp only at this); omega) (by simp only [List.length_append, bebs_length, List.length_nil]; omega)).mono ?_
        rintro e x1 ⟨rfl, A1, d1, hW⟩
        have K2 := Lib.hid (And.intro hW (H2.out.below hW.1.2.2))
        clear hW c0 c1 c2 c3 c4 c5 e0 e1 e2
        obtain ⟨c0, c1, c2, c3, c4, c5⟩ := cells6 K2.out.2.1
        simp only at c0 c1 c2 c3 c4
        obtain ⟨f0, f1, f2⟩ := cells3 K2.out.1.2.1
        have e0 := f0.trans (show some (Value.bool (fmB 1)) = some (.bool true) from rfl)
        have e1 := f1.trans (show some (Value.bool (fmD 1)) = some (.bool true) from rfl)
        have e2 := f2.trans (show some (Value.int .i64 (fmR 1)) = some (.int .i64 0) from rfl)
        clear f0 f1 f2
        go_wp2_with fail
        refine (K2.out.1.put (wd := 4) (n := blk) (by decide) (by have := HF.out; (try simp only at this); omega) (by have := HF.out; (try simp only at this); omega) (by have := HF.out; (try simp only at this); omega) (by simp only [List.length_append, bebs_length, List.length_nil]; omega)).mono ?_
        rintro e x2 ⟨rfl, A2, d2, hW⟩
        have K3 := Lib.hid (And.intro hW (H2.out.below hW.1.2.2))
        clear hW c0 c1 c2 c3 c4 c5 e0 e1 e2
        obtain ⟨c0, c1, c2, c3, c4, c5⟩ := cells6 K3.out.2.1
        simp only at c0 c1 c2 c3 c4
        obtain ⟨f0, f1, f2⟩ := cells3 K3.out.1.2.1
        have e0 := f0.trans (show some (Value.bool (fmB 1)) = some (.bool true) from rfl)
        have e1 := f1.trans (show some (Value.bool (fmD 1)) = some (.bool true) from rfl)
        have e2 := f2.trans (show some (Value.int .i64 (fmR 1)) = some (.int .i64 0) from rfl)
        clear f0 f1 f2
        go_wp2_with fail
        refine (K3.out.1.put (wd := 4) (n := id) (by decide) (by have := HF.out; (try simp only at this); omega) (by have := HF.out; (try simp only at this); omega) (by have := HF.out; (try simp only at this); omega) (by simp only [List.length_append, bebs_length, List.length_nil]; omega)).mono ?_
        rintro e x3 ⟨rfl, A3, d3, hW⟩
        have K4 := Lib.hid (And.intro hW (H2.out.below hW.1.2.2))
        clear hW c0 c1 c2 c3 c4 c5 e0 e1 e2
        obtain ⟨c0, c1, c2, c3, c4, c5⟩ := cells6 K4.out.2.1
        simp only at c0 c1 c2 c3 c4
        obtain ⟨f0, f1, f2⟩ := cells3 K4.out.1.2.1
        have e0 := f0.trans (show some (Value.bool (fmB 1)) = some (.bool true) from rfl)
        have e1 := f1.trans (show some (Value.bool (fmD 1)) = some (.bool true) from rfl)
        have e2 := f2.trans (show some (Value.int .i64 (fmR 1)) = some (.int .i64 0) from rfl)
        clear f0 f1 f2
        go_wp2_with fail
        refine (K4.out.1.raw (d := c) K4.out.2.2.1.1 HD.out (by have := HF.out; have := HD.out; simp only [List.length_append, bebs_length, List.length_nil]; (try simp only at *); omega)).mono ?_
        rintro e y1 ⟨rfl, A7, d7, hW⟩
        have J1 := Lib.hid (And.intro hW (H2.out.below hW.1.2.2))
        clear hW c0 c1 c2 c3 c4 c5 e0 e1 e2
        go_wp2_with fail
        refine (bytesW_any J1.out.1.1.1).mono ?_
        rintro e y2 ⟨v8, rfl, ho8, hb8⟩
        obtain ⟨Y, hY⟩ : ∃ Y, ([] ++ bebs 1 1 ++ bebs 4 ses ++ bebs 4 blk ++ bebs 4 id ++ dat : List UInt8) = Y := ⟨_, rfl⟩
        have hYb : pkBody ⟨1, ses, blk, id, rsn, dat⟩ = Y := by rw [← hY]; simp [pkBody, fmB, fmD, fmR]
        rw [hY] at ho8
        rw [show (⟨100000, Y, 0⟩ : WS).out = Y from rfl] at ho8
        obtain ⟨A8, d8, rfl, hd8, _⟩ := own_form ho8
        have J2 := Lib.hid (And.intro (Rd.of_own ho8) (And.intro (J1.out.2.below hb8) hYb))
        have hYn : Y.length ≤ 65549 := by rw [← hYb]; have := HL.out; have := HF.out; (try simp only at *); omega
        clear ho8 hb8 hd8 hY hYb
        go_wp2_with fail
        refine (crcSeal_any (t := tableL) (.inl ⟨rfl, rfl⟩) J2.out.1 (by omega)).mono ?_
        rintro e y3 ⟨A9, d9, g9, rfl, hd9, hm9, hg9, hb9⟩
        have J3 := Lib.hid (And.intro hm9 (And.intro hd9 (And.intro hg9 hb9)))
        clear hm9 hd9 hg9 hb9
        go_wp2
        go_ret2
        rw [HN.out.1, HN.out.2, J2.out.2.2]
        refine ⟨A9, d9, g9, by rw [seal_length]; rfl, by rw [seal_length]; exact J3.out.2.1, by rw [seal_length]; exact J3.out.1, Nat.le_trans J2.out.2.1.2.2.size J3.out.2.2.1, below_base J2.out.2.1.2.2 J3.out.2.2.2 J2.out.2.1.2.2.size⟩
      · obtain ⟨c0, c1, c2, c3, c4, c5⟩ := cells6 H4.out.2.1
        simp only at c0 c1 c2 c3 c4
        obtain ⟨f0, f1, f2⟩ := cells3 H4.out.1.2.1
        have e0 := f0.trans (show some (Value.bool (fmB 2)) = some (.bool true) from rfl)
        have e1 := f1.trans (show some (Value.bool (fmD 2)) = some (.bool false) from rfl)
        have e2 := f2.trans (show some (Value.int .i64 (fmR 2)) = some (.int .i64 0) from rfl)
        clear f0 f1 f2
        go_wp2_with fail
        refine (H4.out.1.put (wd := 1) (n := 2) (by decide) (by have := HF.out; (try simp only at this); omega) (by have := HF.out; (try simp only at this); omega) (by have := HF.out; (try simp only at this); omega) (by decide)).mono ?_
        rintro e x0 ⟨rfl, A0, d0, hW⟩
        have K1 := Lib.hid (And.intro hW (H2.out.below hW.1.2.2))
        clear hW c0 c1 c2 c3 c4 c5 e0 e1 e2
        obtain ⟨c0, c1, c2, c3, c4, c5⟩ := cells6 K1.out.2.1
        simp only at c0 c1 c2 c3 c4
        obtain ⟨f0, f1, f2⟩ := cells3 K1.out.1.2.1
        have e0 := f0.trans (show some (Value.bool (fmB 2)) = some (.bool true) from rfl)
        have e1 := f1.trans (show some (Value.bool (fmD 2)) = some (.bool false) from rfl)
        have e2 := f2.trans (show some (Value.int .i64 (fmR 2)) = some (.int .i64 0) from rfl)
        clear f0 f1 f2
        go_wp2_with fail
        refine (K1.out.1.put (wd := 4) (n := ses) (by decide) (by have := HF.out; (try simp only at this); omega) (by have := HF.out; (try simp only at this); omega) (by have := HF.out; (try simp only at this); omega) (by simp only [List.length_append, bebs_length, List.length_nil]; omega)).mono ?_
        rintro e x1 ⟨rfl, A1, d1, hW⟩
        have K2 := Lib.hid (And.intro hW (H2.out.below hW.1.2.2))
        clear hW c0 c1 c2 c3 c4 c5 e0 e1 e2
        obtain ⟨c0, c1, c2, c3, c4, c5⟩ := cells6 K2.out.2.1
        simp only at c0 c1 c2 c3 c4
        obtain ⟨f0, f1, f2⟩ := cells3 K2.out.1.2.1
        have e0 := f0.trans (show some (Value.bool (fmB 2)) = some (.bool true) from rfl)
        have e1 := f1.trans (show some (Value.bool (fmD 2)) = some (.bool false) from rfl)
        have e2 := f2.trans (show some (Value.int .i64 (fmR 2)) = some (.int .i64 0) from rfl)
        clear f0 f1 f2
        go_wp2_with fail
        refine (K2.out.1.put (wd := 4) (n := blk) (by decide) (by have := HF.out; (try simp only at this); omega) (by have := HF.out; (try simp only at this); omega) (by have := HF.out; (try simp only at this); omega) (by simp only [List.length_append, bebs_length, List.length_nil]; omega)).mono ?_
        rintro e x2 ⟨rfl, A2, d2, hW⟩
        have K3 := Lib.hid (And.intro hW (H2.out.below hW.1.2.2))
        clear hW c0 c1 c2 c3 c4 c5 e0 e1 e2
        obtain ⟨c0, c1, c2, c3, c4, c5⟩ := cells6 K3.out.2.1
        simp only at c0 c1 c2 c3 c4
        obtain ⟨f0, f1, f2⟩ := cells3 K3.out.1.2.1
        have e0 := f0.trans (show some (Value.bool (fmB 2)) = some (.bool true) from rfl)
        have e1 := f1.trans (show some (Value.bool (fmD 2)) = some (.bool false) from rfl)
        have e2 := f2.trans (show some (Value.int .i64 (fmR 2)) = some (.int .i64 0) from rfl)
        clear f0 f1 f2
        go_wp2_with fail
        refine (K3.out.1.raw (d := c) K3.out.2.2.1.1 HD.out (by have := HF.out; have := HD.out; simp only [List.length_append, bebs_length, List.length_nil]; (try simp only at *); omega)).mono ?_
        rintro e y1 ⟨rfl, A7, d7, hW⟩
        have J1 := Lib.hid (And.intro hW (H2.out.below hW.1.2.2))
        clear hW c0 c1 c2 c3 c4 c5 e0 e1 e2
        go_wp2_with fail
        refine (bytesW_any J1.out.1.1.1).mono ?_
        rintro e y2 ⟨v8, rfl, ho8, hb8⟩
        obtain ⟨Y, hY⟩ : ∃ Y, ([] ++ bebs 1 2 ++ bebs 4 ses ++ bebs 4 blk ++ dat : List UInt8) = Y := ⟨_, rfl⟩
        have hYb : pkBody ⟨2, ses, blk, id, rsn, dat⟩ = Y := by rw [← hY]; simp [pkBody, fmB, fmD, fmR]
        rw [hY] at ho8
        rw [show (⟨100000, Y, 0⟩ : WS).out = Y from rfl] at ho8
        obtain ⟨A8, d8, rfl, hd8, _⟩ := own_form ho8
        have J2 := Lib.hid (And.intro (Rd.of_own ho8) (And.intro (J1.out.2.below hb8) hYb))
        have hYn : Y.length ≤ 65549 := by rw [← hYb]; have := HL.out; have := HF.out; (try simp only at *); omega
        clear ho8 hb8 hd8 hY hYb
        go_wp2_with fail
        refine (crcSeal_any (t := tableL) (.inl ⟨rfl, rfl⟩) J2.out.1 (by omega)).mono ?_
        rintro e y3 ⟨A9, d9, g9, rfl, hd9, hm9, hg9, hb9⟩
        have J3 := Lib.hid (And.intro hm9 (And.intro hd9 (And.intro hg9 hb9)))
        clear hm9 hd9 hg9 hb9
        go_wp2
        go_ret2
        rw [HN.out.1, HN.out.2, J2.out.2.2]
        refine ⟨A9, d9, g9, by rw [seal_length]; rfl, by rw [seal_length]; exact J3.out.2.1, by rw [seal_length]; exact J3.out.1, Nat.le_trans J2.out.2.1.2.2.size J3.out.2.2.1, below_base J2.out.2.1.2.2 J3.out.2.2.2 J2.out.2.1.2.2.size⟩
      · obtain ⟨c0, c1, c2, c3, c4, c5⟩ := cells6 H4.out.2.1
        simp only at c0 c1 c2 c3 c4
        obtain ⟨f0, f1, f2⟩ := cells3 H4.out.1.2.1
        have e0 := f0.trans (show some (Value.bool (fmB 3)) = some (.bool false) from rfl)
        have e1 := f1.trans (show some (Value.bool (fmD 3)) = some (.bool false) from rfl)
        have e2 := f2.trans (show some (Value.int .i64 (fmR 3)) = some (.int .i64 0) from rfl)
        clear f0 f1 f2
        go_wp2_with fail
        refine (H4.out.1.put (wd := 1) (n := 3) (by decide) (by have := HF.out; (try simp only at this); omega) (by have := HF.out; (try simp only at this); omega) (by have := HF.out; (try simp only at this); omega) (by decide)).mono ?_
        rintro e x0 ⟨rfl, A0, d0, hW⟩
        have K1 := Lib.hid (And.intro hW (H2.out.below hW.1.2.2))
        clear hW c0 c1 c2 c3 c4 c5 e0 e1 e2
        obtain ⟨c0, c1, c2, c3, c4, c5⟩ := cells6 K1.out.2.1
        simp only at c0 c1 c2 c3 c4
        obtain ⟨f0, f1, f2⟩ := cells3 K1.out.1.2.1
        have e0 := f0.trans (show some (Value.bool (fmB 3)) = some (.bool false) from rfl)
        have e1 := f1.trans (show some (Value.bool (fmD 3)) = some (.bool false) from rfl)
        have e2 := f2.trans (show some (Value.int .i64 (fmR 3)) = some (.int .i64 0) from rfl)
        clear f0 f1 f2
        go_wp2_with fail
        refine (K1.out.1.put (wd := 4) (n := ses) (by decide) (by have := HF.out; (try simp only at this); omega) (by have := HF.out; (try simp only at this); omega) (by have := HF.out; (try simp only at this); omega) (by simp only [List.length_append, bebs_length, List.length_nil]; omega)).mono ?_
        rintro e x1 ⟨rfl, A1, d1, hW⟩
        have K2 := Lib.hid (And.intro hW (H2.out.below hW.1.2.2))
        clear hW c0 c1 c2 c3 c4 c5 e0 e1 e2
        obtain ⟨c0, c1, c2, c3, c4, c5⟩ := cells6 K2.out.2.1
        simp only at c0 c1 c2 c3 c4
        obtain ⟨f0, f1, f2⟩ := cells3 K2.out.1.2.1
        have e0 := f0.trans (show some (Value.bool (fmB 3)) = some (.bool false) from rfl)
        have e1 := f1.trans (show some (Value.bool (fmD 3)) = some (.bool false) from rfl)
        have e2 := f2.trans (show some (Value.int .i64 (fmR 3)) = some (.int .i64 0) from rfl)
        clear f0 f1 f2
        go_wp2_with fail
        refine (K2.out.1.raw (d := c) K2.out.2.2.1.1 HD.out (by have := HF.out; have := HD.out; simp only [List.length_append, bebs_length, List.length_nil]; (try simp only at *); omega)).mono ?_
        rintro e y1 ⟨rfl, A7, d7, hW⟩
        have J1 := Lib.hid (And.intro hW (H2.out.below hW.1.2.2))
        clear hW c0 c1 c2 c3 c4 c5 e0 e1 e2
        go_wp2_with fail
        refine (bytesW_any J1.out.1.1.1).mono ?_
        rintro e y2 ⟨v8, rfl, ho8, hb8⟩
        obtain ⟨Y, hY⟩ : ∃ Y, ([] ++ bebs 1 3 ++ bebs 4 ses ++ dat : List UInt8) = Y := ⟨_, rfl⟩
        have hYb : pkBody ⟨3, ses, blk, id, rsn, dat⟩ = Y := by rw [← hY]; simp [pkBody, fmB, fmD, fmR]
        rw [hY] at ho8
        rw [show (⟨100000, Y, 0⟩ : WS).out = Y from rfl] at ho8
        obtain ⟨A8, d8, rfl, hd8, _⟩ := own_form ho8
        have J2 := Lib.hid (And.intro (Rd.of_own ho8) (And.intro (J1.out.2.below hb8) hYb))
        have hYn : Y.length ≤ 65549 := by rw [← hYb]; have := HL.out; have := HF.out; (try simp only at *); omega
        clear ho8 hb8 hd8 hY hYb
        go_wp2_with fail
        refine (crcSeal_any (t := tableL) (.inl ⟨rfl, rfl⟩) J2.out.1 (by omega)).mono ?_
        rintro e y3 ⟨A9, d9, g9, rfl, hd9, hm9, hg9, hb9⟩
        have J3 := Lib.hid (And.intro hm9 (And.intro hd9 (And.intro hg9 hb9)))
        clear hm9 hd9 hg9 hb9
        go_wp2
        go_ret2
        rw [HN.out.1, HN.out.2, J2.out.2.2]
        refine ⟨A9, d9, g9, by rw [seal_length]; rfl, by rw [seal_length]; exact J3.out.2.1, by rw [seal_length]; exact J3.out.1, Nat.le_trans J2.out.2.1.2.2.size J3.out.2.2.1, below_base J2.out.2.1.2.2 J3.out.2.2.2 J2.out.2.1.2.2.size⟩
      · obtain ⟨c0, c1, c2, c3, c4, c5⟩ := cells6 H4.out.2.1
        simp only at c0 c1 c2 c3 c4
        obtain ⟨f0, f1, f2⟩ := cells3 H4.out.1.2.1
        have e0 := f0.trans (show some (Value.bool (fmB 4)) = some (.bool false) from rfl)
        have e1 := f1.trans (show some (Value.bool (fmD 4)) = some (.bool false) from rfl)
        have e2 := f2.trans (show some (Value.int .i64 (fmR 4)) = some (.int .i64 1) from rfl)
        clear f0 f1 f2
        go_wp2_with fail
        refine (H4.out.1.put (wd := 1) (n := 4) (by decide) (by have := HF.out; (try simp only at this); omega) (by have := HF.out; (try simp only at this); omega) (by have := HF.out; (try simp only at this); omega) (by decide)).mono ?_
        rintro e x0 ⟨rfl, A0, d0, hW⟩
        have K1 := Lib.hid (And.intro hW (H2.out.below hW.1.2.2))
        clear hW c0 c1 c2 c3 c4 c5 e0 e1 e2
        obtain ⟨c0, c1, c2, c3, c4, c5⟩ := cells6 K1.out.2.1
        simp only at c0 c1 c2 c3 c4
        obtain ⟨f0, f1, f2⟩ := cells3 K1.out.1.2.1
        have e0 := f0.trans (show some (Value.bool (fmB 4)) = some (.bool false) from rfl)
        have e1 := f1.trans (show some (Value.bool (fmD 4)) = some (.bool false) from rfl)
        have e2 := f2.trans (show some (Value.int .i64 (fmR 4)) = some (.int .i64 1) from rfl)
        clear f0 f1 f2
        go_wp2_with fail
        refine (K1.out.1.put (wd := 4) (n := ses) (by decide) (by have := HF.out; (try simp only at this); omega) (by have := HF.out; (try simp only at this); omega) (by have := HF.out; (try simp only at this); omega) (by simp only [List.length_append, bebs_length, List.length_nil]; omega)).mono ?_
        rintro e x1 ⟨rfl, A1, d1, hW⟩
        have K2 := Lib.hid (And.intro hW (H2.out.below hW.1.2.2))
        clear hW c0 c1 c2 c3 c4 c5 e0 e1 e2
        obtain ⟨c0, c1, c2, c3, c4, c5⟩ := cells6 K2.out.2.1
        simp only at c0 c1 c2 c3 c4
        obtain ⟨f0, f1, f2⟩ := cells3 K2.out.1.2.1
        have e0 := f0.trans (show some (Value.bool (fmB 4)) = some (.bool false) from rfl)
        have e1 := f1.trans (show some (Value.bool (fmD 4)) = some (.bool false) from rfl)
        have e2 := f2.trans (show some (Value.int .i64 (fmR 4)) = some (.int .i64 1) from rfl)
        clear f0 f1 f2
        go_wp2_with fail
        refine (K2.out.1.put (wd := 1) (n := rsn) (by decide) (by have := HF.out; (try simp only at this); omega) (by have := HF.out; (try simp only at this); omega) (by have := HF.out; (try simp only at this); omega) (by simp only [List.length_append, bebs_length, List.length_nil]; omega)).mono ?_
        rintro e x2 ⟨rfl, A2, d2, hW⟩
        have K3 := Lib.hid (And.intro hW (H2.out.below hW.1.2.2))
        clear hW c0 c1 c2 c3 c4 c5 e0 e1 e2
        obtain ⟨c0, c1, c2, c3, c4, c5⟩ := cells6 K3.out.2.1
        simp only at c0 c1 c2 c3 c4
        obtain ⟨f0, f1, f2⟩ := cells3 K3.out.1.2.1
        have e0 := f0.trans (show some (Value.bool (fmB 4)) = some (.bool false) from rfl)
        have e1 := f1.trans (show some (Value.bool (fmD 4)) = some (.bool false) from rfl)
        have e2 := f2.trans (show some (Value.int .i64 (fmR 4)) = some (.int .i64 1) from rfl)
        clear f0 f1 f2
        go_wp2_with fail
        refine (K3.out.1.raw (d := c) K3.out.2.2.1.1 HD.out (by have := HF.out; have := HD.out; simp only [List.length_append, bebs_length, List.length_nil]; (try simp only at *); omega)).mono ?_
        rintro e y1 ⟨rfl, A7, d7, hW⟩
        have J1 := Lib.hid (And.intro hW (H2.out.below hW.1.2.2))
        clear hW c0 c1 c2 c3 c4 c5 e0 e1 e2
        go_wp2_with fail
        refine (bytesW_any J1.out.1.1.1).mono ?_
        rintro e y2 ⟨v8, rfl, ho8, hb8⟩
        obtain ⟨Y, hY⟩ : ∃ Y, ([] ++ bebs 1 4 ++ bebs 4 ses ++ bebs 1 rsn ++ dat : List UInt8) = Y := ⟨_, rfl⟩
        have hYb : pkBody ⟨4, ses, blk, id, rsn, dat⟩ = Y := by rw [← hY]; simp [pkBody, fmB, fmD, fmR]
        rw [hY] at ho8
        rw [show (⟨100000, Y, 0⟩ : WS).out = Y from rfl] at ho8
        obtain ⟨A8, d8, rfl, hd8, _⟩ := own_form ho8
        have J2 := Lib.hid (And.intro (Rd.of_own ho8) (And.intro (J1.out.2.below hb8) hYb))
        have hYn : Y.length ≤ 65549 := by rw [← hYb]; have := HL.out; have := HF.out; (try simp only at *); omega
        clear ho8 hb8 hd8 hY hYb
        go_wp2_with fail
        refine (crcSeal_any (t := tableL) (.inl ⟨rfl, rfl⟩) J2.out.1 (by omega)).mono ?_
        rintro e y3 ⟨A9, d9, g9, rfl, hd9, hm9, hg9, hb9⟩
        have J3 := Lib.hid (And.intro hm9 (And.intro hd9 (And.intro hg9 hb9)))
        clear hm9 hd9 hg9 hb9
        go_wp2
        go_ret2
        rw [HN.out.1, HN.out.2, J2.out.2.2]
        refine ⟨A9, d9, g9, by rw [seal_length]; rfl, by rw [seal_length]; exact J3.out.2.1, by rw [seal_length]; exact J3.out.1, Nat.le_trans J2.out.2.1.2.2.size J3.out.2.2.1, below_base J2.out.2.1.2.2 J3.out.2.2.2 J2.out.2.1.2.2.size⟩
      · obtain ⟨c0, c1, c2, c3, c4, c5⟩ := cells6 H4.out.2.1
        simp only at c0 c1 c2 c3 c4
        obtain ⟨f0, f1, f2⟩ := cells3 H4.out.1.2.1
        have e0 := f0.trans (show some (Value.bool (fmB 5)) = some (.bool false) from rfl)
        have e1 := f1.trans (show some (Value.bool (fmD 5)) = some (.bool true) from rfl)
        have e2 := f2.trans (show some (Value.int .i64 (fmR 5)) = some (.int .i64 0) from rfl)
        clear f0 f1 f2
        go_wp2_with fail
        refine (H4.out.1.put (wd := 1) (n := 5) (by decide) (by have := HF.out; (try simp only at this); omega) (by have := HF.out; (try simp only at this); omega) (by have := HF.out; (try simp only at this); omega) (by decide)).mono ?_
        rintro e x0 ⟨rfl, A0, d0, hW⟩
        have K1 := Lib.hid (And.intro hW (H2.out.below hW.1.2.2))
        clear hW c0 c1 c2 c3 c4 c5 e0 e1 e2
        obtain ⟨c0, c1, c2, c3, c4, c5⟩ := cells6 K1.out.2.1
        simp only at c0 c1 c2 c3 c4
        obtain ⟨f0, f1, f2⟩ := cells3 K1.out.1.2.1
        have e0 := f0.trans (show some (Value.bool (fmB 5)) = some (.bool false) from rfl)
        have e1 := f1.trans (show some (Value.bool (fmD 5)) = some (.bool true) from rfl)
        have e2 := f2.trans (show some (Value.int .i64 (fmR 5)) = some (.int .i64 0) from rfl)
        clear f0 f1 f2
        go_wp2_with fail
        refine (K1.out.1.put (wd := 4) (n := ses) (by decide) (by have := HF.out; (try simp only at this); omega) (by have := HF.out; (try simp only at this); omega) (by have := HF.out; (try simp only at this); omega) (by simp only [List.length_append, bebs_length, List.length_nil]; omega)).mono ?_
        rintro e x1 ⟨rfl, A1, d1, hW⟩
        have K2 := Lib.hid (And.intro hW (H2.out.below hW.1.2.2))
        clear hW c0 c1 c2 c3 c4 c5 e0 e1 e2
        obtain ⟨c0, c1, c2, c3, c4, c5⟩ := cells6 K2.out.2.1
        simp only at c0 c1 c2 c3 c4
        obtain ⟨f0, f1, f2⟩ := cells3 K2.out.1.2.1
        have e0 := f0.trans (show some (Value.bool (fmB 5)) = some (.bool false) from rfl)
        have e1 := f1.trans (show some (Value.bool (fmD 5)) = some (.bool true) from rfl)
        have e2 := f2.trans (show some (Value.int .i64 (fmR 5)) = some (.int .i64 0) from rfl)
        clear f0 f1 f2
        go_wp2_with fail
        refine (K2.out.1.raw (d := c) K2.out.2.2.1.1 HD.out (by have := HF.out; have := HD.out; simp only [List.length_append, bebs_length, List.length_nil]; (try simp only at *); omega)).mono ?_
        rintro e y1 ⟨rfl, A7, d7, hW⟩
        have J1 := Lib.hid (And.intro hW (H2.out.below hW.1.2.2))
        clear hW c0 c1 c2 c3 c4 c5 e0 e1 e2
        go_wp2_with fail
        refine (bytesW_any J1.out.1.1.1).mono ?_
        rintro e y2 ⟨v8, rfl, ho8, hb8⟩
        obtain ⟨Y, hY⟩ : ∃ Y, ([] ++ bebs 1 5 ++ bebs 4 ses ++ dat : List UInt8) = Y := ⟨_, rfl⟩
        have hYb : pkBody ⟨5, ses, blk, id, rsn, dat⟩ = Y := by rw [← hY]; simp [pkBody, fmB, fmD, fmR]
        rw [hY] at ho8
        rw [show (⟨100000, Y, 0⟩ : WS).out = Y from rfl] at ho8
        obtain ⟨A8, d8, rfl, hd8, _⟩ := own_form ho8
        have J2 := Lib.hid (And.intro (Rd.of_own ho8) (And.intro (J1.out.2.below hb8) hYb))
        have hYn : Y.length ≤ 65549 := by rw [← hYb]; have := HL.out; have := HF.out; (try simp only at *); omega
        clear ho8 hb8 hd8 hY hYb
        go_wp2_with fail
        refine (crcSeal_any (t := tableL) (.inl ⟨rfl, rfl⟩) J2.out.1 (by omega)).mono ?_
        rintro e y3 ⟨A9, d9, g9, rfl, hd9, hm9, hg9, hb9⟩
        have J3 := Lib.hid (And.intro hm9 (And.intro hd9 (And.intro hg9 hb9)))
        clear hm9 hd9 hg9 hb9
        go_wp2
        go_ret2
        rw [HN.out.1, HN.out.2, J2.out.2.2]
        refine ⟨A9, d9, g9, by rw [seal_length]; rfl, by rw [seal_length]; exact J3.out.2.1, by rw [seal_length]; exact J3.out.1, Nat.le_trans J2.out.2.1.2.2.size J3.out.2.2.1, below_base J2.out.2.1.2.2 J3.out.2.2.2 J2.out.2.1.2.2.size⟩
end Go.Proofs.Ytpfamjgdfcnieaa
