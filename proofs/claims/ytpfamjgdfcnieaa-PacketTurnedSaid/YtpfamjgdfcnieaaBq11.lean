/- Chapter 11: PacketBack's walk. -/
import Derived.Test.YtpfamjgdfcnieaaKo11
namespace Go.Proofs.Ytpfamjgdfcnieaa
open Go.RowKit
set_option linter.unusedVariables false
theorem pkE_zero {p : PK} (h : pkE p = 0) : pkB p = true := by
  unfold pkE at h
  split at h
  · assumption
  · cases h
def pcs (p : PK) (A : Option Addr) (n c : Nat) : List Value := [.int .i64 p.kd, .int .i64 p.ses, .int .i64 p.blk, .int .i64 p.id, .int .i64 p.rsn, .slice A n c]
/-- Two packets in blocks, what is told of them. -/
def B2 (w wx : World) (A A' : Option Addr) (n c n' c' : Nat) (p q : PK) : Prop :=
  Bk wx w.heap.size 24 (pcs p A n c) ∧ Bk wx (w.heap.size + 1) 24 (pcs q A' n' c') ∧ PA wx A n c p ∧ PA wx A' n' c' q ∧ Below w.heap.size w wx
def B3 (w wx : World) (A A' A9 B1 B2' : Option Addr) (n c n' c' c9 K L1 L2 : Nat) (p q : PK) : Prop :=
  B2 w wx A A' n c n' c' p q ∧ Bk wx K 24 (pcs p A9 n c9) ∧ PA wx A9 n c9 p ∧ Rd wx B1 L1 (bys (pkV p)) ∧ Rd wx B2' L2 (bys (pkV q))
section
variable {w wx wy : World} {A A' A9 B1 B2' : Option Addr} {n c n' c' c9 K L1 L2 : Nat} {p q : PK}
theorem B2.below (h : B2 w wx A A' n c n' c' p q) (hb : Below wx.heap.size wx wy) : B2 w wy A A' n c n' c' p q :=
  ⟨h.1.belowS hb, h.2.1.belowS hb, h.2.2.1.below hb, h.2.2.2.1.below hb, below_base h.2.2.2.2 hb h.2.2.2.2.size⟩
theorem B3.below (h : B3 w wx A A' A9 B1 B2' n c n' c' c9 K L1 L2 p q) (hb : Below wx.heap.size wx wy) : B3 w wy A A' A9 B1 B2' n c n' c' c9 K L1 L2 p q :=
  ⟨h.1.below hb, h.2.1.belowS hb, h.2.2.1.below hb, h.2.2.2.1.below hb, h.2.2.2.2.below hb⟩
theorem B3.drew (h : B3 w wx A A' A9 B1 B2' n c n' c' c9 K L1 L2 p q) : B3 w wx.drew A A' A9 B1 B2' n c n' c' c9 K L1 L2 p q := h.below (Below.refl _ _).drew
theorem B3.pas {w wx : World} {A A' A9 B1 B2' : Option Addr} {n c n' c' c9 K L1 L2 : Nat} {p q : PK} (h : B3 w wx A A' A9 B1 B2' n c n' c' c9 K L1 L2 p q) : PA wx A9 n c9 p ∧ PA wx A n c p ∧ PA wx A' n' c' q := ⟨h.2.2.1, h.1.2.2.1, h.1.2.2.2.1⟩
theorem B3.rds {w wx : World} {A A' A9 B1 B2' : Option Addr} {n c n' c' c9 K L1 L2 : Nat} {p q : PK} (h : B3 w wx A A' A9 B1 B2' n c n' c' c9 K L1 L2 p q) : Rd wx B1 L1 (bys (pkV p)) ∧ Rd wx B2' L2 (bys (pkV q)) := h.2.2.2
theorem B3.cells {w wx : World} {A A' A9 B1 B2' : Option Addr} {n9 c n' c' c9 K L1 L2 : Nat} {kd ses blk id rsn kd' ses' blk' id' rsn' : Int} {dat dat' : List UInt8} (h : B3 w wx A A' A9 B1 B2' n9 c n' c' c9 K L1 L2 ⟨kd, ses, blk, id, rsn, dat⟩ ⟨kd', ses', blk', id', rsn', dat'⟩) :
    wx.cell? ⟨w.heap.size, 0, none⟩ = some (.int .i64 kd) ∧ wx.cell? ⟨w.heap.size, 1, none⟩ = some (.int .i64 ses) ∧ wx.cell? ⟨w.heap.size, 2, none⟩ = some (.int .i64 blk) ∧ wx.cell? ⟨w.heap.size, 3, none⟩ = some (.int .i64 id) ∧ wx.cell? ⟨w.heap.size, 4, none⟩ = some (.int .i64 rsn) ∧ wx.cell? ⟨w.heap.size, 5, none⟩ = some (.slice A n9 c) ∧ wx.cell? ⟨w.heap.size + 1, 0, none⟩ = some (.int .i64 kd') ∧ wx.cell? ⟨w.heap.size + 1, 1, none⟩ = some (.int .i64 ses') ∧ wx.cell? ⟨w.heap.size + 1, 2, none⟩ = some (.int .i64 blk') ∧ wx.cell? ⟨w.heap.size + 1, 3, none⟩ = some (.int .i64 id') ∧ wx.cell? ⟨w.heap.size + 1, 4, none⟩ = some (.int .i64 rsn') ∧ wx.cell? ⟨w.heap.size + 1, 5, none⟩ = some (Value.slice A' n' c') ∧ wx.cell? ⟨K, 0, none⟩ = some (.int .i64 kd) ∧ wx.cell? ⟨K, 1, none⟩ = some (.int .i64 ses) ∧ wx.cell? ⟨K, 2, none⟩ = some (.int .i64 blk) ∧ wx.cell? ⟨K, 3, none⟩ = some (.int .i64 id) ∧ wx.cell? ⟨K, 4, none⟩ = some (.int .i64 rsn) ∧ wx.cell? ⟨K, 5, none⟩ = some (.slice A9 n9 c9) := by
  obtain ⟨c0, c1, c2, c3, c4, c5⟩ := cells6 h.1.1
  obtain ⟨e0, e1, e2, e3, e4, e5⟩ := cells6 h.1.2.1
  obtain ⟨m0, m1, m2, m3, m4, m5⟩ := cells6 h.2.1
  exact ⟨c0, c1, c2, c3, c4, c5, e0, e1, e2, e3, e4, e5, m0, m1, m2, m3, m4, m5⟩
end
set_option maxRecDepth 100000 in
set_option maxHeartbeats 6400000 in
theorem packetBack_walk {w : World} {A A' : Option Addr} {n c n' c' : Nat} {p q : PK} (h : PA w A n c p) (h' : PA w A' n' c' q) :
    Calls Try.prog 6 #[p.v A n c, q.v A' n' c'] w fun e w' => e = .returned (.bool true) ∧ Below w.heap.size w w' := by
  have HN := Lib.hid (And.intro h.2.2.2.1 h'.2.2.2.1)
  have hn0 : (n : Int) ≤ 140737488351232 := by have := h.2.2.1; omega
  have hn1 : (n' : Int) ≤ 140737488351232 := by have := h'.2.2.1; omega
  obtain ⟨kd, ses, blk, id, rsn, dat⟩ := p
  obtain ⟨kd', ses', blk', id', rsn', dat'⟩ := q
  obtain ⟨w1, hw1⟩ : ∃ w1, w1 = w.alloc (.cells #[.int .i64 kd, .int .i64 ses, .int .i64 blk, .int .i64 id, .int .i64 rsn, .slice A n c] 24) := ⟨_, rfl⟩
  have hM := PB.new h
  rw [← hw1] at hM
  have hs1 : w1.heap.size = w.heap.size + 1 := by rw [hw1, World.size_alloc]
  obtain ⟨w2, hw2⟩ : ∃ w2, w2 = w1.alloc (.cells #[.int .i64 kd', .int .i64 ses', .int .i64 blk', .int .i64 id', .int .i64 rsn', .slice A' n' c'] 24) := ⟨_, rfl⟩
  have hM2 := PB.new (h'.below hM.2.2)
  rw [← hw2] at hM2
  have hB : B2 w w2 A A' n c n' c' ⟨kd, ses, blk, id, rsn, dat⟩ ⟨kd', ses', blk', id', rsn', dat'⟩ :=
    ⟨(hM.below hM2.2.2).1, by rw [← hs1]; exact hM2.1, (hM.below hM2.2.2).2.1, hM2.2.1, (hM.below hM2.2.2).2.2⟩
  have H2 := Lib.hid hB
  clear h h' hM hM2 hB hs1
  show Calls Try.prog 6 #[.agg #[.int .i64 kd, .int .i64 ses, .int .i64 blk, .int .i64 id, .int .i64 rsn, .slice A n c], .agg #[.int .i64 kd', .int .i64 ses', .int .i64 blk', .int .i64 id', .int .i64 rsn', .slice A' n' c']] w _
  go_enter Try.func6, Try.ntmps6
  go_upto_region 1 with fail
  rw [← hw1, ← hw2]
  clear hw1 hw2
  go_wp2_with fail
  refine (packetKnown_walk _).mono ?_
  rintro e w3 ⟨rfl, hb3⟩
  have H3 := Lib.hid (H2.out.below hb3)
  clear hb3 H2
  obtain ⟨c0, c1, c2, c3, c4, c5⟩ := cells6 H3.out.1
  obtain ⟨e0, e1, e2, e3, e4, e5⟩ := cells6 H3.out.2.1
  simp only at c0 c1 c2 c3 c4 e0 e1 e2 e3 e4
  by_cases hA : 3000 < n
  · have d1 : decide ((n : Int) > 3000) = true := by simp; omega
    have d2 : decide (3000 < (n : Int)) = true := by simp; omega
    have d3 : decide (3000 < n) = true := by simp; omega
    clear hA
    go_wp2
    go_ret
    exact ⟨rfl, H3.out.2.2.2.2⟩
  · have d1 : decide ((n : Int) > 3000) = false := by simp; omega
    have d2 : decide (3000 < (n : Int)) = false := by simp; omega
    have d3 : decide (3000 < n) = false := by simp; omega
    have hA3 : n ≤ 3000 := by omega
    clear hA
    by_cases hA' : 3000 < n'
    · have d4 : decide ((n' : Int) > 3000) = true := by simp; omega
      have d5 : decide (3000 < (n' : Int)) = true := by simp; omega
      have d6 : decide (3000 < n') = true := by simp; omega
      clear hA'
      go_wp2
      go_ret
      exact ⟨rfl, H3.out.2.2.2.2⟩
    · have d4 : decide ((n' : Int) > 3000) = false := by simp; omega
      have d5 : decide (3000 < (n' : Int)) = false := by simp; omega
      have d6 : decide (3000 < n') = false := by simp; omega
      clear hA'
      obtain ⟨E1, hE1⟩ : ∃ E, pkE ⟨kd, ses, blk, id, rsn, dat⟩ = E := ⟨_, rfl⟩
      obtain ⟨E2, hE2⟩ : ∃ E, pkE ⟨kd', ses', blk', id', rsn', dat'⟩ = E := ⟨_, rfl⟩
      obtain ⟨V1, hV1⟩ : ∃ V, pkV ⟨kd, ses, blk, id, rsn, dat⟩ = V := ⟨_, rfl⟩
      obtain ⟨V2, hV2⟩ : ∃ V, pkV ⟨kd', ses', blk', id', rsn', dat'⟩ = V := ⟨_, rfl⟩
      obtain ⟨L1, hL1⟩ : ∃ L, V1.length = L := ⟨_, rfl⟩
      obtain ⟨L2, hL2⟩ : ∃ L, V2.length = L := ⟨_, rfl⟩
      have HE := Lib.hid (And.intro hE1 (And.intro hE2 (And.intro hV1 (And.intro hV2 (And.intro hL1 hL2)))))
      clear hE1 hE2 hV1 hV2 hL1 hL2
      go_wp2_with fail
      refine (pput_any (p := ⟨kd, ses, blk, id, rsn, dat⟩) H3.out.2.2.1).mono ?_
      rw [HE.out.1, HE.out.2.2.1]
      unfold PtPost
      rw [HE.out.2.2.2.2.1]
      rintro e w4 ⟨B1, f1, g1, rfl, hf1, hm1, _, hb4⟩
      have H4 := Lib.hid (And.intro (H3.out.below hb4) hm1.rd)
      have HF := Lib.hid hf1
      clear hf1 hm1 hb4 c0 c1 c2 c3 c4 c5 e0 e1 e2 e3 e4 e5 d1 d2 d3 d4 d5 d6 H3
      obtain ⟨e0, e1, e2, e3, e4, e5⟩ := cells6 H4.out.1.2.1
      simp only at e0 e1 e2 e3 e4
      go_wp2_with fail
      refine (pput_any (p := ⟨kd', ses', blk', id', rsn', dat'⟩) H4.out.1.2.2.2.1).mono ?_
      rw [HE.out.2.1, HE.out.2.2.2.1]
      unfold PtPost
      rw [HE.out.2.2.2.2.2]
      rintro e w5 ⟨Bb, f2, g2, rfl, _, hm2, _, hb5⟩
      have H5 := Lib.hid (And.intro (H4.out.1.below hb5) (And.intro (H4.out.2.below hb5) hm2.rd))
      clear hm2 hb5 e0 e1 e2 e3 e4 e5 H4
      obtain ⟨c0, c1, c2, c3, c4, c5⟩ := cells6 H5.out.1.1
      obtain ⟨e0, e1, e2, e3, e4, e5⟩ := cells6 H5.out.1.2.1
      simp only at c0 c1 c2 c3 c4 e0 e1 e2 e3 e4
      by_cases hz : E1 = 0 ∧ E2 = 0
      · obtain ⟨rfl, rfl⟩ := hz
        have HK := Lib.hid (And.intro (pkE_zero HE.out.1) (pkE_zero HE.out.2.1))
        have hgo := pkV_open HK.out.1
        rw [HE.out.2.2.1] at hgo
        have HG := Lib.hid hgo
        have hinj := pkV_inj HK.out.1 HK.out.2
        rw [HE.out.2.2.1, HE.out.2.2.2.1] at hinj
        obtain ⟨SQ, hSQ⟩ : ∃ s, PK.same ⟨kd, ses, blk, id, rsn, dat⟩ ⟨kd', ses', blk', id', rsn', dat'⟩ = s := ⟨_, rfl⟩
        rw [hSQ] at hinj
        have HQ := Lib.hid (And.intro hinj hSQ)
        have hLen : V1.length ≤ n + 18 := by
          rw [← HE.out.2.2.1]; unfold pkV; rw [if_pos HK.out.1, seal_length]
          have h1 := body_len (p := ⟨kd, ses, blk, id, rsn, dat⟩)
          have h1 : (pkBody ⟨kd, ses, blk, id, rsn, dat⟩).length ≤ dat.length + 14 := h1
          have h2 : dat.length = n := HN.out.1
          omega
        have hL1 : L1 ≤ 4000 := by rw [← HE.out.2.2.2.2.1]; omega
        clear hgo hinj hSQ hLen
        go_wp2_with fail
        refine (pget_any H5.out.2.1 (by omega) HF.out).mono ?_
        rw [HG.out.1, HG.out.2]
        rintro e w6 ⟨A9, n9, c9, g9, rfl, hc9, hd9, hm9, hg9, hb6⟩
        obtain rfl : n9 = n := by have h2 : dat.length = n := HN.out.1; have h3 : dat.length = n9 := hd9; omega
        rw [pv_mk]
        have hpa6 : PA w6 A9 n9 c9 ⟨kd, ses, blk, id, rsn, dat⟩ := ⟨hm9.rd, hc9, by omega, hd9, (H5.out.1.2.2.1).2.2.2.2⟩
        have hM6 := PB.new hpa6
        obtain ⟨w7, hw7⟩ : ∃ w7, w7 = w6.alloc (.cells #[.int .i64 kd, .int .i64 ses, .int .i64 blk, .int .i64 id, .int .i64 rsn, .slice A9 n9 c9] 24) := ⟨_, rfl⟩
        rw [← hw7] at hM6
        have hb7 := below_base hb6 hM6.2.2 hb6.size
        have hB3 : B3 w w7 A A' A9 B1 Bb n9 c n' c' c9 w6.heap.size L1 L2 ⟨kd, ses, blk, id, rsn, dat⟩ ⟨kd', ses', blk', id', rsn', dat'⟩ :=
          ⟨H5.out.1.below hb7, hM6.1, hM6.2.1, by rw [HE.out.2.2.1]; exact H5.out.2.1.below hb7, by rw [HE.out.2.2.2.1]; exact H5.out.2.2.below hb7⟩
        have H7 := Lib.hid hB3
        clear hc9 hd9 hm9 hg9 hb6 hpa6 hM6 hb7 hB3 c0 c1 c2 c3 c4 c5 e0 e1 e2 e3 e4 e5
        go_upto_region 9 with fail
        rw [← hw7]
        clear hw7
        generalize w6.heap.size = K at H7 ⊢
        obtain ⟨c0, c1, c2, c3, c4, c5⟩ := cells6 H7.out.1.1
        obtain ⟨e0, e1, e2, e3, e4, e5⟩ := cells6 H7.out.1.2.1
        obtain ⟨m0, m1, m2, m3, m4, m5⟩ := cells6 H7.out.2.1
        simp only at c0 c1 c2 c3 c4 e0 e1 e2 e3 e4 m0 m1 m2 m3 m4
        clear H5
        go_cut [4] (fun s wx => s = .bool true ∧ Below w7.heap.size w7 wx)
        case first =>
          have S0 := Lib.hid (And.intro H7.out (Below.refl w7.heap.size w7))
          go_region_held3 (fun w' => w'.cell? ⟨w.heap.size, 0, none⟩ = some (.int .i64 kd) ∧ w'.cell? ⟨w.heap.size, 1, none⟩ = some (.int .i64 ses) ∧ w'.cell? ⟨w.heap.size, 2, none⟩ = some (.int .i64 blk) ∧ w'.cell? ⟨w.heap.size, 3, none⟩ = some (.int .i64 id) ∧ w'.cell? ⟨w.heap.size, 4, none⟩ = some (.int .i64 rsn) ∧ w'.cell? ⟨w.heap.size, 5, none⟩ = some (.slice A n9 c) ∧ w'.cell? ⟨w.heap.size + 1, 0, none⟩ = some (.int .i64 kd') ∧ w'.cell? ⟨w.heap.size + 1, 1, none⟩ = some (.int .i64 ses') ∧ w'.cell? ⟨w.heap.size + 1, 2, none⟩ = some (.int .i64 blk') ∧ w'.cell? ⟨w.heap.size + 1, 3, none⟩ = some (.int .i64 id') ∧ w'.cell? ⟨w.heap.size + 1, 4, none⟩ = some (.int .i64 rsn') ∧ w'.cell? ⟨w.heap.size + 1, 5, none⟩ = some (Value.slice A' n' c') ∧ w'.cell? ⟨K, 0, none⟩ = some (.int .i64 kd) ∧ w'.cell? ⟨K, 1, none⟩ = some (.int .i64 ses) ∧ w'.cell? ⟨K, 2, none⟩ = some (.int .i64 blk) ∧ w'.cell? ⟨K, 3, none⟩ = some (.int .i64 id) ∧ w'.cell? ⟨K, 4, none⟩ = some (.int .i64 rsn) ∧ w'.cell? ⟨K, 5, none⟩ = some (.slice A9 n9 c9))
            (first | go_keep | exact S1.out.1.cells)
            (first
              | (go_at_call 13; refine (same_any (B3.rds (by first | exact S1.out.1 | exact S0.out.1 | exact S0.out.1.drew)).1 (B3.rds (by first | exact S1.out.1 | exact S0.out.1 | exact S0.out.1.drew)).2).mono ?_; rintro e wq ⟨rfl, rfl⟩; rw [HE.out.2.2.1, HE.out.2.2.2.1, HQ.out.1])
              | (go_at_call_of 24 (Value.agg #[.int .i64 kd, .int .i64 ses, .int .i64 blk, .int .i64 id, .int .i64 rsn, .slice A9 n9 c9]); refine (sameP_any (p := ⟨kd, ses, blk, id, rsn, dat⟩) (p' := ⟨kd, ses, blk, id, rsn, dat⟩) (B3.pas (by first | exact S1.out.1 | exact S0.out.1 | exact S0.out.1.drew)).1 (B3.pas (by first | exact S1.out.1 | exact S0.out.1 | exact S0.out.1.drew)).2.1).mono ?_; rintro e wq ⟨rfl, hbq⟩; rw [psame_refl]; have S1 := Lib.hid (And.intro (B3.below (by first | exact S1.out.1 | exact S0.out.1 | exact S0.out.1.drew) hbq) (below_base (by first | exact S1.out.2 | exact S0.out.2 | exact (S0.out.2).drew : Below w7.heap.size w7 _) hbq (by have := (by first | exact S1.out.2 | exact S0.out.2 | exact (S0.out.2).drew : Below w7.heap.size w7 _).size; exact this))); clear hbq)
              | (go_at_call_of 24 (Value.agg #[.int .i64 kd, .int .i64 ses, .int .i64 blk, .int .i64 id, .int .i64 rsn, .slice A n9 c]); refine (sameP_any (p := ⟨kd, ses, blk, id, rsn, dat⟩) (p' := ⟨kd', ses', blk', id', rsn', dat'⟩) (B3.pas (by first | exact S1.out.1 | exact S0.out.1 | exact S0.out.1.drew)).2.1 (B3.pas (by first | exact S1.out.1 | exact S0.out.1 | exact S0.out.1.drew)).2.2).mono ?_; rintro e wq ⟨rfl, hbq⟩; rw [HQ.out.2]; have S1 := Lib.hid (And.intro (B3.below (by first | exact S1.out.1 | exact S0.out.1 | exact S0.out.1.drew) hbq) (below_base (by first | exact S1.out.2 | exact S0.out.2 | exact (S0.out.2).drew : Below w7.heap.size w7 _) hbq (by have := (by first | exact S1.out.2 | exact S0.out.2 | exact (S0.out.2).drew : Below w7.heap.size w7 _).size; exact this))); clear hbq)
              | (go_at_call 16; refine (psize_any (p := ⟨kd, ses, blk, id, rsn, dat⟩) (B3.pas (by first | exact S1.out.1 | exact S0.out.1 | exact S0.out.1.drew)).2.1).mono ?_; rintro e wq ⟨rfl, hbq⟩; rw [HE.out.2.2.1, HE.out.2.2.2.2.1]; have S1 := Lib.hid (And.intro (B3.below (by first | exact S1.out.1 | exact S0.out.1 | exact S0.out.1.drew) hbq) (below_base (by first | exact S1.out.2 | exact S0.out.2 | exact (S0.out.2).drew : Below w7.heap.size w7 _) hbq (by have := (by first | exact S1.out.2 | exact S0.out.2 | exact (S0.out.2).drew : Below w7.heap.size w7 _).size; exact this))); clear hbq))
          all_goals go_wp2_with fail
          all_goals go_meet
          all_goals exact ⟨by simp, S1.out.2⟩
        case rest =>
          obtain ⟨rfl, hbc⟩ := hcut
          have HB := Lib.hid (below_base H7.out.1.2.2.2.2 hbc H7.out.1.2.2.2.2.size)
          clear hbc
          go_wp2
          go_ret
          exact ⟨rfl, HB.out⟩
      · have HK := Lib.hid hz
        by_cases h1 : E1 = 0
        · have h2 : ¬ E2 = 0 := fun e => hz ⟨h1, e⟩
          subst h1
          have d1 : (E2 != 0) = true := by simpa using h2
          clear hz h2
          go_wp2_with fail
          refine (pcheck_any (p := ⟨kd, ses, blk, id, rsn, dat⟩) H5.out.1.2.2.1).mono ?_
          rw [HE.out.1]
          rintro e w6 ⟨rfl, hb6⟩
          have H6 := Lib.hid (H5.out.1.below hb6)
          clear hb6 c0 c1 c2 c3 c4 c5 e0 e1 e2 e3 e4 e5
          obtain ⟨e0, e1, e2, e3, e4, e5⟩ := cells6 H6.out.2.1
          simp only at e0 e1 e2 e3 e4
          go_wp2_with fail
          refine (pcheck_any (p := ⟨kd', ses', blk', id', rsn', dat'⟩) H6.out.2.2.2.1).mono ?_
          rw [HE.out.2.1]
          rintro e w7 ⟨rfl, hb7⟩
          have H7 := Lib.hid (H6.out.below hb7)
          clear hb7
          go_wp2
          go_ret
          exact ⟨rfl, H7.out.2.2.2.2⟩
        · have d1 : (E1 != 0) = true := by simpa using h1
          clear hz h1
          go_wp2_with fail
          refine (pcheck_any (p := ⟨kd, ses, blk, id, rsn, dat⟩) H5.out.1.2.2.1).mono ?_
          rw [HE.out.1]
          rintro e w6 ⟨rfl, hb6⟩
          have H6 := Lib.hid (H5.out.1.below hb6)
          clear hb6 c0 c1 c2 c3 c4 c5 e0 e1 e2 e3 e4 e5
          obtain ⟨e0, e1, e2, e3, e4, e5⟩ := cells6 H6.out.2.1
          simp only at e0 e1 e2 e3 e4
          go_wp2_with fail
          refine (pcheck_any (p := ⟨kd', ses', blk', id', rsn', dat'⟩) H6.out.2.2.2.1).mono ?_
          rw [HE.out.2.1]
          rintro e w7 ⟨rfl, hb7⟩
          have H7 := Lib.hid (H6.out.below hb7)
          clear hb7
          go_wp2
          go_ret
          exact ⟨rfl, H7.out.2.2.2.2⟩
end Go.Proofs.Ytpfamjgdfcnieaa
