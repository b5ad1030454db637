/- Chapter 12: the document's Put. -/
import Derived.Test.YthnoeiiebokooaaRp12
namespace Go.Proofs.Ythnoeiiebokooaa
open Go.RowKit
set_option linter.unusedVariables false
theorem rput_f0 {w : World} {base c : Nat} {A : Option Addr} {z s k d : Int} {t : List Int} (hm : mfB ⟨z, s, k, d, t⟩ = true) (hd : R64 d) (h : w.ownsRow base 5 1 (.slice A 0 c) 0 (bys (mfH ⟨z, s, k, d, t⟩ 0))) (hb : base ≤ w.heap.size) :
    Calls Try.prog 40 #[.slice A 0 c, .int .i64 4, .int .i64 z] w fun e w' => ∃ A' c', e = .returned (.slice A' 4 c') ∧ w'.ownsRow base 5 1 (.slice A' 4 c') 4 (bys (mfH ⟨z, s, k, d, t⟩ 1)) ∧ Below base w w' := by
  have hf := fld_fit (i := 0) hm hd (by omega)
  have hl : (mfH ⟨z, s, k, d, t⟩ 0).length = 0 := rfl
  have h2 : (2 : Int) ^ (8 * fw 0) ≤ 2 ^ 64 := by decide
  have := rput_any (wd := 4) (n := z) h hl hb (by omega) (by omega) hf.2.1 (by have := hf.2.2; simp [fw, fn] at this; omega)
  refine this.mono ?_
  rintro e w' ⟨A', c', rfl, ho, hb⟩
  have hs := mfH_succ ⟨z, s, k, d, t⟩ 0
  rw [show fn ⟨z, s, k, d, t⟩ 0 = z from rfl, show fw 0 = 4 from rfl] at hs
  rw [← hs, show (mfH ⟨z, s, k, d, t⟩ 1).length = 4 from by simp [mfH, List.range_succ, bebs_length, fw]] at ho
  exact ⟨A', c', by rw [← hs, show (mfH ⟨z, s, k, d, t⟩ 1).length = 4 from by simp [mfH, List.range_succ, bebs_length, fw]], ho, hb⟩
theorem rput_f1 {w : World} {base c : Nat} {A : Option Addr} {z s k d : Int} {t : List Int} (hm : mfB ⟨z, s, k, d, t⟩ = true) (hd : R64 d) (h : w.ownsRow base 5 1 (.slice A 4 c) 4 (bys (mfH ⟨z, s, k, d, t⟩ 1))) (hb : base ≤ w.heap.size) :
    Calls Try.prog 40 #[.slice A 4 c, .int .i64 2, .int .i64 s] w fun e w' => ∃ A' c', e = .returned (.slice A' 6 c') ∧ w'.ownsRow base 5 1 (.slice A' 6 c') 6 (bys (mfH ⟨z, s, k, d, t⟩ 2)) ∧ Below base w w' := by
  have hf := fld_fit (i := 1) hm hd (by omega)
  have hl : (mfH ⟨z, s, k, d, t⟩ 1).length = 4 := by simp [mfH, List.range_succ, bebs_length, fw]
  have h2 : (2 : Int) ^ (8 * fw 1) ≤ 2 ^ 64 := by decide
  have := rput_any (wd := 2) (n := s) h hl hb (by omega) (by omega) hf.2.1 (by have := hf.2.2; simp [fw, fn] at this; omega)
  refine this.mono ?_
  rintro e w' ⟨A', c', rfl, ho, hb⟩
  have hs := mfH_succ ⟨z, s, k, d, t⟩ 1
  rw [show fn ⟨z, s, k, d, t⟩ 1 = s from rfl, show fw 1 = 2 from rfl] at hs
  rw [← hs, show (mfH ⟨z, s, k, d, t⟩ 2).length = 6 from by simp [mfH, List.range_succ, bebs_length, fw]] at ho
  exact ⟨A', c', by rw [← hs, show (mfH ⟨z, s, k, d, t⟩ 2).length = 6 from by simp [mfH, List.range_succ, bebs_length, fw]], ho, hb⟩
theorem rput_f2 {w : World} {base c : Nat} {A : Option Addr} {z s k d : Int} {t : List Int} (hm : mfB ⟨z, s, k, d, t⟩ = true) (hd : R64 d) (h : w.ownsRow base 5 1 (.slice A 6 c) 6 (bys (mfH ⟨z, s, k, d, t⟩ 2))) (hb : base ≤ w.heap.size) :
    Calls Try.prog 40 #[.slice A 6 c, .int .i64 4, .int .i64 k] w fun e w' => ∃ A' c', e = .returned (.slice A' 10 c') ∧ w'.ownsRow base 5 1 (.slice A' 10 c') 10 (bys (mfH ⟨z, s, k, d, t⟩ 3)) ∧ Below base w w' := by
  have hf := fld_fit (i := 2) hm hd (by omega)
  have hl : (mfH ⟨z, s, k, d, t⟩ 2).length = 6 := by simp [mfH, List.range_succ, bebs_length, fw]
  have h2 : (2 : Int) ^ (8 * fw 2) ≤ 2 ^ 64 := by decide
  have := rput_any (wd := 4) (n := k) h hl hb (by omega) (by omega) hf.2.1 (by have := hf.2.2; simp [fw, fn] at this; omega)
  refine this.mono ?_
  rintro e w' ⟨A', c', rfl, ho, hb⟩
  have hs := mfH_succ ⟨z, s, k, d, t⟩ 2
  rw [show fn ⟨z, s, k, d, t⟩ 2 = k from rfl, show fw 2 = 4 from rfl] at hs
  rw [← hs, show (mfH ⟨z, s, k, d, t⟩ 3).length = 10 from by simp [mfH, List.range_succ, bebs_length, fw]] at ho
  exact ⟨A', c', by rw [← hs, show (mfH ⟨z, s, k, d, t⟩ 3).length = 10 from by simp [mfH, List.range_succ, bebs_length, fw]], ho, hb⟩
theorem rput_f3 {w : World} {base c : Nat} {A : Option Addr} {z s k d : Int} {t : List Int} (hm : mfB ⟨z, s, k, d, t⟩ = true) (hd : R64 d) (h : w.ownsRow base 5 1 (.slice A 10 c) 10 (bys (mfH ⟨z, s, k, d, t⟩ 3))) (hb : base ≤ w.heap.size) :
    Calls Try.prog 40 #[.slice A 10 c, .int .i64 8, .int .i64 d] w fun e w' => ∃ A' c', e = .returned (.slice A' 18 c') ∧ w'.ownsRow base 5 1 (.slice A' 18 c') 18 (bys (mfH ⟨z, s, k, d, t⟩ 4)) ∧ Below base w w' := by
  have hf := fld_fit (i := 3) hm hd (by omega)
  have hl : (mfH ⟨z, s, k, d, t⟩ 3).length = 10 := by simp [mfH, List.range_succ, bebs_length, fw]
  have h2 : (2 : Int) ^ (8 * fw 3) ≤ 2 ^ 64 := by decide
  have := rput_any (wd := 8) (n := d) h hl hb (by omega) (by omega) hf.2.1 hd.2
  refine this.mono ?_
  rintro e w' ⟨A', c', rfl, ho, hb⟩
  have hs := mfH_succ ⟨z, s, k, d, t⟩ 3
  rw [show fn ⟨z, s, k, d, t⟩ 3 = d from rfl, show fw 3 = 8 from rfl] at hs
  rw [← hs, show (mfH ⟨z, s, k, d, t⟩ 4).length = 18 from by simp [mfH, List.range_succ, bebs_length, fw]] at ho
  exact ⟨A', c', by rw [← hs, show (mfH ⟨z, s, k, d, t⟩ 4).length = 18 from by simp [mfH, List.range_succ, bebs_length, fw]], ho, hb⟩
theorem rput_f4 {w : World} {base c : Nat} {A : Option Addr} {z s k d : Int} {t : List Int} (hm : mfB ⟨z, s, k, d, t⟩ = true) (hd : R64 d) {n : Nat} (hn : t.length = n) (h : w.ownsRow base 5 1 (.slice A 18 c) 18 (bys (mfH ⟨z, s, k, d, t⟩ 4))) (hb : base ≤ w.heap.size) :
    Calls Try.prog 40 #[.slice A 18 c, .int .i64 2, .int .i64 (n : Int)] w fun e w' => ∃ A' c', e = .returned (.slice A' 20 c') ∧ w'.ownsRow base 5 1 (.slice A' 20 c') 20 (bys (mfH ⟨z, s, k, d, t⟩ 5)) ∧ Below base w w' := by
  have hf := fld_fit (i := 4) hm hd (by omega)
  have hl : (mfH ⟨z, s, k, d, t⟩ 4).length = 18 := by simp [mfH, List.range_succ, bebs_length, fw]
  have h2 : (2 : Int) ^ (8 * fw 4) ≤ 2 ^ 64 := by decide
  have := rput_any (wd := 2) (n := (n : Int)) h hl hb (by omega) (by omega) (by omega) (by have := (mfB_iff.1 hm).2.2.2.2.1; simp only at this; omega)
  refine this.mono ?_
  rintro e w' ⟨A', c', rfl, ho, hb⟩
  have hs := mfH_succ ⟨z, s, k, d, t⟩ 4
  rw [show fn ⟨z, s, k, d, t⟩ 4 = (n : Int) from by rw [← hn]; rfl, show fw 4 = 2 from rfl] at hs
  rw [← hs, show (mfH ⟨z, s, k, d, t⟩ 5).length = 20 from by simp [mfH, List.range_succ, bebs_length, fw]] at ho
  exact ⟨A', c', by rw [← hs, show (mfH ⟨z, s, k, d, t⟩ 5).length = 20 from by simp [mfH, List.range_succ, bebs_length, fw]], ho, hb⟩
theorem rput_w {w : World} {base c L : Nat} {A : Option Addr} {m : MF} (hm : mfB m = true) {q : Nat} (hq : q < m.t.length) (hL : L = 20 + 4 * q) (h : w.ownsRow base 5 1 (.slice A L c) L (bys (mfH m 5 ++ tbB (m.t.take q)))) (hb : base ≤ w.heap.size) {x : Int} (hx : m.t[q] = x) :
    Calls Try.prog 40 #[.slice A L c, .int .i64 4, .int .i64 x] w fun e w' => ∃ A' c', e = .returned (.slice A' (L + 4) c') ∧ w'.ownsRow base 5 1 (.slice A' (L + 4) c') (L + 4) (bys (mfH m 5 ++ tbB (m.t.take (q + 1)))) ∧ Below base w w' := by
  have hf := wt_fit hm hq
  have ht := (mfB_iff.1 hm).2.2.2.2.1
  have hl : (mfH m 5 ++ tbB (m.t.take q)).length = L := by rw [List.length_append, mfH_five, tbB_len, List.length_take]; omega
  rw [hx] at hf
  have := rput_any (wd := 4) (n := x) h hl hb (by omega) (by omega) hf.1 (by have := hf.2; omega)
  refine this.mono ?_
  rintro e w' ⟨A', c', rfl, ho, hb⟩
  have hs : mfH m 5 ++ tbB (m.t.take q) ++ bebs 4 x = mfH m 5 ++ tbB (m.t.take (q + 1)) := by rw [tbB_take_succ hq, List.append_assoc, hx]
  have hl2 : (mfH m 5 ++ tbB (m.t.take q) ++ bebs 4 x).length = L + 4 := by rw [List.length_append, hl, bebs_length]
  rw [hl2, hs] at ho
  exact ⟨A', c', by rw [hl2], ho, hb⟩
set_option maxRecDepth 100000 in
set_option maxHeartbeats 1600000 in
/-- the document's Put -/
theorem rputM_any {w : World} {A : Option Addr} {n c : Nat} {m : MF} (h : MA w A n c m) :
    Calls Try.prog 18 #[m.v A n c] w (TdB w (ptV m) (mfE m)) := by
  obtain ⟨z, s, k, d, t⟩ := m
  have hb1 := (Below.refl w.heap.size w).alloc (Nat.le_refl _) (.cells #[.int .i64 z, .int .i64 s, .int .i64 k, .int .i64 d, .slice A n c] 27)
  have hz := Bk.newA w 27 #[.int .i64 z, .int .i64 s, .int .i64 k, .int .i64 d, .slice A n c]
  have hm := h.below ((Below.refl w.heap.size w).alloc (Nat.le_refl _) (.cells #[.int .i64 z, .int .i64 s, .int .i64 k, .int .i64 d, .slice A n c] 27))
  have H := Lib.hid (And.intro hb1 (And.intro hz hm))
  obtain ⟨c0, c1, c2, c3, c4⟩ := cells5 hz
  clear h hb1 hz hm
  show Calls Try.prog 18 #[.agg #[.int .i64 z, .int .i64 s, .int .i64 k, .int .i64 d, .slice A n c]] w _
  go_enter Try.func18, Try.ntmps18
  go_wp2_with fail
  refine (rcheck_any H.out.2.2).mono ?_
  rintro e w1 ⟨rfl, hb2⟩
  have H1 := Lib.hid (And.intro (H.out.2.1.belowS hb2) (And.intro (below_base H.out.1 hb2 H.out.1.size) (H.out.2.2.below hb2)))
  clear c0 c1 c2 c3 c4 hb2
  cases hq : mfB ⟨z, s, k, d, t⟩ with
  | false =>
    have hE : mfE ⟨z, s, k, d, t⟩ = 2 := by unfold mfE; rw [hq]; rfl
    rw [hE]
    have HN := Lib.hid (And.intro (show ptV ⟨z, s, k, d, t⟩ = [] from by unfold ptV; rw [hq]; rfl) hE)
    clear hq hE
    go_wp2
    go_ret2
    rw [HN.out.1, HN.out.2]
    exact ⟨_, rfl, World.ownsRow_nil _ _ _ _, H1.out.2.1⟩
  | true =>
    have hE : mfE ⟨z, s, k, d, t⟩ = 0 := by unfold mfE; rw [hq]; rfl
    rw [hE]
    have hl : t.length = n := H.out.2.2.2.2.2.1
    have hn : n ≤ 10000 := by have := (mfB_iff.1 hq).2.2.2.2.1; simp only at this; omega
    have HN := Lib.hid (And.intro (show ptV ⟨z, s, k, d, t⟩ = mfP ⟨z, s, k, d, t⟩ from by unfold ptV; rw [hq]; rfl) (And.intro hE (And.intro hq (And.intro hl (show R64 d from H.out.2.2.2.2.2.2.2.2.2.1)))))
    clear hq hE hl
    obtain ⟨c0, c1, c2, c3, c4⟩ := cells5 H1.out.1
    go_wp2_with fail
    go_region_held3 (fun w' => w'.cell? ⟨w.heap.size, 0, none⟩ = some (.int .i64 z) ∧ w'.cell? ⟨w.heap.size, 1, none⟩ = some (.int .i64 s) ∧ w'.cell? ⟨w.heap.size, 2, none⟩ = some (.int .i64 k) ∧ w'.cell? ⟨w.heap.size, 3, none⟩ = some (.int .i64 d) ∧ w'.cell? ⟨w.heap.size, 4, none⟩ = some (.slice A n c))
      (first | go_keep | exact cells5 K5.out.2.1 | exact cells5 K4.out.2.1 | exact cells5 K3.out.2.1 | exact cells5 K2.out.2.1 | exact cells5 K1.out.2.1)
      ((go_at_call 40; first
        | (refine (rput_f4 HN.out.2.2.1 HN.out.2.2.2.2 HN.out.2.2.2.1 K4.out.1 K4.out.2.2.size).mono ?_; rintro e wq ⟨A5, d5, rfl, ho, hbq⟩; have K5 := Lib.hid (And.intro ho (And.intro (K4.out.2.1.below hbq H1.out.1.lt) (K4.out.2.2.trans hbq))); clear ho hbq)
        | (refine (rput_f3 HN.out.2.2.1 HN.out.2.2.2.2 K3.out.1 K3.out.2.2.size).mono ?_; rintro e wq ⟨A4, d4, rfl, ho, hbq⟩; have K4 := Lib.hid (And.intro ho (And.intro (K3.out.2.1.below hbq H1.out.1.lt) (K3.out.2.2.trans hbq))); clear ho hbq)
        | (refine (rput_f2 HN.out.2.2.1 HN.out.2.2.2.2 K2.out.1 K2.out.2.2.size).mono ?_; rintro e wq ⟨A3, d3, rfl, ho, hbq⟩; have K3 := Lib.hid (And.intro ho (And.intro (K2.out.2.1.below hbq H1.out.1.lt) (K2.out.2.2.trans hbq))); clear ho hbq)
        | (refine (rput_f1 HN.out.2.2.1 HN.out.2.2.2.2 K1.out.1 K1.out.2.2.size).mono ?_; rintro e wq ⟨A2, d2, rfl, ho, hbq⟩; have K2 := Lib.hid (And.intro ho (And.intro (K1.out.2.1.below hbq H1.out.1.lt) (K1.out.2.2.trans hbq))); clear ho hbq)
        | (refine (rput_f0 (w := w1.drew) (base := w1.heap.size) HN.out.2.2.1 HN.out.2.2.2.2 (World.ownsRow_nil _ _ _ _) (Nat.le_refl _)).mono ?_; rintro e wq ⟨A1, d1, rfl, ho, hbq⟩; have K1 := Lib.hid (And.intro ho (And.intro (H1.out.1.below (below_undrew hbq) H1.out.1.lt) (below_undrew hbq))); clear ho hbq)))
    go_wp2
    go_loopw [4, 5] (fun v x wr => ∃ (q : Nat) (A' : Option Addr) (c' : Nat), q ≤ n ∧ x = .int .i64 q ∧ v = .slice A' (20 + 4 * q) c' ∧ wr.ownsRow w1.heap.size 5 1 (.slice A' (20 + 4 * q) c') (20 + 4 * q) (bys (mfH ⟨z, s, k, d, t⟩ 5 ++ tbB (t.take q))) ∧ Below w1.heap.size w1 wr) (fun v x wr => n - (intOf x).toNat)
    case atStart => exact ⟨0, A5, d5, by omega, rfl, rfl, by rw [List.take_zero]; show World.ownsRow _ _ _ _ _ _ (bys (mfH ⟨z, s, k, d, t⟩ 5 ++ [])); rw [List.append_nil]; exact K5.out.1, K5.out.2.2⟩
    case round =>
      obtain ⟨q, A', c', hqn, rfl, rfl, hown, hbl⟩ := hrel
      have HK := Lib.hid (And.intro hown hbl)
      obtain ⟨c0, c1, c2, c3, c4⟩ := cells5 (H1.out.1.belowS hbl)
      clear c0 c1 c2 c3
      clear hown hbl
      by_cases hlt : q < n
      · obtain ⟨b, off, rfl, hbl, hc⟩ := (H1.out.2.2.below HK.out.2).1.form (by omega)
        have hkl : q < t.length := by rw [HN.out.2.2.2.1]; exact hlt
        have cx := hc q _ (nums_gi hkl)
        have km : (q : Int) < (n : Int) := by omega
        have HL := Lib.hid (And.intro hlt (gi_get hkl))
        obtain ⟨M, hM⟩ : ∃ M, 20 + 4 * q = M := ⟨_, rfl⟩
        have HM := Lib.hid hM
        rw [hM] at HK ⊢
        clear hc hbl hqn hlt hM
        go_wp2_with fail
        refine (rput_w (m := ⟨z, s, k, d, t⟩) HN.out.2.2.1 hkl HM.out.symm HK.out.1 HK.out.2.size HL.out.2.symm).mono ?_
        rintro e wy ⟨A2, d2, rfl, ho, hby⟩
        have HY := Lib.hid (And.intro ho (HK.out.2.trans hby))
        clear ho hby
        go_wp2_with fail
        have h9 := HY.out
        rw [show M + 4 = 20 + 4 * (q + 1) from by have := HM.out; omega] at h9
        exact ⟨⟨q + 1, A2, d2, by have := HL.out.1; omega, by go_num, by congr 1; have := HM.out; omega, h9.1, h9.2⟩, by have := HL.out.1; simp [intOf]; omega⟩
      · have hqe : q = n := by omega
        subst hqe
        have km : ¬ (q : Int) < (q : Int) := by omega
        clear hlt hqn
        go_wp2
        go_ret2
        have hs : mfH ⟨z, s, k, d, t⟩ 5 ++ tbB (t.take q) = ptV ⟨z, s, k, d, t⟩ := by
          rw [HN.out.1, ← HN.out.2.2.2.1, List.take_length]; rfl
        have hl2 : (ptV ⟨z, s, k, d, t⟩).length = 20 + 4 * q := by rw [← hs, List.length_append, mfH_five, tbB_len, List.length_take, HN.out.2.2.2.1, Nat.min_self]
        have hB := below_base H1.out.2.1 HK.out.2 H1.out.2.1.size
        rw [HN.out.2.1]; unfold TdB; rw [hl2]
        have ho := HK.out.1
        rw [hs] at ho
        exact ⟨_, rfl, own_mono ho H1.out.2.1.size, hB⟩
end Go.Proofs.Ythnoeiiebokooaa
