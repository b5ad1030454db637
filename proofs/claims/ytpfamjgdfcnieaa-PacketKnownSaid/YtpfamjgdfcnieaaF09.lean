/- What is opened, by crc and by definition. -/
import Derived.Test.YtpfamjgdfcnieaaE09
import Derived.BigQuiet
namespace Go.Proofs.Ytpfamjgdfcnieaa
open Go.RowKit
set_option linter.unusedVariables false
def openE (t : List Nat) (b : List UInt8) : Int := if b.length < 4 then 7 else if crcSeal t (b.take (b.length - 4)) == b then 0 else 8
def openB (t : List Nat) (b : List UInt8) : List UInt8 := if openE t b = 0 then b.take (b.length - 4) else []
def OpenPost (w : World) (t : List Nat) (b : List UInt8) (e : Ending) (w' : World) : Prop :=
  ∃ A n c g, e = .returned (.tuple #[.slice A n c, .int .i64 (openE t b)]) ∧ n ≤ c ∧ Mut w' A n g 0 (bys (openB t b)) ∧ w.heap.size ≤ g ∧ Below w.heap.size w w'
theorem openE_short {t : List Nat} {b : List UInt8} (h : b.length < 4) : openE t b = 7 := by unfold openE; rw [if_pos h]
theorem openE_ok {t : List Nat} {b : List UInt8} {m : Nat} (h : b.length = m + 4) (hs : (crcSeal t (b.take m) == b) = true) : openE t b = 0 := by
  unfold openE; rw [if_neg (by omega), show b.length - 4 = m from by omega, hs]; rfl
theorem openE_bad {t : List Nat} {b : List UInt8} {m : Nat} (h : b.length = m + 4) (hs : (crcSeal t (b.take m) == b) = false) : openE t b = 8 := by
  unfold openE; rw [if_neg (by omega), show b.length - 4 = m from by omega, hs]; rfl
theorem openB_ok {t : List Nat} {b : List UInt8} {m : Nat} (h : b.length = m + 4) (hs : openE t b = 0) : openB t b = b.take m := by
  unfold openB; rw [if_pos hs, show b.length - 4 = m from by omega]
theorem openB_no {t : List Nat} {b : List UInt8} (hs : openE t b ≠ 0) : openB t b = [] := by unfold openB; rw [if_neg hs]
theorem open_nil {w w' : World} {t : List Nat} {b : List UInt8} {E : Int} (hE : openE t b = E) (h0 : E ≠ 0) (hb : Below w.heap.size w w') :
    OpenPost w t b (.returned (.tuple #[.slice none 0 0, .int .i64 E])) w' := by
  refine ⟨none, 0, 0, w'.heap.size, by rw [hE], Nat.le_refl _, ?_, hb.size, hb⟩
  rw [openB_no (by rw [hE]; exact h0)]
  exact ⟨rfl, fun h => absurd h (by omega)⟩
theorem open_own {w w' : World} {t : List Nat} {b : List UInt8} {m : Nat} {v : Value} {T : TypeId} (hE : openE t b = 0) (hl : b.length = m + 4) (ho : w'.ownsRow w.heap.size T 1 v m (bys (b.take m))) (hb : Below w.heap.size w w') :
    OpenPost w t b (.returned (.tuple #[v, .int .i64 0])) w' := by
  obtain ⟨A', c', e', hnc, hcm, hl', _⟩ := own_form ho
  subst e'
  obtain ⟨g, hm, hg, _⟩ := Mut.of_own ho
  refine ⟨A', m, c', g, by rw [hE], hnc, ?_, hg, hb⟩
  rw [openB_ok hl hE]
  exact hm
set_option maxRecDepth 100000 in
/-- crc.Open -/
theorem crcOpen_any {w : World} {p : Option Addr} {t : List Nat} {A : Option Addr} {n c : Nat} {b : List UInt8} (ht : Tab w p t) (h : Rd w A n (bys b)) (hn : n ≤ 17592186044416) (hc : n ≤ c) :
    Calls Try.prog 40 #[.pointer p, .slice A n c] w (OpenPost w t b) := by
  have hl : b.length = n := by have := h.1; simpa [bys_length] using this
  have n0 : (0 : Int) ≤ (n : Int) := by omega
  by_cases hlt : n < 4
  · have hd : (n : Int) < 4 := by omega
    have HE := Lib.hid (openE_short (t := t) (show b.length < 4 by omega))
    clear h ht hl
    go_enter Try.func40, Try.ntmps40
    go_wp2_with fail
    go_ret2
    exact open_nil HE.out (by decide) (Below.refl _ _)
  · obtain ⟨m, rfl⟩ : ∃ m, n = m + 4 := ⟨n - 4, by omega⟩
    have hd : ¬ ((m + 4 : Nat) : Int) < 4 := by omega
    have hm : ((m + 4 : Nat) : Int) - 4 = (m : Int) := by omega
    have m0 : (0 : Int) ≤ (m : Int) := by omega
    have m1 : (m : Int) ≤ ((m + 4 : Nat) : Int) := by omega
    have HT := Lib.hid (And.intro ht (And.intro h hl))
    have HR : Hid (Rd w A m (bys (b.take m))) := Lib.hid (by
      have := h.take_ (k := m) (by omega)
      rw [show (bys b).take m = bys (b.take m) from by simp [bys, List.map_take]] at this
      exact this)
    clear ht h hl hlt
    go_enter Try.func40, Try.ntmps40
    go_wp2_with fail
    refine (crcSeal_any HT.out.1 HR.out (by omega)).mono ?_
    rintro e w1 ⟨A1, n1c, g1, rfl, hc1, hm1, hg1, hb1⟩
    have HM := Lib.hid (And.intro hm1 hb1)
    have HR1 := Lib.hid (HT.out.2.1.below hb1)
    have HR2 := Lib.hid (HR.out.below hb1)
    clear hm1 hb1
    go_wp2_with fail
    refine (equal_any HM.out.1.rd HR1.out (by omega)).mono ?_
    rintro e w2 ⟨rfl, q, rfl⟩
    obtain ⟨s, hs⟩ : ∃ s, s = (crcSeal t (b.take m) == b) := ⟨_, rfl⟩
    rw [← hs]
    have HS := Lib.hid hs
    clear hs
    cases s with
    | true =>
      go_wp2_with fail
      refine (clone_any (HR2.out.drewN q) (by omega)).mono ?_
      rintro e w3 ⟨v3, rfl, ho3, hb3⟩
      have H3 := Lib.hid (And.intro (own_mono ho3 (show w.heap.size ≤ (w1.drewN q).heap.size from HM.out.2.size)) (below_base HM.out.2 (below_undrewN hb3) HM.out.2.size))
      clear ho3 hb3
      go_wp2_with fail
      go_ret2
      exact open_own (openE_ok HT.out.2.2 HS.out.symm) HT.out.2.2 H3.out.1 H3.out.2
    | false =>
      go_wp2_with fail
      go_ret2
      exact open_nil (openE_bad HT.out.2.2 HS.out.symm) (by decide) (below_dN HM.out.2 q)
theorem text_any {w : World} {A : Option Addr} {n c : Nat} {l : List UInt8} (h : Rd w A n (bys l)) (q : Nat) : (convert 22 9 (.slice A n c)).run Try.prog (w.drewN q) = .ok (.string ⟨l.toArray⟩) (w.drewN q) :=
  run_bytes_text (P := Try.prog) (c := c) (h.drewN q) 22 5 9 Try.underlying22 Try.underlying5 Try.underlying9
set_option maxRecDepth 100000 in
/-- artesianref09.Open -/
theorem refOpen_any {w : World} {p : Option Addr} {t : List Nat} {A : Option Addr} {n c : Nat} {b : List UInt8} (ht : Tab w p t) (h : Rd w A n (bys b)) (hn : n ≤ 17592186044416) (hc : n ≤ c) :
    Calls Try.prog 48 #[.pointer p, .slice A n c] w (OpenPost w t b) := by
  have hl : b.length = n := by have := h.1; simpa [bys_length] using this
  have n0 : (0 : Int) ≤ (n : Int) := by omega
  obtain ⟨i0, hi0, hz0, hz1, hz2⟩ := info_parts u8_info
  by_cases hlt : n < 4
  · have hd : (n : Int) < 4 := by omega
    have HE := Lib.hid (openE_short (t := t) (show b.length < 4 by omega))
    clear h ht hl
    go_enter Try.func48, Try.ntmps48
    go_wp2_with fail
    go_ret2
    exact open_nil HE.out (by decide) (Below.refl _ _)
  · obtain ⟨m, rfl⟩ : ∃ m, n = m + 4 := ⟨n - 4, by omega⟩
    have hd : ¬ ((m + 4 : Nat) : Int) < 4 := by omega
    have hm : ((m + 4 : Nat) : Int) - 4 = (m : Int) := by omega
    have m0 : (0 : Int) ≤ (m : Int) := by omega
    have m1 : (m : Int) ≤ ((m + 4 : Nat) : Int) := by omega
    have HT := Lib.hid (And.intro ht (And.intro h hl))
    have HR : Hid (Rd w A m (bys (b.take m))) := Lib.hid (by
      have := h.take_ (k := m) (by omega)
      rw [show (bys b).take m = bys (b.take m) from by simp [bys, List.map_take]] at this
      exact this)
    clear ht h hl hlt
    have h1 := text_any (c := c) HT.out.2.1
    have h2 := h1 0
    rw [World.drewN_zero] at h2
    have h2' := h1 1
    rw [← World.drew_is_drewN] at h2'
    go_enter Try.func48, Try.ntmps48
    go_upto_region 4 with fail
    go_cut [21] (fun s wx => s = .bool (!(crcSeal t (b.take m) == b)) ∧ Below w.heap.size w wx)
    case first =>
      go_region_with (go_at_call 35; refine (refSeal_any (by exact HT.out.1) (by exact HR.out) (by omega)).mono ?_; rintro e w4 ⟨A1, n1c, g1, rfl, hc1, hm1, hg1, hb1⟩; have h3 := text_any (c := c) (HT.out.2.1.below (below_undrew hb1)); have h4 := text_any (c := n1c) hm1.rd; have h5 := h3 0; have h6 := h4 0; rw [World.drewN_zero] at h5 h6)
      all_goals go_wp2_with fail
      all_goals go_meet
      all_goals exact ⟨rfl, below_undrew hb1⟩
    case rest =>
      rename_i wx _
      obtain ⟨rfl, hbx⟩ := hcut
      clear h2 h2'
      obtain ⟨s, hs⟩ : ∃ s, s = (crcSeal t (b.take m) == b) := ⟨_, rfl⟩
      rw [← hs]
      have HS := Lib.hid hs
      have HX := Lib.hid hbx
      have HR2 := Lib.hid (HR.out.below hbx)
      have hsx := hbx.size
      clear hs hbx
      cases s with
      | true =>
        go_wp2_with (at_builtin; refine wpList_append_rd _ rfl (.tmp 22) (.tmp 23) _ rfl w.heap.size 5 i0 _ 1 1 Try.underlying22 hi0 hz0 hz1 hz2 rfl (by omega) _ 0 [] rfl (own_new0 _ _ _ (by omega)) A m c _ rfl (by simpa using HR2.out.alloc _) (bys_one _) (by simp only [maxLen]; omega) (by omega) (by simp; omega) ?_; intro v1 w1 hown1 hg1 hat1)
        have hb1 := (HX.out.alloc hsx _).grown hg1 (by simp; omega) (fun k hk => ((own_new0 wc 5 w.heap.size hsx).lt k hk).1)
        go_ret2
        exact open_own (openE_ok HT.out.2.2 HS.out.symm) HT.out.2.2 (by simpa using hown1) hb1
      | false =>
        go_wp2_with fail
        go_ret2
        exact open_nil (openE_bad HT.out.2.2 HS.out.symm) (by decide) HX.out
end Go.Proofs.Ytpfamjgdfcnieaa
