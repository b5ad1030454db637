/- What is sealed by definition; slices.Equal. -/
import Derived.Test.YtpfamjgdfcnieaaD09
namespace Go.Proofs.Ytpfamjgdfcnieaa
open Go.RowKit
set_option linter.unusedVariables false
theorem le4_getD (s k : Nat) (hk : k < 4) : ((le4 s).getD k 0).toNat = s / 256 ^ k % 256 := by
  have k4 : k = 0 ∨ k = 1 ∨ k = 2 ∨ k = 3 := by omega
  rcases k4 with rfl | rfl | rfl | rfl
  · show (UInt8.ofNat s).toNat = _; rw [u8_nat]; simp
  · show (UInt8.ofNat (s / 256)).toNat = _; rw [u8_nat]
  · show (UInt8.ofNat (s / 65536)).toNat = _; rw [u8_nat]
  · show (UInt8.ofNat (s / 16777216)).toNat = _; rw [u8_nat]
set_option maxRecDepth 100000 in
/-- artesianref09.Seal -/
theorem refSeal_any {w : World} {p : Option Addr} {t : List Nat} {A : Option Addr} {n c : Nat} {b : List UInt8} (ht : Tab w p t) (h : Rd w A n (bys b)) (hn : n ≤ 35184372088832) :
    Calls Try.prog 35 #[.pointer p, .slice A n c] w (SealPost w (crcSeal t b) (n + 4)) := by
  have HL := Lib.hid ht.len
  have HT := Lib.hid (And.intro ht h)
  clear ht h
  obtain ⟨i0, hi0, hz0, hz1, hz2⟩ := info_parts u8_info
  go_enter Try.func35, Try.ntmps35
  go_wp2_with (at_builtin; refine wpList_append_rd _ rfl (.tmp 8) (.tmp 9) _ rfl w.heap.size 5 i0 _ 1 1 Try.underlying22 hi0 hz0 hz1 hz2 rfl (by omega) _ 0 [] rfl (own_new0 w _ _ (Nat.le_refl _)) A n c (bys b) rfl (by simpa using HT.out.2.alloc _) (bys_one b) (by simp only [maxLen]; omega) (by omega) (by simp) ?_; intro v1 w1 hown1 hg1 hat1)
  have hb1 := ((Below.refl w.heap.size w).alloc (Nat.le_refl _) _).grown hg1 (by simp) (fun k hk => ((own_new0 w 5 _ (Nat.le_refl _)).lt k hk).1)
  have H1 := Lib.hid (And.intro hown1 hb1)
  have hs1 := hb1.size
  clear hown1 hb1 hg1 hat1
  refine (refSum_any (HT.out.1.below H1.out.2) (HT.out.2.below H1.out.2) (by omega)).mono ?_
  rintro e w2 ⟨rfl, rfl⟩
  have hsl := crcSum_lt HL.out.2 b
  obtain ⟨s, hs⟩ : ∃ s, s = crcSum t b := ⟨_, rfl⟩
  rw [← hs] at hsl ⊢
  have HS := Lib.hid (And.intro hs hsl)
  have s0 : (0 : Int) ≤ (s : Int) := by omega
  have s1 : (s : Int) < 4294967296 := by omega
  clear hs hsl
  go_wp2_with fail
  go_loopw [5, 6, 7] (fun v x i wr => ∃ k y : Nat, k ≤ 4 ∧ i = .int .i64 k ∧ x = .int .u32 (y : Int) ∧ Hid (y = s / 256 ^ k) ∧ Hid (wr.ownsRow w.heap.size 5 1 v (n + k) (bys (b ++ (le4 s).take k)) ∧ Below w.heap.size w wr)) (fun v x i wr => 4 - (intOf i).toNat)
  case atStart => exact ⟨0, s, by omega, rfl, rfl, Lib.hid (by simp), by rw [List.take_zero, List.append_nil]; exact Lib.hid ⟨by simpa using H1.out.1, H1.out.2⟩⟩
  case round =>
    obtain ⟨k, y, hk, rfl, rfl, HY, HB⟩ := hrel
    have hy : y ≤ s := by rw [HY.out]; exact Nat.div_le_self _ _
    have hsl := HS.out.2
    have y0 : (0 : Int) ≤ (y : Int) := by omega
    have y1 : (y : Int) < 4294967296 := by omega
    have hsz := HB.out.2.size
    clear hy hsl
    by_cases hlt : k < 4
    · have kd : decide ((k : Int) < 4) = true := by simp; omega
      have kl : (k : Int) < 4 := by omega
      go_wp2_with (at_builtin; refine wpList_append_rd _ rfl (.tmp 18) (.tmp 22) _ rfl w.heap.size 5 i0 _ 1 1 Try.underlying22 hi0 hz0 hz1 hz2 rfl (by omega) u5 _ _ rfl (HB.out.1.alloc _) _ 1 1 _ rfl (Rd.one _ _ _) (by intro u hu; simp at hu; subst hu; rfl) (by simp only [maxLen]; omega) (by omega) (by simp; omega) ?_; intro v1' w3 hown3 hg3 hat3)
      refine ⟨⟨k + 1, y / 256, by omega, by go_num, by go_num, Lib.hid (by rw [HY.out, Nat.div_div_eq_div_mul, Nat.pow_succ]), Lib.hid (seal_step (by rw [le4_getD s k hlt, ← HY.out]; omega) hlt HB.out.1 HB.out.2 hown3 hg3)⟩, by simp [intOf]; omega⟩
    · obtain rfl : k = 4 := by omega
      go_wp2_with fail
      go_ret
      obtain ⟨A', c', e', hnc, hcm, hl, _⟩ := own_form HB.out.1
      subst e'
      obtain ⟨g, hm, hg, _⟩ := Mut.of_own HB.out.1
      refine ⟨A', c', g, rfl, hnc, ?_, hg, HB.out.2⟩
      rw [show crcSeal t b = b ++ (le4 s).take 4 from by unfold crcSeal; rw [← HS.out.1]; rfl]
      exact hm
/-- slices.Equal -/
theorem take_get_eq {l l' : List UInt8} {k : Nat} (h : l.take k = l'.take k) (hk : k < l.length) (hk' : k < l'.length) (he : l[k] = l'[k]) : l.take (k + 1) = l'.take (k + 1) := by
  rw [List.take_succ_eq_append_getElem hk, List.take_succ_eq_append_getElem hk', h, he]
set_option maxRecDepth 100000 in
theorem equal_any {w : World} {A A' : Option Addr} {n n' c c' : Nat} {l l' : List UInt8} (h : Rd w A n (bys l)) (h' : Rd w A' n' (bys l')) (hn : n ≤ 140737488351232) :
    Calls Try.prog 59 #[.slice A n c, .slice A' n' c'] w fun e w' => e = .returned (.bool (l == l')) ∧ ∃ q, w' = w.drewN q := by
  have hl : l.length = n := by have := h.1; simpa [bys_length] using this
  have hl' : l'.length = n' := by have := h'.1; simpa [bys_length] using this
  by_cases hnn : n = n'
  · subst hnn
    have HH := Lib.hid (And.intro (And.intro hl hl') (And.intro h h'))
    clear hl hl' h h'
    go_enter Try.func59, Try.ntmps59
    go_wp2_with fail
    go_loopw [5, 13] (fun x i wr => ∃ k q : Nat, k ≤ n ∧ i = .int .i64 k ∧ wr = w.drewN q ∧ Hid (l.take k = l'.take k)) (fun x i wr => n - (intOf i).toNat)
    case atStart => exact ⟨0, 0, by omega, rfl, rfl, Lib.hid (by simp)⟩
    case round =>
      obtain ⟨k, q, hk, rfl, hwr, HE⟩ := hrel
      have HW := Lib.hid hwr
      by_cases hlt : k < n
      · have hk1 : k < l.length := by rw [HH.out.1.1]; exact hlt
        have hk2 : k < l'.length := by rw [HH.out.1.2]; exact hlt
        obtain ⟨b1, o1, rfl, _, hc1⟩ := HH.out.2.1.form (by omega)
        obtain ⟨b2, o2, rfl, _, hc2⟩ := HH.out.2.2.form (by omega)
        have hc1 : wr.cell? ⟨b1, o1 + k, none⟩ = some (.int .u8 (l[k].toNat : Int)) := by rw [hwr]; exact hc1 k _ (bys_get l k hk1)
        have hc2 : wr.cell? ⟨b2, o2 + k, none⟩ = some (.int .u8 (l'[k].toNat : Int)) := by rw [hwr]; exact hc2 k _ (bys_get l' k hk2)
        clear hwr
        have kn : (k : Int) < (n : Int) := by omega
        have kd : decide (k < n) = true := by simpa using hlt
        by_cases he : l[k] = l'[k]
        · have HE' := Lib.hid (take_get_eq HE.out hk1 hk2 he)
          rw [he] at hc1
          clear he
          go_wp2_with (go_quiet (fail))
          exact ⟨⟨k + 1, _, by omega, by go_num, by rw [HW.out]; exact World.drewN_drewN .., HE'⟩, by simp [intOf]; omega⟩
        · have hne : l[k].toNat ≠ l'[k].toNat := fun h => he (UInt8.toNat_inj.1 h)
          have hd : (!((l[k].toNat : Int) == (l'[k].toNat : Int))) = true := by simp; omega
          have hne' : ¬ ((l[k].toNat : Int) = (l'[k].toNat : Int)) := by omega
          have HF := Lib.hid (show (l == l') = false from by
            simp only [beq_eq_false_iff_ne]; intro e; subst e; exact he rfl)
          clear he
          go_wp2_with (go_quiet (fail))
          go_ret
          exact ⟨by rw [HF.out]; rfl, _, by rw [HW.out]; exact World.drewN_drewN ..⟩
      · obtain rfl : k = n := by omega
        have kd : decide (k < k) = false := by simp
        have HF := Lib.hid (show (l == l') = true from by
          have := HE.out
          rw [List.take_of_length_le (by rw [HH.out.1.1]; exact Nat.le_refl _), List.take_of_length_le (by rw [HH.out.1.2]; exact Nat.le_refl _)] at this
          simpa using this)
        clear hwr
        go_wp2_with fail
        go_ret
        exact ⟨by rw [HF.out]; rfl, _, HW.out⟩
  · have HF := Lib.hid (show (l == l') = false from by
      simp only [beq_eq_false_iff_ne]; intro e; subst e; exact hnn (hl.symm.trans hl'))
    have hne : ¬ ((n : Int) = (n' : Int)) := by omega
    clear h h' hl hl'
    go_enter Try.func59, Try.ntmps59
    go_wp2_with fail
    go_ret
    exact ⟨by rw [HF.out]; rfl, 0, rfl⟩
end Go.Proofs.Ytpfamjgdfcnieaa
