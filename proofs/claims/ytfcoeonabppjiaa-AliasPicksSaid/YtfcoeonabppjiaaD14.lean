/- pop of alias's heaps. -/
import Derived.Test.YtfcoeonabppjiaaC14
namespace Go.Proofs.Ytfcoeonabppjiaa
open Go.RowKit
set_option linter.unusedVariables false
theorem lst_yes {l : List Int} {i q d s : Nat} (h1 : 2 * i + 1 + q = d) (hd : d < l.length) (hs : s = lst l i q) (hlt : gi l d < gi l s) : d = lst l i (q + 1) := by
  subst hs h1; unfold lst; rw [if_pos ⟨hd, hlt⟩]
theorem lst_no {l : List Int} {i q d s : Nat} (h1 : 2 * i + 1 + q = d) (hs : s = lst l i q) (hlt : ¬ (d < l.length ∧ gi l d < gi l s)) : s = lst l i (q + 1) := by
  subst hs h1; rw [show lst l i (q + 1) = lst l i q from by conv => lhs; unfold lst; rw [if_neg hlt]]
theorem run_pair0 (x y : Int) (w : World) : (Instr.index 58 (.agg #[.int .i64 x, .int .i64 y]) (.int .i64 0)).run Try.prog w = .ok (.int .i64 x) w := by
  simp [Instr.index, run_underlying Try.underlying58, asIntOf, go_sem]
theorem run_pair1 (x y : Int) (w : World) : (Instr.index 58 (.agg #[.int .i64 x, .int .i64 y]) (.int .i64 1)).run Try.prog w = .ok (.int .i64 y) w := by
  simp [Instr.index, run_underlying Try.underlying58, asIntOf, go_sem]
/-- What pop leaves. -/
def PopPost (w : World) (h base : Nat) (A : Option Addr) (c : Nat) (l : List Int) (e : Ending) (w' : World) : Prop :=
  ∃ l', e = .returned (.int .i64 (gi l 0)) ∧ Bk w' h 45 [.slice A l'.length c] ∧ w'.ownsRow base 3 1 (.slice A l'.length c) l'.length (nums l') ∧
    Chg (fun k => k = h ∨ ∃ a, A = some a ∧ a.block = k) w w' ∧ Hp l' ∧ (gi l 0 :: l').Perm l
set_option maxRecDepth 100000 in
set_option maxHeartbeats 4000000 in
/-- (*alias.heap).pop -/
theorem pop_any {w : World} {h base c : Nat} {A : Option Addr} {l : List Int} (hv : Bk w h 45 [.slice A l.length c]) (ho : w.ownsRow base 3 1 (.slice A l.length c) l.length (nums l))
    (hh : ∀ a, A = some a → a.block ≠ h) (hp : Hp l) (h0 : 0 < l.length) (hn : l.length ≤ 1000000) :
    Calls Try.prog 28 #[.pointer (some ⟨h, 0, none⟩)] w (PopPost w h base A c l) := by
  obtain ⟨g, tl, rfl, hbg, hbk, _, htl, hcm⟩ := bk_of_own ho h0
  have hgh : g ≠ h := hh _ rfl
  obtain ⟨k, hk⟩ : ∃ k, l.length = k + 1 := ⟨l.length - 1, by omega⟩
  rw [hk] at hv htl
  have cv := hv.cell 0
  have c0 := hbk.cell 0
  rw [cell_left h0] at c0
  have ck := hbk.cell k
  rw [cell_left (by omega)] at ck
  have f0 := hbk.frozen 0
  have fk := hbk.frozen k
  have hb1 := hbk.set_ 0 (.int .i64 (gi l k))
  rw [set_left _ _ _ h0] at hb1
  have hv1 := (hv.far (p := ⟨g, 0, none⟩) (Ne.symm hgh) (.int .i64 (gi l k)))
  have fv1 := hv1.frozen 0
  have cv1 := hv1.cell 0
  have hb2 := hb1.far (p := ⟨h, 0, none⟩) hgh (.slice (some ⟨g, 0, none⟩) k c)
  have hv2 := hv1.set_ 0 (.slice (some ⟨g, 0, none⟩) k c)
  have hch : Chg (fun k => k = h ∨ ∃ a, some (⟨g, 0, none⟩ : Addr) = some a ∧ a.block = k) w ((w.setCell ⟨g, 0, none⟩ (.int .i64 (gi l k))).setCell ⟨h, 0, none⟩ (.slice (some ⟨g, 0, none⟩) k c)) :=
    ((Chg.refl _ w).set_ (.inr ⟨_, rfl, rfl⟩) _ _).set_ (.inl rfl) _ _
  have hbm : nums (l.set 0 (gi l k)) ++ tl = nums ((l.set 0 (gi l k)).take k) ++ (nums ((l.set 0 (gi l k)).drop k) ++ tl) := by
    rw [← List.append_assoc, ← nums_append, List.take_append_drop]
  rw [hbm] at hb2
  have hdn := Dn.start hp (gi l k) k
  have hml : ((l.set 0 (gi l k)).take k).length = k := by simp [hk]
  have hpp := pop_perm h0
  rw [hk, Nat.add_sub_cancel] at hpp
  have ht2 : k + (nums ((l.set 0 (gi l k)).drop k) ++ tl).length = c := by simp [nums_length, hk]; omega
  generalize (l.set 0 (gi l k)).take k = m0 at hb2 hdn hml hpp
  generalize nums ((l.set 0 (gi l k)).drop k) ++ tl = tl2 at hb2 ht2
  have k1 : (k : Int) ≤ 1000000 := by omega
  have b1 : (k : Int) < ((k + 1 : Nat) : Int) := by omega
  have kc : (k : Int) ≤ (c : Int) := by omega
  have HF := Lib.hid (And.intro hbg (And.intro ht2 (And.intro hcm (And.intro hpp hk))))
  have H2 := Lib.hid (And.intro hb2 (And.intro hv2 (And.intro hdn (And.intro hml hch))))
  clear h0
  clear hbg ht2 hcm hpp hb2 hv2 hdn hml hch hbm hb1 hv1 hbk hv ho hp hn htl hh
  have h0 : (0 : Int) < ((k + 1 : Nat) : Int) := by omega
  clear hk
  go_enter Try.func28, Try.ntmps28
  go_wp2
  have hvs : ∀ (u v : Value), [u].set 0 v = [v] := fun _ _ => rfl
  rw [hvs] at H2
  generalize (w.setCell ⟨g, 0, none⟩ (.int .i64 (gi l k))).setCell ⟨h, 0, none⟩ (.slice (some ⟨g, 0, none⟩) k c) = w2 at H2 ⊢
  clear cv c0 ck f0 fk cv1 fv1 hvs b1 kc
  go_loopw [6] (fun s6 wr => ∃ (i : Nat) (m : List Int), (i < k ∨ i = 0) ∧ s6 = .int .i64 i ∧ m.length = k ∧ Dn m i ∧ m.Perm m0 ∧ Bk wr g 3 (nums m ++ tl2) ∧ Bk wr h 45 [.slice (some ⟨g, 0, none⟩) k c] ∧ Chg (fun k => k = h ∨ ∃ a, some (⟨g, 0, none⟩ : Addr) = some a ∧ a.block = k) w wr) (fun s6 wr => k - (intOf s6).toNat)
  case atStart => exact ⟨0, m0, .inr rfl, rfl, H2.out.2.2.2.1, H2.out.2.2.1, List.Perm.refl _, H2.out.1, H2.out.2.1, H2.out.2.2.2.2⟩
  case round =>
    clear H2
    obtain ⟨i, m, hik, rfl, hml, hdn, hpm, hbm, hvm, hch⟩ := hrel
    have HI := Lib.hid (And.intro hik (And.intro hml (And.intro hdn hpm)))
    have HM := Lib.hid (And.intro hbm (And.intro hvm hch))
    have i63 : (i : Int) ≤ 1000000 := by omega
    have q1 : (2 : Int) * (i : Int) + 1 = ((2 * i + 1 : Nat) : Int) := by omega
    have q2 : (2 : Int) * (i : Int) + 2 = ((2 * i + 2 : Nat) : Int) := by omega
    have a63 : ((2 * i + 1 : Nat) : Int) ≤ 2000002 := by omega
    have b63 : ((2 * i + 2 : Nat) : Int) ≤ 2000002 := by omega
    generalize hA : 2 * i + 1 = a at *
    generalize hB : 2 * i + 2 = b at *
    have HAB := Lib.hid (And.intro hA hB)
    clear hik hml hdn hpm hbm hvm hch hA hB
    go_wp2
    go_loopw [7, 39] (fun s7 s39 wq => ∃ (q s : Nat), q ≤ 2 ∧ s39 = .int .i64 q ∧ s7 = .int .i64 s ∧ s = lst m i q ∧ Bk wq g 3 (nums m ++ tl2) ∧ Bk wq h 45 [.slice (some ⟨g, 0, none⟩) k c] ∧ Chg (fun k => k = h ∨ ∃ a, some (⟨g, 0, none⟩ : Addr) = some a ∧ a.block = k) w wq) (fun s7 s39 wq => 2 - (intOf s39).toNat)
    case atStart => exact ⟨0, i, by omega, rfl, rfl, rfl, HM.out.1, HM.out.2.1, HM.out.2.2⟩
    case round =>
      clear HM
      obtain ⟨q, s, hq, rfl, rfl, hs, hbm, hvm, hch⟩ := hrel
      have HM := Lib.hid (And.intro hbm (And.intro hvm hch))
      have HS := Lib.hid hs
      clear hbm hvm hch hs
      have x0 := run_pair0 a b
      have x1 := run_pair1 a b
      rcases (show q = 0 ∨ q = 1 ∨ q = 2 from by omega) with hq0 | hq0 | hq0
      · subst hq0
        by_cases hdk : (a : Int) < (k : Int)
        · have hik : i < k := by rcases HI.out.1 with x | x <;> omega
          have hsk : s < m.length := by rw [HS.out]; exact lst_lt (by rw [HI.out.2.1]; exact hik) _
          have hdm : a < m.length := by rw [HI.out.2.1]; omega
          have cs := HM.out.1.cell s
          rw [cell_left hsk] at cs
          have cd := HM.out.1.cell a
          rw [cell_left hdm] at cd
          have sk : (s : Int) < (k : Int) := by have := HI.out.2.1; omega
          have HX := Lib.hid (And.intro hsk hdm)
          clear hik hsk hdm
          by_cases hlt : gi m a < gi m s
          · have hdd : decide (gi m a < gi m s) = true := by simpa using hlt
            have HLT := Lib.hid hlt
            go_wp2_with fail
            go_quiet (fail)
            go_wp2
            exact ⟨⟨0+1, a, by omega, by go_num, rfl, lst_yes (by have := HAB.out.1; omega) HX.out.2 HS.out HLT.out, HM.out.1.drewN _, HM.out.2.1.drewN _, HM.out.2.2.drewN _⟩, by simp [intOf]⟩
          · have hdd : decide (gi m a < gi m s) = false := by simpa using hlt
            have HLT := Lib.hid hlt
            clear hlt
            go_wp2_with fail
            go_quiet (fail)
            go_wp2
            exact ⟨⟨0+1, s, by omega, by go_num, rfl, lst_no (d := a) (by have := HAB.out.1; omega) HS.out (fun x => by have := HLT.out; omega), HM.out.1.drewN _, HM.out.2.1.drewN _, HM.out.2.2.drewN _⟩, by simp [intOf]⟩
        · have hdd : decide (a < k) = false := by simp; omega
          go_wp2_with fail
          go_quiet (fail)
          go_wp2
          exact ⟨⟨0+1, s, by omega, by go_num, rfl, lst_no (d := a) (by have := HAB.out.1; omega) HS.out (fun x => by have := HI.out.2.1; omega), HM.out.1.drewN _, HM.out.2.1.drewN _, HM.out.2.2.drewN _⟩, by simp [intOf]⟩
      · subst hq0
        by_cases hdk : (b : Int) < (k : Int)
        · have hik : i < k := by rcases HI.out.1 with x | x <;> omega
          have hsk : s < m.length := by rw [HS.out]; exact lst_lt (by rw [HI.out.2.1]; exact hik) _
          have hdm : b < m.length := by rw [HI.out.2.1]; omega
          have cs := HM.out.1.cell s
          rw [cell_left hsk] at cs
          have cd := HM.out.1.cell b
          rw [cell_left hdm] at cd
          have sk : (s : Int) < (k : Int) := by have := HI.out.2.1; omega
          have HX := Lib.hid (And.intro hsk hdm)
          clear hik hsk hdm
          by_cases hlt : gi m b < gi m s
          · have hdd : decide (gi m b < gi m s) = true := by simpa using hlt
            have HLT := Lib.hid hlt
            go_wp2_with fail
            go_quiet (fail)
            go_wp2
            exact ⟨⟨1+1, b, by omega, by go_num, rfl, lst_yes (by have := HAB.out.2; omega) HX.out.2 HS.out HLT.out, HM.out.1.drewN _, HM.out.2.1.drewN _, HM.out.2.2.drewN _⟩, by simp [intOf]⟩
          · have hdd : decide (gi m b < gi m s) = false := by simpa using hlt
            have HLT := Lib.hid hlt
            clear hlt
            go_wp2_with fail
            go_quiet (fail)
            go_wp2
            exact ⟨⟨1+1, s, by omega, by go_num, rfl, lst_no (d := b) (by have := HAB.out.2; omega) HS.out (fun x => by have := HLT.out; omega), HM.out.1.drewN _, HM.out.2.1.drewN _, HM.out.2.2.drewN _⟩, by simp [intOf]⟩
        · have hdd : decide (b < k) = false := by simp; omega
          go_wp2_with fail
          go_quiet (fail)
          go_wp2
          exact ⟨⟨1+1, s, by omega, by go_num, rfl, lst_no (d := b) (by have := HAB.out.2; omega) HS.out (fun x => by have := HI.out.2.1; omega), HM.out.1.drewN _, HM.out.2.1.drewN _, HM.out.2.2.drewN _⟩, by simp [intOf]⟩
      · subst hq0
        have HB := Lib.hid (lst_two (l := m) (i := i))
        rw [← HS.out] at HB
        by_cases hsi : s = i
        · subst hsi
          go_wp2
          go_ret
          have hc : (2 * s + 1 < m.length → gi m s ≤ gi m (2 * s + 1)) ∧ (2 * s + 2 < m.length → gi m s ≤ gi m (2 * s + 2)) := by
            rcases HB.out with hc | hc
            · exact hc.2
            · have := hc.2.2.1; omega
          have hmk : m.length = k := HI.out.2.1
          refine ⟨m, rfl, by rw [hmk]; exact HM.out.2.1, by rw [hmk]; exact own_of_bk HM.out.1 HF.out.1 hmk HF.out.2.1 HF.out.2.2.1, HM.out.2.2, HI.out.2.2.1.stop hc.1 hc.2, (List.Perm.cons _ HI.out.2.2.2).trans HF.out.2.2.2.1⟩
        · have hc : (s = 2 * i + 1 ∨ s = 2 * i + 2) ∧ s < m.length ∧ gi m s < gi m i ∧ (2 * i + 1 < m.length → gi m s ≤ gi m (2 * i + 1)) ∧ (2 * i + 2 < m.length → gi m s ≤ gi m (2 * i + 2)) := by
            rcases HB.out with hc | hc
            · exact absurd hc.1 hsi
            · exact hc
          have hil : i < m.length := by omega
          have ci := HM.out.1.cell i
          rw [cell_left hil] at ci
          have cs := HM.out.1.cell s
          rw [cell_left hc.2.1] at cs
          have fi := HM.out.1.frozen i
          have fs := HM.out.1.frozen s
          have hmk := HI.out.2.1
          have b1 : (i : Int) < (k : Int) := by omega
          have b2 : (s : Int) < (k : Int) := by omega
          have hsi' : ((s : Int) == (i : Int)) = false := by simp; omega
          have n1 : ¬ i = s := fun e => hsi e.symm
          have HC := Lib.hid (And.intro hc (And.intro hil hmk))
          clear hc hil HB hmk x0 x1
          go_wp2_with fail
          go_region
          all_goals (
            go_wp2
            refine ⟨⟨s, swp m i s, .inl (by have := HC.out.2.2; have := HC.out.1.2.1; omega), rfl, by rw [swp_length]; exact HC.out.2.2, HI.out.2.2.1.step HC.out.1.2.1 HC.out.1.1 HC.out.1.2.2.1 HC.out.1.2.2.2.1 HC.out.1.2.2.2.2, (swp_perm HC.out.2.1 HC.out.1.2.1).trans HI.out.2.2.2, ?_, ?_, ?_⟩, ?_⟩)
          · have := (HM.out.1.set_ i (.int .i64 (gi m s))).set_ s (.int .i64 (gi m i))
            rw [set_left _ _ _ HC.out.2.1, set_left _ _ _ (by rw [List.length_set]; exact HC.out.1.2.1)] at this
            exact this
          · exact (HM.out.2.1.far (p := ⟨g, i, none⟩) (Ne.symm hgh) _).far (p := ⟨g, s, none⟩) (Ne.symm hgh) _
          · exact ((HM.out.2.2.set_ (.inr ⟨_, rfl, rfl⟩) _ _).set_ (.inr ⟨_, rfl, rfl⟩) _ _).drew
          · have h1 := HC.out.1.1
            have h2 := HC.out.1.2.1
            have h3 := HC.out.2.2
            simp [intOf]
            omega
end Go.Proofs.Ytfcoeonabppjiaa
