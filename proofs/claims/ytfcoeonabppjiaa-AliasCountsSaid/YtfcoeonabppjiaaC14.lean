/- push and pop of alias's heaps. -/
import Derived.Test.YtfcoeonabppjiaaB14
namespace Go.Proofs.Ytfcoeonabppjiaa
open Go.RowKit
set_option linter.unusedVariables false
/-- What push leaves. -/
def PushPost (w : World) (h base : Nat) (A : Option Addr) (l : List Int) (x : Int) (e : Ending) (w' : World) : Prop :=
  e = .returned (.tuple #[]) ∧ ∃ A' c' l', Bk w' h 45 [.slice A' l'.length c'] ∧ w'.ownsRow base 3 1 (.slice A' l'.length c') l'.length (nums l') ∧
    (∀ a, A' = some a → (∃ b, A = some b ∧ a.block = b.block) ∨ w.heap.size ≤ a.block) ∧ Chg (fun k => k = h ∨ ∃ a, A = some a ∧ a.block = k) w w' ∧ Hp l' ∧ l'.Perm (x :: l)
set_option maxRecDepth 100000 in
set_option maxHeartbeats 4000000 in
/-- (*alias.heap).push -/
theorem push_any {w : World} {h base c : Nat} {A : Option Addr} {l : List Int} (x : Int) (hv : Bk w h 45 [.slice A l.length c]) (ho : w.ownsRow base 3 1 (.slice A l.length c) l.length (nums l))
    (hh : ∀ a, A = some a → a.block ≠ h) (hp : Hp l) (hb : base ≤ w.heap.size) (hn : l.length ≤ 1000000) :
    Calls Try.prog 27 #[.pointer (some ⟨h, 0, none⟩), .int .i64 x] w (PushPost w h base A l x) := by
  obtain ⟨i0, hi0, hz0, hz1, hz2⟩ := info_parts u3_info
  have c0 := hv.cell 0
  have HN := Lib.hid hn
  have HV := Lib.hid hv
  have hne : some h ≠ (Value.slice A l.length c).ownBlock := by
    rcases A with _ | a
    · simp [Value.ownBlock]
    · simpa [Value.ownBlock] using fun e => hh a rfl e.symm
  have HO := Lib.hid ho
  have HH := Lib.hid hh
  clear ho hh
  go_enter Try.func27, Try.ntmps27
  go_wp2_with (at_builtin; refine wpList_append_rd _ rfl (.tmp 9) (.tmp 11) _ rfl base 3 i0 _ 1 8 Try.underlying45 hi0 hz0 hz1 hz2 rfl (by omega) _ l.length (nums l) rfl (own_below HO.out ((Below.refl _ _).alloc (Nat.le_refl _) _)) (some ⟨w.heap.size, 0, none⟩) 1 1 (nums [x]) rfl (Rd.lit _ _ _ _ rfl 1 rfl _ rfl) (nums_one _) (by have := HN.out; simp only [maxLen]; omega) (by have := HN.out; omega) (by simp; omega) ?_; intro v1 w1 hown1 hg1 hat1; rw [← nums_append] at hown1; have hv1 := (HV.out.alloc _).grown hg1 hne; have cx := hv1.cell 0; have fx := hv1.frozen 0; obtain ⟨g, c1, tl, rfl, hbg, hbk, hll, htl, hcm⟩ := bk_of_ownv hown1 (by omega); have hgh : g ≠ h := (by intro e; subst e; have := hbk.inj (t' := 45) hv1; simp [nums] at this; cases l <;> simp at this))
  have hS : Chg (fun k => k = h ∨ ∃ a, A = some a ∧ a.block = k) w (w1.setCell ⟨h, 0, none⟩ (.slice (some ⟨g, 0, none⟩) (l.length + 1) c1)) := by
    have h1 : Chg (fun k => k = h ∨ ∃ a, A = some a ∧ a.block = k) w w1 := ((Chg.refl _ w).alloc _).trans (Chg.of_grown hg1 (S := fun k => ∃ a, A = some a ∧ a.block = k) (fun k hk => by
      rcases A with _ | a
      · change none = some k at hk; cases hk
      · change some a.block = some k at hk; exact ⟨a, rfl, by injection hk⟩)) (fun k _ hx => .inr hx)
    exact h1.set_ (.inl rfl) _ _
  have hA1 : (∃ b, A = some b ∧ g = b.block) ∨ w.heap.size ≤ g := by
    rcases hat1 with e | e
    · rcases A with _ | a
      · change some g = none at e; cases e
      · change some g = some a.block at e; exact .inl ⟨a, rfl, by injection e⟩
    · change some g = some _ at e
      injection e with e
      rw [World.size_alloc] at e
      exact .inr (by omega)
  have hv2 := hv1.set_ 0 (.slice (some ⟨g, 0, none⟩) (l.length + 1) c1)
  have hb2 := hbk.far (p := ⟨h, 0, none⟩) hgh (.slice (some ⟨g, 0, none⟩) (l.length + 1) c1)
  have hup := Up.snoc hp x
  have hpm : (l ++ [x]).Perm (x :: l) := List.perm_append_comm (l₁ := l) (l₂ := [x])
  clear hn
  generalize w1.setCell ⟨h, 0, none⟩ (.slice (some ⟨g, 0, none⟩) (l.length + 1) c1) = w2 at hS hv2 hb2 ⊢
  generalize hNN : l.length + 1 = N at hv2 hb2 htl ⊢
  have HF := Lib.hid (And.intro hA1 (And.intro hbg (And.intro htl (And.intro hcm hNN))))
  clear hg1 hat1 hown1 hbk hA1 hv1 cx fx hp c0 hv HV HO hne hbg hi0 hz0 hz1 hz2 hcm htl hNN hll
  go_loopw [4] (fun s4 wr => ∃ (i : Nat) (m : List Int), i < m.length ∧ s4 = .int .i64 i ∧ m.length = l.length + 1 ∧ Up m i ∧ m.Perm (x :: l) ∧ Bk wr g 3 (nums m ++ tl) ∧ Bk wr h 45 [.slice (some ⟨g, 0, none⟩) N c1] ∧ Chg (fun k => k = h ∨ ∃ a, A = some a ∧ a.block = k) w wr) (fun s4 wr => (intOf s4).toNat)
  case atStart => exact ⟨l.length, l ++ [x], by simp, rfl, by simp, hup, hpm, hb2, hv2, hS⟩
  case round =>
    clear hup hpm hb2 hv2 hS
    obtain ⟨i, m, him, rfl, hml, hup, hpm, hbm, hvm, hch⟩ := hrel
    have cv := hvm.cell 0
    have fv := hvm.frozen 0
    have hi63 : (i : Int) ≤ 1000000 := by have := HN.out; omega
    have HM := Lib.hid (And.intro him (And.intro hml (And.intro hup (And.intro hpm (And.intro hbm (And.intro hvm hch))))))
    have hdone : ∀ w9, w9.heap = wr.heap → Chg (fun k => k = h ∨ ∃ a, A = some a ∧ a.block = k) w w9 → (i = 0 ∨ gi m ((i - 1) / 2) ≤ gi m i) → PushPost w h base A l x (.returned (.tuple #[])) w9 := fun w9 e9 h9 hs => by
      obtain ⟨hA1, hbg, htl, hcm, hNN⟩ := HF.out
      have hmN : m.length = N := by omega
      have hb9 : Bk w9 g 3 (nums m ++ tl) := by unfold Bk at hbm ⊢; rw [e9]; exact hbm
      have hv9 : Bk w9 h 45 [.slice (some ⟨g, 0, none⟩) N c1] := by unfold Bk at hvm ⊢; rw [e9]; exact hvm
      refine ⟨rfl, some ⟨g, 0, none⟩, c1, m, by rw [hmN]; exact hv9, by rw [hmN]; exact own_of_bk hb9 hbg hmN htl hcm, fun a ha => ?_, h9, hup.stop hs, hpm⟩
      injection ha with ha
      subst ha
      exact hA1
    have HD := Lib.hid hdone
    clear hdone hml hup hpm hvm hch
    by_cases hi : (0 : Int) < (i : Int)
    · have hu : (i - 1) / 2 < m.length := by omega
      have hq : ((i : Int) - 1).tdiv 2 = (((i - 1) / 2 : Nat) : Int) := by rw [Int.tdiv_eq_ediv_of_nonneg (by omega)]; omega
      have ci := hbm.cell i
      rw [cell_left him] at ci
      have cu := hbm.cell ((i - 1) / 2)
      rw [cell_left hu] at cu
      have fi := hbm.frozen i
      have fu := hbm.frozen ((i - 1) / 2)
      have hui : (i - 1) / 2 < i := by omega
      generalize hU : (i - 1) / 2 = u at *
      have b1 : (u : Int) < (N : Int) := by have := HM.out.2.1; have := HF.out.2.2.2.2; omega
      have b2 : (i : Int) < (N : Int) := by have := HM.out.2.1; have := HF.out.2.2.2.2; omega
      have hu63 : (u : Int) ≤ 1000000 := by omega
      have n1 : ¬ u = i := by omega
      have n2 : ¬ i = u := by omega
      have HU := Lib.hid (And.intro hU hui)
      clear hbm hU him hu hui
      by_cases hle : gi m u ≤ gi m i
      · have hd : decide (gi m u ≤ gi m i) = true := by simpa using hle
        go_wp2_with fail
        go_quiet (fail)
        go_wp2
        refine bodyPost_ret (results_none rfl _ _ _) rfl ?_
        exact HD.out _ rfl (HM.out.2.2.2.2.2.2.drewN _) (.inr hle)
      · have hd : decide (gi m u ≤ gi m i) = false := by simpa using hle
        go_wp2_with fail
        go_quiet (fail)
        go_wp2_with fail
        go_upto_region 5 with fail
        have eh : (wr.drewN nq).heap = wr.heap := rfl
        have e4 : Chg (fun k => k = h ∨ ∃ a, A = some a ∧ a.block = k) w (wr.drewN nq) := HM.out.2.2.2.2.2.2.drewN _
        have HB4 := Lib.hid (And.intro (show Bk (wr.drewN nq) g 3 (nums m ++ tl) from HM.out.2.2.2.2.1) (And.intro (show Bk (wr.drewN nq) h 45 [.slice (some ⟨g, 0, none⟩) N c1] from HM.out.2.2.2.2.2.1) e4))
        clear HD hd eh e4 cv fv ci cu fi fu
        generalize wr.drewN nq = w4 at HB4 ⊢
        have cv := HB4.out.2.1.cell 0
        have fv := HB4.out.2.1.frozen 0
        have ci := HB4.out.1.cell i
        rw [cell_left HM.out.1] at ci
        have hul : u < m.length := by have := HM.out.1; have := HU.out.2; omega
        have cu := HB4.out.1.cell u
        rw [cell_left hul] at cu
        have fi := HB4.out.1.frozen i
        have fu := HB4.out.1.frozen u
        have HL := Lib.hid hul
        clear hul
        go_region
        all_goals (
          go_wp2
          refine ⟨⟨u, swp m u i, by rw [swp_length]; exact HL.out, rfl, by rw [swp_length]; exact HM.out.2.1, ?_, (swp_perm HL.out HM.out.1).trans HM.out.2.2.2.1, ?_, ?_, ?_⟩, ?_⟩)
        · have := HM.out.2.2.1.step (by omega) HM.out.1 (by rw [HU.out.1]; exact hle)
          rw [HU.out.1] at this
          exact this
        · have := (HB4.out.1.set_ u (.int .i64 (gi m i))).set_ i (.int .i64 (gi m u))
          rw [set_left _ _ _ HL.out, set_left _ _ _ (by rw [List.length_set]; exact HM.out.1)] at this
          exact this
        · exact (HB4.out.2.1.far (p := ⟨g, u, none⟩) (Ne.symm hgh) _).far (p := ⟨g, i, none⟩) (Ne.symm hgh) _
        · have hcg : ∀ wa (o : Nat) (y : Value), Chg (fun k => k = h ∨ ∃ a, A = some a ∧ a.block = k) w wa → Chg (fun k => k = h ∨ ∃ a, A = some a ∧ a.block = k) w (wa.setCell ⟨g, o, none⟩ y) := fun wa o y hx => by
            rcases HF.out.1 with ⟨b, e1, e2⟩ | hge
            · exact hx.set_ (.inr ⟨b, e1, e2.symm⟩) _ _
            · exact hx.setN hge _ _
          exact (hcg _ _ _ (hcg _ _ _ HB4.out.2.2)).drew
        · have := HU.out.2
          simp [intOf]
          omega
    · have hd : decide ((0 : Int) < (i : Int)) = false := by simpa using hi
      clear hbm him
      go_wp2
      go_end0
      exact HD.out _ rfl HM.out.2.2.2.2.2.2 (.inl (by omega))
end Go.Proofs.Ytfcoeonabppjiaa
