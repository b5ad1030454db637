/- The document's graph: Take. -/
import Derived.Test.YtcgcbajgclkmkaaRj20
namespace Go.Proofs.Ytcgcbajgclkmkaa
open Go.RowKit
set_option linter.unusedVariables false
section
variable {w w' : World} {base W KB : Nat} {A : Option Addr} {pc : Nat} {vs : List Value} {R : Nat → Option Nat} {kn : List Bool} {S : List (List Int)} {most : Int}
theorem RG.take_ (h : RG w base W KB A pc vs R kn S most) (i : Nat) : RG (w.setCell ⟨KB, i, none⟩ (.bool true)) base W KB A pc vs R (kn.set i true) S most := by
  have hc : Chg (fun b => b = KB) w (w.setCell ⟨KB, i, none⟩ (.bool true)) := (Chg.refl (fun b => b = KB) w).set_ (g := KB) (show (fun b => b = KB) KB from rfl) _ _
  have hWK : W ≠ KB := fun e => by have := h.tK; rw [← e, h.tW] at this; cases this
  refine { h with g := ?_, kb := ?_, so := hc.own h.so (fun a ha (e : a.block = KB) => by have := h.tA a ha; rw [e, h.tK] at this; cases this), rd := ⟨h.rd.1, fun i x hx => ?_⟩, lt := fun b e => ⟨(h.lt b e).1, Nat.lt_of_lt_of_le (h.lt b e).2 hc.size⟩, bs := Nat.le_trans h.bs hc.size, ss := ?_, kz := by rw [List.length_set]; exact h.kz }
  · rw [List.length_set]; exact hc.bk h.g hWK
  · have := h.kb.set_ i (.bool true)
    rw [bools_set] at this
    exact this
  · obtain ⟨B, c, h1, h2, h3⟩ := h.rd.2 i x hx
    exact ⟨B, c, h1, hc.rd h2 (fun a ha (e : a.block = KB) => by subst ha; have := h.rt _ _ _ _ h1; rw [e, h.tK] at this; cases this), h3⟩
  · rw [List.length_set]; exact h.ss
def RTPost (w : World) (base W KB : Nat) (A : Option Addr) (pc : Nat) (vs : List Value) (R : Nat → Option Nat) (kn : List Bool) (S : List (List Int)) (most x : Int) (e : Ending) (w' : World) : Prop :=
  ∃ v, e = .returned (.tuple #[v, .int .i64 (tkE kn x)]) ∧ w'.ownsRow w.heap.size 3 1 v (tkL kn S x).length (nums (tkL kn S x)) ∧ RG w' base W KB A pc vs R (tkK kn x) S most ∧ Chg (fun b => b = KB) w w'
theorem flt_succ {l : List Int} {j : Nat} (hj : j < l.length) (f : Int → Bool) : (l.take (j + 1)).filter f = (l.take j).filter f ++ (if f (gi l j) then [gi l j] else []) := by
  rw [List.take_succ_eq_append_getElem hj, List.filter_append, gi_get hj]
  cases h : f l[j] <;> simp [h]
set_option maxRecDepth 100000 in
set_option maxHeartbeats 3200000 in
/-- Take -/
theorem rTake_any (h : RG w base W KB A pc vs R kn S most) (x : Int) :
    Calls Try.prog 33 #[.pointer (some ⟨W, 0, none⟩), .int .i64 x] w (RTPost w base W KB A pc vs R kn S most x) := by
  obtain ⟨K, hK⟩ : ∃ K, kn.length = K := ⟨_, rfl⟩
  have H := Lib.hid (And.intro h (And.intro (rOf_any h x) hK))
  by_cases hx : 0 ≤ x ∧ x < K
  · obtain ⟨s, rfl⟩ : ∃ p : Nat, x = p := ⟨x.toNat, by omega⟩
    have hsK : s < kn.length := by omega
    have hin : inK kn (s : Int) = true := decide_eq_true (by omega)
    have ks : (s : Int) < (K : Int) := by omega
    have HN := Lib.hid (And.intro hin hsK)
    clear h hx hK hin hsK
    go_enter Try.func33, Try.ntmps33
    go_wp2_with fail
    refine H.out.2.1.mono ?_
    rintro e w1 ⟨v1, rfl, ho1, hb1⟩
    rw [show owE kn (s : Int) = 0 from by unfold owE; rw [HN.out.1]; rfl]
    have hR1 := H.out.1.below hb1
    have cg := hR1.g.cell 0
    rw [H.out.2.2] at cg
    have ck := hR1.kb.cell s
    rw [bools_at HN.out.2] at ck
    have fk := hR1.kb.frozen s
    obtain ⟨A1, c1, rfl, _⟩ := own_form ho1
    obtain ⟨l, hl⟩ : ∃ l, owL kn S (s : Int) = l := ⟨_, rfl⟩
    rw [hl] at ho1 ⊢
    cases hk : knw kn (s : Int) with
    | true =>
      have HE := Lib.hid (And.intro (show tkE kn (s : Int) = 11 from by unfold tkE; rw [HN.out.1, hk]; rfl) (And.intro (show tkL kn S (s : Int) = [] from by unfold tkL; rw [hk]; simp) (And.intro (show tkK kn (s : Int) = kn from by unfold tkK; rw [hk]; simp) (And.intro hR1 hb1))))
      rw [hk] at ck
      clear hk ho1 hb1 hR1 hl
      go_wp2
      go_ret2
      exact ⟨_, by rw [HE.out.1]; rfl, by rw [HE.out.2.1]; exact World.ownsRow_nil _ _ _ _, by rw [HE.out.2.2.1]; exact HE.out.2.2.2.1, Chg.of_below HE.out.2.2.2.2⟩
    | false =>
      obtain ⟨kn', hkn'⟩ : ∃ kn', kn.set s true = kn' := ⟨_, rfl⟩
      have e1 : tkE kn (s : Int) = 0 := by unfold tkE; rw [HN.out.1, hk]; rfl
      have e2 : tkL kn S (s : Int) = l.filter fun n => (rst kn' (S.getD n.toNat [])).length == 1 := by
        unfold tkL; rw [HN.out.1, hk, Int.toNat_natCast, hkn', ← hl]
        unfold owL wts; rw [HN.out.1, Int.toNat_natCast, hk]; rfl
      have e3 : tkK kn (s : Int) = kn' := by unfold tkK; rw [HN.out.1, hk, Int.toNat_natCast, hkn']; rfl
      have hlin : ∀ n ∈ l, ∃ p : Nat, n = p ∧ p < S.length := fun n hn => by
        rw [← hl] at hn
        unfold owL at hn
        rw [HN.out.1, if_pos rfl] at hn
        obtain ⟨p, h1, h2, _⟩ := wts_in hn
        exact ⟨p, h1, h2⟩
      have hR2 := hR1.take_ s
      rw [hkn'] at hR2
      have hc2 : Chg (fun b => b = KB) w1 (w1.setCell ⟨KB, s, none⟩ (.bool true)) := (Chg.refl (fun b => b = KB) w1).set_ (g := KB) (show (fun b => b = KB) KB from rfl) _ _
      have hKB := H.out.1.kb.lt
      have hrd2 := hc2.rd (Rd.of_own ho1) (fun a ha (e : a.block = KB) => by have := (own_ge ho1 a ha).1; omega)
      obtain ⟨ln, hln⟩ : ∃ ln, l.length = ln := ⟨_, rfl⟩
      rw [hln] at hrd2 ⊢
      have hl6 : ln ≤ 100000 := by
        have : l.length ≤ S.length := by rw [← hl]; unfold owL; split; exact wts_le _ _ _; exact Nat.zero_le _
        have := H.out.1.sz; omega
      obtain ⟨sl, hsl⟩ : ∃ sl, S.length = sl := ⟨_, rfl⟩
      have hsz := H.out.1.sz
      rw [hsl] at hsz
      have hsz' : (sl : Int) ≤ 100000 := by omega
      have hl6' : (ln : Int) ≤ 100000 := by omega
      have HE := Lib.hid (And.intro e1 (And.intro e2 (And.intro e3 (And.intro hlin (And.intro hln hsl)))))
      have H2 := Lib.hid (And.intro hR2 (And.intro hrd2 (show Chg (fun b => b = KB) w (w1.setCell ⟨KB, s, none⟩ (.bool true)) from (Chg.of_below hb1).trans hc2 fun _ _ e => e)))
      have hsz1 := Lib.hid hb1.size
      rw [hk] at ck
      clear hk ho1 hb1 hR1 hR2 hl e1 e2 e3 hlin hln hrd2 hsl hkn' hc2 hKB hl6 hsz
      go_wp2
      obtain ⟨w2, hw2⟩ : ∃ w2, w1.setCell ⟨KB, s, none⟩ (.bool true) = w2 := ⟨_, rfl⟩
      have hw2s : w1.heap.size ≤ w2.heap.size := by rw [← hw2]; simp
      have HS2 := Lib.hid hw2s
      rw [hw2] at H2 ⊢
      clear hw2 ck fk cg hw2s
      go_loopw [8, 9] (fun v i wr => ∃ j : Nat, j ≤ ln ∧ i = .int .i64 j ∧ wr.ownsRow w2.heap.size 3 1 v ((l.take j).filter fun n => (rst kn' (S.getD n.toNat [])).length == 1).length (nums ((l.take j).filter fun n => (rst kn' (S.getD n.toNat [])).length == 1)) ∧ Below w2.heap.size w2 wr) (fun v i wr => ln - (intOf i).toNat)
      case atStart => exact ⟨0, by omega, rfl, World.ownsRow_nil _ _ _ _, Below.refl _ _⟩
      case round =>
        obtain ⟨j, hj, rfl, how, hbw⟩ := hrel
        by_cases hlt : j < ln
        · have hjl : j < l.length := by rw [HE.out.2.2.2.2.1]; exact hlt
          obtain ⟨p, hp, hpS⟩ := HE.out.2.2.2.1 _ (gi_mem hjl)
          have hR := H2.out.1.below hbw
          have cg := hR.g.cell 2
          rw [HE.out.2.2.2.2.2] at cg
          obtain ⟨b, off, rfl, hbl, hcc⟩ := (H2.out.2.1.below hbw).form (by omega)
          have cx := hcc j _ (nums_gi hjl)
          have HF := flt_succ hjl (fun n => (rst kn' (S.getD n.toNat [])).length == 1)
          rw [hp] at cx HF
          simp only [Int.toNat_natCast] at HF
          obtain ⟨a, off2, B, c', hA, cr, hrd⟩ := hR.row hpS
          have hi := hR.in_ hpS
          have hi2 := hi.2
          have HQ := rrest_any (c := c') (hR.below (Below.refl _ _).drew) (hrd.below (Below.refl _ _).drew) (by omega) hi.1
          have hfl : ((l.take j).filter fun n => (rst kn' (S.getD n.toNat [])).length == 1).length ≤ j := Nat.le_trans (List.length_filter_le _ _) (by rw [List.length_take]; omega)
          obtain ⟨m, hm⟩ : ∃ l, S.getD p [] = l := ⟨_, rfl⟩
          rw [hm] at cr HQ hi2
          simp only [hm] at HF
          obtain ⟨F, hF⟩ : ∃ F, ((l.take j).filter fun n => (rst kn' (S.getD n.toNat [])).length == 1) = F := ⟨_, rfl⟩
          rw [hF] at how HF hfl
          obtain ⟨r, hr⟩ : ∃ r, F.length = r := ⟨_, rfl⟩
          rw [hr] at how hfl
          have hrl : (rst kn' m).length ≤ 65536 := Nat.le_trans (List.length_filter_le _ _) hi2
          generalize m.length = n at cr HQ hi2
          subst hA
          have km : (j : Int) < (ln : Int) := by omega
          have kp : (p : Int) < (sl : Int) := by have := HE.out.2.2.2.2.2; omega
          have HQ := Lib.hid HQ
          have HF := Lib.hid HF
          have HW := Lib.hid (And.intro how (And.intro hbw (And.intro hlt (And.intro hr (And.intro hrl (World.block_lt_of_cell? _ _ cx))))))
          have CX := Lib.hid cx
          clear how hbw hR hlt hpS hp hj hjl hrd hi hm hF hr hi2 hrl hbl hcc
          go_wp2_with fail
          go_still_tail 11, (by kernel_rfl)
          change wpList _ _ _ _ _ wr.drew
          go_wp2_with fail
          refine HQ.out.mono ?_
          rintro e w8 ⟨v8, rfl, ho8, hb8⟩
          obtain ⟨A8, c8, rfl, _⟩ := own_form ho8
          have hb9 := below_undrew hb8
          have cx8 := (hb9.cell (p := ⟨b, off + j, none⟩) HW.out.2.2.2.2.2).trans CX.out
          have H8 := Lib.hid (And.intro (own_below HW.out.1 hb9) (below_base HW.out.2.1 hb9 HW.out.2.1.size))
          obtain ⟨rl, hrl⟩ : ∃ rl, (rst kn' m).length = rl := ⟨_, rfl⟩
          have HF := HF.out
          simp only [hrl] at HF
          rw [hrl]
          clear ho8 hb8 hb9 cx cr cg hrl
          by_cases h1 : rl = 1
          · subst h1
            rw [if_pos (show ((1 : Nat) == 1) = true from rfl)] at HF
            have HF := Lib.hid HF
            obtain ⟨i0, hi0, hz0, hz1, hz2⟩ := info_parts u3_info
            obtain ⟨Aw, cw, rfl, hvw⟩ := own_slice H8.out.1
            clear hvw
            go_wp2_with (at_builtin; refine wpList_append_rd _ rfl (.tmp 52) (.tmp 57) _ rfl w2.heap.size 3 i0 _ 1 8 Try.underlying32 hi0 hz0 hz1 hz2 rfl (by omega) _ r (nums F) rfl (own_below H8.out.1 ((Below.refl _ _).alloc (Nat.le_refl _) _)) (some ⟨w8.heap.size, 0, none⟩) 1 1 (nums [(p : Int)]) rfl (Rd.lit _ _ _ _ rfl 1 rfl _ rfl) (nums_one _) (by simp only [maxLen]; omega) (by omega) (by have := H8.out.2.size; rw [World.size_alloc]; omega) ?_; intro v1 w3 hown1 hg1 hat1; rw [← nums_append] at hown1)
            have hc : Chg (fun b => (Value.slice Aw r cw).ownBlock = some b) w8 w3 := ((Chg.refl _ w8).alloc _).trans (Chg.of_grown hg1 (S := fun b => (Value.slice Aw r cw).ownBlock = some b) fun k e => e) fun _ _ x => x
            exact ⟨⟨j + 1, by have := HW.out.2.2.1; omega, by go_num, by rw [HF.out, List.length_append, HW.out.2.2.2.1]; exact hown1, hc.below H8.out.2 (fun b _ e => (H8.out.1.lt b e).1) H8.out.2.size⟩, by have := HW.out.2.2.1; simp [intOf]; omega⟩
          · have d1 : ((rl : Int) == 1) = false := by simp; omega
            rw [if_neg (by simpa using h1), List.append_nil] at HF
            have HF := Lib.hid HF
            clear h1
            go_wp2
            exact ⟨⟨j + 1, by have := HW.out.2.2.1; omega, by go_num, by rw [HF.out, HW.out.2.2.2.1]; exact H8.out.1, H8.out.2⟩, by have := HW.out.2.2.1; simp [intOf]; omega⟩
        · obtain rfl : j = ln := by omega
          have htk : l.take j = l := List.take_of_length_le (by rw [HE.out.2.2.2.2.1]; exact Nat.le_refl _)
          rw [htk, ← HE.out.2.1] at how
          have HW := Lib.hid (And.intro how hbw)
          clear how hbw hlt hj htk
          go_wp2
          go_ret2
          exact ⟨_, by rw [HE.out.1]; rfl, own_mono HW.out.1 (Nat.le_trans hsz1.out HS2.out), by rw [HE.out.2.2.1]; exact H2.out.1.below HW.out.2, H2.out.2.2.trans (Chg.of_below HW.out.2) fun _ _ e => e⟩
  · have hin : inK kn x = false := decide_eq_false (by omega)
    have HE := Lib.hid (And.intro (show tkE kn x = 3 from by unfold tkE; rw [hin]; rfl) (And.intro (show tkL kn S x = [] from by unfold tkL; rw [hin]; simp) (And.intro (show tkK kn x = kn from by unfold tkK; rw [hin]; simp) hin)))
    clear h hx hK hin
    go_enter Try.func33, Try.ntmps33
    go_wp2_with fail
    refine H.out.2.1.mono ?_
    rintro e w1 ⟨v1, rfl, ho1, hb1⟩
    rw [show owE kn x = 3 from by unfold owE; rw [HE.out.2.2.2]; rfl]
    have HB := Lib.hid hb1
    clear ho1 hb1
    go_wp2
    go_ret2
    exact ⟨_, by rw [HE.out.1]; rfl, by rw [HE.out.2.1]; exact World.ownsRow_nil _ _ _ _, by rw [HE.out.2.2.1]; exact H.out.1.below HB.out, Chg.of_below HB.out⟩
end
end Go.Proofs.Ytcgcbajgclkmkaa
