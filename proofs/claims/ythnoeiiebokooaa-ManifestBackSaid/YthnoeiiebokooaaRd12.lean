/- Chapter 12: ManifestReads' walk. -/
import Derived.Test.YthnoeiiebokooaaKn12
namespace Go.Proofs.Ythnoeiiebokooaa
open Go.RowKit
set_option linter.unusedVariables false
theorem gm_rng (b : List UInt8) : R64 (gtM b).z ∧ R64 (gtM b).s ∧ R64 (gtM b).k ∧ R64 (gtM b).d ∧ (∀ x ∈ (gtM b).t, R64 x) ∧ (gtM b).t.length ≤ b.length := by
  rw [(gt_rt b).1]
  unfold rtM
  split
  · refine ⟨nb_R64 _, nb_R64 _, nb_R64 _, nb_R64 _, fun x hx => ?_, ?_⟩
    · have hx' : x ∈ rT b ((b.length - 20) / 4) := hx
      unfold rT at hx'
      obtain ⟨i, _, rfl⟩ := List.mem_map.1 hx'
      exact nb_R64 _
    · show (rT b _).length ≤ _
      rw [rT_len]; omega
  · refine ⟨⟨by decide, by decide⟩, ⟨by decide, by decide⟩, ⟨by decide, by decide⟩, ⟨by decide, by decide⟩, fun x hx => ?_, Nat.zero_le _⟩
    have hx' : x ∈ ([] : List Int) := hx
    cases hx'
def GlPost (w : World) (z s k d : Int) (t : List Int) (T : Nat) (E : Int) (e : Ending) (w' : World) : Prop :=
  ∃ A' c', e = .returned (.tuple #[.agg #[.int .i64 z, .int .i64 s, .int .i64 k, .int .i64 d, .slice A' T c'], .int .i64 E]) ∧ w'.ownsRow w.heap.size 3 1 (.slice A' T c') T (nums t) ∧ MA w' A' T c' ⟨z, s, k, d, t⟩ ∧ Below w.heap.size w w'
theorem gl_of {w w' : World} {b : List UInt8} {z s k d : Int} {t : List Int} {T : Nat} {E : Int} {e : Ending} (hm : gtM b = ⟨z, s, k, d, t⟩) (hT : t.length = T) (hb : b.length ≤ 17592186043904) (h : GmPost w (gtM b) E e w') : GlPost w z s k d t T E e w' := by
  have hr := gm_rng b
  rw [hm] at hr h
  obtain ⟨A', c', rfl, ho, hbl⟩ := h
  dsimp only at hr ho
  rw [hT] at hr ho
  refine ⟨A', c', by rw [← hT]; rfl, ho, ⟨Rd.of_own ho, by obtain ⟨_, _, ev, hle, _⟩ := own_form ho; injection ev with _ _ e3; omega, by omega, hT, hr.1, hr.2.1, hr.2.2.1, hr.2.2.2.1, hr.2.2.2.2.1⟩, hbl⟩
section
variable {w : World} {A : Option Addr} {n c : Nat} {b : List UInt8} {z s k d : Int} {t : List Int} {T : Nat}
theorem getM_lit (h : Rd w A n (bys b)) (hn : n ≤ 17592186043904) (hm : gtM b = ⟨z, s, k, d, t⟩) (hT : t.length = T) : Calls Try.prog 10 #[.slice A n c] w (GlPost w z s k d t T (gtE b)) :=
  (getM_any h (by omega)).mono fun e w' hp => gl_of hm hT (by have := h.1; rw [bys_length] at this; omega) hp
theorem rgetM_lit (h : Rd w A n (bys b)) (hn : n ≤ 17592186043904) (hnc : n ≤ c) (hm : gtM b = ⟨z, s, k, d, t⟩) (hT : t.length = T) : Calls Try.prog 11 #[.slice A n c] w (GlPost w z s k d t T (gtE b)) :=
  (rgetM_any h (by omega) hnc).mono fun e w' hp => gl_of hm hT (by have := h.1; rw [bys_length] at this; omega) (by rw [← (gt_rt b).1, ← (gt_rt b).2] at hp; exact hp)
end
theorem overOwn {w : World} {base n c : Nat} {B : Option Addr} {l : List Int} (ho : w.ownsRow base 3 1 (.slice B n c) n (nums l)) (hn : n ≤ 1000000) :
    Calls Try.prog 13 #[.slice B n c] w fun e w' => e = .returned (.tuple #[]) ∧ Chg (fun k => (Value.slice B n c).ownBlock = some k) w w' := by
  have hl : l.length = n := by have := ho.1; simpa [nums_length] using this
  rcases ho.2 with ⟨hv, h0⟩ | ⟨g, cap, cur, hv, hb, hh, hnc, hcm, hcs, ht⟩
  · injection hv with e1 e2 e3
    subst e1; subst e2; subst e3
    go_enter Try.func13, Try.ntmps13
    go_wp2
    go_loopw [2] (fun i wi => i = .int .i64 0 ∧ wi = w) (fun i wi => 0)
    case atStart => exact ⟨rfl, rfl⟩
    case round =>
      obtain ⟨rfl, rfl⟩ := hrel
      go_wp2
      go_end0
      exact ⟨rfl, Chg.refl _ _⟩
  · injection hv with e1 e2 e3
    subst e1; subst e3
    have hcur : cur.toList = nums l ++ cur.toList.drop n := by
      have : cur.toList.take n = nums l := by simpa using ht
      rw [← this, List.take_append_drop]
    refine (overInts_any (g := g) (l := l) (tl := cur.toList.drop n) (fun _ => rfl) (by rw [← hcur]; exact hh) hl hn).mono ?_
    rintro e w' ⟨rfl, hc⟩
    exact ⟨rfl, hc.mono fun k _ e => by have e' : k = g := e; rw [e']; rfl⟩
set_option maxRecDepth 100000 in
set_option maxHeartbeats 1600000 in
theorem reads_any {w : World} {A : Option Addr} {n c : Nat} {b : List UInt8} (h : Rd w A n (bys b) ∧ n ≤ c ∧ n ≤ 140737488351232) :
    Calls Try.prog 3 #[.slice A n c] w fun e w' => e = .returned (.bool true) ∧ Below w.heap.size w w' := by
  have hbl : b.length = n := by have := h.1.1; simpa [bys_length] using this
  have H := Lib.hid (And.intro h hbl)
  clear h hbl
  by_cases h5 : 500 < n
  · have d1 : decide ((n : Int) > 500) = true := by simp; omega
    have d2 : decide (500 < n) = true := by simp; omega
    clear h5
    go_enter Try.func3, Try.ntmps3
    go_wp2_with fail
    refine awake_any.mono ?_
    rintro e w1 ⟨rfl, hb⟩
    go_wp2
    go_ret
    exact ⟨rfl, hb⟩
  · have d1 : decide ((n : Int) > 500) = false := by simp; omega
    have d2 : decide (500 < n) = false := by simp; omega
    have HN := Lib.hid (show n ≤ 500 from by omega)
    clear h5
    go_enter Try.func3, Try.ntmps3
    go_wp2_with fail
    refine (copy_any H.out.1.1 H.out.1.2.2).mono ?_
    rintro e w1 ⟨v, rfl, ho1, hb1⟩
    obtain ⟨A1, d1', rfl, hd1⟩ := own_form ho1
    have H1 := Lib.hid (And.intro (Rd.of_own ho1) (And.intro hb1 (own_ge ho1)))
    clear ho1 hb1 hd1
    go_wp2_with fail
    obtain ⟨m, hm⟩ : ∃ m, gtM b = m := ⟨_, rfl⟩
    obtain ⟨z, s, k, d, t⟩ := m
    obtain ⟨T, hT⟩ : ∃ T, t.length = T := ⟨_, rfl⟩
    have hT2 : T ≤ 500 := by
      have := (gm_rng b).2.2.2.2.2
      rw [hm] at this
      have := HN.out
      have := H.out.2
      dsimp only at *
      omega
    obtain ⟨E, hE⟩ : ∃ E, gtE b = E := ⟨_, rfl⟩
    have HR := Lib.hid (And.intro hm (And.intro hT hE))
    clear hm hT hE
    refine (getM_lit H1.out.1 (by have := HN.out; omega) HR.out.1 HR.out.2.1).mono ?_
    rw [HR.out.2.2]
    rintro e w2 ⟨A2, d2', rfl, ho2, hm2, hb2⟩
    have H2 := Lib.hid (And.intro ho2 (And.intro hm2 (And.intro (H1.out.1.below hb2) (And.intro (below_base H1.out.2.1 hb2 H1.out.2.1.size) hb2.size))))
    clear ho2 hm2 hb2
    go_wp2_with fail
    have hb3 := (Below.refl w2.heap.size w2).alloc (Nat.le_refl _) (.cells #[.int .i64 z, .int .i64 s, .int .i64 k, .int .i64 d, .slice A2 T d2'] 27)
    have H3 := Lib.hid (And.intro (own_below H2.out.1 hb3) (And.intro (H2.out.2.1.below hb3) (And.intro (H2.out.2.2.1.below hb3) (And.intro (below_base H2.out.2.2.2.1 hb3 H2.out.2.2.2.1.size) (Bk.newA w2 27 #[.int .i64 z, .int .i64 s, .int .i64 k, .int .i64 d, .slice A2 T d2'])))))
    have hs3 : w2.heap.size ≤ (w2.alloc (.cells #[.int .i64 z, .int .i64 s, .int .i64 k, .int .i64 d, .slice A2 T d2'] 27)).heap.size := hb3.size
    clear hb3
    generalize w2.alloc (.cells #[.int .i64 z, .int .i64 s, .int .i64 k, .int .i64 d, .slice A2 T d2'] 27) = w3 at H3 hs3 ⊢
    refine (rgetM_lit (H.out.1.1.below H3.out.2.2.2.1) (by have := HN.out; omega) H.out.1.2.1 HR.out.1 HR.out.2.1).mono ?_
    rw [HR.out.2.2]
    rintro e w4 ⟨A4, d4', rfl, ho4, hm4, hb4⟩
    have hb5 := (Below.refl w4.heap.size w4).alloc (Nat.le_refl _) (.cells #[.int .i64 z, .int .i64 s, .int .i64 k, .int .i64 d, .slice A4 T d4'] 27)
    have hb6 := below_base hb4 hb5 hb4.size
    have H4 := Lib.hid (And.intro (own_below H3.out.1 hb6) (And.intro (H3.out.2.1.below hb6) (And.intro (H3.out.2.2.1.below hb6) (And.intro (below_base H3.out.2.2.2.1 hb6 H3.out.2.2.2.1.size) (And.intro (H3.out.2.2.2.2.belowS hb6) (And.intro (hm4.below hb5) (And.intro (Bk.newA w4 27 #[.int .i64 z, .int .i64 s, .int .i64 k, .int .i64 d, .slice A4 T d4']) (Nat.ne_of_lt (H3.out.2.2.2.2.belowS hb4).lt))))))))
    clear ho4 hm4 hb4 hb5 hb6
    obtain ⟨c0, c1, c2, c3, c4⟩ := cells5 H4.out.2.2.2.2.1
    obtain ⟨e0, e1, e2, e3, e4⟩ := cells5 H4.out.2.2.2.2.2.2.1
    go_wp2_with fail
    clear c0 c1 c2 c3 c4 e0 e1 e2 e3 e4
    generalize w4.alloc (.cells #[.int .i64 z, .int .i64 s, .int .i64 k, .int .i64 d, .slice A4 T d4'] 27) = w5 at H4 ⊢
    refine (sameM_any H4.out.2.1 H4.out.2.2.2.2.2.1).mono ?_
    rintro e w6 ⟨rfl, hb6⟩
    rw [same_refl]
    have H6 := Lib.hid (And.intro (own_below H4.out.1 hb6) (And.intro (H4.out.2.2.1.below hb6) (And.intro (below_base H4.out.2.2.2.1 hb6 H4.out.2.2.2.1.size) (H4.out.2.2.2.2.1.belowS hb6))))
    clear hb6
    have c4 := H6.out.2.2.2.cell 4
    go_wp2_with fail
    refine (overOwn H6.out.1 (by omega)).mono ?_
    rintro e w7 ⟨rfl, hc7⟩
    have hfar : ∀ j, (Value.slice A2 T d2').ownBlock = some j → w1.heap.size ≤ j := fun j hj => (H6.out.1.lt j hj).1
    have H7 := Lib.hid (And.intro (hc7.rd H6.out.2.1 (fun a ha e => by have := hfar _ e; have := (H1.out.2.2 a ha).2; omega)) (hc7.below H6.out.2.2.1 (fun j _ e => by have := hfar _ e; have := H1.out.2.1.size; omega) H6.out.2.2.1.size))
    clear hc7 c4 hfar
    go_wp2_with fail
    refine (same_true H7.out.1 (H.out.1.1.below H7.out.2)).mono ?_
    rintro e w8 ⟨rfl, rfl⟩
    go_wp2_with fail
    refine awake_any.mono ?_
    rintro e w9 ⟨rfl, hb9⟩
    go_wp2
    go_ret
    exact ⟨rfl, below_base H7.out.2 hb9 H7.out.2.size⟩
end Go.Proofs.Ythnoeiiebokooaa
