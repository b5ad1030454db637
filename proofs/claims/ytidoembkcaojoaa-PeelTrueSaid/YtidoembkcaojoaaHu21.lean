/- container/heap: its methods through the interface; up, down. Printed by gen_Hu.py. -/
import Derived.Test.YtidoembkcaojoaaHm21
namespace Go.Proofs.Ytidoembkcaojoaa
open Go.RowKit
set_option linter.unusedVariables false
theorem ahead_len (w : World) (a : Addr) : (nilAhead 232 99 (.pointer (some a)) "Len").run Try.prog w = .ok (some false) w := by kernel_rfl
theorem method_len_ (w : World) (a : Addr) : (method 232 99 (.pointer (some a)) "Len").run Try.prog w = ((do let v ← loadVar 65 a; pure (62, v)) : Sem (FuncId × Value)).run Try.prog w := by kernel_rfl
theorem method_len {a : Addr} {v : Value} (w : World) (h : w.cell? a = some v) : (method 232 99 (.pointer (some a)) "Len").run Try.prog w = .ok (62, v) w := by
  rw [method_len_]
  have hu := Try.underlying65
  simp [go_sem, h]
theorem ahead_less (w : World) (a : Addr) : (nilAhead 232 99 (.pointer (some a)) "Less").run Try.prog w = .ok (some false) w := by kernel_rfl
theorem method_less_ (w : World) (a : Addr) : (method 232 99 (.pointer (some a)) "Less").run Try.prog w = ((do let v ← loadVar 65 a; pure (90, v)) : Sem (FuncId × Value)).run Try.prog w := by kernel_rfl
theorem method_less {a : Addr} {v : Value} (w : World) (h : w.cell? a = some v) : (method 232 99 (.pointer (some a)) "Less").run Try.prog w = .ok (90, v) w := by
  rw [method_less_]
  have hu := Try.underlying65
  simp [go_sem, h]
theorem ahead_swap (w : World) (a : Addr) : (nilAhead 232 99 (.pointer (some a)) "Swap").run Try.prog w = .ok (some false) w := by kernel_rfl
theorem method_swap_ (w : World) (a : Addr) : (method 232 99 (.pointer (some a)) "Swap").run Try.prog w = ((do let v ← loadVar 65 a; pure (91, v)) : Sem (FuncId × Value)).run Try.prog w := by kernel_rfl
theorem method_swap {a : Addr} {v : Value} (w : World) (h : w.cell? a = some v) : (method 232 99 (.pointer (some a)) "Swap").run Try.prog w = .ok (91, v) w := by
  rw [method_swap_]
  have hu := Try.underlying65
  simp [go_sem, h]
theorem ahead_push (w : World) (a : Addr) : (nilAhead 232 99 (.pointer (some a)) "Push").run Try.prog w = .ok (some false) w := by kernel_rfl
theorem method_push (w : World) (a : Addr) : (method 232 99 (.pointer (some a)) "Push").run Try.prog w = .ok (93, .pointer (some a)) w := by kernel_rfl
theorem ahead_pop (w : World) (a : Addr) : (nilAhead 232 99 (.pointer (some a)) "Pop").run Try.prog w = .ok (some false) w := by kernel_rfl
theorem method_pop (w : World) (a : Addr) : (method 232 99 (.pointer (some a)) "Pop").run Try.prog w = .ok (92, .pointer (some a)) w := by kernel_rfl

theorem Chg.cell {S : Nat → Prop} {w w' : World} (h : Chg S w w') {p : Addr} {u : Value} (hc : w.cell? p = some u) (hS : ¬ S p.block) : w'.cell? p = some u :=
  (World.cell?_of_block (h.2 p.block (World.block_lt_of_cell? w p hc) hS)).trans hc
theorem Chg.undrewN {S : Nat → Prop} {w w' : World} {n : Nat} (h : Chg S (w.drewN n) w') : Chg S w w' := ⟨below_undrewN h.1, h.2⟩
/-- A heap's interface value. -/
def hif (E o : Nat) : Value := .iface 99 (.pointer (some ⟨E, o, none⟩))
set_option maxRecDepth 100000 in
set_option maxHeartbeats 3200000 in
theorem hUp_any {w : World} {base E o : Nat} {v : Value} {l : List HE} {j : Nat} (hE : w.cell? ⟨E, o, none⟩ = some v) (h : HR w base v l) (hu : Up (keys l) j) (hj : j < l.length) (hf : FitL l) (hl : l.length ≤ 1000000000) (hne : v.ownBlock ≠ some E) :
    Calls Try.prog 68 #[hif E o, .int .i64 (j : Nat)] w fun e w' => e = .returned (.tuple #[]) ∧ ∃ l', HR w' base v l' ∧ l'.Perm l ∧ Hp (keys l') ∧ Chg (fun k => v.ownBlock = some k) w w' := by
  have H := Lib.hid (And.intro h (And.intro hu (And.intro hf hne)))
  have HL := Lib.hid hl
  have hm1 : ∀ w, w.cell? ⟨E, o, none⟩ = some v → (method 232 99 (.pointer (some ⟨E, o, none⟩)) "Less").run Try.prog w = .ok (90, v) w := fun w h => method_less w h
  have hm2 : ∀ w, w.cell? ⟨E, o, none⟩ = some v → (method 232 99 (.pointer (some ⟨E, o, none⟩)) "Swap").run Try.prog w = .ok (91, v) w := fun w h => method_swap w h
  have ha1 := fun w => ahead_less w ⟨E, o, none⟩
  have ha2 := fun w => ahead_swap w ⟨E, o, none⟩
  have HH := Lib.hid (And.intro hE hj)
  clear h hu hf hne hE hj hl
  unfold hif
  go_enter Try.func68, Try.ntmps68
  go_wp2_with fail
  go_loopw [1] (fun s wr => ∃ j' : Nat, s = .int .i64 j' ∧ wr.cell? ⟨E, o, none⟩ = some v ∧ Hid (∃ l', HR wr base v l' ∧ l'.Perm l ∧ Up (keys l') j' ∧ j' < l'.length ∧ Chg (fun k => v.ownBlock = some k) w wr)) (fun s wr => (intOf s).toNat)
  case atStart => exact ⟨j, rfl, HH.out.1, Lib.hid ⟨l, H.out.1, List.Perm.refl _, H.out.2.1, HH.out.2, Chg.refl _ _⟩⟩
  case round =>
    obtain ⟨j', rfl, hc, hS⟩ := hrel
    obtain ⟨m, h1, h2, h3, h4, h5⟩ := hS.out
    have hml : m.length = l.length := h2.length_eq
    have hfm := H.out.2.2.1.perm h2
    have hj63 : (j' : Int) ≤ 1000000000 := by have := HL.out; omega
    have HM := Lib.hid (And.intro h1 (And.intro h2 (And.intro h3 (And.intro h4 (And.intro h5 (And.intro hml hfm))))))
    clear h1 h2 h3 h4 h5 hml hfm hS
    by_cases hz : j' = 0
    · subst hz
      go_wp2
      go_end0
      exact ⟨rfl, m, HM.out.1, HM.out.2.1, HM.out.2.2.1.stop (.inl rfl), HM.out.2.2.2.2.1⟩
    · have hq : ((j' : Int) - 1).tdiv 2 = (((j' - 1) / 2 : Nat) : Int) := by rw [Int.tdiv_eq_ediv_of_nonneg (by omega)]; omega
      have hq' : ((j' : Int) - 1) / 2 = (((j' - 1) / 2 : Nat) : Int) := by omega
      have hq0 : (0 : Int) ≤ (j' : Int) - 1 := by omega
      have hu1 : (j' - 1) / 2 < j' := by omega
      generalize hU : (j' - 1) / 2 = u at hq hq' hu1
      have n1 : (u == j') = false := by simp; omega
      have n2 : ((u : Int) == (j' : Int)) = false := by simp; omega
      have hu63 : (u : Int) ≤ 1000000000 := by omega
      have HU := Lib.hid (And.intro hU hu1)
      clear hU hu1 hz
      cases hb : (gx m j').less (gx m u) with
      | false =>
        have HB := Lib.hid hb
        clear hb
        go_wp2_with (go_at_call 90; refine (hLess_any HM.out.1 HM.out.2.2.2.1 (Nat.lt_trans HU.out.2 HM.out.2.2.2.1) (by rw [HM.out.2.2.2.2.2.1]; exact HL.out)).mono ?_; rintro e w1 ⟨rfl, k, rfl⟩; rw [HB.out])
        go_end0
        refine ⟨rfl, m, HM.out.1.below (below_dN (Below.refl _ _) _), HM.out.2.1, HM.out.2.2.1.stop (.inr ?_), HM.out.2.2.2.2.1.drewN _⟩
        have hlt := HM.out.2.2.2.1
        rw [HU.out.1, gi_keys (Nat.lt_trans HU.out.2 hlt), gi_keys hlt]
        have h9 := HB.out
        rw [less_key (HM.out.2.2.2.2.2.2.gx hlt) (HM.out.2.2.2.2.2.2.gx (Nat.lt_trans HU.out.2 hlt))] at h9
        simpa using h9
      | true =>
        have HB := Lib.hid hb
        clear hb
        go_wp2_with (go_at_call 90; refine (hLess_any HM.out.1 HM.out.2.2.2.1 (Nat.lt_trans HU.out.2 HM.out.2.2.2.1) (by rw [HM.out.2.2.2.2.2.1]; exact HL.out)).mono ?_; rintro e w1 ⟨rfl, k, rfl⟩; rw [HB.out])
        refine (hSwap_any (HM.out.1.below (below_dN (Below.refl _ _) _)) (Nat.lt_trans HU.out.2 HM.out.2.2.2.1) HM.out.2.2.2.1 (by rw [HM.out.2.2.2.2.2.1]; exact HL.out)).mono ?_
        rintro e w2 ⟨rfl, hs2, hc2⟩
        have hc2' : Chg (fun k => v.ownBlock = some k) wr w2 := hc2.undrewN
        have hcE := hc2'.cell hc H.out.2.2.2
        have H2 := Lib.hid (And.intro hs2 hc2')
        clear hs2 hc2 hc2'
        go_wp2_with fail
        have hlt := HM.out.2.2.2.1
        have hul := Nat.lt_trans HU.out.2 hlt
        refine ⟨⟨u, rfl, hcE, Lib.hid ⟨swx m u j', H2.out.1, (swx_perm hul hlt).trans HM.out.2.1, ?_, by rw [swx_length]; exact hul, HM.out.2.2.2.2.1.trans H2.out.2 fun _ _ x => x⟩⟩, ?_⟩
        · rw [swx_keys hul hlt, ← HU.out.1]
          refine HM.out.2.2.1.step (by have := HU.out.2; omega) (by rw [keys_length]; exact hlt) ?_
          rw [HU.out.1, gi_keys hul, gi_keys hlt]
          have h9 := HB.out
          rw [less_key (HM.out.2.2.2.2.2.2.gx hlt) (HM.out.2.2.2.2.2.2.gx hul)] at h9
          simpa using h9
        · have := HU.out.2
          simp [intOf]
          omega
/-- The row's first n places are what is sunk in. -/
theorem gx_take {l : List HE} {n j : Nat} (h : j < n) : gx (l.take n) j = gx l j := by
  simp only [gx, List.getD_eq_getElem?_getD, List.getElem?_take, if_pos h]
theorem swx_take {l : List HE} {n i j : Nat} (hi : i < n) (hj : j < n) : (swx l i j).take n = swx (l.take n) i j := by
  unfold swx
  rw [gx_take hi, gx_take hj, List.take_set, List.take_set]
theorem swx_drop {l : List HE} {n i j : Nat} (hi : i < n) (hj : j < n) : (swx l i j).drop n = l.drop n := by
  unfold swx
  rw [List.drop_set_of_lt hj, List.drop_set_of_lt hi]
set_option maxRecDepth 100000 in
set_option maxHeartbeats 6400000 in
theorem hDown_any {w : World} {base E o : Nat} {v : Value} {l : List HE} {n : Nat} (hE : w.cell? ⟨E, o, none⟩ = some v) (h : HR w base v l) (hn : n ≤ l.length) (hd : Dn (keys (l.take n)) 0) (hf : FitL l) (hl : l.length ≤ 1000000000) (hne : v.ownBlock ≠ some E) :
    Calls Try.prog 69 #[hif E o, .int .i64 0, .int .i64 (n : Nat)] w fun e w' => (∃ b, e = .returned (.bool b)) ∧ ∃ l', HR w' base v l' ∧ l'.Perm l ∧ (l'.take n).Perm (l.take n) ∧ l'.drop n = l.drop n ∧ Hp (keys (l'.take n)) ∧ Chg (fun k => v.ownBlock = some k) w w' := by
  have H := Lib.hid (And.intro h (And.intro hd (And.intro hf (And.intro hne hn))))
  have HL := Lib.hid hl
  have hm1 : ∀ w, w.cell? ⟨E, o, none⟩ = some v → (method 232 99 (.pointer (some ⟨E, o, none⟩)) "Less").run Try.prog w = .ok (90, v) w := fun w h => method_less w h
  have hm2 : ∀ w, w.cell? ⟨E, o, none⟩ = some v → (method 232 99 (.pointer (some ⟨E, o, none⟩)) "Swap").run Try.prog w = .ok (91, v) w := fun w h => method_swap w h
  have ha1 := fun w => ahead_less w ⟨E, o, none⟩
  have ha2 := fun w => ahead_swap w ⟨E, o, none⟩
  have HH := Lib.hid hE
  have n63 : (n : Int) ≤ 1000000000 := by omega
  clear h hd hf hne hE hn hl
  unfold hif
  go_enter Try.func69, Try.ntmps69
  go_wp2_with fail
  go_loopw [7] (fun s wr => ∃ i : Nat, s = .int .i64 i ∧ wr.cell? ⟨E, o, none⟩ = some v ∧ Hid (∃ m, HR wr base v m ∧ m.Perm l ∧ (m.take n).Perm (l.take n) ∧ m.drop n = l.drop n ∧ Dn (keys (m.take n)) i ∧ i ≤ n ∧ Chg (fun k => v.ownBlock = some k) w wr)) (fun s wr => n - (intOf s).toNat)
  case atStart => exact ⟨0, rfl, HH.out, Lib.hid ⟨l, H.out.1, List.Perm.refl _, List.Perm.refl _, rfl, H.out.2.1, Nat.zero_le _, Chg.refl _ _⟩⟩
  case round =>
    obtain ⟨i, rfl, hc, hS⟩ := hrel
    obtain ⟨m, h1, h2, h3, h4, h5, h6, h7⟩ := hS.out
    have hml : m.length = l.length := h2.length_eq
    have hfm := H.out.2.2.1.perm h2
    have hi63 : (i : Int) ≤ 1000000000 := by omega
    have hnm : n ≤ m.length := by rw [hml]; exact H.out.2.2.2.2
    have hlm : m.length ≤ 1000000000 := by rw [hml]; exact HL.out
    have hkl : (keys (m.take n)).length = n := by rw [keys_length, List.length_take]; omega
    have hgk : ∀ q, q < n → gi (keys (m.take n)) q = (gx m q).key := fun q hq => by rw [gi_keys (by rw [List.length_take]; omega), gx_take hq]
    have hlk : ∀ p q, p < n → q < n → (gx m p).less (gx m q) = decide ((gx m p).key < (gx m q).key) := fun p q hp hq => less_key (hfm.gx (by omega)) (hfm.gx (by omega))
    have hstop : Hp (keys (m.take n)) → ∀ (w9 : World) k, w9 = wr.drewN k → ∃ l', HR w9 base v l' ∧ l'.Perm l ∧ (l'.take n).Perm (l.take n) ∧ l'.drop n = l.drop n ∧ Hp (keys (l'.take n)) ∧ Chg (fun k => v.ownBlock = some k) w w9 := fun hp w9 k e9 => by
      subst e9
      exact ⟨m, h1.below (below_dN (Below.refl _ _) _), h2, h3, h4, hp, h7.drewN _⟩
    have hgo : ∀ (k : Nat) (w9 : World) q, q < n → i < n → q = 2 * i + 1 ∨ q = 2 * i + 2 → (gx m q).less (gx m i) = true → (2 * i + 1 < n → (gx m q).key ≤ (gx m (2 * i + 1)).key) → (2 * i + 2 < n → (gx m q).key ≤ (gx m (2 * i + 2)).key) →
        HR w9 base v (swx m i q) → Chg (fun k => v.ownBlock = some k) wr w9 → ∃ m', HR w9 base v m' ∧ m'.Perm l ∧ (m'.take n).Perm (l.take n) ∧ m'.drop n = l.drop n ∧ Dn (keys (m'.take n)) q ∧ q ≤ n ∧ Chg (fun k => v.ownBlock = some k) w w9 := fun k w9 q hq hi hc hless hk1 hk2 hr9 hc9 => by
      have him : i < m.length := by omega
      have hqm : q < m.length := by omega
      rw [hlk q i hq hi] at hless
      refine ⟨swx m i q, hr9, (swx_perm him hqm).trans h2, ?_, by rw [swx_drop hi hq]; exact h4, ?_, Nat.le_of_lt hq, h7.trans hc9 fun _ _ x => x⟩
      · rw [swx_take hi hq]; exact (swx_perm (by rw [List.length_take]; omega) (by rw [List.length_take]; omega)).trans h3
      · rw [swx_take hi hq, swx_keys (by rw [List.length_take]; omega) (by rw [List.length_take]; omega)]
        refine h5.step (by rw [hkl]; exact hq) hc (by rw [hgk q hq, hgk i hi]; simpa using hless) (fun hh => ?_) (fun hh => ?_)
        · rw [hkl] at hh; rw [hgk q hq, hgk _ hh]; exact hk1 hh
        · rw [hkl] at hh; rw [hgk q hq, hgk _ hh]; exact hk2 hh
    have hsp : (2 * i + 1 < n → (gx m i).key ≤ (gx m (2 * i + 1)).key) → (2 * i + 2 < n → (gx m i).key ≤ (gx m (2 * i + 2)).key) → Hp (keys (m.take n)) := fun a b => by
      by_cases hin : i < n
      · refine h5.stop (fun hh => ?_) (fun hh => ?_)
        · rw [hkl] at hh; rw [hgk i hin, hgk _ hh]; exact a hh
        · rw [hkl] at hh; rw [hgk i hin, hgk _ hh]; exact b hh
      · refine h5.stop (fun hh => ?_) (fun hh => ?_)
        · rw [hkl] at hh; omega
        · rw [hkl] at hh; omega
    have HM := Lib.hid (And.intro h1 (And.intro hnm (And.intro hlm (And.intro hstop (And.intro hgo (And.intro hsp hlk))))))
    clear h1 h2 h3 h4 h5 hml hfm hS h7 hnm hlm hkl hgk hlk hstop hgo hsp
    obtain ⟨q1, hq1⟩ : ∃ q1 : Nat, q1 = 2 * i + 1 := ⟨_, rfl⟩
    obtain ⟨q2, hq2⟩ : ∃ q2 : Nat, q2 = q1 + 1 := ⟨_, rfl⟩
    have e1 : 2 * (i : Int) + 1 = (q1 : Int) := by omega
    have e2 : (q1 : Int) + 1 = (q2 : Int) := by omega
    have p1 : (q1 : Int) ≤ 2000000001 := by omega
    have p2 : (0 : Int) ≤ (q1 : Int) := by omega
    have p3 : decide ((q1 : Int) < 0) = false := by simp
    by_cases hA : q1 < n
    · have a1 : decide (n ≤ q1) = false := by simp; omega
      have a2 : decide ((n : Int) ≤ (q1 : Int)) = false := by simp; omega
      have a3 : decide ((q1 : Int) ≥ (n : Int)) = false := by simp; omega
      have HQ := Lib.hid (show q1 = 2 * i + 1 ∧ q2 = 2 * i + 2 ∧ q1 < n ∧ i < n from by omega)
      clear hq1 hq2 hA
      by_cases hB : q2 < n
      · have b1 : decide (q2 < n) = true := by simpa using hB
        have b2 : decide ((q2 : Int) < (n : Int)) = true := by simp; omega
        have HQ2 := Lib.hid hB
        clear hB
        cases h21 : (gx m q2).less (gx m q1) with
        | true =>
          have H21 := Lib.hid h21
          clear h21
          have hk21 := H21.out
          rw [HM.out.2.2.2.2.2.2 q2 q1 HQ2.out HQ.out.2.2.1] at hk21
          have HK := Lib.hid (show (gx m q2).key < (gx m q1).key from by simpa using hk21)
          clear hk21
          cases hB : (gx m q2).less (gx m i) with
          | true =>
            have HB := Lib.hid hB
            clear hB
            go_wp2_with fail
            refine (hLess_any (i := q2) (j := q1) HM.out.1 (Nat.lt_of_lt_of_le HQ2.out HM.out.2.1) (Nat.lt_of_lt_of_le HQ.out.2.2.1 HM.out.2.1) HM.out.2.2.1).mono ?_
            rintro e w1 ⟨rfl, k, rfl⟩
            rw [H21.out]
            go_wp2_with fail
            refine (hLess_any (i := q2) (j := i) (HM.out.1.below (below_dN (Below.refl _ _) _)) (Nat.lt_of_lt_of_le HQ2.out HM.out.2.1) (Nat.lt_of_lt_of_le HQ.out.2.2.2 HM.out.2.1) HM.out.2.2.1).mono ?_
            rintro e w1 ⟨rfl, k, rfl⟩
            rw [HB.out]
            go_wp2_with fail
            refine (hSwap_any (i := i) (j := q2) (HM.out.1.below (below_dN (Below.refl _ _) _)) (Nat.lt_of_lt_of_le HQ.out.2.2.2 HM.out.2.1) (Nat.lt_of_lt_of_le HQ2.out HM.out.2.1) HM.out.2.2.1).mono ?_
            rintro e w2 ⟨rfl, hs2, hc2⟩
            have hcE := (hc2.undrewN).cell hc H.out.2.2.2.1
            have hg := HM.out.2.2.2.2.1 0 w2 q2 HQ2.out HQ.out.2.2.2 (.inr HQ.out.2.1) HB.out (fun _ => (by rw [← HQ.out.1]; exact Int.le_of_lt HK.out)) (fun _ => (by rw [← HQ.out.2.1]; exact Int.le_refl _)) hs2 hc2.undrewN
            have H2 := Lib.hid (And.intro hg hcE)
            clear hs2 hc2 hg hcE
            go_wp2_with fail
            refine ⟨⟨q2, rfl, H2.out.2, Lib.hid H2.out.1⟩, ?_⟩
            have k1 := HQ.out.1
            have k2 := HQ.out.2.1
            have k3 := HQ.out.2.2.2
            show n - ((q2 : Nat) : Int).toNat < n - ((i : Nat) : Int).toNat
            rw [Int.toNat_natCast, Int.toNat_natCast]
            omega
          | false =>
            have HB := Lib.hid hB
            clear hB
            have hkb := HB.out
            rw [HM.out.2.2.2.2.2.2 q2 i HQ2.out HQ.out.2.2.2] at hkb
            have HKB := Lib.hid (show (gx m i).key ≤ (gx m q2).key from by simpa using hkb)
            clear hkb
            go_wp2_with fail
            refine (hLess_any (i := q2) (j := q1) HM.out.1 (Nat.lt_of_lt_of_le HQ2.out HM.out.2.1) (Nat.lt_of_lt_of_le HQ.out.2.2.1 HM.out.2.1) HM.out.2.2.1).mono ?_
            rintro e w1 ⟨rfl, k, rfl⟩
            rw [H21.out]
            go_wp2_with fail
            refine (hLess_any (i := q2) (j := i) (HM.out.1.below (below_dN (Below.refl _ _) _)) (Nat.lt_of_lt_of_le HQ2.out HM.out.2.1) (Nat.lt_of_lt_of_le HQ.out.2.2.2 HM.out.2.1) HM.out.2.2.1).mono ?_
            rintro e w1 ⟨rfl, k, rfl⟩
            rw [HB.out]
            go_wp2_with fail
            go_ret
            exact ⟨⟨_, rfl⟩, HM.out.2.2.2.1 (HM.out.2.2.2.2.2.1 (fun h1 => by rw [← HQ.out.1]; exact Int.le_trans HKB.out (Int.le_of_lt HK.out)) (fun h2 => by rw [← HQ.out.2.1]; exact HKB.out)) _ _ rfl⟩
        | false =>
          have H21 := Lib.hid h21
          clear h21
          have hk21 := H21.out
          rw [HM.out.2.2.2.2.2.2 q2 q1 HQ2.out HQ.out.2.2.1] at hk21
          have HK := Lib.hid (show (gx m q1).key ≤ (gx m q2).key from by simpa using hk21)
          clear hk21
          cases hB : (gx m q1).less (gx m i) with
          | true =>
            have HB := Lib.hid hB
            clear hB
            go_wp2_with fail
            refine (hLess_any (i := q2) (j := q1) HM.out.1 (Nat.lt_of_lt_of_le HQ2.out HM.out.2.1) (Nat.lt_of_lt_of_le HQ.out.2.2.1 HM.out.2.1) HM.out.2.2.1).mono ?_
            rintro e w1 ⟨rfl, k, rfl⟩
            rw [H21.out]
            go_wp2_with fail
            refine (hLess_any (i := q1) (j := i) (HM.out.1.below (below_dN (Below.refl _ _) _)) (Nat.lt_of_lt_of_le HQ.out.2.2.1 HM.out.2.1) (Nat.lt_of_lt_of_le HQ.out.2.2.2 HM.out.2.1) HM.out.2.2.1).mono ?_
            rintro e w1 ⟨rfl, k, rfl⟩
            rw [HB.out]
            go_wp2_with fail
            refine (hSwap_any (i := i) (j := q1) (HM.out.1.below (below_dN (Below.refl _ _) _)) (Nat.lt_of_lt_of_le HQ.out.2.2.2 HM.out.2.1) (Nat.lt_of_lt_of_le HQ.out.2.2.1 HM.out.2.1) HM.out.2.2.1).mono ?_
            rintro e w2 ⟨rfl, hs2, hc2⟩
            have hcE := (hc2.undrewN).cell hc H.out.2.2.2.1
            have hg := HM.out.2.2.2.2.1 0 w2 q1 HQ.out.2.2.1 HQ.out.2.2.2 (.inl HQ.out.1) HB.out (fun _ => (by rw [← HQ.out.1]; exact Int.le_refl _)) (fun _ => (by rw [← HQ.out.2.1]; exact HK.out)) hs2 hc2.undrewN
            have H2 := Lib.hid (And.intro hg hcE)
            clear hs2 hc2 hg hcE
            go_wp2_with fail
            refine ⟨⟨q1, rfl, H2.out.2, Lib.hid H2.out.1⟩, ?_⟩
            have k1 := HQ.out.1
            have k2 := HQ.out.2.1
            have k3 := HQ.out.2.2.2
            show n - ((q1 : Nat) : Int).toNat < n - ((i : Nat) : Int).toNat
            rw [Int.toNat_natCast, Int.toNat_natCast]
            omega
          | false =>
            have HB := Lib.hid hB
            clear hB
            have hkb := HB.out
            rw [HM.out.2.2.2.2.2.2 q1 i HQ.out.2.2.1 HQ.out.2.2.2] at hkb
            have HKB := Lib.hid (show (gx m i).key ≤ (gx m q1).key from by simpa using hkb)
            clear hkb
            go_wp2_with fail
            refine (hLess_any (i := q2) (j := q1) HM.out.1 (Nat.lt_of_lt_of_le HQ2.out HM.out.2.1) (Nat.lt_of_lt_of_le HQ.out.2.2.1 HM.out.2.1) HM.out.2.2.1).mono ?_
            rintro e w1 ⟨rfl, k, rfl⟩
            rw [H21.out]
            go_wp2_with fail
            refine (hLess_any (i := q1) (j := i) (HM.out.1.below (below_dN (Below.refl _ _) _)) (Nat.lt_of_lt_of_le HQ.out.2.2.1 HM.out.2.1) (Nat.lt_of_lt_of_le HQ.out.2.2.2 HM.out.2.1) HM.out.2.2.1).mono ?_
            rintro e w1 ⟨rfl, k, rfl⟩
            rw [HB.out]
            go_wp2_with fail
            go_ret
            exact ⟨⟨_, rfl⟩, HM.out.2.2.2.1 (HM.out.2.2.2.2.2.1 (fun h1 => by rw [← HQ.out.1]; exact HKB.out) (fun h2 => by rw [← HQ.out.2.1]; exact Int.le_trans HKB.out HK.out)) _ _ rfl⟩
      · have b1 : decide (q2 < n) = false := by simpa using hB
        have b2 : decide ((q2 : Int) < (n : Int)) = false := by simp; omega
        have HQ2 := Lib.hid (show ¬ 2 * i + 2 < n from by have := HQ.out.2.1; omega)
        clear hB
        cases hB : (gx m q1).less (gx m i) with
        | true =>
          have HB := Lib.hid hB
          clear hB
          go_wp2_with fail
          refine (hLess_any (i := q1) (j := i) HM.out.1 (Nat.lt_of_lt_of_le HQ.out.2.2.1 HM.out.2.1) (Nat.lt_of_lt_of_le HQ.out.2.2.2 HM.out.2.1) HM.out.2.2.1).mono ?_
          rintro e w1 ⟨rfl, k, rfl⟩
          rw [HB.out]
          go_wp2_with fail
          refine (hSwap_any (i := i) (j := q1) (HM.out.1.below (below_dN (Below.refl _ _) _)) (Nat.lt_of_lt_of_le HQ.out.2.2.2 HM.out.2.1) (Nat.lt_of_lt_of_le HQ.out.2.2.1 HM.out.2.1) HM.out.2.2.1).mono ?_
          rintro e w2 ⟨rfl, hs2, hc2⟩
          have hcE := (hc2.undrewN).cell hc H.out.2.2.2.1
          have hg := HM.out.2.2.2.2.1 0 w2 q1 HQ.out.2.2.1 HQ.out.2.2.2 (.inl HQ.out.1) HB.out (fun _ => (by rw [← HQ.out.1]; exact Int.le_refl _)) (fun hh => absurd hh HQ2.out) hs2 hc2.undrewN
          have H2 := Lib.hid (And.intro hg hcE)
          clear hs2 hc2 hg hcE
          go_wp2_with fail
          refine ⟨⟨q1, rfl, H2.out.2, Lib.hid H2.out.1⟩, ?_⟩
          have k1 := HQ.out.1
          have k2 := HQ.out.2.1
          have k3 := HQ.out.2.2.2
          show n - ((q1 : Nat) : Int).toNat < n - ((i : Nat) : Int).toNat
          rw [Int.toNat_natCast, Int.toNat_natCast]
          omega
        | false =>
          have HB := Lib.hid hB
          clear hB
          have hkb := HB.out
          rw [HM.out.2.2.2.2.2.2 q1 i HQ.out.2.2.1 HQ.out.2.2.2] at hkb
          have HKB := Lib.hid (show (gx m i).key ≤ (gx m q1).key from by simpa using hkb)
          clear hkb
          go_wp2_with fail
          refine (hLess_any (i := q1) (j := i) HM.out.1 (Nat.lt_of_lt_of_le HQ.out.2.2.1 HM.out.2.1) (Nat.lt_of_lt_of_le HQ.out.2.2.2 HM.out.2.1) HM.out.2.2.1).mono ?_
          rintro e w1 ⟨rfl, k, rfl⟩
          rw [HB.out]
          go_wp2_with fail
          go_ret
          exact ⟨⟨_, rfl⟩, HM.out.2.2.2.1 (HM.out.2.2.2.2.2.1 (fun h1 => by rw [← HQ.out.1]; exact HKB.out) (fun h2 => absurd h2 HQ2.out)) _ _ rfl⟩
    · have a1 : decide (n ≤ q1) = true := by simp; omega
      have a2 : decide ((n : Int) ≤ (q1 : Int)) = true := by simp; omega
      have a3 : decide ((q1 : Int) ≥ (n : Int)) = true := by simp; omega
      have HQ := Lib.hid (show ¬ 2 * i + 1 < n from by omega)
      clear hq1 hq2 hA
      go_wp2_with fail
      go_ret
      exact ⟨⟨_, rfl⟩, HM.out.2.2.2.1 (HM.out.2.2.2.2.2.1 (fun h1 => absurd h1 HQ.out) (fun h2 => absurd h2 (fun h3 => HQ.out (by omega)))) _ 0 rfl⟩
end Go.Proofs.Ytidoembkcaojoaa
