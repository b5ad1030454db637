/- GraphBoth: its walk. -/
import Derived.Test.YtcgcbajgclkmkaaBo20
namespace Go.Proofs.Ytcgcbajgclkmkaa
open Go.RowKit
set_option linter.unusedVariables false
set_option maxRecDepth 100000 in
set_option maxHeartbeats 8000000 in
/-- artesianlaw20.GraphBoth -/
theorem graphBoth_walk {w : World} {x : Int} {A C : Option Addr} {n c m d : Nat} {xss : List (List Int)} {ts : List Int} (hx : (Lit.int .i64 x).wf = true) (h : (∃ vs, Rd w A n vs ∧ IRd w vs xss) ∧ n ≤ c ∧ n ≤ 5864062014634)
    (ht : Rd w C m (nums ts) ∧ m ≤ d ∧ m ≤ 17592186043904 ∧ ∀ n ∈ ts, -9223372036854775808 ≤ n ∧ n ≤ 9223372036854775807) :
    Calls Try.prog 7 #[.int .i64 x, .slice A n c, .slice C m d] w fun e w' => e = .returned (.bool true) ∧ Below w.heap.size w w' := by
  obtain ⟨hI, hc, hn⟩ := h
  obtain ⟨hr, hd, hm, htw⟩ := ht
  have hI' : IRs w A n xss := hI
  have htl : ts.length = m := by have := hr.1; simpa [nums_length] using this
  have H := Lib.hid (And.intro hI' (And.intro hr (And.intro htl (And.intro htw (And.intro hx hn)))))
  have hmi : (m : Int) ≤ 17592186043904 := by omega
  clear hI hI' hr htw hx hn hc hd htl hm
  go_enter Try.func7, Try.ntmps7
  go_wp2_with fail
  refine graphKnown_any.mono ?_
  rintro e w1 ⟨rfl, hb1⟩
  have H1 := Lib.hid (And.intro hb1 (And.intro (H.out.1.below hb1) (H.out.2.1.below hb1)))
  clear hb1
  go_wp2_with fail
  refine (pick_any x 20 H.out.2.2.2.2.1 (by omega) (by omega)).mono ?_
  rintro e w2 ⟨rfl, rfl⟩
  obtain ⟨K, hK⟩ : ∃ K : Nat, 1 + x % 20 = (K : Int) := ⟨(1 + x % 20).toNat, by have := Int.emod_nonneg x (show (20 : Int) ≠ 0 by omega); omega⟩
  have hK2 : 1 ≤ K ∧ K ≤ 20 := by have := Int.emod_nonneg x (show (20 : Int) ≠ 0 by omega); have := Int.emod_lt_of_pos x (show (0 : Int) < 20 by omega); omega
  have hwK : IntKind.i64.wrap (1 + x % 20) = (K : Int) := by rw [hK, IntKind.wrap_i64]; omega
  have HK := Lib.hid hK2
  clear hK
  go_wp2_with fail
  refine (longSets_any H1.out.2.1 H.out.2.2.2.2.2).mono ?_
  rintro e w2 ⟨rfl, rfl⟩
  cases hlong : longR xss with
  | true =>
    clear hlong
    go_wp2
    go_ret
    exact ⟨rfl, H1.out.1⟩
  | false =>
    have HL := Lib.hid (longR_no hlong)
    clear hlong
    by_cases h40 : 40 < m
    · have d1 : decide ((m : Int) > 40) = true := by simp; omega
      have d2 : decide ((40 : Int) < (m : Int)) = true := by simp; omega
      have d3 : decide (40 < m) = true := by simpa using h40
      clear h40
      go_wp2
      go_ret
      exact ⟨rfl, H1.out.1⟩
    · have d1 : decide ((m : Int) > 40) = false := by simp; omega
      have d2 : decide ((40 : Int) < (m : Int)) = false := by simp; omega
      have d3 : decide (40 < m) = false := by simpa using h40
      have hm40 : (m : Int) ≤ 40 := by omega
      clear h40
      go_wp2_with fail
      refine (made_any H1.out.2.1 hK2 (by rw [← H1.out.2.1.len]; exact HL.out.1) HL.out.2).mono ?_
      rintro e w3 ⟨G, v, vs, tag, L, rfl, hM⟩
      obtain ⟨S, hS⟩ : ∃ S, okSets K xss = S := ⟨_, rfl⟩
      rw [hS] at hM
      have hSl : S.length ≤ 40 := by rw [← hS]; exact Nat.le_trans (okSets_len K xss) HL.out.1
      obtain ⟨Av, cv, rfl, hvv⟩ := own_slice hM.own
      have HM := Lib.hid (show ∃ tag L, MdR w1 G (k0s K) S (.slice Av S.length cv) vs w3 tag L from ⟨tag, L, hM⟩)
      have HS := Lib.hid hSl
      clear hM hvv d1 d2 d3
      go_wp2
      go_loopw [10] (fun i wr => ∃ (j : Nat) (kn : List Bool) (tag : Nat → Option Nat) (L : GL), j ≤ m ∧ i = .int .i64 j ∧ kn.length = K ∧ MdR w1 G kn S (.slice Av S.length cv) vs wr tag L) (fun i wr => m - (intOf i).toNat)
      case atStart =>
        obtain ⟨tag, L, hM⟩ := HM.out
        exact ⟨0, k0s K, tag, L, by omega, rfl, List.length_replicate, hM⟩
      case round =>
        obtain ⟨j, kn, tag, L, hj, rfl, hkl, hM⟩ := hrel
        clear HM
        by_cases hlt : j < m
        · have hrd := H1.out.2.2.below hM.b
          obtain ⟨b, off, rfl, hbl, hcc⟩ := hrd.form (by omega)
          have hjl : j < ts.length := by rw [H.out.2.2.1]; exact hlt
          have cx := hcc j _ (nums_gi hjl)
          have hw := wf_i64 (H.out.2.2.2.1 _ (gi_mem hjl))
          have km : (j : Int) < (m : Int) := by omega
          have HJ := Lib.hid (And.intro hlt (And.intro hkl hM))
          have HT := Lib.hid (take_gr hM.gr (gi ts j % (K : Int)))
          have HW := Lib.hid hw
          clear hrd hbl hcc hjl hw hlt hkl hM hj
          generalize gi ts j = z at cx HT HW
          go_wp2_with fail
          refine (pick_any z K HW.out (by have := HK.out; omega) (by have := HK.out; omega)).mono ?_
          rintro e w5 ⟨rfl, rfl⟩
          go_wp2_with fail
          refine HT.out.mono ?_
          rintro e w6 ⟨v6, L6, rfl, _, g6, c6⟩
          have H6 := Lib.hid (HJ.out.2.2.changed g6 c6 fun _ _ => rfl)
          clear g6 c6
          go_wp2
          exact ⟨⟨j + 1, _, tag, L6, by have := HJ.out.1; omega, by go_num, (tkK_len _ _).trans HJ.out.2.1, H6.out⟩, by have := HJ.out.1; simp [intOf]; omega⟩
        · obtain rfl : j = m := by omega
          have HM := Lib.hid (And.intro hkl hM)
          obtain ⟨sl, hsl⟩ : ∃ sl, S.length = sl := ⟨_, rfl⟩
          have HSl := Lib.hid hsl
          have hmk := run_make_ints sl (by omega)
          rw [hsl]
          clear hkl hM hlt hj
          have hmr := (HM.out.2.below ((Below.refl _ _).alloc (Nat.le_refl wr.heap.size) (.cells (nums (List.replicate sl 0)).toArray 3)))
          have hmb := Bk.newA wr 3 (nums (List.replicate sl 0)).toArray
          rw [List.toList_toArray] at hmb
          have HB0 : Hid (BoR w1 G kn S (.slice Av S.length cv) vs wr.heap.size (List.replicate sl 0) (wr.alloc (.cells (nums (List.replicate sl 0)).toArray 3)) tag L) := Lib.hid ⟨hmr, hmb, by rw [List.length_replicate, HSl.out], HM.out.2.gr.newTag (Nat.le_refl _), fun e => by have := (HM.out.2.own.lt _ e).2; omega, HM.out.2.b.size⟩
          clear hmr hmb
          obtain ⟨Z, hZ⟩ : ∃ Z, nums (List.replicate sl 0) = Z := ⟨_, rfl⟩
          rw [hZ] at hmk HB0
          clear hZ hsl
          go_wp2
          generalize wr.alloc (.cells Z.toArray 3) = w5 at HB0 ⊢
          generalize wr.heap.size = g at HB0 ⊢
          go_loopw [12] (fun i wr => ∃ (s : Nat) (M : List Int), s ≤ K ∧ i = .int .i64 s ∧ BoR w1 G kn S (.slice Av S.length cv) vs g M wr tag L ∧ ∀ p, p < sl → gi M p = (cnt kn S s p : Nat)) (fun i wr => K - (intOf i).toNat)
          case atStart => exact ⟨0, _, by omega, rfl, HB0.out, fun p hp => by simp [gi, cnt_zero, hp]⟩
          case round =>
            obtain ⟨s, M, hs, rfl, hB, hcnt⟩ := hrel
            clear HB0
            have HB := Lib.hid (And.intro hB hcnt)
            have hKi : (K : Int) ≤ 20 := by have := HK.out; omega
            by_cases hlt : s < K
            · have hin : inK kn (s : Int) = true := decide_eq_true (by have := HM.out.1; omega)
              have hof := of_gr hB.md.gr (s : Int)
              rw [show owL kn S (s : Int) = wts kn S s from by unfold owL; rw [hin, Int.toNat_natCast]; rfl, show owE kn (s : Int) = 0 from by unfold owE; rw [hin]; rfl] at hof
              have HO := Lib.hid (And.intro hof hlt)
              have ks : (s : Int) < (K : Int) := by omega
              obtain ⟨l, hl⟩ : ∃ l, wts kn S s = l := ⟨_, rfl⟩
              have HLs := Lib.hid hl
              rw [hl] at HO
              clear hB hcnt hin hof hlt hl hs
              go_wp2_with fail
              refine HO.out.1.mono ?_
              rintro e w6 ⟨v6, rfl, ho6, hb6⟩
              obtain ⟨A6, c6, rfl, _⟩ := own_form ho6
              obtain ⟨ln, hln⟩ : ∃ ln, l.length = ln := ⟨_, rfl⟩
              rw [hln] at ho6
              have hln40 : ln ≤ 40 := by rw [← hln, ← HLs.out]; exact Nat.le_trans (wts_le _ _ _) HS.out
              have hA6 : ∀ a, A6 = some a → a.block ≠ g := fun a ha => by have := (own_ge ho6 a ha).1; have := HB.out.1.mb.lt; omega
              have H6 := Lib.hid (And.intro (HB.out.1.below hb6) (And.intro (Rd.of_own ho6) (And.intro hln hA6)))
              rw [hln]
              clear ho6 hb6 hln hA6
              have hlni : (ln : Int) ≤ 40 := by omega
              go_wp2
              go_loopw [15] (fun i wq => ∃ (i' : Nat) (M' : List Int), i' ≤ ln ∧ i = .int .i64 i' ∧ BoR w1 G kn S (.slice Av S.length cv) vs g M' wq tag L ∧ Rd wq A6 ln (nums l) ∧ ∀ p, p < sl → gi M' p = (cnt kn S s p : Nat) + (if (p : Int) ∈ l.take i' then 1 else 0)) (fun i wq => ln - (intOf i).toNat)
              case atStart => exact ⟨0, M, by omega, rfl, H6.out.1, H6.out.2.1, fun p hp => by rw [HB.out.2 p hp]; simp⟩
              case round =>
                obtain ⟨i, M', hi, rfl, hB', hrd, hcn⟩ := hrel
                by_cases hlt : i < ln
                · have hil : i < l.length := by rw [H6.out.2.2.1]; exact hlt
                  obtain ⟨p, hp, hpS, hps⟩ := wts_in (kn := kn) (S := S) (t := s) (n := gi l i) (by rw [HLs.out]; exact gi_mem hil)
                  have hasc : l.Pairwise (· < ·) := by rw [← HLs.out]; exact wts_asc _ _ _
                  obtain ⟨b, off, rfl, hbl, hcc⟩ := hrd.form (by omega)
                  have cx := hcc i _ (nums_gi hil)
                  rw [hp] at cx
                  have km : (i : Int) < (ln : Int) := by omega
                  have hpl : p < sl := by rw [← HSl.out]; exact hpS
                  have hpi : (p : Int) < (sl : Int) := by omega
                  have HP := Lib.hid (And.intro hpS hpl)
                  have HI := Lib.hid (And.intro hlt (And.intro hil (And.intro hp (And.intro hps (And.intro hasc (And.intro hB' (And.intro hrd hcn)))))))
                  have d1 : decide ((p : Int) < 0) = false := by simp
                  have d2 : decide ((p : Int) ≥ (sl : Int)) = false := by simp; omega
                  have d3 : decide ((sl : Int) ≤ (p : Int)) = false := by simp; omega
                  have d4 : decide (sl ≤ p) = false := by simp; omega
                  cases i with
                  | zero =>
                    have d5 : decide (((0 : Nat) : Int) > 0) = false := by simp
                    have d6 : decide ((0 : Int) < ((0 : Nat) : Int)) = false := by simp
                    have CX := Lib.hid cx
                    have k0 : 0 < ln := hlt
                    have cx0 : wr.cell? ⟨b, off, none⟩ = some (.int .i64 (p : Int)) := cx
                    clear hlt hil hp hpS hps hasc hbl hcc hB' hrd hcn hi
                    go_wp2_with fail
                    go_quiet (fail)
                    clear cx0
                    have H7 := Lib.hid (And.intro (HI.out.2.2.2.2.2.1.below (below_dN (Below.refl _ _) nq)) (And.intro (HI.out.2.2.2.2.2.2.1.drewN nq) HI.out.2.2.2.2.2.2.2))
                    have HR := Lib.hid (rest_gr H7.out.1.md.gr (p : Int))
                    have hz7 := H7.out.1.mb.lt
                    have cx7 : (wr.drewN nq).cell? ⟨b, off + 0, none⟩ = some (.int .i64 (p : Int)) := cx
                    have cz7 : (wr.drewN nq).cell? ⟨b, off, none⟩ = some (.int .i64 (p : Int)) := cx
                    clear CX cx
                    generalize wr.drewN nq = w7 at H7 HR hz7 cx7 cz7 ⊢
                    go_wp2_with fail
                    refine HR.out.mono ?_
                    rintro e w8 ⟨v8, rfl, ho8, hb8⟩
                    have e1 : rsE S (p : Int) = 0 := if_pos (by have := HP.out.1; omega)
                    have e2 : rsL kn S (p : Int) = rst kn (S.getD p []) := by unfold rsL; rw [if_pos (by have := HP.out.1; omega), Int.toNat_natCast]
                    rw [e1]
                    rw [e2] at ho8
                    obtain ⟨A8, c8, rfl, _⟩ := own_form ho8
                    have hlen8 : (rst kn (S.getD p [])).length ≤ 65536 := Nat.le_trans (List.length_filter_le _ _) (Nat.le_trans (H7.out.1.md.gr.ss _ (getD_mem HP.out.1)).len H7.out.1.md.gr.kz)
                    have hHas := has_any (c := c8) (s : Int) (Rd.of_own ho8) (by omega)
                    rw [show decide ((s : Int) ∈ rst kn (S.getD p [])) = true from decide_eq_true HI.out.2.2.2.1] at hHas
                    have cx8 := (hb8.cell (p := ⟨b, off + 0, none⟩) (World.block_lt_of_cell? _ _ cx7)).trans cx7
                    have cz8 := (hb8.cell (p := ⟨b, off, none⟩) (World.block_lt_of_cell? _ _ cz7)).trans cz7
                    have H8 := Lib.hid (And.intro (H7.out.1.below hb8) (And.intro (H7.out.2.1.below hb8) (And.intro H7.out.2.2 hHas)))
                    obtain ⟨rl, hrl⟩ : ∃ rl, (rst kn (S.getD p [])).length = rl := ⟨_, rfl⟩
                    rw [hrl]
                    rw [hrl] at H8
                    have cm := H8.out.1.mb.cell p
                    have fm := H8.out.1.mb.frozen p
                    rw [nums_gi (by rw [H8.out.1.ml, HSl.out]; exact HP.out.2)] at cm
                    have hM := H8.out.2.2.1 p HP.out.2
                    rw [if_neg (by rw [← HI.out.2.2.1]; exact not_mem_take HI.out.2.1 HI.out.2.2.2.2.1), Int.add_zero] at hM
                    have hcl : cnt kn S s p ≤ s := by unfold cnt; exact Nat.le_trans (List.length_filter_le _ _) (by rw [List.length_range]; exact Nat.le_refl _)
                    obtain ⟨z, hz⟩ : ∃ z, gi M' p = z := ⟨_, rfl⟩
                    have hwz : IntKind.i64.wrap (z + 1) = z + 1 := by have := HO.out.2; have := HK.out; rw [IntKind.wrap_i64]; omega
                    rw [hz] at cm
                    have hset := H8.out.1.set_ p (z + 1)
                    have H9 := Lib.hid (And.intro hset (And.intro hz (H8.out.2.1)))
                    have hpi9 := HP.out.2
                    clear ho8 hb8 cx7 cz7 hHas hM hcl hset hz hrl e1 e2
                    go_wp2_with fail
                    refine H8.out.2.2.2.mono ?_
                    rintro e w9 ⟨rfl, rfl⟩
                    go_wp2
                    refine ⟨⟨0 + 1, _, by have := HI.out.1; omega, by go_num, H9.out.1, ?_, fun q hq => ?_⟩, by have := HI.out.1; simp [intOf]; omega⟩
                    · have hc : Chg (fun x => x = g) w8 (w8.setCell ⟨g, p, none⟩ (.int .i64 (z + 1))) := (Chg.refl (fun x => x = g) w8).set_ (g := g) (show (fun x => x = g) g from rfl) _ _
                      exact hc.rd H9.out.2.2 (fun a ha e => H6.out.2.2.2 a ha e)
                    · rw [gi_set (by rw [H8.out.1.ml, HSl.out]; exact hpi9)]
                      have hold := H8.out.2.2.1 q hq
                      have hmt : ((q : Int) ∈ l.take (0 + 1)) ↔ ((q : Int) ∈ l.take 0 ∨ (q : Int) = (p : Int)) := by rw [mem_take_succ HI.out.2.1, HI.out.2.2.1]
                      by_cases e : p = q
                      · subst e
                        rw [if_pos rfl, if_pos (hmt.2 (.inr rfl)), ← H9.out.2.1, hold, if_neg (by rw [← HI.out.2.2.1]; exact not_mem_take HI.out.2.1 HI.out.2.2.2.2.1), Int.add_zero]
                      · rw [if_neg e, hold]
                        congr 1
                        have : ((q : Int) ∈ l.take (0 + 1)) ↔ ((q : Int) ∈ l.take 0) := by
                          rw [hmt]; exact ⟨fun h => h.elim id (fun h => absurd (by omega) e), .inl⟩
                        simp only [this]
                  | succ i' =>
                    have d5 : decide (((i' + 1 : Nat) : Int) > 0) = true := by simp
                    have d6 : decide ((0 : Int) < ((i' + 1 : Nat) : Int)) = true := by simp
                    have cy := hcc i' _ (nums_gi (by omega))
                    have hlt2 : gi l i' < (p : Int) := by rw [← hp, gi_get hil, gi_get (show i' < l.length by omega)]; exact (List.pairwise_iff_getElem.1 hasc) i' (i' + 1) (by omega) hil (by omega)
                    generalize gi l i' = y at cy hlt2
                    have d7 : decide ((p : Int) ≤ y) = false := by simp; omega
                    have hw1 : IntKind.i64.wrap (((i' + 1 : Nat) : Int) - 1) = (i' : Int) := by rw [IntKind.wrap_i64]; omega
                    have hw2 : wrap64 (((i' + 1 : Nat) : Int) - 1) = (i' : Int) := by rw [wrap_idz (by omega) (by omega)]; omega
                    have ki : (i' : Int) < (ln : Int) := by omega
                    have kj : ((i' + 1 : Nat) : Int) ≤ 41 := by omega
                    have CX := Lib.hid cx
                    clear hlt hil hp hpS hps hasc hbl hcc hB' hrd hcn hi hlt2
                    go_wp2_with fail
                    go_quiet (fail)
                    clear cy d7 hw1 hw2 ki
                    have H7 := Lib.hid (And.intro (HI.out.2.2.2.2.2.1.below (below_dN (Below.refl _ _) nq)) (And.intro (HI.out.2.2.2.2.2.2.1.drewN nq) HI.out.2.2.2.2.2.2.2))
                    have HR := Lib.hid (rest_gr H7.out.1.md.gr (p : Int))
                    have hz7 := H7.out.1.mb.lt
                    have cx7 : (wr.drewN nq).cell? ⟨b, off + (i' + 1), none⟩ = some (.int .i64 (p : Int)) := cx
                    have cz7 : (wr.drewN nq).cell? ⟨b, off + (i' + 1), none⟩ = some (.int .i64 (p : Int)) := cx
                    clear CX cx
                    generalize wr.drewN nq = w7 at H7 HR hz7 cx7 cz7 ⊢
                    go_wp2_with fail
                    refine HR.out.mono ?_
                    rintro e w8 ⟨v8, rfl, ho8, hb8⟩
                    have e1 : rsE S (p : Int) = 0 := if_pos (by have := HP.out.1; omega)
                    have e2 : rsL kn S (p : Int) = rst kn (S.getD p []) := by unfold rsL; rw [if_pos (by have := HP.out.1; omega), Int.toNat_natCast]
                    rw [e1]
                    rw [e2] at ho8
                    obtain ⟨A8, c8, rfl, _⟩ := own_form ho8
                    have hlen8 : (rst kn (S.getD p [])).length ≤ 65536 := Nat.le_trans (List.length_filter_le _ _) (Nat.le_trans (H7.out.1.md.gr.ss _ (getD_mem HP.out.1)).len H7.out.1.md.gr.kz)
                    have hHas := has_any (c := c8) (s : Int) (Rd.of_own ho8) (by omega)
                    rw [show decide ((s : Int) ∈ rst kn (S.getD p [])) = true from decide_eq_true HI.out.2.2.2.1] at hHas
                    have cx8 := (hb8.cell (p := ⟨b, off + (i' + 1), none⟩) (World.block_lt_of_cell? _ _ cx7)).trans cx7
                    have cz8 := (hb8.cell (p := ⟨b, off + (i' + 1), none⟩) (World.block_lt_of_cell? _ _ cz7)).trans cz7
                    have H8 := Lib.hid (And.intro (H7.out.1.below hb8) (And.intro (H7.out.2.1.below hb8) (And.intro H7.out.2.2 hHas)))
                    obtain ⟨rl, hrl⟩ : ∃ rl, (rst kn (S.getD p [])).length = rl := ⟨_, rfl⟩
                    rw [hrl]
                    rw [hrl] at H8
                    have cm := H8.out.1.mb.cell p
                    have fm := H8.out.1.mb.frozen p
                    rw [nums_gi (by rw [H8.out.1.ml, HSl.out]; exact HP.out.2)] at cm
                    have hM := H8.out.2.2.1 p HP.out.2
                    rw [if_neg (by rw [← HI.out.2.2.1]; exact not_mem_take HI.out.2.1 HI.out.2.2.2.2.1), Int.add_zero] at hM
                    have hcl : cnt kn S s p ≤ s := by unfold cnt; exact Nat.le_trans (List.length_filter_le _ _) (by rw [List.length_range]; exact Nat.le_refl _)
                    obtain ⟨z, hz⟩ : ∃ z, gi M' p = z := ⟨_, rfl⟩
                    have hwz : IntKind.i64.wrap (z + 1) = z + 1 := by have := HO.out.2; have := HK.out; rw [IntKind.wrap_i64]; omega
                    rw [hz] at cm
                    have hset := H8.out.1.set_ p (z + 1)
                    have H9 := Lib.hid (And.intro hset (And.intro hz (H8.out.2.1)))
                    have hpi9 := HP.out.2
                    clear ho8 hb8 cx7 cz7 hHas hM hcl hset hz hrl e1 e2
                    go_wp2_with fail
                    refine H8.out.2.2.2.mono ?_
                    rintro e w9 ⟨rfl, rfl⟩
                    go_wp2
                    refine ⟨⟨(i' + 1) + 1, _, by have := HI.out.1; omega, by go_num, H9.out.1, ?_, fun q hq => ?_⟩, by have := HI.out.1; simp [intOf]; omega⟩
                    · have hc : Chg (fun x => x = g) w8 (w8.setCell ⟨g, p, none⟩ (.int .i64 (z + 1))) := (Chg.refl (fun x => x = g) w8).set_ (g := g) (show (fun x => x = g) g from rfl) _ _
                      exact hc.rd H9.out.2.2 (fun a ha e => H6.out.2.2.2 a ha e)
                    · rw [gi_set (by rw [H8.out.1.ml, HSl.out]; exact hpi9)]
                      have hold := H8.out.2.2.1 q hq
                      have hmt : ((q : Int) ∈ l.take ((i' + 1) + 1)) ↔ ((q : Int) ∈ l.take (i' + 1) ∨ (q : Int) = (p : Int)) := by rw [mem_take_succ HI.out.2.1, HI.out.2.2.1]
                      by_cases e : p = q
                      · subst e
                        rw [if_pos rfl, if_pos (hmt.2 (.inr rfl)), ← H9.out.2.1, hold, if_neg (by rw [← HI.out.2.2.1]; exact not_mem_take HI.out.2.1 HI.out.2.2.2.2.1), Int.add_zero]
                      · rw [if_neg e, hold]
                        congr 1
                        have : ((q : Int) ∈ l.take ((i' + 1) + 1)) ↔ ((q : Int) ∈ l.take (i' + 1)) := by
                          rw [hmt]; exact ⟨fun h => h.elim id (fun h => absurd (by omega) e), .inl⟩
                        simp only [this]
                · obtain rfl : i = ln := by omega
                  have htk : l.take i = l := List.take_of_length_le (by rw [H6.out.2.2.1]; exact Nat.le_refl _)
                  have H7 := Lib.hid (And.intro hB' (show ∀ p, p < sl → gi M' p = (cnt kn S (s + 1) p : Nat) from fun p hp => by
                    rw [hcn p hp, cnt_succ, HLs.out, htk]
                    split <;> omega))
                  clear hB' hcn htk hrd hi hlt
                  go_wp2
                  exact ⟨⟨s + 1, M', by have := HO.out.2; omega, by go_num, H7.out.1, H7.out.2⟩, by have := HO.out.2; simp [intOf]; omega⟩
            · obtain rfl : s = K := by omega
              have HA := Lib.hid (And.intro hB (show ∀ p, p < sl → gi M p = ((rst kn (S.getD p [])).length : Nat) from fun p hp => by
                rw [hcnt p hp, ← HM.out.1, cnt_all hB.md.gr.ss (by rw [HSl.out]; exact hp)]))
              clear HB hB hcnt hlt hs
              go_wp2
              go_loopw [18, 19] (fun q i wr => ∃ p : Nat, p ≤ sl ∧ i = .int .i64 p ∧ q = .int .i64 (edg kn (S.take p) : Nat) ∧ BoR w1 G kn S (.slice Av S.length cv) vs g M wr tag L) (fun q i wr => sl - (intOf i).toNat)
              case atStart => exact ⟨0, by omega, rfl, by simp [edg], HA.out.1⟩
              case round =>
                obtain ⟨p, hp, rfl, rfl, hB⟩ := hrel
                by_cases hlt : p < sl
                · have km : (p : Int) < (sl : Int) := by omega
                  have HR := Lib.hid (And.intro (rest_gr hB.md.gr (p : Int)) (And.intro hB hlt))
                  have hp40 : (p : Int) ≤ 40 := by have := HSl.out; have := HS.out; omega
                  clear hB hlt hp
                  go_wp2_with fail
                  refine HR.out.1.mono ?_
                  rintro e w8 ⟨v8, rfl, ho8, hb8⟩
                  have hpS : p < S.length := by rw [HSl.out]; exact HR.out.2.2
                  have e1 : rsE S (p : Int) = 0 := if_pos (by omega)
                  have e2 : rsL kn S (p : Int) = rst kn (S.getD p []) := by unfold rsL; rw [if_pos (by omega), Int.toNat_natCast]
                  rw [e1]
                  rw [e2] at ho8
                  obtain ⟨A8, c8, rfl, _⟩ := own_form ho8
                  have H8 := Lib.hid (HR.out.2.1.below hb8)
                  have cm := H8.out.mb.cell p
                  rw [nums_gi (by rw [H8.out.ml]; exact hpS), HA.out.2 p HR.out.2.2] at cm
                  have h40 : (S.take (p + 1)).length ≤ 40 := by rw [List.length_take]; have := HS.out; omega
                  have hed := edg_le (kn := kn) (sets := S.take (p + 1)) (fun l hl => by have := (HR.out.2.1.md.gr.ss l (List.mem_of_mem_take hl)).len; have := HR.out.2.1.md.gr.kz; omega)
                  have hsn : edg kn (S.take (p + 1)) = edg kn (S.take p) + (rst kn (S.getD p [])).length := by
                    rw [List.take_succ_eq_append_getElem hpS, edg_snoc]; congr 2; rw [List.getD_eq_getElem?_getD, List.getElem?_eq_getElem hpS]; rfl
                  obtain ⟨rl, hrl⟩ : ∃ rl, (rst kn (S.getD p [])).length = rl := ⟨_, rfl⟩
                  rw [hrl]
                  rw [hrl] at cm hsn
                  obtain ⟨q, hq⟩ : ∃ q, edg kn (S.take p) = q := ⟨_, rfl⟩
                  rw [hq] at hsn ⊢
                  have hq2 : q + rl ≤ 2621440 := by rw [← hsn]; omega
                  have hsum : IntKind.i64.wrap ((q : Int) + (rl : Int)) = ((q + rl : Nat) : Int) := by rw [IntKind.wrap_i64]; omega
                  have hwq : wrap64 ((q : Int) + (rl : Int)) = ((q + rl : Nat) : Int) := by rw [wrap_idz (by omega) (by omega)]; omega
                  have d1 : decide ((rl : Int) = (rl : Int)) = true := by simp
                  have H9 := Lib.hid hsn
                  clear hed h40 ho8 hb8 hq hrl hsn e1 e2 hpS
                  go_wp2
                  exact ⟨⟨p + 1, by have := HR.out.2.2; omega, by go_num, by rw [H9.out, Int.natCast_add], H8.out⟩, by have := HR.out.2.2; simp [intOf]; omega⟩
                · obtain rfl : p = sl := by omega
                  have htk : S.take p = S := List.take_of_length_le (by rw [HSl.out]; exact Nat.le_refl _)
                  rw [htk]
                  have HE := Lib.hid (And.intro (edges_gr hB.md.gr) (And.intro (packets_gr hB.md.gr) hB))
                  clear hB htk hp hlt
                  go_wp2_with fail
                  refine HE.out.1.mono ?_
                  rintro e w8 ⟨rfl, rfl⟩
                  go_wp2_with fail
                  refine HE.out.2.1.mono ?_
                  rintro e w8 ⟨rfl, rfl⟩
                  rw [HSl.out]
                  go_wp2
                  go_ret
                  exact ⟨rfl, below_base H1.out.1 HE.out.2.2.md.b H1.out.1.size⟩
end Go.Proofs.Ytcgcbajgclkmkaa
