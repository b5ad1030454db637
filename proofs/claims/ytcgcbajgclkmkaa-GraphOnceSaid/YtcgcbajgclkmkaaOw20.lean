/- GraphOnce: its walk. -/
import Derived.Test.YtcgcbajgclkmkaaOn20
namespace Go.Proofs.Ytcgcbajgclkmkaa
open Go.RowKit
set_option linter.unusedVariables false
set_option maxRecDepth 100000 in
set_option maxHeartbeats 8000000 in
/-- artesianlaw20.GraphOnce -/
theorem graphOnce_walk {w : World} {x : Int} {A C : Option Addr} {n c m d : Nat} {xss : List (List Int)} {ts : List Int} (hx : (Lit.int .i64 x).wf = true) (h : (∃ vs, Rd w A n vs ∧ IRd w vs xss) ∧ n ≤ c ∧ n ≤ 5864062014634)
    (ht : Rd w C m (nums ts) ∧ m ≤ d ∧ m ≤ 17592186043904 ∧ ∀ n ∈ ts, -9223372036854775808 ≤ n ∧ n ≤ 9223372036854775807) :
    Calls Try.prog 4 #[.int .i64 x, .slice A n c, .slice C m d] w fun e w' => e = .returned (.bool true) ∧ Below w.heap.size w w' := by
  obtain ⟨hI, hc, hn⟩ := h
  obtain ⟨hr, hd, hm, htw⟩ := ht
  have hI' : IRs w A n xss := hI
  have htl : ts.length = m := by have := hr.1; simpa [nums_length] using this
  have H := Lib.hid (And.intro hI' (And.intro hr (And.intro htl (And.intro htw (And.intro hx hn)))))
  have hmi : (m : Int) ≤ 17592186043904 := by omega
  clear hI hI' hr htw hx hn hc hd htl hm
  go_enter Try.func4, Try.ntmps4
  go_wp2_with fail
  refine graphKnown_any.mono ?_
  rintro e w1 ⟨rfl, hb1⟩
  have H1 := Lib.hid (And.intro hb1 (And.intro (H.out.1.below hb1) (H.out.2.1.below hb1)))
  clear hb1
  go_wp2_with fail
  refine (pick_any x 20 H.out.2.2.2.2.1 (by omega) (by omega)).mono ?_
  rintro e w2 ⟨rfl, rfl⟩
  obtain ⟨K, hK⟩ : ∃ K : Nat, 1 + x % 20 = (K : Int) := ⟨(1 + x % 20).toNat, by have := Int.emod_nonneg x (show (20 : Int) ≠ 0 by omega); omega⟩
  have hK2 : 1 ≤ K ∧ K ≤ 20 := by have := Int.emod_nonneg x (show (20 : Int) ≠ 0 by omega); have := Int.emod_lt_of_pos x (show (0 : Int) < 20 by omega); omega
  have hwK : IntKind.i64.wrap (1 + x % 20) = (K : Int) := by rw [hK, IntKind.wrap_i64]; omega
  have HK := Lib.hid hK2
  clear hK
  go_wp2_with fail
  refine (longSets_any H1.out.2.1 H.out.2.2.2.2.2).mono ?_
  rintro e w2 ⟨rfl, rfl⟩
  cases hlong : longR xss with
  | true =>
    clear hlong
    go_wp2
    go_ret
    exact ⟨rfl, H1.out.1⟩
  | false =>
    have HL := Lib.hid (longR_no hlong)
    clear hlong
    by_cases h40 : 40 < m
    · have d1 : decide ((m : Int) > 40) = true := by simp; omega
      have d2 : decide ((40 : Int) < (m : Int)) = true := by simp; omega
      have d3 : decide (40 < m) = true := by simpa using h40
      clear h40
      go_wp2
      go_ret
      exact ⟨rfl, H1.out.1⟩
    · have d1 : decide ((m : Int) > 40) = false := by simp; omega
      have d2 : decide ((40 : Int) < (m : Int)) = false := by simp; omega
      have d3 : decide (40 < m) = false := by simpa using h40
      have hm40 : (m : Int) ≤ 40 := by omega
      clear h40
      go_wp2_with fail
      refine (made_any H1.out.2.1 hK2 (by rw [← H1.out.2.1.len]; exact HL.out.1) HL.out.2).mono ?_
      rintro e w3 ⟨G, v, vs, tag, L, rfl, hM⟩
      obtain ⟨S, hS⟩ : ∃ S, okSets K xss = S := ⟨_, rfl⟩
      rw [hS] at hM
      have hSl : S.length ≤ 40 := by rw [← hS]; exact Nat.le_trans (okSets_len K xss) HL.out.1
      obtain ⟨Av, cv, rfl, hvv⟩ := own_slice hM.own
      have HM := Lib.hid (show ∃ tag L, MdR w1 G (k0s K) S (.slice Av S.length cv) vs w3 tag L from ⟨tag, L, hM⟩)
      have HS := Lib.hid hSl
      clear hM hvv d1 d2 d3
      obtain ⟨sl, hsl⟩ : ∃ sl, S.length = sl := ⟨_, rfl⟩
      have HSl := Lib.hid hsl
      have hsl40 : (sl : Int) ≤ 40 := by omega
      have hK20 : (K : Int) ≤ 20 := by omega
      have hmk1 := run_make_bools K (by omega)
      have hmk2 := run_make_ints sl (by omega)
      rw [hsl]
      clear hSl hsl
      obtain ⟨Z1, hZ1⟩ : ∃ Z, List.replicate K (Value.bool false) = Z := ⟨_, rfl⟩
      obtain ⟨Z2, hZ2⟩ : ∃ Z, nums (List.replicate sl 0) = Z := ⟨_, rfl⟩
      have HZ := Lib.hid (And.intro hZ1 hZ2)
      rw [hZ1] at hmk1
      rw [hZ2] at hmk2
      clear hZ1 hZ2
      go_wp2_with fail
      go_cut [10, 11] (fun a b wr => ∃ gT g tag L, a = .slice (some ⟨gT, 0, none⟩) K K ∧ b = .slice (some ⟨g, 0, none⟩) sl sl ∧ OnR w1 G (k0s K) S (.slice Av S.length cv) vs gT g (k0s K) (List.replicate sl 0) wr tag L)
      case first =>
        go_region
        all_goals go_wp2_with fail
        all_goals go_meet
        all_goals obtain ⟨tag, L, hM⟩ := HM.out
        all_goals have hlt := fun b e => (hM.own.lt b e).2
        all_goals have hB := hM.b.size
        all_goals first
          | exact ⟨w3.heap.size, w3.heap.size + 1, tag, L, rfl, rfl, { md := hM.below (onA2 w3 _ _), tb := by rw [bools_k0, HZ.out.1]; exact (Bk.new w3 _ _).alloc _, mb := by rw [HZ.out.2]; exact bkB1 w3 _ _ _, ml := by rw [List.length_replicate, HSl.out], tl := rfl, tgT := hM.gr.newTag (Nat.le_refl _), tgM := hM.gr.newTag (by omega), ne := by omega, farT := fun e => by have := hlt _ e; omega, farM := fun e => by have := hlt _ e; omega, gzT := hB, gzM := by omega }⟩
          | exact ⟨w3.heap.size + 1, w3.heap.size, tag, L, rfl, rfl, { md := hM.below (onA2 w3 _ _), tb := by rw [bools_k0, HZ.out.1]; exact bkB1 w3 _ _ _, mb := by rw [HZ.out.2]; exact (Bk.new w3 _ _).alloc _, ml := by rw [List.length_replicate, HSl.out], tl := rfl, tgT := hM.gr.newTag (by omega), tgM := hM.gr.newTag (Nat.le_refl _), ne := by omega, farT := fun e => by have := hlt _ e; omega, farM := fun e => by have := hlt _ e; omega, gzT := by omega, gzM := hB }⟩
      case rest =>
        obtain ⟨gT, g, tag, L, rfl, rfl, hR⟩ := hcut
        have HR := Lib.hid hR
        clear HM hR hmk1 hmk2
        go_wp2
        go_loopw [12, 13] (fun q i wr => ∃ (j : Nat) (kn : List Bool) (M : List Int) (L : GL), j ≤ m ∧ i = .int .i64 j ∧ kn.length = K ∧ q = .int .i64 (unk kn : Nat) ∧ OnR w1 G kn S (.slice Av S.length cv) vs gT g kn M wr tag L ∧ ∀ p, p < sl → gi M p = told kn S p) (fun q i wr => m - (intOf i).toNat)
        case atStart => exact ⟨0, k0s K, _, L, by omega, rfl, List.length_replicate, by rw [unk_k0], HR.out, fun p hp => by rw [told_k0]; simp [gi, hp]⟩
        case round =>
          -- A
          obtain ⟨j, kn, M, L, hj, rfl, hkl, rfl, hR, htd⟩ := hrel
          clear HR
          by_cases hlt : j < m
          · have hrd := H1.out.2.2.below hR.md.b
            obtain ⟨b, off, rfl, hbl, hcc⟩ := hrd.form (by omega)
            have hjl : j < ts.length := by rw [H.out.2.2.1]; exact hlt
            have cx := hcc j _ (nums_gi hjl)
            have hw := wf_i64 (H.out.2.2.2.1 _ (gi_mem hjl))
            have km : (j : Int) < (m : Int) := by omega
            have HJ := Lib.hid (And.intro hlt (And.intro hkl (And.intro hR htd)))
            have HW := Lib.hid hw
            have hu := unk_le kn
            rw [hkl] at hu
            clear hrd hbl hcc hjl hw hlt hkl hR htd hj
            generalize gi ts j = z at cx HW
            go_wp2_with fail
            refine (pick_any z K HW.out (by have := HK.out; omega) (by have := HK.out; omega)).mono ?_
            rintro e w5 ⟨rfl, rfl⟩
            obtain ⟨i, hi⟩ : ∃ i : Nat, z % (K : Int) = i := ⟨(z % (K : Int)).toNat, by have := Int.emod_nonneg z (show (K : Int) ≠ 0 by have := HK.out; omega); omega⟩
            have hik : i < K := by have := Int.emod_lt_of_pos z (show (0 : Int) < (K : Int) by have := HK.out; omega); omega
            rw [hi]
            have kk : (i : Int) < (K : Int) := by omega
            have HT := Lib.hid (And.intro (take_gr HJ.out.2.2.1.md.gr (i : Int)) hik)
            clear hi hik
            go_wp2_with fail
            refine HT.out.1.mono ?_
            rintro e w6 ⟨v6, L6, rfl, ho6, g6, c6⟩
            have hin : inK kn (i : Int) = true := decide_eq_true (by have := HJ.out.2.1; have := HT.out.2; omega)
            have hO6 := HJ.out.2.2.1.take_ g6 c6 (tkK_len _ _)
            obtain ⟨A6, c6', rfl, _⟩ := own_form ho6
            have hge := own_ge ho6
            have hTl := HJ.out.2.2.1.tb.lt
            have hMl := HJ.out.2.2.1.mb.lt
            have hc7 : Chg (fun x => x = gT) w6 (w6.setCell ⟨gT, i, none⟩ (.bool true)) := (Chg.refl (fun x => x = gT) w6).set_ (g := gT) (show (fun x => x = gT) gT from rfl) _ _
            have hrd7 := hc7.rd (Rd.of_own ho6) (fun a ha (e : a.block = gT) => by have := (hge a ha).1; omega)
            have hne7 : ∀ a, A6 = some a → a.block ≠ g := fun a ha e => by have := (hge a ha).1; omega
            have ct := hO6.tb.cell i
            have ft := hO6.tb.frozen i
            rw [bools_at (by have := HJ.out.2.1; have := HT.out.2; omega)] at ct
            have hset := hO6.setT i true
            obtain ⟨l, hl⟩ : ∃ l, tkL kn S (i : Int) = l := ⟨_, rfl⟩
            obtain ⟨ln, hln⟩ : ∃ ln, l.length = ln := ⟨_, rfl⟩
            rw [hl, hln] at hrd7
            cases hk : knw kn (i : Int) with
            | true =>
              have e1 : tkE kn (i : Int) = 11 := by unfold tkE; rw [hin, hk]; rfl
              have e2 : tkK kn (i : Int) = kn := by unfold tkK; rw [hin, hk]; rfl
              have e3 : kn.set i true = kn := by
                apply List.ext_getElem (by simp)
                intro q h1 h2
                rw [List.getElem_set]
                split
                · rename_i e; subst e
                  have := knw_at (kn := kn) h2
                  rw [hk, List.getElem?_eq_getElem h2] at this
                  injection this with this; exact this.symm
                · rfl
              have e4 : l = [] := by rw [← hl]; unfold tkL; rw [hk]; simp
              rw [hk] at ct
              rw [e2, e3] at hset
              rw [e1, hl, hln]
              have H8 := Lib.hid (And.intro hset (And.intro hrd7 (And.intro hl (And.intro (show (tkL kn S (i : Int)).length = ln by rw [hl, hln]) (And.intro hln hne7)))))
              have HN := Lib.hid e4
              clear ho6 g6 c6 hO6 hge hTl hMl hc7 hrd7 hne7 hset hln hl e1 e2 e3 e4 hk hin cx
              have hln40 : ln ≤ 40 := by rw [← H8.out.2.2.2.1]; exact Nat.le_trans (tkL_le _ _ _) (by have := HSl.out; omega)
              have hlni : (ln : Int) ≤ 40 := by omega
              clear hln40
              go_wp2
              go_loopw [17] (fun i wq => ∃ (i' : Nat) (M' : List Int), i' ≤ ln ∧ i = .int .i64 i' ∧ OnR w1 G kn S (.slice Av S.length cv) vs gT g kn M' wq tag L6 ∧ Rd wq A6 ln (nums l) ∧ ∀ p, p < sl → gi M' p = told kn S p + (if (p : Int) ∈ l.take i' then 1 else 0)) (fun i wq => ln - (intOf i).toNat)
              case atStart => exact ⟨0, M, by omega, rfl, H8.out.1, H8.out.2.1, fun p hp => by rw [HJ.out.2.2.2 p hp]; simp⟩
              case round =>
                obtain ⟨i', M', hi', rfl, hR', hrd', hcn⟩ := hrel
                by_cases hlt : i' < ln
                · have hil : i' < l.length := by rw [H8.out.2.2.2.2.1]; exact hlt
                  obtain ⟨p, hp, hpS⟩ := tkL_in (kn := kn) (S := S) (x := (i : Int)) (n := gi l i') (by rw [H8.out.2.2.1]; exact gi_mem hil)
                  have hasc : l.Pairwise (· < ·) := by rw [← H8.out.2.2.1]; exact tkL_asc _ _ _
                  have hnt := not_mem_take hil hasc
                  obtain ⟨b, off, rfl, hbl, hcc⟩ := hrd'.form (by omega)
                  have cx := hcc i' _ (nums_gi hil)
                  have hmt := fun q => mem_take_succ hil q
                  rw [hp] at cx hnt
                  simp only [hp] at hmt
                  have hpl : p < sl := by rw [← HSl.out]; exact hpS
                  have km : (i' : Int) < (ln : Int) := by omega
                  have hpi : (p : Int) < (sl : Int) := by omega
                  have cm := hR'.mb.cell p
                  have fm := hR'.mb.frozen p
                  rw [nums_gi (by rw [hR'.ml, HSl.out]; exact hpl)] at cm
                  have hM := hcn p hpl
                  rw [if_neg hnt, Int.add_zero] at hM
                  have hin := told_in kn S p
                  obtain ⟨z, hz⟩ : ∃ z, gi M' p = z := ⟨_, rfl⟩
                  have hwz : IntKind.i64.wrap (z + 1) = z + 1 := by rw [IntKind.wrap_i64]; omega
                  rw [hz] at cm
                  have d0 : decide ((p : Int) < 0) = false := by simp
                  have d1 : decide ((p : Int) ≥ (sl : Int)) = false := by simp; omega
                  have d2 : decide ((sl : Int) ≤ (p : Int)) = false := by simp; omega
                  have d3 : decide (sl ≤ p) = false := by simp; omega
                  have H9 := Lib.hid (And.intro (hR'.setM p (z + 1)) (And.intro hz (And.intro hrd' (And.intro hcn (And.intro hmt (And.intro hnt (And.intro hlt (And.intro hM hR'.ml))))))))
                  clear hlt hil hp hpS hasc hnt hbl hcc hmt hM hin hz hrd' hcn hR' hi'
                  go_wp2
                  refine ⟨⟨i' + 1, _, by have := H9.out.2.2.2.2.2.2.1; omega, by go_num, H9.out.1, ?_, fun q hq => ?_⟩, by have := H9.out.2.2.2.2.2.2.1; simp [intOf]; omega⟩
                  · have hc : Chg (fun x => x = g) wr (wr.setCell ⟨g, p, none⟩ (.int .i64 (z + 1))) := (Chg.refl (fun x => x = g) wr).set_ (g := g) (show (fun x => x = g) g from rfl) _ _
                    exact hc.rd H9.out.2.2.1 (fun a ha e => H8.out.2.2.2.2.2 a ha e)
                  · rw [gi_set (by rw [H9.out.2.2.2.2.2.2.2.2, HSl.out]; omega)]
                    have hold := H9.out.2.2.2.1 q hq
                    by_cases e : p = q
                    · subst e
                      rw [if_pos rfl, if_pos ((H9.out.2.2.2.2.1 _).2 (.inr rfl)), ← H9.out.2.1, hold, if_neg H9.out.2.2.2.2.2.1, Int.add_zero]
                    · rw [if_neg e, hold]
                      congr 1
                      have : ((q : Int) ∈ l.take (i' + 1)) ↔ ((q : Int) ∈ l.take i') := by
                        rw [H9.out.2.2.2.2.1]; exact ⟨fun h => h.elim id (fun h => absurd (by omega) e), .inl⟩
                      simp only [this]
                · obtain rfl : i' = ln := by omega
                  have htk : l.take i' = l := List.take_of_length_le (by rw [H8.out.2.2.2.2.1]; exact Nat.le_refl _)
                  rw [htk] at hcn
                  have H9 := Lib.hid (And.intro hR' hcn)
                  clear hR' hcn htk hrd' hi' hlt
                  go_wp2
                  exact ⟨⟨j + 1, kn, M', L6, by have := HJ.out.1; omega, by go_num, HJ.out.2.1, rfl, H9.out.1, fun p hp => by rw [H9.out.2 p hp]; rw [HN.out]; simp⟩, by have := HJ.out.1; simp [intOf]; omega⟩
            | false =>
              have e1 : tkE kn (i : Int) = 0 := by unfold tkE; rw [hin, hk]; rfl
              have e2 : tkK kn (i : Int) = kn.set i true := by unfold tkK; rw [hin, hk]; rfl
              have hkl : i < kn.length := by have := HJ.out.2.1; have := HT.out.2; omega
              have hus := unk_set hkl hk
              have htt := fun p (hp : p < S.length) => told_take hkl HJ.out.2.2.1.md.gr.kz HJ.out.2.2.1.md.gr.ss hk hp
              rw [hl] at htt
              rw [hk] at ct
              rw [e2] at hset
              rw [e1, hl, hln]
              obtain ⟨kn', hkn'⟩ : ∃ kn', kn.set i true = kn' := ⟨_, rfl⟩
              have hkl' : kn'.length = K := by rw [← hkn', List.length_set]; exact HJ.out.2.1
              rw [hkn'] at hset hus htt
              have H8 := Lib.hid (And.intro hset (And.intro hrd7 (And.intro hl (And.intro (show (tkL kn S (i : Int)).length = ln by rw [hl, hln]) (And.intro hln hne7)))))
              have HN := Lib.hid (And.intro hkl' htt)
              have hwu : IntKind.i64.wrap ((unk kn : Int) - 1) = (unk kn' : Int) := by rw [IntKind.wrap_i64]; omega
              clear ho6 g6 c6 hO6 hge hTl hMl hc7 hrd7 hne7 hset hln hl e1 e2 hk hin cx hkl' htt hkl hkn' 
              have hln40 : ln ≤ 40 := by rw [← H8.out.2.2.2.1]; exact Nat.le_trans (tkL_le _ _ _) (by have := HSl.out; omega)
              have hlni : (ln : Int) ≤ 40 := by omega
              clear hln40
              go_wp2
              go_loopw [17] (fun i wq => ∃ (i' : Nat) (M' : List Int), i' ≤ ln ∧ i = .int .i64 i' ∧ OnR w1 G kn' S (.slice Av S.length cv) vs gT g kn' M' wq tag L6 ∧ Rd wq A6 ln (nums l) ∧ ∀ p, p < sl → gi M' p = told kn S p + (if (p : Int) ∈ l.take i' then 1 else 0)) (fun i wq => ln - (intOf i).toNat)
              case atStart => exact ⟨0, M, by omega, rfl, H8.out.1, H8.out.2.1, fun p hp => by rw [HJ.out.2.2.2 p hp]; simp⟩
              case round =>
                obtain ⟨i', M', hi', rfl, hR', hrd', hcn⟩ := hrel
                by_cases hlt : i' < ln
                · have hil : i' < l.length := by rw [H8.out.2.2.2.2.1]; exact hlt
                  obtain ⟨p, hp, hpS⟩ := tkL_in (kn := kn) (S := S) (x := (i : Int)) (n := gi l i') (by rw [H8.out.2.2.1]; exact gi_mem hil)
                  have hasc : l.Pairwise (· < ·) := by rw [← H8.out.2.2.1]; exact tkL_asc _ _ _
                  have hnt := not_mem_take hil hasc
                  obtain ⟨b, off, rfl, hbl, hcc⟩ := hrd'.form (by omega)
                  have cx := hcc i' _ (nums_gi hil)
                  have hmt := fun q => mem_take_succ hil q
                  rw [hp] at cx hnt
                  simp only [hp] at hmt
                  have hpl : p < sl := by rw [← HSl.out]; exact hpS
                  have km : (i' : Int) < (ln : Int) := by omega
                  have hpi : (p : Int) < (sl : Int) := by omega
                  have cm := hR'.mb.cell p
                  have fm := hR'.mb.frozen p
                  rw [nums_gi (by rw [hR'.ml, HSl.out]; exact hpl)] at cm
                  have hM := hcn p hpl
                  rw [if_neg hnt, Int.add_zero] at hM
                  have hin := told_in kn S p
                  obtain ⟨z, hz⟩ : ∃ z, gi M' p = z := ⟨_, rfl⟩
                  have hwz : IntKind.i64.wrap (z + 1) = z + 1 := by rw [IntKind.wrap_i64]; omega
                  rw [hz] at cm
                  have d0 : decide ((p : Int) < 0) = false := by simp
                  have d1 : decide ((p : Int) ≥ (sl : Int)) = false := by simp; omega
                  have d2 : decide ((sl : Int) ≤ (p : Int)) = false := by simp; omega
                  have d3 : decide (sl ≤ p) = false := by simp; omega
                  have H9 := Lib.hid (And.intro (hR'.setM p (z + 1)) (And.intro hz (And.intro hrd' (And.intro hcn (And.intro hmt (And.intro hnt (And.intro hlt (And.intro hM hR'.ml))))))))
                  clear hlt hil hp hpS hasc hnt hbl hcc hmt hM hin hz hrd' hcn hR' hi'
                  go_wp2
                  refine ⟨⟨i' + 1, _, by have := H9.out.2.2.2.2.2.2.1; omega, by go_num, H9.out.1, ?_, fun q hq => ?_⟩, by have := H9.out.2.2.2.2.2.2.1; simp [intOf]; omega⟩
                  · have hc : Chg (fun x => x = g) wr (wr.setCell ⟨g, p, none⟩ (.int .i64 (z + 1))) := (Chg.refl (fun x => x = g) wr).set_ (g := g) (show (fun x => x = g) g from rfl) _ _
                    exact hc.rd H9.out.2.2.1 (fun a ha e => H8.out.2.2.2.2.2 a ha e)
                  · rw [gi_set (by rw [H9.out.2.2.2.2.2.2.2.2, HSl.out]; omega)]
                    have hold := H9.out.2.2.2.1 q hq
                    by_cases e : p = q
                    · subst e
                      rw [if_pos rfl, if_pos ((H9.out.2.2.2.2.1 _).2 (.inr rfl)), ← H9.out.2.1, hold, if_neg H9.out.2.2.2.2.2.1, Int.add_zero]
                    · rw [if_neg e, hold]
                      congr 1
                      have : ((q : Int) ∈ l.take (i' + 1)) ↔ ((q : Int) ∈ l.take i') := by
                        rw [H9.out.2.2.2.2.1]; exact ⟨fun h => h.elim id (fun h => absurd (by omega) e), .inl⟩
                      simp only [this]
                · obtain rfl : i' = ln := by omega
                  have htk : l.take i' = l := List.take_of_length_le (by rw [H8.out.2.2.2.2.1]; exact Nat.le_refl _)
                  rw [htk] at hcn
                  have H9 := Lib.hid (And.intro hR' hcn)
                  clear hR' hcn htk hrd' hi' hlt
                  go_wp2
                  exact ⟨⟨j + 1, kn', M', L6, by have := HJ.out.1; omega, by go_num, HN.out.1, rfl, H9.out.1, fun p hp => by rw [H9.out.2 p hp]; rw [HN.out.2 p (by rw [HSl.out]; exact hp)]⟩, by have := HJ.out.1; simp [intOf]; omega⟩
          -- B
          -- C
          · obtain rfl : j = m := by omega
            have hu := unk_le kn
            rw [hkl] at hu
            obtain ⟨u, hu'⟩ : ∃ u, unk kn = u := ⟨_, rfl⟩
            have HM := Lib.hid (And.intro hkl (And.intro hR htd))
            have HU := Lib.hid hu'
            rw [hu'] at hu ⊢
            have hu20 : (u : Int) ≤ 20 := by omega
            clear hkl hR htd hlt hj hu hu'
            go_wp2
            go_loopw [18] (fun i wr => ∃ p : Nat, p ≤ sl ∧ i = .int .i64 p ∧ OnR w1 G kn S (.slice Av S.length cv) vs gT g kn M wr tag L) (fun i wr => sl - (intOf i).toNat)
            case atStart => exact ⟨0, by omega, rfl, HM.out.2.1⟩
            case round =>
              obtain ⟨p, hp, rfl, hR⟩ := hrel
              by_cases hlt : p < sl
              · have km : (p : Int) < (sl : Int) := by omega
                have hpS : p < S.length := by rw [HSl.out]; exact hlt
                have hS := hR.md.gr.ss _ (getD_mem hpS)
                have hS2 := hS.len
                rw [HM.out.1] at hS2
                obtain ⟨a, off, B, cc, hAv, crow, hrow⟩ := hR.md.row rfl hpS
                obtain ⟨l, hl⟩ : ∃ l, S.getD p [] = l := ⟨_, rfl⟩
                rw [hl] at crow hrow hS hS2
                obtain ⟨ln, hln⟩ : ∃ ln, l.length = ln := ⟨_, rfl⟩
                rw [hln] at crow hrow hS2
                have hln20 : (ln : Int) ≤ 20 := by omega
                have HP := Lib.hid (And.intro hR (And.intro hlt (And.intro hl (And.intro hln (And.intro hS (And.intro crow hrow))))))
                obtain ⟨wo, hwo⟩ : ∃ wo, wo = wr := ⟨_, rfl⟩
                subst hwo
                subst hAv
                clear hR hlt hpS hS hS2 hl hln hrow hp
                go_wp2
                go_loopw [19, 20] (fun v i wq => ∃ jj : Nat, jj ≤ ln ∧ i = .int .i64 jj ∧ wq.ownsRow wo.heap.size 3 1 v (rst kn (l.take jj)).length (nums (rst kn (l.take jj))) ∧ Below wo.heap.size wo wq) (fun v i wq => ln - (intOf i).toNat)
                case atStart => exact ⟨0, by omega, rfl, World.ownsRow_nil _ _ _ _, Below.refl _ _⟩
                case round =>
                  obtain ⟨jj, hjj, rfl, how, hbw⟩ := hrel
                  have crw := (hbw.cell (p := ⟨a, off + p, none⟩) (World.block_lt_of_cell? _ _ crow)).trans crow
                  by_cases hlt : jj < ln
                  · have hjl : jj < l.length := by rw [HP.out.2.2.2.1]; exact hlt
                    have hin := HP.out.2.2.2.2.1.inr _ (gi_mem hjl)
                    rw [HM.out.1] at hin
                    have HF := rst_take_succ kn l hjl
                    obtain ⟨y, hy⟩ : ∃ y : Nat, gi l jj = y := ⟨(gi l jj).toNat, by omega⟩
                    have hyk : y < K := by omega
                    obtain ⟨b2, off2, rfl, hb2, hcc⟩ := (HP.out.2.2.2.2.2.2.below hbw).form (by omega)
                    have cx := hcc jj _ (nums_gi hjl)
                    rw [hy] at cx HF
                    have ct := (HP.out.1.tb.belowS hbw).cell y
                    rw [bools_at (by rw [HM.out.1]; exact hyk)] at ct
                    have kj : (jj : Int) < (ln : Int) := by omega
                    have ky : (y : Int) < (K : Int) := by omega
                    have hrl : (rst kn (l.take jj)).length ≤ 20 := Nat.le_trans (List.length_filter_le _ _) (by rw [List.length_take]; omega)
                    obtain ⟨R, hR⟩ : ∃ R, rst kn (l.take jj) = R := ⟨_, rfl⟩
                    rw [hR] at how HF hrl
                    obtain ⟨r, hr⟩ : ∃ r, R.length = r := ⟨_, rfl⟩
                    rw [hr] at how hrl
                    have HW := Lib.hid (And.intro how (And.intro hbw (And.intro hlt hr)))
                    clear how hin hcc hy hyk hjl hR hr hjj
                    cases hk : knw kn (y : Int) with
                    | true =>
                      rw [hk] at ct HF
                      rw [if_pos rfl, List.append_nil] at HF
                      have HF := Lib.hid HF
                      clear hk hbw hlt
                      go_wp2
                      exact ⟨⟨jj + 1, by have := HW.out.2.2.1; omega, by go_num, by rw [HF.out, HW.out.2.2.2]; exact HW.out.1, HW.out.2.1⟩, by have := HW.out.2.2.1; simp [intOf]; omega⟩
                    | false =>
                      rw [hk] at ct HF
                      rw [if_neg (by simp)] at HF
                      have HF := Lib.hid HF
                      obtain ⟨i0, hi0, hz0, hz1, hz2⟩ := info_parts u3_info
                      obtain ⟨Aw, cw, rfl, hvw⟩ := own_slice HW.out.1
                      clear hk hbw hlt hvw
                      go_wp2_with (at_builtin; refine wpList_append_rd _ rfl (.tmp 143) (.tmp 151) _ rfl wo.heap.size 3 i0 _ 1 8 Try.underlying32 hi0 hz0 hz1 hz2 rfl (by omega) _ r (nums R) rfl (own_below HW.out.1 ((Below.refl _ _).alloc (Nat.le_refl _) _)) (some ⟨wr.heap.size, 0, none⟩) 1 1 (nums [(y : Int)]) rfl (Rd.lit _ _ _ _ rfl 1 rfl _ rfl) (nums_one _) (by simp only [maxLen]; omega) (by omega) (by have := HW.out.2.1.size; rw [World.size_alloc]; omega) ?_; intro v1 w3 hown1 hg1 hat1; rw [← nums_append] at hown1)
                      have hc : Chg (fun b => (Value.slice Aw r cw).ownBlock = some b) wr w3 := ((Chg.refl _ wr).alloc _).trans (Chg.of_grown hg1 (S := fun b => (Value.slice Aw r cw).ownBlock = some b) fun k e => e) fun _ _ x => x
                      exact ⟨⟨jj + 1, by have := HW.out.2.2.1; omega, by go_num, by rw [HF.out, List.length_append, HW.out.2.2.2]; exact hown1, hc.below HW.out.2.1 (fun b _ e => (HW.out.1.lt b e).1) HW.out.2.1.size⟩, by have := HW.out.2.2.1; simp [intOf]; omega⟩
                  · obtain rfl : jj = ln := by omega
                    have htk : l.take jj = l := List.take_of_length_le (by rw [HP.out.2.2.2.1]; exact Nat.le_refl _)
                    rw [htk] at how
                    have hpS : p < S.length := by rw [HSl.out]; exact HP.out.2.1
                    have e2 : rsL kn S (p : Int) = rst kn l := by unfold rsL; rw [if_pos (by omega), Int.toNat_natCast, HP.out.2.2.1]
                    have e1 : rsE S (p : Int) = 0 := if_pos (by omega)
                    have hrl : (rst kn l).length ≤ 20 := Nat.le_trans (List.length_filter_le _ _) (by rw [HP.out.2.2.2.1]; omega)
                    obtain ⟨Aw, cw, rfl, hvw⟩ := own_slice how
                    have HX := Lib.hid (And.intro (rests_any (c := cw) (show GE w1 wr G kn S 100 from ⟨tag, L, HP.out.1.md.gr.below hbw, below_base HP.out.1.md.b hbw HP.out.1.md.b.size⟩) (Rd.of_own how) (by omega) (p : Int) 0) (And.intro (show (rsE S (p : Int) == 0 && rsL kn S (p : Int) == rst kn l) = true from by rw [e1, e2]; simp) hbw))
                    obtain ⟨r, hr⟩ : ∃ r, (rst kn l).length = r := ⟨_, rfl⟩
                    have HRr := Lib.hid hr
                    rw [hr] at HX hrl ⊢
                    have hr20 : (r : Int) ≤ 20 := by omega
                    clear hpS e1 e2 hr hvw htk hrl
                    by_cases h1 : 1 < jj
                    · have d1 : decide ((jj : Int) > 1) = true := by simp; omega
                      have d2 : decide ((1 : Int) < (jj : Int)) = true := by simp; omega
                      have d3 : decide (1 < jj) = true := by simpa using h1
                      by_cases h2 : r ≤ 1
                      · have d4 : decide ((r : Int) ≤ 1) = true := by simp; omega
                        have d5 : decide (r ≤ 1) = true := by simpa using h2

                        clear how hbw hjj hlt
                        go_wp2_with fail
                        refine HX.out.1.mono ?_
                        rintro e w9 ⟨rfl, _, hb9⟩
                        rw [HX.out.2.1]
                        have H9 := Lib.hid (HP.out.1.below (below_base HX.out.2.2 hb9 HX.out.2.2.size))
                        have cm := H9.out.mb.cell p
                        rw [nums_gi (by rw [H9.out.ml, HSl.out]; exact HP.out.2.1), HM.out.2.2 p HP.out.2.1, show told kn S p = (1 : Int) from by unfold told; rw [HP.out.2.2.1, HP.out.2.2.2.1, HRr.out]; exact if_pos ⟨h1, h2⟩] at cm
                        go_wp2
                        exact ⟨⟨p + 1, by have := HP.out.2.1; omega, by go_num, H9.out⟩, by have := HP.out.2.1; simp [intOf]; omega⟩
                      · have d4 : decide ((r : Int) ≤ 1) = false := by simp; omega
                        have d5 : decide (r ≤ 1) = false := by simpa using h2

                        clear how hbw hjj hlt
                        go_wp2_with fail
                        refine HX.out.1.mono ?_
                        rintro e w9 ⟨rfl, _, hb9⟩
                        rw [HX.out.2.1]
                        have H9 := Lib.hid (HP.out.1.below (below_base HX.out.2.2 hb9 HX.out.2.2.size))
                        have cm := H9.out.mb.cell p
                        rw [nums_gi (by rw [H9.out.ml, HSl.out]; exact HP.out.2.1), HM.out.2.2 p HP.out.2.1, show told kn S p = (0 : Int) from by unfold told; rw [HP.out.2.2.1, HP.out.2.2.2.1, HRr.out]; exact if_neg (fun h => h2 h.2)] at cm
                        go_wp2
                        exact ⟨⟨p + 1, by have := HP.out.2.1; omega, by go_num, H9.out⟩, by have := HP.out.2.1; simp [intOf]; omega⟩
                    · have d1 : decide ((jj : Int) > 1) = false := by simp; omega
                      have d2 : decide ((1 : Int) < (jj : Int)) = false := by simp; omega
                      have d3 : decide (1 < jj) = false := by simpa using h1

                      clear how hbw hjj hlt
                      go_wp2_with fail
                      refine HX.out.1.mono ?_
                      rintro e w9 ⟨rfl, _, hb9⟩
                      rw [HX.out.2.1]
                      have H9 := Lib.hid (HP.out.1.below (below_base HX.out.2.2 hb9 HX.out.2.2.size))
                      have cm := H9.out.mb.cell p
                      rw [nums_gi (by rw [H9.out.ml, HSl.out]; exact HP.out.2.1), HM.out.2.2 p HP.out.2.1, show told kn S p = (0 : Int) from by unfold told; rw [HP.out.2.2.1, HP.out.2.2.2.1, HRr.out]; exact if_neg (fun h => h1 h.1)] at cm
                      go_wp2
                      exact ⟨⟨p + 1, by have := HP.out.2.1; omega, by go_num, H9.out⟩, by have := HP.out.2.1; simp [intOf]; omega⟩
              · obtain rfl : p = sl := by omega
                have HE := Lib.hid (And.intro (unknown_gr hR.md.gr) hR)
                rw [HU.out] at HE
                clear hR hlt hp
                go_wp2_with fail
                refine HE.out.1.mono ?_
                rintro e w8 ⟨rfl, rfl⟩
                go_wp2
                go_ret
                exact ⟨rfl, below_base H1.out.1 HE.out.2.md.b H1.out.1.size⟩
          -- D
end Go.Proofs.Ytcgcbajgclkmkaa
