/- Package xors, and the document's answer for it: what each function comes to. -/
import Derived.Test.YtkhedjildlokoaaAdd08
namespace Go.Proofs.Ytkhedjildlokoaa
open Go.RowKit
set_option linter.unusedVariables false

/-- slices.ContainsFunc, xors.Zero -/
theorem contains_any {w : World} {A : Option Addr} {n c : Nat} {l : List UInt8} (h : Rd w A n (bys l)) (hn : n ≤ 140737488351232) :
    Calls Try.prog 28 #[.slice A n c, .func (.func 29) #[] #[]] w fun e w' => e = .returned (.bool (l.any (· != 0))) ∧ w = w' := by
  go_enter Try.func28, Try.ntmps28
  go_wp2_with fail
  refine (indexFn_any h hn).mono ?_
  rintro e w' ⟨r, rfl, rfl, hr, h1, h2⟩
  have HR := Lib.hid hr
  clear hr
  go_wp2
  go_ret
  exact ⟨ret_bool HR.out, rfl⟩
theorem zero_any {w : World} {A : Option Addr} {n c : Nat} {l : List UInt8} (h : Rd w A n (bys l)) (hn : n ≤ 140737488351232) :
    Calls Try.prog 19 #[.slice A n c] w fun e w' => e = .returned (.bool (!l.any (· != 0))) ∧ w = w' := by
  go_enter Try.func19, Try.ntmps19
  go_wp2_with fail
  refine (contains_any h hn).mono ?_
  rintro e w' ⟨rfl, rfl⟩
  go_wp2
  go_ret
  exact ⟨rfl, rfl⟩
theorem refZero_any {w : World} {A : Option Addr} {n c : Nat} {l : List UInt8} (h : Rd w A n (bys l)) (hn : n ≤ 140737488351232) :
    Calls Try.prog 20 #[.slice A n c] w fun e w' => e = .returned (.bool (!l.any (· != 0))) ∧ w = w' := by
  have hl : l.length = n := by have := h.1; simpa [bys_length] using this
  have HL := Lib.hid hl
  clear hl
  go_enter Try.func20, Try.ntmps20
  go_wp2
  go_loop [3] (fun i => ∃ k : Nat, k ≤ n ∧ i = .int .i64 k ∧ Hid ((l.take k).any (· != 0) = false)) (fun i => n - (intOf i).toNat)
  case atStart => exact ⟨0, by omega, rfl, by unfold Hid; simp⟩
  case round =>
    obtain ⟨k, hk, rfl, HZ⟩ := hrel
    by_cases hlt : k < n
    · have hkl : k < l.length := by rw [HL.out]; exact hlt
      obtain ⟨b, off, rfl, _, hc⟩ := h.form (by omega)
      have hc' := hc k _ (bys_get l k hkl)
      have HS := Lib.hid (any_take_succ hkl (· != 0))
      clear hc
      have hdec : ((l[k].toNat : Int) != 0) = (l[k] != 0) := by
        rw [Bool.eq_iff_iff]; simp [← UInt8.toNat_inj]
      by_cases hz : (l[k] != 0) = true
      · rw [hz] at hdec
        go_wp2
        go_ret
        have : l.any (· != 0) = true := List.any_eq_true.2 ⟨l[k], List.getElem_mem _, hz⟩
        exact ⟨ret_bool (by rw [this]; rfl), rfl⟩
      · have hz' : (l[k] != 0) = false := by simpa using hz
        rw [hz'] at hdec
        clear hz
        have HZ' := Lib.hid hz'
        clear hz'
        go_wp2
        go_round
        case rel => exact ⟨k + 1, by omega, by go_num, by unfold Hid; rw [HS.out, HZ.out, HZ'.out]; rfl⟩
        case measure => simp [intOf]; omega
    · go_wp2
      go_ret
      refine ⟨ret_bool ?_, rfl⟩
      rw [← List.take_of_length_le (l := l) (i := k) (by rw [HL.out]; omega), HZ.out]; rfl
/-- xors.Into: other lengths; the same. -/
theorem into_no {w : World} {n c n' c' : Nat} {A A' : Option Addr} (hne : n ≠ n') :
    Calls Try.prog 21 #[.slice A n c, .slice A' n' c'] w fun e w' => e = .returned (.int .i64 2) ∧ w = w' := by
  have hd : ((n : Int) != (n' : Int)) = true := by simp; omega
  go_enter Try.func21, Try.ntmps21
  go_wp2
  go_ret
  exact ⟨rfl, rfl⟩
theorem into_any {w : World} {g off n c c' : Nat} {A A' : Option Addr} {xs ys : List UInt8} (hm : Mut w A n g off (bys xs)) (hy : Rd w A' n (bys ys)) (hne : 0 < n → ∀ a, A' = some a → a.block ≠ g) (hn : n ≤ 140737488351232) (hc : n ≤ c) (hc' : n ≤ c') :
    Calls Try.prog 21 #[.slice A n c, .slice A' n c'] w fun e w' => e = .returned (.int .i64 0) ∧ Upd w w' g off (bys (xorL xs ys)) := by
  have H := Lib.hid (add_any hm hy hne hn hc hc')
  clear hm hy hne
  go_enter Try.func21, Try.ntmps21
  go_wp2_with fail
  refine H.out.mono ?_
  rintro e w1 ⟨rfl, hu⟩
  have HU := Lib.hid hu
  clear hu
  go_wp2
  go_ret
  exact ⟨rfl, HU.out⟩
/-- xors.sized -/
theorem sized_any {w : World} (n : Int) :
    Calls Try.prog 25 #[.int .i64 n] w fun e w' => e = .returned (.bool (decide (0 ≤ n ∧ n ≤ 65535))) ∧ w = w' := by
  by_cases h : 0 ≤ n
  · go_enter Try.func25, Try.ntmps25
    go_wp2
    go_ret
    exact ⟨ret_bool (by simp [h]), rfl⟩
  · have hd : decide (0 ≤ n) = false := by simpa using h
    go_enter Try.func25, Try.ntmps25
    go_wp2
    go_ret
    exact ⟨ret_bool (by simp), rfl⟩
/-- What is told: bytes in new memory, or none, and an error's number. -/
def Told (w : World) (V : List UInt8) (E : Int) (e : Ending) (w' : World) : Prop :=
  ∃ v, e = .returned (.tuple #[v, .int .i64 E]) ∧ w'.ownsRow w.heap.size 5 1 v V.length (bys V) ∧ Below w.heap.size w w'
/-- xors.Xor -/
theorem xor_any {w : World} {n c n' c' : Nat} {A A' : Option Addr} {xs ys : List UInt8} (hx : Rd w A n (bys xs)) (hy : Rd w A' n' (bys ys)) (hn : n ≤ 140737488351232) (hc' : n' ≤ c') :
    Calls Try.prog 17 #[.slice A n c, .slice A' n' c'] w (Told w (xorV xs ys) (xorE xs ys)) := by
  have hlx : xs.length = n := by have := hx.1; simpa [bys_length] using this
  have hly : ys.length = n' := by have := hy.1; simpa [bys_length] using this
  have HL := Lib.hid (And.intro hlx hly)
  clear hlx hly
  go_enter Try.func17, Try.ntmps17
  go_wp2_with fail
  refine (clone_any hx hn).mono ?_
  rintro e w1 ⟨v, rfl, hown, hb⟩
  obtain ⟨A1, c1, rfl, hc1, _, _, _⟩ := own_form hown
  by_cases hne : n = n'
  · subst hne
    obtain ⟨g, hm, hg, hgl, hup⟩ := Mut.of_own hown
    have hy1 := hy.below hb
    have H := Lib.hid (into_any hm hy1 (fun h0 a ha => by
      have := hy.lt h0 a ha; omega) hn hc1 hc')
    clear hm hy1 hx hy hown
    go_wp2_with fail
    refine H.out.mono ?_
    rintro e w2 ⟨rfl, hu⟩
    have hown2 := hup w2 _ (by rw [bys_length, xorL_length _ _ (by have := HL.out; omega)]; exact HL.out.1) hu
    have hb2 := hu.below hb hb.size hg
    clear hu hup
    go_wp2
    go_ret2
    refine ⟨_, ret_told (show (0 : Int) = xorE xs ys from by unfold xorE; rw [if_pos (by have := HL.out; omega)]), ?_, hb2⟩
    rw [show xorV xs ys = xorL xs ys from by unfold xorV; rw [if_pos (by have := HL.out; omega)], xorL_length _ _ (by have := HL.out; omega), HL.out.1]
    exact hown2
  · go_wp2_with fail
    refine (into_no hne).mono ?_
    rintro e w2 ⟨rfl, rfl⟩
    go_wp2
    go_ret2
    refine ⟨_, ret_told (show (2 : Int) = xorE xs ys from by unfold xorE; rw [if_neg (by have := HL.out; omega)]), ?_, hb⟩
    rw [show xorV xs ys = [] from by unfold xorV; rw [if_neg (by have := HL.out; omega)]]
    exact World.ownsRow_nil _ _ _ _
/-- The method value 'plus' of a symbol. -/
theorem plus_any {w : World} {a b : Value} {R : Ending → World → Prop} (h : Calls Try.prog 21 #[a, b] w fun e w' => ∃ n : Int, e = .returned (.int .i64 n) ∧ R e w') :
    Calls Try.prog 26 #[a, b] w R := by
  have H := Lib.hid h
  clear h
  go_enter Try.func26, Try.ntmps26
  go_wp2_with fail
  refine H.out.mono ?_
  rintro e w1 ⟨n, rfl, hr⟩
  have HR := Lib.hid hr
  clear hr
  go_wp2
  exact HR.out
theorem all_any {w : World} {n : Int} {L : Option Addr} {m c : Nat} {vs : List Value} {xss : List (List UInt8)} (hL : Rd w L m vs) (hR : Rows_ w vs xss) (hm : m ≤ 140737488351232) :
    Calls Try.prog 11 #[.int .i64 n, .slice L m c] w (Told w (allV n xss) (allE n xss)) := by
  by_cases hs : 0 ≤ n ∧ n ≤ 65535
  · obtain ⟨N, rfl⟩ := Int.eq_ofNat_of_zero_le hs.1
    have hN : N ≤ 65535 := by omega
    have hd : decide (0 ≤ (N : Int) ∧ (N : Int) ≤ 65535) = true := by simpa using hs
    have HV : Hid (allV N xss = (if xss.all (·.length == N) then sumL N xss else []) ∧ allE N xss = if xss.all (·.length == N) then 0 else 2) := by
      constructor
      · unfold allV; rw [if_pos hs]; rfl
      · unfold allE; rw [if_pos hs]; rfl
    have HM : Hid (m = xss.length) := by have := hL.1; have := hR.1; unfold Hid; omega
    obtain ⟨i0, hi0, hz0, hz1, hz2⟩ := info_parts u8_info
    go_enter Try.func11, Try.ntmps11
    go_wp2_with (first | (go_at_call 25; refine (sized_any _).mono ?_; rw [hd]; rintro e w' ⟨rfl, rfl⟩) | (at_make; go_loud (refine wpList_make_full _ rfl _ _ 43 rfl w.heap.size 5 i0 (.int .u8 0) 1 Try.underlying43 hi0 hz0 hz1 .i64 .i64 _ _ N rfl rfl rfl rfl (by rw [hz2]; omega) (by simp only [maxLen]; omega) (Nat.le_refl _) ?_); intro w1 hown hg))
    have hown0 : w1.ownsRow w.heap.size 5 1 (.slice (some ⟨w.heap.size, 0, none⟩) N N) N (bys (sumL N (xss.take 0))) := by
      have e : (madeCells (Value.int .u8 0).cells (N * 1)).toList = bys (List.replicate N 0) := by
        rw [Nat.mul_one]; show (madeCells #[.int .u8 0] N).toList = _
        rw [toList_madeCells_one]; simp [bys]
      rw [e] at hown
      exact hown
    have hb1 : Below w.heap.size w w1 := below_of_grownN hg
    clear hown hg
    go_loopw [20] (fun i wr => ∃ k : Nat, k ≤ m ∧ i = .int .i64 k ∧ Hid ((xss.take k).all (·.length == N) = true) ∧ wr.ownsRow w.heap.size 5 1 (.slice (some ⟨w.heap.size, 0, none⟩) N N) N (bys (sumL N (xss.take k))) ∧ Below w.heap.size w wr) (fun i wr => m - (intOf i).toNat)
    case atStart => exact ⟨0, by omega, rfl, by unfold Hid; simp, hown0, hb1⟩
    case round =>
      clear hown0 hb1
      obtain ⟨k, hk, rfl, HA, hown, hb⟩ := hrel
      by_cases hlt : k < m
      · have hkx : k < xss.length := by rw [← HM.out]; exact hlt
        have hkv : k < vs.length := by rw [hL.1]; exact hlt
        obtain ⟨A', c', ev, hcr, hll, hrd⟩ := hR.at_ hkx
        obtain ⟨b, off, rfl, hbl, hc⟩ := hL.form (by omega)
        have hc' := (hb.cell (p := ⟨b, off + k, none⟩) hbl).trans (hc k _ ev)
        have HS := Lib.hid (all_take_succ hkx (fun x => x.length == N))
        have HT := Lib.hid (sumL_take_succ (n := N) hkx)
        clear hc
        have HF := Lib.hid (And.intro hL hR)
        clear hL hR ev
        by_cases hlen : xss[k].length = N
        · obtain ⟨g, hm, hg, hgl, hup⟩ := Mut.of_own hown
          have hrd1 := hrd.below hb
          have HL := Lib.hid hlen
          have hrw := hrd
          rw [hlen] at hrd1 hcr hc'
          have H := Lib.hid (plus_any ((into_any hm hrd1 (fun h0 a ha => by
            have := hrw.lt (by rw [HL.out]; exact h0) a ha; omega) (by omega) (Nat.le_refl _) hcr).mono (R' := fun e w' => ∃ n : Int, e = .returned (.int .i64 n) ∧ (e = .returned (.int .i64 0) ∧ Upd wr w' g 0 (bys (xorL (sumL N (xss.take k)) xss[k])))) fun e w' h => ⟨0, h.1, h⟩))
          clear hm hrd1 hrd hrw hlen
          go_wp2_with (go_at_call 26; refine H.out.mono ?_; rintro e w2 ⟨rfl, hu⟩; have HU := Lib.hid hu; clear hu)
          have hall := HS.out
          rw [HA.out, HL.out] at hall
          have hown2 := hup _ _ (by rw [bys_length, xorL_length _ _ (by rw [sumL_length HA.out, HL.out]), sumL_length HA.out]) HU.out
          rw [← HT.out] at hown2
          refine ⟨⟨k + 1, by omega, by go_num, by unfold Hid; rw [hall]; simp, hown2, HU.out.below hb hb.size hg⟩, by simp [intOf]; omega⟩
        · have H := Lib.hid (plus_any ((into_no (w := wr) (A := some ⟨w.heap.size, 0, none⟩) (c := N) (A' := A') (c' := c') (Ne.symm hlen)).mono (R' := fun e w' => ∃ n : Int, e = .returned (.int .i64 n) ∧ (e = .returned (.int .i64 2) ∧ wr = w')) fun e w' h => ⟨2, h.1, h⟩))
          go_wp2_with (go_at_call 26; refine H.out.mono ?_; rintro e w2 ⟨rfl, rfl⟩)
          go_ret2
          have hall : xss.all (·.length == N) = false := all_of_take hkx _ (by simpa using hlen)
          refine ⟨_, ret_told (show (2 : Int) = allE N xss from by rw [HV.out.2, hall]; simp), ?_, hb⟩
          rw [HV.out.1, hall]
          exact World.ownsRow_nil _ _ _ _
      · obtain rfl : k = m := by omega
        have HF := Lib.hid (And.intro hL hR)
        clear hL hR
        go_wp2
        go_ret2
        have e1 : xss.take k = xss := List.take_of_length_le (by rw [HM.out]; exact Nat.le_refl _)
        have hall := HA.out
        rw [e1] at hall hown
        refine ⟨_, ret_told (show (0 : Int) = allE N xss from by rw [HV.out.2, hall]; simp), ?_, hb⟩
        rw [HV.out.1, hall, if_pos rfl, sumL_length hall]
        exact hown
  · have hd : decide (0 ≤ n ∧ n ≤ 65535) = false := by simpa using hs
    go_enter Try.func11, Try.ntmps11
    go_wp2_with (go_at_call 25; refine (sized_any _).mono ?_; rw [hd]; rintro e w' ⟨rfl, rfl⟩)
    go_ret2
    refine ⟨_, ret_told (show (3 : Int) = allE n xss from by unfold allE; rw [if_neg hs]), ?_, Below.refl _ _⟩
    rw [show allV n xss = [] from by unfold allV; rw [if_neg hs]]
    exact World.ownsRow_nil _ _ _ _
theorem zeros_bys (N : Nat) : (madeCells (Value.int .u8 0).cells (N * 1)).toList = bys (List.replicate N 0) := by
  rw [Nat.mul_one]; show (madeCells #[.int .u8 0] N).toList = _
  rw [toList_madeCells_one]; simp [bys]
/-- bytes cut, or with noughts behind them -/
def evenL (b : List UInt8) (n : Nat) : List UInt8 := b.take n ++ List.replicate (n - b.length) 0
theorem evenL_length (b : List UInt8) (n : Nat) : (evenL b n).length = n := by simp [evenL]; omega
theorem spl_even (b : List UInt8) (n : Nat) : spl (bys (List.replicate n 0)) 0 ((bys b).take n) = bys (evenL b n) := by
  simp [spl, evenL, bys_take, bys_drop, bys_append]
  congr 2
  rw [bys_length]; simp; omega
/-- make, then copy: 'even' of the statements, and Pad. -/
theorem made_copied {w w1 w2 : World} {n g : Nat} {b : List UInt8} (hown : w1.ownsRow w.heap.size 5 1 (.slice (some ⟨w.heap.size, 0, none⟩) n n) n (bys (List.replicate n 0))) (hb : Below w.heap.size w w1)
    (hu : Upd w1 w2 w.heap.size 0 ((bys b).take n)) : w2.ownsRow w.heap.size 5 1 (.slice (some ⟨w.heap.size, 0, none⟩) n n) n (bys (evenL b n)) ∧ Below w.heap.size w w2 := by
  refine ⟨?_, hu.below hb hb.size (Nat.le_refl _)⟩
  rcases hown.2 with ⟨h, _⟩ | ⟨g, cap, cur, hv, hg, hh, hnc, hcm, hcs, ht⟩
  · cases h
  · injection hv with hA _ hcap
    cases hA
    subst hcap
    have hb : Bk w1 w.heap.size 5 cur.toList := hh
    have hcur : cur.toList = bys (List.replicate n 0) := by
      rw [← ht]; exact (List.take_of_length_le (by simp; omega)).symm
    rw [hcur] at hb
    have h2 := hu.2 _ _ hb (by simp [bys]; omega)
    rw [spl_even] at h2
    exact ⟨by simp [bys, evenL_length], .inr ⟨_, n, _, rfl, Nat.le_refl _, h2, Nat.le_refl _, hcm, by simp [bys, evenL_length], by simp [bys, evenL_length, List.take_of_length_le]⟩⟩
theorem mut_made {w w1 : World} {n : Nat} {xs : List Value} (hown : w1.ownsRow w.heap.size 5 1 (.slice (some ⟨w.heap.size, 0, none⟩) n n) n xs) : Mut w1 (some ⟨w.heap.size, 0, none⟩) n w.heap.size 0 xs := by
  obtain ⟨A', c', e', _, _, hl, hf⟩ := own_form hown
  injection e' with e1 _ e3
  subst e1; subst e3
  refine ⟨hl, fun h0 => ?_⟩
  obtain ⟨g, cur, hA, hg, hlt, hb, hcl, ht⟩ := hf h0
  cases hA
  exact ⟨rfl, _, cur, hb, by omega, by simpa using ht⟩
/-- 'even' of the statements. -/
theorem even_any {w : World} {A : Option Addr} {n c : Nat} {l : List UInt8} (h : Rd w A n (bys l)) (N : Nat) (hN : N ≤ 140737488351232) :
    Calls Try.prog 23 #[.slice A n c, .int .i64 N] w fun e w' => ∃ v, e = .returned v ∧ w'.ownsRow w.heap.size 5 1 v N (bys (evenL l N)) ∧ Below w.heap.size w w' := by
  obtain ⟨i0, hi0, hz0, hz1, hz2⟩ := info_parts u8_info
  have HH := Lib.hid h
  clear h
  go_enter Try.func23, Try.ntmps23
  go_wp2_with (first
    | (at_make; refine wpList_make_full _ rfl _ _ 23 rfl w.heap.size 5 i0 (.int .u8 0) 1 Try.underlying23 hi0 hz0 hz1 .i64 .i64 _ _ N rfl rfl rfl rfl (by rw [hz2]; omega) (by simp only [maxLen]; omega) (Nat.le_refl _) ?_; intro w1 hown hg; rw [zeros_bys] at hown; have HB := Lib.hid (And.intro hown (below_of_grownN hg)); clear hown hg)
    | (with_reducible refine wpList_copy_upd rfl (.tmp 8) (.tmp 9) _ _ rfl 5 Try.underlying23 u8_size (some ⟨w.heap.size, 0, none⟩) A N N n c rfl rfl w.heap.size 0 (bys (List.replicate N 0)) (bys l) (mut_made HB.out.1) (HH.out.below HB.out.2) (bys_one _) ?_; intro w8 hu8; have HU := Lib.hid hu8; clear hu8))
  go_ret
  have hd := made_copied (g := 0) HB.out.1 HB.out.2 HU.out
  exact ⟨_, rfl, hd.1, hd.2⟩
theorem pad_any {w : World} {A : Option Addr} {m c : Nat} {l : List UInt8} (h : Rd w A m (bys l)) (hm : m ≤ 140737488351232) (n : Int) :
    Calls Try.prog 13 #[.slice A m c, .int .i64 n] w (Told w (padV l n) (padE l n)) := by
  have hl : l.length = m := by have := h.1; simpa [bys_length] using this
  have HL := Lib.hid hl
  clear hl
  by_cases hs : 0 ≤ n ∧ n ≤ 65535
  · obtain ⟨N, rfl⟩ := Int.eq_ofNat_of_zero_le hs.1
    have hN : N ≤ 65535 := by omega
    have hd : decide (0 ≤ (N : Int) ∧ (N : Int) ≤ 65535) = true := by simpa using hs
    obtain ⟨i0, hi0, hz0, hz1, hz2⟩ := info_parts u8_info
    have HH := Lib.hid h
    clear h
    by_cases hlt : N < m
    · go_enter Try.func13, Try.ntmps13
      go_wp2_with (go_at_call 25; refine (sized_any _).mono ?_; rw [hd]; rintro e w' ⟨rfl, rfl⟩)
      go_ret2
      refine ⟨_, ret_told (show (4 : Int) = padE l N from by unfold padE; rw [if_pos hs, if_neg (by have := HL.out; omega)]), ?_, Below.refl _ _⟩
      rw [show padV l N = [] from by unfold padV; rw [if_pos hs, if_neg (by have := HL.out; omega)]]
      exact World.ownsRow_nil _ _ _ _
    · go_enter Try.func13, Try.ntmps13
      go_wp2_with (first
        | (go_at_call 25; refine (sized_any _).mono ?_; rw [hd]; rintro e w' ⟨rfl, rfl⟩)
        | (at_make; refine wpList_make_full _ rfl _ _ 23 rfl w.heap.size 5 i0 (.int .u8 0) 1 Try.underlying23 hi0 hz0 hz1 .i64 .i64 _ _ N rfl rfl rfl rfl (by rw [hz2]; omega) (by simp only [maxLen]; omega) (Nat.le_refl _) ?_; intro w1 hown hg; rw [zeros_bys] at hown; have HB := Lib.hid (And.intro hown (below_of_grownN hg)); clear hown hg)
        | (with_reducible refine wpList_copy_upd rfl (.tmp 18) (.tmp 19) _ _ rfl 5 Try.underlying23 u8_size (some ⟨w.heap.size, 0, none⟩) A N N m c rfl rfl w.heap.size 0 (bys (List.replicate N 0)) (bys l) (mut_made HB.out.1) (HH.out.below HB.out.2) (bys_one _) ?_; intro w8 hu8; have HU := Lib.hid hu8; clear hu8))
      go_ret2
      have hd := made_copied (g := 0) HB.out.1 HB.out.2 HU.out
      refine ⟨_, ret_told (show (0 : Int) = padE l N from by unfold padE; rw [if_pos hs, if_pos (by have := HL.out; omega)]), ?_, hd.2⟩
      have e : padV l N = evenL l N := by
        unfold padV evenL
        rw [if_pos hs, if_pos (by have := HL.out; omega), List.take_of_length_le (by have := HL.out; omega)]
        rfl
      rw [e, evenL_length]
      exact hd.1
  · have hd : decide (0 ≤ n ∧ n ≤ 65535) = false := by simpa using hs
    go_enter Try.func13, Try.ntmps13
    go_wp2_with (go_at_call 25; refine (sized_any _).mono ?_; rw [hd]; rintro e w' ⟨rfl, rfl⟩)
    go_ret2
    refine ⟨_, ret_told (show (3 : Int) = padE l n from by unfold padE; rw [if_neg hs]), ?_, Below.refl _ _⟩
    rw [show padV l n = [] from by unfold padV; rw [if_neg hs]]
    exact World.ownsRow_nil _ _ _ _
end Go.Proofs.Ytkhedjildlokoaa
