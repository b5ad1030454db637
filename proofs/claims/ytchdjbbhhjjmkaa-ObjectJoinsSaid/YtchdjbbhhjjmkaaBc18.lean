/- block: may, padded, Check; the document's Check. -/
import Derived.Test.YtchdjbbhhjjmkaaSm
namespace Go.Proofs.Ytchdjbbhhjjmkaa
open Go.RowKit
set_option linter.unusedVariables false
theorem own_cut {w : World} {base n c k : Nat} {e : TypeId} {A : Option Addr} {xs : List Value} (h : w.ownsRow base e 1 (.slice A n c) n xs) (hk : k ≤ n) : w.ownsRow base e 1 (.slice A k c) k (xs.take k) := by
  have hl := h.1
  rcases h.2 with ⟨hv, h0⟩ | ⟨g, cap, cur, hv, hb, hh, hnc, hcm, hcs, ht⟩
  · injection hv with e1 e2 e3
    subst e1; subst e2; subst e3
    have hk0 : k = 0 := by omega
    subst hk0
    exact World.ownsRow_nil _ _ _ _
  · injection hv with e1 e2 e3
    subst e1; subst e3
    refine ⟨by rw [List.length_take]; omega, .inr ⟨g, c, cur, rfl, hb, hh, by omega, hcm, hcs, ?_⟩⟩
    rw [← ht, List.take_take]
    congr 1
    omega
/-- Symbols that may be. -/
def bkB (xss : List (List UInt8)) : Bool := decide (1 ≤ xss.length ∧ xss.length ≤ 65536 ∧ 1 ≤ (xss.getD 0 []).length ∧ (xss.getD 0 []).length ≤ 65535) && xss.all fun x => x.length == (xss.getD 0 []).length
def bkE (xss : List (List UInt8)) : Int := if bkB xss then 0 else 2
theorem bkB_iff {xss : List (List UInt8)} : bkB xss = true ↔ (1 ≤ xss.length ∧ xss.length ≤ 65536 ∧ 1 ≤ (xss.getD 0 []).length ∧ (xss.getD 0 []).length ≤ 65535) ∧ ∀ x ∈ xss, x.length = (xss.getD 0 []).length := by
  unfold bkB
  simp [List.all_eq_true]
set_option maxRecDepth 100000 in
set_option maxHeartbeats 1600000 in
theorem may_any {w : World} (k s : Int) :
    Calls Try.prog 54 #[.agg #[.int .i64 k, .int .i64 s]] w fun e w' => e = .returned (.bool (decide (1 ≤ k ∧ k ≤ 65536 ∧ 1 ≤ s ∧ s ≤ 65535))) ∧ Below w.heap.size w w' := by
  have HB := Lib.hid ((Below.refl w.heap.size w).alloc (Nat.le_refl _) (.cells #[.int .i64 k, .int .i64 s] 73))
  by_cases h1 : 1 ≤ k
  · have d1 : decide (k ≥ 1) = true := by simpa using h1
    have d1' : decide (1 ≤ k) = true := by simpa using h1
    by_cases h2 : k ≤ 65536
    · have d2 : decide (k ≤ 65536) = true := by simpa using h2
      by_cases h3 : 1 ≤ s
      · have d3 : decide (s ≥ 1) = true := by simpa using h3
        have d3' : decide (1 ≤ s) = true := by simpa using h3
        by_cases h4 : s ≤ 65535
        · have d4 : decide (s ≤ 65535) = true := by simpa using h4
          have HD := Lib.hid (show decide (1 ≤ k ∧ k ≤ 65536 ∧ 1 ≤ s ∧ s ≤ 65535) = true from decide_eq_true ⟨h1, h2, h3, h4⟩)
          clear h1 h2 h3 h4
          go_enter Try.func54, Try.ntmps54
          go_wp2
          go_ret
          exact ⟨ret_bool (by rw [HD.out]), HB.out⟩
        · have d4 : decide (s ≤ 65535) = false := by simpa using h4
          have HD := Lib.hid (show decide (1 ≤ k ∧ k ≤ 65536 ∧ 1 ≤ s ∧ s ≤ 65535) = false from decide_eq_false fun h => h4 h.2.2.2)
          clear h1 h2 h3 h4
          go_enter Try.func54, Try.ntmps54
          go_wp2
          go_ret
          exact ⟨ret_bool (by rw [HD.out]), HB.out⟩
      · have d3 : decide (s ≥ 1) = false := by simpa using h3
        have d3' : decide (1 ≤ s) = false := by simpa using h3
        have HD := Lib.hid (show decide (1 ≤ k ∧ k ≤ 65536 ∧ 1 ≤ s ∧ s ≤ 65535) = false from decide_eq_false fun h => h3 h.2.2.1)
        clear h1 h2 h3
        go_enter Try.func54, Try.ntmps54
        go_wp2
        go_ret
        exact ⟨ret_bool (by rw [HD.out]), HB.out⟩
    · have d2 : decide (k ≤ 65536) = false := by simpa using h2
      have HD := Lib.hid (show decide (1 ≤ k ∧ k ≤ 65536 ∧ 1 ≤ s ∧ s ≤ 65535) = false from decide_eq_false fun h => h2 h.2.1)
      clear h1 h2
      go_enter Try.func54, Try.ntmps54
      go_wp2
      go_ret
      exact ⟨ret_bool (by rw [HD.out]), HB.out⟩
  · have d1 : decide (k ≥ 1) = false := by simpa using h1
    have d1' : decide (1 ≤ k) = false := by simpa using h1
    have HD := Lib.hid (show decide (1 ≤ k ∧ k ≤ 65536 ∧ 1 ≤ s ∧ s ≤ 65535) = false from decide_eq_false fun h => h1 h.1)
    clear h1
    go_enter Try.func54, Try.ntmps54
    go_wp2
    go_ret
    exact ⟨ret_bool (by rw [HD.out]), HB.out⟩
theorem padded_any {w : World} {k : Int} {s m c : Nat} {A : Option Addr} {l : List UInt8} (h : Rd w A m (bys l)) (hm : m ≤ s) (hs : s ≤ 65535) :
    Calls Try.prog 56 #[.agg #[.int .i64 k, .int .i64 (s : Int)], .slice A m c] w fun e w' => ∃ v, e = .returned v ∧ w'.ownsRow w.heap.size 5 1 v s (bys (evenL l s)) ∧ Below w.heap.size w w' := by
  have hl : l.length = m := by have := h.1; simpa [bys_length] using this
  have hb := (Below.refl w.heap.size w).alloc (Nat.le_refl _) (.cells #[.int .i64 k, .int .i64 (s : Int)] 73)
  have hpv : padV l (s : Int) = evenL l s := by
    unfold padV evenL
    rw [if_pos (by omega), if_pos (by omega), List.take_of_length_le (by omega)]
    rfl
  have hp := pad_any (c := c) (h.below hb) (by omega) (s : Int)
  rw [hpv] at hp
  have H := Lib.hid (And.intro hp hb)
  clear h hp hb hpv hl
  go_enter Try.func56, Try.ntmps56
  go_wp2_with fail
  refine H.out.1.mono ?_
  rintro e w1 ⟨v, rfl, ho, hb1⟩
  have H1 := Lib.hid (And.intro ho hb1)
  clear ho hb1
  go_wp2
  go_ret
  refine ⟨v, rfl, own_mono ?_ H.out.2.size, below_base H.out.2 H1.out.2 H.out.2.size⟩
  have := H1.out.1
  rw [evenL_length] at this
  exact this
theorem lenIs_any {w : World} {A : Option Addr} {n c Z : Nat} {s : Nat} (hz : w.cell? ⟨Z, 1, none⟩ = some (.int .i64 (s : Int))) (hn : n ≤ 9223372036854775807) :
    Calls Try.prog 58 #[.slice A n c, .pointer (some ⟨Z, 0, none⟩)] w fun e w' => e = .returned (.bool (!decide (n = s))) ∧ w = w' := by
  by_cases h : n = s
  · subst h
    go_enter Try.func58, Try.ntmps58
    go_wp2
    go_ret
    exact ⟨ret_bool (by simp), rfl⟩
  · have hd : ((n : Int) != (s : Int)) = true := by simp; omega
    have HD := Lib.hid (show decide (n = s) = false from decide_eq_false h)
    clear h
    go_enter Try.func58, Try.ntmps58
    go_wp2
    go_ret
    exact ⟨ret_bool (by rw [HD.out]; rfl), rfl⟩
set_option maxRecDepth 100000 in
set_option maxHeartbeats 1600000 in
theorem containsLen_any {w : World} {A : Option Addr} {n c Z : Nat} {s : Nat} {xss : List (List UInt8)} (h : Syms w A n xss) (hn : n ≤ 5864062014634) (hz : w.cell? ⟨Z, 1, none⟩ = some (.int .i64 (s : Int))) :
    Calls Try.prog 65 #[.slice A n c, .func (.func 58) #[] #[.pointer (some ⟨Z, 0, none⟩)]] w fun e w' => (∃ z : Int, e = .returned (.int .i64 z) ∧ decide (0 ≤ z) = !(xss.all fun x => x.length == s)) ∧ w = w' := by
  have H := Lib.hid (And.intro h (And.intro h.len hz))
  have hn' : (n : Int) ≤ 5864062014634 := by omega
  clear h hn hz
  go_enter Try.func65, Try.ntmps65
  go_wp2
  go_loopw [8] (fun i wr => ∃ (q : Nat), q ≤ n ∧ i = .int .i64 q ∧ (xss.take q).all (fun x => x.length == s) = true ∧ wr = w) (fun i wr => n - (intOf i).toNat)
  case atStart => exact ⟨0, by omega, rfl, by simp, rfl⟩
  case round =>
    obtain ⟨q, hq, rfl, hall, rfl⟩ := hrel
    have HA := Lib.hid hall
    clear hall
    by_cases hlt : q < n
    · obtain ⟨a, off, B, cc, rfl, _, c1, hr1, _, hm⟩ := H.out.1.at_ hlt
      have hx : q < xss.length := by rw [H.out.2.1]; exact hlt
      have hge := getD_at hx
      have km : (q : Int) < (n : Int) := by omega
      obtain ⟨m, hm'⟩ : ∃ m, (xss.getD q []).length = m := ⟨_, rfl⟩
      rw [hm'] at c1 hm
      have HL := Lib.hid (And.intro hlt (And.intro hx (show xss[q].length = m by rw [← hge, hm'])))
      have HM := Lib.hid hm
      clear hr1 hge hm' hlt hq hm
      go_wp2_with fail
      refine (lenIs_any H.out.2.2 HM.out).mono ?_
      rintro e w' ⟨rfl, rfl⟩
      by_cases he : m = s
      · rw [decide_eq_true he]
        have HE := Lib.hid he
        clear he
        go_wp2
        exact ⟨⟨q + 1, by have := HL.out.1; omega, by go_num, by rw [List.take_succ_eq_append_getElem HL.out.2.1, List.all_append, HA.out]; simp [HL.out.2.2, HE.out], trivial⟩, by have := HL.out.1; simp [intOf]; omega⟩
      · rw [decide_eq_false he]
        have HE := Lib.hid he
        clear he
        go_wp2
        go_ret
        refine ⟨⟨q, rfl, ?_⟩, rfl⟩
        have : (xss.all fun x => x.length == s) = false := by
          rw [List.all_eq_false]
          exact ⟨xss[q]'HL.out.2.1, List.getElem_mem _, by rw [HL.out.2.2]; simpa using HE.out⟩
        rw [this]; simp
    · obtain rfl : q = n := by omega
      have HT := Lib.hid (show (xss.all fun x => x.length == s) = true from by have := HA.out; rwa [List.take_of_length_le (by rw [H.out.2.1]; exact Nat.le_refl _)] at this)
      clear hlt hq
      go_wp2
      go_ret
      exact ⟨⟨-1, rfl, by rw [HT.out]; decide⟩, rfl⟩
set_option maxRecDepth 100000 in
set_option maxHeartbeats 1600000 in
theorem hasLen_any {w : World} {A : Option Addr} {n c Z : Nat} {s : Nat} {xss : List (List UInt8)} (h : Syms w A n xss) (hn : n ≤ 5864062014634) (hz : w.cell? ⟨Z, 1, none⟩ = some (.int .i64 (s : Int))) :
    Calls Try.prog 57 #[.slice A n c, .func (.func 58) #[] #[.pointer (some ⟨Z, 0, none⟩)]] w fun e w' => e = .returned (.bool (!(xss.all fun x => x.length == s))) ∧ w = w' := by
  have H := Lib.hid (containsLen_any (c := c) h hn hz)
  clear h hz
  go_enter Try.func57, Try.ntmps57
  go_wp2_with fail
  refine H.out.mono ?_
  rintro e w' ⟨⟨z, rfl, hz⟩, rfl⟩
  have HZ := Lib.hid hz
  clear hz
  go_wp2
  go_ret
  exact ⟨ret_bool (by rw [← HZ.out]), rfl⟩
set_option maxRecDepth 100000 in
set_option maxHeartbeats 1600000 in
/-- Check -/
theorem bkcheck_any {w : World} {A : Option Addr} {n c : Nat} {xss : List (List UInt8)} (h : Syms w A n xss) (hn : n ≤ 5864062014634) :
    Calls Try.prog 45 #[.slice A n c] w fun e w' => e = .returned (.int .i64 (bkE xss)) ∧ Below w.heap.size w w' := by
  have hl := h.len
  have hn' : (n : Int) ≤ 5864062014634 := by omega
  rcases Nat.eq_zero_or_pos n with h0 | h0
  · subst h0
    have HE := Lib.hid (show bkE xss = 2 from by unfold bkE; rw [if_neg]; rw [bkB_iff]; omega)
    clear h hl
    go_enter Try.func45, Try.ntmps45
    go_wp2
    go_ret
    exact ⟨ret_int HE.out.symm, Below.refl _ _⟩
  · obtain ⟨a, off, B, cc, rfl, ha, c0, _, _, hm9⟩ := h.at_ h0
    rw [Nat.add_zero] at c0
    have hd0 : ((n : Int) == 0) = false := by simp; omega
    obtain ⟨s, hs⟩ : ∃ s, (xss.getD 0 []).length = s := ⟨_, rfl⟩
    rw [hs] at c0 hm9
    have hm9' : (s : Int) ≤ 9223372036854775807 := by omega
    have hb1 := (Below.refl w.heap.size w).alloc (Nat.le_refl _) (.cells #[.int .i64 (n : Int), .int .i64 (s : Int)] 73)
    have hz := Bk.newA w 73 #[.int .i64 (n : Int), .int .i64 (s : Int)]
    have H := Lib.hid (And.intro (h.below hb1) (And.intro hb1 (And.intro hz (And.intro hl (And.intro hs (show n ≤ 5864062014634 from hn))))))
    clear h hb1 hz hl hs ha hn
    go_enter Try.func45, Try.ntmps45
    go_wp2_with fail
    refine (may_any (n : Int) (s : Int)).mono ?_
    rintro e w2 ⟨rfl, hb2⟩
    have H2 := Lib.hid (And.intro (H.out.1.below hb2) (And.intro (below_base H.out.2.1 hb2 H.out.2.1.size) ((H.out.2.2.1.belowS hb2).cell 1)))
    clear hb2
    by_cases hok : 1 ≤ (n : Int) ∧ (n : Int) ≤ 65536 ∧ 1 ≤ (s : Int) ∧ (s : Int) ≤ 65535
    · rw [decide_eq_true hok]
      have HO := Lib.hid hok
      clear hok
      go_wp2_with fail
      refine (hasLen_any H2.out.1 H.out.2.2.2.2.2 H2.out.2.2).mono ?_
      rintro e w3 ⟨rfl, rfl⟩
      have HE := Lib.hid (show bkE xss = if (xss.all fun x => x.length == s) then 0 else 2 from by
        unfold bkE bkB
        rw [H.out.2.2.2.2.1, H.out.2.2.2.1, decide_eq_true (show 1 ≤ n ∧ n ≤ 65536 ∧ 1 ≤ s ∧ s ≤ 65535 from by have := HO.out; omega)]
        rfl)
      obtain ⟨q, hq⟩ : ∃ q, (xss.all fun x => x.length == s) = q := ⟨_, rfl⟩
      rw [hq] at HE ⊢
      clear hq
      cases q with
      | true =>
        go_wp2
        go_ret
        exact ⟨ret_int (by rw [HE.out]; rfl), H2.out.2.1⟩
      | false =>
        go_wp2
        go_ret
        exact ⟨ret_int (by rw [HE.out]; rfl), H2.out.2.1⟩
    · rw [decide_eq_false hok]
      have HE := Lib.hid (show bkE xss = 2 from by unfold bkE; rw [if_neg]; rw [bkB_iff]; intro h; have := H.out.2.2.2.1; have := H.out.2.2.2.2.1; omega)
      clear hok
      go_wp2
      go_ret
      exact ⟨ret_int (by rw [HE.out]), H2.out.2.1⟩
end Go.Proofs.Ytchdjbbhhjjmkaa
