/- Chapter 28: Turn, of both. -/
import Derived.WalkMore
import Derived.Test.YtchdjbbhhjjmkaaOb28
namespace Go.Proofs.Ytchdjbbhhjjmkaa
open Go.RowKit
set_option linter.unusedVariables false
theorem ret_ib {a a' : Int} {b b' : Bool} (h1 : a = a') (h2 : b = b') : Ending.returned (.tuple #[.int .i64 a, .bool b]) = .returned (.tuple #[.int .i64 a', .bool b']) := by rw [h1, h2]
theorem tn_rem {n q i : Nat} (hn : 0 < n) : ((q : Int) + 1 + (i : Int)).tmod (n : Int) = (((q + 1 + i) % n : Nat) : Int) := by
  rw [show (q : Int) + 1 + (i : Int) = ((q + 1 + i : Nat) : Int) by omega]
  exact Int.ofNat_tmod _ _ |>.symm
theorem tn_rem2 {n q j : Nat} (hn : 0 < n) : ((q : Int) + (j : Int)).tmod (n : Int) = (((q + j) % n : Nat) : Int) := by
  rw [show (q : Int) + (j : Int) = ((q + j : Nat) : Int) by omega]
  exact Int.ofNat_tmod _ _ |>.symm
theorem getD_bool {l : List Bool} {i : Nat} (h : i < l.length) (d : Bool) : l.getD i d = l[i] := by rw [List.getD_eq_getElem?_getD, List.getElem?_eq_getElem h]; rfl
section
variable {w : World} {A : Option Addr} {n c : Nat} {l : List Bool}
set_option maxRecDepth 100000 in
set_option maxHeartbeats 3200000 in
theorem turn_any (h : Rd w A n (bools l)) (hn : n ≤ 140737488351232) (last : Int) (hl : -9223372036854775808 ≤ last ∧ last ≤ 9223372036854775807) :
    Calls Try.prog 16 #[.slice A n c, .int .i64 last] w fun e w' => e = .returned (.tuple #[.int .i64 (tnA l last : Int), .bool (tnB l last)]) ∧ w = w' := by
  have hx : l.length = n := by have := h.1; simpa [bools_length] using this
  have HX := Lib.hid (And.intro hx h)
  have hn' : (n : Int) ≤ 140737488351232 := by omega
  have hwn : IntKind.i64.wrap ((n : Int) - 1) = (n : Int) - 1 := by rw [IntKind.wrap_i64]; omega
  clear hx h hn
  by_cases h1 : last < 0
  · have d1 : decide (last < 0) = true := by simpa using h1
    have hL : tnL n last = (n : Int) - 1 := by unfold tnL; rw [if_pos (.inl h1)]
    have hL' := Lib.hid hL
    clear hL h1
    go_enter Try.func16, Try.ntmps16
    go_wp2; go_step3; go_wp2; go_step3; go_wp2
    go_loopw [4, 5, 7, 20] (fun a b e i wr => ∃ k : Nat, k ≤ n ∧ i = .int .i64 (k : Int) ∧ b = .bool false ∧ (∀ j, j < k → l.getD (tnP n last j) true = true) ∧ wr = w) (fun a b e i wr => n - (intOf i).toNat)
    case atStart => exact ⟨0, by omega, rfl, rfl, fun j hj => by omega, rfl⟩
    case round =>
      obtain ⟨k, hk, rfl, rfl, hall, rfl⟩ := hrel
      by_cases hlt : k < n
      · obtain ⟨a, off, rfl, hbl, hc⟩ := HX.out.2.form (by omega)
        have hn0 : 0 < n := by omega
        obtain ⟨q, hq⟩ : ∃ q : Nat, tnL n last = q := ⟨(tnL n last).toNat, by have := tnL_range (last := last) hn0; omega⟩
        have hqr := tnL_range (last := last) hn0
        obtain ⟨r, hr⟩ : ∃ r, tnP n last k = r := ⟨_, rfl⟩
        have hrn : r < n := by rw [← hr]; exact tnP_lt hn0
        have hrl : r < l.length := by rw [HX.out.1]; exact hrn
        have cx := hc r _ (bools_get l r hrl)
        have hrem := tn_rem (n := n) (q := q) (i := k) hn0
        have hpk : (q + 1 + k) % n = r := by rw [← hr]; unfold tnP; rw [hq, Int.toNat_natCast]
        rw [hpk] at hrem
        have hLq := hL'.out
        rw [hq] at hqr hLq
        rw [← hLq]
        clear hLq
        have hw1 : IntKind.i64.wrap ((q : Int) + 1) = (q : Int) + 1 := by rw [IntKind.wrap_i64]; omega
        have hw2 : IntKind.i64.wrap ((q : Int) + 1 + (k : Int)) = (q : Int) + 1 + (k : Int) := by rw [IntKind.wrap_i64]; omega
        have hw3 : IntKind.i64.wrap (r : Int) = (r : Int) := by rw [IntKind.wrap_i64]; omega
        have km : (k : Int) < (n : Int) := by omega
        have rm : (r : Int) < (n : Int) := by omega
        have hz : ¬ (n : Int) = 0 := by omega
        have hz2 : ¬ n = 0 := by omega
        have hgd := getD_bool hrl true
        obtain ⟨b, hb⟩ : ∃ b, l[r] = b := ⟨_, rfl⟩
        rw [hb] at cx hgd
        have HK := Lib.hid (And.intro hall (And.intro hlt (And.intro hr (And.intro hgd hq))))
        clear hall hk hlt hr hgd hbl hc hrl hpk hb
        cases b with
        | true =>
          go_wp2
          refine ⟨⟨k + 1, by have := HK.out.2.1; omega, by go_num, rfl, fun j hj => ?_, trivial⟩, by have := HK.out.2.1; simp [intOf]; omega⟩
          rcases (show j < k ∨ j = k by omega) with e | e
          · exact HK.out.1 j e
          · subst e; rw [HK.out.2.2.1]; exact HK.out.2.2.2.1
        | false =>
          have HT := Lib.hid (tn_some (l := l) (last := last) (k := k) (by rw [HX.out.1]; exact HK.out.2.1) (fun j hj => by rw [HX.out.1]; exact HK.out.1 j hj) (by rw [HX.out.1, HK.out.2.2.1]; exact HK.out.2.2.2.1))
          go_wp2
          first | (rw [Exit.noGoto_ret]; go_ret2) | go_ret2
          exact ⟨ret_ib (by rw [HT.out.1, HX.out.1, HK.out.2.2.1]) HT.out.2.symm, rfl⟩
      · obtain rfl : k = n := by omega
        have HT := Lib.hid (tn_none (l := l) (last := last) (fun j hj => by rw [HX.out.1] at hj ⊢; exact hall j hj))
        clear hlt hk hall
        go_wp2
        first | (rw [Exit.noGoto_ret]; go_ret2) | go_ret2
        exact ⟨ret_ib (by rw [HT.out.1]; rfl) HT.out.2.symm, rfl⟩
  · have d1 : decide (last < 0) = false := by simpa using h1
    by_cases h2 : (n : Int) ≤ last
    · have d2 : decide (last ≥ (n : Int)) = true := by simpa using h2
      have d3 : decide ((n : Int) ≤ last) = true := by simpa using h2
      have hL : tnL n last = (n : Int) - 1 := by unfold tnL; rw [if_pos (.inr h2)]
      have hL' := Lib.hid hL
      clear hL h1 h2
      go_enter Try.func16, Try.ntmps16
      go_wp2; go_step3; go_wp2; go_step3; go_wp2
      go_loopw [4, 5, 7, 20] (fun a b e i wr => ∃ k : Nat, k ≤ n ∧ i = .int .i64 (k : Int) ∧ b = .bool false ∧ (∀ j, j < k → l.getD (tnP n last j) true = true) ∧ wr = w) (fun a b e i wr => n - (intOf i).toNat)
      case atStart => exact ⟨0, by omega, rfl, rfl, fun j hj => by omega, rfl⟩
      case round =>
        obtain ⟨k, hk, rfl, rfl, hall, rfl⟩ := hrel
        by_cases hlt : k < n
        · obtain ⟨a, off, rfl, hbl, hc⟩ := HX.out.2.form (by omega)
          have hn0 : 0 < n := by omega
          obtain ⟨q, hq⟩ : ∃ q : Nat, tnL n last = q := ⟨(tnL n last).toNat, by have := tnL_range (last := last) hn0; omega⟩
          have hqr := tnL_range (last := last) hn0
          obtain ⟨r, hr⟩ : ∃ r, tnP n last k = r := ⟨_, rfl⟩
          have hrn : r < n := by rw [← hr]; exact tnP_lt hn0
          have hrl : r < l.length := by rw [HX.out.1]; exact hrn
          have cx := hc r _ (bools_get l r hrl)
          have hrem := tn_rem (n := n) (q := q) (i := k) hn0
          have hpk : (q + 1 + k) % n = r := by rw [← hr]; unfold tnP; rw [hq, Int.toNat_natCast]
          rw [hpk] at hrem
          have hLq := hL'.out
          rw [hq] at hqr hLq
          rw [← hLq]
          clear hLq
          have hw1 : IntKind.i64.wrap ((q : Int) + 1) = (q : Int) + 1 := by rw [IntKind.wrap_i64]; omega
          have hw2 : IntKind.i64.wrap ((q : Int) + 1 + (k : Int)) = (q : Int) + 1 + (k : Int) := by rw [IntKind.wrap_i64]; omega
          have hw3 : IntKind.i64.wrap (r : Int) = (r : Int) := by rw [IntKind.wrap_i64]; omega
          have km : (k : Int) < (n : Int) := by omega
          have rm : (r : Int) < (n : Int) := by omega
          have hz : ¬ (n : Int) = 0 := by omega
          have hz2 : ¬ n = 0 := by omega
          have hgd := getD_bool hrl true
          obtain ⟨b, hb⟩ : ∃ b, l[r] = b := ⟨_, rfl⟩
          rw [hb] at cx hgd
          have HK := Lib.hid (And.intro hall (And.intro hlt (And.intro hr (And.intro hgd hq))))
          clear hall hk hlt hr hgd hbl hc hrl hpk hb
          cases b with
          | true =>
            go_wp2
            refine ⟨⟨k + 1, by have := HK.out.2.1; omega, by go_num, rfl, fun j hj => ?_, trivial⟩, by have := HK.out.2.1; simp [intOf]; omega⟩
            rcases (show j < k ∨ j = k by omega) with e | e
            · exact HK.out.1 j e
            · subst e; rw [HK.out.2.2.1]; exact HK.out.2.2.2.1
          | false =>
            have HT := Lib.hid (tn_some (l := l) (last := last) (k := k) (by rw [HX.out.1]; exact HK.out.2.1) (fun j hj => by rw [HX.out.1]; exact HK.out.1 j hj) (by rw [HX.out.1, HK.out.2.2.1]; exact HK.out.2.2.2.1))
            go_wp2
            first | (rw [Exit.noGoto_ret]; go_ret2) | go_ret2
            exact ⟨ret_ib (by rw [HT.out.1, HX.out.1, HK.out.2.2.1]) HT.out.2.symm, rfl⟩
        · obtain rfl : k = n := by omega
          have HT := Lib.hid (tn_none (l := l) (last := last) (fun j hj => by rw [HX.out.1] at hj ⊢; exact hall j hj))
          clear hlt hk hall
          go_wp2
          first | (rw [Exit.noGoto_ret]; go_ret2) | go_ret2
          exact ⟨ret_ib (by rw [HT.out.1]; rfl) HT.out.2.symm, rfl⟩
    · have d2 : decide (last ≥ (n : Int)) = false := by simpa using h2
      have d3 : decide ((n : Int) ≤ last) = false := by simpa using h2
      have hL : tnL n last = last := by unfold tnL; rw [if_neg (by rintro (e | e); exact h1 e; exact h2 e)]
      obtain ⟨q0, rfl⟩ : ∃ q0 : Nat, last = q0 := ⟨last.toNat, by omega⟩
      have d4 : decide (n ≤ q0) = false := by simp; omega
      have hL' := Lib.hid hL
      clear hL h1 h2
      go_enter Try.func16, Try.ntmps16
      go_wp2; go_step3; go_wp2; go_step3; go_wp2
      go_loopw [4, 5, 7, 20] (fun a b e i wr => ∃ k : Nat, k ≤ n ∧ i = .int .i64 (k : Int) ∧ b = .bool false ∧ (∀ j, j < k → l.getD (tnP n (q0 : Int) j) true = true) ∧ wr = w) (fun a b e i wr => n - (intOf i).toNat)
      case atStart => exact ⟨0, by omega, rfl, rfl, fun j hj => by omega, rfl⟩
      case round =>
        obtain ⟨k, hk, rfl, rfl, hall, rfl⟩ := hrel
        by_cases hlt : k < n
        · obtain ⟨a, off, rfl, hbl, hc⟩ := HX.out.2.form (by omega)
          have hn0 : 0 < n := by omega
          obtain ⟨q, hq⟩ : ∃ q : Nat, tnL n (q0 : Int) = q := ⟨(tnL n (q0 : Int)).toNat, by have := tnL_range (last := (q0 : Int)) hn0; omega⟩
          have hqr := tnL_range (last := (q0 : Int)) hn0
          obtain ⟨r, hr⟩ : ∃ r, tnP n (q0 : Int) k = r := ⟨_, rfl⟩
          have hrn : r < n := by rw [← hr]; exact tnP_lt hn0
          have hrl : r < l.length := by rw [HX.out.1]; exact hrn
          have cx := hc r _ (bools_get l r hrl)
          have hrem := tn_rem (n := n) (q := q) (i := k) hn0
          have hpk : (q + 1 + k) % n = r := by rw [← hr]; unfold tnP; rw [hq, Int.toNat_natCast]
          rw [hpk] at hrem
          have hLq := hL'.out
          rw [hq] at hqr hLq
          obtain rfl : q = q0 := by omega
          clear hLq
          have hw1 : IntKind.i64.wrap ((q : Int) + 1) = (q : Int) + 1 := by rw [IntKind.wrap_i64]; omega
          have hw2 : IntKind.i64.wrap ((q : Int) + 1 + (k : Int)) = (q : Int) + 1 + (k : Int) := by rw [IntKind.wrap_i64]; omega
          have hw3 : IntKind.i64.wrap (r : Int) = (r : Int) := by rw [IntKind.wrap_i64]; omega
          have km : (k : Int) < (n : Int) := by omega
          have rm : (r : Int) < (n : Int) := by omega
          have hz : ¬ (n : Int) = 0 := by omega
          have hz2 : ¬ n = 0 := by omega
          have hgd := getD_bool hrl true
          obtain ⟨b, hb⟩ : ∃ b, l[r] = b := ⟨_, rfl⟩
          rw [hb] at cx hgd
          have HK := Lib.hid (And.intro hall (And.intro hlt (And.intro hr (And.intro hgd hq))))
          clear hall hk hlt hr hgd hbl hc hrl hpk hb
          cases b with
          | true =>
            go_wp2
            refine ⟨⟨k + 1, by have := HK.out.2.1; omega, by go_num, rfl, fun j hj => ?_, trivial⟩, by have := HK.out.2.1; simp [intOf]; omega⟩
            rcases (show j < k ∨ j = k by omega) with e | e
            · exact HK.out.1 j e
            · subst e; rw [HK.out.2.2.1]; exact HK.out.2.2.2.1
          | false =>
            have HT := Lib.hid (tn_some (l := l) (last := (q : Int)) (k := k) (by rw [HX.out.1]; exact HK.out.2.1) (fun j hj => by rw [HX.out.1]; exact HK.out.1 j hj) (by rw [HX.out.1, HK.out.2.2.1]; exact HK.out.2.2.2.1))
            go_wp2
            first | (rw [Exit.noGoto_ret]; go_ret2) | go_ret2
            exact ⟨ret_ib (by rw [HT.out.1, HX.out.1, HK.out.2.2.1]) HT.out.2.symm, rfl⟩
        · obtain rfl : k = n := by omega
          have HT := Lib.hid (tn_none (l := l) (last := (q0 : Int)) (fun j hj => by rw [HX.out.1] at hj ⊢; exact hall j hj))
          clear hlt hk hall
          go_wp2
          first | (rw [Exit.noGoto_ret]; go_ret2) | go_ret2
          exact ⟨ret_ib (by rw [HT.out.1]; rfl) HT.out.2.symm, rfl⟩
set_option maxRecDepth 100000 in
set_option maxHeartbeats 3200000 in
theorem rturn_any (h : Rd w A n (bools l)) (hn : n ≤ 140737488351232) (last : Int) (hl : -9223372036854775808 ≤ last ∧ last ≤ 9223372036854775807) :
    Calls Try.prog 17 #[.slice A n c, .int .i64 last] w fun e w' => e = .returned (.tuple #[.int .i64 (tnA l last : Int), .bool (tnB l last)]) ∧ w = w' := by
  have hx : l.length = n := by have := h.1; simpa [bools_length] using this
  have HX := Lib.hid (And.intro hx h)
  have hn' : (n : Int) ≤ 140737488351232 := by omega
  have hwn : IntKind.i64.wrap ((n : Int) - 1) = (n : Int) - 1 := by rw [IntKind.wrap_i64]; omega
  clear hx h hn
  by_cases h1 : last < 0
  · have d1 : decide (last < 0) = true := by simpa using h1
    have hL : tnL n last = (n : Int) - 1 := by unfold tnL; rw [if_pos (.inl h1)]
    have hL' := Lib.hid hL
    clear hL h1
    go_enter Try.func17, Try.ntmps17
    go_wp2
    go_loopw [6] (fun i wr => ∃ k : Nat, k ≤ n ∧ i = .int .i64 ((k + 1 : Nat) : Int) ∧ (∀ j, j < k → l.getD (tnP n last j) true = true) ∧ wr = w) (fun i wr => n + 1 - (intOf i).toNat)
    case atStart => exact ⟨0, by omega, rfl, fun j hj => by omega, rfl⟩
    case round =>
      obtain ⟨k, hk, rfl, hall, rfl⟩ := hrel
      obtain ⟨p, hp⟩ : ∃ p, k + 1 = p := ⟨_, rfl⟩
      rw [hp]
      have hpk0 : p = k + 1 := hp.symm
      by_cases hlt : k < n
      · obtain ⟨a, off, rfl, hbl, hc⟩ := HX.out.2.form (by omega)
        have hn0 : 0 < n := by omega
        obtain ⟨q, hq⟩ : ∃ q : Nat, tnL n last = q := ⟨(tnL n last).toNat, by have := tnL_range (last := last) hn0; omega⟩
        have hqr := tnL_range (last := last) hn0
        obtain ⟨r, hr⟩ : ∃ r, tnP n last k = r := ⟨_, rfl⟩
        have hrn : r < n := by rw [← hr]; exact tnP_lt hn0
        have hrl : r < l.length := by rw [HX.out.1]; exact hrn
        have cx := hc r _ (bools_get l r hrl)
        have hrem := tn_rem2 (n := n) (q := q) (j := p) hn0
        have hpk : (q + p) % n = r := by rw [← hr, ← hp]; unfold tnP; rw [hq, Int.toNat_natCast]; congr 1; omega
        rw [hpk] at hrem
        have hLq := hL'.out
        rw [hq] at hqr hLq
        rw [← hLq]
        clear hLq
        have hw1 : IntKind.i64.wrap ((q : Int) + (p : Int)) = (q : Int) + (p : Int) := by rw [IntKind.wrap_i64]; omega
        have hw3 : IntKind.i64.wrap (r : Int) = (r : Int) := by rw [IntKind.wrap_i64]; omega
        have km : (p : Int) ≤ (n : Int) := by omega
        have rm : (r : Int) < (n : Int) := by omega
        have hz : ¬ (n : Int) = 0 := by omega
        have hz2 : ¬ n = 0 := by omega
        have hgd := getD_bool hrl true
        obtain ⟨b, hb⟩ : ∃ b, l[r] = b := ⟨_, rfl⟩
        rw [hb] at cx hgd
        have HK := Lib.hid (And.intro hall (And.intro hlt (And.intro hr (And.intro hgd (And.intro hq hpk0)))))
        clear hp hpk0 hall hk hlt hr hgd hbl hc hrl hpk hb
        cases b with
        | true =>
          go_wp2
          refine ⟨⟨k + 1, by have := HK.out.2.1; omega, by have := HK.out.2.2.2.2.2; rw [this]; go_num, fun j hj => ?_, trivial⟩, by have := HK.out.2.1; have := HK.out.2.2.2.2.2; simp [intOf]; omega⟩
          rcases (show j < k ∨ j = k by omega) with e | e
          · exact HK.out.1 j e
          · subst e; rw [HK.out.2.2.1]; exact HK.out.2.2.2.1
        | false =>
          have HT := Lib.hid (tn_some (l := l) (last := last) (k := k) (by rw [HX.out.1]; exact HK.out.2.1) (fun j hj => by rw [HX.out.1]; exact HK.out.1 j hj) (by rw [HX.out.1, HK.out.2.2.1]; exact HK.out.2.2.2.1))
          go_wp2
          first | (rw [Exit.noGoto_ret]; go_ret2) | go_ret2
          exact ⟨ret_ib (by rw [HT.out.1, HX.out.1, HK.out.2.2.1]) HT.out.2.symm, rfl⟩
      · obtain rfl : k = n := by omega
        have HT := Lib.hid (tn_none (l := l) (last := last) (fun j hj => by rw [HX.out.1] at hj ⊢; exact hall j hj))
        have km : ¬ (p : Int) ≤ (k : Int) := by omega
        have km2 : decide ((p : Int) ≤ (k : Int)) = false := by simpa using km
        clear hlt hk hall hp
        go_wp2
        first | (rw [Exit.noGoto_ret]; go_ret2) | go_ret2
        exact ⟨ret_ib (by rw [HT.out.1]; rfl) HT.out.2.symm, rfl⟩
  · have d1 : decide (last < 0) = false := by simpa using h1
    by_cases h2 : (n : Int) ≤ last
    · have d2 : decide (last ≥ (n : Int)) = true := by simpa using h2
      have d3 : decide ((n : Int) ≤ last) = true := by simpa using h2
      have hL : tnL n last = (n : Int) - 1 := by unfold tnL; rw [if_pos (.inr h2)]
      have hL' := Lib.hid hL
      clear hL h1 h2
      go_enter Try.func17, Try.ntmps17
      go_wp2
      go_loopw [6] (fun i wr => ∃ k : Nat, k ≤ n ∧ i = .int .i64 ((k + 1 : Nat) : Int) ∧ (∀ j, j < k → l.getD (tnP n last j) true = true) ∧ wr = w) (fun i wr => n + 1 - (intOf i).toNat)
      case atStart => exact ⟨0, by omega, rfl, fun j hj => by omega, rfl⟩
      case round =>
        obtain ⟨k, hk, rfl, hall, rfl⟩ := hrel
        obtain ⟨p, hp⟩ : ∃ p, k + 1 = p := ⟨_, rfl⟩
        rw [hp]
        have hpk0 : p = k + 1 := hp.symm
        by_cases hlt : k < n
        · obtain ⟨a, off, rfl, hbl, hc⟩ := HX.out.2.form (by omega)
          have hn0 : 0 < n := by omega
          obtain ⟨q, hq⟩ : ∃ q : Nat, tnL n last = q := ⟨(tnL n last).toNat, by have := tnL_range (last := last) hn0; omega⟩
          have hqr := tnL_range (last := last) hn0
          obtain ⟨r, hr⟩ : ∃ r, tnP n last k = r := ⟨_, rfl⟩
          have hrn : r < n := by rw [← hr]; exact tnP_lt hn0
          have hrl : r < l.length := by rw [HX.out.1]; exact hrn
          have cx := hc r _ (bools_get l r hrl)
          have hrem := tn_rem2 (n := n) (q := q) (j := p) hn0
          have hpk : (q + p) % n = r := by rw [← hr, ← hp]; unfold tnP; rw [hq, Int.toNat_natCast]; congr 1; omega
          rw [hpk] at hrem
          have hLq := hL'.out
          rw [hq] at hqr hLq
          rw [← hLq]
          clear hLq
          have hw1 : IntKind.i64.wrap ((q : Int) + (p : Int)) = (q : Int) + (p : Int) := by rw [IntKind.wrap_i64]; omega
          have hw3 : IntKind.i64.wrap (r : Int) = (r : Int) := by rw [IntKind.wrap_i64]; omega
          have km : (p : Int) ≤ (n : Int) := by omega
          have rm : (r : Int) < (n : Int) := by omega
          have hz : ¬ (n : Int) = 0 := by omega
          have hz2 : ¬ n = 0 := by omega
          have hgd := getD_bool hrl true
          obtain ⟨b, hb⟩ : ∃ b, l[r] = b := ⟨_, rfl⟩
          rw [hb] at cx hgd
          have HK := Lib.hid (And.intro hall (And.intro hlt (And.intro hr (And.intro hgd (And.intro hq hpk0)))))
          clear hp hpk0 hall hk hlt hr hgd hbl hc hrl hpk hb
          cases b with
          | true =>
            go_wp2
            refine ⟨⟨k + 1, by have := HK.out.2.1; omega, by have := HK.out.2.2.2.2.2; rw [this]; go_num, fun j hj => ?_, trivial⟩, by have := HK.out.2.1; have := HK.out.2.2.2.2.2; simp [intOf]; omega⟩
            rcases (show j < k ∨ j = k by omega) with e | e
            · exact HK.out.1 j e
            · subst e; rw [HK.out.2.2.1]; exact HK.out.2.2.2.1
          | false =>
            have HT := Lib.hid (tn_some (l := l) (last := last) (k := k) (by rw [HX.out.1]; exact HK.out.2.1) (fun j hj => by rw [HX.out.1]; exact HK.out.1 j hj) (by rw [HX.out.1, HK.out.2.2.1]; exact HK.out.2.2.2.1))
            go_wp2
            first | (rw [Exit.noGoto_ret]; go_ret2) | go_ret2
            exact ⟨ret_ib (by rw [HT.out.1, HX.out.1, HK.out.2.2.1]) HT.out.2.symm, rfl⟩
        · obtain rfl : k = n := by omega
          have HT := Lib.hid (tn_none (l := l) (last := last) (fun j hj => by rw [HX.out.1] at hj ⊢; exact hall j hj))
          have km : ¬ (p : Int) ≤ (k : Int) := by omega
          have km2 : decide ((p : Int) ≤ (k : Int)) = false := by simpa using km
          clear hlt hk hall hp
          go_wp2
          first | (rw [Exit.noGoto_ret]; go_ret2) | go_ret2
          exact ⟨ret_ib (by rw [HT.out.1]; rfl) HT.out.2.symm, rfl⟩
    · have d2 : decide (last ≥ (n : Int)) = false := by simpa using h2
      have d3 : decide ((n : Int) ≤ last) = false := by simpa using h2
      have hL : tnL n last = last := by unfold tnL; rw [if_neg (by rintro (e | e); exact h1 e; exact h2 e)]
      obtain ⟨q0, rfl⟩ : ∃ q0 : Nat, last = q0 := ⟨last.toNat, by omega⟩
      have d4 : decide (n ≤ q0) = false := by simp; omega
      have hL' := Lib.hid hL
      clear hL h1 h2
      go_enter Try.func17, Try.ntmps17
      go_wp2
      go_loopw [6] (fun i wr => ∃ k : Nat, k ≤ n ∧ i = .int .i64 ((k + 1 : Nat) : Int) ∧ (∀ j, j < k → l.getD (tnP n (q0 : Int) j) true = true) ∧ wr = w) (fun i wr => n + 1 - (intOf i).toNat)
      case atStart => exact ⟨0, by omega, rfl, fun j hj => by omega, rfl⟩
      case round =>
        obtain ⟨k, hk, rfl, hall, rfl⟩ := hrel
        obtain ⟨p, hp⟩ : ∃ p, k + 1 = p := ⟨_, rfl⟩
        rw [hp]
        have hpk0 : p = k + 1 := hp.symm
        by_cases hlt : k < n
        · obtain ⟨a, off, rfl, hbl, hc⟩ := HX.out.2.form (by omega)
          have hn0 : 0 < n := by omega
          obtain ⟨q, hq⟩ : ∃ q : Nat, tnL n (q0 : Int) = q := ⟨(tnL n (q0 : Int)).toNat, by have := tnL_range (last := (q0 : Int)) hn0; omega⟩
          have hqr := tnL_range (last := (q0 : Int)) hn0
          obtain ⟨r, hr⟩ : ∃ r, tnP n (q0 : Int) k = r := ⟨_, rfl⟩
          have hrn : r < n := by rw [← hr]; exact tnP_lt hn0
          have hrl : r < l.length := by rw [HX.out.1]; exact hrn
          have cx := hc r _ (bools_get l r hrl)
          have hrem := tn_rem2 (n := n) (q := q) (j := p) hn0
          have hpk : (q + p) % n = r := by rw [← hr, ← hp]; unfold tnP; rw [hq, Int.toNat_natCast]; congr 1; omega
          rw [hpk] at hrem
          have hLq := hL'.out
          rw [hq] at hqr hLq
          obtain rfl : q = q0 := by omega
          clear hLq
          have hw1 : IntKind.i64.wrap ((q : Int) + (p : Int)) = (q : Int) + (p : Int) := by rw [IntKind.wrap_i64]; omega
          have hw3 : IntKind.i64.wrap (r : Int) = (r : Int) := by rw [IntKind.wrap_i64]; omega
          have km : (p : Int) ≤ (n : Int) := by omega
          have rm : (r : Int) < (n : Int) := by omega
          have hz : ¬ (n : Int) = 0 := by omega
          have hz2 : ¬ n = 0 := by omega
          have hgd := getD_bool hrl true
          obtain ⟨b, hb⟩ : ∃ b, l[r] = b := ⟨_, rfl⟩
          rw [hb] at cx hgd
          have HK := Lib.hid (And.intro hall (And.intro hlt (And.intro hr (And.intro hgd (And.intro hq hpk0)))))
          clear hp hpk0 hall hk hlt hr hgd hbl hc hrl hpk hb
          cases b with
          | true =>
            go_wp2
            refine ⟨⟨k + 1, by have := HK.out.2.1; omega, by have := HK.out.2.2.2.2.2; rw [this]; go_num, fun j hj => ?_, trivial⟩, by have := HK.out.2.1; have := HK.out.2.2.2.2.2; simp [intOf]; omega⟩
            rcases (show j < k ∨ j = k by omega) with e | e
            · exact HK.out.1 j e
            · subst e; rw [HK.out.2.2.1]; exact HK.out.2.2.2.1
          | false =>
            have HT := Lib.hid (tn_some (l := l) (last := (q : Int)) (k := k) (by rw [HX.out.1]; exact HK.out.2.1) (fun j hj => by rw [HX.out.1]; exact HK.out.1 j hj) (by rw [HX.out.1, HK.out.2.2.1]; exact HK.out.2.2.2.1))
            go_wp2
            first | (rw [Exit.noGoto_ret]; go_ret2) | go_ret2
            exact ⟨ret_ib (by rw [HT.out.1, HX.out.1, HK.out.2.2.1]) HT.out.2.symm, rfl⟩
        · obtain rfl : k = n := by omega
          have HT := Lib.hid (tn_none (l := l) (last := (q0 : Int)) (fun j hj => by rw [HX.out.1] at hj ⊢; exact hall j hj))
          have km : ¬ (p : Int) ≤ (k : Int) := by omega
          have km2 : decide ((p : Int) ≤ (k : Int)) = false := by simpa using km
          clear hlt hk hall hp
          go_wp2
          first | (rw [Exit.noGoto_ret]; go_ret2) | go_ret2
          exact ⟨ret_ib (by rw [HT.out.1]; rfl) HT.out.2.symm, rfl⟩
end
end Go.Proofs.Ytchdjbbhhjjmkaa
