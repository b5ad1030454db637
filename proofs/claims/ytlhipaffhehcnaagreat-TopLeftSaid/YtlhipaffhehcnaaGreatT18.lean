/- TopLeft: small natural numbers; math/bits. TopLeft: natural numbers of at most one digit in memory; limbs' small functions. TopLeft: limbs: room. TopLeft: limbs: Clip, Add. -/
import Derived.Test.YtlhipaffhehcnaaGreatT01
import Derived.Test.YtlhipaffhehcnaaGreatT17
import Derived.BigQuiet
import Derived.Deep.QuietTactic
import Derived.Deep.LoopGhost
import Derived.Test.YtlhipaffhehcnaaGreatT06
import Derived.Lib.SliceRun
import Derived.Laws.Externs
namespace Go.Proofs.YtlhipaffhehcnaaGreat
open Go.RowKit
set_option linter.unusedVariables false
/-- A natural number of at most one digit: its digits, how many. -/
def dg (n : Nat) : List Value := if n = 0 then [] else [.int .u64 (n : Int)]
def ln (n : Nat) : Nat := if n = 0 then 0 else 1
theorem ln_le (n : Nat) : ln n ≤ 1 := by unfold ln; split <;> omega
theorem dg_pos {n : Nat} (h : 0 < n) : dg n = [.int .u64 (n : Int)] := if_neg (by omega)
theorem ln_zero : ln 0 = 0 := rfl
theorem ln_pos {n : Nat} (h : 0 < n) : ln n = 1 := if_neg (by omega)
theorem dg_one (n : Nat) : ∀ u ∈ dg n, u.oneCell' = true := by
  intro u hu
  unfold dg at hu
  split at hu
  · cases hu
  · rw [List.mem_singleton.1 hu]; rfl
theorem wrap_u {q : Nat} (h : q < 18446744073709551616) : IntKind.u64.wrap (q : Int) = (q : Int) := by rw [IntKind.wrap_u64]; omega
theorem and32 {x : Nat} (hx : x < 4294967296) : bits .and .u64 (x : Int) 4294967295 = (x : Int) := by
  have h : x &&& 4294967295 = x := by
    rw [show 4294967295 = 2 ^ 32 - 1 from rfl, Nat.and_two_pow_sub_one_eq_mod]
    exact Nat.mod_eq_of_lt hx
  unfold bits
  simp
  rw [show (2 : Nat) ^ IntKind.u64.bits = 18446744073709551616 from rfl, Nat.mod_eq_of_lt (a := x) (by omega), show 4294967295 % 18446744073709551616 = 4294967295 from rfl, h, IntKind.wrap_u64]
  omega
set_option maxRecDepth 100000 in
theorem mul64_any {w : World} {x y : Nat} (hx : x < 4294967296) (hy : y < 4294967296) :
    Calls Tryz.prog 153 #[.int .u64 (x : Nat), .int .u64 (y : Nat)] w fun e w' => e = .returned (.tuple #[.int .u64 0, .int .u64 ((x * y : Nat) : Int)]) ∧ w = w' := by
  have a1 := and32 hx
  have b1 := and32 hy
  have a2 : (x : Int) / 4294967296 = 0 := by omega
  have b2 : (y : Int) / 4294967296 = 0 := by omega
  have hp : x * y ≤ 18446744065119617025 := Nat.mul_le_mul (n₁ := x) (m₁ := y) (n₂ := 4294967295) (m₂ := 4294967295) (by omega) (by omega)
  have e0 : IntKind.u64.wrap ((x : Int) * (y : Int)) = ((x * y : Nat) : Int) := by rw [IntKind.wrap_u64]; omega
  obtain ⟨p, hpe⟩ : ∃ p, x * y = p := ⟨_, rfl⟩
  rw [hpe] at hp e0 ⊢
  have z0 : IntKind.u64.wrap 0 = 0 := by decide
  obtain ⟨q, hq⟩ : ∃ q : Nat, (p : Int) / 4294967296 = (q : Int) ∧ q < 4294967296 := ⟨p / 4294967296, by omega, by omega⟩
  have e2 := hq.1
  have e3 : IntKind.u64.wrap (0 + (q : Int)) = (q : Int) := by rw [IntKind.wrap_u64]; omega
  have e3' : IntKind.u64.wrap (q : Int) = (q : Int) := by rw [IntKind.wrap_u64]; omega
  have e4 := and32 hq.2
  have e5 : (q : Int) / 4294967296 = 0 := by omega
  clear hx hy hp hq hpe
  go_enter Tryz.func153, Tryz.ntmps153
  go_wp2_with fail
  go_ret2
  refine ⟨?_, rfl⟩
  rfl
set_option maxRecDepth 100000 in
theorem div64_any {w : World} {x y : Nat} (hy : 0 < y) (hx : x < 9223372036854775808) (hy2 : y < 9223372036854775808) :
    Calls Tryz.prog 124 #[.int .u64 0, .int .u64 (x : Nat), .int .u64 (y : Nat)] w fun e w' => e = .returned (.tuple #[.int .u64 ((x / y : Nat) : Int), .int .u64 ((x % y : Nat) : Int)]) ∧ Below w.heap.size w w' := by
  have d1 : ((y : Int) == 0) = false := by simp; omega
  have d2 : decide ((y : Int) ≤ 0) = false := decide_eq_false (by omega)
  have d3 : ¬ ((y : Nat) : Int) = 0 := by omega
  have d4 : ((y : Nat) : Int) ≠ 0 := by omega
  have d5 : ¬ y = 0 := by omega
  have hq : x / y ≤ x := Nat.div_le_self x y
  have e0 : (x : Int) / (y : Int) = ((x / y : Nat) : Int) := by norm_cast
  have e2 : (x : Int) % (y : Int) = ((x % y : Nat) : Int) := by norm_cast
  have e1 : IntKind.u64.wrap ((x : Int) / (y : Int)) = ((x / y : Nat) : Int) := by rw [e0]; exact wrap_u (by omega)
  clear e0 hq
  go_enter Tryz.func124, Tryz.ntmps124
  go_wp2_with fail
  go_quiet (fail)
  go_wp2_with fail
  go_ret2
  exact ⟨rfl, below_dN (Below.refl _ _) _⟩
end Go.Proofs.YtlhipaffhehcnaaGreat
namespace Go.Proofs.YtlhipaffhehcnaaGreat
open Go.RowKit
set_option linter.unusedVariables false
theorem u64_info : (Tryz.prog.info? 102).map (fun i => (i.zero, i.size, i.bytes)) = some (some (.int .u64 0), 1, 8) := by kernel_rfl
theorem info_parts27 {P : Program} {e : TypeId} {z : Value} {s b : Nat} (h : (P.info? e).map (fun i => (i.zero, i.size, i.bytes)) = some (some z, s, b)) : ∃ i, P.info? e = some i ∧ i.zero = some z ∧ i.size = s ∧ i.bytes = b := by
  cases hi : P.info? e with
  | none => rw [hi] at h; cases h
  | some i =>
    rw [hi] at h
    injection h with h
    injection h with h1 h2
    injection h2 with h2 h3
    exact ⟨i, rfl, h1, h2, h3⟩
/-- A number's value. -/
def NV (w : World) (v : Value) (n : Nat) : Prop := ∃ A c, v = .slice A (ln n) c ∧ ln n ≤ c ∧ Rd w A (ln n) (dg n)
/-- A row whose first digit counts alone. -/
def rows (x : Nat) : Nat → List Value
  | 0 => []
  | L + 1 => .int .u64 (x : Int) :: List.replicate L (.int .u64 0)
def RawV (w : World) (A : Option Addr) (L x : Nat) : Prop := Rd w A L (rows x L) ∧ (L = 0 → x = 0)
section
variable {w w' : World} {v : Value} {n : Nat}
theorem NV.below (h : NV w v n) (hb : Below w.heap.size w w') : NV w' v n := by
  obtain ⟨A, c, e, h1, h2⟩ := h
  exact ⟨A, c, e, h1, h2.below hb⟩
theorem rows_ln (n : Nat) : rows n (ln n) = dg n := by
  unfold ln dg
  split
  · rfl
  · rfl
theorem NV.raw {A : Option Addr} (h : Rd w A (ln n) (dg n)) : RawV w A (ln n) n := ⟨by rw [rows_ln]; exact h, fun e => by unfold ln at e; split at e; assumption; cases e⟩
theorem NV.nil (w : World) : NV w (.slice none 0 0) 0 := ⟨none, 0, rfl, Nat.le_refl _, Rd.nil _ _⟩
theorem RawV.below {A : Option Addr} {L x : Nat} (h : RawV w A L x) (hb : Below w.heap.size w w') : RawV w' A L x := ⟨h.1.below hb, h.2⟩
theorem rows_get {x L j : Nat} (hj : j < L) : (rows x L)[j]? = some (.int .u64 (if j = 0 then (x : Int) else 0)) := by
  cases L with
  | zero => omega
  | succ L =>
    cases j with
    | zero => rfl
    | succ j =>
      unfold rows
      rw [List.getElem?_cons_succ, List.getElem?_replicate, if_pos (by omega)]
      rfl
theorem rows_len (x L : Nat) : (rows x L).length = L := by cases L <;> simp [rows]
theorem rows_take {x L m : Nat} (hm : m ≤ L) : (rows x L).take m = rows x m := by
  apply List.ext_getElem?
  intro j
  rcases Nat.lt_or_ge j m with h | h
  · rw [List.getElem?_take_of_lt h, rows_get (by omega), rows_get h]
  · rw [List.getElem?_eq_none (by rw [List.length_take, rows_len]; omega), List.getElem?_eq_none (by rw [rows_len]; exact h)]
end
set_option maxRecDepth 100000 in
theorem trimmed_any {w : World} {A : Option Addr} {L c x : Nat} (h : RawV w A L x) (hL : L ≤ c) (hL9 : L ≤ 1000) :
    Calls Tryz.prog 107 #[.slice A L c] w fun e w' => e = .returned (.slice A (ln x) c) ∧ w = w' ∧ ln x ≤ L := by
  have hxL : ln x ≤ L := by
    rcases Nat.eq_zero_or_pos L with e | e
    · rw [h.2 e, ln_zero]; omega
    · have := ln_le x; omega
  have H := Lib.hid h
  have HL := Lib.hid hL
  have HX := Lib.hid hxL
  clear h hxL
  go_enter Tryz.func107, Tryz.ntmps107
  go_wp2_with fail
  go_loopg [0] (L + 1) (fun q v wr => ∃ m : Nat, q = m + 1 ∧ m ≤ L ∧ ln x ≤ m ∧ v = .slice A m c ∧ wr = w)
  case atStart => exact ⟨L, rfl, Nat.le_refl _, HX.out, rfl, rfl⟩
  case round =>
    obtain ⟨m, hq, hm, hx, rfl, rfl⟩ := hrel
    by_cases h0 : 0 < m
    · have d1 : decide ((m : Int) > 0) = true := decide_eq_true (by omega)
      have d2 : decide ((0 : Int) < (m : Int)) = true := decide_eq_true (by omega)
      have d3 : decide (0 < m) = true := decide_eq_true h0
      obtain ⟨k, hk⟩ : ∃ k, m = k + 1 := ⟨m - 1, by omega⟩
      obtain ⟨b, off, rfl, _, hcc⟩ := H.out.1.form (by omega)
      have cx := hcc k _ (rows_get (by omega))
      have hw1 : IntKind.i64.wrap ((m : Int) - 1) = (k : Int) := by rw [IntKind.wrap_i64]; omega
      have hw2 : wrap64 ((m : Int) - 1) = (k : Int) := by unfold wrap64; omega
      have k0 : (0 : Int) ≤ (k : Int) := by omega
      have k1 : (k : Int) < (m : Int) := by omega
      have k3 : (k : Int) ≤ (c : Int) := by have := HL.out; omega
      have HM := Lib.hid (And.intro hq (And.intro hm (And.intro hx hk)))
      have hmL : (m : Int) ≤ 1000 := by omega
      clear hq hm hx h0 hcc hk
      by_cases hz : k = 0 ∧ x ≠ 0
      · obtain ⟨rfl, hz⟩ := hz
        rw [if_pos rfl] at cx
        obtain rfl : m = 1 := HM.out.2.2.2
        have cx0 : wr.cell? ⟨b, off, none⟩ = some (.int .u64 (x : Int)) := cx
        have k9 : (0 : Int) < (1 : Int) := by decide
        have e1 : ((x : Int) == 0) = false := by simp; omega
        have HE := Lib.hid (ln_pos (show 0 < x by omega))
        clear hz
        go_wp2_with fail
        go_ret
        exact ⟨by rw [HE.out]; rfl, rfl, HX.out⟩
      · have hcx : (if k = 0 then (x : Int) else 0) = 0 := by
          split
          · omega
          · rfl
        rw [hcx] at cx
        have HE := Lib.hid (show ln x ≤ k from by
          have := ln_le x
          rcases Nat.eq_zero_or_pos k with e | e
          · have hx0 : x = 0 := by omega
            rw [hx0, ln_zero]; omega
          · omega)
        clear hz hcx
        go_wp2_with fail
        go_roundg (gk - 1)
        case measure => have := HM.out.1; omega
        case rel => exact ⟨k, by have := HM.out.1; have := HM.out.2.2.2; omega, by have := HM.out.2.1; have := HM.out.2.2.2; omega, HE.out, rfl, rfl⟩
    · have d1 : decide ((m : Int) > 0) = false := decide_eq_false (by omega)
      have d2 : decide ((0 : Int) < (m : Int)) = false := decide_eq_false (by omega)
      have d3 : decide (0 < m) = false := decide_eq_false h0
      have HE := Lib.hid (show ln x = m by omega)
      obtain rfl : m = 0 := by omega
      clear hq hm hx h0 d1 d2 d3
      go_wp2_with fail
      go_ret
      exact ⟨by rw [HE.out]; rfl, rfl, HX.out⟩
/-- slices.Clone of digits. -/
theorem cloneN_any {w : World} {A : Option Addr} {n c : Nat} (h : Rd w A (ln n) (dg n)) (hc : ln n ≤ c) :
    Calls Tryz.prog 68 #[.slice A (ln n) c] w fun e w' => ∃ v, e = .returned v ∧ NV w' v n ∧ Below w.heap.size w w' := by
  have hl1 := ln_le n
  obtain ⟨i0, hi0, hz0, hz1, hz2⟩ := info_parts27 u64_info
  obtain ⟨L, hL⟩ : ∃ L, ln n = L := ⟨_, rfl⟩
  have H := Lib.hid (And.intro h (And.intro hL hc))
  rw [hL] at hl1 ⊢
  have hq : ∀ w, (binOp .eql 36 (.slice A L c) (.slice none 0 0)).run Tryz.prog w = .ok (.bool A.isNone) w := fun w => Lib.run_eql_slice_nil (P := Tryz.prog) w 36 102 A L c 0 0 Tryz.underlying36
  clear h hL hc
  cases A with
  | none =>
    have hq' : ∀ w, (binOp .eql 36 (.slice none L c) (.slice none 0 0)).run Tryz.prog w = .ok (.bool true) w := hq
    have HN := Lib.hid (show n = 0 from by
      rcases Nat.eq_zero_or_pos n with e | e
      · exact e
      · obtain ⟨b, off, e', _⟩ := H.out.1.form (by rw [ln_pos e]; omega)
        cases e')
    clear hq
    go_enter Tryz.func68, Tryz.ntmps68
    go_wp2_with fail
    go_ret
    exact ⟨_, rfl, by rw [HN.out]; exact NV.nil _, Below.refl _ _⟩
  | some a =>
    have hq' : ∀ w, (binOp .eql 36 (.slice (some a) L c) (.slice none 0 0)).run Tryz.prog w = .ok (.bool false) w := hq
    clear hq
    go_enter Tryz.func68, Tryz.ntmps68
    go_wp2_with (at_builtin; refine wpList_append_rd _ rfl (.tmp 5) (.tmp 6) _ rfl w.heap.size 102 i0 _ 1 8 Tryz.underlying36 hi0 hz0 hz1 hz2 rfl (by omega) _ 0 [] rfl (own_new0 w _ _ (Nat.le_refl _)) (some a) L c (dg n) rfl (by rw [Nat.mul_one]; have := H.out.1; rw [H.out.2.1] at this; exact this.alloc _) (dg_one n) (by simp only [maxLen]; omega) (by omega) (by show w.heap.size ≤ (w.alloc _).heap.size; rw [World.size_alloc]; omega) ?_; intro v1 w1 hown1 hg1 hat1; rw [Nat.zero_add, List.nil_append] at hown1)
    have hb1 : Below w.heap.size w w1 := ((Below.refl _ _).alloc (Nat.le_refl _) _).grown hg1 (by rw [World.size_alloc]; omega) (fun k hk => ((own_new0 w 102 _ (Nat.le_refl _)).lt k hk).1)
    go_ret
    refine ⟨_, rfl, ?_, hb1⟩
    obtain ⟨A1, c1, rfl, hc1, _⟩ := own_form hown1
    exact ⟨A1, c1, by rw [H.out.2.1]; rfl, by rw [H.out.2.1]; exact hc1, by rw [H.out.2.1]; exact Rd.of_own hown1⟩
/-- limbs.Trim -/
theorem trim_any {w : World} {A : Option Addr} {L c x : Nat} (h : RawV w A L x) (hL : L ≤ c) (hL9 : L ≤ 1000) :
    Calls Tryz.prog 91 #[.slice A L c] w fun e w' => ∃ v, e = .returned v ∧ NV w' v x ∧ Below w.heap.size w w' := by
  have H := Lib.hid (And.intro h (And.intro hL hL9))
  clear h hL hL9
  go_enter Tryz.func91, Tryz.ntmps91
  go_wp2_with fail
  refine (trimmed_any H.out.1 H.out.2.1 H.out.2.2).mono ?_
  rintro e w1 ⟨rfl, rfl, hx⟩
  have hr : Rd w A (ln x) (dg x) := by
    have := H.out.1.1.take_ hx
    rw [rows_take hx, rows_ln] at this
    exact this
  have HQ := Lib.hid (cloneN_any hr (Nat.le_trans hx H.out.2.1))
  clear hr hx
  go_wp2_with fail
  refine HQ.out.mono ?_
  rintro e w2 ⟨v, rfl, h1, h2⟩
  have H2 := Lib.hid (And.intro h1 h2)
  clear h1 h2
  go_wp2_with fail
  go_ret
  exact ⟨v, rfl, H2.out⟩
/-- limbs.Of -/
theorem limbsOf_any {w : World} (x : Nat) : Calls Tryz.prog 51 #[.int .u64 (x : Nat)] w fun e w' => ∃ v, e = .returned v ∧ NV w' v x ∧ Below w.heap.size w w' := by
  go_enter Tryz.func51, Tryz.ntmps51
  go_wp2_with fail
  have hb := (Below.refl w.heap.size w).alloc (Nat.le_refl _) (.cells #[.int .u64 (x : Int)] 102)
  have hk := Bk.newA w 102 #[.int .u64 (x : Int)]
  refine (trim_any (x := x) (L := 1) ⟨Rd.of_bk hk (by simp) rfl, fun e => by cases e⟩ (Nat.le_refl _) (by decide)).mono ?_
  rintro e w2 ⟨v, rfl, h1, h2⟩
  have H2 := Lib.hid (And.intro h1 (below_base hb h2 hb.size))
  clear h1 h2 hb hk
  go_wp2_with fail
  go_ret
  exact ⟨v, rfl, H2.out⟩
/-- limbs.digit -/
theorem digit_any {w : World} {A : Option Addr} {n c : Nat} (h : Rd w A (ln n) (dg n)) (i : Nat) : Calls Tryz.prog 156 #[.slice A (ln n) c, .int .i64 (i : Nat)] w fun e w' => e = .returned (.int .u64 (if i = 0 then (n : Int) else 0)) ∧ w = w' := by
  have hl := ln_le n
  by_cases hi : i < ln n
  · have h0 : i = 0 := by omega
    subst h0
    have hn : 0 < n := by
      rcases Nat.eq_zero_or_pos n with e | e
      · rw [e, ln_zero] at hi; omega
      · exact e
    rw [ln_pos hn, dg_pos hn] at h
    rw [ln_pos hn]
    obtain ⟨b, off, rfl, _, hcc⟩ := h.form (by omega)
    have cx : w.cell? ⟨b, off, none⟩ = some (.int .u64 (n : Int)) := hcc 0 _ rfl
    clear h hcc hi hl
    go_enter Tryz.func156, Tryz.ntmps156
    go_wp2_with fail
    go_ret
    exact ⟨rfl, rfl⟩
  · have d1 : decide ((i : Int) < ((ln n : Nat) : Int)) = false := decide_eq_false (by omega)
    have d2 : decide (i < ln n) = false := decide_eq_false hi
    have hv : (if i = 0 then (n : Int) else 0) = 0 := by
      split
      · rename_i e
        have : ¬ 0 < n := fun e2 => by rw [ln_pos e2] at hi; omega
        omega
      · rfl
    obtain ⟨L, hL⟩ : ∃ L, ln n = L := ⟨_, rfl⟩
    rw [hv]
    rw [hL] at d1 d2 ⊢
    clear h hi hl hv hL
    go_enter Tryz.func156, Tryz.ntmps156
    go_wp2_with fail
    go_ret
    exact ⟨rfl, rfl⟩
end Go.Proofs.YtlhipaffhehcnaaGreat
namespace Go.Proofs.YtlhipaffhehcnaaGreat
open Go.RowKit
set_option linter.unusedVariables false
theorem append_zeros27 (w : World) (k : Nat) (h0 : 0 < k) (hk : k ≤ 1000) : ∃ g c w', (Builtin.append_ #[36, 3] 36 #[.slice none 0 0, .int .i64 (k : Int)]).run Tryz.prog w = .ok (.slice (some ⟨g, 0, none⟩) k c) w' ∧ k ≤ c ∧ c ≤ maxLen ∧ w'.ownsRow w.heap.size 102 1 (.slice (some ⟨g, 0, none⟩) k c) k (List.replicate k (.int .u64 0)) ∧ Below w.heap.size w w' := by
  obtain ⟨i0, hi0, hz0, hz1, hz2⟩ := info_parts27 u64_info
  have hr := Lib.run_append_nil_zeros (P := Tryz.prog) w 36 3 36 102 i0 (.int .u64 0) .i64 .i64 Tryz.underlying36 Tryz.underlying3 hi0 hz0 k h0 (by omega) (by omega) (by rw [hz2]; omega)
  have hge := grownCap_ge w k 0 102
  have hcm : grownCap w k 0 102 ≤ maxLen := grownCap_le_maxLen w k 0 102 (by simp only [maxLen]; omega)
  refine ⟨_, _, _, hr, hge, hcm, ?_, ?_⟩
  · refine ⟨by simp, .inr ⟨w.heap.size, _, _, rfl, Nat.le_refl _, heap_alloc_new w.drew _, hge, hcm, ?_, ?_⟩⟩
    · simp [Builtin.zeroCells, Value.cells]; omega
    · simp only [Array.toList_append, zeroCells_one (.int .u64 0) _ rfl]
      rw [List.take_append_of_le_length (by simp)]
      exact List.take_of_length_le (by simp)
  · exact ((Below.refl _ _).drew).alloc (Nat.le_refl _) _
set_option maxRecDepth 100000 in
/-- slices.Grow of no number. -/
theorem grow27_zero {w : World} : Calls Tryz.prog 164 #[.slice none 0 0, .int .i64 0] w fun e w' => e = .returned (.slice none 0 0) ∧ w = w' := by
  go_enter Tryz.func164, Tryz.ntmps164
  go_wp2_with fail
  go_ret
  exact ⟨rfl, rfl⟩
set_option maxRecDepth 100000 in
theorem grow27_any {w : World} (n : Nat) (h0 : 0 < n) (hn : n ≤ 1000) : Calls Tryz.prog 164 #[.slice none 0 0, .int .i64 (n : Nat)] w fun e w' => ∃ A c, e = .returned (.slice A 0 c) ∧ n ≤ c ∧ w'.ownsRow w.heap.size 102 1 (.slice A n c) n (List.replicate n (.int .u64 0)) ∧ Below w.heap.size w w' := by
  obtain ⟨g, c, w1, hr, hc, hcm, hown, hb⟩ := append_zeros27 w n h0 hn
  have H := Lib.hid (And.intro hc (And.intro hown hb))
  have d1 : decide ((n : Int) < 0) = false := decide_eq_false (by omega)
  have d2 : decide ((n : Int) > 0) = true := decide_eq_true (by omega)
  have d3 : decide ((0 : Int) < (n : Int)) = true := decide_eq_true (by omega)
  have d4 : decide (0 < n) = true := decide_eq_true h0
  have hw : IntKind.i64.wrap ((n : Int) - 0) = (n : Int) := by rw [IntKind.wrap_i64]; omega
  have hn' : (n : Int) ≤ 1000 := by omega
  have HN := Lib.hid h0
  clear hc hown hb hn h0 hcm
  go_enter Tryz.func164, Tryz.ntmps164
  go_wp2_with (at_builtin; refine Lib.wpList_append_run _ rfl _ _ _ _ rfl _ _ rfl rfl _ _ hr ?_)
  go_ret
  exact ⟨_, c, rfl, H.out.1, H.out.2.1, H.out.2.2⟩
theorem clear27 {w : World} {g o n c : Nat} {ty : TypeId} {cs : List Value} {t : TypeId} (hn : 0 < n) (hb : Bk w g t cs) (hl : o + n ≤ cs.length) : (Builtin.clear_ #[36] ty #[.slice (some ⟨g, o, none⟩) n c]).run Tryz.prog w = .ok (.tuple #[]) (w.setCells g o (List.replicate n (.int .u64 0))) :=
  Lib.run_clear_slice w 36 102 ty (.int .u64 0) Tryz.underlying36 (fun w => by kernel_rfl) rfl rfl g o n c hn (fun j hj => by rw [hb.cell, List.getElem?_eq_getElem (by omega)]; rfl) (fun j hj => hb.frozen _)
theorem clear27_nil (w : World) (ty : TypeId) : (Builtin.clear_ #[36] ty #[.slice none 0 0]).run Tryz.prog w = .ok (.tuple #[]) w := by
  simp [Builtin.clear_, run_underlying (P := Tryz.prog) Tryz.underlying36]
set_option maxRecDepth 100000 in
/-- limbs.room -/
theorem room_any {w : World} (n : Nat) (hn : n ≤ 1000) : Calls Tryz.prog 157 #[.int .i64 (n : Nat)] w fun e w' => ∃ A c, e = .returned (.slice A n c) ∧ n ≤ c ∧ w'.ownsRow w.heap.size 102 1 (.slice A n c) n (List.replicate n (.int .u64 0)) ∧ Below w.heap.size w w' := by
  rcases Nat.eq_zero_or_pos n with h0 | h0
  · subst h0
    have HG := Lib.hid (grow27_zero (w := w))
    have hcn := clear27_nil
    show Calls Tryz.prog 157 #[.int .i64 0] w _
    go_enter Tryz.func157, Tryz.ntmps157
    go_wp2_with fail
    refine HG.out.mono ?_
    rintro e w1 ⟨rfl, rfl⟩
    go_wp2_with fail
    go_ret
    exact ⟨none, 0, rfl, Nat.le_refl _, ⟨rfl, .inl ⟨rfl, rfl⟩⟩, Below.refl _ _⟩
  · have HG := Lib.hid (grow27_any (w := w) n h0 hn)
    have hn' : (n : Int) ≤ 1000 := by omega
    go_enter Tryz.func157, Tryz.ntmps157
    go_wp2_with fail
    refine HG.out.mono ?_
    rintro e w1 ⟨A, c, rfl, hc, hown, hb⟩
    have H := Lib.hid (And.intro hc (And.intro hown hb))
    have hc' : (n : Int) ≤ (c : Int) := by omega
    obtain ⟨g, cur, rfl, hg, hgl, hbk, _, hcm, hcl, htk⟩ := own_formN hown h0
    have hcl' : n ≤ cur.length := by omega
    obtain ⟨iI, hI0, hI1, hI2, hI3⟩ := info_parts27 u64_info
    have hs3 := fun w => run_toI (P := Tryz.prog) (t := 36) (e := 102) (i := iI) Tryz.underlying36 hI0 hI2 (some ⟨g, 0, none⟩) 0 c n .i64 hc w
    have hclr := fun ty => clear27 (c := c) (ty := ty) h0 hbk (o := 0) (by omega)
    have hfin : (w1.setCells g 0 (List.replicate n (.int .u64 0))).ownsRow w.heap.size 102 1 (.slice (some ⟨g, 0, none⟩) n c) n (List.replicate n (.int .u64 0)) := by
      have hb2 := Bk.setCells (List.replicate n (.int .u64 0)) 0 hbk (by simp; omega)
      refine own_mkN hb2 hg hc hcm ?_ ?_
      · rw [spl_length (by simp; omega)]; exact hcl
      · refine List.ext_getElem? fun i => ?_
        rcases Nat.lt_or_ge i n with h | h
        · rw [Nat.mul_one, List.getElem?_take_of_lt h, spl_getElem? (by simp; omega), if_pos (by simp; omega)]; rfl
        · rw [List.getElem?_eq_none (by simp; omega), List.getElem?_eq_none (by simp; omega)]
    have hbf := (Chg.setCells (S := fun k => k = g) rfl (List.replicate n (.int .u64 0)) 0 (Chg.refl _ w1)).below hb (fun k _ e => by rw [e]; exact hg) hb.size
    have HF := Lib.hid (And.intro hfin hbf)
    clear hown hb hc hn hfin hbf hbk hcl htk hcl' hcm hg hgl h0
    go_wp2_with fail
    go_ret
    exact ⟨_, c, rfl, H.out.1, HF.out⟩
end Go.Proofs.YtlhipaffhehcnaaGreat
namespace Go.Proofs.YtlhipaffhehcnaaGreat
open Go.RowKit
set_option linter.unusedVariables false
theorem add64_run {x y : Int} (hx : 0 ≤ x) (hy : 0 ≤ y) (hs : x + y < 18446744073709551616) (w : World) :
    (callFunc 154 #[.int .u64 x, .int .u64 y, .int .u64 0]).run Tryz.prog w = .ok (.value (.tuple #[.int .u64 (x + y), .int .u64 0])) w := by
  rw [run_callFunc_extern Tryz.func154 (by kernel_rfl) (by kernel_rfl) (by kernel_rfl) (e := add64Entry) (by kernel_rfl), run_add64 x y 0 hx hy (by omega) (by omega)]
  rw [show (x + y + 0) % 18446744073709551616 = x + y from by omega, show (x + y + 0) / 18446744073709551616 = 0 from by omega]
  rfl
def sub64Entry27 : Array Value → Sem Value := fun args => do
  let (x, y, b) ← Extern.MathBitsCarry.three "Sub64" args
  pure (Extern.MathBitsCarry.pair ((x + Extern.MathBitsCarry.m64 - y - b) % Extern.MathBitsCarry.m64) (if x < y + b then 1 else 0))
theorem run_sub27 (x y : Nat) (w : World) :
    (sub64Entry27 #[.int .u64 x, .int .u64 y, .int .u64 0]).run Tryz.prog w =
      .ok (.tuple #[.int .u64 (((x + 18446744073709551616 - y) % 18446744073709551616 : Nat) : Int), .int .u64 ((if x < y then 1 else 0 : Nat) : Int)]) w := by rfl
theorem sub64_run {x y : Int} (hy : 0 ≤ y) (hs : y ≤ x) (hx : x < 18446744073709551616) (w : World) :
    (callFunc 159 #[.int .u64 x, .int .u64 y, .int .u64 0]).run Tryz.prog w = .ok (.value (.tuple #[.int .u64 (x - y), .int .u64 0])) w := by
  obtain ⟨X, rfl⟩ := Int.eq_ofNat_of_zero_le (show 0 ≤ x by omega)
  obtain ⟨Y, rfl⟩ := Int.eq_ofNat_of_zero_le hy
  rw [run_callFunc_extern Tryz.func159 (by kernel_rfl) (by kernel_rfl) (by kernel_rfl) (e := sub64Entry27) (by kernel_rfl), run_sub27 X Y, if_neg (by omega)]
  rw [show ((X + 18446744073709551616 - Y) % 18446744073709551616 : Nat) = X - Y from by omega, show ((X - Y : Nat) : Int) = (X : Int) - (Y : Int) from by omega]
  rfl
theorem own_cellE {w : World} {base size n c g i : Nat} {e : TypeId} {xs : List Value} (h : w.ownsRow base e size (.slice (some ⟨g, 0, none⟩) n c) n xs) (hi : i < xs.length) : ∃ u, w.cell? ⟨g, i, none⟩ = some u ∧ w.frozen? ⟨g, i, none⟩ = false := by
  obtain ⟨h1, h2⟩ := own_cellN h hi
  rw [List.getElem?_eq_getElem hi] at h1
  exact ⟨_, h1, h2⟩
/-- slices.Clip of digits. -/
theorem clipN_any {w : World} (A : Option Addr) (n c : Nat) (h : n ≤ c) : Calls Tryz.prog 158 #[.slice A n c] w fun e w' => e = .returned (.slice A n n) ∧ w = w' := by
  go_enter Tryz.func158, Tryz.ntmps158
  go_wp2_with fail
  go_ret
  exact ⟨rfl, rfl⟩
/-- What a loop has written. -/
def wrote (x L i : Nat) : List Value := if i = 0 then List.replicate L (.int .u64 0) else rows x L
theorem wrote_len (x L i : Nat) : (wrote x L i).length = L := by unfold wrote; split <;> simp [rows_len]
theorem wrote_set {x L i : Nat} (hi : i < L) : (wrote x L i).set i (.int .u64 (if i = 0 then (x : Int) else 0)) = wrote x L (i + 1) := by
  apply List.ext_getElem?
  intro j
  have hr : wrote x L (i + 1) = rows x L := if_neg (by omega)
  rw [hr, List.getElem?_set, wrote_len]
  by_cases e : i = j
  · subst e
    rw [if_pos rfl, if_pos hi, rows_get hi]
  · rw [if_neg e]
    by_cases h0 : i = 0
    · subst h0
      unfold wrote
      rw [if_pos rfl]
      rcases Nat.lt_or_ge j L with h | h
      · rw [rows_get h, if_neg (fun x => e x.symm), List.getElem?_replicate, if_pos h]
      · rw [List.getElem?_eq_none (by simpa using h), List.getElem?_eq_none (by rw [rows_len]; exact h)]
    · unfold wrote; rw [if_neg h0]
theorem wrote_end {x L : Nat} (hL : L = 0 → x = 0) : wrote x L L = rows x L := by
  unfold wrote
  split
  · rename_i h; subst h; rfl
  · rfl
set_option maxRecDepth 100000 in
/-- limbs.Add -/
theorem lAdd_any {w : World} {va vb : Value} {a b : Nat} (ha : NV w va a) (hb : NV w vb b) (h : a + b < 9223372036854775808) : Calls Tryz.prog 128 #[va, vb] w fun e w' => ∃ v, e = .returned v ∧ NV w' v (a + b) ∧ Below w.heap.size w w' := by
  obtain ⟨A, c, rfl, hA1, hA2⟩ := ha
  obtain ⟨B, d, rfl, hB1, hB2⟩ := hb
  have la := ln_le a
  have lb := ln_le b
  have H := Lib.hid (And.intro hA2 (And.intro hB2 h))
  obtain ⟨m, hm, hm1⟩ : ∃ m : Nat, (if ((ln b : Nat) : Int) > ((ln a : Nat) : Int) then ((ln b : Nat) : Int) else ((ln a : Nat) : Int)) = (m : Int) ∧ m ≤ 1 := by
    split
    · exact ⟨ln b, rfl, lb⟩
    · exact ⟨ln a, rfl, la⟩
  have hmx : ∀ (w : World) (ts : Array TypeId) (t : TypeId), (Builtin.max_ ts t #[.int .i64 ((ln a : Nat) : Int), .int .i64 ((ln b : Nat) : Int)]).run Tryz.prog w = .ok (.int .i64 (m : Int)) w := fun w ts t => by
    rw [run_max_int2, hm]; try rfl
  have hm2 : (m : Int) ≤ 1 := by omega
  have hR := Lib.hid (room_any (n := m + 1) (w := w) (by omega))
  have hw : IntKind.i64.wrap ((m : Int) + 1) = ((m + 1 : Nat) : Int) := by rw [IntKind.wrap_i64]; omega
  obtain ⟨x, hx⟩ : ∃ x, ln a = x := ⟨_, rfl⟩
  obtain ⟨y, hy⟩ : ∃ y, ln b = y := ⟨_, rfl⟩
  obtain ⟨M, hM⟩ : ∃ M, m + 1 = M := ⟨_, rfl⟩
  have HXY := Lib.hid (And.intro hx (And.intro hy (And.intro la (And.intro lb (And.intro hA1 (And.intro hB1 (And.intro hM hm1)))))))
  rw [hx, hy] at hmx
  rw [hx, hy]
  rw [hM] at hR hw
  clear hA1 hA2 hB1 hB2 h hm la lb hx hy hm1 hM
  go_enter Tryz.func128, Tryz.ntmps128
  go_wp2_with fail
  refine hR.out.mono ?_
  rintro e w1 ⟨O, co, rfl, hco, hown, hb1⟩
  obtain ⟨g, cur, rfl, hg, _⟩ := own_formN hown (by have := HXY.out.2.2.2.2.2.2.1; omega)
  have H1 := Lib.hid (And.intro hco (And.intro hown (And.intro hb1 hg)))
  have hMi : (M : Int) ≤ 2 := by have := HXY.out.2.2.2.2.2.2; omega
  clear hco hown hb1 hg
  go_wp2_with fail
  go_loopw [6, 7] (fun p q wr => ∃ i : Nat, p = .int .i64 i ∧ q = .int .u64 0 ∧ i ≤ M ∧ wr.ownsRow w.heap.size 102 1 (.slice (some ⟨g, 0, none⟩) M co) M (wrote (a + b) M i) ∧ Below w.heap.size w wr) (fun p q wr => M - (intOf p).toNat)
  case atStart => exact ⟨0, rfl, rfl, Nat.zero_le _, H1.out.2.1, H1.out.2.2.1⟩
  case round =>
    obtain ⟨i, rfl, rfl, hi, hown, hb⟩ := hrel
    have hi0 : (0 : Int) ≤ (i : Int) := by omega
    have hi2 : (i : Int) ≤ 2 := by omega
    by_cases hlt : i < M
    · have d1 : decide ((i : Int) < (M : Int)) = true := decide_eq_true (by omega)
      have d2 : decide (i < M) = true := decide_eq_true hlt
      have hlt' : (i : Int) < (M : Int) := by omega
      have hD1 := digit_any (c := c) (H.out.1.below hb) i
      have hD2 := digit_any (c := d) (H.out.2.1.below hb) i
      rw [HXY.out.1] at hD1
      rw [HXY.out.2.1] at hD2
      have hD1 := Lib.hid hD1
      have hD2 := Lib.hid hD2
      obtain ⟨u0, cx, fx⟩ := own_cellE hown (i := i) (by rw [wrote_len]; exact hlt)
      have hs := own_setN hown (i := i) (by rw [wrote_len]; exact hlt) (.int .u64 (if i = 0 then ((a + b : Nat) : Int) else 0))
      rw [wrote_set hlt] at hs
      have hadd := fun w => add64_run (x := if i = 0 then (a : Int) else 0) (y := if i = 0 then (b : Int) else 0) (by split <;> omega) (by split <;> omega) (by have := H.out.2.2; split <;> omega) w
      rw [show (if i = 0 then (a : Int) else 0) + (if i = 0 then (b : Int) else 0) = (if i = 0 then ((a + b : Nat) : Int) else 0) from by split <;> omega] at hadd
      have hb' := hb.setCell (p := ⟨g, i, none⟩) (by show w.heap.size ≤ g; exact H1.out.2.2.2) (.int .u64 (if i = 0 then ((a + b : Nat) : Int) else 0))
      have HE := Lib.hid (And.intro hs (And.intro hb' (And.intro hlt hi)))
      generalize (if i = 0 then (a : Int) else 0) = xa at hD1 hadd
      generalize (if i = 0 then (b : Int) else 0) = xb at hD2 hadd
      generalize (if i = 0 then ((a + b : Nat) : Int) else 0) = xs at hadd HE
      have hwi : IntKind.i64.wrap ((i : Int) + 1) = ((i + 1 : Nat) : Int) := by rw [IntKind.wrap_i64]; omega
      clear hs hb' hown hb hlt hi
      go_wp2_with fail
      refine hD1.out.mono ?_
      rintro e w3 ⟨rfl, rfl⟩
      go_wp2_with fail
      refine hD2.out.mono ?_
      rintro e w3 ⟨rfl, rfl⟩
      go_wp2_with fail
      refine ⟨⟨i + 1, ?_, ?_, by have := HE.out.2.2.1; omega, HE.out.1, HE.out.2.1⟩, by have := HE.out.2.2.1; show M - ((i : Int) + 1).toNat < M - (i : Int).toNat; omega⟩
      · go_num
      · rfl
    · have d1 : decide ((i : Int) < (M : Int)) = false := decide_eq_false (by omega)
      have d2 : decide (i < M) = false := decide_eq_false hlt
      obtain rfl : i = M := by omega
      have hraw : RawV wr (some ⟨g, 0, none⟩) i (a + b) := ⟨by rw [← wrote_end (fun e => by have := HXY.out.2.2.2.2.2.2.1; omega)]; exact Rd.of_own hown, fun e => by have := HXY.out.2.2.2.2.2.2.1; omega⟩
      have HT := Lib.hid (trimmed_any hraw H1.out.1 (by omega))
      have HB := Lib.hid (And.intro hb hraw)
      clear hraw hown hb hi hlt d1 d2
      have d2 : decide (i < i) = false := decide_eq_false (by omega)
      go_wp2_with fail
      refine HT.out.mono ?_
      rintro e w3 ⟨rfl, rfl, hx⟩
      have HC := Lib.hid (And.intro hx (clipN_any (w := wr) (some ⟨g, 0, none⟩) (ln (a + b)) co (by have := H1.out.1; omega)))
      clear hx
      go_wp2_with fail
      refine HC.out.2.mono ?_
      rintro e w3 ⟨rfl, rfl⟩
      go_wp2_with fail
      go_ret
      have hr : Rd wr (some ⟨g, 0, none⟩) (ln (a + b)) (dg (a + b)) := by
        have := HB.out.2.1.take_ HC.out.1
        rw [rows_take HC.out.1, rows_ln] at this
        exact this
      exact ⟨_, rfl, ⟨_, _, rfl, Nat.le_refl _, hr⟩, HB.out.1⟩
end Go.Proofs.YtlhipaffhehcnaaGreat
