/- TopLeft: binom.Choose, soliton.Check and Total, row.Chance: of small numbers. -/
import Derived.Test.YtlhipaffhehcnaaGreatT24
namespace Go.Proofs.YtlhipaffhehcnaaGreat
open Go.RowKit
set_option linter.unusedVariables false
/-- How Choose goes on: so many rounds are left. -/
def chR : Nat → Nat → Nat → Nat → Nat
  | 0, _, _, out => out
  | left + 1, i, top, out => chR left (i + 1) (top - 1) (out * top / i)
def choose (n k : Nat) : Nat := if n < k then 0 else chR (min k (n - k)) 1 n 1
set_option maxRecDepth 100000 in
set_option maxHeartbeats 1000000 in
/-- binom.Choose, of at most 8. -/
theorem choose_any {w : World} {n k : Nat} (hn : n ≤ 8) (hk : k ≤ n) : Calls Tryz.prog 48 #[.int .i64 (n : Nat), .int .i64 (k : Nat)] w fun e w' => ∃ v, e = .returned (.tuple #[v, .int .i64 0]) ∧ NV w' v (choose n k) ∧ Below w.heap.size w w' := by
  have d1 : decide ((n : Int) < 0) = false := decide_eq_false (by omega)
  have d2 : decide ((n : Int) > 65536) = false := decide_eq_false (by omega)
  have d2' : decide (65536 < (n : Int)) = false := decide_eq_false (by omega)
  have d3 : decide ((k : Int) < 0) = false := decide_eq_false (by omega)
  have d4 : decide ((k : Int) > (n : Int)) = false := decide_eq_false (by omega)
  have d4' : decide (n < k) = false := decide_eq_false (by omega)
  obtain ⟨m, hm⟩ : ∃ m, min k (n - k) = m := ⟨_, rfl⟩
  have hmin : ∀ (w : World) (ts : Array TypeId) (t : TypeId), (Builtin.min_ ts t #[.int .i64 (k : Int), .int .i64 ((n : Int) - (k : Int))]).run Tryz.prog w = .ok (.int .i64 (m : Int)) w := fun w ts t => by
    rw [run_min_int2]
    congr 2
    split <;> omega
  have hm4 : m ≤ 4 := by omega
  have hmn : m ≤ n := by omega
  have HC := Lib.hid (show choose n k = chR m 1 n 1 by unfold choose; rw [if_neg (by omega), hm])
  have hnI : (n : Int) ≤ 8 := by omega
  have hkI : (k : Int) ≤ (n : Int) := by omega
  clear hm
  go_enter Tryz.func48, Tryz.ntmps48
  go_wp2_with fail
  refine (limbsOf_any 1).mono ?_
  rintro e w1 ⟨v1, rfl, hv1, hb1⟩
  have H1 := Lib.hid (And.intro hv1 hb1)
  clear hv1 hb1
  go_wp2_with fail
  go_loopw [6, 7, 8, 9] (fun o i top left wr => ∃ (i' t' l' out : Nat), i = .int .i64 (i' : Nat) ∧ top = .int .i64 (t' : Nat) ∧ left = .int .i64 (l' : Nat) ∧ NV wr o out ∧ 1 ≤ i' ∧ i' + l' = m + 1 ∧ t' ≤ 8 ∧ l' ≤ t' ∧ out ≤ 8 ^ (i' - 1) ∧ chR l' i' t' out = chR m 1 n 1 ∧ Below w.heap.size w wr) (fun _ _ _ left _ => (intOf left).toNat)
  case atStart => exact ⟨1, n, m, 1, rfl, rfl, rfl, H1.out.1, Nat.le_refl _, by omega, hn, hmn, by decide, rfl, H1.out.2⟩
  case round =>
    obtain ⟨i', t', l', out, rfl, rfl, rfl, ho, hi1, hil, ht8, hlt, hout, hch, hbw⟩ := hrel
    have hpow : (8 : Nat) ^ (i' - 1) ≤ 4096 := Nat.le_trans (Nat.pow_le_pow_right (by decide) (show i' - 1 ≤ 4 by omega)) (by decide)
    have HO := Lib.hid (And.intro ho (And.intro hbw (And.intro hout hch)))
    obtain ⟨A1, m1, c1, rfl⟩ := ho.form
    rcases Nat.eq_zero_or_pos l' with h0 | h0
    · subst h0
      have hfin : out = chR m 1 n 1 := hch
      have HF := Lib.hid hfin
      clear ho hout hch hpow hfin hbw
      go_wp2_with fail
      go_ret2
      exact ⟨_, rfl, by rw [HC.out, ← HF.out]; exact HO.out.1, HO.out.2.1⟩
    · obtain ⟨l, rfl⟩ : ∃ l, l' = l + 1 := ⟨l' - 1, by omega⟩
      obtain ⟨t, rfl⟩ : ∃ t, t' = t + 1 := ⟨t' - 1, by omega⟩
      have hot : out * (t + 1) ≤ 4096 * 8 := Nat.mul_le_mul (by omega) ht8
      have hw1 := wrap_u (q := t + 1) (by omega)
      have hw2 := wrap_u (q := i') (by omega)
      have HG := Lib.hid (grow_any (a := out) (x := t + 1) HO.out.1 (by omega) (by omega) (by omega) (by omega))
      have HI := Lib.hid (And.intro hi1 (And.intro hil (And.intro ht8 (And.intro hlt hot))))
      have hi5 : (i' : Int) ≤ 5 := by omega
      have ht5 : ((t + 1 : Nat) : Int) ≤ 8 := by omega
      have hl5 : ((l + 1 : Nat) : Int) ≤ 5 := by omega
      have hl0 : decide (((l + 1 : Nat) : Int) > 0) = true := decide_eq_true (by omega)
      have hl0' : decide (0 < ((l + 1 : Nat) : Int)) = true := decide_eq_true (by omega)
      have hl0'' : decide (0 < l + 1) = true := decide_eq_true (by omega)
      clear ho hout hch hpow hbw hot hi1 hil ht8 hlt
      go_wp2_with fail
      refine HG.out.mono ?_
      rintro e w2 ⟨v2, rfl, hv2, hb2⟩
      have HP := Lib.hid (part_any (a := out * (t + 1)) (x := i') hv2 (by have := HI.out; omega) (by have := HI.out; omega) (by have := HI.out; omega))
      have HB2 := Lib.hid (below_base HO.out.2.1 hb2 HO.out.2.1.size)
      clear hv2 hb2
      go_wp2_with fail
      refine HP.out.mono ?_
      rintro e w3 ⟨v3, rfl, hv3, hb3⟩
      have HB3 := Lib.hid (And.intro hv3 (below_base HB2.out hb3 HB2.out.size))
      clear hv3 hb3
      go_wp2_with fail
      go_roundw
      case rel =>
        refine ⟨i' + 1, t, l, out * (t + 1) / i', by go_num, by go_num, by go_num, HB3.out.1, by omega, by have := HI.out; omega, by have := HI.out; omega, by have := HI.out; omega, ?_, HO.out.2.2.2, HB3.out.2⟩
        have h1 := HI.out
        have h2 := HO.out.2.2.1
        refine Nat.le_trans (Nat.div_le_self _ _) ?_
        have e : (8 : Nat) ^ (i' + 1 - 1) = 8 ^ (i' - 1) * 8 := by rw [show i' + 1 - 1 = i' - 1 + 1 from by omega, Nat.pow_succ]
        rw [e]
        exact Nat.mul_le_mul h2 h1.2.2.1
      case measure => simp [intOf]
/-- Tables: at most three weights, each at most 3. -/
def wts (t : List Nat) : List Value := t.map fun x : Nat => .int .i64 (x : Int)
def Tb (w : World) (A : Option Addr) (n : Nat) (t : List Nat) : Prop := Rd w A n (wts t) ∧ t.length = n ∧ n ≤ 3 ∧ ∀ x ∈ t, x ≤ 3
theorem Tb.below {w w' : World} {A : Option Addr} {n : Nat} {t : List Nat} (h : Tb w A n t) (hb : Below w.heap.size w w') : Tb w' A n t := ⟨h.1.below hb, h.2⟩
theorem Tb.get {w : World} {A : Option Addr} {n : Nat} {t : List Nat} (h : Tb w A n t) {i : Nat} (hi : i < n) : t[i]'(by rw [h.2.1]; exact hi) ≤ 3 := h.2.2.2 _ (List.getElem_mem _)
theorem Tb.form {w : World} {A : Option Addr} {n : Nat} {t : List Nat} (h : Tb w A n t) (hn : 0 < n) : ∃ b off, A = some ⟨b, off, none⟩ ∧ b < w.heap.size ∧ ∀ (i : Nat) (hi : i < t.length), w.cell? ⟨b, off + i, none⟩ = some (.int .i64 ((t[i] : Nat) : Int)) := by
  obtain ⟨b, off, e, hb, hc⟩ := h.1.form hn
  refine ⟨b, off, e, hb, fun i hi => hc i _ ?_⟩
  unfold wts
  rw [List.getElem?_map, List.getElem?_eq_getElem hi]
  rfl
def tOk (t : List Nat) (k : Nat) : Bool := decide (1 ≤ k) && decide (1 ≤ t.length) && decide (t.length ≤ k) && t.any (fun x => decide (0 < x))
def chkN (t : List Nat) (k : Nat) : Int := if tOk t k then 0 else 13
theorem chkN_no {t : List Nat} {k : Nat} (h : tOk t k = false) : chkN t k = 13 := by unfold chkN; rw [h]; rfl
theorem chkN_yes {t : List Nat} {k : Nat} (h : tOk t k = true) : chkN t k = 0 := by unfold chkN; rw [h]; rfl
set_option maxRecDepth 100000 in
set_option maxHeartbeats 1000000 in
/-- soliton.Check -/
theorem solCheck_any {w : World} {A : Option Addr} {n c k : Nat} {t : List Nat} (h : Tb w A n t) (hk : k ≤ 65536) : Calls Tryz.prog 6 #[.slice A n c, .int .i64 (k : Nat)] w fun e w' => e = .returned (.int .i64 (chkN t k)) ∧ w = w' := by
  have hl := h.2.1
  have hn3 := h.2.2.1
  have e1 : decide ((k : Int) > 65536) = false := decide_eq_false (by omega)
  have e1' : decide (65536 < (k : Int)) = false := decide_eq_false (by omega)
  by_cases hbad : k < 1 ∨ n < 1 ∨ k < n
  · have hf : tOk t k = false := by
      unfold tOk
      rcases hbad with h | h | h
      · rw [decide_eq_false (by omega : ¬ 1 ≤ k)]; rfl
      · rw [decide_eq_false (by omega : ¬ 1 ≤ t.length)]; simp
      · rw [decide_eq_false (by omega : ¬ t.length ≤ k)]; simp
    rw [chkN_no hf]
    by_cases b1 : k < 1
    · have d1 : decide ((k : Int) < 1) = true := decide_eq_true (by omega)
      clear h hl hbad hf hk
      go_enter Tryz.func6, Tryz.ntmps6
      go_wp2_with fail
      go_ret
      exact ⟨rfl, rfl⟩
    · have d1 : decide ((k : Int) < 1) = false := decide_eq_false (by omega)
      by_cases b2 : n < 1
      · have d2 : decide ((n : Int) < 1) = true := decide_eq_true (by omega)
        clear h hl hbad hf hk
        go_enter Tryz.func6, Tryz.ntmps6
        go_wp2_with fail
        go_ret
        exact ⟨rfl, rfl⟩
      · have d2 : decide ((n : Int) < 1) = false := decide_eq_false (by omega)
        have d3 : decide ((n : Int) > (k : Int)) = true := decide_eq_true (by omega)
        have d3' : decide ((k : Int) < (n : Int)) = true := decide_eq_true (by omega)
        have d3'' : decide (k < n) = true := decide_eq_true (by omega)
        clear h hl hbad hf hk
        go_enter Tryz.func6, Tryz.ntmps6
        go_wp2_with fail
        go_ret
        exact ⟨rfl, rfl⟩
  · have d1 : decide ((k : Int) < 1) = false := decide_eq_false (by omega)
    have d2 : decide ((n : Int) < 1) = false := decide_eq_false (by omega)
    have d3 : decide ((n : Int) > (k : Int)) = false := decide_eq_false (by omega)
    have d3' : decide ((k : Int) < (n : Int)) = false := decide_eq_false (by omega)
    have d3'' : decide (k < n) = false := decide_eq_false (by omega)
    have hO : tOk t k = t.any (fun x => decide (0 < x)) := by
      unfold tOk
      rw [decide_eq_true (by omega : 1 ≤ k), decide_eq_true (by omega : 1 ≤ t.length), decide_eq_true (by omega : t.length ≤ k)]; rfl
    have HH := Lib.hid (And.intro h (And.intro hl hO))
    clear h hl hbad hO hk
    go_enter Tryz.func6, Tryz.ntmps6
    go_wp2_with fail
    go_loop [5, 27] (fun s i => ∃ j : Nat, j ≤ n ∧ i = .int .i64 (j : Nat) ∧ ∃ q : Bool, s = .bool q ∧ (t.take j).any (fun x => decide (0 < x)) = q) (fun _ i => n - (intOf i).toNat)
    case atStart => exact ⟨0, Nat.zero_le _, rfl, false, rfl, rfl⟩
    case round =>
      obtain ⟨j, hj, rfl, q, rfl, hq⟩ := hrel
      have HQ := Lib.hid hq
      clear hq
      by_cases hlt : j < n
      · obtain ⟨b, off, rfl, _, hcc⟩ := HH.out.1.form (by omega)
        have c0 := hcc j (by have := HH.out.2.1; omega)
        have hx := HH.out.1.get hlt
        have hany : (t.take (j + 1)).any (fun x => decide (0 < x)) = (q || decide (0 < t[j]'(by have := HH.out.2.1; omega))) := by
          rw [List.take_succ_eq_append_getElem (by have := HH.out.2.1; omega), List.any_append, HQ.out]; simp
        have HA := Lib.hid hany
        generalize (t[j]'(by have := HH.out.2.1; omega)) = x at c0 hx HA
        have x1 : decide ((x : Int) < 0) = false := decide_eq_false (by omega)
        have x2 : decide ((x : Int) > 16777215) = false := decide_eq_false (by omega)
        have x2' : decide (16777215 < (x : Int)) = false := decide_eq_false (by omega)
        clear hcc hany hx
        cases q
        · rcases Nat.eq_zero_or_pos x with h0 | h0
          · have x3 : decide ((x : Int) > 0) = false := decide_eq_false (by omega)
            have x3' : decide (0 < (x : Int)) = false := decide_eq_false (by omega)
            have x3'' : decide (0 < x) = false := decide_eq_false (by omega)
            clear h0
            go_wp2_with fail
            go_round
            case rel => exact ⟨j + 1, by omega, by go_num, _, rfl, by rw [HA.out, x3'']; rfl⟩
            case measure => simp [intOf]; omega
          · have x3 : decide ((x : Int) > 0) = true := decide_eq_true (by omega)
            have x3' : decide (0 < (x : Int)) = true := decide_eq_true (by omega)
            have x3'' : decide (0 < x) = true := decide_eq_true (by omega)
            clear h0
            go_wp2_with fail
            go_round
            case rel => exact ⟨j + 1, by omega, by go_num, _, rfl, by rw [HA.out, x3'']; rfl⟩
            case measure => simp [intOf]; omega
        · go_wp2_with fail
          go_round
          case rel => exact ⟨j + 1, by omega, by go_num, _, rfl, by rw [HA.out]; rfl⟩
          case measure => simp [intOf]; omega
      · obtain rfl : n = j := by omega
        have hfin : tOk t k = q := by
          rw [HH.out.2.2, ← HQ.out, List.take_of_length_le (by have := HH.out.2.1; omega)]
        have HF := Lib.hid hfin
        clear hfin
        cases q
        · go_wp2_with fail
          go_ret
          exact ⟨by rw [chkN_no HF.out]; rfl, rfl⟩
        · go_wp2_with fail
          go_ret
          exact ⟨by rw [chkN_yes HF.out]; rfl, rfl⟩
theorem total1_any {w : World} {g : Nat} {x y : Int} (h : Bk w g 3 [.int .i64 x]) (hx : 0 ≤ x ∧ x ≤ 1000) (hy : 0 ≤ y ∧ y ≤ 3) : Calls Tryz.prog 93 #[.int .i64 y, .pointer (some ⟨g, 0, none⟩)] w fun e w' => e = .returned (.tuple #[]) ∧ w' = w.setCell ⟨g, 0, none⟩ (.int .i64 (x + y)) := by
  have c0 := h.cell 0
  have f0 := h.frozen 0
  obtain ⟨x1, x2⟩ := hx
  obtain ⟨y1, y2⟩ := hy
  clear h
  go_enter Tryz.func93, Tryz.ntmps93
  go_wp2_with fail
  go_end0
  exact ⟨rfl, rfl⟩
theorem sum3 {t : List Nat} (h : ∀ x ∈ t, x ≤ 3) : ∀ j, (t.take j).sum ≤ 3 * t.length := by
  intro j
  induction t generalizing j with
  | nil => simp
  | cons a l ih =>
    cases j with
    | zero => simp
    | succ j =>
      have h1 := h a (List.mem_cons_self ..)
      have h2 := ih (fun x hx => h x (List.mem_cons_of_mem _ hx)) j
      rw [List.take_succ_cons, List.sum_cons, List.length_cons]
      omega
theorem sum_succ {t : List Nat} {j : Nat} (h : j < t.length) : (t.take (j + 1)).sum = (t.take j).sum + t[j] := by
  rw [List.take_succ_eq_append_getElem h, List.sum_append]; simp
set_option maxRecDepth 100000 in
set_option maxHeartbeats 1000000 in
/-- soliton.Total -/
theorem solTotal_any {w : World} {A : Option Addr} {n c : Nat} {t : List Nat} (h : Tb w A n t) : Calls Tryz.prog 53 #[.slice A n c] w fun e w' => e = .returned (.int .i64 (t.sum : Nat)) ∧ Below w.heap.size w w' := by
  have hmf : ∀ (fn : Fn) (first cap : Array Value) (w : World), (Instr.makeFunc fn first cap).run Tryz.prog w = .ok (.func fn first cap) w := fun _ _ _ _ => rfl
  have hl := h.2.1
  have hn3 := h.2.2.1
  have HH := Lib.hid (And.intro h hl)
  obtain ⟨g, hg⟩ : ∃ g, w.heap.size = g := ⟨_, rfl⟩
  have HG := Lib.hid hg
  clear h hl
  go_enter Tryz.func53, Tryz.ntmps53
  go_wp2_with fail
  go_loopw [9] (fun i wr => ∃ j : Nat, j ≤ n ∧ i = .int .i64 (j : Nat) ∧ Bk wr g 3 [.int .i64 ((t.take j).sum : Nat)] ∧ Below w.heap.size w wr) (fun i _ => n - (intOf i).toNat)
  case atStart => exact ⟨0, Nat.zero_le _, rfl, by rw [← HG.out]; exact Bk.newA w 3 #[.int .i64 0], (Below.refl _ _).alloc (Nat.le_refl _) _⟩
  case round =>
    obtain ⟨j, hj, rfl, hk, hbw⟩ := hrel
    have HK := Lib.hid (And.intro hk hbw)
    by_cases hlt : j < n
    · obtain ⟨b, off, rfl, _, hcc⟩ := (HH.out.1.below hbw).form (by omega)
      have c0 := hcc j (by have := HH.out.2; omega)
      have hx := HH.out.1.get hlt
      have hsum : (t.take (j + 1)).sum = (t.take j).sum + t[j]'(by have := HH.out.2; omega) := sum_succ _
      have hs3 := sum3 HH.out.1.2.2.2 j
      have HT := Lib.hid (total1_any hk (x := ((t.take j).sum : Nat)) (y := ((t[j]'(by have := HH.out.2; omega) : Nat) : Int)) (by have := HH.out.2; omega) (by omega))
      have HS := Lib.hid hsum
      generalize (t[j]'(by have := HH.out.2; omega)) = x at c0 hx HT HS
      clear hk hcc hsum hx hs3 hbw
      go_wp2_with fail
      refine HT.out.mono ?_
      rintro e w2 ⟨rfl, rfl⟩
      have hk2 := HK.out.1.set_ 0 (.int .i64 (((t.take j).sum : Nat) + (x : Int)))
      have HK2 := Lib.hid (And.intro hk2 (HK.out.2.setCell (p := ⟨g, 0, none⟩) (by have := HG.out; show w.heap.size ≤ g; omega) (.int .i64 (((t.take j).sum : Nat) + (x : Int)))))
      clear hk2
      go_wp2_with fail
      go_roundw
      case rel => exact ⟨j + 1, by omega, by go_num, by rw [HS.out]; exact HK2.out.1, HK2.out.2⟩
      case measure => simp [intOf]; omega
    · obtain rfl : n = j := by omega
      have hfin : (t.take n).sum = t.sum := by rw [List.take_of_length_le (by have := HH.out.2; omega)]
      rw [hfin] at hk
      have c0 := hk.cell 0
      have f0 := hk.frozen 0
      have HK2 := Lib.hid hk
      clear hk hfin hbw
      go_wp2_with fail
      refine bodyPost_ret (v := .int .i64 (t.sum : Nat)) ?_ rfl ⟨rfl, HK.out.2.setCell (p := ⟨g, 0, none⟩) (by have := HG.out; show w.heap.size ≤ g; omega) _⟩
      have c1 := (HK2.out.set_ 0 (.int .i64 (t.sum : Nat))).cell 0
      simp at c1
      simp [results, Tryz.results53, go_sem, c1]
theorem choose_bd : ∀ n, n ≤ 8 → ∀ k, k ≤ n → 0 < choose n k ∧ choose n k ≤ 70 := by decide
theorem any_sum {t : List Nat} (h : t.any (fun x => decide (0 < x)) = true) : 0 < t.sum := by
  induction t with
  | nil => cases h
  | cons a l ih =>
    rw [List.sum_cons]
    rw [List.any_cons, Bool.or_eq_true] at h
    rcases h with h | h
    · have := of_decide_eq_true h; omega
    · have := ih h; omega
theorem tOk_sum {t : List Nat} {k : Nat} (h : tOk t k = true) : 0 < t.sum := by
  unfold tOk at h
  simp only [Bool.and_eq_true] at h
  exact any_sum h.2
theorem tOk_len {t : List Nat} {k : Nat} (h : tOk t k = true) : 1 ≤ k ∧ 1 ≤ t.length ∧ t.length ≤ k := by
  unfold tOk at h
  simp only [Bool.and_eq_true, decide_eq_true_eq] at h
  exact ⟨h.1.1.1, h.1.1.2, h.1.2⟩
def chanceQ (t : List Nat) (k d : Nat) : Q := qlow ((t.getD (d - 1) 0 : Nat) : Int) (choose k d * t.sum)
set_option maxRecDepth 100000 in
set_option maxHeartbeats 1000000 in
/-- row.Chance -/
theorem chance_any {w : World} {A : Option Addr} {n c k d : Nat} {t : List Nat} (h : Tb w A n t) (hk : k ≤ 8) (ht : tOk t k = true) (hd1 : 1 ≤ d) (hd : d ≤ n) : Calls Tryz.prog 22 #[.slice A n c, .int .i64 (k : Nat), .int .i64 (d : Nat)] w fun e w' => ∃ v, e = .returned (.tuple #[v, .int .i64 0]) ∧ QV w' v (chanceQ t k d) ∧ Below w.heap.size w w' := by
  have hl := h.2.1
  have hn3 := h.2.2.1
  obtain ⟨_, _, hlk⟩ := tOk_len ht
  have hdk : d ≤ k := by omega
  obtain ⟨q, rfl⟩ : ∃ q, d = q + 1 := ⟨d - 1, by omega⟩
  have hb0 : Below w.heap.size w (w.alloc (.cells #[.bool false, .slice none 0 0, .slice none 0 0] 40)) := (Below.refl _ _).alloc (Nat.le_refl _) _
  have k0 := Bk.newA w 40 #[.bool false, .slice none 0 0, .slice none 0 0]
  have hs1 := tOk_sum ht
  have hs2 := sum3 h.2.2.2 t.length
  rw [List.take_length] at hs2
  obtain ⟨hc1, hc2⟩ := choose_bd k hk (q + 1) hdk
  have hsb : choose k (q + 1) * t.sum ≤ 70 * 9 := Nat.mul_le_mul hc2 (by omega)
  have hsp : 0 < choose k (q + 1) * t.sum := Nat.mul_pos hc1 hs1
  obtain ⟨b, off, rfl, hbl, hcc⟩ := h.form (by omega)
  have hx := h.get (show q < n by omega)
  have hgd : t.getD q 0 = t[q]'(by omega) := by simp [List.getD_eq_getElem?_getD, show q < t.length by omega]
  have cq := hcc q (by omega)
  have hu1 := wrap_u (q := t[q]'(by omega)) (by omega)
  have hu2 := wrap_u (q := t.sum) (by omega)
  have HH := Lib.hid (And.intro h (And.intro hb0 (And.intro k0 (And.intro hk (And.intro hdk (And.intro hsb (And.intro hsp (And.intro hs1 (And.intro hs2 hc2)))))))))
  have HX := Lib.hid (And.intro hx (And.intro hgd (And.intro hbl (And.intro hl ht))))
  generalize (t[q]'(by omega)) = x at cq HX hu1
  obtain ⟨S, hS⟩ : ∃ S, t.sum = S := ⟨_, rfl⟩
  have HS := Lib.hid hS
  rw [hS] at hu2 HH
  have HC := Lib.hid (fun (W : World) (hb : Below w.heap.size w W) => solCheck_any (c := c) (h.below hb) (show k ≤ 65536 by omega))
  rw [chkN_yes ht] at HC
  have HT := Lib.hid (fun (W : World) (hb : Below w.heap.size w W) => solTotal_any (c := c) (h.below hb))
  rw [hS] at HT
  have d1 : decide (((q + 1 : Nat) : Int) < 1) = false := decide_eq_false (by omega)
  have d2 : decide (((q + 1 : Nat) : Int) > (n : Int)) = false := decide_eq_false (by omega)
  have d2' : decide ((n : Int) < ((q + 1 : Nat) : Int)) = false := decide_eq_false (by omega)
  have d2'' : decide (n < q + 1) = false := decide_eq_false (by omega)
  have hw : IntKind.i64.wrap (((q + 1 : Nat) : Int) - 1) = (q : Int) := by rw [IntKind.wrap_i64]; omega
  have hq0 : (0 : Int) ≤ (q : Int) := by omega
  have hqn : (q : Int) < (n : Int) := by omega
  have hq8 : ((q + 1 : Nat) : Int) ≤ 8 := by omega
  clear h hb0 k0 hk hdk hsb hsp hs1 hs2 hc1 hc2 hx hgd hcc hbl hl hlk ht hd1 hd hS
  go_enter Tryz.func22, Tryz.ntmps22
  go_wp2_with fail
  refine (HC.out _ HH.out.2.1).mono ?_
  rintro e w1 ⟨rfl, rfl⟩
  go_wp2_with fail
  refine (choose_any HH.out.2.2.2.1 HH.out.2.2.2.2.1).mono ?_
  rintro e w2 ⟨v2, rfl, hv2, hb2⟩
  have hb02 := below_base HH.out.2.1 hb2 HH.out.2.1.size
  have H2 := Lib.hid (And.intro hv2 (And.intro hb02 (HH.out.2.2.1.belowS hb2)))
  have cq2 : w2.cell? ⟨b, off + q, none⟩ = some (.int .i64 (x : Int)) := by rw [hb02.cell (p := ⟨b, off + q, none⟩) HX.out.2.2.1]; exact cq
  obtain ⟨A2, m2, c2, rfl⟩ := hv2.form
  clear hv2 hb2 hb02
  go_wp2_with fail
  refine (limbsOf_any x).mono ?_
  rintro e w3 ⟨v3, rfl, hv3, hb3⟩
  have H3 := Lib.hid (And.intro (H2.out.1.below hb3) (And.intro (below_base H2.out.2.1 hb3 H2.out.2.1.size) (And.intro (H2.out.2.2.belowS hb3) hv3)))
  obtain ⟨A3, m3, c3, rfl⟩ := hv3.form
  clear hv3 hb3 cq cq2
  go_wp2_with fail
  refine (sMake_any false H3.out.2.2.2).mono ?_
  rintro e w4 ⟨v4, rfl, hv4, hb4⟩
  have H4 := Lib.hid (And.intro (H3.out.1.below hb4) (And.intro (below_base H3.out.2.1 hb4 H3.out.2.1.size) (And.intro (H3.out.2.2.1.belowS hb4) hv4)))
  obtain ⟨b4, A4, m4, c4, rfl⟩ := hv4.form
  clear hv4 hb4
  go_wp2_with fail
  refine (HT.out _ H4.out.2.1).mono ?_
  rintro e w5 ⟨rfl, hb5⟩
  have H5 := Lib.hid (And.intro (H4.out.1.below hb5) (And.intro (below_base H4.out.2.1 hb5 H4.out.2.1.size) (And.intro (H4.out.2.2.1.belowS hb5) (H4.out.2.2.2.below hb5))))
  clear hb5
  go_wp2_with fail
  refine (grow_any (a := choose k (q + 1)) (x := S) H5.out.1 (by have := HH.out; omega) (by have := HH.out; omega) (by have := HH.out; have := HX.out; omega) (by have := HH.out; omega)).mono ?_
  rintro e w6 ⟨v6, rfl, hv6, hb6⟩
  have H6 := Lib.hid (And.intro (below_base H5.out.2.1 hb6 H5.out.2.1.size) (And.intro (H5.out.2.2.1.belowS hb6) (rMake_any (H5.out.2.2.2.below hb6) hv6 (by have := HH.out; omega) (by have := HX.out; show ((x : Nat) : Int).natAbs < _; rw [Int.natAbs_natCast]; omega) (by have := HH.out; omega))))
  obtain ⟨A6, m6, c6, rfl⟩ := hv6.form
  clear hv6 hb6
  go_wp2_with fail
  refine H6.out.2.2.mono ?_
  rintro e w7 ⟨v7, rfl, hv7, hb7⟩
  have hv7q : QV w7 v7 (chanceQ t k (q + 1)) := by
    unfold chanceQ
    rw [show q + 1 - 1 = q from rfl, HX.out.2.1, HS.out]
    exact hv7
  have k7 := H6.out.2.1.belowS hb7
  have hb07 := below_base H6.out.1 hb7 H6.out.1.size
  obtain ⟨r, rfl⟩ := hv7q.r3
  obtain ⟨_, _, _, s0, s1, s2⟩ := cells_rat k7
  have HF := Lib.hid (fin_rat k7 hv7q hb07 (Nat.le_refl _))
  clear hv7 hv7q k7 hb07 hb7
  unfold R3.v
  go_wp2_with fail
  refine bodyPost_ret (ret_rat2 rfl rfl HF.out.1) rfl ?_
  exact ⟨_, rfl, HF.out.2⟩
end Go.Proofs.YtlhipaffhehcnaaGreat
