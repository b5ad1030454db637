/- alias.Check and artesianref14.Check. -/
import Derived.Test.YtfcoeonabppjiaaCk14
import Derived.Test.YtfcoeonabppjiaaAl14
namespace Go.Proofs.Ytfcoeonabppjiaa
open Go.RowKit
set_option linter.unusedVariables false
theorem all_far {xs : List Int} {m : Int} : xs.any (far m) = !xs.all (fun x => decide (0 ≤ x) && decide (x ≤ m)) := by
  rw [List.all_eq_not_any_not, Bool.not_not]
  congr 1
  funext x
  by_cases h1 : x < 0
  · have h2 : ¬ 0 ≤ x := by omega
    simp [far, h1, h2]
  · have h2 : 0 ≤ x := by omega
    by_cases h3 : m < x
    · have h4 : ¬ x ≤ m := by omega
      simp [far, h1, h2, h3, h4]
    · have h4 : x ≤ m := by omega
      simp [far, h1, h2, h3, h4]
def chk (T : Int) (xs ys : List Int) : Int := bif alOk T xs ys then 0 else 6
theorem chk_no {T : Int} {xs ys : List Int} (h : ¬ (1 ≤ T ∧ T ≤ 1099511627776 ∧ 1 ≤ xs.length ∧ xs.length ≤ 65536 ∧ ys.length = xs.length)) : chk T xs ys = 6 := by
  have : alOk T xs ys = false := by
    cases e : alOk T xs ys with
    | false => rfl
    | true => have := (alOk_iff T xs ys).1 e; exact absurd ⟨this.1, this.2.1, this.2.2.1, this.2.2.2.1, this.2.2.2.2.1⟩ h
  unfold chk; rw [this]; rfl
theorem chk_far {T : Int} {xs ys : List Int} (h : 1 ≤ T ∧ T ≤ 1099511627776 ∧ 1 ≤ xs.length ∧ xs.length ≤ 65536 ∧ ys.length = xs.length) : chk T xs ys = bif (xs.any (far T) || ys.any (far ((xs.length : Int) - 1))) then 6 else 0 := by
  unfold chk alOk
  rw [all_far, all_far]
  simp only [h.1, h.2.1, h.2.2.1, h.2.2.2.1, h.2.2.2.2, decide_true, Bool.true_and]
  cases xs.all _ <;> cases ys.all _ <;> rfl
def CkS (w : World) (P : Nat) (T : Int) (A B : Option Addr) (n c m d : Nat) (xs ys : List Int) (w' : World) : Prop :=
  w'.cell? ⟨P, 0, none⟩ = some (.int .i64 T) ∧ w'.cell? ⟨P, 1, none⟩ = some (.slice A n c) ∧ w'.cell? ⟨P, 2, none⟩ = some (.slice B m d) ∧ P < w'.heap.size ∧ Rd w' A n (nums xs) ∧ Rd w' B m (nums ys) ∧ Below w.heap.size w w'
theorem CkS.below {w w1 w2 : World} {P n c m d : Nat} {T : Int} {A B : Option Addr} {xs ys : List Int} (h : CkS w P T A B n c m d xs ys w1) (hb : Below w1.heap.size w1 w2) : CkS w P T A B n c m d xs ys w2 :=
  ⟨(hb.cell (p := ⟨P, 0, none⟩) h.2.2.2.1).trans h.1, (hb.cell (p := ⟨P, 1, none⟩) h.2.2.2.1).trans h.2.1, (hb.cell (p := ⟨P, 2, none⟩) h.2.2.2.1).trans h.2.2.1, Nat.lt_of_lt_of_le h.2.2.2.1 hb.size, h.2.2.2.2.1.below hb, h.2.2.2.2.2.1.below hb, below_base h.2.2.2.2.2.2 hb h.2.2.2.2.2.2.size⟩
theorem CkS.alloc {w w1 : World} {P n c m d : Nat} {T : Int} {A B : Option Addr} {xs ys : List Int} (h : CkS w P T A B n c m d xs ys w1) (o : Obj) : CkS w P T A B n c m d xs ys (w1.alloc o) := h.below ((Below.refl _ _).alloc (Nat.le_refl _) _)
theorem CkS.drewN {w w1 : World} {P n c m d : Nat} {T : Int} {A B : Option Addr} {xs ys : List Int} (h : CkS w P T A B n c m d xs ys w1) (q : Nat) : CkS w P T A B n c m d xs ys (w1.drewN q) := ⟨h.1, h.2.1, h.2.2.1, h.2.2.2.1, h.2.2.2.2.1.drewN q, h.2.2.2.2.2.1.drewN q, below_dN h.2.2.2.2.2.2 q⟩
theorem CkS.drew {w w1 : World} {P n c m d : Nat} {T : Int} {A B : Option Addr} {xs ys : List Int} (h : CkS w P T A B n c m d xs ys w1) : CkS w P T A B n c m d xs ys w1.drew := h.drewN 1
theorem ckK {w w' : World} {P n c m d : Nat} {T : Int} {A B : Option Addr} {xs ys : List Int} (h : CkS w P T A B n c m d xs ys w') :
    w'.cell? ⟨P, 0, none⟩ = some (.int .i64 T) ∧ w'.cell? ⟨P, 1, none⟩ = some (.slice A n c) ∧ w'.cell? ⟨P, 2, none⟩ = some (.slice B m d) ∧ CkS w P T A B n c m d xs ys w' := ⟨h.1, h.2.1, h.2.2.1, h⟩
theorem chk_bad {T : Int} {xs ys : List Int} {k : Nat} (hk : k < xs.length) (h : ¬ (0 ≤ gi xs k ∧ gi xs k ≤ T ∧ 0 ≤ gi ys k ∧ gi ys k ≤ (xs.length : Int) - 1)) : chk T xs ys = 6 := by
  have : alOk T xs ys = false := by
    cases e : alOk T xs ys with
    | false => rfl
    | true =>
      have := (alOk_iff T xs ys).1 e
      have h1 := this.2.2.2.2.2.1 _ (gi_mem hk)
      have h2 := this.2.2.2.2.2.2 _ (gi_mem (l := ys) (i := k) (by rw [this.2.2.2.2.1]; exact hk))
      exact absurd ⟨h1.1, h1.2, h2.1, h2.2⟩ h
  unfold chk; rw [this]; rfl
theorem chk_good {T : Int} {xs ys : List Int} (h : 1 ≤ T ∧ T ≤ 1099511627776 ∧ 1 ≤ xs.length ∧ xs.length ≤ 65536 ∧ ys.length = xs.length) (hg : ∀ j, j < xs.length → 0 ≤ gi xs j ∧ gi xs j ≤ T ∧ 0 ≤ gi ys j ∧ gi ys j ≤ (xs.length : Int) - 1) : chk T xs ys = 0 := by
  have : alOk T xs ys = true := (alOk_iff T xs ys).2 ⟨h.1, h.2.1, h.2.2.1, h.2.2.2.1, h.2.2.2.2, fun x hx => by
    obtain ⟨i, hi, rfl⟩ := mem_gi hx
    exact ⟨(hg i hi).1, (hg i hi).2.1⟩, fun y hy => by
    obtain ⟨i, hi, rfl⟩ := mem_gi hy
    exact (hg i (by omega)).2.2⟩
  unfold chk; rw [this]; rfl
theorem ckS_new {w : World} {n c m d : Nat} {T : Int} {A B : Option Addr} {xs ys : List Int} (h1 : Rd w A n (nums xs)) (h2 : Rd w B m (nums ys)) :
    CkS w w.heap.size T A B n c m d xs ys (w.alloc (.cells #[.int .i64 T, .slice A n c, .slice B m d] 26)) := by
  have hb := (Below.refl w.heap.size w).alloc (Nat.le_refl _) (.cells #[.int .i64 T, .slice A n c, .slice B m d] 26)
  have hk := Bk.newA w 26 #[.int .i64 T, .slice A n c, .slice B m d]
  exact ⟨hk.cell 0, hk.cell 1, hk.cell 2, hk.lt, h1.below hb, h2.below hb, hb⟩
set_option maxRecDepth 100000 in
set_option maxHeartbeats 4000000 in
/-- alias.Check -/
theorem check_any {w : World} {v : Value} {T : Int} {xs ys : List Int} (h : Al w v T xs ys) :
    Calls Try.prog 16 #[v] w fun e w' => e = .returned (.int .i64 (chk T xs ys)) ∧ Below w.heap.size w w' := by
  obtain ⟨A, n, c, B, m, d, rfl, h1, h2, h3, h4⟩ := h
  have hx : xs.length = n := by have := h1.1; simpa [nums_length] using this
  have hy : ys.length = m := by have := h2.1; simpa [nums_length] using this
  have HR := Lib.hid (And.intro h1 (And.intro h2 (And.intro h3 (And.intro h4 (And.intro hx hy)))))
  have HS := Lib.hid (ckS_new (c := c) (d := d) (T := T) h1 h2)
  clear h1 h2 h3 h4 hx hy
  by_cases q0 : T < 1
  · have HN : Hid (chk T xs ys = 6) := Lib.hid (chk_no (by have := HR.out.2.2.2.2; omega))
    have d00 : decide (T < 1) = true := by simp; omega
    clear q0
    go_enter Try.func16, Try.ntmps16
    go_wp2
    go_ret
    exact ⟨ret_int HN.out.symm, HS.out.2.2.2.2.2.2⟩
  · have d00 : decide (T < 1) = false := by simp; omega
    by_cases q1 : T > 1099511627776
    · have HN : Hid (chk T xs ys = 6) := Lib.hid (chk_no (by have := HR.out.2.2.2.2; omega))
      have d10 : decide (T > 1099511627776) = true := by simp; omega
      have d11 : decide ((1099511627776 : Int) < T) = true := by simp; omega
      clear q1
      go_enter Try.func16, Try.ntmps16
      go_wp2
      go_ret
      exact ⟨ret_int HN.out.symm, HS.out.2.2.2.2.2.2⟩
    · have d10 : decide (T > 1099511627776) = false := by simp; omega
      have d11 : decide ((1099511627776 : Int) < T) = false := by simp; omega
      by_cases q2 : n < 1
      · have HN : Hid (chk T xs ys = 6) := Lib.hid (chk_no (by have := HR.out.2.2.2.2; omega))
        have d20 : decide ((n : Int) < 1) = true := by simp; omega
        clear q2
        go_enter Try.func16, Try.ntmps16
        go_wp2
        go_ret
        exact ⟨ret_int HN.out.symm, HS.out.2.2.2.2.2.2⟩
      · have d20 : decide ((n : Int) < 1) = false := by simp; omega
        by_cases q3 : n > 65536
        · have HN : Hid (chk T xs ys = 6) := Lib.hid (chk_no (by have := HR.out.2.2.2.2; omega))
          have d30 : decide ((n : Int) > 65536) = true := by simp; omega
          have d31 : decide ((65536 : Int) < (n : Int)) = true := by simp; omega
          clear q3
          go_enter Try.func16, Try.ntmps16
          go_wp2
          go_ret
          exact ⟨ret_int HN.out.symm, HS.out.2.2.2.2.2.2⟩
        · have d30 : decide ((n : Int) > 65536) = false := by simp; omega
          have d31 : decide ((65536 : Int) < (n : Int)) = false := by simp; omega
          by_cases q5 : m = n
          · subst q5
            have d50 : ((m : Int) != (m : Int)) = false := by simp
            have HC := Lib.hid (chk_far (T := T) (xs := xs) (ys := ys) (by have := HR.out.2.2.2.2; omega))
            have n63 : (m : Int) ≤ 65536 := by omega
            have n1 : (1 : Int) ≤ (m : Int) := by omega
            clear q0 q1 q2 q3
            go_enter Try.func16, Try.ntmps16
            go_wp2_with fail
            generalize w.alloc (.cells #[.int .i64 T, .slice A m c, .slice B m d] 26) = w1 at HS ⊢
            have HLX : Hid (xs.length = m) := Lib.hid (by have := HR.out.2.2.2.2; omega)
            have hwr : IntKind.i64.wrap ((m : Int) - 1) = (m : Int) - 1 := by rw [IntKind.wrap_i64]; omega
            cases hA : xs.any (far T) with
            | true =>
              have HA := Lib.hid hA
              clear hA
              have c0 := HS.out.1
              have c1 := HS.out.2.1
              have c2 := HS.out.2.2.1
              go_cut [46] (fun s46 wx => s46 = .bool true ∧ CkS w w.heap.size T A B m c m d xs ys wx)
              case first =>
                go_region_with (first | (go_at_call 33; refine farMake_any.mono ?_; rintro e w' ⟨b1, rfl, hk, hbb⟩; have hS1 := (CkS.below (by first | exact S1.out | exact HS.out | exact HS.out.drew) hbb); have k0 := hS1.1; have k1 := hS1.2.1; have k2 := hS1.2.2.1; have S1 := Lib.hid hS1; clear hS1; have B1 := Lib.hid hk; clear hk hbb) | (go_at_call 35; refine (containsFar_any (xs := xs) (m := T) (by exact S1.out.2.2.2.2.1) (by omega) (by exact B1.out.cell 0)).mono ?_; rintro e w' ⟨rfl, rfl⟩; rw [HA.out]; dsimp only; rename_i hKx; refine hKx _ _ ?_; refine wpAny_take (i := 7) (v := Value.bool true) rfl (by kernel_rfl) (by kernel_rfl) (by kernel_rfl) (fun _ _ _ h => h) (Or.inl ⟨by rfl, fun w => by rfl⟩) ?_; go_simp; refine wpAny_take (i := 8) (v := undef) rfl (by kernel_rfl) (by kernel_rfl) (by kernel_rfl) (fun _ _ _ h => h) (Or.inr ⟨by rfl, rfl⟩) ?_; go_simp; refine wpAny_take (i := 9) (v := undef) rfl (by kernel_rfl) (by kernel_rfl) (by kernel_rfl) (fun _ _ _ h => h) (Or.inr ⟨by rfl, rfl⟩) ?_; go_simp; refine wpAny_take (i := 10) (v := undef) rfl (by kernel_rfl) (by kernel_rfl) (by kernel_rfl) (fun _ _ _ h => h) (Or.inr ⟨by rfl, rfl⟩) ?_; go_simp; refine wpAny_take (i := 11) (v := undef) rfl (by kernel_rfl) (by kernel_rfl) (by kernel_rfl) (fun _ _ _ h => h) (Or.inr ⟨by rfl, rfl⟩) ?_; go_simp; refine wpAny_take (i := 12) (v := undef) rfl (by kernel_rfl) (by kernel_rfl) (by kernel_rfl) (fun _ _ _ h => h) (Or.inr ⟨by rfl, rfl⟩) ?_; go_simp; refine wpAny_take (i := 13) (v := undef) rfl (by kernel_rfl) (by kernel_rfl) (by kernel_rfl) (fun _ _ _ h => h) (Or.inr ⟨by rfl, rfl⟩) ?_; go_simp; refine wpAny_take (i := 14) (v := undef) rfl (by kernel_rfl) (by kernel_rfl) (by kernel_rfl) (fun _ _ _ h => h) (Or.inr ⟨by rfl, rfl⟩) ?_; go_simp; refine wpAny_take (i := 15) (v := Value.bool true) rfl (by kernel_rfl) (by kernel_rfl) (by kernel_rfl) (fun _ _ _ h => h) (Or.inl ⟨by rfl, fun w => by rfl⟩) ?_; go_simp))
                all_goals go_wp2_with fail
                all_goals go_meet
                all_goals exact ⟨rfl, S1.out⟩
              case rest =>
                obtain ⟨rfl, hcs⟩ := hcut
                have HCS := Lib.hid hcs
                clear hcs
                go_wp2
                go_ret
                exact ⟨ret_int (by rw [HC.out, HA.out]; rfl), HCS.out.2.2.2.2.2.2⟩
            | false =>
              have HA := Lib.hid hA
              clear hA
              obtain ⟨y, hy⟩ : ∃ y, y = ys.any (far ((m : Int) - 1)) := ⟨_, rfl⟩
              have HBB := Lib.hid hy.symm
              clear hy
              cases y with
              | true =>
                go_cut [46] (fun s46 wx => s46 = .bool true ∧ CkS w w.heap.size T A B m c m d xs ys wx)
                case first =>
                  first | (go_region_held3 (fun w' => w'.cell? ⟨w.heap.size, 0, none⟩ = some (.int .i64 T) ∧ w'.cell? ⟨w.heap.size, 1, none⟩ = some (.slice A m c) ∧ w'.cell? ⟨w.heap.size, 2, none⟩ = some (.slice B m d) ∧ CkS w w.heap.size T A B m c m d xs ys w') (first | exact ckK S1.out | exact ckK HS.out | exact ckK HS.out.drew) ((first | (go_at_call 33; refine farMake_any.mono ?_; rintro e w' ⟨b1, rfl, hk, hbb⟩; have S1 := Lib.hid (CkS.below (by first | exact S1.out | exact HS.out | exact HS.out.drew) hbb); have B1 := Lib.hid hk; clear hk hbb) | (go_at_call 35; refine (containsFar_any (xs := xs) (m := T) (by exact S1.out.2.2.2.2.1) (by omega) (by exact B1.out.cell 0)).mono ?_; rintro e w' ⟨rfl, rfl⟩; rw [HA.out]) | (go_at_call 35; refine (containsFar_any (xs := ys) (m := (m : Int) - 1) (by exact S1.out.2.2.2.2.2.1) (by omega) (by exact B1.out.cell 0)).mono ?_; rintro e w' ⟨rfl, rfl⟩; rw [HBB.out])))) | fail
                  all_goals go_wp2_with fail
                  all_goals go_meet
                  all_goals exact ⟨rfl, S1.out⟩
                case rest =>
                  obtain ⟨rfl, hcs⟩ := hcut
                  have HCS := Lib.hid hcs
                  clear hcs
                  go_wp2
                  go_ret
                  exact ⟨ret_int (by rw [HC.out, HA.out, HLX.out, HBB.out]; rfl), HCS.out.2.2.2.2.2.2⟩
              | false =>
                go_cut [46] (fun s46 wx => s46 = .bool false ∧ CkS w w.heap.size T A B m c m d xs ys wx)
                case first =>
                  first | (go_region_held3 (fun w' => w'.cell? ⟨w.heap.size, 0, none⟩ = some (.int .i64 T) ∧ w'.cell? ⟨w.heap.size, 1, none⟩ = some (.slice A m c) ∧ w'.cell? ⟨w.heap.size, 2, none⟩ = some (.slice B m d) ∧ CkS w w.heap.size T A B m c m d xs ys w') (first | exact ckK S1.out | exact ckK HS.out | exact ckK HS.out.drew) ((first | (go_at_call 33; refine farMake_any.mono ?_; rintro e w' ⟨b1, rfl, hk, hbb⟩; have S1 := Lib.hid (CkS.below (by first | exact S1.out | exact HS.out | exact HS.out.drew) hbb); have B1 := Lib.hid hk; clear hk hbb) | (go_at_call 35; refine (containsFar_any (xs := xs) (m := T) (by exact S1.out.2.2.2.2.1) (by omega) (by exact B1.out.cell 0)).mono ?_; rintro e w' ⟨rfl, rfl⟩; rw [HA.out]) | (go_at_call 35; refine (containsFar_any (xs := ys) (m := (m : Int) - 1) (by exact S1.out.2.2.2.2.2.1) (by omega) (by exact B1.out.cell 0)).mono ?_; rintro e w' ⟨rfl, rfl⟩; rw [HBB.out])))) | fail
                  all_goals go_wp2_with fail
                  all_goals go_meet
                  all_goals exact ⟨rfl, S1.out⟩
                case rest =>
                  obtain ⟨rfl, hcs⟩ := hcut
                  have HCS := Lib.hid hcs
                  clear hcs
                  go_wp2
                  go_ret
                  exact ⟨ret_int (by rw [HC.out, HA.out, HLX.out, HBB.out]; rfl), HCS.out.2.2.2.2.2.2⟩
          · have HN : Hid (chk T xs ys = 6) := Lib.hid (chk_no (by have := HR.out.2.2.2.2; omega))
            have d50 : ((m : Int) != (n : Int)) = true := by simp; omega
            clear q0 q1 q2 q3 q5
            go_enter Try.func16, Try.ntmps16
            go_wp2
            go_ret
            exact ⟨ret_int HN.out.symm, HS.out.2.2.2.2.2.2⟩
set_option maxRecDepth 100000 in
set_option maxHeartbeats 4000000 in
/-- artesianref14.Check -/
theorem refCheck_any {w : World} {v : Value} {T : Int} {xs ys : List Int} (h : Al w v T xs ys) :
    Calls Try.prog 22 #[v] w fun e w' => e = .returned (.int .i64 (chk T xs ys)) ∧ Below w.heap.size w w' := by
  obtain ⟨A, n, c, B, m, d, rfl, h1, h2, h3, h4⟩ := h
  have hx : xs.length = n := by have := h1.1; simpa [nums_length] using this
  have hy : ys.length = m := by have := h2.1; simpa [nums_length] using this
  have HR := Lib.hid (And.intro h1 (And.intro h2 (And.intro h3 (And.intro h4 (And.intro hx hy)))))
  have HS := Lib.hid (ckS_new (c := c) (d := d) (T := T) h1 h2)
  clear h1 h2 h3 h4 hx hy
  by_cases q0 : T < 1
  · have HN : Hid (chk T xs ys = 6) := Lib.hid (chk_no (by have := HR.out.2.2.2.2; omega))
    have d00 : decide (T < 1) = true := by simp; omega
    clear q0
    go_enter Try.func22, Try.ntmps22
    go_wp2
    go_ret
    exact ⟨ret_int HN.out.symm, HS.out.2.2.2.2.2.2⟩
  · have d00 : decide (T < 1) = false := by simp; omega
    by_cases q1 : T > 1099511627776
    · have HN : Hid (chk T xs ys = 6) := Lib.hid (chk_no (by have := HR.out.2.2.2.2; omega))
      have d10 : decide (T > 1099511627776) = true := by simp; omega
      have d11 : decide ((1099511627776 : Int) < T) = true := by simp; omega
      clear q1
      go_enter Try.func22, Try.ntmps22
      go_wp2
      go_ret
      exact ⟨ret_int HN.out.symm, HS.out.2.2.2.2.2.2⟩
    · have d10 : decide (T > 1099511627776) = false := by simp; omega
      have d11 : decide ((1099511627776 : Int) < T) = false := by simp; omega
      by_cases q2 : n < 1
      · have HN : Hid (chk T xs ys = 6) := Lib.hid (chk_no (by have := HR.out.2.2.2.2; omega))
        have d20 : decide ((n : Int) < 1) = true := by simp; omega
        clear q2
        go_enter Try.func22, Try.ntmps22
        go_wp2
        go_ret
        exact ⟨ret_int HN.out.symm, HS.out.2.2.2.2.2.2⟩
      · have d20 : decide ((n : Int) < 1) = false := by simp; omega
        by_cases q3 : n > 65536
        · have HN : Hid (chk T xs ys = 6) := Lib.hid (chk_no (by have := HR.out.2.2.2.2; omega))
          have d30 : decide ((n : Int) > 65536) = true := by simp; omega
          have d31 : decide ((65536 : Int) < (n : Int)) = true := by simp; omega
          clear q3
          go_enter Try.func22, Try.ntmps22
          go_wp2
          go_ret
          exact ⟨ret_int HN.out.symm, HS.out.2.2.2.2.2.2⟩
        · have d30 : decide ((n : Int) > 65536) = false := by simp; omega
          have d31 : decide ((65536 : Int) < (n : Int)) = false := by simp; omega
          by_cases q5 : m = n
          · subst q5
            have d50 : ((m : Int) != (m : Int)) = false := by simp
            have HC := Lib.hid (chk_far (T := T) (xs := xs) (ys := ys) (by have := HR.out.2.2.2.2; omega))
            have n63 : (m : Int) ≤ 65536 := by omega
            have n1 : (1 : Int) ≤ (m : Int) := by omega
            clear q0 q1 q2 q3
            go_enter Try.func22, Try.ntmps22
            have HLX : Hid (xs.length = m ∧ ys.length = m) := Lib.hid (by have := HR.out.2.2.2.2; exact ⟨this.1, this.2⟩)
            have HTB : Hid (1 ≤ T ∧ T ≤ 1099511627776 ∧ 1 ≤ m ∧ m ≤ 65536) := Lib.hid (by simp at d00 d10 d20 d30; omega)
            go_wp2
            generalize w.alloc (.cells #[.int .i64 T, .slice A m c, .slice B m d] 26) = w1 at HS ⊢
            go_loopw [4] (fun i wr => ∃ (k : Nat), k ≤ m ∧ i = .int .i64 k ∧ (∀ j, j < k → 0 ≤ gi xs j ∧ gi xs j ≤ T ∧ 0 ≤ gi ys j ∧ gi ys j ≤ (xs.length : Int) - 1) ∧ CkS w w.heap.size T A B m c m d xs ys wr) (fun i wr => m - (intOf i).toNat)
            case atStart => exact ⟨0, by omega, rfl, fun j hj => by omega, HS.out⟩
            case round =>
              clear HS
              obtain ⟨k, hk, rfl, hall, hS⟩ := hrel
              have HA := Lib.hid (And.intro hall hS)
              clear hall
              by_cases hlt : k < m
              · obtain ⟨a, off, rfl, hbl, hc⟩ := hS.2.2.2.2.1.form (by omega)
                obtain ⟨a', off', rfl, hbl', hc'⟩ := hS.2.2.2.2.2.1.form (by omega)
                have hkx : k < xs.length := by have := HLX.out; omega
                have hky : k < ys.length := by have := HLX.out; omega
                have cx := hc k _ (nums_gi hkx)
                have cy := hc' k _ (nums_gi hky)
                have c0 := hS.1
                have c1 := hS.2.1
                have c2 := hS.2.2.1
                have km : (k : Int) < (m : Int) := by omega
                have HL := Lib.hid (And.intro hlt hkx)
                clear hc hbl hc' hbl' hk hlt hkx hky hS
                by_cases p1 : gi xs k < 0
                · have e1 : decide (gi xs k < 0) = true := by simpa using p1
                  have HE : Hid (chk T xs ys = 6) := Lib.hid (chk_bad HL.out.2 (by omega))
                  clear p1
                  go_wp2_with fail
                  go_quiet (fail)
                  go_wp2
                  go_ret
                  exact ⟨ret_int HE.out.symm, below_dN HA.out.2.2.2.2.2.2.2 _⟩
                · have e1 : decide (gi xs k < 0) = false := by simpa using p1
                  by_cases p2 : gi xs k > T
                  · have e2 : decide (gi xs k > T) = true := by simpa using p2
                    have e3 : decide (T < gi xs k) = true := by simpa using p2
                    have HE : Hid (chk T xs ys = 6) := Lib.hid (chk_bad HL.out.2 (by omega))
                    clear p1 p2
                    go_wp2_with fail
                    go_quiet (fail)
                    go_wp2
                    go_ret
                    exact ⟨ret_int HE.out.symm, below_dN HA.out.2.2.2.2.2.2.2 _⟩
                  · have e2 : decide (gi xs k > T) = false := by simpa using p2
                    have e3 : decide (T < gi xs k) = false := by simpa using p2
                    by_cases p3 : gi ys k < 0
                    · have e4 : decide (gi ys k < 0) = true := by simpa using p3
                      have HE : Hid (chk T xs ys = 6) := Lib.hid (chk_bad HL.out.2 (by omega))
                      clear p1 p2 p3
                      go_wp2_with fail
                      go_quiet (fail)
                      go_wp2
                      go_ret
                      exact ⟨ret_int HE.out.symm, below_dN HA.out.2.2.2.2.2.2.2 _⟩
                    · have e4 : decide (gi ys k < 0) = false := by simpa using p3
                      by_cases p4 : gi ys k ≥ (m : Int)
                      · have e5 : decide (gi ys k ≥ (m : Int)) = true := by simpa using p4
                        have e6 : decide ((m : Int) ≤ gi ys k) = true := by simpa using p4
                        have HE : Hid (chk T xs ys = 6) := Lib.hid (chk_bad HL.out.2 (by have := HLX.out; omega))
                        clear p1 p2 p3 p4
                        go_wp2_with fail
                        go_quiet (fail)
                        go_wp2
                        go_ret
                        exact ⟨ret_int HE.out.symm, below_dN HA.out.2.2.2.2.2.2.2 _⟩
                      · have e5 : decide (gi ys k ≥ (m : Int)) = false := by simpa using p4
                        have e6 : decide ((m : Int) ≤ gi ys k) = false := by simpa using p4
                        have HE : Hid (0 ≤ gi xs k ∧ gi xs k ≤ T ∧ 0 ≤ gi ys k ∧ gi ys k ≤ (xs.length : Int) - 1) := Lib.hid (by have := HLX.out; omega)
                        clear p1 p2 p3 p4
                        go_wp2_with fail
                        go_quiet (fail)
                        go_wp2
                        refine ⟨⟨k + 1, by have := HL.out; omega, by go_num, fun j hj => ?_, HA.out.2.drewN _⟩, by have := HL.out; simp [intOf]; omega⟩
                        rcases (show j < k ∨ j = k from by omega) with z | z
                        · exact HA.out.1 j z
                        · subst z; exact HE.out
              · obtain rfl : k = m := by omega
                have HE : Hid (chk T xs ys = 0) := Lib.hid (chk_good (by have := HLX.out; have := HTB.out; omega) (by intro j hj; exact HA.out.1 j (by have := HLX.out; omega)))
                clear hlt hk hS
                go_wp2
                go_ret
                exact ⟨ret_int HE.out.symm, HA.out.2.2.2.2.2.2.2⟩
          · have HN : Hid (chk T xs ys = 6) := Lib.hid (chk_no (by have := HR.out.2.2.2.2; omega))
            have d50 : ((m : Int) != (n : Int)) = true := by simp; omega
            clear q0 q1 q2 q3 q5
            go_enter Try.func22, Try.ntmps22
            go_wp2
            go_ret
            exact ⟨ret_int HN.out.symm, HS.out.2.2.2.2.2.2⟩
end Go.Proofs.Ytfcoeonabppjiaa
