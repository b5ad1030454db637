/- Chapter 21: what a decoder tells. -/
import Derived.Test.YtidoembkcaojoaaAc21
namespace Go.Proofs.Ytidoembkcaojoaa
open Go.RowKit Go.Maps
set_option linter.unusedVariables false
section
variable {w w' : World} {base D : Nat} {m : DM} {d : DS} {F : Nat → Prop}
theorem packets_dp (h : Dp w base D m (d.dc []) F) : Calls Try.prog 19 #[.pointer (some ⟨D, 0, none⟩)] w fun e w' => e = .returned (.int .i64 (d.sets.length : Nat)) ∧ w = w' := by
  have c0 := h.c0
  have H := Lib.hid h
  clear h
  go_enter Try.func19, Try.ntmps19
  go_wp2_with fail
  refine (dnone_made c0).mono ?_
  rintro e w1 ⟨rfl, rfl⟩
  go_wp2_with fail
  refine (packets_gr H.out.gr).mono ?_
  rintro e w1 ⟨rfl, rfl⟩
  go_wp2_with fail
  go_ret
  exact ⟨rfl, rfl⟩
theorem left_dp (h : Dp w base D m (d.dc []) F) : Calls Try.prog 34 #[.pointer (some ⟨D, 0, none⟩)] w fun e w' => e = .returned (.int .i64 (unk d.kn : Nat)) ∧ w = w' := by
  have c0 := h.c0
  have H := Lib.hid h
  clear h
  go_enter Try.func34, Try.ntmps34
  go_wp2_with fail
  refine (dnone_made c0).mono ?_
  rintro e w1 ⟨rfl, rfl⟩
  go_wp2_with fail
  refine (unknown_gr H.out.gr).mono ?_
  rintro e w1 ⟨rfl, rfl⟩
  go_wp2_with fail
  go_ret
  exact ⟨rfl, rfl⟩
theorem done_dp (h : Dp w base D m (d.dc []) F) : Calls Try.prog 35 #[.pointer (some ⟨D, 0, none⟩)] w fun e w' => e = .returned (.bool (unk d.kn == 0)) ∧ w = w' := by
  have c0 := h.c0
  have H := Lib.hid h
  clear h
  obtain ⟨u, hu⟩ : ∃ u, unk d.kn = u := ⟨_, rfl⟩
  have HU := Lib.hid hu
  go_enter Try.func35, Try.ntmps35
  go_wp2_with fail
  refine (dnone_made c0).mono ?_
  rintro e w1 ⟨rfl, rfl⟩
  go_wp2_with fail
  refine (left_dp H.out).mono ?_
  rintro e w1 ⟨rfl, rfl⟩
  rw [HU.out]
  go_wp2_with fail
  go_ret
  refine ⟨ret_bool ?_, rfl⟩
  rw [HU.out, Bool.eq_iff_iff]
  simp
def syR (d : DS) (i : Int) : List UInt8 × Int := if 0 ≤ i ∧ i < d.k then (if knw d.kn i then (xv d.vals i, 0) else ([], 10)) else ([], 3)
def SyPost (w : World) (l : List UInt8) (x : Int) (e : Ending) (w' : World) : Prop :=
  ∃ v, e = .returned (.tuple #[v, .int .i64 x]) ∧ w'.ownsRow w.heap.size 5 1 v l.length (bys l) ∧ Below w.heap.size w w'
set_option maxRecDepth 100000 in
set_option maxHeartbeats 1600000 in
theorem symbol_dp (h : Dp w base D m (d.dc []) F) (hd : d.ok) (i : Int) : Calls Try.prog 21 #[.pointer (some ⟨D, 0, none⟩), .int .i64 i] w (SyPost w (syR d i).1 (syR d i).2) := by
  have c0 := h.c0
  have c4 : w.cell? ⟨D, 4, none⟩ = some (.slice (some ⟨m.SB, 0, none⟩) d.k d.k) := h.c4
  have hks := hd.k1
  by_cases h1 : i < 0
  · have d1 : decide (i < 0) = true := decide_eq_true h1
    have HE := Lib.hid (show syR d i = ([], 3) from by unfold syR; rw [if_neg (by omega)])
    clear h h1
    go_enter Try.func21, Try.ntmps21
    go_wp2_with fail
    refine (dnone_made c0).mono ?_
    rintro e w1 ⟨rfl, rfl⟩
    go_wp2_with fail
    go_ret2
    rw [HE.out]
    exact ⟨_, rfl, World.ownsRow_nil _ _ _ _, Below.refl _ _⟩
  · have d1 : decide (i < 0) = false := decide_eq_false h1
    obtain ⟨x, rfl⟩ : ∃ x : Nat, i = x := ⟨i.toNat, by omega⟩
    by_cases h2 : x < d.k
    · have d2 : decide ((x : Int) ≥ (d.k : Int)) = false := decide_eq_false (by omega)
      have d3 : decide ((d.k : Int) ≤ (x : Int)) = false := decide_eq_false (by omega)
      have d4 : decide (d.k ≤ x) = false := decide_eq_false (by omega)
      have xk : (x : Int) < (d.k : Int) := by omega
      have x0 : (0 : Int) ≤ (x : Int) := by omega
      have cs := h.symc (show x < (d.dc []).k from h2)
      cases hk : knw d.kn (x : Int) with
      | true =>
        obtain ⟨gs, cq, _, hsy, _, _, hrd⟩ := h.symk (show x < (d.dc []).k from h2) hk
        rw [hsy] at cs
        have HE := Lib.hid (show syR d (x : Int) = (xv d.vals (x : Int), 0) from by unfold syR; rw [if_pos (by omega), hk]; rfl)
        have hq := fun w => Lib.run_eql_slice_nil (P := Try.prog) w 22 5 (some (⟨gs, 0, none⟩ : Addr)) (d.dc []).s cq 0 0 Try.underlying22
        have hq' : ∀ w, (binOp .eql 22 (.slice (some ⟨gs, 0, none⟩) (d.dc []).s cq) (.slice none 0 0)).run Try.prog w = .ok (.bool false) w := hq
        have HR := Lib.hid (And.intro hrd (hd.vs x h2 hk))
        have hs2 : d.s ≤ 65535 := hd.s1.2
        clear h h1 h2 hsy hq hrd
        go_enter Try.func21, Try.ntmps21
        go_wp2_with fail
        refine (dnone_made c0).mono ?_
        rintro e w1 ⟨rfl, rfl⟩
        go_wp2_with fail
        refine (clone_any HR.out.1 (by show d.s ≤ _; omega)).mono ?_
        rintro e w4 ⟨v4, rfl, ho4, hb4⟩
        have H4 := Lib.hid (And.intro ho4 hb4)
        clear ho4 hb4
        go_wp2_with fail
        go_ret2
        rw [HE.out]
        refine ⟨_, rfl, ?_, H4.out.2⟩
        have : xv d.vals (x : Int) = d.vals.getD x [] := by unfold xv; rw [Int.toNat_natCast]
        rw [this, HR.out.2]
        exact H4.out.1
      | false =>
        rw [Dp.symn (c := d.dc []) (m := m) hk] at cs
        have HE := Lib.hid (show syR d (x : Int) = ([], 10) from by unfold syR; rw [if_pos (by omega), hk]; rfl)
        have hq : ∀ w, (binOp .eql 22 (.slice none 0 0) (.slice none 0 0)).run Try.prog w = .ok (.bool true) w := fun w => Lib.run_eql_slice_nil (P := Try.prog) w 22 5 none 0 0 0 0 Try.underlying22
        clear h h1 h2 hk
        go_enter Try.func21, Try.ntmps21
        go_wp2_with fail
        refine (dnone_made c0).mono ?_
        rintro e w1 ⟨rfl, rfl⟩
        go_wp2_with fail
        go_ret2
        rw [HE.out]
        exact ⟨_, rfl, World.ownsRow_nil _ _ _ _, Below.refl _ _⟩
    · have d2 : decide ((x : Int) ≥ (d.k : Int)) = true := decide_eq_true (by omega)
      have d3 : decide ((d.k : Int) ≤ (x : Int)) = true := decide_eq_true (by omega)
      have d4 : decide (d.k ≤ x) = true := decide_eq_true (by omega)
      have HE := Lib.hid (show syR d (x : Int) = ([], 3) from by unfold syR; rw [if_neg (by omega)])
      clear h h1 h2
      go_enter Try.func21, Try.ntmps21
      go_wp2_with fail
      refine (dnone_made c0).mono ?_
      rintro e w1 ⟨rfl, rfl⟩
      go_wp2_with fail
      go_ret2
      rw [HE.out]
      exact ⟨_, rfl, World.ownsRow_nil _ _ _ _, Below.refl _ _⟩
def knF (kn : List Bool) (j : Nat) : List Int := ((List.range j).filter fun i : Nat => knw kn (i : Int)).map fun i : Nat => (i : Int)
def knL (kn : List Bool) : List Int := knF kn kn.length
theorem knF_succ (kn : List Bool) (j : Nat) : knF kn (j + 1) = knF kn j ++ (if knw kn (j : Int) then [(j : Int)] else []) := by
  unfold knF
  rw [List.range_succ, List.filter_append, List.map_append]
  congr 1
  cases hk : knw kn (j : Int) <;> simp [hk]
theorem knF_le (kn : List Bool) (j : Nat) : (knF kn j).length ≤ j := by
  unfold knF
  rw [List.length_map]
  exact Nat.le_trans (List.length_filter_le _ _) (by simp)
set_option maxRecDepth 100000 in
set_option maxHeartbeats 1600000 in
theorem known_dp (h : Dp w base D m (d.dc []) F) (hd : d.ok) : Calls Try.prog 18 #[.pointer (some ⟨D, 0, none⟩)] w fun e w' => ∃ v, e = .returned v ∧ w'.ownsRow w.heap.size 3 1 v (knL d.kn).length (nums (knL d.kn)) ∧ Below w.heap.size w w' := by
  obtain ⟨i0, hi0, hz0, hz1, hz2⟩ := info_parts u3_info
  have c0 := h.c0
  have c4 : w.cell? ⟨D, 4, none⟩ = some (.slice (some ⟨m.SB, 0, none⟩) d.k d.k) := h.c4
  have hk9 : d.k ≤ 100 := hd.k1.2
  have H := Lib.hid (And.intro h hd.kl)
  clear h hd
  go_enter Try.func18, Try.ntmps18
  go_wp2_with fail
  refine (dnone_made c0).mono ?_
  rintro e w1 ⟨rfl, rfl⟩
  go_wp2_with fail
  go_loopw [2, 12] (fun v q wr => ∃ j : Nat, j ≤ d.k ∧ q = .int .i64 j ∧ wr.ownsRow w.heap.size 3 1 v (knF d.kn j).length (nums (knF d.kn j)) ∧ Below w.heap.size w wr) (fun v q wr => d.k - (intOf q).toNat)
  case atStart => exact ⟨0, by omega, rfl, World.ownsRow_nil _ _ _ _, Below.refl _ _⟩
  case round =>
    obtain ⟨j, hj, rfl, how, hb⟩ := hrel
    by_cases hlt : j < d.k
    · have km : (j : Int) < (d.k : Int) := by omega
      have kd : decide ((j : Int) < (d.k : Int)) = true := decide_eq_true km
      have kd' : decide (j < d.k) = true := decide_eq_true hlt
      have j0 : (0 : Int) ≤ (j : Int) := by omega
      have hD := H.out.1.below hb
      have cs := hD.symc (show j < (d.dc []).k from hlt)
      have hF := knF_succ d.kn j
      have hle := knF_le d.kn j
      obtain ⟨L, hL⟩ : ∃ L, knF d.kn j = L := ⟨_, rfl⟩
      rw [hL] at how hF hle
      obtain ⟨r, hr⟩ : ∃ r, L.length = r := ⟨_, rfl⟩
      rw [hr] at how hle
      have hr9 : r ≤ 100 := by omega
      cases hk : knw d.kn (j : Int) with
      | true =>
        obtain ⟨gs, cq, _, hsy, _, _, _⟩ := hD.symk (show j < (d.dc []).k from hlt) hk
        rw [hsy] at cs
        have hq := fun w => neq_some ⟨gs, 0, none⟩ (d.dc []).s cq w
        rw [hk, if_pos rfl] at hF
        have HW := Lib.hid (And.intro how (And.intro hb (And.intro hF (And.intro hr hlt))))
        clear how hb hF hL hr hlt hle hsy hD hk
        go_wp2_with (at_builtin; refine wpList_append_rd _ rfl (.tmp 19) (.tmp 21) _ rfl w.heap.size 3 i0 _ 1 8 Try.underlying23 hi0 hz0 hz1 hz2 rfl (by omega) _ r (nums L) rfl (own_below HW.out.1 ((Below.refl _ _).alloc (Nat.le_refl _) _)) (some ⟨wr.heap.size, 0, none⟩) 1 1 (nums [(j : Int)]) rfl (Rd.lit _ _ _ _ rfl 1 rfl _ rfl) (nums_one _) (by simp only [maxLen]; omega) (by omega) (by have := HW.out.2.1.size; rw [World.size_alloc]; omega) ?_; intro v1 w3 hown1 hg1 hat1; rw [← nums_append] at hown1)
        have hS : Chg (fun k => u2.ownBlock = some k) wr w3 := ((Chg.refl _ wr).alloc _).trans (Chg.of_grown hg1 (S := fun k => u2.ownBlock = some k) fun k e => e) fun _ _ x => x
        have hb3 := hS.below HW.out.2.1 (fun b _ e => (HW.out.1.lt b e).1) HW.out.2.1.size
        exact ⟨⟨j + 1, HW.out.2.2.2.2, by go_num, by rw [HW.out.2.2.1, List.length_append, HW.out.2.2.2.1]; exact hown1, hb3⟩, by have := HW.out.2.2.2.2; simp [intOf]; omega⟩
      | false =>
        rw [Dp.symn (c := d.dc []) (m := m) hk] at cs
        have hq := neq_none
        rw [hk, if_neg (by simp), List.append_nil] at hF
        have HW := Lib.hid (And.intro how (And.intro hb (And.intro hF (And.intro hr hlt))))
        clear how hb hF hL hr hlt hle hD hk
        go_wp2_with fail
        exact ⟨⟨j + 1, HW.out.2.2.2.2, by go_num, by rw [HW.out.2.2.1, HW.out.2.2.2.1]; exact HW.out.1, HW.out.2.1⟩, by have := HW.out.2.2.2.2; simp [intOf]; omega⟩
    · obtain rfl : j = d.k := by omega
      have kd : decide ((d.k : Int) < (d.k : Int)) = false := decide_eq_false (by omega)
      have kd' : decide (d.k < d.k) = false := decide_eq_false (by omega)
      have HW := Lib.hid (And.intro how hb)
      clear how hb hlt hj
      go_wp2_with fail
      go_ret
      refine ⟨_, rfl, ?_, HW.out.2⟩
      unfold knL
      rw [H.out.2]
      exact HW.out.1
end
end Go.Proofs.Ytidoembkcaojoaa
