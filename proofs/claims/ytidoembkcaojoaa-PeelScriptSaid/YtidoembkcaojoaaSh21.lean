/- Chapter 21: what a decoder tells. Chapter 21: the block that a decoder tells. -/
import Derived.Test.YtidoembkcaojoaaAc21
namespace Go.Proofs.Ytidoembkcaojoaa
open Go.RowKit Go.Maps
set_option linter.unusedVariables false
section
variable {w w' : World} {base D : Nat} {m : DM} {d : DS} {F : Nat → Prop}
theorem packets_dp (h : Dp w base D m (d.dc []) F) : Calls Try.prog 19 #[.pointer (some ⟨D, 0, none⟩)] w fun e w' => e = .returned (.int .i64 (d.sets.length : Nat)) ∧ w = w' := by
  have c0 := h.c0
  have H := Lib.hid h
  clear h
  go_enter Try.func19, Try.ntmps19
  go_wp2_with fail
  refine (dnone_made c0).mono ?_
  rintro e w1 ⟨rfl, rfl⟩
  go_wp2_with fail
  refine (packets_gr H.out.gr).mono ?_
  rintro e w1 ⟨rfl, rfl⟩
  go_wp2_with fail
  go_ret
  exact ⟨rfl, rfl⟩
theorem left_dp (h : Dp w base D m (d.dc []) F) : Calls Try.prog 34 #[.pointer (some ⟨D, 0, none⟩)] w fun e w' => e = .returned (.int .i64 (unk d.kn : Nat)) ∧ w = w' := by
  have c0 := h.c0
  have H := Lib.hid h
  clear h
  go_enter Try.func34, Try.ntmps34
  go_wp2_with fail
  refine (dnone_made c0).mono ?_
  rintro e w1 ⟨rfl, rfl⟩
  go_wp2_with fail
  refine (unknown_gr H.out.gr).mono ?_
  rintro e w1 ⟨rfl, rfl⟩
  go_wp2_with fail
  go_ret
  exact ⟨rfl, rfl⟩
theorem done_dp (h : Dp w base D m (d.dc []) F) : Calls Try.prog 35 #[.pointer (some ⟨D, 0, none⟩)] w fun e w' => e = .returned (.bool (unk d.kn == 0)) ∧ w = w' := by
  have c0 := h.c0
  have H := Lib.hid h
  clear h
  obtain ⟨u, hu⟩ : ∃ u, unk d.kn = u := ⟨_, rfl⟩
  have HU := Lib.hid hu
  go_enter Try.func35, Try.ntmps35
  go_wp2_with fail
  refine (dnone_made c0).mono ?_
  rintro e w1 ⟨rfl, rfl⟩
  go_wp2_with fail
  refine (left_dp H.out).mono ?_
  rintro e w1 ⟨rfl, rfl⟩
  rw [HU.out]
  go_wp2_with fail
  go_ret
  refine ⟨ret_bool ?_, rfl⟩
  rw [HU.out, Bool.eq_iff_iff]
  simp
def syR (d : DS) (i : Int) : List UInt8 × Int := if 0 ≤ i ∧ i < d.k then (if knw d.kn i then (xv d.vals i, 0) else ([], 10)) else ([], 3)
def SyPost (w : World) (l : List UInt8) (x : Int) (e : Ending) (w' : World) : Prop :=
  ∃ v, e = .returned (.tuple #[v, .int .i64 x]) ∧ w'.ownsRow w.heap.size 5 1 v l.length (bys l) ∧ Below w.heap.size w w'
set_option maxRecDepth 100000 in
set_option maxHeartbeats 1600000 in
theorem symbol_dp (h : Dp w base D m (d.dc []) F) (hd : d.ok) (i : Int) : Calls Try.prog 21 #[.pointer (some ⟨D, 0, none⟩), .int .i64 i] w (SyPost w (syR d i).1 (syR d i).2) := by
  have c0 := h.c0
  have c4 : w.cell? ⟨D, 4, none⟩ = some (.slice (some ⟨m.SB, 0, none⟩) d.k d.k) := h.c4
  have hks := hd.k1
  by_cases h1 : i < 0
  · have d1 : decide (i < 0) = true := decide_eq_true h1
    have HE := Lib.hid (show syR d i = ([], 3) from by unfold syR; rw [if_neg (by omega)])
    clear h h1
    go_enter Try.func21, Try.ntmps21
    go_wp2_with fail
    refine (dnone_made c0).mono ?_
    rintro e w1 ⟨rfl, rfl⟩
    go_wp2_with fail
    go_ret2
    rw [HE.out]
    exact ⟨_, rfl, World.ownsRow_nil _ _ _ _, Below.refl _ _⟩
  · have d1 : decide (i < 0) = false := decide_eq_false h1
    obtain ⟨x, rfl⟩ : ∃ x : Nat, i = x := ⟨i.toNat, by omega⟩
    by_cases h2 : x < d.k
    · have d2 : decide ((x : Int) ≥ (d.k : Int)) = false := decide_eq_false (by omega)
      have d3 : decide ((d.k : Int) ≤ (x : Int)) = false := decide_eq_false (by omega)
      have d4 : decide (d.k ≤ x) = false := decide_eq_false (by omega)
      have xk : (x : Int) < (d.k : Int) := by omega
      have x0 : (0 : Int) ≤ (x : Int) := by omega
      have cs := h.symc (show x < (d.dc []).k from h2)
      cases hk : knw d.kn (x : Int) with
      | true =>
        obtain ⟨gs, cq, _, hsy, _, _, hrd⟩ := h.symk (show x < (d.dc []).k from h2) hk
        rw [hsy] at cs
        have HE := Lib.hid (show syR d (x : Int) = (xv d.vals (x : Int), 0) from by unfold syR; rw [if_pos (by omega), hk]; rfl)
        have hq := fun w => Lib.run_eql_slice_nil (P := Try.prog) w 22 5 (some (⟨gs, 0, none⟩ : Addr)) (d.dc []).s cq 0 0 Try.underlying22
        have hq' : ∀ w, (binOp .eql 22 (.slice (some ⟨gs, 0, none⟩) (d.dc []).s cq) (.slice none 0 0)).run Try.prog w = .ok (.bool false) w := hq
        have HR := Lib.hid (And.intro hrd (hd.vs x h2 hk))
        have hs2 : d.s ≤ 65535 := hd.s1.2
        clear h h1 h2 hsy hq hrd
        go_enter Try.func21, Try.ntmps21
        go_wp2_with fail
        refine (dnone_made c0).mono ?_
        rintro e w1 ⟨rfl, rfl⟩
        go_wp2_with fail
        refine (clone_any HR.out.1 (by show d.s ≤ _; omega)).mono ?_
        rintro e w4 ⟨v4, rfl, ho4, hb4⟩
        have H4 := Lib.hid (And.intro ho4 hb4)
        clear ho4 hb4
        go_wp2_with fail
        go_ret2
        rw [HE.out]
        refine ⟨_, rfl, ?_, H4.out.2⟩
        have : xv d.vals (x : Int) = d.vals.getD x [] := by unfold xv; rw [Int.toNat_natCast]
        rw [this, HR.out.2]
        exact H4.out.1
      | false =>
        rw [Dp.symn (c := d.dc []) (m := m) hk] at cs
        have HE := Lib.hid (show syR d (x : Int) = ([], 10) from by unfold syR; rw [if_pos (by omega), hk]; rfl)
        have hq : ∀ w, (binOp .eql 22 (.slice none 0 0) (.slice none 0 0)).run Try.prog w = .ok (.bool true) w := fun w => Lib.run_eql_slice_nil (P := Try.prog) w 22 5 none 0 0 0 0 Try.underlying22
        clear h h1 h2 hk
        go_enter Try.func21, Try.ntmps21
        go_wp2_with fail
        refine (dnone_made c0).mono ?_
        rintro e w1 ⟨rfl, rfl⟩
        go_wp2_with fail
        go_ret2
        rw [HE.out]
        exact ⟨_, rfl, World.ownsRow_nil _ _ _ _, Below.refl _ _⟩
    · have d2 : decide ((x : Int) ≥ (d.k : Int)) = true := decide_eq_true (by omega)
      have d3 : decide ((d.k : Int) ≤ (x : Int)) = true := decide_eq_true (by omega)
      have d4 : decide (d.k ≤ x) = true := decide_eq_true (by omega)
      have HE := Lib.hid (show syR d (x : Int) = ([], 3) from by unfold syR; rw [if_neg (by omega)])
      clear h h1 h2
      go_enter Try.func21, Try.ntmps21
      go_wp2_with fail
      refine (dnone_made c0).mono ?_
      rintro e w1 ⟨rfl, rfl⟩
      go_wp2_with fail
      go_ret2
      rw [HE.out]
      exact ⟨_, rfl, World.ownsRow_nil _ _ _ _, Below.refl _ _⟩
def knF (kn : List Bool) (j : Nat) : List Int := ((List.range j).filter fun i : Nat => knw kn (i : Int)).map fun i : Nat => (i : Int)
def knL (kn : List Bool) : List Int := knF kn kn.length
theorem knF_succ (kn : List Bool) (j : Nat) : knF kn (j + 1) = knF kn j ++ (if knw kn (j : Int) then [(j : Int)] else []) := by
  unfold knF
  rw [List.range_succ, List.filter_append, List.map_append]
  congr 1
  cases hk : knw kn (j : Int) <;> simp [hk]
theorem knF_le (kn : List Bool) (j : Nat) : (knF kn j).length ≤ j := by
  unfold knF
  rw [List.length_map]
  exact Nat.le_trans (List.length_filter_le _ _) (by simp)
set_option maxRecDepth 100000 in
set_option maxHeartbeats 1600000 in
theorem known_dp (h : Dp w base D m (d.dc []) F) (hd : d.ok) : Calls Try.prog 18 #[.pointer (some ⟨D, 0, none⟩)] w fun e w' => ∃ v, e = .returned v ∧ w'.ownsRow w.heap.size 3 1 v (knL d.kn).length (nums (knL d.kn)) ∧ Below w.heap.size w w' := by
  obtain ⟨i0, hi0, hz0, hz1, hz2⟩ := info_parts u3_info
  have c0 := h.c0
  have c4 : w.cell? ⟨D, 4, none⟩ = some (.slice (some ⟨m.SB, 0, none⟩) d.k d.k) := h.c4
  have hk9 : d.k ≤ 100 := hd.k1.2
  have H := Lib.hid (And.intro h hd.kl)
  clear h hd
  go_enter Try.func18, Try.ntmps18
  go_wp2_with fail
  refine (dnone_made c0).mono ?_
  rintro e w1 ⟨rfl, rfl⟩
  go_wp2_with fail
  go_loopw [2, 12] (fun v q wr => ∃ j : Nat, j ≤ d.k ∧ q = .int .i64 j ∧ wr.ownsRow w.heap.size 3 1 v (knF d.kn j).length (nums (knF d.kn j)) ∧ Below w.heap.size w wr) (fun v q wr => d.k - (intOf q).toNat)
  case atStart => exact ⟨0, by omega, rfl, World.ownsRow_nil _ _ _ _, Below.refl _ _⟩
  case round =>
    obtain ⟨j, hj, rfl, how, hb⟩ := hrel
    by_cases hlt : j < d.k
    · have km : (j : Int) < (d.k : Int) := by omega
      have kd : decide ((j : Int) < (d.k : Int)) = true := decide_eq_true km
      have kd' : decide (j < d.k) = true := decide_eq_true hlt
      have j0 : (0 : Int) ≤ (j : Int) := by omega
      have hD := H.out.1.below hb
      have cs := hD.symc (show j < (d.dc []).k from hlt)
      have hF := knF_succ d.kn j
      have hle := knF_le d.kn j
      obtain ⟨L, hL⟩ : ∃ L, knF d.kn j = L := ⟨_, rfl⟩
      rw [hL] at how hF hle
      obtain ⟨r, hr⟩ : ∃ r, L.length = r := ⟨_, rfl⟩
      rw [hr] at how hle
      have hr9 : r ≤ 100 := by omega
      cases hk : knw d.kn (j : Int) with
      | true =>
        obtain ⟨gs, cq, _, hsy, _, _, _⟩ := hD.symk (show j < (d.dc []).k from hlt) hk
        rw [hsy] at cs
        have hq := fun w => neq_some ⟨gs, 0, none⟩ (d.dc []).s cq w
        rw [hk, if_pos rfl] at hF
        have HW := Lib.hid (And.intro how (And.intro hb (And.intro hF (And.intro hr hlt))))
        clear how hb hF hL hr hlt hle hsy hD hk
        go_wp2_with (at_builtin; refine wpList_append_rd _ rfl (.tmp 19) (.tmp 21) _ rfl w.heap.size 3 i0 _ 1 8 Try.underlying23 hi0 hz0 hz1 hz2 rfl (by omega) _ r (nums L) rfl (own_below HW.out.1 ((Below.refl _ _).alloc (Nat.le_refl _) _)) (some ⟨wr.heap.size, 0, none⟩) 1 1 (nums [(j : Int)]) rfl (Rd.lit _ _ _ _ rfl 1 rfl _ rfl) (nums_one _) (by simp only [maxLen]; omega) (by omega) (by have := HW.out.2.1.size; rw [World.size_alloc]; omega) ?_; intro v1 w3 hown1 hg1 hat1; rw [← nums_append] at hown1)
        have hS : Chg (fun k => u2.ownBlock = some k) wr w3 := ((Chg.refl _ wr).alloc _).trans (Chg.of_grown hg1 (S := fun k => u2.ownBlock = some k) fun k e => e) fun _ _ x => x
        have hb3 := hS.below HW.out.2.1 (fun b _ e => (HW.out.1.lt b e).1) HW.out.2.1.size
        exact ⟨⟨j + 1, HW.out.2.2.2.2, by go_num, by rw [HW.out.2.2.1, List.length_append, HW.out.2.2.2.1]; exact hown1, hb3⟩, by have := HW.out.2.2.2.2; simp [intOf]; omega⟩
      | false =>
        rw [Dp.symn (c := d.dc []) (m := m) hk] at cs
        have hq := neq_none
        rw [hk, if_neg (by simp), List.append_nil] at hF
        have HW := Lib.hid (And.intro how (And.intro hb (And.intro hF (And.intro hr hlt))))
        clear how hb hF hL hr hlt hle hD hk
        go_wp2_with fail
        exact ⟨⟨j + 1, HW.out.2.2.2.2, by go_num, by rw [HW.out.2.2.1, HW.out.2.2.2.1]; exact HW.out.1, HW.out.2.1⟩, by have := HW.out.2.2.2.2; simp [intOf]; omega⟩
    · obtain rfl : j = d.k := by omega
      have kd : decide ((d.k : Int) < (d.k : Int)) = false := decide_eq_false (by omega)
      have kd' : decide (d.k < d.k) = false := decide_eq_false (by omega)
      have HW := Lib.hid (And.intro how hb)
      clear how hb hlt hj
      go_wp2_with fail
      go_ret
      refine ⟨_, rfl, ?_, HW.out.2⟩
      unfold knL
      rw [H.out.2]
      exact HW.out.1
end
end Go.Proofs.Ytidoembkcaojoaa
namespace Go.Proofs.Ytidoembkcaojoaa
open Go.RowKit Go.Maps
set_option linter.unusedVariables false
theorem unk_zero {kn : List Bool} (h : unk kn = 0) {i : Nat} (hi : i < kn.length) : knw kn (i : Int) = true := by
  cases hk : knw kn (i : Int) with
  | true => rfl
  | false =>
    have := unk_set hi hk
    omega
section
variable {w w' : World} {base D : Nat} {m : DM} {d : DS} {F : Nat → Prop}
def BlPost (w : World) (n : Nat) (xss : List (List UInt8)) (x : Int) (e : Ending) (w' : World) : Prop :=
  ∃ v vs, e = .returned (.tuple #[v, .int .i64 x]) ∧ w'.ownsRow w.heap.size 22 1 v n vs ∧ ORows w' w.heap.size vs xss ∧ Below w.heap.size w w'
def blR (d : DS) : List (List UInt8) × Int := if unk d.kn = 0 then (d.vals, 0) else ([], 10)
set_option maxRecDepth 100000 in
set_option maxHeartbeats 1600000 in
theorem block_dp (h : Dp w base D m (d.dc []) F) (hd : d.ok) : Calls Try.prog 22 #[.pointer (some ⟨D, 0, none⟩)] w (BlPost w (blR d).1.length (blR d).1 (blR d).2) := by
  have c0 := h.c0
  by_cases hu : unk d.kn = 0
  · have hbl : blR d = (d.vals, 0) := if_pos hu
    obtain ⟨i0, hi0, hz0, hz1, hz2⟩ := info_parts ints2_info
    have c4 : w.cell? ⟨D, 4, none⟩ = some (.slice (some ⟨m.SB, 0, none⟩) d.k d.k) := h.c4
    have hall : ∀ i, i < d.k → knw d.kn (i : Int) = true := fun i hi => unk_zero hu (by rw [hd.kl]; exact hi)
    have hvl := hd.vl
    have hk9 : d.k ≤ 100 := hd.k1.2
    have hs9 : d.s ≤ 65535 := hd.s1.2
    have H := Lib.hid (And.intro h (And.intro hall (And.intro hvl (And.intro hbl hd))))
    have hdn := done_dp h
    rw [show (unk d.kn == 0) = true from by rw [hu]; rfl] at hdn
    have HN := Lib.hid hdn
    rw [hbl]
    show Calls _ _ _ _ (BlPost w d.vals.length d.vals 0)
    rw [hvl]
    clear h hd hall hvl hbl hdn hu
    go_enter Try.func22, Try.ntmps22
    go_wp2_with fail
    refine (dnone_made c0).mono ?_
    rintro e w1 ⟨rfl, rfl⟩
    go_wp2_with fail
    refine HN.out.mono ?_
    rintro e w1 ⟨rfl, rfl⟩
    go_wp2_with fail
    go_loopw [4, 19] (fun v i wr => ∃ (j : Nat) (vs : List Value), j ≤ d.k ∧ i = .int .i64 j ∧ wr.ownsRow w.heap.size 22 1 v j vs ∧ ORows wr w.heap.size vs (d.vals.take j) ∧ Below w.heap.size w wr) (fun v i wr => d.k - (intOf i).toNat)
    case atStart => exact ⟨0, [], by omega, rfl, World.ownsRow_nil _ _ _ _, ORows.nil _ _, Below.refl _ _⟩
    case round =>
      obtain ⟨j, vs, hj, rfl, how, hor, hb⟩ := hrel
      by_cases hlt : j < d.k
      · have km : (j : Int) < (d.k : Int) := by omega
        have kd : decide ((j : Int) < (d.k : Int)) = true := decide_eq_true km
        have kd' : decide (j < d.k) = true := decide_eq_true hlt
        have j0 : (0 : Int) ≤ (j : Int) := by omega
        have hD := H.out.1.below hb
        have cs := hD.symc (show j < (d.dc []).k from hlt)
        obtain ⟨gs, cq, _, hsy, _, _, hrd⟩ := hD.symk (show j < (d.dc []).k from hlt) (H.out.2.1 j hlt)
        rw [hsy] at cs
        have hjl : j < d.vals.length := by rw [H.out.2.2.1]; exact hlt
        have HT := Lib.hid (show d.vals.take (j + 1) = d.vals.take j ++ [d.vals.getD j []] from by rw [getD_at hjl, List.take_succ_eq_append_getElem hjl])
        have hxl := H.out.2.2.2.2.vs j hlt (H.out.2.1 j hlt)
        have HQ := Lib.hid (clone_any (c := cq) hrd (by show d.s ≤ _; omega))
        have HW := Lib.hid (And.intro how (And.intro hor (And.intro hb (And.intro hlt hxl))))
        clear how hor hb hlt hD hsy hrd hjl hxl hj
        go_wp2_with fail
        refine HQ.out.mono ?_
        rintro e w4 ⟨v4, rfl, ho4, hb4⟩
        have how4 := own_below HW.out.1 hb4
        have hor4 := HW.out.2.1.below hb4
        have hb04 := below_base HW.out.2.2.1 hb4 HW.out.2.2.1.size
        obtain ⟨A4, c4', rfl⟩ := own_sl ho4
        obtain ⟨Av, cv, rfl⟩ := own_sl how4
        have H4 := Lib.hid (And.intro how4 (And.intro hor4 (And.intro hb04 ho4)))
        clear ho4 hb4 how4 hor4 hb04 cs
        go_wp2_with (at_builtin; refine wpList_append_rd _ rfl (.tmp 23) (.tmp 26) _ rfl w.heap.size 22 i0 _ 1 24 Try.underlying30 hi0 hz0 hz1 hz2 rfl (by omega) _ j vs rfl (own_below H4.out.1 ((Below.refl _ _).alloc (Nat.le_refl _) _)) (some ⟨w4.heap.size, 0, none⟩) 1 1 [.slice A4 (d.dc []).s c4'] rfl (Rd.lit _ _ _ _ rfl 1 rfl _ rfl) slice_one (by simp only [maxLen]; omega) (by omega) (by have := H4.out.2.2.1.size; rw [World.size_alloc]; omega) ?_; intro v6 w6 hown6 hg6 hat6)
        have hc6 : Chg (fun b => (Value.slice Av j cv).ownBlock = some b) w4 w6 := ((Chg.refl _ w4).alloc _).trans (Chg.of_grown hg6 (S := fun b => (Value.slice Av j cv).ownBlock = some b) fun k e => e) fun _ _ x => x
        have hb6 := hc6.below H4.out.2.2.1 (fun b _ e => (H4.out.1.lt b e).1) H4.out.2.2.1.size
        have hor6 : ORows w6 w.heap.size (vs ++ [.slice A4 (d.dc []).s c4']) (d.vals.take (j + 1)) := by
          rw [HT.out]
          have hm : (d.vals.getD j []).length = (d.dc []).s := HW.out.2.2.2.2
          rw [← hm]
          refine ORows.snoc (B := wr.heap.size) ?_ ?_ HW.out.2.2.1.size ?_
          · refine ⟨H4.out.2.1.1, fun i y hy => ?_, H4.out.2.1.2.2⟩
            obtain ⟨A', c', h1, h2⟩ := H4.out.2.1.2.1 i y hy
            refine ⟨A', c', h1, hc6.own h2 fun b hb e => ?_⟩
            exact own_apart H4.out.1 h2 (by decide) b hb e
          · rw [hm]
            exact hc6.own H4.out.2.2.2 fun b hb e => own_apart H4.out.1 H4.out.2.2.2 (by decide) b hb e
          · intro i v b hv e
            exact (HW.out.2.1.blk i v b hv e).2
        exact ⟨⟨j + 1, _, by have := HW.out.2.2.2.1; omega, by go_num, hown6, hor6, hb6⟩, by have := HW.out.2.2.2.1; simp [intOf]; omega⟩
      · obtain rfl : j = d.k := by omega
        have kd : decide ((d.k : Int) < (d.k : Int)) = false := decide_eq_false (by omega)
        have kd' : decide (d.k < d.k) = false := decide_eq_false (by omega)
        rw [List.take_of_length_le (by rw [H.out.2.2.1]; exact Nat.le_refl _)] at hor
        have HW := Lib.hid (And.intro how (And.intro hor hb))
        clear how hor hb hlt hj
        go_wp2_with fail
        go_ret2
        exact ⟨_, vs, rfl, HW.out.1, HW.out.2.1, HW.out.2.2⟩
  · have hbl : blR d = ([], 10) := if_neg hu
    have hdn := done_dp h
    rw [show (unk d.kn == 0) = false from by simpa using hu] at hdn
    have HN := Lib.hid hdn
    rw [hbl]
    clear h hd hdn hu hbl
    go_enter Try.func22, Try.ntmps22
    go_wp2_with fail
    refine (dnone_made c0).mono ?_
    rintro e w1 ⟨rfl, rfl⟩
    go_wp2_with fail
    refine HN.out.mono ?_
    rintro e w1 ⟨rfl, rfl⟩
    go_wp2_with fail
    go_ret2
    exact ⟨_, [], rfl, World.ownsRow_nil _ _ _ _, ORows.nil _ _, Below.refl _ _⟩
end
end Go.Proofs.Ytidoembkcaojoaa
