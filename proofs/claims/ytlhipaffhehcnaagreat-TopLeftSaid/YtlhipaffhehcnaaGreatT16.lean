/- Chapter 21: what a decoder tells. Chapter 21: the block that a decoder tells. Chapter 21: a decoder is made. Chapter 21: peeling as a function. -/
import Derived.Test.YtlhipaffhehcnaaGreatT15
namespace Go.Proofs.YtlhipaffhehcnaaGreat
open Go.RowKit Go.Maps
set_option linter.unusedVariables false
section
variable {w w' : World} {base D : Nat} {m : DM} {d : DS} {F : Nat → Prop}
theorem left_dp (h : Dp w base D m (d.dc []) F) : Calls Tryz.prog 41 #[.pointer (some ⟨D, 0, none⟩)] w fun e w' => e = .returned (.int .i64 (unk d.kn : Nat)) ∧ w = w' := by
  have c0 := h.c0
  have H := Lib.hid h
  clear h
  go_enter Tryz.func41, Tryz.ntmps41
  go_wp2_with fail
  refine (dnone_made c0).mono ?_
  rintro e w1 ⟨rfl, rfl⟩
  go_wp2_with fail
  refine (unknown_gr H.out.gr).mono ?_
  rintro e w1 ⟨rfl, rfl⟩
  go_wp2_with fail
  go_ret
  exact ⟨rfl, rfl⟩
def syR (d : DS) (i : Int) : List UInt8 × Int := if 0 ≤ i ∧ i < d.k then (if knw d.kn i then (xv d.vals i, 0) else ([], 10)) else ([], 3)
def SyPost (w : World) (l : List UInt8) (x : Int) (e : Ending) (w' : World) : Prop :=
  ∃ v, e = .returned (.tuple #[v, .int .i64 x]) ∧ w'.ownsRow w.heap.size 5 1 v l.length (bys l) ∧ Below w.heap.size w w'
set_option maxRecDepth 100000 in
set_option maxHeartbeats 1600000 in
theorem symbol_dp (h : Dp w base D m (d.dc []) F) (hd : d.ok) (i : Int) : Calls Tryz.prog 39 #[.pointer (some ⟨D, 0, none⟩), .int .i64 i] w (SyPost w (syR d i).1 (syR d i).2) := by
  have c0 := h.c0
  have c4 : w.cell? ⟨D, 4, none⟩ = some (.slice (some ⟨m.SB, 0, none⟩) d.k d.k) := h.c4
  have hks := hd.k1
  by_cases h1 : i < 0
  · have d1 : decide (i < 0) = true := decide_eq_true h1
    have HE := Lib.hid (show syR d i = ([], 3) from by unfold syR; rw [if_neg (by omega)])
    clear h h1
    go_enter Tryz.func39, Tryz.ntmps39
    go_wp2_with fail
    refine (dnone_made c0).mono ?_
    rintro e w1 ⟨rfl, rfl⟩
    go_wp2_with fail
    go_ret2
    rw [HE.out]
    exact ⟨_, rfl, World.ownsRow_nil _ _ _ _, Below.refl _ _⟩
  · have d1 : decide (i < 0) = false := decide_eq_false h1
    obtain ⟨x, rfl⟩ : ∃ x : Nat, i = x := ⟨i.toNat, by omega⟩
    by_cases h2 : x < d.k
    · have d2 : decide ((x : Int) ≥ (d.k : Int)) = false := decide_eq_false (by omega)
      have d3 : decide ((d.k : Int) ≤ (x : Int)) = false := decide_eq_false (by omega)
      have d4 : decide (d.k ≤ x) = false := decide_eq_false (by omega)
      have xk : (x : Int) < (d.k : Int) := by omega
      have x0 : (0 : Int) ≤ (x : Int) := by omega
      have cs := h.symc (show x < (d.dc []).k from h2)
      cases hk : knw d.kn (x : Int) with
      | true =>
        obtain ⟨gs, cq, _, hsy, _, _, hrd⟩ := h.symk (show x < (d.dc []).k from h2) hk
        rw [hsy] at cs
        have HE := Lib.hid (show syR d (x : Int) = (xv d.vals (x : Int), 0) from by unfold syR; rw [if_pos (by omega), hk]; rfl)
        have hq := fun w => Lib.run_eql_slice_nil (P := Tryz.prog) w 83 5 (some (⟨gs, 0, none⟩ : Addr)) (d.dc []).s cq 0 0 Tryz.underlying83
        have hq' : ∀ w, (binOp .eql 83 (.slice (some ⟨gs, 0, none⟩) (d.dc []).s cq) (.slice none 0 0)).run Tryz.prog w = .ok (.bool false) w := hq
        have HR := Lib.hid (And.intro hrd (hd.vs x h2 hk))
        have hs2 : d.s ≤ 65535 := hd.s1.2
        clear h h1 h2 hsy hq hrd
        go_enter Tryz.func39, Tryz.ntmps39
        go_wp2_with fail
        refine (dnone_made c0).mono ?_
        rintro e w1 ⟨rfl, rfl⟩
        go_wp2_with fail
        refine (clone_any HR.out.1 (by show d.s ≤ _; omega)).mono ?_
        rintro e w4 ⟨v4, rfl, ho4, hb4⟩
        have H4 := Lib.hid (And.intro ho4 hb4)
        clear ho4 hb4
        go_wp2_with fail
        go_ret2
        rw [HE.out]
        refine ⟨_, rfl, ?_, H4.out.2⟩
        have : xv d.vals (x : Int) = d.vals.getD x [] := by unfold xv; rw [Int.toNat_natCast]
        rw [this, HR.out.2]
        exact H4.out.1
      | false =>
        rw [Dp.symn (c := d.dc []) (m := m) hk] at cs
        have HE := Lib.hid (show syR d (x : Int) = ([], 10) from by unfold syR; rw [if_pos (by omega), hk]; rfl)
        have hq : ∀ w, (binOp .eql 83 (.slice none 0 0) (.slice none 0 0)).run Tryz.prog w = .ok (.bool true) w := fun w => Lib.run_eql_slice_nil (P := Tryz.prog) w 83 5 none 0 0 0 0 Tryz.underlying83
        clear h h1 h2 hk
        go_enter Tryz.func39, Tryz.ntmps39
        go_wp2_with fail
        refine (dnone_made c0).mono ?_
        rintro e w1 ⟨rfl, rfl⟩
        go_wp2_with fail
        go_ret2
        rw [HE.out]
        exact ⟨_, rfl, World.ownsRow_nil _ _ _ _, Below.refl _ _⟩
    · have d2 : decide ((x : Int) ≥ (d.k : Int)) = true := decide_eq_true (by omega)
      have d3 : decide ((d.k : Int) ≤ (x : Int)) = true := decide_eq_true (by omega)
      have d4 : decide (d.k ≤ x) = true := decide_eq_true (by omega)
      have HE := Lib.hid (show syR d (x : Int) = ([], 3) from by unfold syR; rw [if_neg (by omega)])
      clear h h1 h2
      go_enter Tryz.func39, Tryz.ntmps39
      go_wp2_with fail
      refine (dnone_made c0).mono ?_
      rintro e w1 ⟨rfl, rfl⟩
      go_wp2_with fail
      go_ret2
      rw [HE.out]
      exact ⟨_, rfl, World.ownsRow_nil _ _ _ _, Below.refl _ _⟩
def knF (kn : List Bool) (j : Nat) : List Int := ((List.range j).filter fun i : Nat => knw kn (i : Int)).map fun i : Nat => (i : Int)
def knL (kn : List Bool) : List Int := knF kn kn.length
theorem knF_succ (kn : List Bool) (j : Nat) : knF kn (j + 1) = knF kn j ++ (if knw kn (j : Int) then [(j : Int)] else []) := by
  unfold knF
  rw [List.range_succ, List.filter_append, List.map_append]
  congr 1
  cases hk : knw kn (j : Int) <;> simp [hk]
theorem knF_le (kn : List Bool) (j : Nat) : (knF kn j).length ≤ j := by
  unfold knF
  rw [List.length_map]
  exact Nat.le_trans (List.length_filter_le _ _) (by simp)
set_option maxRecDepth 100000 in
set_option maxHeartbeats 1600000 in
theorem known_dp (h : Dp w base D m (d.dc []) F) (hd : d.ok) : Calls Tryz.prog 38 #[.pointer (some ⟨D, 0, none⟩)] w fun e w' => ∃ v, e = .returned v ∧ w'.ownsRow w.heap.size 3 1 v (knL d.kn).length (nums (knL d.kn)) ∧ Below w.heap.size w w' := by
  obtain ⟨i0, hi0, hz0, hz1, hz2⟩ := info_parts u3_info
  have c0 := h.c0
  have c4 : w.cell? ⟨D, 4, none⟩ = some (.slice (some ⟨m.SB, 0, none⟩) d.k d.k) := h.c4
  have hk9 : d.k ≤ 100 := hd.k1.2
  have H := Lib.hid (And.intro h hd.kl)
  clear h hd
  go_enter Tryz.func38, Tryz.ntmps38
  go_wp2_with fail
  refine (dnone_made c0).mono ?_
  rintro e w1 ⟨rfl, rfl⟩
  go_wp2_with fail
  go_loopw [2, 12] (fun v q wr => ∃ j : Nat, j ≤ d.k ∧ q = .int .i64 j ∧ wr.ownsRow w.heap.size 3 1 v (knF d.kn j).length (nums (knF d.kn j)) ∧ Below w.heap.size w wr) (fun v q wr => d.k - (intOf q).toNat)
  case atStart => exact ⟨0, by omega, rfl, World.ownsRow_nil _ _ _ _, Below.refl _ _⟩
  case round =>
    obtain ⟨j, hj, rfl, how, hb⟩ := hrel
    by_cases hlt : j < d.k
    · have km : (j : Int) < (d.k : Int) := by omega
      have kd : decide ((j : Int) < (d.k : Int)) = true := decide_eq_true km
      have kd' : decide (j < d.k) = true := decide_eq_true hlt
      have j0 : (0 : Int) ≤ (j : Int) := by omega
      have hD := H.out.1.below hb
      have cs := hD.symc (show j < (d.dc []).k from hlt)
      have hF := knF_succ d.kn j
      have hle := knF_le d.kn j
      obtain ⟨L, hL⟩ : ∃ L, knF d.kn j = L := ⟨_, rfl⟩
      rw [hL] at how hF hle
      obtain ⟨r, hr⟩ : ∃ r, L.length = r := ⟨_, rfl⟩
      rw [hr] at how hle
      have hr9 : r ≤ 100 := by omega
      cases hk : knw d.kn (j : Int) with
      | true =>
        obtain ⟨gs, cq, _, hsy, _, _, _⟩ := hD.symk (show j < (d.dc []).k from hlt) hk
        rw [hsy] at cs
        have hq := fun w => neq_some ⟨gs, 0, none⟩ (d.dc []).s cq w
        rw [hk, if_pos rfl] at hF
        have HW := Lib.hid (And.intro how (And.intro hb (And.intro hF (And.intro hr hlt))))
        clear how hb hF hL hr hlt hle hsy hD hk
        go_wp2_with (at_builtin; refine wpList_append_rd _ rfl (.tmp 19) (.tmp 21) _ rfl w.heap.size 3 i0 _ 1 8 Tryz.underlying22 hi0 hz0 hz1 hz2 rfl (by omega) _ r (nums L) rfl (own_below HW.out.1 ((Below.refl _ _).alloc (Nat.le_refl _) _)) (some ⟨wr.heap.size, 0, none⟩) 1 1 (nums [(j : Int)]) rfl (Rd.lit _ _ _ _ rfl 1 rfl _ rfl) (nums_one _) (by simp only [maxLen]; omega) (by omega) (by have := HW.out.2.1.size; rw [World.size_alloc]; omega) ?_; intro v1 w3 hown1 hg1 hat1; rw [← nums_append] at hown1)
        have hS : Chg (fun k => u2.ownBlock = some k) wr w3 := ((Chg.refl _ wr).alloc _).trans (Chg.of_grown hg1 (S := fun k => u2.ownBlock = some k) fun k e => e) fun _ _ x => x
        have hb3 := hS.below HW.out.2.1 (fun b _ e => (HW.out.1.lt b e).1) HW.out.2.1.size
        exact ⟨⟨j + 1, HW.out.2.2.2.2, by go_num, by rw [HW.out.2.2.1, List.length_append, HW.out.2.2.2.1]; exact hown1, hb3⟩, by have := HW.out.2.2.2.2; simp [intOf]; omega⟩
      | false =>
        rw [Dp.symn (c := d.dc []) (m := m) hk] at cs
        have hq := neq_none
        rw [hk, if_neg (by simp), List.append_nil] at hF
        have HW := Lib.hid (And.intro how (And.intro hb (And.intro hF (And.intro hr hlt))))
        clear how hb hF hL hr hlt hle hD hk
        go_wp2_with fail
        exact ⟨⟨j + 1, HW.out.2.2.2.2, by go_num, by rw [HW.out.2.2.1, HW.out.2.2.2.1]; exact HW.out.1, HW.out.2.1⟩, by have := HW.out.2.2.2.2; simp [intOf]; omega⟩
    · obtain rfl : j = d.k := by omega
      have kd : decide ((d.k : Int) < (d.k : Int)) = false := decide_eq_false (by omega)
      have kd' : decide (d.k < d.k) = false := decide_eq_false (by omega)
      have HW := Lib.hid (And.intro how hb)
      clear how hb hlt hj
      go_wp2_with fail
      go_ret
      refine ⟨_, rfl, ?_, HW.out.2⟩
      unfold knL
      rw [H.out.2]
      exact HW.out.1
end
end Go.Proofs.YtlhipaffhehcnaaGreat
namespace Go.Proofs.YtlhipaffhehcnaaGreat
open Go.RowKit Go.Maps
set_option linter.unusedVariables false
section
variable {w w' : World} {base D : Nat} {m : DM} {d : DS} {F : Nat → Prop}
end
end Go.Proofs.YtlhipaffhehcnaaGreat
namespace Go.Proofs.YtlhipaffhehcnaaGreat
open Go.RowKit Go.Maps
set_option linter.unusedVariables false
theorem run_make_syms (m : Nat) (hm : m ≤ 1000000) (w : World) : (Instr.makeSlice 125 (.int .i64 (m : Int)) (.int .i64 (m : Int))).run Tryz.prog w = .ok (.slice (some ⟨w.heap.size, 0, none⟩) m m) (w.alloc (.cells (List.replicate m (.slice none 0 0)).toArray 83)) := by
  obtain ⟨i0, hi0, hz0, hz1, hz2⟩ := info_parts ints2_info
  have := run_make (P := Tryz.prog) w 125 83 i0 (.slice none 0 0) Tryz.underlying125 hi0 hz0 .i64 .i64 m m (by omega) (by omega) (by rw [hz2]; omega) (by omega)
  rw [hz1] at this
  simp only [Int.toNat_natCast] at this
  rw [made_one rfl] at this
  exact this
def newD (k s : Nat) (most : Int) : DS := { k := k, s := s, most := most, ids := [], sets := [], pays := [], kn := List.replicate k false, vals := List.replicate k [] }
theorem knw_rep (k : Nat) (x : Int) : knw (List.replicate k false) x = false := by
  unfold knw
  rw [List.getD_eq_getElem?_getD, List.getElem?_replicate]
  split <;> rfl
theorem newD_ok {k s : Nat} {most : Int} (hk : 1 ≤ k ∧ k ≤ 100) (hs : 1 ≤ s ∧ s ≤ 65535) (hm : 1 ≤ most ∧ most ≤ 1048576) : (newD k s most).ok :=
  { k1 := hk, s1 := hs, ni := rfl, np := rfl, nm := by show ((0 : Nat) : Int) ≤ most; omega, m1 := hm, kl := by simp [newD], vl := by simp [newD]
    ss := fun l hl => by simp [newD] at hl
    pl := fun p hp => by simp [newD] at hp
    vs := fun i hi hk => by rw [show (newD k s most).kn = List.replicate k false from rfl, knw_rep] at hk; cases hk
    id := fun i hi => by simp [newD] at hi }
theorem newD_stable (k s : Nat) (most : Int) : Stable (newD k s most) := fun q hq => by simp [newD] at hq
def pbad (k s most : Int) : Prop := bad k most ∨ s < 1 ∨ 65535 < s
instance (k s most : Int) : Decidable (pbad k s most) := by unfold pbad; infer_instance
def PnPost (w : World) (k s most : Int) (e : Ending) (w' : World) : Prop :=
  if pbad k s most then e = .returned (.tuple #[.pointer none, .int .i64 3]) ∧ Below w.heap.size w w'
  else ∃ D m F, e = .returned (.tuple #[.pointer (some ⟨D, 0, none⟩), .int .i64 0]) ∧ Dp w' w.heap.size D m ((newD k.toNat s.toNat most).dc []) F ∧ Below w.heap.size w w'
theorem new_dp {w w1 : World} {G : Nat} {tag : Nat → Option Nat} {L : GL} {k s : Nat} {most : Int} (hk : 1 ≤ k ∧ k ≤ 100) (hs : 1 ≤ s ∧ s ≤ 65535) (hm : 1 ≤ most ∧ most ≤ 1048576) (hg : Gr w1 w.heap.size G tag L (List.replicate k false) [] most) (hb : Below w.heap.size w w1) (hG : ∀ b, tag b ≠ none → b < w1.heap.size) :
    ∃ m F, Dp (((w1.alloc (.map #[] 0)).alloc (.cells (Array.replicate k (.slice none 0 0)) 83)).alloc (.cells #[.pointer (some ⟨G, 0, none⟩), .int .i64 (s : Nat), .map (some w1.heap.size), .slice none 0 0, .slice (some ⟨w1.heap.size + 1, 0, none⟩) k k, .slice none 0 0, .int .i64 most] 129)) w.heap.size (w1.heap.size + 1 + 1) m ((newD k s most).dc []) F := by
  have b1 : Below w1.heap.size w1 (w1.alloc (.map #[] 0)) := (Below.refl _ _).alloc (Nat.le_refl _) _
  have z1 : (w1.alloc (.map #[] 0)).heap.size = w1.heap.size + 1 := World.size_alloc _ _
  have m1 : (w1.alloc (.map #[] 0)).ownsMap Tryz.prog 3 (unitElem (H := Unit)) w1.heap.size 0 (idD []) := World.ownsMap_made _ _ _ _
  generalize w1.alloc (.map #[] 0) = w2 at b1 z1 m1 ⊢
  have b2 : Below w2.heap.size w2 (w2.alloc (.cells (Array.replicate k (.slice none 0 0)) 83)) := (Below.refl _ _).alloc (Nat.le_refl _) _
  have z2 : (w2.alloc (.cells (Array.replicate k (.slice none 0 0)) 83)).heap.size = w2.heap.size + 1 := World.size_alloc _ _
  have m2 := m1.alloc (.cells (Array.replicate k (.slice none 0 0)) 83)
  have s2 : Bk (w2.alloc (.cells (Array.replicate k (.slice none 0 0)) 83)) w2.heap.size 83 (List.replicate k (.slice none 0 0)) := by
    have := Bk.newA w2 83 (Array.replicate k (.slice none 0 0))
    rw [Array.toList_replicate] at this
    exact this
  generalize w2.alloc (.cells (Array.replicate k (.slice none 0 0)) 83) = w3 at b2 z2 m2 s2 ⊢
  rw [z1] at s2
  generalize hcs : (#[.pointer (some ⟨G, 0, none⟩), .int .i64 (s : Nat), .map (some w1.heap.size), .slice none 0 0, .slice (some ⟨w1.heap.size + 1, 0, none⟩) k k, .slice none 0 0, .int .i64 most] : Array Value) = cs
  have b3 : Below w3.heap.size w3 (w3.alloc (.cells cs 129)) := (Below.refl _ _).alloc (Nat.le_refl _) _
  have z3 : (w3.alloc (.cells cs 129)).heap.size = w3.heap.size + 1 := World.size_alloc _ _
  have m3 := m2.alloc (.cells cs 129)
  have s3 := s2.alloc (.cells cs 129)
  have e3 := Bk.newA w3 129 cs
  generalize w3.alloc (.cells cs 129) = w4 at b3 z3 m3 s3 e3 ⊢
  rw [z2, z1] at e3
  have hbb : Below w1.heap.size w1 w4 := (b1.trans (b2.mono (by omega))).trans (b3.mono (by omega))
  have hkn : ∀ i : Nat, knw ((newD k s most).dc []).sk (i : Int) = false := fun i => knw_rep k i
  refine ⟨{ G := G, tag := tag, L := L, M := w1.heap.size, mn := 0, LA := none, lc := 0, lf := [], SB := w1.heap.size + 1, sy := fun _ => (none, 0), v := .slice none 0 0 }, fun b => b = w1.heap.size ∨ b = w1.heap.size + 1 ∨ b = w1.heap.size + 1 + 1, ?_⟩
  have hbs := hb.size
  have hn : ∀ b, w1.heap.size ≤ b → tag b = none := fun b hb => Classical.byContradiction fun e => by have := hG b e; omega
  exact {
    e := by rw [← hcs] at e3; exact e3
    gr := hg.below hbb
    gk := by show (List.replicate k false).length = k; simp
    mp := m3
    mq := by show 0 ≤ _; omega
    lw := World.ownsRow_nil _ _ _ _
    ll := rfl
    lx := fun p hp => absurd hp (Nat.not_lt_zero _)
    sb := by
      have e : (List.range k).map (syv ((newD k s most).dc []) { G := G, tag := tag, L := L, M := w1.heap.size, mn := 0, LA := none, lc := 0, lf := [], SB := w1.heap.size + 1, sy := fun _ => (none, 0), v := .slice none 0 0 }) = List.replicate k (.slice none 0 0) := by
        rw [List.eq_replicate_iff]
        refine ⟨by simp, fun b hb => ?_⟩
        obtain ⟨i, _, rfl⟩ := List.mem_map.1 hb
        exact Dp.symn (hkn i)
      show Bk w4 (w1.heap.size + 1) _ ((List.range k).map _)
      rw [e]; exact s3
    sx := fun i hi hk => by rw [hkn i] at hk; cases hk
    rp := World.ownsRow_nil _ _ _ _
    hp := by show Hp []; unfold Hp; intros; simp at *
    ft := fun e he => by simp [DS.dc] at he
    dl := fun p q hp => absurd hp (Nat.not_lt_zero _)
    ds := fun p i hp => absurd hp (Nat.not_lt_zero _)
    ls := fun a ha => by cases ha
    fD := .inr (.inr rfl), fM := .inl rfl, fS := .inr (.inl rfl)
    fL := fun a ha => by cases ha
    fv := fun b hb => by cases hb
    fl := fun p hp => absurd hp (Nat.not_lt_zero _)
    fy := fun i hi hk => by rw [hkn i] at hk; cases hk
    tg := fun b hb => hn b (by omega)
    fb := fun b hb => by omega
    bs := by omega
    s1 := hs, m1 := hm }
set_option maxRecDepth 100000 in
set_option maxHeartbeats 1600000 in
theorem new_pd {w : World} (k s most : Int) (hk : k ≤ 100 ∨ 65536 < k) : Calls Tryz.prog 35 #[.int .i64 k, .int .i64 s, .int .i64 most] w (PnPost w k s most) := by
  have HG := Lib.hid (new_gr (w := w) k most)
  by_cases hb : bad k most
  · have HP := Lib.hid (show pbad k s most from .inl hb)
    have HB := Lib.hid hb
    clear hb hk
    go_enter Tryz.func35, Tryz.ntmps35
    go_wp2_with fail
    refine HG.out.mono ?_
    intro e w1 hn
    unfold NgrPost at hn
    rw [if_pos HB.out] at hn
    obtain ⟨rfl, rfl⟩ := hn
    go_wp2_with fail
    go_ret2
    unfold PnPost
    rw [if_pos HP.out]
    exact ⟨rfl, Below.refl _ _⟩
  · have hk1 : 1 ≤ k ∧ k ≤ 100 := by unfold bad at hb; omega
    have hm1 : 1 ≤ most ∧ most ≤ 1048576 := by unfold bad at hb; omega
    have HB := Lib.hid (And.intro hb (And.intro hk1 hm1))
    obtain ⟨K, rfl⟩ : ∃ K : Nat, k = K := ⟨k.toNat, by omega⟩
    have hK : 1 ≤ K ∧ K ≤ 100 := by omega
    by_cases h1 : s < 1
    · have d1 : decide (s < 1) = true := decide_eq_true h1
      have HP := Lib.hid (show pbad K s most from .inr (.inl h1))
      clear h1 hb hk hk1 hm1 hK
      go_enter Tryz.func35, Tryz.ntmps35
      go_wp2_with fail
      refine HG.out.mono ?_
      intro e w1 hn
      unfold NgrPost at hn
      rw [if_neg HB.out.1] at hn
      obtain ⟨G, tag, L, rfl, hg, hbl⟩ := hn
      have HL := Lib.hid hbl
      clear hg hbl
      go_wp2_with fail
      go_ret2
      unfold PnPost
      rw [if_pos HP.out]
      exact ⟨rfl, HL.out⟩
    · have d1 : decide (s < 1) = false := decide_eq_false h1
      by_cases h2 : 65535 < s
      · have d2 : decide (65535 < s) = true := decide_eq_true h2
        have d3 : decide (s > 65535) = true := decide_eq_true h2
        have HP := Lib.hid (show pbad K s most from .inr (.inr h2))
        clear h1 h2 hb hk hk1 hm1 hK
        go_enter Tryz.func35, Tryz.ntmps35
        go_wp2_with fail
        refine HG.out.mono ?_
        intro e w1 hn
        unfold NgrPost at hn
        rw [if_neg HB.out.1] at hn
        obtain ⟨G, tag, L, rfl, hg, hbl⟩ := hn
        have HL := Lib.hid hbl
        clear hg hbl
        go_wp2_with fail
        go_ret2
        unfold PnPost
        rw [if_pos HP.out]
        exact ⟨rfl, HL.out⟩
      · have d2 : decide (65535 < s) = false := decide_eq_false h2
        have d3 : decide (s > 65535) = false := decide_eq_false h2
        obtain ⟨S, rfl⟩ : ∃ S : Nat, s = S := ⟨s.toNat, by omega⟩
        have HP := Lib.hid (show ¬ pbad K S most from by unfold pbad; intro h; rcases h with h | h | h; exact hb h; omega; omega)
        have HZ := Lib.hid (show (1 ≤ K ∧ K ≤ 100) ∧ (1 ≤ S ∧ S ≤ 65535) ∧ (1 ≤ most ∧ most ≤ 1048576) from ⟨hK, by omega, hm1⟩)
        have hmm := @run_makeMap Tryz.prog
        have hmk := run_make_syms K (by omega)
        clear h1 h2 hb hk hk1 hm1 hK
        go_enter Tryz.func35, Tryz.ntmps35
        go_wp2_with fail
        refine HG.out.mono ?_
        intro e w1 hn
        unfold NgrPost at hn
        rw [if_neg HB.out.1] at hn
        obtain ⟨G, tag, L, rfl, hg, hbl⟩ := hn
        rw [Int.toNat_natCast] at hg
        have HL := Lib.hid (And.intro hg hbl)
        clear hg hbl
        go_wp2_with fail
        go_ret2
        unfold PnPost
        rw [if_neg HP.out, Int.toNat_natCast, Int.toNat_natCast]
        obtain ⟨m, F, hD⟩ := new_dp HZ.out.1 HZ.out.2.1 HZ.out.2.2 HL.out.1 HL.out.2 (fun b hb => (HL.out.1.gm.lt b hb).2)
        refine ⟨_, m, F, rfl, hD, ?_⟩
        exact ((HL.out.2.alloc HL.out.2.size _).alloc (by have := HL.out.2.size; rw [World.size_alloc]; omega) _).alloc (by have := HL.out.2.size; rw [World.size_alloc, World.size_alloc]; omega) _
end Go.Proofs.YtlhipaffhehcnaaGreat
namespace Go.Proofs.YtlhipaffhehcnaaGreat
open Go.RowKit
set_option linter.unusedVariables false
def nextN (d : DS) : Nat → Option (Nat × Nat)
  | 0 => none
  | n + 1 => match rst d.kn (d.set n) with
    | [y] => match nextN d n with
      | none => some (y.toNat, n)
      | some (x, q) => if y.toNat < x then some (y.toNat, n) else some (x, q)
    | _ => nextN d n
def DS.nx (d : DS) : Option (Nat × Nat) := nextN d d.sets.length
def peelF : Nat → DS → List Int × DS
  | 0, d => ([], d)
  | n + 1, d => match d.nx with
    | none => ([], d)
    | some (x, p) => ((x : Int) :: (peelF n (d.took x p)).1, (peelF n (d.took x p)).2)
def NextTo (d : DS) (n : Nat) : Option (Nat × Nat) → Prop
  | none => ∀ q, q < n → ∀ y, rst d.kn (d.set q) ≠ [y]
  | some (x, p) => p < n ∧ rst d.kn (d.set p) = [(x : Int)] ∧ ∀ q (y : Int), q < n → rst d.kn (d.set q) = [y] → (x : Int) < y ∨ ((x : Int) = y ∧ p ≤ q)
theorem rst_nat {d : DS} (hd : d.ok) {n : Nat} (hn : n < d.sets.length) {y : Int} (hy : rst d.kn (d.set n) = [y]) : 0 ≤ y ∧ y < d.k :=
  (hd.sset hn).inr y (mem_rst.1 (by rw [hy]; exact List.mem_cons_self ..)).1
theorem nextN_spec {d : DS} (hd : d.ok) : ∀ n, n ≤ d.sets.length → NextTo d n (nextN d n)
  | 0, _ => fun q hq => absurd hq (Nat.not_lt_zero _)
  | n + 1, hn => by
    have ih := nextN_spec hd n (by omega)
    unfold nextN
    split
    · rename_i y hy
      have hy0 := rst_nat hd (by omega) hy
      split
      · rename_i hx
        rw [hx] at ih
        refine ⟨by omega, by rw [hy]; congr 1; omega, fun q z hq hz => ?_⟩
        by_cases e : q = n
        · subst e
          rw [hy] at hz; injection hz with hz
          right; exact ⟨by omega, Nat.le_refl _⟩
        · exact absurd hz (ih q (by omega) z)
      · rename_i x q hx
        rw [hx] at ih
        obtain ⟨h1, h2, h3⟩ := ih
        split
        · rename_i hlt
          refine ⟨by omega, by rw [hy]; congr 1; omega, fun q' z hq hz => ?_⟩
          by_cases e : q' = n
          · subst e
            rw [hy] at hz; injection hz with hz
            right; exact ⟨by omega, Nat.le_refl _⟩
          · have := h3 q' z (by omega) hz
            omega
        · rename_i hlt
          refine ⟨by omega, h2, fun q' z hq hz => ?_⟩
          by_cases e : q' = n
          · subst e
            rw [hy] at hz; injection hz with hz
            omega
          · exact h3 q' z (by omega) hz
    · rename_i hno
      cases hx : nextN d n with
      | none =>
        rw [hx] at ih
        intro q hq y hy
        by_cases e : q = n
        · subst e; exact hno y hy
        · exact ih q (by omega) y hy
      | some xp =>
        obtain ⟨x, p⟩ := xp
        rw [hx] at ih
        obtain ⟨h1, h2, h3⟩ := ih
        refine ⟨by omega, h2, fun q z hq hz => ?_⟩
        by_cases e : q = n
        · subst e; exact absurd hz (hno z)
        · exact h3 q z (by omega) hz
theorem nx_some {d : DS} (hd : d.ok) {x p : Nat} (h : d.nx = some (x, p)) : Next d x p := by
  have := nextN_spec hd _ (Nat.le_refl _)
  unfold DS.nx at h
  rw [h] at this
  exact this
theorem nx_none {d : DS} (hd : d.ok) (h : d.nx = none) : Stable d := by
  have := nextN_spec hd _ (Nat.le_refl _)
  unfold DS.nx at h
  rw [h] at this
  exact this
theorem peelF_spec : ∀ (n : Nat) (d : DS), d.ok → unk d.kn < n → Peels d (peelF n d).1 (peelF n d).2 ∧ Stable (peelF n d).2
  | 0, d, _, h => absurd h (Nat.not_lt_zero _)
  | n + 1, d, hd, h => by
    unfold peelF
    split
    · rename_i hx
      exact ⟨.nil _, nx_none hd hx⟩
    · rename_i x p hx
      have hn := nx_some hd hx
      have h2 : unk (d.kn.set x true) + 1 = unk d.kn := unk_set (by rw [hd.kl]; exact hn.lt hd) hn.mem.2
      have h3 : unk (d.took x p).kn = unk (d.kn.set x true) := rfl
      have ih := peelF_spec n (d.took x p) (hd.took hn) (by omega)
      exact ⟨.cons hn ih.1, ih.2⟩
/-- What adding tells, its error, the decoder then. -/
def DS.add (d : DS) (id : Int) (set : List Int) (pay : List UInt8) : List Int × Int × DS :=
  if d.err id set pay = 0 then ((peelF (d.k + 1) (d.addP id set pay)).1, 0, (peelF (d.k + 1) (d.addP id set pay)).2) else ([], d.err id set pay, d)
theorem unk_lt {d : DS} (hd : d.ok) : unk d.kn < d.k + 1 := by have := unk_le d.kn; have := hd.kl; omega
theorem add_eq {d d' : DS} (hd : d.ok) {id : Int} {set : List Int} {pay : List UInt8} (he : d.err id set pay = 0) {out : List Int} (h : Peels (d.addP id set pay) out d') (hs : Stable d') : d.add id set pay = (out, 0, d') := by
  have hok := hd.addP he
  obtain ⟨h1, h2⟩ := peelF_spec (d.k + 1) (d.addP id set pay) hok (unk_lt hok)
  obtain ⟨e1, e2⟩ := h.uniq hs h1 h2
  unfold DS.add
  rw [if_pos he, ← e1, ← e2]
theorem dadd_bad {d : DS} {id : Int} {set : List Int} {pay : List UInt8} (he : d.err id set pay ≠ 0) : d.add id set pay = ([], d.err id set pay, d) := by unfold DS.add; rw [if_neg he]
/-- A decoder at rest, in a law's memory. -/
def Dw (w : World) (base D : Nat) (d : DS) (A : Nat → Prop) : Prop := ∃ m F, Dp w base D m (d.dc []) F ∧ d.ok ∧ Stable d ∧ ∀ b, m.all F b → A b
section
variable {w w' : World} {base D : Nat} {d : DS} {FA : Nat → Prop}
theorem Dw.other (h : Dw w base D d FA) {S : Nat → Prop} (hc : Chg S w w') (hS : ∀ b, FA b → ¬ S b) : Dw w' base D d FA := by
  obtain ⟨m, F, h1, h2, h3, h4⟩ := h
  exact ⟨m, F, h1.other hc fun b hb => hS b (h4 b hb), h2, h3, h4⟩
theorem Dw.below (h : Dw w base D d FA) (hb : Below w.heap.size w w') : Dw w' base D d FA := h.other (Chg.of_below (S := fun _ => False) hb) fun _ _ e => e
theorem Dw.ok (h : Dw w base D d FA) : d.ok := by obtain ⟨m, F, h1, h2, h3, h4⟩ := h; exact h2
theorem Dw.st (h : Dw w base D d FA) : Stable d := by obtain ⟨m, F, h1, h2, h3, h4⟩ := h; exact h3
theorem Dw.mono (h : Dw w base D d FA) {FB : Nat → Prop} (hF : ∀ b, FA b → FB b) : Dw w base D d FB := by
  obtain ⟨m, F, h1, h2, h3, h4⟩ := h; exact ⟨m, F, h1, h2, h3, fun b hb => hF b (h4 b hb)⟩
theorem left_dw (h : Dw w base D d FA) : Calls Tryz.prog 41 #[.pointer (some ⟨D, 0, none⟩)] w fun e w' => e = .returned (.int .i64 (unk d.kn : Nat)) ∧ w = w' := by obtain ⟨m, F, h1, _⟩ := h; exact left_dp h1
theorem symbol_dw (h : Dw w base D d FA) (i : Int) : Calls Tryz.prog 39 #[.pointer (some ⟨D, 0, none⟩), .int .i64 i] w (SyPost w (syR d i).1 (syR d i).2) := by obtain ⟨m, F, h1, h2, _⟩ := h; exact symbol_dp h1 h2 i
theorem known_dw (h : Dw w base D d FA) : Calls Tryz.prog 38 #[.pointer (some ⟨D, 0, none⟩)] w fun e w' => ∃ v, e = .returned v ∧ w'.ownsRow w.heap.size 3 1 v (knL d.kn).length (nums (knL d.kn)) ∧ Below w.heap.size w w' := by obtain ⟨m, F, h1, h2, _⟩ := h; exact known_dp h1 h2
def AdPost (w : World) (base D : Nat) (d : DS) (FA : Nat → Prop) (id : Int) (set : List Int) (pay : List UInt8) (e : Ending) (w' : World) : Prop :=
  ∃ v FB, e = .returned (.tuple #[v, .int .i64 (d.add id set pay).2.1]) ∧ Dw w' base D (d.add id set pay).2.2 FB ∧ (∀ b, FB b → FA b ∨ w.heap.size ≤ b) ∧ Chg FA w w' ∧ Hl w' w.heap.size FB v (d.add id set pay).1
theorem add_dw (h : Dw w base D d FA) {A B : Option Addr} {n nb cA cB : Nat} {set : List Int} {pay : List UInt8} {id : Int} (hN : d.sets.length < 1000) (hr : Rd w A n (nums set)) (hn : n ≤ 1000000) (hp : Rd w B nb (bys pay)) (hnb : nb ≤ 140737488351232) (hw : (Lit.int .i64 id).wf = true)
    (hA : 0 < n → ∀ a, A = some a → ¬ FA a.block) (hB : 0 < nb → ∀ a, B = some a → ¬ FA a.block) :
    Calls Tryz.prog 37 #[.pointer (some ⟨D, 0, none⟩), .int .i64 id, .slice A n cA, .slice B nb cB] w (AdPost w base D d FA id set pay) := by
  obtain ⟨m, F, h1, h2, h3, h4⟩ := h
  have hargs : AArgs w base D m F d A n set B nb pay id := ⟨h1, h2, hr, hp, hn, hnb, hN, hw⟩
  by_cases he : d.err id set pay = 0
  · refine (padd_ok hargs h3 (fun h0 a ha e => hA h0 a ha (h4 _ e)) (fun h0 a ha e => hB h0 a ha (h4 _ e)) he).mono ?_
    rintro e w' ⟨v, out, d', m', F', rfl, p1, p2, p3, p4, p5⟩
    have e := add_eq h2 he p1 p2
    refine ⟨v, m'.all F', by rw [e], ?_, fun b hb => ?_, p4.1.mono fun b _ hb => h4 b hb, by rw [e]; exact p5⟩
    · rw [e]; exact ⟨m', F', p3, p1.ok (h2.addP he), p2, fun b hb => hb⟩
    · exact (p4.2 b hb).elim (fun e => .inl (h4 b e)) .inr
  · refine (padd_bad hargs he).mono ?_
    rintro e w' ⟨rfl, hb⟩
    have e := dadd_bad he
    refine ⟨.slice none 0 0, FA, by rw [e], ?_, fun b hb => .inl hb, Chg.of_below hb, ?_⟩
    · rw [e]; exact ⟨m, F, h1.below hb, h2, h3, h4⟩
    · rw [e]; exact ⟨World.ownsRow_nil _ _ _ _, fun b hb => by cases hb⟩
def PwPost (w : World) (k s most : Int) (e : Ending) (w' : World) : Prop :=
  if pbad k s most then e = .returned (.tuple #[.pointer none, .int .i64 3]) ∧ Below w.heap.size w w'
  else ∃ D, e = .returned (.tuple #[.pointer (some ⟨D, 0, none⟩), .int .i64 0]) ∧ Dw w' w.heap.size D (newD k.toNat s.toNat most) (fun b => w.heap.size ≤ b ∧ b < w'.heap.size) ∧ Below w.heap.size w w'
theorem new_dw (k s most : Int) (hk : k ≤ 100 ∨ 65536 < k) : Calls Tryz.prog 35 #[.int .i64 k, .int .i64 s, .int .i64 most] w (PwPost w k s most) := by
  refine (new_pd k s most hk).mono ?_
  intro e w' h
  unfold PnPost at h
  unfold PwPost
  split
  · rename_i hb; rw [if_pos hb] at h; exact h
  · rename_i hb
    rw [if_neg hb] at h
    obtain ⟨D, m, F, rfl, h1, h2⟩ := h
    have hb' : ¬ (bad k most ∨ s < 1 ∨ 65535 < s) := hb
    unfold bad at hb'
    exact ⟨D, rfl, ⟨m, F, h1, newD_ok (by omega) (by omega) (by omega), newD_stable _ _ _, fun b hb => h1.all_lt hb⟩, h2⟩
end
end Go.Proofs.YtlhipaffhehcnaaGreat
