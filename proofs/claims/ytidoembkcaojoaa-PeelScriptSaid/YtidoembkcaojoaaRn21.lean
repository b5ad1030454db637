/- Chapter 21: the document's decoder: next, Known, Left, Symbol, Block. -/
import Derived.Test.YtidoembkcaojoaaRm21
import Derived.Test.YtidoembkcaojoaaSn21
import Derived.Deep.RegionHeld3
namespace Go.Proofs.Ytidoembkcaojoaa
open Go.RowKit
set_option linter.unusedVariables false
def bstI (k : Nat) : Option (Nat × Nat) → Int
  | none => k
  | some (x, _) => x
def atI : Option (Nat × Nat) → Int
  | none => -1
  | some (_, p) => p
theorem nextN_rng {d : DS} (hd : d.ok) {j : Nat} (hj : j ≤ d.sets.length) : 0 ≤ bstI d.k (nextN d j) ∧ bstI d.k (nextN d j) ≤ d.k ∧ -1 ≤ atI (nextN d j) ∧ atI (nextN d j) < j + 1 := by
  have h := nextN_spec hd j hj
  cases hx : nextN d j with
  | none => exact ⟨by show (0 : Int) ≤ (d.k : Int); omega, Int.le_refl _, by decide, by show (-1 : Int) < _; omega⟩
  | some xp =>
    obtain ⟨x, p⟩ := xp
    rw [hx] at h
    have := rst_nat hd (by have := h.1; omega) h.2.1
    have h1 := h.1
    refine ⟨?_, ?_, ?_, ?_⟩
    · show (0 : Int) ≤ (x : Int); omega
    · show (x : Int) ≤ _; omega
    · show (-1 : Int) ≤ (p : Int); omega
    · show (p : Int) < _; omega
theorem nextN_step {d : DS} (hd : d.ok) {j : Nat} (hj : j < d.sets.length) :
    (lf1 d.k (rst d.kn (d.set j)) < bstI d.k (nextN d j) → bstI d.k (nextN d (j + 1)) = lf1 d.k (rst d.kn (d.set j)) ∧ atI (nextN d (j + 1)) = j) ∧ (¬ lf1 d.k (rst d.kn (d.set j)) < bstI d.k (nextN d j) → nextN d (j + 1) = nextN d j) := by
  have hr := nextN_rng hd (Nat.le_of_lt hj)
  match hs : rst d.kn (d.set j) with
  | [y] =>
    have hy := rst_nat hd hj hs
    have e : nextN d (j + 1) = (match nextN d j with | none => some (y.toNat, j) | some (x, q) => if y.toNat < x then some (y.toNat, j) else some (x, q)) := by
      rw [nextN, hs]
      rfl
    rw [e]
    cases hx : nextN d j with
    | none =>
      refine ⟨fun _ => ⟨?_, rfl⟩, fun hn => absurd ?_ hn⟩
      · show (y.toNat : Int) = y; omega
      · show y < (d.k : Int); exact hy.2
    | some xp =>
      obtain ⟨x, q⟩ := xp
      show (y < (x : Int) → bstI d.k (if y.toNat < x then some (y.toNat, j) else some (x, q)) = y ∧ atI (if y.toNat < x then some (y.toNat, j) else some (x, q)) = j) ∧ (¬ y < (x : Int) → (if y.toNat < x then some (y.toNat, j) else some (x, q)) = some (x, q))
      by_cases hc : y.toNat < x
      · rw [if_pos hc]
        exact ⟨fun _ => ⟨by show (y.toNat : Int) = y; omega, rfl⟩, fun hn => by omega⟩
      · rw [if_neg hc]
        exact ⟨fun hn => by omega, fun _ => rfl⟩
  | [] =>
    have e : nextN d (j + 1) = nextN d j := by rw [nextN, hs]
    rw [e]
    exact ⟨fun hn => by have : lf1 d.k [] = (d.k : Int) := rfl; omega, fun _ => rfl⟩
  | y :: z :: l =>
    have e : nextN d (j + 1) = nextN d j := by rw [nextN, hs]
    rw [e]
    exact ⟨fun hn => by have : lf1 d.k (y :: z :: l) = (d.k : Int) := rfl; omega, fun _ => rfl⟩
section
variable {w w' : World} {base D : Nat} {m : RM} {d : DS} {F : Nat → Prop}
set_option maxRecDepth 100000 in
set_option maxHeartbeats 1600000 in
/-- next -/
theorem rnext_any (h : Rc w base D m d F) (hd : d.ok) (hN : d.sets.length ≤ 1000) :
    Calls Try.prog 48 #[.pointer (some ⟨D, 0, none⟩)] w fun e w' => e = .returned (.int .i64 (atI d.nx)) ∧ Below w.heap.size w w' := by
  obtain ⟨K, hK⟩ : ∃ K, d.k = K := ⟨_, rfl⟩
  obtain ⟨n, hn⟩ : ∃ n, d.sets.length = n := ⟨_, rfl⟩
  have hn9 : (n : Int) ≤ 1000 := by omega
  have hK9 : (K : Int) ≤ 100 := by have := hd.k1; omega
  have H := Lib.hid (And.intro h (And.intro hd (And.intro hn hK)))
  have c0 : w.cell? ⟨D, 0, none⟩ = some (.int .i64 (K : Nat)) := by rw [← hK]; exact h.e.cell 0
  have c3 : w.cell? ⟨D, 3, none⟩ = some (.slice m.LV n m.lc) := by rw [← hn]; exact h.e.cell 3
  clear h hd hn hK
  go_enter Try.func48, Try.ntmps48
  go_wp2_with fail
  go_loopw [3, 4, 5] (fun b a i wr => ∃ j : Nat, j ≤ n ∧ i = .int .i64 j ∧ b = .int .i64 (bstI K (nextN d j)) ∧ a = .int .i64 (atI (nextN d j)) ∧ Below w.heap.size w wr) (fun b a i wr => n - (intOf i).toNat)
  case atStart => exact ⟨0, by omega, rfl, rfl, rfl, Below.refl _ _⟩
  case round =>
    obtain ⟨j, hj, rfl, rfl, rfl, hb⟩ := hrel
    have c3 := cell_below hb c3
    by_cases hlt : j < n
    · have km : (j : Int) < (n : Int) := by omega
      have kd : decide ((j : Int) < (n : Int)) = true := decide_eq_true km
      have kd' : decide (j < n) = true := decide_eq_true hlt
      have j0 : (0 : Int) ≤ (j : Int) := by omega
      have hjs : j < d.sets.length := by rw [H.out.2.2.1]; exact hlt
      obtain ⟨g, a, e, hin, _, hok, hset, _, _, _, ca, _, hlc⟩ := (H.out.1.below hb).pc hjs
      rw [e] at c3
      have hrng := nextN_rng H.out.2.1 (Nat.le_of_lt hjs)
      have hstep := nextN_step H.out.2.1 hjs
      have hS := H.out.2.1.sset hjs
      have hln := hS.len
      have hk1 := H.out.2.1.k1
      have hleft := rleft_any (c := a.c) (H.out.1.below hb) H.out.2.1 (l := a.set) hok.2.2.1 (by rw [hset]; exact hS.inr) (by rw [hok.1, hset]; omega)
      rw [hset] at hleft
      rw [H.out.2.2.2] at hrng hstep hleft
      obtain ⟨q, hq⟩ : ∃ q, lf1 K (rst d.kn (d.set j)) = q := ⟨_, rfl⟩
      obtain ⟨bb, hbb⟩ : ∃ bb, bstI K (nextN d j) = bb := ⟨_, rfl⟩
      rw [hq] at hstep hleft
      rw [hbb] at hstep hrng
      have HX := Lib.hid (And.intro hb (And.intro hlt (And.intro hstep (And.intro hleft (And.intro hrng hbb)))))
      rw [hbb]
      clear hb hlt hstep hleft hrng hbb hq hS hln hk1 hok hin hset hjs hj e
      go_wp2_with fail
      refine HX.out.2.2.2.1.mono ?_
      rintro e w2 ⟨rfl, hb2⟩
      have HB := Lib.hid (below_base HX.out.1 hb2 HX.out.1.size)
      clear hb2 ca
      by_cases hc : q < bb
      · have e1 : decide (q < bb) = true := decide_eq_true hc
        have HS := Lib.hid (HX.out.2.2.1.1 hc)
        clear hc
        go_wp2_with fail
        exact ⟨⟨j + 1, HX.out.2.1, by go_num, by rw [HS.out.1], by rw [HS.out.2], HB.out⟩, by have := HX.out.2.1; simp [intOf]; omega⟩
      · have e1 : decide (q < bb) = false := decide_eq_false hc
        have HS := Lib.hid (HX.out.2.2.1.2 (by omega))
        clear hc
        go_wp2_with fail
        exact ⟨⟨j + 1, HX.out.2.1, by go_num, by rw [HS.out, HX.out.2.2.2.2.2], by rw [HS.out], HB.out⟩, by have := HX.out.2.1; simp [intOf]; omega⟩
    · have hjn : j = n := by omega
      have kd : decide ((j : Int) < (n : Int)) = false := decide_eq_false (by omega)
      have kd' : decide (j < n) = false := decide_eq_false (by omega)
      have HB := Lib.hid hb
      have HE := Lib.hid (show nextN d j = d.nx from by unfold DS.nx; rw [H.out.2.2.1, hjn])
      clear hb hlt hj
      subst hjn
      go_wp2_with fail
      go_ret
      exact ⟨ret_int (by rw [HE.out]), HB.out⟩
set_option maxRecDepth 100000 in
set_option maxHeartbeats 1600000 in
/-- Known -/
theorem rknown_any (h : Rc w base D m d F) (hd : d.ok) : Calls Try.prog 52 #[.pointer (some ⟨D, 0, none⟩)] w fun e w' => ∃ v, e = .returned v ∧ w'.ownsRow w.heap.size 3 1 v (knL d.kn).length (nums (knL d.kn)) ∧ Below w.heap.size w w' := by
  obtain ⟨i0, hi0, hz0, hz1, hz2⟩ := info_parts u3_info
  obtain ⟨K, hK⟩ : ∃ K, d.k = K := ⟨_, rfl⟩
  have hK9 : K ≤ 100 := by have := hd.k1; omega
  have H := Lib.hid (And.intro h (And.intro hd hK))
  have c0 : w.cell? ⟨D, 0, none⟩ = some (.int .i64 (K : Nat)) := by rw [← hK]; exact h.e.cell 0
  have c4 : w.cell? ⟨D, 4, none⟩ = some (.slice (some ⟨m.IS, 0, none⟩) K K) := by rw [← hK]; exact h.e.cell 4
  clear h hd hK
  go_enter Try.func52, Try.ntmps52
  go_wp2_with fail
  go_loopw [3, 4] (fun v q wr => ∃ j : Nat, j ≤ K ∧ q = .int .i64 j ∧ wr.ownsRow w.heap.size 3 1 v (knF d.kn j).length (nums (knF d.kn j)) ∧ Below w.heap.size w wr) (fun v q wr => K - (intOf q).toNat)
  case atStart => exact ⟨0, by omega, rfl, World.ownsRow_nil _ _ _ _, Below.refl _ _⟩
  case round =>
    obtain ⟨j, hj, rfl, how, hb⟩ := hrel
    have c0 := cell_below hb c0
    have c4 := cell_below hb c4
    by_cases hlt : j < K
    · have km : (j : Int) < (K : Int) := by omega
      have kd : decide ((j : Int) < (K : Int)) = true := decide_eq_true km
      have kd' : decide (j < K) = true := decide_eq_true hlt
      have j0 : (0 : Int) ≤ (j : Int) := by omega
      have ci := (H.out.1.below hb).isc H.out.2.1 (x := j) (by rw [H.out.2.2]; exact hlt)
      have hF := knF_succ d.kn j
      have hle := knF_le d.kn j
      obtain ⟨L, hL⟩ : ∃ L, knF d.kn j = L := ⟨_, rfl⟩
      rw [hL] at how hF hle
      obtain ⟨r, hr⟩ : ∃ r, L.length = r := ⟨_, rfl⟩
      rw [hr] at how hle
      have hr9 : r ≤ 100 := by omega
      cases hk : knw d.kn (j : Int) with
      | true =>
        rw [hk] at ci
        rw [hk, if_pos rfl] at hF
        obtain ⟨V, cv, rfl⟩ := own_sl how
        have HW := Lib.hid (And.intro how (And.intro hb (And.intro hF (And.intro hr hlt))))
        clear how hb hF hL hr hlt hle hk hj
        go_wp2_with (at_builtin; refine wpList_append_rd _ rfl (.tmp 20) (.tmp 22) _ rfl w.heap.size 3 i0 _ 1 8 Try.underlying23 hi0 hz0 hz1 hz2 rfl (by omega) _ r (nums L) rfl (own_below HW.out.1 ((Below.refl _ _).alloc (Nat.le_refl _) _)) (some ⟨wr.heap.size, 0, none⟩) 1 1 (nums [(j : Int)]) rfl (Rd.lit _ _ _ _ rfl 1 rfl _ rfl) (nums_one _) (by simp only [maxLen]; omega) (by omega) (by have := HW.out.2.1.size; rw [World.size_alloc]; omega) ?_; intro v1 w3 hown1 hg1 hat1; rw [← nums_append] at hown1)
        have hS : Chg (fun k => (Value.slice V r cv).ownBlock = some k) wr w3 := ((Chg.refl _ wr).alloc _).trans (Chg.of_grown hg1 (S := fun k => (Value.slice V r cv).ownBlock = some k) fun k e => e) fun _ _ x => x
        have hb3 := hS.below HW.out.2.1 (fun b _ e => (HW.out.1.lt b e).1) HW.out.2.1.size
        exact ⟨⟨j + 1, HW.out.2.2.2.2, by go_num, by rw [HW.out.2.2.1, List.length_append, HW.out.2.2.2.1]; exact hown1, hb3⟩, by have := HW.out.2.2.2.2; simp [intOf]; omega⟩
      | false =>
        rw [hk] at ci
        rw [hk, if_neg (by simp), List.append_nil] at hF
        have HW := Lib.hid (And.intro how (And.intro hb (And.intro hF (And.intro hr hlt))))
        clear how hb hF hL hr hlt hle hk hj
        go_wp2_with fail
        exact ⟨⟨j + 1, HW.out.2.2.2.2, by go_num, by rw [HW.out.2.2.1, HW.out.2.2.2.1]; exact HW.out.1, HW.out.2.1⟩, by have := HW.out.2.2.2.2; simp [intOf]; omega⟩
    · obtain rfl : j = K := by omega
      have kd : decide ((j : Int) < (j : Int)) = false := decide_eq_false (by omega)
      have kd' : decide (j < j) = false := decide_eq_false (by omega)
      have HW := Lib.hid (And.intro how hb)
      clear how hb hlt hj
      go_wp2_with fail
      go_ret
      refine ⟨_, rfl, ?_, HW.out.2⟩
      unfold knL
      rw [H.out.2.1.kl, H.out.2.2]
      exact HW.out.1
set_option maxRecDepth 100000 in
set_option maxHeartbeats 1600000 in
/-- Left -/
theorem rleftN_any (h : Rc w base D m d F) (hd : d.ok) : Calls Try.prog 53 #[.pointer (some ⟨D, 0, none⟩)] w fun e w' => e = .returned (.int .i64 (unk d.kn : Nat)) ∧ Below w.heap.size w w' := by
  obtain ⟨K, hK⟩ : ∃ K, d.k = K := ⟨_, rfl⟩
  have hK9 : K ≤ 100 := by have := hd.k1; omega
  have H := Lib.hid (And.intro h hd)
  have c0 : w.cell? ⟨D, 0, none⟩ = some (.int .i64 (K : Nat)) := by rw [← hK]; exact h.e.cell 0
  have hlen := knL_len d.kn
  rw [hd.kl, hK] at hlen
  obtain ⟨r, hr⟩ : ∃ r, (knL d.kn).length = r := ⟨_, rfl⟩
  obtain ⟨u, hu⟩ : ∃ u, unk d.kn = u := ⟨_, rfl⟩
  rw [hr, hu] at hlen
  rw [hu]
  have HR := Lib.hid hr
  have hw1 : IntKind.i64.wrap ((K : Int) - (r : Int)) = (u : Int) := by rw [IntKind.wrap_i64]; omega
  have hw2 : wrap64 ((K : Int) - (r : Int)) = (u : Int) := by rw [wrap_idz (by omega) (by omega)]; omega
  have hD := h.e.lt
  have HD := Lib.hid hD
  clear h hd hK hr hu hlen hD
  go_enter Try.func53, Try.ntmps53
  go_wp2_with fail
  go_region_held3 (fun w' => w'.cell? ⟨D, 0, none⟩ = some (.int .i64 (K : Nat))) (first | exact C5.out | exact c0)
    ((first | (go_at_call 52; refine (rknown_any (H.out.1.below (Below.refl _ _).drew) H.out.2).mono ?_; rintro e w5 ⟨v5, rfl, ho5, hb5⟩; rw [HR.out] at ho5; obtain ⟨V5, c5, rfl⟩ := own_sl ho5; have hb6 := below_undrew hb5; have C5 := Lib.hid ((hb6.cell (p := ⟨D, 0, none⟩) HD.out).trans c0); have B5 := Lib.hid hb6; clear ho5 hb5 hb6)))
  all_goals go_wp2_with fail
  all_goals go_ret
  all_goals exact ⟨by first | rfl | exact ret_int hw1 | exact ret_int hw2, B5.out⟩
end
end Go.Proofs.Ytidoembkcaojoaa
