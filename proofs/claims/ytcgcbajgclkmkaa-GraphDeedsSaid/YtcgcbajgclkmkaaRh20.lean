/- The document's graph: Set, Rest, Of, Edges, New. -/
import Derived.Test.YtcgcbajgclkmkaaRg20
namespace Go.Proofs.Ytcgcbajgclkmkaa
open Go.RowKit
set_option linter.unusedVariables false
theorem okS_cons (k last x : Int) (l : List Int) : okS k last (x :: l) = if x ≤ last ∨ k ≤ x then false else okS k x l := rfl
set_option maxRecDepth 100000 in
set_option maxHeartbeats 3200000 in
/-- Set -/
theorem rset_any {w : World} {k : Nat} {A : Option Addr} {n c : Nat} {l : List Int} (hr : Rd w A n (nums l)) (hn : n ≤ 1000000) :
    Calls Try.prog 46 #[.int .i64 (k : Int), .slice A n c] w fun e w' => e = .returned (.bool (setB k l)) ∧ Below w.heap.size w w' := by
  have hl : l.length = n := by have := hr.1; simpa [nums_length] using this
  have HR := Lib.hid (And.intro hr hl)
  have hn' : (n : Int) ≤ 1000000 := by omega
  clear hr hl
  go_enter Try.func46, Try.ntmps46
  go_wp2
  go_loopw [5] (fun i wr => ∃ (j : Nat) (last : Int), j ≤ n ∧ i = .int .i64 j ∧ (j = 0 → last = -1) ∧ (0 < j → last = gi l (j - 1) ∧ 0 ≤ last) ∧ okS k last (l.drop j) = okS k (-1) l ∧ Below w.heap.size w wr) (fun i wr => n - (intOf i).toNat)
  case atStart => exact ⟨0, -1, by omega, rfl, fun _ => rfl, fun h => by omega, rfl, Below.refl _ _⟩
  case round =>
    obtain ⟨j, last, hj, rfl, h0, h1, ho, hb⟩ := hrel
    by_cases hlt : j < n
    · obtain ⟨b, off, rfl, hbl, hcc⟩ := (HR.out.1.below hb).form (by omega)
      have hjl : j < l.length := by rw [HR.out.2]; exact hlt
      have cx := hcc j _ (nums_gi hjl)
      rw [List.drop_eq_getElem_cons hjl, ← gi_get hjl, okS_cons] at ho
      have km : (j : Int) < (n : Int) := by omega
      obtain ⟨x, hx⟩ : ∃ x, gi l j = x := ⟨_, rfl⟩
      rw [hx] at cx ho
      by_cases g1 : x < 0
      · have d1 : decide (x < 0) = true := by simpa using g1
        have HB := Lib.hid (And.intro (show setB k l = false from by
          unfold setB; rw [← ho, if_pos (.inl (by
            rcases Nat.eq_zero_or_pos j with e | e
            · rw [h0 e]; omega
            · have := (h1 e).2; omega))]; rfl) hb)
        clear hcc hbl ho h0 h1 g1 hx hjl hj
        cases j with
        | zero =>
          have k0 : 0 < n := hlt
          have cx0 : wr.cell? ⟨b, off, none⟩ = some (.int .i64 x) := cx
          clear hlt hb
          go_wp2_with fail
          go_quiet (fail)
          go_wp2
          go_ret
          exact ⟨ret_bool (by rw [HB.out.1]), below_dN HB.out.2 _⟩
        | succ j =>
          clear hlt hb
          go_wp2_with fail
          go_quiet (fail)
          go_wp2
          go_ret
          exact ⟨ret_bool (by rw [HB.out.1]), below_dN HB.out.2 _⟩
      · have d1 : decide (x < 0) = false := by simpa using g1
        by_cases g2 : (k : Int) ≤ x
        · have d2 : decide (x ≥ (k : Int)) = true := by simpa using g2
          have d3 : decide ((k : Int) ≤ x) = true := by simpa using g2
          have HB := Lib.hid (And.intro (show setB k l = false from by unfold setB; rw [← ho, if_pos (.inr g2)]; rfl) hb)
          clear hcc hbl ho h0 h1 g1 g2 hx hjl hj
          cases j with
          | zero =>
            have k0 : 0 < n := hlt
            have cx0 : wr.cell? ⟨b, off, none⟩ = some (.int .i64 x) := cx
            clear hlt hb
            go_wp2_with fail
            go_quiet (fail)
            go_wp2
            go_ret
            exact ⟨ret_bool (by rw [HB.out.1]), below_dN HB.out.2 _⟩
          | succ j =>
            clear hlt hb
            go_wp2_with fail
            go_quiet (fail)
            go_wp2
            go_ret
            exact ⟨ret_bool (by rw [HB.out.1]), below_dN HB.out.2 _⟩
        · have d2 : decide (x ≥ (k : Int)) = false := by simpa using g2
          have d3 : decide ((k : Int) ≤ x) = false := by simpa using g2
          cases j with
          | zero =>
            have e0 := h0 rfl
            subst e0
            rw [if_neg (by omega)] at ho
            have d5 : decide (((0 : Nat) : Int) > 0) = false := by simp
            have d6 : decide ((0 : Int) < ((0 : Nat) : Int)) = false := by simp
            have HB := Lib.hid (And.intro ho (And.intro hb (And.intro hlt (And.intro hx (show 0 ≤ x by omega)))))
            have k0 : 0 < n := hlt
            have cx0 : wr.cell? ⟨b, off, none⟩ = some (.int .i64 x) := cx
            clear hcc hbl ho h0 h1 g1 g2 hx hjl hj hlt hb
            go_wp2_with fail
            go_quiet (fail)
            go_wp2
            exact ⟨⟨0 + 1, x, by have := HB.out.2.2.1; omega, by go_num, fun h => by omega, fun _ => ⟨HB.out.2.2.2.1.symm, HB.out.2.2.2.2⟩, HB.out.1, below_dN HB.out.2.1 _⟩, by have := HB.out.2.2.1; simp [intOf]; omega⟩
          | succ i' =>
            have e1 := h1 (by omega)
            have d5 : decide (((i' + 1 : Nat) : Int) > 0) = true := by simp
            have d6 : decide ((0 : Int) < ((i' + 1 : Nat) : Int)) = true := by simp
            have cy := hcc i' _ (nums_gi (by omega))
            have hl2 : gi l i' = last := by rw [e1.1]; rfl
            rw [hl2] at cy
            have hw1 : IntKind.i64.wrap (((i' + 1 : Nat) : Int) - 1) = (i' : Int) := by rw [IntKind.wrap_i64]; omega
            have hw2 : wrap64 (((i' + 1 : Nat) : Int) - 1) = (i' : Int) := by rw [wrap_idz (by omega) (by omega)]; omega
            have ki : (i' : Int) < (n : Int) := by omega
            have kj : (i' : Int) ≤ 1000000 := by omega
            by_cases g3 : x ≤ last
            · have d7 : decide (x ≤ last) = true := by simpa using g3
              have HB := Lib.hid (And.intro (show setB k l = false from by unfold setB; rw [← ho, if_pos (.inl g3)]; rfl) hb)
              clear hcc hbl ho h0 h1 g1 g2 g3 hx hjl hj hlt hb e1 hl2
              go_wp2_with fail
              go_quiet (fail)
              go_wp2
              go_ret
              exact ⟨ret_bool (by rw [HB.out.1]), below_dN HB.out.2 _⟩
            · have d7 : decide (x ≤ last) = false := by simpa using g3
              rw [if_neg (by omega)] at ho
              have HB := Lib.hid (And.intro ho (And.intro hb (And.intro hlt (And.intro hx (show 0 ≤ x by omega)))))
              clear hcc hbl ho h0 h1 g1 g2 g3 hx hjl hj hlt hb e1 hl2
              go_wp2_with fail
              go_quiet (fail)
              go_wp2
              exact ⟨⟨i' + 1 + 1, x, by have := HB.out.2.2.1; omega, by go_num, fun h => by omega, fun _ => ⟨HB.out.2.2.2.1.symm, HB.out.2.2.2.2⟩, HB.out.1, below_dN HB.out.2.1 _⟩, by have := HB.out.2.2.1; simp [intOf]; omega⟩
    · obtain rfl : j = n := by omega
      have hb' : okS k (-1) l = true := by rw [← ho, List.drop_eq_nil_of_le (by rw [HR.out.2]; exact Nat.le_refl _)]; rfl
      have HB := Lib.hid (And.intro (show setB k l = decide (0 < j) from by unfold setB; rw [hb', HR.out.2]; rfl) hb)
      clear hlt hj ho hb hb' h0 h1
      go_wp2
      go_ret
      exact ⟨ret_bool (by rw [HB.out.1]), HB.out.2⟩
section
variable {w : World} {base W KB : Nat} {A : Option Addr} {pc : Nat} {vs : List Value} {R : Nat → Option Nat} {kn : List Bool} {S : List (List Int)} {most : Int}
theorem RG.in_ (h : RG w base W KB A pc vs R kn S most) {p : Nat} (hp : p < S.length) : (∀ x ∈ S.getD p [], 0 ≤ x ∧ x < kn.length) ∧ (S.getD p []).length ≤ 65536 :=
  ⟨(h.ss _ (getD_mem hp)).inr, Nat.le_trans (h.ss _ (getD_mem hp)).len h.kz⟩
set_option maxRecDepth 100000 in
set_option maxHeartbeats 1600000 in
/-- Rest -/
theorem rRest_any (h : RG w base W KB A pc vs R kn S most) (x : Int) :
    Calls Try.prog 38 #[.pointer (some ⟨W, 0, none⟩), .int .i64 x] w (LsPost w (rsL kn S x) (rsE S x)) := by
  obtain ⟨sl, hsl⟩ : ∃ sl, S.length = sl := ⟨_, rfl⟩
  have cg := h.g.cell 2
  have hsz := h.sz
  have H := Lib.hid (And.intro h hsl)
  rw [hsl] at cg hsz
  by_cases hx : 0 ≤ x ∧ x < sl
  · obtain ⟨p, rfl⟩ : ∃ p : Nat, x = p := ⟨x.toNat, by omega⟩
    have hp : p < S.length := by omega
    have d1 : decide ((p : Int) < 0) = false := by simp
    have d2 : decide ((p : Int) ≥ (sl : Int)) = false := by simp; omega
    have d3 : decide ((sl : Int) ≤ (p : Int)) = false := by simp; omega
    have d4 : decide (sl ≤ p) = false := by simp; omega
    have km : (p : Int) < (sl : Int) := by omega
    obtain ⟨a, off, B, c', hA, cx, hrd⟩ := h.row hp
    have hi := h.in_ hp
    have e1 : rsE S (p : Int) = 0 := if_pos (by omega)
    have e2 : rsL kn S (p : Int) = rst kn (S.getD p []) := by unfold rsL; rw [if_pos (by omega), Int.toNat_natCast]
    rw [e1, e2]
    have HQ := Lib.hid (rrest_any (c := c') h hrd (by omega) hi.1)
    obtain ⟨l, hl⟩ : ∃ l, S.getD p [] = l := ⟨_, rfl⟩
    rw [hl] at cx HQ ⊢
    generalize l.length = n at cx HQ
    subst hA
    clear h hx hp hrd hi e1 e2 hl hsl
    go_enter Try.func38, Try.ntmps38
    go_wp2_with fail
    refine HQ.out.mono ?_
    rintro e w2 ⟨v, rfl, hown, hb⟩
    have H2 := Lib.hid (And.intro hown hb)
    clear hown hb
    go_wp2
    go_ret2
    exact ⟨v, rfl, H2.out.1, H2.out.2⟩
  · have e1 : rsL kn S x = [] := if_neg (by rw [hsl]; exact hx)
    have e2 : rsE S x = 3 := if_neg (by rw [hsl]; exact hx)
    rw [e1, e2]
    by_cases h0 : x < 0
    · have d1 : decide (x < 0) = true := by simpa using h0
      clear h hx h0 hsl e1 e2
      go_enter Try.func38, Try.ntmps38
      go_wp2
      go_ret2
      exact ⟨_, rfl, World.ownsRow_nil _ _ _ _, Below.refl _ _⟩
    · have d1 : decide (x < 0) = false := by simpa using h0
      have d2 : decide (x ≥ (sl : Int)) = true := by simp; omega
      have d3 : decide ((sl : Int) ≤ x) = true := by simp; omega
      clear h hx h0 hsl e1 e2
      go_enter Try.func38, Try.ntmps38
      go_wp2
      go_ret2
      exact ⟨_, rfl, World.ownsRow_nil _ _ _ _, Below.refl _ _⟩
set_option maxRecDepth 100000 in
set_option maxHeartbeats 1600000 in
/-- Edges -/
theorem redges_any (h : RG w base W KB A pc vs R kn S most) :
    Calls Try.prog 40 #[.pointer (some ⟨W, 0, none⟩)] w fun e w' => e = .returned (.int .i64 (edg kn S : Nat)) ∧ Below w.heap.size w w' := by
  obtain ⟨sl, hsl⟩ : ∃ sl, S.length = sl := ⟨_, rfl⟩
  have hsz := h.sz
  have H := Lib.hid (And.intro h hsl)
  rw [hsl] at hsz
  have hsz' : (sl : Int) ≤ 100000 := by omega
  clear h hsl
  go_enter Try.func40, Try.ntmps40
  go_wp2
  go_loopw [3, 4] (fun q i wr => ∃ p : Nat, p ≤ sl ∧ i = .int .i64 p ∧ q = .int .i64 (edg kn (S.take p) : Nat) ∧ Below w.heap.size w wr) (fun q i wr => sl - (intOf i).toNat)
  case atStart => exact ⟨0, by omega, rfl, by simp [edg], Below.refl _ _⟩
  case round =>
    obtain ⟨p, hp, rfl, rfl, hb⟩ := hrel
    have hR := H.out.1.below hb
    have cg := hR.g.cell 2
    rw [H.out.2] at cg
    by_cases hlt : p < sl
    · have hpS : p < S.length := by rw [H.out.2]; exact hlt
      have km : (p : Int) < (sl : Int) := by omega
      obtain ⟨a, off, B, c', hA, cx, hrd⟩ := hR.row hpS
      have hi := hR.in_ hpS
      have HQ := Lib.hid (rrest_any (c := c') hR hrd (by omega) hi.1)
      have hed := edg_le (kn := kn) (sets := S.take (p + 1)) (fun l hl => Nat.le_trans (hR.ss l (List.mem_of_mem_take hl)).len hR.kz)
      have hlen : (S.take (p + 1)).length ≤ 100000 := by rw [List.length_take]; omega
      have hsn : edg kn (S.take (p + 1)) = edg kn (S.take p) + (rst kn (S.getD p [])).length := by
        rw [List.take_succ_eq_append_getElem hpS, edg_snoc]; congr 2; rw [List.getD_eq_getElem?_getD, List.getElem?_eq_getElem hpS]; rfl
      obtain ⟨l, hl⟩ : ∃ l, S.getD p [] = l := ⟨_, rfl⟩
      rw [hl] at cx HQ hsn
      obtain ⟨q, hq⟩ : ∃ q, edg kn (S.take p) = q := ⟨_, rfl⟩
      rw [hq] at hsn ⊢
      have hq2 : q + (rst kn l).length ≤ 6553600000 := by rw [← hsn]; omega
      generalize l.length = n at cx HQ
      subst hA
      have HJ := Lib.hid (And.intro hb (And.intro hlt hsn))
      clear hb hR hlt hpS hp hrd hi hed hlen hsn hl hq
      go_wp2_with fail
      refine HQ.out.mono ?_
      rintro e w8 ⟨v8, rfl, ho8, hb8⟩
      obtain ⟨A8, c8, rfl, _⟩ := own_form ho8
      have HB := Lib.hid (below_base HJ.out.1 hb8 HJ.out.1.size)
      obtain ⟨rl, hrl⟩ : ∃ rl, (rst kn l).length = rl := ⟨_, rfl⟩
      rw [hrl] at HJ hq2 ⊢
      have hwq : IntKind.i64.wrap ((q : Int) + (rl : Int)) = ((q + rl : Nat) : Int) := by rw [IntKind.wrap_i64]; omega
      clear ho8 hb8 hrl
      go_wp2
      exact ⟨⟨p + 1, by have := HJ.out.2.1; omega, by go_num, by rw [HJ.out.2.2, Int.natCast_add], HB.out⟩, by have := HJ.out.2.1; simp [intOf]; omega⟩
    · obtain rfl : p = sl := by omega
      have htk : S.take p = S := List.take_of_length_le (by rw [H.out.2]; exact Nat.le_refl _)
      rw [htk]
      have HB := Lib.hid hb
      clear hlt hp hR hb htk
      go_wp2
      go_ret
      exact ⟨rfl, HB.out⟩
end
end Go.Proofs.Ytcgcbajgclkmkaa
