/- Chapter 21: the document's New. Printed by gen_Rr21.py. -/
import Derived.Test.YtidoembkcaojoaaRq21
import Derived.BigRegion
namespace Go.Proofs.Ytidoembkcaojoaa
open Go.RowKit
set_option linter.unusedVariables false
def RnPost (w : World) (k s most : Int) (e : Ending) (w' : World) : Prop :=
  if pbad k s most then e = .returned (.tuple #[.pointer none, .int .i64 3]) ∧ Below w.heap.size w w'
  else ∃ D m F, e = .returned (.tuple #[.pointer (some ⟨D, 0, none⟩), .int .i64 0]) ∧ Rc w' w.heap.size D m (newD k.toNat s.toNat most) F ∧ Below w.heap.size w w'
theorem rnew_mem {w w' : World} {IS SB D k s : Nat} {most : Int} (h1 : Bk w' IS 4 (List.replicate k (.bool false))) (h2 : Bk w' SB 22 (List.replicate k (.slice none 0 0))) (h3 : Bk w' D 87 [.int .i64 (k : Nat), .int .i64 (s : Nat), .int .i64 most, .slice none 0 0, .slice (some ⟨IS, 0, none⟩) k k, .slice (some ⟨SB, 0, none⟩) k k]) (hb : Below w.heap.size w w') (g1 : w.heap.size ≤ IS) (g2 : w.heap.size ≤ SB) (g3 : w.heap.size ≤ D) :
    ∃ m F, Rc w' w.heap.size D m (newD k s most) F := by
  refine ⟨⟨IS, SB, none, 0, [], fun _ => (none, 0)⟩, fun b => b = IS ∨ b = SB ∨ b = D, { e := h3, ik := ?_, lv := World.ownsRow_nil _ _ _ _, pl := rfl, pi := rfl, pt := rfl, pp := rfl, pn := fun a ha => (by cases ha), sb := ?_, sx := fun i hi hk => ?_, fD := .inr (.inr rfl), fI := .inl rfl, fS := .inr (.inl rfl), fL := fun a ha => (by cases ha), fb := fun b hb' => ?_, bs := hb.size }⟩
  · have : bools (newD k s most).kn = List.replicate k (.bool false) := by unfold bools newD; rw [List.map_replicate]
    rw [this]; exact h1
  · have : (List.range (newD k s most).k).map (rsy (newD k s most) ⟨IS, SB, none, 0, [], fun _ => (none, 0)⟩) = List.replicate k (.slice none 0 0) := by
      apply List.ext_getElem (by simp [newD])
      intro i hi hj
      simp only [List.getElem_map, List.getElem_range, List.getElem_replicate]
      unfold rsy
      rw [show (newD k s most).kn = List.replicate k false from rfl, knw_rep]; rfl
    rw [this]; exact h2
  · rw [show (newD k s most).kn = List.replicate k false from rfl, knw_rep] at hk; cases hk
  · have := h1.lt; have := h2.lt; have := h3.lt
    rcases hb' with e | e | e <;> omega
theorem three_bk (w : World) (c1 c2 c3 : Array Value) (t1 t2 t3 : TypeId) : Bk (((w.alloc (.cells c1 t1)).alloc (.cells c2 t2)).alloc (.cells c3 t3)).drew w.heap.size t1 c1.toList ∧ Bk (((w.alloc (.cells c1 t1)).alloc (.cells c2 t2)).alloc (.cells c3 t3)).drew (w.heap.size + 1) t2 c2.toList ∧ Bk (((w.alloc (.cells c1 t1)).alloc (.cells c2 t2)).alloc (.cells c3 t3)).drew (w.heap.size + 1 + 1) t3 c3.toList ∧ Below w.heap.size w (((w.alloc (.cells c1 t1)).alloc (.cells c2 t2)).alloc (.cells c3 t3)).drew := by
  have k1 := (((Bk.newA w t1 c1).alloc (.cells c2 t2)).alloc (.cells c3 t3)).drew
  have k2 := ((Bk.newA (w.alloc (.cells c1 t1)) t2 c2).alloc (.cells c3 t3)).drew
  have k3 := (Bk.newA ((w.alloc (.cells c1 t1)).alloc (.cells c2 t2)) t3 c3).drew
  rw [World.size_alloc] at k2
  rw [World.size_alloc, World.size_alloc] at k3
  exact ⟨k1, k2, k3, (bel_alloc (bel_alloc (bel_alloc (Below.refl _ _) _) _) _).drew⟩
set_option maxRecDepth 100000 in
set_option maxHeartbeats 1600000 in
theorem rnew_any {w : World} (k s most : Int) (hk : k ≤ 100 ∨ 65536 < k) : Calls Try.prog 26 #[.int .i64 k, .int .i64 s, .int .i64 most] w (RnPost w k s most) := by
  by_cases h0 : k < 1
  · have HP := Lib.hid (show pbad k s most from by unfold pbad bad; omega)
    have t0 : decide (k < 1) = true := decide_eq_true h0
    clear h0 hk
    go_enter Try.func26, Try.ntmps26
    go_wp2_with fail
    go_ret2
    unfold RnPost
    rw [if_pos HP.out]
    exact ⟨rfl, Below.refl _ _⟩
  · have f00 : decide (k < 1) = false := decide_eq_false h0
    by_cases h1 : 65536 < k
    · have HP := Lib.hid (show pbad k s most from by unfold pbad bad; omega)
      have t0 : decide (k > 65536) = true := decide_eq_true h1
      have t1 : decide (65536 < k) = true := decide_eq_true h1
      clear h0 h1 hk
      go_enter Try.func26, Try.ntmps26
      go_wp2_with fail
      go_ret2
      unfold RnPost
      rw [if_pos HP.out]
      exact ⟨rfl, Below.refl _ _⟩
    · have f10 : decide (k > 65536) = false := decide_eq_false h1
      have f11 : decide (65536 < k) = false := decide_eq_false h1
      by_cases h2 : s < 1
      · have HP := Lib.hid (show pbad k s most from by unfold pbad bad; omega)
        have t0 : decide (s < 1) = true := decide_eq_true h2
        clear h0 h1 h2 hk
        go_enter Try.func26, Try.ntmps26
        go_wp2_with fail
        go_ret2
        unfold RnPost
        rw [if_pos HP.out]
        exact ⟨rfl, Below.refl _ _⟩
      · have f20 : decide (s < 1) = false := decide_eq_false h2
        by_cases h3 : 65535 < s
        · have HP := Lib.hid (show pbad k s most from by unfold pbad bad; omega)
          have t0 : decide (s > 65535) = true := decide_eq_true h3
          have t1 : decide (65535 < s) = true := decide_eq_true h3
          clear h0 h1 h2 h3 hk
          go_enter Try.func26, Try.ntmps26
          go_wp2_with fail
          go_ret2
          unfold RnPost
          rw [if_pos HP.out]
          exact ⟨rfl, Below.refl _ _⟩
        · have f30 : decide (s > 65535) = false := decide_eq_false h3
          have f31 : decide (65535 < s) = false := decide_eq_false h3
          by_cases h4 : most < 1
          · have HP := Lib.hid (show pbad k s most from by unfold pbad bad; omega)
            have t0 : decide (most < 1) = true := decide_eq_true h4
            clear h0 h1 h2 h3 h4 hk
            go_enter Try.func26, Try.ntmps26
            go_wp2_with fail
            go_ret2
            unfold RnPost
            rw [if_pos HP.out]
            exact ⟨rfl, Below.refl _ _⟩
          · have f40 : decide (most < 1) = false := decide_eq_false h4
            by_cases h5 : 1048576 < most
            · have HP := Lib.hid (show pbad k s most from by unfold pbad bad; omega)
              have t0 : decide (most > 1048576) = true := decide_eq_true h5
              have t1 : decide (1048576 < most) = true := decide_eq_true h5
              clear h0 h1 h2 h3 h4 h5 hk
              go_enter Try.func26, Try.ntmps26
              go_wp2_with fail
              go_ret2
              unfold RnPost
              rw [if_pos HP.out]
              exact ⟨rfl, Below.refl _ _⟩
            · have f50 : decide (most > 1048576) = false := decide_eq_false h5
              have f51 : decide (1048576 < most) = false := decide_eq_false h5
              have HP := Lib.hid (show ¬ pbad k s most from by unfold pbad bad; omega)
              obtain ⟨K, rfl⟩ : ∃ K : Nat, k = K := ⟨k.toNat, by omega⟩
              obtain ⟨S, rfl⟩ : ∃ S : Nat, s = S := ⟨s.toNat, by omega⟩
              have g00 : decide (K < 1) = false := decide_eq_false (by omega)
              have g10 : decide (K > 65536) = false := decide_eq_false (by omega)
              have g11 : decide (65536 < K) = false := decide_eq_false (by omega)
              have g20 : decide (S < 1) = false := decide_eq_false (by omega)
              have g30 : decide (S > 65535) = false := decide_eq_false (by omega)
              have g31 : decide (65535 < S) = false := decide_eq_false (by omega)
              have hmk1 := run_make_bools K (by omega)
              have hmk2 := run_make_syms K (by omega)
              clear h0 h1 h2 h3 h4 h5 hk
              go_enter Try.func26, Try.ntmps26
              go_wp2_with fail
              go_region
              all_goals go_wp2_with fail
              all_goals go_ret2
              all_goals (unfold RnPost; rw [if_neg HP.out, Int.toNat_natCast, Int.toNat_natCast])
              · obtain ⟨k1, k2, k3, hb⟩ := three_bk w (Array.replicate K (.bool false)) (Array.replicate K (.slice none 0 0)) #[.int .i64 (K : Nat), .int .i64 (S : Nat), .int .i64 most, .slice none 0 0, .slice (some ⟨w.heap.size, 0, none⟩) K K, .slice (some ⟨w.heap.size + 1, 0, none⟩) K K] 4 22 87
                rw [Array.toList_replicate] at k1 k2
                obtain ⟨m, F, h⟩ := rnew_mem k1 k2 k3 hb (by omega) (by omega) (by omega)
                exact ⟨_, m, F, rfl, h, hb⟩
              · obtain ⟨k1, k2, k3, hb⟩ := three_bk w (Array.replicate K (.slice none 0 0)) (Array.replicate K (.bool false)) #[.int .i64 (K : Nat), .int .i64 (S : Nat), .int .i64 most, .slice none 0 0, .slice (some ⟨w.heap.size + 1, 0, none⟩) K K, .slice (some ⟨w.heap.size, 0, none⟩) K K] 22 4 87
                rw [Array.toList_replicate] at k1 k2
                obtain ⟨m, F, h⟩ := rnew_mem k2 k1 k3 hb (by omega) (by omega) (by omega)
                exact ⟨_, m, F, rfl, h, hb⟩
end Go.Proofs.Ytidoembkcaojoaa
