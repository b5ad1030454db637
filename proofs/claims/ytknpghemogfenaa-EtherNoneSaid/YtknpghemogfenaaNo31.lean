/- Chapter 31: EtherNone's walk. -/
import Derived.Test.YtknpghemogfenaaAw31
import Derived.Test.YtknpghemogfenaaNn31
namespace Go.Proofs.Ytknpghemogfenaa
open Go.Conc Go.RowKit
set_option linter.unusedVariables false
/-- An ether that is nil, or that nobody made. -/
def NoE (w : World) (p : Option Addr) : Prop := p = none ∨ ∃ P, p = some ⟨P, 0, none⟩ ∧ w.cell? ⟨P, 5, none⟩ = some (.chan none)
theorem NoE.below {w w' : World} {p : Option Addr} (h : NoE w p) (hb : Below w.heap.size w w') : NoE w' p := by
  rcases h with e | ⟨P, e, hk⟩
  · exact .inl e
  · exact .inr ⟨P, e, cell_below hb hk⟩
section
variable {w : World} {p : Option Addr}
theorem tick_no (h : NoE w p) : Calls Try.prog 19 #[.pointer p] w fun e w' => e = .returned (.tuple #[.int .i64 0, .int .i64 1]) ∧ w' = w := by
  rcases h with rfl | ⟨P, rfl, hk⟩
  · exact tick_nil
  · exact tick_zero hk
theorem now_no (h : NoE w p) : Calls Try.prog 23 #[.pointer p] w fun e w' => e = .returned (.int .i64 0) ∧ w' = w := by
  rcases h with rfl | ⟨P, rfl, hk⟩
  · exact now_nil
  · exact now_zero hk
theorem flying_no (h : NoE w p) : Calls Try.prog 15 #[.pointer p] w fun e w' => e = .returned (.int .i64 0) ∧ w' = w := by
  rcases h with rfl | ⟨P, rfl, hk⟩
  · exact flying_nil
  · exact flying_zero hk
theorem lost_no (h : NoE w p) : Calls Try.prog 17 #[.pointer p] w fun e w' => e = .returned (.int .i64 0) ∧ w' = w := by
  rcases h with rfl | ⟨P, rfl, hk⟩
  · exact lost_nil
  · exact lost_zero hk
theorem waiting_no (h : NoE w p) {d : Int} : Calls Try.prog 29 #[.pointer p, .int .i64 d] w fun e w' => e = .returned (.int .i64 0) ∧ w' = w := by
  rcases h with rfl | ⟨P, rfl, hk⟩
  · exact waiting_nil
  · exact waiting_zero hk
theorem get_no (h : NoE w p) {d : Int} : Calls Try.prog 20 #[.pointer p, .int .i64 d] w fun e w' => e = .returned (.tuple #[.slice none 0 0, .int .i64 1]) ∧ w' = w := by
  rcases h with rfl | ⟨P, rfl, hk⟩
  · exact get_nil
  · exact get_zero hk
theorem send_no (h : NoE w p) {A : Option Addr} {n c : Nat} {d : Int} : Calls Try.prog 13 #[.pointer p, .int .i64 d, .slice A n c] w fun e w' => e = .returned (.int .i64 1) ∧ Below w.heap.size w w' := by
  rcases h with rfl | ⟨P, rfl, hk⟩
  · exact send_nil
  · exact send_zero hk
end
set_option maxRecDepth 100000 in
set_option maxHeartbeats 6400000 in
theorem none_walk {d : Int} (hd : (Lit.int .i64 d).wf = true) {w : World} : Calls Try.prog 7 #[.int .i64 d] w fun e w' => e = .returned (.bool true) ∧ Below w.heap.size w w' := by
  go_enter Try.func7, Try.ntmps7
  go_wp2_with fail
  have HB : Hid (∃ S w1, S = w.heap.size + 1 ∧ w1 = ((w.alloc (.cells #[.slice none 0 0, .slice none 0 0, .int .i64 0, .int .i64 0, .slice none 0 0, .chan none, .chan none, .int .i64 0] 66)).alloc (.cells #[.pointer none, .pointer (some ⟨w.heap.size, 0, none⟩)] 25)) ∧ Below w.heap.size w w1 ∧ ∀ j, j < 2 → ∃ p, w1.cell? ⟨S, j, none⟩ = some (.pointer p) ∧ NoE w1 p) := Lib.hid (by
    have q0 := Bk.newA w 66 #[.slice none 0 0, .slice none 0 0, .int .i64 0, .int .i64 0, .slice none 0 0, .chan none, .chan none, .int .i64 0]
    have q1 := q0.alloc (.cells #[.pointer none, .pointer (some ⟨w.heap.size, 0, none⟩)] 25)
    have q2 := Bk.newA (w.alloc (.cells #[.slice none 0 0, .slice none 0 0, .int .i64 0, .int .i64 0, .slice none 0 0, .chan none, .chan none, .int .i64 0] 66)) 25 #[.pointer none, .pointer (some ⟨w.heap.size, 0, none⟩)]
    rw [World.size_alloc] at q2
    refine ⟨_, _, rfl, rfl, ((Below.refl _ _).alloc (Nat.le_refl _) _).alloc (by simp) _, fun j hj => ?_⟩
    obtain rfl | rfl : j = 0 ∨ j = 1 := by omega
    · exact ⟨none, q2.cell 0, .inl rfl⟩
    · exact ⟨some ⟨w.heap.size, 0, none⟩, q2.cell 1, .inr ⟨_, rfl, q1.cell 5⟩⟩)
  obtain ⟨S, w1, hS, hw1, hbl, hc⟩ := HB.out
  rw [← hw1, ← hS]
  have HC := Lib.hid (And.intro hbl hc)
  clear HB hw1 hS hbl hc
  go_loopw [4] (fun i wx => ∃ j : Nat, j ≤ 2 ∧ i = .int .i64 j ∧ Hid (Below w1.heap.size w1 wx)) (fun i wx => 2 - (intOf i).toNat)
  case atStart => exact ⟨0, Nat.zero_le _, rfl, Lib.hid (Below.refl _ _)⟩
  case round =>
    obtain ⟨j, hj, rfl, HJ⟩ := hrel
    by_cases hlt : j < 2
    · obtain ⟨p, hp, hn⟩ := HC.out.2 j hlt
      have hp' := cell_below HJ.out hp
      have HN := Lib.hid (hn.below HJ.out)
      have hlz : decide (j < 2) = true := decide_eq_true hlt
      have hlz2 : decide ((j : Int) < 2) = true := decide_eq_true (by omega)
      have ej : IntKind.i64.wrap ((j : Int) + 1) = ((j + 1 : Nat) : Int) := by rw [IntKind.wrap_i64]; omega
      clear hn hp
      go_wp2_with fail
      refine (tick_no HN.out).mono ?_
      rintro _ _ ⟨rfl, rfl⟩
      go_wp2_with fail
      refine (get_no HN.out).mono ?_
      rintro _ wa ⟨rfl, rfl⟩
      go_wp2_with fail
      have hal := (Below.refl wa.heap.size wa).alloc (Nat.le_refl _) (.cells #[.int .u8 1] 5)
      refine (send_no (HN.out.below hal)).mono ?_
      rintro _ w4 ⟨rfl, h4⟩
      have h5 := below_base hal h4 (by simp)
      have HN4 := Lib.hid (HN.out.below h5)
      have HJ4 := Lib.hid (below_base HJ.out h5 HJ.out.size)
      clear h4 h5 HN HJ
      go_wp2_with fail
      refine (now_no HN4.out).mono ?_
      rintro _ _ ⟨rfl, rfl⟩
      go_wp2_with fail
      refine (flying_no HN4.out).mono ?_
      rintro _ _ ⟨rfl, rfl⟩
      go_wp2_with fail
      refine (waiting_no HN4.out).mono ?_
      rintro _ _ ⟨rfl, rfl⟩
      go_wp2_with fail
      refine (lost_no HN4.out).mono ?_
      rintro _ _ ⟨rfl, rfl⟩
      go_wp2_with fail
      refine ⟨⟨j + 1, hlt, rfl, HJ4⟩, by show 2 - ((j : Int) + 1).toNat < 2 - ((j : Int)).toNat; omega⟩
    · obtain rfl : j = 2 := by omega
      have HB := Lib.hid (below_base HC.out.1 HJ.out HC.out.1.size)
      clear HJ hlt hj
      go_wp2_with fail
      refine awake_any.mono ?_
      rintro _ w5 ⟨rfl, h5⟩
      have HB5 := Lib.hid (below_base HB.out h5 HB.out.size)
      clear h5 HB
      go_wp2_with fail
      go_ret
      exact ⟨rfl, HB5.out⟩
end Go.Proofs.Ytknpghemogfenaa
