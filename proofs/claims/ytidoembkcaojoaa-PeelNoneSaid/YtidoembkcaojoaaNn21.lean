/- Chapter 21: PeelNone's walk. -/
import Derived.Test.YtidoembkcaojoaaNo21
namespace Go.Proofs.Ytidoembkcaojoaa
open Go.RowKit
set_option linter.unusedVariables false
theorem all_no (w0 : World) : ∃ S w1, S = w0.heap.size + 1 ∧ w1 = ((w0.alloc (.cells #[.pointer none, .int .i64 0, .map none, .slice none 0 0, .slice none 0 0, .slice none 0 0, .int .i64 0] 67)).alloc (.cells #[.pointer none, .pointer (some ⟨w0.heap.size, 0, none⟩)] 34)) ∧ Below w0.heap.size w0 w1 ∧ ∀ j, j < 2 → ∃ p, w1.cell? ⟨S, j, none⟩ = some (.pointer p) ∧ NoD w1 p := by
  have q0 := Bk.newA w0 67 #[.pointer none, .int .i64 0, .map none, .slice none 0 0, .slice none 0 0, .slice none 0 0, .int .i64 0]
  have q1 := q0.alloc (.cells #[.pointer none, .pointer (some ⟨w0.heap.size, 0, none⟩)] 34)
  have q2 := Bk.newA (w0.alloc (.cells #[.pointer none, .int .i64 0, .map none, .slice none 0 0, .slice none 0 0, .slice none 0 0, .int .i64 0] 67)) 34 #[.pointer none, .pointer (some ⟨w0.heap.size, 0, none⟩)]
  rw [World.size_alloc] at q2
  refine ⟨_, _, rfl, rfl, ((Below.refl _ _).alloc (Nat.le_refl _) _).alloc (by simp) _, fun j hj => ?_⟩
  obtain rfl | rfl : j = 0 ∨ j = 1 := by omega
  · exact ⟨none, q2.cell 0, .inl rfl⟩
  · exact ⟨some ⟨w0.heap.size, 0, none⟩, q2.cell 1, .inr ⟨_, rfl, q1.cell 0⟩⟩
set_option maxRecDepth 100000 in
set_option maxHeartbeats 6400000 in
theorem none_walk {w : World} {a : PA} (ha : a.ok w) : Calls Try.prog 6 #[.agg #[.int .i64 a.id, .slice a.A a.n a.c, .slice a.B a.m a.e]] w fun e w' => e = .returned (.bool true) ∧ Below w.heap.size w w' := by
  obtain ⟨id, A, n, c, set, B, m, e, pay⟩ := a
  clear ha
  go_enter Try.func6, Try.ntmps6
  go_wp2_with fail
  have k1 := (Bk.newA w 25 #[.int .i64 id, .slice A n c, .slice B m e]).alloc (.cells #[.int .i64 id, .slice A n c, .slice B m e] 25)
  have k2 := Bk.newA (w.alloc (.cells #[.int .i64 id, .slice A n c, .slice B m e] 25)) 25 #[.int .i64 id, .slice A n c, .slice B m e]
  have hb0 : Below w.heap.size w ((w.alloc (.cells #[.int .i64 id, .slice A n c, .slice B m e] 25)).alloc (.cells #[.int .i64 id, .slice A n c, .slice B m e] 25)) := ((Below.refl _ _).alloc (Nat.le_refl _) _).alloc (by rw [World.size_alloc]; omega) _
  rw [World.size_alloc] at k2
  have hrd : Rd ((w.alloc (.cells #[.int .i64 id, .slice A n c, .slice B m e] 25)).alloc (.cells #[.int .i64 id, .slice A n c, .slice B m e] 25)) (some ⟨w.heap.size + 1, 0, none⟩) (1 * 3) [.int .i64 id, .slice A n c, .slice B m e] := Rd.of_bk k2 (by simp) rfl
  have hl := long_any (l := [⟨id, A, n, c, set, B, m, e, pay⟩]) (c := 1) hrd
  obtain ⟨q, hq⟩ : ∃ q, longP [⟨id, A, n, c, set, B, m, e, pay⟩] = q := ⟨_, rfl⟩
  rw [hq] at hl
  have p0 := k1.cell 0
  have p1 := k1.cell 1
  have p2 := k1.cell 2
  have hPl := k1.lt
  refine hl.mono ?_
  rintro e1 wx ⟨rfl, rfl⟩
  clear hl hq k2 hrd
  generalize ((w.alloc (.cells #[.int .i64 id, .slice A n c, .slice B m e] 25)).alloc (.cells #[.int .i64 id, .slice A n c, .slice B m e] 25)) = wb at k1 hb0 p0 p1 p2 hPl ⊢
  obtain ⟨P, hP⟩ : ∃ P, w.heap.size = P := ⟨_, rfl⟩
  have HP := Lib.hid hP
  rw [hP] at p0 p1 p2 hPl k1 ⊢
  have HK := Lib.hid (And.intro hb0 k1)
  clear hb0 k1 hPl
  cases q with
  | true =>
    go_wp2_with fail
    refine awake_any.mono ?_
    rintro _ w5 ⟨rfl, h5⟩
    have HB5 := Lib.hid (below_base HK.out.1 h5 HK.out.1.size)
    clear h5
    go_wp2_with fail
    go_ret
    exact ⟨rfl, HP.out ▸ HB5.out⟩
  | false =>
    go_wp2_with fail
    have HB := Lib.hid (all_no wb)
    obtain ⟨S, w1, hS, hw1, hbl, hc⟩ := HB.out
    rw [← hw1, ← hS]
    have HC := Lib.hid (And.intro hbl hc)
    have HK1 := Lib.hid (HK.out.2.belowS hbl)
    have HB1 := Lib.hid (below_base HK.out.1 hbl HK.out.1.size)
    clear HB hw1 hS hbl hc p0 p1 p2 HK
    go_loopw [4] (fun i wx => ∃ j : Nat, j ≤ 2 ∧ i = .int .i64 j ∧ Hid (Below w1.heap.size w1 wx)) (fun i wx => 2 - (intOf i).toNat)
    case atStart => exact ⟨0, Nat.zero_le _, rfl, Lib.hid (Below.refl _ _)⟩
    case round =>
      obtain ⟨j, hj, rfl, HJ⟩ := hrel
      by_cases hlt : j < 2
      · obtain ⟨p, hp, hn⟩ := HC.out.2 j hlt
        have hp' := cell_below HJ.out hp
        have HN := Lib.hid (hn.below HJ.out)
        have hkb := HK1.out.belowS HJ.out
        have p0 := hkb.cell 0
        have p1 := hkb.cell 1
        have p2 := hkb.cell 2
        have hlz : decide (j < 2) = true := decide_eq_true hlt
        have hlz2 : decide ((j : Int) < 2) = true := decide_eq_true (by omega)
        have jlt : (j : Int) < 2 := by omega
        have j0 : (0 : Int) ≤ (j : Int) := by omega
        have ej : IntKind.i64.wrap ((j : Int) + 1) = ((j + 1 : Nat) : Int) := by rw [IntKind.wrap_i64]; omega
        clear hn hp hkb
        go_wp2_with fail
        refine (add_no HN.out).mono ?_
        rintro _ _ ⟨rfl, rfl⟩
        go_wp2_with fail
        refine (symbol_no HN.out).mono ?_
        rintro _ _ ⟨rfl, rfl⟩
        go_wp2_with fail
        refine (block_no HN.out).mono ?_
        rintro _ _ ⟨rfl, rfl⟩
        go_wp2_with fail
        refine (known_no HN.out).mono ?_
        rintro _ _ ⟨rfl, rfl⟩
        go_wp2_with fail
        refine (left_no HN.out).mono ?_
        rintro _ _ ⟨rfl, rfl⟩
        go_wp2_with fail
        refine (done_no HN.out).mono ?_
        rintro _ _ ⟨rfl, rfl⟩
        go_wp2_with fail
        refine (packets_no HN.out).mono ?_
        rintro _ _ ⟨rfl, rfl⟩
        go_wp2_with fail
        refine ⟨⟨j + 1, hlt, rfl, HJ⟩, by show 2 - ((j : Int) + 1).toNat < 2 - ((j : Int)).toNat; omega⟩
      · obtain rfl : j = 2 := by omega
        have HB2 := Lib.hid (below_base HB1.out HJ.out HB1.out.size)
        clear HJ hlt hj
        go_wp2_with fail
        refine awake_any.mono ?_
        rintro _ w5 ⟨rfl, h5⟩
        have HB5 := Lib.hid (below_base HB2.out h5 HB2.out.size)
        clear h5
        go_wp2_with fail
        go_ret
        exact ⟨rfl, HP.out ▸ HB5.out⟩
end Go.Proofs.Ytidoembkcaojoaa
