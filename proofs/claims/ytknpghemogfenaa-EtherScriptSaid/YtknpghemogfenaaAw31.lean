/- Chapter 31: begun, awake. -/
import Derived.Test.YtknpghemogfenaaLw31
namespace Go.Proofs.Ytknpghemogfenaa
open Go.Conc Go.RowKit
set_option linter.unusedVariables false
def f3 : List FT := [⟨true, 0, false, 0⟩, ⟨false, 1, false, 0⟩, ⟨false, 0, true, 1⟩]
def bS : ES := (((ES.new f3 []).send 1 [5]).send 1 [6]).send 1 [7]
/-- A law sends a literal of one byte. -/
theorem lw_send1 {w0 w : World} {E : Nat} {s : ES} (h : Hid (Lw w0 w E s)) {c : UInt8} {d : Int} (hd : d = 0 ∨ d = 1) (hnow : s.now ≤ 1000000) (hnb : s.number ≤ 900000) (hl : s.sky.length ≤ 900000) (hls : s.lost ≤ 900000000) :
    Calls Try.prog 13 #[.pointer (some ⟨E, 0, none⟩), .int .i64 d, .slice (some ⟨w.heap.size, 0, none⟩) 1 1] (w.alloc (.cells #[.int .u8 (c.toNat : Nat)] 5)) fun e w' => e = .returned (.int .i64 0) ∧ Lw w0 w' E (s.send d [c]) :=
  lw_send h.out ((Below.refl _ _).alloc (Nat.le_refl _) _) (Rd.of_bk (Bk.newA w 5 #[.int .u8 (c.toNat : Nat)]) (by simp) (by simp [bys])) (Nat.le_refl _) (by decide) hd hnow hnb hl hls
set_option maxRecDepth 100000 in
set_option maxHeartbeats 3200000 in
theorem begun_any {w : World} : Calls Try.prog 22 #[] w fun e w' => ∃ E, e = .returned (.pointer (some ⟨E, 0, none⟩)) ∧ Lw w w' E bS := by
  go_enter Try.func22, Try.ntmps22
  go_wp2_with fail
  have hlit := Bk.newA w 53 #[.bool true, .int .i64 0, .bool false, .int .i64 0, .bool false, .int .i64 1, .bool false, .int .i64 0, .bool false, .int .i64 0, .bool true, .int .i64 1]
  refine (new_any (fl := f3) (sl := []) (Rd.of_bk hlit (by decide) rfl) (Rd.nil _ _) (fun a ha => ⟨_, by injection ha with ha; exact ha.symm⟩) (fun a ha => by cases ha) (fun y hy => absurd hy List.not_mem_nil) (by decide) (by decide)).mono ?_
  rintro e w1 ⟨hb1, ⟨h0, _⟩ | ⟨_, E, rfl, h1⟩⟩
  · exact absurd h0 (by decide)
  have hb0 : Below w.heap.size w (w.alloc (.cells #[.bool true, .int .i64 0, .bool false, .int .i64 0, .bool false, .int .i64 1, .bool false, .int .i64 0, .bool false, .int .i64 0, .bool true, .int .i64 1] 53)) := (Below.refl _ _).alloc (Nat.le_refl _) _
  have HB := Lib.hid (below_base hb0 hb1 hb0.size)
  have hz1 : w.heap.size ≤ (w.alloc (.cells #[.bool true, .int .i64 0, .bool false, .int .i64 0, .bool false, .int .i64 1, .bool false, .int .i64 0, .bool false, .int .i64 0, .bool true, .int .i64 1] 53)).heap.size := hb0.size
  have L0 : Lw w w1 E (ES.new f3 []) := ⟨HB.out, _, _, h1, fun k hk => ⟨Nat.le_trans hz1 hk.1, hk.2⟩⟩
  have HL0 := Lib.hid L0
  clear L0 hz1 h1 hb0 hb1 hlit
  go_wp2_with fail
  refine (lw_send1 (c := 5) HL0 (.inr rfl) (by decide) (by decide) (by decide) (by decide)).mono ?_
  rintro _ w2 ⟨rfl, h2⟩
  have HL2 := Lib.hid h2
  clear h2 HL0
  go_wp2_with fail
  refine (lw_send1 (c := 6) HL2 (.inr rfl) (by decide) (by decide) (by decide) (by decide)).mono ?_
  rintro _ w3 ⟨rfl, h3⟩
  have HL3 := Lib.hid h3
  clear h3 HL2
  go_wp2_with fail
  refine (lw_send1 (c := 7) HL3 (.inr rfl) (by decide) (by decide) (by decide) (by decide)).mono ?_
  rintro _ w4 ⟨rfl, h4⟩
  have HL4 := Lib.hid h4
  clear h4 HL3
  go_wp2_with fail
  refine (lw_flying HL4.out).mono ?_
  rintro _ _ ⟨rfl, rfl⟩
  go_wp2_with fail
  refine (lw_lost HL4.out).mono ?_
  rintro _ _ ⟨rfl, rfl⟩
  go_wp2_with fail
  go_ret
  exact ⟨E, rfl, HL4.out⟩
theorem lw_gets1 {w0 w : World} {E : Nat} {s : ES} (h : Hid (Lw w0 w E s)) {d : Int} (hd : d = 0 ∨ d = 1) {c : UInt8} {r : List (List UInt8)} (hbx : s.box d = [c] :: r) :
    Calls Try.prog 16 #[.pointer (some ⟨E, 0, none⟩), .int .i64 d, .int .i64 0, .slice (some ⟨w.heap.size, 0, none⟩) 1 1] (w.alloc (.cells #[.int .u8 (c.toNat : Nat)] 5)) fun e w' => e = .returned (.bool true) ∧ Lw w0 w' E (s.got d) :=
  (lw_gets (y := [c]) h.out ((Below.refl _ _).alloc (Nat.le_refl _) _) hd hbx (Rd.of_bk (Bk.newA w 5 #[.int .u8 (c.toNat : Nat)]) (by simp) (by simp [bys])) (Nat.le_refl _) rfl).mono fun e w' ⟨h1, h2⟩ => ⟨by simpa using h1, h2⟩
theorem lw_comes1 {w0 w : World} {E : Nat} {s : ES} (h : Hid (Lw w0 w E s)) {want : Int} (hn : ((s.tickN : Int) == want) = true) (hnow : s.now ≤ 1000000) (hlo : s.lost ≤ 900000000) (hsk : s.sky.length ≤ 900000) :
    Calls Try.prog 14 #[.pointer (some ⟨E, 0, none⟩), .int .i64 want] w fun e w' => e = .returned (.bool true) ∧ Lw w0 w' E s.tick :=
  (lw_comes h.out hnow hlo hsk).mono fun e w' ⟨h1, h2⟩ => ⟨by rw [h1, hn], h2⟩
set_option maxRecDepth 100000 in
set_option maxHeartbeats 3200000 in
theorem awake_any {w : World} : Calls Try.prog 9 #[] w fun e w' => e = .returned (.bool true) ∧ Below w.heap.size w w' := by
  go_enter Try.func9, Try.ntmps9
  go_wp2_with fail
  refine begun_any.mono ?_
  rintro _ w1 ⟨E, rfl, h1⟩
  have HL1 := Lib.hid h1
  clear h1
  go_wp2_with fail
  refine (lw_comes1 HL1 (by decide) (by decide) (by decide) (by decide)).mono ?_
  rintro _ w2 ⟨rfl, h2⟩
  have HL2 := Lib.hid h2
  clear h2 HL1
  go_wp2_with fail
  refine (lw_gets1 HL2 (.inr rfl) (c := 7) (r := []) (by decide)).mono ?_
  rintro _ w3 ⟨rfl, h3⟩
  have HL3 := Lib.hid h3
  clear h3 HL2
  go_wp2_with fail
  refine (lw_gets_none HL3.out (.inr rfl) (by decide) rfl).mono ?_
  rintro _ _ ⟨rfl, rfl⟩
  go_wp2_with fail
  go_ret
  exact ⟨rfl, HL3.out.1⟩
end Go.Proofs.Ytknpghemogfenaa
