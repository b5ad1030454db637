/- Chapter 31: EtherKnown's walk. -/
import Derived.Test.YtknpghemogfenaaAw31
namespace Go.Proofs.Ytknpghemogfenaa
open Go.Conc Go.RowKit
set_option linter.unusedVariables false
theorem lw_gets_bad {w0 w : World} {E : Nat} {s : ES} (h : Lw w0 w E s) {d : Int} (hd : isEnd d = false) :
    Calls Try.prog 16 #[.pointer (some ⟨E, 0, none⟩), .int .i64 d, .int .i64 2, .slice none 0 0] w fun e w' => e = .returned (.bool true) ∧ w' = w := by
  have H := Lib.hid (And.intro h hd)
  clear h hd
  go_enter Try.func16, Try.ntmps16
  go_wp2_with fail
  obtain ⟨⟨h1, base, F, ⟨m, m1, m2⟩, h3⟩, hd⟩ := H.out
  have M1 := Lib.hid m1
  clear h1 m1 m2 h3
  refine (eget_bad M1.out H.out.2).mono ?_
  rintro e w1 ⟨rfl, rfl⟩
  go_wp2_with fail
  refine (same_true (l := []) (Rd.nil _ _) (Rd.nil _ _)).mono ?_
  rintro e w2 ⟨rfl, rfl⟩
  go_wp2_with fail
  go_ret
  exact ⟨rfl, rfl⟩
theorem lw_send_bad {w0 wp w : World} {E : Nat} {s : ES} (h : Lw w0 wp E s) (hb : Below wp.heap.size wp w) {A : Option Addr} {n c : Nat} {d : Int} (hd : isEnd d = false) :
    Calls Try.prog 13 #[.pointer (some ⟨E, 0, none⟩), .int .i64 d, .slice A n c] w fun e w' => e = .returned (.int .i64 2) ∧ Lw w0 w' E s := by
  obtain ⟨h1, base, F, h2, h3⟩ := h.below hb
  exact (send_bad h2 hd).mono fun e w' ⟨e1, e2⟩ => ⟨e1, Lw.below ⟨h1, base, F, h2, h3⟩ e2⟩
section
variable {w0 w : World} {A B : Option Addr} {c d : Nat} {fl : List FT} {sl : List SY}
theorem lw_new (hb : Below w0.heap.size w0 w) (hF : Rd w A (fl.length * 4) (fcs fl)) (hS : Rd w B (sl.length * 3) (ycs sl)) (hA : At0 A) (hB : At0 B) (hX : ∀ y ∈ sl, Rd w y.A y.n (bys y.x)) (hfl : fl.length ≤ 100000) (hsl : sl.length ≤ 100000) (h0 : newE fl sl = 0) :
    Calls Try.prog 11 #[.slice A fl.length c, .slice B sl.length d] w fun e w' => ∃ E, e = .returned (.tuple #[.pointer (some ⟨E, 0, none⟩), .int .i64 0]) ∧ Lw w0 w' E (ES.new fl sl) := by
  refine (new_any hF hS hA hB hX hfl hsl).mono ?_
  rintro e w1 ⟨hb1, ⟨h2, _⟩ | ⟨_, E, rfl, h1⟩⟩
  · rw [h0] at h2; exact absurd h2 (by decide)
  · exact ⟨E, rfl, below_base hb hb1 hb.size, _, _, h1, fun k hk => ⟨Nat.le_trans hb.size hk.1, hk.2⟩⟩
theorem lw_new_bad (hF : Rd w A (fl.length * 4) (fcs fl)) (hS : Rd w B (sl.length * 3) (ycs sl)) (hA : At0 A) (hB : At0 B) (hX : ∀ y ∈ sl, Rd w y.A y.n (bys y.x)) (hfl : fl.length ≤ 100000) (hsl : sl.length ≤ 100000) (h0 : newE fl sl = 2) :
    Calls Try.prog 11 #[.slice A fl.length c, .slice B sl.length d] w fun e w' => e = .returned (.tuple #[.pointer none, .int .i64 2]) ∧ Below w.heap.size w w' := by
  refine (new_any hF hS hA hB hX hfl hsl).mono ?_
  rintro e w1 ⟨hb1, ⟨_, h1⟩ | ⟨h2, _⟩⟩
  · exact ⟨h1, hb1⟩
  · rw [h0] at h2; exact absurd h2 (by decide)
end
theorem at0_lit {g : Nat} : At0 (some ⟨g, 0, none⟩) := fun a ha => ⟨g, by injection ha with ha; exact ha.symm⟩
theorem at0_none : At0 none := fun a ha => by cases ha
def yS : ES := ES.new [] [⟨1, 0, none, 0, 0, [9]⟩]
set_option maxRecDepth 100000 in
set_option maxHeartbeats 6400000 in
theorem known_any {w : World} : Calls Try.prog 5 #[] w fun e w' => e = .returned (.bool true) ∧ Below w.heap.size w w' := by
  go_enter Try.func5, Try.ntmps5
  go_wp2_with fail
  refine begun_any.mono ?_
  rintro _ w1 ⟨E, rfl, h1⟩
  have HL1 := Lib.hid h1
  clear h1
  go_wp2_with fail
  refine (lw_comes1 HL1 (by decide) (by decide) (by decide) (by decide)).mono ?_
  rintro _ w2 ⟨rfl, h2⟩
  have HL2 := Lib.hid h2
  clear h2 HL1
  go_wp2_with fail
  refine (lw_gets1 HL2 (.inr rfl) (c := 7) (r := []) (by decide)).mono ?_
  rintro _ w3 ⟨rfl, h3⟩
  have HL3 := Lib.hid h3
  clear h3 HL2
  go_wp2_with fail
  refine (lw_comes1 HL3 (by decide) (by decide) (by decide) (by decide)).mono ?_
  rintro _ w4 ⟨rfl, h4⟩
  have HL4 := Lib.hid h4
  clear h4 HL3
  go_wp2_with fail
  refine (lw_gets1 HL4 (.inr rfl) (c := 6) (r := [[7]]) (by decide)).mono ?_
  rintro _ w5 ⟨rfl, h5⟩
  have HL5 := Lib.hid h5
  clear h5 HL4
  go_wp2_with fail
  refine (lw_gets1 HL5 (.inr rfl) (c := 7) (r := []) (by decide)).mono ?_
  rintro _ w6 ⟨rfl, h6⟩
  have HL6 := Lib.hid h6
  clear h6 HL5
  go_wp2_with fail
  refine (lw_gets_none HL6.out (.inr rfl) (by decide) rfl).mono ?_
  rintro _ w7 ⟨rfl, h7⟩
  have HB7 := Lib.hid (show Below w.heap.size w w7 by rw [h7]; exact HL6.out.1)
  clear HL6 h7
  go_wp2_with fail
  have q0 := Bk.newA w7 5 #[.int .u8 9]
  have q1 := q0.alloc (.cells #[.int .i64 1, .int .i64 0, .slice (some ⟨w7.heap.size, 0, none⟩) 1 1] 45)
  have q2 := Bk.newA (w7.alloc (.cells #[.int .u8 9] 5)) 45 #[.int .i64 1, .int .i64 0, .slice (some ⟨w7.heap.size, 0, none⟩) 1 1]
  rw [World.size_alloc] at q2
  refine (lw_new (w0 := w7) (fl := []) (sl := [⟨1, 0, some ⟨w7.heap.size, 0, none⟩, 1, 1, [9]⟩]) (((Below.refl _ _).alloc (Nat.le_refl _) _).alloc (by simp) _) (Rd.nil _ _) (Rd.of_bk q2 (Nat.le_refl _) rfl) at0_none at0_lit (fun y hy => by obtain rfl := List.mem_singleton.1 hy; exact Rd.of_bk q1 (Nat.le_refl _) rfl) (by decide) (by simp) rfl).mono ?_
  rintro _ w8 ⟨Y, rfl, h8⟩
  have HL8 := Lib.hid (show Lw w7 w8 Y yS from h8)
  clear h8 q0 q1 q2
  go_wp2_with fail
  have q0 := Bk.newA w8 53 #[.bool false, .int .i64 (-1), .bool false, .int .i64 0]
  refine (lw_new_bad (fl := [⟨false, -1, false, 0⟩]) (sl := []) (Rd.of_bk q0 (by decide) rfl) (Rd.nil _ _) at0_lit at0_none (fun y hy => by cases hy) (by decide) (by decide) (by decide)).mono ?_
  rintro _ w9 ⟨rfl, h9⟩
  have HL9 := Lib.hid (HL8.out.below (below_base ((Below.refl _ _).alloc (Nat.le_refl _) _) h9 (by simp)))
  clear h9 q0 HL8
  go_wp2_with fail
  refine awake_any.mono ?_
  rintro _ w10 ⟨rfl, h10⟩
  have HL10 := Lib.hid (HL9.out.below h10)
  clear h10 HL9
  go_wp2_with fail
  refine (lw_comes1 HL10 (by decide) (by decide) (by decide) (by decide)).mono ?_
  rintro _ w11 ⟨rfl, h11⟩
  have HL11 := Lib.hid h11
  clear h11 HL10
  go_wp2_with fail
  refine (lw_gets1 HL11 (.inl rfl) (c := 9) (r := []) (by decide)).mono ?_
  rintro _ w12 ⟨rfl, h12⟩
  have HL12 := Lib.hid h12
  clear h12 HL11
  go_wp2_with fail
  refine (lw_gets_bad HL12.out (by decide)).mono ?_
  rintro _ _ ⟨rfl, rfl⟩
  go_wp2_with fail
  refine (lw_now HL12.out).mono ?_
  rintro _ _ ⟨rfl, rfl⟩
  go_wp2_with fail
  refine (lw_send_bad HL12.out ((Below.refl _ _).alloc (Nat.le_refl _) _) (by decide)).mono ?_
  rintro _ w13 ⟨rfl, h13⟩
  have HL13 := Lib.hid h13
  clear h13 HL12
  go_wp2_with fail
  go_ret
  exact ⟨rfl, below_base HB7.out HL13.out.1 HB7.out.size⟩
theorem known_w (w : World) : Calls Try.prog 5 #[] w fun e w' => e = .returned (.bool true) ∧ Below w.heap.size w w' := known_any
end Go.Proofs.Ytknpghemogfenaa
