/- OctetKnown: its walk. -/
import Derived.Test.YtdepmogibhmdaaaKn10
namespace Go.Proofs.Ytdepmogibhmdaaa
open Go.RowKit
set_option linter.unusedVariables false
/-- A writer, newer than a world. -/
def WW (w0 w : World) (P : Nat) (A : Option Addr) (c : Nat) (s : WS) : Prop := Wo w w0.heap.size P A c s ∧ w0.heap.size ≤ P ∧ Below w0.heap.size w0 w
theorem WW.below {w0 w w' : World} {P c : Nat} {A : Option Addr} {s : WS} (h : WW w0 w P A c s) (hb : Below w.heap.size w w') : WW w0 w' P A c s := ⟨h.1.below hb, h.2.1, below_base h.2.2 hb h.2.2.size⟩
theorem WW.step {w0 w w' : World} {P c : Nat} {A : Option Addr} {s s' : WS} {x : Int} {e : Ending} (h : WW w0 w P A c s) (hl : LyPost w w0.heap.size P A x s' e w') :
    e = .returned (.int .i64 x) ∧ ∃ A' c', WW w0 w' P A' c' s' := by
  obtain ⟨h1, h2, h7⟩ := h
  obtain ⟨he, A', c', l1, l2, l3⟩ := hl
  exact ⟨he, A', c', l1, h2, l3.below h7 (fun k hk hS => by
      rcases hS with e | ⟨a, ha, e⟩
      · omega
      · have := (own_ge h1.2.1 a ha).1; omega) h7.size⟩
theorem WW.put {w0 w : World} {P c : Nat} {A : Option Addr} {s s' : WS} (h : WW w0 w P A c s) {wide n : Int} (hn : -9223372036854775808 ≤ n ∧ n ≤ 9223372036854775807) (hs : s.put wide n = s') :
    Calls Try.prog 29 #[.pointer (some ⟨P, 0, none⟩), .int .i64 wide, .int .i64 n] w fun e w' => e = .returned (.int .i64 s'.e) ∧ ∃ A' c', WW w0 w' P A' c' s' := by
  subst hs
  exact (putW_any h.1 hn).mono fun e w' hl => h.step hl
theorem WW.raw {w0 w : World} {P c : Nat} {A : Option Addr} {s s' : WS} (h : WW w0 w P A c s) {C : Option Addr} {m k : Nat} {l : List UInt8} (hr : Rd w C m (bys l)) (hm : m ≤ 140737488351232) (hs : s.raw l = s') :
    Calls Try.prog 30 #[.pointer (some ⟨P, 0, none⟩), .slice C m k] w fun e w' => e = .returned (.int .i64 s'.e) ∧ ∃ A' c', WW w0 w' P A' c' s' := by
  subst hs
  exact (rawW_any h.1 hr hm).mono fun e w' hl => h.step hl
theorem WW.bytes {w0 w : World} {P c : Nat} {A : Option Addr} {s : WS} (h : WW w0 w P A c s) :
    Calls Try.prog 13 #[.pointer (some ⟨P, 0, none⟩)] w fun e w' => (∃ C k, e = .returned (.tuple #[.slice C s.out.length k, .int .i64 s.e]) ∧ w'.ownsRow w.heap.size 5 1 (.slice C s.out.length k) s.out.length (bys s.out)) ∧ WW w0 w' P A c s := by
  refine (bytesW_any h.1).mono fun e w' ⟨v, h0, h1, h2⟩ => ?_
  obtain ⟨C, k, rfl, _⟩ := own_form h1
  exact ⟨⟨C, k, h0, h1⟩, h.below h2⟩
theorem ww_new {w0 w w' : World} {m : Int} {e : Ending} (hb : Below w0.heap.size w0 w) (h0 : 0 ≤ m) (h1 : m ≤ 100000) (h : NwPost w m e w') : ∃ P, e = .returned (.tuple #[.pointer (some ⟨P, 0, none⟩), .int .i64 0]) ∧ WW w0 w' P none 0 ⟨m, [], 0⟩ := by
  unfold NwPost at h
  rw [if_neg (by omega)] at h
  obtain ⟨P, rfl, h1, h2, h3⟩ := h
  have hs := hb.size
  exact ⟨P, rfl, ⟨h1.1, World.ownsRow_nil _ _ _ _, h1.2.2.1, by have := h1.2.2.2.1; omega, h1.2.2.2.2⟩, by omega, below_base hb h3 hs⟩
set_option maxRecDepth 100000 in
set_option maxHeartbeats 4000000 in
/-- artesianlaw10.OctetKnown -/
theorem known_walk (w : World) : Calls Try.prog 6 #[] w fun e w' => e = .returned (.bool true) ∧ Below w.heap.size w w' := by
  go_enter Try.func6, Try.ntmps6
  go_wp2_with fail
  refine (newW_any 4).mono ?_
  intro e w1 hh1
  obtain ⟨P, rfl, h1⟩ := ww_new (Below.refl _ _) (by omega) (by omega) hh1
  clear hh1
  have H1 := Lib.hid h1
  clear h1
  go_wp2_with fail
  refine (H1.out.put (s' := ⟨4, [1, 2], 0⟩) (by omega) rfl).mono ?_
  rintro e w2 ⟨rfl, A2, c2, h2⟩
  have H2 := Lib.hid h2
  clear h2
  go_wp2_with fail
  refine ((H2.out.below ((Below.refl _ _).alloc (Nat.le_refl _) _)).raw (s' := ⟨4, [1, 2, 9], 0⟩) (l := [9]) (Rd.lit _ _ _ _ rfl 1 rfl _ rfl) (by omega) rfl).mono ?_
  rintro e w3 ⟨rfl, A3, c3, h3⟩
  have H3 := Lib.hid h3
  clear h3
  go_wp2_with fail
  refine (H3.out.put (s' := ⟨4, [1, 2, 9], 3⟩) (by omega) rfl).mono ?_
  rintro e w4 ⟨rfl, A4, c4, h4⟩
  have H4 := Lib.hid h4
  clear h4
  go_wp2_with fail
  refine (H4.out.raw (s' := ⟨4, [1, 2, 9], 3⟩) (l := []) (Rd.nil _ _) (by omega) rfl).mono ?_
  rintro e w5 ⟨rfl, A5, c5, h5⟩
  have H5 := Lib.hid h5
  clear h5
  go_wp2_with fail
  refine H5.out.bytes.mono ?_
  rintro e w6 ⟨⟨C, k, rfl, _⟩, h6⟩
  have H6 := Lib.hid h6.2.2
  clear h6
  go_wp2_with fail
  refine (newW_any 3).mono ?_
  intro e w7 hh7
  obtain ⟨P7, rfl, h7⟩ := ww_new H6.out (by omega) (by omega) hh7
  clear hh7
  have H7 := Lib.hid h7
  clear h7
  go_wp2_with fail
  refine (H7.out.put (s' := ⟨3, [1, 2], 0⟩) (by omega) rfl).mono ?_
  rintro e w8 ⟨rfl, A8, c8, h8⟩
  have H8 := Lib.hid h8
  clear h8
  go_wp2_with fail
  refine ((H8.out.below ((Below.refl _ _).alloc (Nat.le_refl _) _)).raw (s' := ⟨3, [1, 2, 9], 0⟩) (l := [9]) (Rd.lit _ _ _ _ rfl 1 rfl _ rfl) (by omega) rfl).mono ?_
  rintro e w9 ⟨rfl, A9, c9, h9⟩
  have H9 := Lib.hid h9
  clear h9
  go_wp2_with fail
  refine (H9.out.put (s' := ⟨3, [1, 2, 9], 4⟩) (by omega) rfl).mono ?_
  rintro e w10 ⟨rfl, A10, c10, h10⟩
  have H10 := Lib.hid h10
  clear h10
  go_wp2_with fail
  refine H10.out.bytes.mono ?_
  rintro e w11 ⟨⟨D, k2, rfl, _⟩, h11⟩
  have H11 := Lib.hid h11.2.2
  clear h11
  go_wp2_with fail
  refine (newR_any (l := []) (Rd.nil _ _) (by omega)).mono ?_
  rintro e w12 ⟨Q, B, d, rfl, hr, hb, hQ, hB⟩
  have H12 := Lib.hid (show RR w w12 Q B d ⟨[], 0, 0, 0⟩ from ⟨hr, by have := H11.out.size; omega, below_base H11.out hb H11.out.size⟩)
  clear hr hb hQ hB
  go_wp2_with fail
  refine (newW_any (-1)).mono ?_
  intro e w13 h13
  unfold NwPost at h13
  rw [if_pos (by omega)] at h13
  obtain ⟨rfl, rfl⟩ := h13
  go_wp2_with fail
  refine awake_any.mono ?_
  rintro e w14 ⟨rfl, hb14⟩
  have H14 := Lib.hid (H12.out.below hb14)
  clear hb14
  go_wp2_with fail
  refine (H14.out.ends 0 0).mono ?_
  rintro e w15 ⟨rfl, h15⟩
  have H15 := Lib.hid h15
  clear h15
  rw [show ((⟨[], 0, 0, 0⟩ : RS).fin.1 == 0 && (⟨[], 0, 0, 0⟩ : RS).fin.2 == 0) = true from rfl]
  go_wp2_with fail
  refine (H15.out.get (x := 0) (r' := ⟨[], 0, 2, 0⟩) rfl).mono ?_
  rintro e w16 ⟨rfl, h16⟩
  have H16 := Lib.hid h16
  clear h16
  go_wp2_with fail
  refine (H16.out.ends 2 0).mono ?_
  rintro e w17 ⟨rfl, h17⟩
  have H17 := Lib.hid h17
  clear h17
  rw [show ((⟨[], 0, 2, 0⟩ : RS).fin.1 == 2 && (⟨[], 0, 2, 0⟩ : RS).fin.2 == 0) = true from rfl]
  go_wp2
  go_ret
  exact ⟨rfl, H17.out.2.2⟩
end Go.Proofs.Ytdepmogibhmdaaa
