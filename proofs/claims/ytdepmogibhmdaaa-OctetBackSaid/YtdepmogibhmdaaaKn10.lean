/- awake, OctetKnown: their walks. -/
import Derived.Test.YtdepmogibhmdaaaAw10
namespace Go.Proofs.Ytdepmogibhmdaaa
open Go.RowKit
set_option linter.unusedVariables false
theorem WR.put {w0 w : World} {P c Q d : Nat} {A B : Option Addr} {s s' : WS} {r : RS} (h : WR w0 w P A c s Q B d r) {wide n : Int} (hn : -9223372036854775808 ≤ n ∧ n ≤ 9223372036854775807) (hs : s.put wide n = s') :
    Calls Try.prog 29 #[.pointer (some ⟨P, 0, none⟩), .int .i64 wide, .int .i64 n] w fun e w' => e = .returned (.int .i64 s'.e) ∧ ∃ A' c', WR w0 w' P A' c' s' Q B d r := by
  subst hs
  exact (putW_any h.1 hn).mono fun e w' hl => h.step hl
theorem WR.raw {w0 w : World} {P c Q d : Nat} {A B : Option Addr} {s s' : WS} {r : RS} (h : WR w0 w P A c s Q B d r) {C : Option Addr} {m k : Nat} {l : List UInt8} (hr : Rd w C m (bys l)) (hm : m ≤ 140737488351232) (hs : s.raw l = s') :
    Calls Try.prog 30 #[.pointer (some ⟨P, 0, none⟩), .slice C m k] w fun e w' => e = .returned (.int .i64 s'.e) ∧ ∃ A' c', WR w0 w' P A' c' s' Q B d r := by
  subst hs
  exact (rawW_any h.1 hr hm).mono fun e w' hl => h.step hl
/-- A reader, newer than a world. -/
def RR (w0 w : World) (Q : Nat) (B : Option Addr) (d : Nat) (r : RS) : Prop := Ro w Q B d r ∧ w0.heap.size ≤ Q ∧ Below w0.heap.size w0 w
theorem WR.rr {w0 w : World} {P c Q d : Nat} {A B : Option Addr} {s : WS} {r : RS} (h : WR w0 w P A c s Q B d r) : RR w0 w Q B d r := ⟨h.2.1, h.2.2.2.1, h.2.2.2.2.2.2⟩
theorem RR.below {w0 w w' : World} {Q d : Nat} {B : Option Addr} {r : RS} (h : RR w0 w Q B d r) (hb : Below w.heap.size w w') : RR w0 w' Q B d r := ⟨h.1.below hb, h.2.1, below_base h.2.2 hb h.2.2.size⟩
theorem RR.chg {w0 w w' : World} {Q d : Nat} {B : Option Addr} {r r' : RS} (h : RR w0 w Q B d r) (h1 : Ro w' Q B d r') (hc : Chg (fun k => k = Q) w w') : RR w0 w' Q B d r' :=
  ⟨h1, h.2.1, hc.below h.2.2 (fun k _ e => by have := h.2.1; omega) h.2.2.size⟩
theorem RR.get {w0 w : World} {Q d : Nat} {B : Option Addr} {r r' : RS} (h : RR w0 w Q B d r) {n x : Int} (hs : r.get n = (x, r')) :
    Calls Try.prog 23 #[.pointer (some ⟨Q, 0, none⟩), .int .i64 n] w fun e w' => e = .returned (.int .i64 x) ∧ RR w0 w' Q B d r' := by
  refine (getR_any h.1 n).mono fun e w' ⟨h1, h2, h3⟩ => ?_
  rw [hs] at h1 h2
  exact ⟨h1, h.chg h2 h3⟩
theorem RR.raw {w0 w : World} {Q d : Nat} {B : Option Addr} {r r' : RS} (h : RR w0 w Q B d r) {n : Int} {l : List UInt8} (hs : r.take n true = (l, r')) :
    Calls Try.prog 21 #[.pointer (some ⟨Q, 0, none⟩), .int .i64 n] w fun e w' => (∃ C k, e = .returned (.slice C l.length k) ∧ w'.ownsRow w.heap.size 5 1 (.slice C l.length k) l.length (bys l)) ∧ RR w0 w' Q B d r' := by
  refine (rawR_any h.1 n).mono fun e w' ⟨v, h0, h1, h2, h3⟩ => ?_
  rw [hs] at h1 h2
  obtain ⟨C, k, rfl, _⟩ := own_form h1
  exact ⟨⟨C, k, h0, h1⟩, h.chg h2 h3⟩
theorem RR.rest {w0 w : World} {Q d : Nat} {B : Option Addr} {r : RS} (h : RR w0 w Q B d r) :
    Calls Try.prog 25 #[.pointer (some ⟨Q, 0, none⟩)] w fun e w' => e = .returned (.int .i64 r.rest) ∧ RR w0 w' Q B d r :=
  (restR_any h.1).mono fun e w' ⟨h0, h1⟩ => ⟨h0, h.below h1⟩
theorem RR.ends {w0 w : World} {Q d : Nat} {B : Option Addr} {r : RS} (h : RR w0 w Q B d r) (e p : Int) :
    Calls Try.prog 31 #[.pointer (some ⟨Q, 0, none⟩), .int .i64 e, .int .i64 p] w fun x w' => x = .returned (.bool (r.fin.1 == e && r.fin.2 == p)) ∧ RR w0 w' Q B d r :=
  (ends_any h.1 e p).mono fun e w' ⟨h0, h1⟩ => ⟨h0, h.below h1⟩
theorem pointer_ne (Q : Nat) : ((some ⟨Q, 0, none⟩ : Option Addr) == none) = false := rfl
set_option maxRecDepth 100000 in
set_option maxHeartbeats 4000000 in
/-- awake -/
theorem awake_any {w : World} : Calls Try.prog 17 #[] w fun e w' => e = .returned (.bool true) ∧ Below w.heap.size w w' := by
  go_enter Try.func17, Try.ntmps17
  go_wp2_with fail
  refine (newW_any 3).mono ?_
  intro e w1 h1
  unfold NwPost at h1
  rw [if_neg (by omega)] at h1
  obtain ⟨P, rfl, h1, h2, h3⟩ := h1
  have H1 := Lib.hid (And.intro h1 (And.intro h2 h3))
  clear h1 h2 h3
  go_wp2_with fail
  refine (newR_any (l := [1, 2, 9, 9]) (Rd.lit _ _ _ _ rfl 4 rfl _ rfl) (by omega)).mono ?_
  rintro e w2 ⟨Q, B, d, rfl, hr, hb, hQ, hB⟩
  have hwr : WR w w2 P none 0 ⟨3, [], 0⟩ Q B d ⟨[1, 2, 9, 9], 0, 0, 0⟩ := by
    obtain ⟨h1, h2, h3⟩ := H1.out
    have ha := (Below.refl w1.heap.size w1).alloc (Nat.le_refl _) (.cells #[.int .u8 1, .int .u8 2, .int .u8 9, .int .u8 9] 5)
    have hb2 := below_base ha hb ha.size
    have hP := h1.1.lt
    rw [World.size_alloc] at hQ hB
    refine ⟨h1.below hb2, hr, h2, by have := h3.size; omega, ?_, fun b hb' => ⟨?_, (hB b hb').2⟩, below_base h3 hb2 h3.size⟩
    · rintro (e | ⟨a, ha, _⟩)
      · omega
      · cases ha
    · rintro (e | ⟨a, ha, _⟩)
      · have := (hB b hb').1; omega
      · cases ha
  have H2 := Lib.hid hwr
  clear hwr hr hb hQ hB H1
  go_wp2_with fail
  refine (H2.out.put (s' := ⟨3, [1, 2], 0⟩) (by omega) rfl).mono ?_
  rintro e w3 ⟨rfl, A3, c3, h3⟩
  have H3 := Lib.hid h3
  clear h3
  go_wp2_with fail
  refine ((H3.out.below ((Below.refl _ _).alloc (Nat.le_refl _) _)).raw (s' := ⟨3, [1, 2, 9], 0⟩) (l := [9]) (Rd.lit _ _ _ _ rfl 1 rfl _ rfl) (by omega) rfl).mono ?_
  rintro e w4 ⟨rfl, A4, c4, h4⟩
  have H4 := Lib.hid h4
  clear h4
  go_wp2_with fail
  have H5 := Lib.hid (H4.out.below ((Below.refl _ _).alloc (Nat.le_refl _) (.cells #[.int .u8 1, .int .u8 2, .int .u8 9] 5)))
  refine (has_any (l := [1, 2, 9]) H5.out.1 (Rd.lit _ _ _ _ rfl 3 rfl _ rfl)).mono ?_
  rintro e w5 ⟨rfl, hb5⟩
  have H6 := Lib.hid (H5.out.below hb5).rr
  clear hb5
  rw [show (((⟨3, [1, 2, 9], 0⟩ : WS).e == 0) && (⟨3, [1, 2, 9], 0⟩ : WS).out == [1, 2, 9]) = true from rfl]
  go_wp2_with fail
  refine (H6.out.get (x := 258) (r' := ⟨[1, 2, 9, 9], 2, 0, 0⟩) rfl).mono ?_
  rintro e w6 ⟨rfl, h6⟩
  have H7 := Lib.hid h6
  clear h6
  go_wp2_with fail
  refine (H7.out.raw (l := [9]) (r' := ⟨[1, 2, 9, 9], 3, 0, 0⟩) rfl).mono ?_
  rintro e w7 ⟨⟨C, k, rfl, hown⟩, h7⟩
  have hb8 := (Below.refl w7.heap.size w7).alloc (Nat.le_refl _) (.cells #[.int .u8 9] 5)
  have H8 := Lib.hid (And.intro (h7.below hb8) ((Rd.of_own hown).below hb8))
  clear h7 hown hb8
  go_wp2_with fail
  refine (same_true H8.out.2 (Rd.lit _ _ _ _ rfl 1 rfl _ rfl)).mono ?_
  rintro e w8 ⟨rfl, rfl⟩
  go_wp2_with fail
  refine H8.out.1.rest.mono ?_
  rintro e w9 ⟨rfl, h9⟩
  have H9 := Lib.hid h9
  clear h9
  rw [show (⟨[1, 2, 9, 9], 3, 0, 0⟩ : RS).rest = 1 from rfl]
  go_wp2_with fail
  refine (H9.out.ends 4 3).mono ?_
  rintro e w10 ⟨rfl, h10⟩
  have H10 := Lib.hid h10
  clear h10
  rw [show ((⟨[1, 2, 9, 9], 3, 0, 0⟩ : RS).fin.1 == 4 && (⟨[1, 2, 9, 9], 3, 0, 0⟩ : RS).fin.2 == 3) = true from rfl]
  go_wp2_with fail
  refine (H10.out.get (x := 0) (r' := ⟨[1, 2, 9, 9], 3, 7, 4⟩) rfl).mono ?_
  rintro e w11 ⟨rfl, h11⟩
  have H11 := Lib.hid h11
  clear h11
  go_wp2_with fail
  refine H11.out.rest.mono ?_
  rintro e w12 ⟨rfl, h12⟩
  have H12 := Lib.hid h12
  clear h12
  rw [show (⟨[1, 2, 9, 9], 3, 7, 4⟩ : RS).rest = 0 from rfl]
  go_wp2_with fail
  refine (H12.out.ends 7 4).mono ?_
  rintro e w13 ⟨rfl, h13⟩
  have H13 := Lib.hid h13
  clear h13
  rw [show ((⟨[1, 2, 9, 9], 3, 7, 4⟩ : RS).fin.1 == 7 && (⟨[1, 2, 9, 9], 3, 7, 4⟩ : RS).fin.2 == 4) = true from rfl]
  go_wp2
  go_ret
  exact ⟨rfl, H13.out.2.2⟩
end Go.Proofs.Ytdepmogibhmdaaa
