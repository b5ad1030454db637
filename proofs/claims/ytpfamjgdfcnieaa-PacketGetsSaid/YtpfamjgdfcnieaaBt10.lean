/- octet's writers: Bytes, NewWriter; the document's writers: NewWriter, Raw, Bytes. -/
import Derived.Test.YtpfamjgdfcnieaaPu10
namespace Go.Proofs.Ytpfamjgdfcnieaa
open Go.RowKit
set_option linter.unusedVariables false
def WS.out (s : WS) : List UInt8 := if s.e = 0 then s.b else []
def BtPost (w : World) (s : WS) (e : Ending) (w' : World) : Prop :=
  ∃ v, e = .returned (.tuple #[v, .int .i64 s.e]) ∧ w'.ownsRow w.heap.size 5 1 v s.out.length (bys s.out) ∧ Below w.heap.size w w'
/-- (*Writer).Bytes -/
theorem bytesW_any {w : World} {base P c : Nat} {A : Option Addr} {s : WS} (h : Wo w base P A c s) :
    Calls Try.prog 32 #[.pointer (some ⟨P, 0, none⟩)] w (BtPost w s) := by
  have H := Lib.hid h
  have c0 := h.1.cell 0
  have c3 := h.1.cell 3
  clear h
  by_cases he : s.e = 0
  · rw [he] at c3
    have HE := Lib.hid (And.intro he (show s.out = s.b from by unfold WS.out; rw [if_pos he]))
    clear he
    go_enter Try.func32, Try.ntmps32
    go_wp2_with fail
    refine (noneW_made H.out).mono ?_
    rintro e w3 ⟨rfl, rfl⟩
    go_wp2_with fail
    refine (clone_any (Rd.of_own H.out.2.1) (by have := H.out.2.2.2.2.2; omega)).mono ?_
    rintro e w3 ⟨v, rfl, hown, hb⟩
    have H3 := Lib.hid (And.intro hown hb)
    clear hown hb
    go_wp2
    go_ret2
    exact ⟨v, by rw [HE.out.1]; rfl, by rw [HE.out.2]; exact H3.out.1, H3.out.2⟩
  · have d1 : (s.e != 0) = true := by simpa using he
    have HE := Lib.hid (show s.out = [] from by unfold WS.out; rw [if_neg he])
    clear he
    go_enter Try.func32, Try.ntmps32
    go_wp2_with fail
    refine (noneW_made H.out).mono ?_
    rintro e w3 ⟨rfl, rfl⟩
    go_wp2_with fail
    go_quiet (fail)
    go_wp2
    go_ret2
    exact ⟨_, rfl, by rw [HE.out]; exact World.ownsRow_nil _ _ _ _, below_dN (Below.refl _ _) _⟩
/-- What NewWriter tells. -/
def NwPost (w : World) (m : Int) (e : Ending) (w' : World) : Prop :=
  if m < 0 ∨ 100000 < m then e = .returned (.tuple #[.pointer none, .int .i64 2]) ∧ w' = w
  else ∃ P, e = .returned (.tuple #[.pointer (some ⟨P, 0, none⟩), .int .i64 0]) ∧ Wo w' w.heap.size P none 0 ⟨m, [], 0⟩ ∧ w.heap.size ≤ P ∧ Below w.heap.size w w'
theorem nw_no {w : World} {m : Int} (h : m < 0 ∨ 100000 < m) : NwPost w m (.returned (.tuple #[.pointer none, .int .i64 2])) w := by unfold NwPost; rw [if_pos h]; exact ⟨rfl, rfl⟩
theorem newW_any {w : World} (m : Int) : Calls Try.prog 28 #[.int .i64 m] w (NwPost w m) := by
  by_cases h0 : m < 0
  · have d1 : decide (m < 0) = true := by simpa using h0
    have HN := Lib.hid (nw_no (w := w) (.inl h0))
    clear h0
    go_enter Try.func28, Try.ntmps28
    go_wp2
    go_ret2
    exact HN.out
  · have d1 : decide (m < 0) = false := by simpa using h0
    by_cases h1 : 100000 < m
    · have d2 : decide (m > 100000) = true := by simpa using h1
      have d3 : decide (100000 < m) = true := by simpa using h1
      have HN := Lib.hid (nw_no (w := w) (.inr h1))
      clear h0 h1
      go_enter Try.func28, Try.ntmps28
      go_wp2
      go_ret2
      exact HN.out
    · have d2 : decide (m > 100000) = false := by simpa using h1
      have d3 : decide (100000 < m) = false := by simpa using h1
      have HN := Lib.hid (And.intro h0 h1)
      clear h0 h1
      go_enter Try.func28, Try.ntmps28
      go_wp2
      go_ret2
      unfold NwPost
      rw [if_neg (by have := HN.out; omega)]
      have hb := (Below.refl w.heap.size w).alloc (Nat.le_refl _) (.cells #[.slice none 0 0, .bool true, .int .i64 m, .int .i64 0] 74)
      exact ⟨w.heap.size, rfl, ⟨Bk.newA w _ _, World.ownsRow_nil _ _ _ _, fun a ha => (by cases ha), hb.size, by have := HN.out; show 0 ≤ m; omega, by have := HN.out; show m ≤ 100000; omega, by have := HN.out; show ((([] : List UInt8).length : Nat) : Int) ≤ m; simp; omega⟩, Nat.le_refl _, hb⟩
end Go.Proofs.Ytpfamjgdfcnieaa
