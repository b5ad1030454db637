/- has, ends; awake. -/
import Derived.Test.YtdepmogibhmdaaaBu10
namespace Go.Proofs.Ytdepmogibhmdaaa
open Go.RowKit
set_option linter.unusedVariables false
/-- ends -/
theorem ends_any {w : World} {Q d : Nat} {B : Option Addr} {s : RS} (h : Ro w Q B d s) (e p : Int) :
    Calls Try.prog 31 #[.pointer (some ⟨Q, 0, none⟩), .int .i64 e, .int .i64 p] w fun x w' => x = .returned (.bool (s.fin.1 == e && s.fin.2 == p)) ∧ Below w.heap.size w w' := by
  go_enter Try.func31, Try.ntmps31
  go_wp2_with fail
  refine (endR_any h).mono ?_
  rintro e w1 ⟨rfl, hb⟩
  have HB := Lib.hid hb
  clear hb
  go_wp2
  all_goals go_ret
  all_goals exact ⟨ret_bool (by simp_all), HB.out⟩
/-- has -/
theorem has_any {w : World} {base P c : Nat} {A : Option Addr} {s : WS} (h : Wo w base P A c s) {B : Option Addr} {n d : Nat} {l : List UInt8} (hr : Rd w B n (bys l)) :
    Calls Try.prog 38 #[.pointer (some ⟨P, 0, none⟩), .slice B n d] w fun x w' => x = .returned (.bool (s.e == 0 && s.out == l)) ∧ Below w.heap.size w w' := by
  have HR := Lib.hid hr
  clear hr
  go_enter Try.func38, Try.ntmps38
  go_wp2_with fail
  refine (bytesW_any h).mono ?_
  rintro e w1 ⟨v, rfl, hown, hb⟩
  obtain ⟨A1, c1, rfl, _, _, _, _⟩ := own_form hown
  have H1 := Lib.hid (And.intro (Rd.of_own hown) hb)
  clear hown hb
  by_cases he : s.e = 0
  · have d1 : (s.e == 0) = true := by simpa using he
    clear he
    go_wp2_with fail
    refine (same_any H1.out.1 (HR.out.below H1.out.2)).mono ?_
    rintro e w2 ⟨rfl, rfl⟩
    go_wp2
    go_ret
    exact ⟨ret_bool (by rw [d1]; rfl), H1.out.2⟩
  · have d1 : (s.e == 0) = false := by simpa using he
    clear he
    go_wp2
    go_ret
    exact ⟨ret_bool (by rw [d1]; rfl), H1.out.2⟩
/-- A writer and a reader beside it, both newer than a world. -/
def WR (w0 w : World) (P : Nat) (A : Option Addr) (c : Nat) (s : WS) (Q : Nat) (B : Option Addr) (d : Nat) (r : RS) : Prop :=
  Wo w w0.heap.size P A c s ∧ Ro w Q B d r ∧ w0.heap.size ≤ P ∧ w0.heap.size ≤ Q ∧ ¬ Wset P A Q ∧ (∀ b, B = some b → ¬ Wset P A b.block ∧ b.block < w.heap.size) ∧ Below w0.heap.size w0 w
theorem WR.step {w0 w w' : World} {P c Q d : Nat} {A B : Option Addr} {s s' : WS} {r : RS} {x : Int} {e : Ending} (h : WR w0 w P A c s Q B d r) (hl : LyPost w w0.heap.size P A x s' e w') :
    e = .returned (.int .i64 x) ∧ ∃ A' c', WR w0 w' P A' c' s' Q B d r := by
  obtain ⟨h1, h2, h3, h4, h5, h6, h7⟩ := h
  obtain ⟨he, A', c', l1, l2, l3⟩ := hl
  have hQ := h2.1.lt
  have hfar : ∀ k, k < w.heap.size → ¬ Wset P A k → ¬ Wset P A' k := by
    rintro k hk hn (e | ⟨a, ha, e⟩)
    · exact hn (.inl e)
    · rcases l2 a ha with ⟨b, hb, e'⟩ | e'
      · exact hn (.inr ⟨b, hb, e'.symm.trans e⟩)
      · omega
  have hs := l3.size
  exact ⟨he, A', c', l1, h2.chg l3 h5 fun b hb => (h6 b hb).1, h3, h4, hfar Q hQ h5, fun b hb => ⟨hfar _ (h6 b hb).2 (h6 b hb).1, by have := (h6 b hb).2; omega⟩,
    l3.below h7 (fun k hk hS => by
      rcases hS with e | ⟨a, ha, e⟩
      · omega
      · have := (own_ge h1.2.1 a ha).1; omega) h7.size⟩
theorem WR.below {w0 w w' : World} {P c Q d : Nat} {A B : Option Addr} {s : WS} {r : RS} (h : WR w0 w P A c s Q B d r) (hb : Below w.heap.size w w') : WR w0 w' P A c s Q B d r :=
  ⟨h.1.below hb, h.2.1.below hb, h.2.2.1, h.2.2.2.1, h.2.2.2.2.1, (fun b hb' => ⟨(h.2.2.2.2.2.1 b hb').1, Nat.lt_of_lt_of_le (h.2.2.2.2.2.1 b hb').2 hb.size⟩), below_base h.2.2.2.2.2.2 hb h.2.2.2.2.2.2.size⟩
end Go.Proofs.Ytdepmogibhmdaaa
