/- A writer beside older memory, and beside one more block. -/
import Derived.Test.YtpfamjgdfcnieaaPu10
import Derived.Test.YtpfamjgdfcnieaaBt10
namespace Go.Proofs.Ytpfamjgdfcnieaa
open Go.RowKit
set_option linter.unusedVariables false
/-- A number that fits is put. -/
theorem put_ok {M : Int} {b : List UInt8} {wd : Nat} {n : Int} (hw : wid (wd : Int) = true) (h0 : 0 ≤ n) (h1 : n < 2 ^ (8 * wd)) (hM : (b.length : Int) + wd ≤ M) : (⟨M, b, 0⟩ : WS).put (wd : Int) n = ⟨M, b ++ bebs wd n, 0⟩ := by
  unfold WS.put
  rw [if_neg (by simp), if_neg (by rw [hw]; simp), if_neg]
  · unfold WS.lay
    rw [Int.toNat_natCast, bebs_length, if_neg (by simp only; omega)]
  · rintro (h | h)
    · omega
    · rw [Int.toNat_natCast, Int.ediv_eq_zero_of_lt h0 h1] at h
      omega
/-- A writer, beside older memory. -/
def WrS (w0 w : World) (P : Nat) (A : Option Addr) (c : Nat) (s : WS) : Prop := Wo w w0.heap.size P A c s ∧ w0.heap.size ≤ P ∧ Below w0.heap.size w0 w
/-- .. and one more block, which it does not touch. -/
def WrK (w0 w : World) (P : Nat) (A : Option Addr) (c : Nat) (s : WS) (L : Nat) (T : TypeId) (cs : List Value) : Prop := WrS w0 w P A c s ∧ Bk w L T cs ∧ ¬ Wset P A L
theorem wset_new {w : World} {base P c : Nat} {A : Option Addr} {s : WS} (h : Wo w base P A c s) {k : Nat} (hk : w.heap.size ≤ k) : ¬ Wset P A k := by
  rintro (e | ⟨a, ha, e⟩)
  · have := h.1.lt; omega
  · have := (own_ge h.2.1 a ha).2; omega
theorem wset_step {w : World} {P k : Nat} {A A' : Option Addr} (h : ¬ Wset P A k) (hk : k < w.heap.size) (hA : ∀ a, A' = some a → (∃ b, A = some b ∧ a.block = b.block) ∨ w.heap.size ≤ a.block) : ¬ Wset P A' k := by
  rintro (e | ⟨a, ha, e⟩)
  · exact h (.inl e)
  · rcases hA a ha with ⟨b, hb, e2⟩ | e2
    · exact h (.inr ⟨b, hb, by omega⟩)
    · omega
theorem WrS.below {w0 w w' : World} {P c : Nat} {A : Option Addr} {s : WS} (h : WrS w0 w P A c s) (hb : Below w.heap.size w w') : WrS w0 w' P A c s := ⟨h.1.below hb, h.2.1, below_base h.2.2 hb h.2.2.size⟩
theorem WrK.below {w0 w w' : World} {P c L : Nat} {A : Option Addr} {s : WS} {T : TypeId} {cs : List Value} (h : WrK w0 w P A c s L T cs) (hb : Below w.heap.size w w') : WrK w0 w' P A c s L T cs := ⟨h.1.below hb, h.2.1.belowS hb, h.2.2⟩
theorem WrS.step {w0 w w' : World} {P c : Nat} {A : Option Addr} {s s' : WS} {x : Int} {e : Ending} (h : WrS w0 w P A c s) (hl : LyPost w w0.heap.size P A x s' e w') : e = .returned (.int .i64 x) ∧ ∃ A' c', WrS w0 w' P A' c' s' ∧ (∀ k, k < w.heap.size → ¬ Wset P A k → ¬ Wset P A' k) ∧ Chg (Wset P A) w w' := by
  obtain ⟨he, A', c', l1, l2, l3⟩ := hl
  refine ⟨he, A', c', ⟨l1, h.2.1, l3.below h.2.2 (fun k _ hk => ?_) h.2.2.size⟩, fun k hk hn => wset_step hn hk l2, l3⟩
  rcases hk with e | ⟨a, ha, e⟩
  · have := h.2.1; omega
  · have := (own_ge h.1.2.1 a ha).1; omega
theorem WrK.step {w0 w w' : World} {P c L : Nat} {A : Option Addr} {s s' : WS} {x : Int} {e : Ending} {T : TypeId} {cs : List Value} (h : WrK w0 w P A c s L T cs) (hl : LyPost w w0.heap.size P A x s' e w') : e = .returned (.int .i64 x) ∧ ∃ A' c', WrK w0 w' P A' c' s' L T cs := by
  obtain ⟨he, A', c', h1, h2, h3⟩ := h.1.step hl
  exact ⟨he, A', c', h1, h3.bk h.2.1 h.2.2, h2 L h.2.1.lt h.2.2⟩
end Go.Proofs.Ytpfamjgdfcnieaa
