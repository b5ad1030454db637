/- Chapter 11: Get's memory; its take. -/
import Derived.Test.YtpfamjgdfcnieaaRq11
import Derived.Test.YtpfamjgdfcnieaaRe10
namespace Go.Proofs.Ytpfamjgdfcnieaa
open Go.RowKit
set_option linter.unusedVariables false
/-- Get's memory: a reader, where it is told, the packet, its form. -/
def GP (wa wr : World) (P : Nat) (B : Option Addr) (d : Nat) (s : RS) (V K F : Nat) (cs fm : List Value) : Prop :=
  Ro wr P B d s ∧ Bk wr V 60 [.pointer (some ⟨P, 0, none⟩)] ∧ Bk wr K 24 cs ∧ Bk wr F 48 fm ∧ (wa.heap.size ≤ P ∧ wa.heap.size ≤ K) ∧ (V ≠ P ∧ K ≠ P ∧ F ≠ P ∧ V ≠ K ∧ F ≠ K) ∧ (∀ a, B = some a → a.block ≠ K) ∧ Below wa.heap.size wa wr
section
variable {wa w w' : World} {P d V K F : Nat} {B : Option Addr} {s : RS} {cs fm : List Value}
theorem GP.below (h : GP wa w P B d s V K F cs fm) (hb : Below w.heap.size w w') : GP wa w' P B d s V K F cs fm := by
  obtain ⟨h1, h2, h3, h4, h5, h6, h7, h8⟩ := h
  exact ⟨h1.below hb, h2.belowS hb, h3.belowS hb, h4.belowS hb, h5, h6, h7, below_base h8 hb h8.size⟩
theorem GP.chg {s' : RS} (h : GP wa w P B d s V K F cs fm) (hr : Ro w' P B d s') (hc : Chg (fun k => k = P) w w') : GP wa w' P B d s' V K F cs fm := by
  obtain ⟨h1, h2, h3, h4, h5, h6, h7, h8⟩ := h
  exact ⟨hr, hc.bk h2 h6.1, hc.bk h3 h6.2.1, hc.bk h4 h6.2.2.1, h5, h6, h7, hc.below h8 (fun k _ e => by subst e; exact h5.1) h8.size⟩
theorem GP.get {r : Int × RS} {e : Ending} (h : GP wa w P B d s V K F cs fm) (hg : GtPost w P B d r e w') : e = .returned (.int .i64 r.1) ∧ GP wa w' P B d r.2 V K F cs fm := ⟨hg.1, h.chg hg.2.1 hg.2.2⟩
theorem GP.set (h : GP wa w P B d s V K F cs fm) (i : Nat) (u : Value) : GP wa (w.setCell ⟨K, i, none⟩ u) P B d s V K F (cs.set i u) fm := by
  obtain ⟨h1, h2, h3, h4, h5, h6, h7, h8⟩ := h
  have hc : Chg (fun k => k = K) w (w.setCell ⟨K, i, none⟩ u) := (Chg.refl (fun k => k = K) w).set_ (show K = K from rfl) _ _
  exact ⟨h1.chg hc (fun e => h6.2.1 e.symm) h7, hc.bk h2 h6.2.2.2.1, h3.set_ i u, hc.bk h4 h6.2.2.2.2, h5, h6, h7, hc.below h8 (fun k _ e => by subst e; exact h5.2) h8.size⟩
end
/-- Get's take -/
theorem take_any {wa w : World} {P d V K F : Nat} {B : Option Addr} {s : RS} {cs fm : List Value} (h : GP wa w P B d s V K F cs fm) (b : Bool) (n : Int) (i : Nat) (hi : cs[i]? = some (.int .i64 0)) :
    Calls Try.prog 43 #[.bool b, .int .i64 n, .pointer (some ⟨K, i, none⟩), .pointer (some ⟨V, 0, none⟩)] w fun e w' => (∃ v, e = .returned v) ∧ GP wa w' P B d (tkS b n s).2 V K F (cs.set i (.int .i64 (tkS b n s).1)) fm := by
  have H := Lib.hid h
  have c0 := h.2.1.cell 0
  clear h
  cases b with
  | false =>
    have hs : cs.set i (.int .i64 0) = cs := by
      obtain ⟨hlt, he⟩ := List.getElem?_eq_some_iff.1 hi
      rw [← he]; exact List.set_getElem_self hlt
    have HS := Lib.hid hs
    clear hs
    go_enter Try.func43, Try.ntmps43
    go_wp2
    go_end0
    refine ⟨⟨_, rfl⟩, ?_⟩
    show GP wa w P B d s V K F (cs.set i (.int .i64 0)) fm
    rw [HS.out]
    exact H.out
  | true =>
    go_enter Try.func43, Try.ntmps43
    go_wp2_with fail
    refine (getR_any H.out.1 n).mono ?_
    intro e w1 hg
    obtain ⟨rfl, h1⟩ := H.out.get hg
    have k0 := h1.2.2.1.cell i
    rw [hi] at k0
    have f0 := h1.2.2.1.frozen i
    have H1 := Lib.hid h1
    clear hg h1
    go_wp2
    go_end0
    exact ⟨⟨_, rfl⟩, H1.out.set i _⟩
/-- .. and its bytes. -/
def GF (wa wx : World) (P : Nat) (B : Option Addr) (d : Nat) (s : RS) (V K F : Nat) (v0 v1 v2 v3 v4 : Int) (fm : List Value) (dat : List UInt8) : Prop :=
  ∃ A n c g, GP wa wx P B d s V K F [.int .i64 v0, .int .i64 v1, .int .i64 v2, .int .i64 v3, .int .i64 v4, .slice A n c] fm ∧ n ≤ c ∧ dat.length = n ∧ Mut wx A n g 0 (bys dat) ∧ wa.heap.size ≤ g ∧ g ≠ K ∧ g ≠ P
theorem gf_of {wa w : World} {P d V K F base c : Nat} {B A : Option Addr} {s : RS} {v0 v1 v2 v3 v4 : Int} {u : Value} {fm : List Value} {dat : List UInt8} (h : GP wa w P B d s V K F [.int .i64 v0, .int .i64 v1, .int .i64 v2, .int .i64 v3, .int .i64 v4, u] fm)
    (ho : w.ownsRow base 5 1 (.slice A dat.length c) dat.length (bys dat)) (hc : dat.length ≤ c) (hK : K < base) (hP : P < base) (hz : wa.heap.size ≤ base) :
    GF wa (w.setCell ⟨K, 5, none⟩ (.slice A dat.length c)) P B d s V K F v0 v1 v2 v3 v4 fm dat := by
  obtain ⟨g, hm, hg, _⟩ := Mut.of_own ho
  have hc2 : Chg (fun k => k = K) w (w.setCell ⟨K, 5, none⟩ (.slice A dat.length c)) := (Chg.refl (fun k => k = K) w).set_ (show K = K from rfl) _ _
  exact ⟨A, dat.length, c, g, h.set 5 _, hc, rfl, hm.keep fun t cs hb => hc2.bk hb (by omega), by omega, by omega, by omega⟩
theorem take_len_le (s : RS) (n : Int) (may : Bool) : ((s.take n may).1.length : Int) ≤ max n 0 := by
  rcases s.take_len n may with h | ⟨_, h0, h1, _⟩
  · rw [h]; simp; omega
  · rw [h1]; omega
theorem get_i64 (s : RS) {wide : Int} (hw : wide ≤ 8) : I64 (s.get wide).1 := by
  have hl := take_len_le s wide (wid wide)
  have hb := be_lt _ (s.take wide (wid wide)).1 rfl
  unfold RS.get I64
  split
  · exact (show (-9223372036854775808 : Int) ≤ 0 ∧ (0 : Int) ≤ 9223372036854775807 from ⟨by decide, by decide⟩)
  · simp only; omega
theorem tkS_i64 (b : Bool) (s : RS) {wide : Int} (hw : wide ≤ 8) : I64 (tkS b wide s).1 := by
  unfold tkS; split
  · exact get_i64 s hw
  · exact (show (-9223372036854775808 : Int) ≤ 0 ∧ (0 : Int) ≤ 9223372036854775807 from ⟨by decide, by decide⟩)
theorem gPk_i64 (l : List UInt8) : I64 (gKd l) ∧ I64 (gSes l) ∧ I64 (gT3 l).1 ∧ I64 (gT4 l).1 ∧ I64 (gT5 l).1 :=
  ⟨get_i64 _ (by decide), get_i64 _ (by decide), tkS_i64 _ _ (by decide), tkS_i64 _ _ (by decide), tkS_i64 _ _ (by decide)⟩
theorem RS.get_l (s : RS) (n : Int) : (s.get n).2.l = s.l := by
  unfold RS.get; split
  · exact RS.take_l _ _ _
  · exact RS.take_l _ _ _
theorem tkS_l (b : Bool) (n : Int) (s : RS) : (tkS b n s).2.l = s.l := by
  unfold tkS; split
  · exact RS.get_l _ _
  · rfl
theorem gT6_len (l : List UInt8) : (gT6 l).1.length ≤ l.length := by
  have e5 : (gT5 l).2.l = l := by unfold gT5 gT4 gT3; rw [tkS_l, tkS_l, tkS_l]; unfold gS2 gS1; rw [RS.get_l, RS.get_l]
  unfold gT6
  split
  · have h1 := take_len_le (gT5 l).2 (gT5 l).2.rest true
    have h2 : (gT5 l).2.rest ≤ (l.length : Int) := by unfold RS.rest; rw [e5]; split <;> omega
    omega
  · exact Nat.zero_le _
end Go.Proofs.Ytpfamjgdfcnieaa
