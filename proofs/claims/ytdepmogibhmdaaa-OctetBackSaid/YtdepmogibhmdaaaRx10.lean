/- Two readers, octet's and the document's, side by side. -/
import Derived.Test.YtdepmogibhmdaaaLo10
namespace Go.Proofs.Ytdepmogibhmdaaa
open Go.RowKit
set_option linter.unusedVariables false
/-- The block of a slice. -/
def Aset (A : Option Addr) (k : Nat) : Prop := ∃ a, A = some a ∧ a.block = k
theorem over_own {w1 w : World} {base : Nat} {A : Option Addr} {n c : Nat} {l : List UInt8} (h : w1.ownsRow base 5 1 (.slice A n c) n (bys l)) (hb : Below w1.heap.size w1 w) (hbase : base ≤ w.heap.size) (hn : n ≤ 140737488351232) :
    Calls Try.prog 16 #[.slice A n c] w fun e w' => e = .returned (.tuple #[]) ∧ Chg (Aset A) w w' := by
  obtain ⟨g, hm, hg, hc⟩ := Mut.of_own_below h hb hbase
  refine (over_any hm hn).mono fun e w' ⟨he, hu⟩ => ⟨he, ⟨⟨hu.1.os, hu.1.tape, hu.1.output, hu.1.size, fun k hk => absurd hk (Nat.not_lt_zero _)⟩, fun k hk hS => hu.1.block k hk fun e => ?_⟩⟩
  injection e with e
  subst e
  rcases hc with ⟨h0, _⟩ | ⟨_, h1⟩
  · obtain ⟨hA, _⟩ := hm.2 h0
    exact hS ⟨_, hA, rfl⟩
  · omega
structure RX (w0 w : World) (Q : Nat) (B : Option Addr) (d : Nat) (r : RS) (F : Nat) (C : Option Addr) (m : Nat) (f : RS) : Prop where
  o : Ro w Q B d r
  f : Rf w F C m f
  q0 : w0.heap.size ≤ Q
  f0 : w0.heap.size ≤ F
  qf : Q ≠ F
  bf : ∀ b, B = some b → b.block ≠ F ∧ b.block < w.heap.size
  cq : ∀ b, C = some b → b.block ≠ Q ∧ b.block < w.heap.size
  b : Below w0.heap.size w0 w
section
variable {w0 w w' : World} {Q F d m : Nat} {B C : Option Addr} {r r1 f f1 : RS}
theorem RX.below (h : RX w0 w Q B d r F C m f) (hb : Below w.heap.size w w') : RX w0 w' Q B d r F C m f :=
  ⟨h.o.below hb, h.f.below hb, h.q0, h.f0, h.qf, fun b e => ⟨(h.bf b e).1, Nat.lt_of_lt_of_le (h.bf b e).2 hb.size⟩, fun b e => ⟨(h.cq b e).1, Nat.lt_of_lt_of_le (h.cq b e).2 hb.size⟩, below_base h.b hb h.b.size⟩
theorem RX.left (h : RX w0 w Q B d r F C m f) (h1 : Ro w' Q B d r1) (hc : Chg (fun k => k = Q) w w') : RX w0 w' Q B d r1 F C m f :=
  ⟨h1, h.f.chg hc (fun e => h.qf e.symm) (fun b hb e => (h.cq b hb).1 e), h.q0, h.f0, h.qf, fun b e => ⟨(h.bf b e).1, Nat.lt_of_lt_of_le (h.bf b e).2 hc.size⟩, fun b e => ⟨(h.cq b e).1, Nat.lt_of_lt_of_le (h.cq b e).2 hc.size⟩,
    hc.below h.b (fun k _ e => by have := h.q0; omega) h.b.size⟩
theorem RX.right (h : RX w0 w Q B d r F C m f) (h1 : Rf w' F C m f1) (hc : Chg (fun k => k = F) w w') : RX w0 w' Q B d r F C m f1 :=
  ⟨h.o.chg hc h.qf (fun b hb e => (h.bf b hb).1 e), h1, h.q0, h.f0, h.qf, fun b e => ⟨(h.bf b e).1, Nat.lt_of_lt_of_le (h.bf b e).2 hc.size⟩, fun b e => ⟨(h.cq b e).1, Nat.lt_of_lt_of_le (h.cq b e).2 hc.size⟩,
    hc.below h.b (fun k _ e => by have := h.f0; omega) h.b.size⟩
theorem RX.other (h : RX w0 w Q B d r F C m f) {S : Nat → Prop} (hc : Chg S w w') (h1 : ¬ S Q) (h2 : ¬ S F) (h3 : ∀ b, B = some b → ¬ S b.block) (h4 : ∀ b, C = some b → ¬ S b.block) (h5 : ∀ k, k < w.heap.size → S k → w0.heap.size ≤ k) : RX w0 w' Q B d r F C m f :=
  ⟨h.o.chg hc h1 h3, h.f.chg hc h2 h4, h.q0, h.f0, h.qf, fun b e => ⟨(h.bf b e).1, Nat.lt_of_lt_of_le (h.bf b e).2 hc.size⟩, fun b e => ⟨(h.cq b e).1, Nat.lt_of_lt_of_le (h.cq b e).2 hc.size⟩, hc.below h.b h5 h.b.size⟩
theorem RX.rawO (h : RX w0 w Q B d r F C m f) (n : Int) :
    Calls Try.prog 21 #[.pointer (some ⟨Q, 0, none⟩), .int .i64 n] w fun e w' => (∃ A k, e = .returned (.slice A (r.take n true).1.length k) ∧ w'.ownsRow w.heap.size 5 1 (.slice A (r.take n true).1.length k) (r.take n true).1.length (bys (r.take n true).1)) ∧ RX w0 w' Q B d (r.take n true).2 F C m f ∧ Chg (fun k => k = Q) w w' := by
  refine (rawR_any h.o n).mono fun e w' ⟨v, h0, h1, h2, h3⟩ => ?_
  obtain ⟨A, k, rfl, _⟩ := own_form h1
  exact ⟨⟨A, k, h0, h1⟩, h.left h2 h3, h3⟩
theorem RX.rawF (h : RX w0 w Q B d r F C m f) (n : Int) :
    Calls Try.prog 22 #[.pointer (some ⟨F, 0, none⟩), .int .i64 n] w fun e w' => (∃ A k, e = .returned (.slice A (f.take n true).1.length k) ∧ w'.ownsRow w.heap.size 5 1 (.slice A (f.take n true).1.length k) (f.take n true).1.length (bys (f.take n true).1)) ∧ RX w0 w' Q B d r F C m (f.take n true).2 ∧ Chg (fun k => k = F) w w' := by
  refine (rawF_any h.f n).mono fun e w' ⟨v, h0, h1, h2, h3⟩ => ?_
  obtain ⟨A, k, rfl, _⟩ := own_form h1
  exact ⟨⟨A, k, h0, h1⟩, h.right h2 h3, h3⟩
theorem RX.getO (h : RX w0 w Q B d r F C m f) (n : Int) :
    Calls Try.prog 23 #[.pointer (some ⟨Q, 0, none⟩), .int .i64 n] w fun e w' => e = .returned (.int .i64 (r.get n).1) ∧ RX w0 w' Q B d (r.get n).2 F C m f :=
  (getR_any h.o n).mono fun e w' ⟨h1, h2, h3⟩ => ⟨h1, h.left h2 h3⟩
theorem RX.getF (h : RX w0 w Q B d r F C m f) (n : Int) :
    Calls Try.prog 24 #[.pointer (some ⟨F, 0, none⟩), .int .i64 n] w fun e w' => e = .returned (.int .i64 (f.get n).1) ∧ RX w0 w' Q B d r F C m (f.get n).2 :=
  (getF_any h.f n).mono fun e w' ⟨h1, h2, h3⟩ => ⟨h1, h.right h2 h3⟩
theorem RX.restO (h : RX w0 w Q B d r F C m f) :
    Calls Try.prog 25 #[.pointer (some ⟨Q, 0, none⟩)] w fun e w' => e = .returned (.int .i64 r.rest) ∧ RX w0 w' Q B d r F C m f :=
  (restR_any h.o).mono fun e w' ⟨h1, h2⟩ => ⟨h1, h.below h2⟩
theorem RX.restF (h : RX w0 w Q B d r F C m f) :
    Calls Try.prog 26 #[.pointer (some ⟨F, 0, none⟩)] w fun e w' => e = .returned (.int .i64 f.rest) ∧ RX w0 w' Q B d r F C m f :=
  (restF_any h.f).mono fun e w' ⟨h1, h2⟩ => ⟨h1, h.below h2⟩
theorem RX.endO (h : RX w0 w Q B d r F C m f) :
    Calls Try.prog 27 #[.pointer (some ⟨Q, 0, none⟩)] w fun e w' => e = .returned (.agg #[.int .i64 r.fin.1, .int .i64 r.fin.2]) ∧ RX w0 w' Q B d r F C m f :=
  (endR_any h.o).mono fun e w' ⟨h1, h2⟩ => ⟨h1, h.below h2⟩
theorem RX.endF (h : RX w0 w Q B d r F C m f) :
    Calls Try.prog 28 #[.pointer (some ⟨F, 0, none⟩)] w fun e w' => e = .returned (.agg #[.int .i64 f.fin.1, .int .i64 f.fin.2]) ∧ RX w0 w' Q B d r F C m f :=
  (endF_any h.f).mono fun e w' ⟨h1, h2⟩ => ⟨h1, h.below h2⟩
end
end Go.Proofs.Ytdepmogibhmdaaa
