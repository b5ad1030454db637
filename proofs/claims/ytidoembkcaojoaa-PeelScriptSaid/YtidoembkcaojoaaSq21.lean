/- Chapter 21: both decoders get a packet. -/
import Derived.Test.YtidoembkcaojoaaSp21
import Derived.Test.YtidoembkcaojoaaLk
namespace Go.Proofs.Ytidoembkcaojoaa
open Go.RowKit
set_option linter.unusedVariables false
theorem own_short {w : World} {base m k c : Nat} {A : Option Addr} {e : TypeId} {xs : List Value} (h : w.ownsRow base e 1 (.slice A (m + k) c) (m + k) xs) (hk : 0 < k) : w.ownsRow base e 1 (.slice A m c) m (xs.take m) := by
  obtain ⟨g, cur, hA, hb, _, hbk, hnc, hcm, hcl, ht⟩ := own_formN h (by omega)
  subst hA
  refine own_mkN hbk hb (by omega) hcm hcl ?_
  rw [← ht, List.take_take, Nat.mul_one, Nat.mul_one]
  congr 1
  omega
/-- Both decoders; blocks Hd are neither's. -/
def Sq (w0 w : World) (Dx : Nat) (dx : DS) (Dr : Nat) (dr : DS) (Hd : Nat → Prop) : Prop :=
  Below w0.heap.size w0 w ∧ (∀ b, Hd b → b < w.heap.size) ∧ ∃ bx br FX m FR, Dw w bx Dx dx FX ∧ Rc w br Dr m dr FR ∧ (∀ b, FX b ∨ FR b → w0.heap.size ≤ b ∧ b < w.heap.size ∧ ¬ Hd b) ∧ ∀ b, FX b → ¬ FR b
section
variable {w0 w1 w : World} {Dx Dr : Nat} {dx dr d : DS} {Hd Hd' : Nat → Prop}
theorem Sq.sp (h : Sq w0 w Dx d Dr d Hd) : Sp w0 w Dx Dr d := by
  obtain ⟨h1, h2, bx, br, FX, m, FR, h3, h4, h5, h6⟩ := h
  exact ⟨h1, bx, br, FX, m, FR, h3, h4, fun b e => ⟨(h5 b e).1, (h5 b e).2.1⟩, h6⟩
theorem Sp.sq (h : Sp w0 w1 Dx Dr d) (hb : Below w1.heap.size w1 w) : Sq w0 w Dx d Dr d fun b => w1.heap.size ≤ b ∧ b < w.heap.size := by
  obtain ⟨h1, bx, br, FX, m, FR, h2, h3, h4, h5⟩ := h
  have hz := hb.size
  exact ⟨below_base h1 hb h1.size, fun b e => e.2, bx, br, FX, m, FR, h2.below hb, h3.below hb, fun b e => by have := h4 b e; exact ⟨this.1, by omega, fun e => by omega⟩, h5⟩
theorem Sq.below (h : Sq w0 w1 Dx dx Dr dr Hd) (hb : Below w1.heap.size w1 w) : Sq w0 w Dx dx Dr dr Hd := by
  obtain ⟨h1, h2, bx, br, FX, m, FR, h3, h4, h5, h6⟩ := h
  have hz := hb.size
  exact ⟨below_base h1 hb h1.size, fun b e => by have := h2 b e; omega, bx, br, FX, m, FR, h3.below hb, h4.below hb, fun b e => by have := h5 b e; exact ⟨this.1, by omega, this.2.2⟩, h6⟩
/-- Held blocks change. -/
theorem Sq.turn (h : Sq w0 w1 Dx dx Dr dr Hd) {S : Nat → Prop} (hc : Chg S w1 w) (hS : ∀ b, b < w1.heap.size → S b → Hd b ∧ w0.heap.size ≤ b) : Sq w0 w Dx dx Dr dr Hd := by
  obtain ⟨h1, h2, bx, br, FX, m, FR, h3, h4, h5, h6⟩ := h
  have hz := hc.size
  have hn : ∀ b, FX b ∨ FR b → ¬ S b := fun b e s => by have := h5 b e; exact this.2.2 (hS b this.2.1 s).1
  exact ⟨hc.below h1 (fun b hb e => (hS b hb e).2) h1.size, fun b e => by have := h2 b e; omega, bx, br, FX, m, FR, h3.other hc fun b e => hn b (.inl e), h4.other hc fun b e => hn b (.inr e), fun b e => by have := h5 b e; exact ⟨this.1, by omega, this.2.2⟩, h6⟩
theorem sq_add (h : Sq w0 w1 Dx dx Dr dr Hd) (hb : Below w1.heap.size w1 w) {A B : Option Addr} {n nb cA cB : Nat} {set : List Int} {pay : List UInt8} {id : Int} (hN : dx.sets.length < 1000) (hr : Rd w A n (nums set)) (hn : n ≤ 1000000) (hp : Rd w B nb (bys pay)) (hnb : nb ≤ 140737488351232) (hw : (Lit.int .i64 id).wf = true)
    (hA : 0 < n → ∀ a, A = some a → a.block < w0.heap.size ∨ w1.heap.size ≤ a.block ∨ Hd a.block) (hB : 0 < nb → ∀ a, B = some a → a.block < w0.heap.size ∨ w1.heap.size ≤ a.block ∨ Hd a.block) :
    Calls Try.prog 14 #[.pointer (some ⟨Dx, 0, none⟩), .int .i64 id, .slice A n cA, .slice B nb cB] w fun e w' => ∃ v, e = .returned (.tuple #[v, .int .i64 (dx.add id set pay).2.1]) ∧ Sq w0 w' Dx (dx.add id set pay).2.2 Dr dr (fun b => Hd b ∨ v.ownBlock = some b) ∧ w'.ownsRow w.heap.size 3 1 v (dx.add id set pay).1.length (nums (dx.add id set pay).1) ∧ (∀ b, (b < w0.heap.size ∨ w1.heap.size ≤ b ∨ Hd b) → b < w.heap.size → w'.heap[b]? = w.heap[b]?) ∧ w.heap.size ≤ w'.heap.size := by
  obtain ⟨h1, h2, bx, br, FX, m, FR, h3, h4, h5, h6⟩ := h
  have hap : ∀ b, (b < w0.heap.size ∨ w1.heap.size ≤ b ∨ Hd b) → ¬ FX b := fun b hb e => by
    have := h5 b (.inl e)
    rcases hb with e2 | e2 | e2
    · omega
    · omega
    · exact this.2.2 e2
  refine (add_dw (h3.below hb) hN hr hn hp hnb hw (fun h0 a ha => hap _ (hA h0 a ha)) (fun h0 a ha => hap _ (hB h0 a ha))).mono ?_
  rintro e w' ⟨v, FB, rfl, p1, p2, p3, p4⟩
  have hz := p3.size
  have hzb := hb.size
  have hb1 := below_base h1 hb h1.size
  have hz0 := hb1.size
  refine ⟨v, rfl, ⟨p3.below hb1 (fun b hb e => (h5 b (.inl e)).1) hb1.size, fun b e => ?_, bx, br, _, m, FR, p1.tight, (h4.below hb).other p3 (fun b hb hx => h6 b hx hb), fun b e => ?_, fun b e hy => ?_⟩, p4.1, fun b hb hl => p3.2 b hl (hap b hb), hz⟩
  · rcases e with e | e
    · have := h2 b e; omega
    · obtain ⟨⟨cs, hk⟩, _⟩ := own_ty p4.1 e
      exact hk.lt
  · rcases e with e | e
    · rcases p2 b e.1 with g | g
      · have g5 := h5 b (.inl g)
        refine ⟨g5.1, e.2, fun hh => hh.elim g5.2.2 fun g2 => p4.2 b g2 e.1⟩
      · refine ⟨by omega, e.2, fun hh => hh.elim (fun g2 => by have := h2 b g2; omega) fun g2 => p4.2 b g2 e.1⟩
    · have g5 := h5 b (.inr e)
      refine ⟨g5.1, by omega, fun hh => hh.elim g5.2.2 fun g2 => ?_⟩
      have := (own_ty p4.1 g2).2
      omega
  · rcases p2 b e.1 with g | g
    · exact h6 b g hy
    · have := h5 b (.inr hy); omega
theorem sq_radd (h : Sq w0 w Dx dx Dr dr Hd) {A B : Option Addr} {n nb cA cB : Nat} {set : List Int} {pay : List UInt8} {id : Int} (hN : dr.sets.length < 1000) (hd : dr.ok) (hr : Rd w A n (nums set)) (hn : n ≤ 1000000) (hp : Rd w B nb (bys pay)) (hnb : nb ≤ 1000000) :
    Calls Try.prog 29 #[.pointer (some ⟨Dr, 0, none⟩), .int .i64 id, .slice A n cA, .slice B nb cB] w fun e w' => ∃ v, e = .returned (.tuple #[v, .int .i64 (dr.add id set pay).2.1]) ∧ Sq w0 w' Dx dx Dr (dr.add id set pay).2.2 (fun b => Hd b ∨ v.ownBlock = some b) ∧ w'.ownsRow w.heap.size 3 1 v (dr.add id set pay).1.length (nums (dr.add id set pay).1) ∧ (∀ b, (b < w0.heap.size ∨ Hd b) → b < w.heap.size → w'.heap[b]? = w.heap[b]?) ∧ w.heap.size ≤ w'.heap.size := by
  obtain ⟨h1, h2, bx, br, FX, m, FR, h3, h4, h5, h6⟩ := h
  have hap : ∀ b, (b < w0.heap.size ∨ Hd b) → ¬ FR b := fun b hb e => by
    have := h5 b (.inr e)
    rcases hb with e2 | e2
    · omega
    · exact this.2.2 e2
  refine (radd_any h4 hd hN hr hn hp hnb).mono ?_
  rintro e w' ⟨v, m', F', rfl, p1, p2, p3, p4, p5⟩
  have hz := p3.size
  have hz0 := h1.size
  refine ⟨v, rfl, ⟨p3.below h1 (fun b hb e => (h5 b (.inr e)).1) h1.size, fun b e => ?_, bx, br, FX, m', F', h3.other p3 (fun b hx hb => h6 b hx hb), p1, fun b e => ?_, fun b hx hy => ?_⟩, p4, fun b hb hl => p3.2 b hl (hap b hb), hz⟩
  · rcases e with e | e
    · have := h2 b e; omega
    · obtain ⟨⟨cs, hk⟩, _⟩ := own_ty p4 e
      exact hk.lt
  · rcases e with e | e
    · have g5 := h5 b (.inl e)
      refine ⟨g5.1, by omega, fun hh => hh.elim g5.2.2 fun g2 => ?_⟩
      have := (own_ty p4 g2).2
      omega
    · have hb' := p1.fb b e
      rcases p2 b e with g | g
      · have g5 := h5 b (.inr g)
        refine ⟨g5.1, hb'.2, fun hh => hh.elim g5.2.2 fun g2 => p5 b g2 e⟩
      · refine ⟨by omega, hb'.2, fun hh => hh.elim (fun g2 => by have := h2 b g2; omega) fun g2 => p5 b g2 e⟩
  · rcases p2 b hy with g | g
    · exact h6 b hx g
    · have := h5 b (.inl hx); omega
end
section
variable {w : World}
theorem overOwn {base n c : Nat} {B : Option Addr} {l : List Int} (ho : w.ownsRow base 3 1 (.slice B n c) n (nums l)) (hn : n ≤ 1000000) :
    Calls Try.prog 32 #[.slice B n c] w fun e w' => e = .returned (.tuple #[]) ∧ Chg (fun k => (Value.slice B n c).ownBlock = some k) w w' := by
  have hl : l.length = n := by have := ho.1; simpa [nums_length] using this
  rcases ho.2 with ⟨hv, h0⟩ | ⟨g, cap, cur, hv, hb, hh, hnc, hcm, hcs, ht⟩
  · injection hv with e1 e2 e3
    subst e1; subst e2; subst e3
    go_enter Try.func32, Try.ntmps32
    go_wp2
    go_loopw [2] (fun i wi => i = .int .i64 0 ∧ wi = w) (fun i wi => 0)
    case atStart => exact ⟨rfl, rfl⟩
    case round =>
      obtain ⟨rfl, rfl⟩ := hrel
      go_wp2
      go_end0
      exact ⟨rfl, Chg.refl _ _⟩
  · injection hv with e1 e2 e3
    subst e1; subst e3
    have hcur : cur.toList = nums l ++ cur.toList.drop n := by
      have : cur.toList.take n = nums l := by simpa using ht
      rw [← this, List.take_append_drop]
    refine (overInts_any (g := g) (l := l) (tl := cur.toList.drop n) (fun _ => rfl) (by rw [← hcur]; exact hh) hl hn).mono ?_
    rintro e w' ⟨rfl, hc⟩
    exact ⟨rfl, hc.mono fun k _ e => by have e' : k = g := e; rw [e']; rfl⟩
end
end Go.Proofs.Ytidoembkcaojoaa
