/- TopLeft: ripple.shares: what it hands back (printed by gen_Sr27.py). TopLeft: ripple.shares. -/
import Derived.Test.YtlhipaffhehcnaaGreatT29
namespace Go.Proofs.YtlhipaffhehcnaaGreat
open Go.RowKit Go.Shelf
set_option linter.unusedVariables false
def shareO (p s : Q) (many so : Nat) : Option Q := (powO p so).bind fun x => (powO s (many - so)).bind fun y => mulO [qlow ((choose many so : Nat) : Int) 1, x, y]
/-- What shares' closure knows. -/
structure ShS (W : World) (b1 b3 b5 b6 : Nat) (r1 r3 : R3) (a b : Rw) (p s : Q) : Prop where
  k1 : Bk W b1 40 r1.cells
  q1 : QV W r1.v p
  k3 : Bk W b3 40 r3.cells
  q3 : QV W r3.v s
  k6 : Bk W b6 175 [.func (.func 119) #[] #[.pointer (some ⟨b5, 0, none⟩)]]
  ps : PwS W b5 0 a b
  pa : Pow p a.l
  pb : Pow s b.l
  ne : a.g ≠ b1 ∧ a.g ≠ b3 ∧ b.g ≠ b1 ∧ b.g ≠ b3
  sz : a.n ≤ 2000 ∧ b.n ≤ 2000
def foot (b1 b3 b5 b6 : Nat) (a b : Rw) (k : Nat) : Prop := own b5 a b k ∨ k = b1 ∨ k = b3 ∨ k = b6
section
variable {W W' : World} {b1 b3 b5 b6 : Nat} {r1 r3 : R3} {a b : Rw} {p s : Q}
theorem ShS.below (h : ShS W b1 b3 b5 b6 r1 r3 a b p s) (hb : Below W.heap.size W W') : ShS W' b1 b3 b5 b6 r1 r3 a b p s :=
  ⟨h.k1.belowS hb, h.q1.below hb, h.k3.belowS hb, h.q3.below hb, h.k6.belowS hb, h.ps.below hb, h.pa, h.pb, h.ne, h.sz⟩
theorem ShS.kq {B : Nat} {T : Nat → Prop} (h : ShS W b1 b3 b5 b6 r1 r3 a b p s) (hk : Kq B T W W') (hT : ∀ k, foot b1 b3 b5 b6 a b k → ¬ T k) : ShS W' b1 b3 b5 b6 r1 r3 a b p s :=
  ⟨hk.bk h.k1 (hT _ (.inr (.inl rfl))), hk.qv h.q1, hk.bk h.k3 (hT _ (.inr (.inr (.inl rfl)))), hk.qv h.q3, hk.bk h.k6 (hT _ (.inr (.inr (.inr rfl)))), h.ps.kq hk (fun k hk => hT k (.inl hk)), h.pa, h.pb, h.ne, h.sz⟩
theorem ShS.lt (h : ShS W b1 b3 b5 b6 r1 r3 a b p s) : ∀ k, foot b1 b3 b5 b6 a b k → k < W.heap.size := by
  rintro k ((e | e | e) | e | e | e) <;> subst e
  · exact h.ps.k.lt
  · exact h.ps.ra.lt
  · exact h.ps.rb.lt
  · exact h.k1.lt
  · exact h.k3.lt
  · exact h.k6.lt
theorem ShS.ne6 (h : ShS W b1 b3 b5 b6 r1 r3 a b p s) : ¬ own b5 a b b6 ∧ ¬ own b5 a b b1 ∧ ¬ own b5 a b b3 := by
  obtain ⟨_, h1⟩ := h.ps.ra.bk
  obtain ⟨_, h2⟩ := h.ps.rb.bk
  refine ⟨?_, ?_, ?_⟩
  · rintro (e | e | e)
    · exact (h.k6.ne_of_type h.ps.k (by decide)) e
    · exact (h.k6.ne_of_type h1 (by decide)) e
    · exact (h.k6.ne_of_type h2 (by decide)) e
  · rintro (e | e | e)
    · exact (h.k1.ne_of_type h.ps.k (by decide)) e
    · exact h.ne.1 e.symm
    · exact h.ne.2.2.1 e.symm
  · rintro (e | e | e)
    · exact (h.k3.ne_of_type h.ps.k (by decide)) e
    · exact h.ne.2.1 e.symm
    · exact h.ne.2.2.2 e.symm
/-- After a call of power. -/
theorem ShS.power0 {a' : Rw} (h : ShS W b1 b3 b5 b6 r1 r3 a b p s) (hs : PwS W' b5 0 a' b) (hp : Pow p a'.l) (hn : a'.g = a.g ∨ W.heap.size ≤ a'.g) (hsz : a'.n ≤ 2000) (hc : Chg (own b5 a b) W W') : ShS W' b1 b3 b5 b6 r1 r3 a' b p s := by
  have hk := Kq.of_chg 0 hc h.ps.num
  have h6 := h.ne6
  have hl1 := h.k1.lt
  have hl3 := h.k3.lt
  refine ⟨hk.bk h.k1 h6.2.1, hk.qv h.q1, hk.bk h.k3 h6.2.2, hk.qv h.q3, hk.bk h.k6 h6.1, hs, hp, h.pb, ?_, hsz, h.sz.2⟩
  have hne := h.ne
  rcases hn with e | e
  · rw [e]; exact hne
  · exact ⟨by omega, by omega, hne.2.2.1, hne.2.2.2⟩
theorem ShS.power1 {b' : Rw} (h : ShS W b1 b3 b5 b6 r1 r3 a b p s) (hs : PwS W' b5 1 b' a) (hp : Pow s b'.l) (hn : b'.g = b.g ∨ W.heap.size ≤ b'.g) (hsz : b'.n ≤ 2000) (hc : Chg (own b5 b a) W W') : ShS W' b1 b3 b5 b6 r1 r3 a b' p s := by
  have hc' : Chg (own b5 a b) W W' := hc.mono fun k _ e => by
    rcases e with e | e | e
    · exact .inl e
    · exact .inr (.inr e)
    · exact .inr (.inl e)
  have hk := Kq.of_chg 0 hc' h.ps.num
  have h6 := h.ne6
  have hl1 := h.k1.lt
  have hl3 := h.k3.lt
  refine ⟨hk.bk h.k1 h6.2.1, hk.qv h.q1, hk.bk h.k3 h6.2.2, hk.qv h.q3, hk.bk h.k6 h6.1, hs.swap', h.pa, hp, ?_, h.sz.1, hsz⟩
  have hne := h.ne
  rcases hn with e | e
  · rw [e]; exact hne
  · exact ⟨hne.1, hne.2.1, by omega, by omega⟩
end
theorem own_swap {b5 : Nat} {a b : Rw} {k : Nat} (h : own b5 b a k) : own b5 a b k := by
  rcases h with e | e | e
  · exact .inl e
  · exact .inr (.inr e)
  · exact .inr (.inl e)
/-- The closure, under way. -/
structure ShR (w W : World) (b1 b3 b5 b6 gc gr : Nat) (r1 r3 rc : R3) (a0 b0 a b : Rw) (p s cq : Q) : Prop where
  s : ShS W b1 b3 b5 b6 r1 r3 a b p s
  c : Bk W gc 40 rc.cells
  qc : QV W rc.v cq
  r : Bk W gr 40 R3.zero.cells
  chg : Chg (own b5 a0 b0) w W
  na : a.g = a0.g ∨ w.heap.size ≤ a.g
  nb : b.g = b0.g ∨ w.heap.size ≤ b.g
  ne : a.g ≠ gc ∧ a.g ≠ gr ∧ b.g ≠ gc ∧ b.g ≠ gr
  h : w.heap.size ≤ gc ∧ w.heap.size ≤ gr
section
variable {w W W' : World} {b1 b3 b5 b6 gc gr : Nat} {r1 r3 rc : R3} {a0 b0 a b : Rw} {p s cq : Q}
theorem ShR.below (h : ShR w W b1 b3 b5 b6 gc gr r1 r3 rc a0 b0 a b p s cq) (hb : Below W.heap.size W W') : ShR w W' b1 b3 b5 b6 gc gr r1 r3 rc a0 b0 a b p s cq :=
  ⟨h.s.below hb, h.c.belowS hb, h.qc.below hb, h.r.belowS hb, h.chg.trans (Chg.of_below (S := own b5 a0 b0) hb) (fun _ _ e => e), h.na, h.nb, h.ne, h.h⟩
theorem ShR.allocd (h : ShR w W b1 b3 b5 b6 gc gr r1 r3 rc a0 b0 a b p s cq) (o : Obj) : ShR w (W.alloc o) b1 b3 b5 b6 gc gr r1 r3 rc a0 b0 a b p s cq := h.below (bl_allocd (Below.refl _ _) o)
theorem ShR.drew (h : ShR w W b1 b3 b5 b6 gc gr r1 r3 rc a0 b0 a b p s cq) : ShR w W.drew b1 b3 b5 b6 gc gr r1 r3 rc a0 b0 a b p s cq := h.below (Below.refl _ _).drew
theorem ShR.neo (h : ShR w W b1 b3 b5 b6 gc gr r1 r3 rc a0 b0 a b p s cq) : ¬ own b5 a b gc ∧ ¬ own b5 a b gr := by
  refine ⟨?_, ?_⟩
  · rintro (e | e | e)
    · exact (h.c.ne_of_type h.s.ps.k (by decide)) e
    · exact h.ne.1 e.symm
    · exact h.ne.2.2.1 e.symm
  · rintro (e | e | e)
    · exact (h.r.ne_of_type h.s.ps.k (by decide)) e
    · exact h.ne.2.1 e.symm
    · exact h.ne.2.2.2 e.symm
theorem ShR.own0 (h : ShR w W b1 b3 b5 b6 gc gr r1 r3 rc a0 b0 a b p s cq) {k : Nat} (hk : k < w.heap.size) (e : own b5 a b k) : own b5 a0 b0 k := by
  rcases e with e | e | e
  · exact .inl e
  · rcases h.na with e2 | e2
    · exact .inr (.inl (by rw [e, e2]))
    · omega
  · rcases h.nb with e2 | e2
    · exact .inr (.inr (by rw [e, e2]))
    · omega
theorem ShR.power0 {a' : Rw} (h : ShR w W b1 b3 b5 b6 gc gr r1 r3 rc a0 b0 a b p s cq) (hs : PwS W' b5 0 a' b) (hp : Pow p a'.l) (hn : a'.g = a.g ∨ W.heap.size ≤ a'.g) (hsz : a'.n ≤ 2000) (hc : Chg (own b5 a b) W W') : ShR w W' b1 b3 b5 b6 gc gr r1 r3 rc a0 b0 a' b p s cq := by
  have hk := Kq.of_chg 0 hc h.s.ps.num
  have hno := h.neo
  have l1 := h.c.lt
  have l2 := h.r.lt
  have hsz2 := h.chg.size
  refine ⟨h.s.power0 hs hp hn hsz hc, hk.bk h.c hno.1, hk.qv h.qc, hk.bk h.r hno.2, h.chg.trans hc (fun k hk e => h.own0 hk e), ?_, h.nb, ?_, h.h⟩
  · rcases hn with e | e
    · rw [e]; exact h.na
    · right; omega
  · have hne := h.ne
    rcases hn with e | e
    · rw [e]; exact hne
    · exact ⟨by omega, by omega, hne.2.2.1, hne.2.2.2⟩
theorem ShR.power1 {b' : Rw} (h : ShR w W b1 b3 b5 b6 gc gr r1 r3 rc a0 b0 a b p s cq) (hs : PwS W' b5 1 b' a) (hp : Pow s b'.l) (hn : b'.g = b.g ∨ W.heap.size ≤ b'.g) (hsz : b'.n ≤ 2000) (hc : Chg (own b5 b a) W W') : ShR w W' b1 b3 b5 b6 gc gr r1 r3 rc a0 b0 a b' p s cq := by
  have hc' : Chg (own b5 a b) W W' := hc.mono fun k _ e => own_swap e
  have hk := Kq.of_chg 0 hc' h.s.ps.num
  have hno := h.neo
  have l1 := h.c.lt
  have l2 := h.r.lt
  have hsz2 := h.chg.size
  refine ⟨h.s.power1 hs hp hn hsz hc, hk.bk h.c hno.1, hk.qv h.qc, hk.bk h.r hno.2, h.chg.trans hc' (fun k hk e => h.own0 hk e), h.na, ?_, ?_, h.h⟩
  · rcases hn with e | e
    · rw [e]; exact h.nb
    · right; omega
  · have hne := h.ne
    rcases hn with e | e
    · rw [e]; exact hne
    · exact ⟨hne.1, hne.2.1, by omega, by omega⟩
/-- A box that the closure makes beside all that. -/
def ZB (w W : World) (z : Nat) (b1 b3 b5 b6 gc gr : Nat) (a b : Rw) : Prop := Bk W z 40 R3.zero.cells ∧ w.heap.size ≤ z ∧ ¬ foot b1 b3 b5 b6 a b z ∧ z ≠ gc ∧ z ≠ gr
theorem ZB.new {o : Obj} (h : ShR w W b1 b3 b5 b6 gc gr r1 r3 rc a0 b0 a b p s cq) (hb : Below (W.alloc (.cells #[.bool false, .slice none 0 0, .slice none 0 0] 40)).heap.size (W.alloc (.cells #[.bool false, .slice none 0 0, .slice none 0 0] 40)) W') : ZB w W' W.heap.size b1 b3 b5 b6 gc gr a b :=
  ⟨(Bk.newA W 40 #[.bool false, .slice none 0 0, .slice none 0 0]).belowS hb, h.chg.size, fun e => Nat.lt_irrefl _ (h.s.lt _ e), (Nat.ne_of_lt h.c.lt).symm, (Nat.ne_of_lt h.r.lt).symm⟩
theorem ZB.here (h : ShR w W b1 b3 b5 b6 gc gr r1 r3 rc a0 b0 a b p s cq) : ZB w (W.alloc (.cells #[.bool false, .slice none 0 0, .slice none 0 0] 40)) W.heap.size b1 b3 b5 b6 gc gr a b := ZB.new (o := .cells #[] 0) h (Below.refl _ _)
theorem ZB.below {z : Nat} (h : ZB w W z b1 b3 b5 b6 gc gr a b) (hb : Below W.heap.size W W') : ZB w W' z b1 b3 b5 b6 gc gr a b := ⟨h.1.belowS hb, h.2⟩
theorem ZB.allocd {z : Nat} (h : ZB w W z b1 b3 b5 b6 gc gr a b) (o : Obj) : ZB w (W.alloc o) z b1 b3 b5 b6 gc gr a b := h.below (bl_allocd (Below.refl _ _) o)
theorem ZB.power0 {z : Nat} {a' : Rw} (h : ZB w W z b1 b3 b5 b6 gc gr a b) (hn : a'.g = a.g ∨ W.heap.size ≤ a'.g) (hc : Chg (own b5 a b) W W') : ZB w W' z b1 b3 b5 b6 gc gr a' b := by
  have l1 := h.1.lt
  refine ⟨hc.bk h.1 (fun e => h.2.2.1 (.inl e)), h.2.1, ?_, h.2.2.2⟩
  rintro ((e | e | e) | e)
  · exact h.2.2.1 (.inl (.inl e))
  · rcases hn with e2 | e2
    · exact h.2.2.1 (.inl (.inr (.inl (e.trans e2))))
    · omega
  · exact h.2.2.1 (.inl (.inr (.inr e)))
  · exact h.2.2.1 (.inr e)
theorem ZB.power1 {z : Nat} {b' : Rw} (h : ZB w W z b1 b3 b5 b6 gc gr a b) (hn : b'.g = b.g ∨ W.heap.size ≤ b'.g) (hc : Chg (own b5 b a) W W') : ZB w W' z b1 b3 b5 b6 gc gr a b' := by
  have l1 := h.1.lt
  refine ⟨hc.bk h.1 (fun e => h.2.2.1 (.inl (own_swap e))), h.2.1, ?_, h.2.2.2⟩
  rintro ((e | e | e) | e)
  · exact h.2.2.1 (.inl (.inl e))
  · exact h.2.2.1 (.inl (.inr (.inl e)))
  · rcases hn with e2 | e2
    · exact h.2.2.1 (.inl (.inr (.inr (e.trans e2))))
    · omega
  · exact h.2.2.1 (.inr e)
/-- The box is filled. -/
theorem ShR.put {z : Nat} (h : ShR w W b1 b3 b5 b6 gc gr r1 r3 rc a0 b0 a b p s cq) (hz : ZB w W z b1 b3 b5 b6 gc gr a b) (r : R3) : ShR w (set3 W z r) b1 b3 b5 b6 gc gr r1 r3 rc a0 b0 a b p s cq := by
  have hk := kq_set3 (B := 0) (Below.refl _ _) hz.1 r
  exact ⟨h.s.kq hk (fun k hf e => hz.2.2.1 (by rw [← e]; exact hf)), hk.bk h.c hz.2.2.2.1.symm, hk.qv h.qc, hk.bk h.r hz.2.2.2.2.symm, h.chg.trans (chg_set3 W z r) (fun k hk e => by have := hz.2.1; omega), h.na, h.nb, h.ne, h.h⟩
/-- The cells that the last statement but one reads. -/
def shc (W : World) (b1 b3 b5 b6 gc : Nat) (r1 r3 rc : R3) : Prop := W.cell? ⟨gc, 0, none⟩ = some (.bool rc.s) ∧ W.cell? ⟨gc, 1, none⟩ = some (.slice rc.A rc.m rc.c) ∧ W.cell? ⟨gc, 2, none⟩ = some (.slice rc.B rc.n rc.d) ∧ W.cell? ⟨b6, 0, none⟩ = some (.func (.func 119) #[] #[.pointer (some ⟨b5, 0, none⟩)]) ∧ W.cell? ⟨b1, 0, none⟩ = some (.bool r1.s) ∧ W.cell? ⟨b1, 1, none⟩ = some (.slice r1.A r1.m r1.c) ∧ W.cell? ⟨b1, 2, none⟩ = some (.slice r1.B r1.n r1.d) ∧ W.cell? ⟨b3, 0, none⟩ = some (.bool r3.s) ∧ W.cell? ⟨b3, 1, none⟩ = some (.slice r3.A r3.m r3.c) ∧ W.cell? ⟨b3, 2, none⟩ = some (.slice r3.B r3.n r3.d)
theorem ShR.shc (h : ShR w W b1 b3 b5 b6 gc gr r1 r3 rc a0 b0 a b p s cq) : W.cell? ⟨gc, 0, none⟩ = some (.bool rc.s) ∧ W.cell? ⟨gc, 1, none⟩ = some (.slice rc.A rc.m rc.c) ∧ W.cell? ⟨gc, 2, none⟩ = some (.slice rc.B rc.n rc.d) ∧ W.cell? ⟨b6, 0, none⟩ = some (.func (.func 119) #[] #[.pointer (some ⟨b5, 0, none⟩)]) ∧ W.cell? ⟨b1, 0, none⟩ = some (.bool r1.s) ∧ W.cell? ⟨b1, 1, none⟩ = some (.slice r1.A r1.m r1.c) ∧ W.cell? ⟨b1, 2, none⟩ = some (.slice r1.B r1.n r1.d) ∧ W.cell? ⟨b3, 0, none⟩ = some (.bool r3.s) ∧ W.cell? ⟨b3, 1, none⟩ = some (.slice r3.A r3.m r3.c) ∧ W.cell? ⟨b3, 2, none⟩ = some (.slice r3.B r3.n r3.d) :=
  ⟨h.c.cell 0, h.c.cell 1, h.c.cell 2, h.s.k6.cell 0, h.s.k1.cell 0, h.s.k1.cell 1, h.s.k1.cell 2, h.s.k3.cell 0, h.s.k3.cell 1, h.s.k3.cell 2⟩
end
theorem QR.new3' {w : World} {r s u : R3} {a b c : Q} {G : Nat} (h1 : QV w r.v a) (h2 : QV w s.v b) (h3 : QV w u.v c) (hG : G = w.heap.size) : QR (w.alloc (.cells #[.bool r.s, .slice r.A r.m r.c, .slice r.B r.n r.d, .bool s.s, .slice s.A s.m s.c, .slice s.B s.n s.d, .bool u.s, .slice u.A u.m u.c, .slice u.B u.n u.d] 40)) (some ⟨G, 0, none⟩) 3 [a, b, c] := by
  subst hG
  exact QR.new3 h1 h2 h3
/-- What a call of the closure comes to. -/
def ShPost (w : World) (b1 b3 b5 b6 : Nat) (r1 r3 : R3) (a0 b0 : Rw) (p s q : Q) (N : Nat) (e : Ending) (w' : World) : Prop := ∃ u, e = .returned u ∧ QV w' u q ∧ ∃ a b, ShS w' b1 b3 b5 b6 r1 r3 a b p s ∧ (a.g = a0.g ∨ w.heap.size ≤ a.g) ∧ (b.g = b0.g ∨ w.heap.size ≤ b.g) ∧ Chg (own b5 a0 b0) w w'
theorem ShR.put_shc {w W : World} {b1 b3 b5 b6 gc gr z : Nat} {r1 r3 rc : R3} {a0 b0 a b : Rw} {p s cq : Q} (h : ShR w W b1 b3 b5 b6 gc gr r1 r3 rc a0 b0 a b p s cq) (hz : ZB w W z b1 b3 b5 b6 gc gr a b) (r : R3) : (((W.setCell ⟨z, 0, none⟩ (.bool r.s)).setCell ⟨z, 1, none⟩ (.slice r.A r.m r.c)).setCell ⟨z, 2, none⟩ (.slice r.B r.n r.d)).cell? ⟨gc, 0, none⟩ = some (.bool rc.s) ∧ (((W.setCell ⟨z, 0, none⟩ (.bool r.s)).setCell ⟨z, 1, none⟩ (.slice r.A r.m r.c)).setCell ⟨z, 2, none⟩ (.slice r.B r.n r.d)).cell? ⟨gc, 1, none⟩ = some (.slice rc.A rc.m rc.c) ∧ (((W.setCell ⟨z, 0, none⟩ (.bool r.s)).setCell ⟨z, 1, none⟩ (.slice r.A r.m r.c)).setCell ⟨z, 2, none⟩ (.slice r.B r.n r.d)).cell? ⟨gc, 2, none⟩ = some (.slice rc.B rc.n rc.d) ∧ (((W.setCell ⟨z, 0, none⟩ (.bool r.s)).setCell ⟨z, 1, none⟩ (.slice r.A r.m r.c)).setCell ⟨z, 2, none⟩ (.slice r.B r.n r.d)).cell? ⟨b6, 0, none⟩ = some (.func (.func 119) #[] #[.pointer (some ⟨b5, 0, none⟩)]) ∧ (((W.setCell ⟨z, 0, none⟩ (.bool r.s)).setCell ⟨z, 1, none⟩ (.slice r.A r.m r.c)).setCell ⟨z, 2, none⟩ (.slice r.B r.n r.d)).cell? ⟨b1, 0, none⟩ = some (.bool r1.s) ∧ (((W.setCell ⟨z, 0, none⟩ (.bool r.s)).setCell ⟨z, 1, none⟩ (.slice r.A r.m r.c)).setCell ⟨z, 2, none⟩ (.slice r.B r.n r.d)).cell? ⟨b1, 1, none⟩ = some (.slice r1.A r1.m r1.c) ∧ (((W.setCell ⟨z, 0, none⟩ (.bool r.s)).setCell ⟨z, 1, none⟩ (.slice r.A r.m r.c)).setCell ⟨z, 2, none⟩ (.slice r.B r.n r.d)).cell? ⟨b1, 2, none⟩ = some (.slice r1.B r1.n r1.d) ∧ (((W.setCell ⟨z, 0, none⟩ (.bool r.s)).setCell ⟨z, 1, none⟩ (.slice r.A r.m r.c)).setCell ⟨z, 2, none⟩ (.slice r.B r.n r.d)).cell? ⟨b3, 0, none⟩ = some (.bool r3.s) ∧ (((W.setCell ⟨z, 0, none⟩ (.bool r.s)).setCell ⟨z, 1, none⟩ (.slice r.A r.m r.c)).setCell ⟨z, 2, none⟩ (.slice r.B r.n r.d)).cell? ⟨b3, 1, none⟩ = some (.slice r3.A r3.m r3.c) ∧ (((W.setCell ⟨z, 0, none⟩ (.bool r.s)).setCell ⟨z, 1, none⟩ (.slice r.A r.m r.c)).setCell ⟨z, 2, none⟩ (.slice r.B r.n r.d)).cell? ⟨b3, 2, none⟩ = some (.slice r3.B r3.n r3.d) := (h.put hz r).shc
set_option maxRecDepth 100000 in
set_option maxHeartbeats 8000000 in
/-- The closure that shares hands back. -/
theorem share_any {w : World} {b1 b3 b5 b6 many so : Nat} {r1 r3 : R3} {a0 b0 : Rw} {p s q : Q} (h : ShS w b1 b3 b5 b6 r1 r3 a0 b0 p s) (hm : many ≤ 8) (hs : so ≤ many) (hq : shareO p s many so = some q) :
    Calls Tryz.prog 120 #[.int .i64 (many : Nat), .int .i64 (so : Nat), .pointer (some ⟨b6, 0, none⟩), .pointer (some ⟨b1, 0, none⟩), .pointer (some ⟨b3, 0, none⟩)] w (ShPost w b1 b3 b5 b6 r1 r3 a0 b0 p s q many) := by
  unfold shareO at hq
  obtain ⟨x, hx, hq2⟩ := Option.bind_eq_some_iff.1 hq
  obtain ⟨y, hy, hmul⟩ := Option.bind_eq_some_iff.1 hq2
  obtain ⟨hc1, hc2⟩ := choose_bd many hm so hs
  obtain ⟨d, hd⟩ : ∃ d, many - so = d := ⟨_, rfl⟩
  have hw1 : IntKind.i64.wrap ((many : Int) - (so : Int)) = (d : Int) := by rw [IntKind.wrap_i64]; omega
  have hwd : IntKind.i64.wrap (d : Int) = (d : Int) := by rw [IntKind.wrap_i64]; omega
  rw [hd] at hy
  have hd8 : d ≤ 8 := by omega
  clear hd
  have hmI : (many : Int) ≤ 8 := by omega
  have hsI : (so : Int) ≤ (many : Int) := by omega
  obtain ⟨gr, hgr⟩ : ∃ gr, w.heap.size = gr := ⟨_, rfl⟩
  have hb0 : Below w.heap.size w (w.alloc (.cells #[.bool false, .slice none 0 0, .slice none 0 0] 40)) := bl_allocd (Below.refl _ _) _
  have k0 : Bk (w.alloc (.cells #[.bool false, .slice none 0 0, .slice none 0 0] 40)) gr 40 R3.zero.cells := by rw [← hgr]; exact Bk.newA w 40 #[.bool false, .slice none 0 0, .slice none 0 0]
  have HP := Lib.hid (And.intro h (And.intro hm (And.intro hs (And.intro hx (And.intro hy (And.intro hmul (And.intro hc1 (And.intro hc2 hgr))))))))
  have H0 := Lib.hid (And.intro hb0 k0)
  clear h hm hs hq hx hq2 hy hmul hc1 hc2 hb0 k0
  go_enter Tryz.func120, Tryz.ntmps120
  go_wp2_with fail
  refine (choose_any HP.out.2.1 HP.out.2.2.1).mono ?_
  rintro e w1 ⟨v1, rfl, hv1, hb1⟩
  have H1 := Lib.hid (And.intro hv1 (And.intro (bl_next H0.out.1 hb1) (H0.out.2.belowS hb1)))
  obtain ⟨A1, m1, c1, rfl⟩ := hv1.form
  clear hv1 hb1
  go_wp2_with fail
  refine (sMake_any false H1.out.1).mono ?_
  rintro e w2 ⟨v2, rfl, hv2, hb2⟩
  obtain ⟨o, ho⟩ : ∃ o : Obj, o = .cells #[.int .u64 1] 102 := ⟨_, rfl⟩
  have hal : Below w2.heap.size w2 (w2.alloc o) := bl_allocd (Below.refl _ _) o
  have hone : NV (w2.alloc o) (.slice (some ⟨w2.heap.size, 0, none⟩) 1 1) 1 := by rw [ho]; exact ⟨_, _, rfl, Nat.le_refl _, Rd.one _ _ _⟩
  have hmk := rMake_any (hv2.below hal) hone (by decide) (by rw [sg_abs]; have := HP.out; omega) (by decide)
  have H2 := Lib.hid (And.intro hmk (And.intro (bl_next (bl_next H1.out.2.1 hb2) hal) ((H1.out.2.2.belowS hb2).belowS hal)))
  obtain ⟨b2, A2, m2, c2, rfl⟩ := hv2.form
  clear hv2 hb2 hal hone hmk
  go_wp2_with fail
  rw [← ho]
  clear ho
  refine H2.out.1.mono ?_
  rintro e w3 ⟨v3, rfl, hv3, hb3⟩
  have hv3q : QV w3 v3 (qlow ((choose many so : Nat) : Int) 1) := hv3
  obtain ⟨rc, rfl⟩ := hv3q.r3
  obtain ⟨gc, hgc⟩ : ∃ gc, w3.heap.size = gc := ⟨_, rfl⟩
  obtain ⟨oc, hoc⟩ : ∃ oc : Obj, oc = .cells #[.bool rc.s, .slice rc.A rc.m rc.c, .slice rc.B rc.n rc.d] 40 := ⟨_, rfl⟩
  have hal : Below w3.heap.size w3 (w3.alloc oc) := bl_allocd (Below.refl _ _) oc
  have hb03 : Below w.heap.size w w3 := bl_next H2.out.2.1 hb3
  have hR : ShR w (w3.alloc oc) b1 b3 b5 b6 gc gr r1 r3 rc a0 b0 a0 b0 p s (qlow ((choose many so : Nat) : Int) 1) := by
    have hs3 := hb03.size
    have hgrr := HP.out.2.2.2.2.2.2.2.2
    have la := HP.out.1.ps.ra.lt
    have lb := HP.out.1.ps.rb.lt
    refine ⟨(HP.out.1.below hb03).below hal, by rw [hoc, ← hgc]; exact Bk.newA w3 40 #[.bool rc.s, .slice rc.A rc.m rc.c, .slice rc.B rc.n rc.d], hv3q.below hal, ((H2.out.2.2.belowS hb3).belowS hal), Chg.of_below (bl_next hb03 hal), .inl rfl, .inl rfl, ⟨by omega, by omega, by omega, by omega⟩, ⟨by omega, by omega⟩⟩
  have HR := Lib.hid hR
  clear hv3 hv3q hb3 hal hb03 hR
  unfold R3.v
  go_wp2_with fail
  rw [← hoc]
  clear hoc hgc
  generalize w3.alloc oc = wb at *
  have H0 := Lib.hid HR.out
  have H1 := Lib.hid HR.out.drew
  go_cut [12] (fun s12 wx => ∃ z r4 a b, s12 = .pointer (some ⟨z, 0, none⟩) ∧ Bk wx z 40 (R3.cells r4) ∧ QV wx r4.v q ∧ ShR w wx b1 b3 b5 b6 gc gr r1 r3 rc a0 b0 a b p s (qlow ((choose many so : Nat) : Int) 1))
  case first =>
    have M1 := Lib.hid True.intro
    go_region_held3 (fun w' => w'.cell? ⟨gc, 0, none⟩ = some (.bool rc.s) ∧ w'.cell? ⟨gc, 1, none⟩ = some (.slice rc.A rc.m rc.c) ∧ w'.cell? ⟨gc, 2, none⟩ = some (.slice rc.B rc.n rc.d) ∧ w'.cell? ⟨b6, 0, none⟩ = some (.func (.func 119) #[] #[.pointer (some ⟨b5, 0, none⟩)]) ∧ w'.cell? ⟨b1, 0, none⟩ = some (.bool r1.s) ∧ w'.cell? ⟨b1, 1, none⟩ = some (.slice r1.A r1.m r1.c) ∧ w'.cell? ⟨b1, 2, none⟩ = some (.slice r1.B r1.n r1.d) ∧ w'.cell? ⟨b3, 0, none⟩ = some (.bool r3.s) ∧ w'.cell? ⟨b3, 1, none⟩ = some (.slice r3.A r3.m r3.c) ∧ w'.cell? ⟨b3, 2, none⟩ = some (.slice r3.B r3.n r3.d))
      (first | with_reducible exact H4.out.put_shc HZ.out r4 | with_reducible exact (H4.out.allocd _).shc | with_reducible exact H4.out.shc | with_reducible exact ((H3.out.allocd _).allocd _).shc | with_reducible exact (H3.out.allocd _).shc | with_reducible exact H3.out.shc | with_reducible exact (H2.out.allocd _).shc | with_reducible exact H2.out.shc | with_reducible exact (H0.out.allocd _).drew.shc | with_reducible exact H1.out.shc)
      (first
      | (go_at_call 119; clear M1; (first | have HA := Lib.hid H1.out | skip); refine (power0_any (v := r1.v) (p := p) (q := x) (n := so) (a0 := a0) (b := b0) (by first | with_reducible exact H1.out.s.ps | with_reducible exact (H0.out.allocd _).drew.s.ps) (by first | with_reducible exact H1.out.s.q1 | with_reducible exact (H0.out.allocd _).drew.s.q1) H0.out.s.pa (by have := HP.out; omega) HP.out.2.2.2.1 H0.out.s.sz.1).mono ?_; rintro e w2 ⟨v2, rfl, hv2, a1, hp2, hpp2, hn2, hz2, hc2⟩; (first | have H2 := Lib.hid (H1.out.power0 hp2 hpp2 hn2 (by have := H0.out.s.sz.1; have := HP.out.2.2.1; have := HP.out.2.1; omega) hc2) | have H2 := Lib.hid ((H0.out.allocd _).drew.power0 hp2 hpp2 hn2 (by have := H0.out.s.sz.1; have := HP.out.2.2.1; have := HP.out.2.1; omega) hc2)); (first | have HZ := Lib.hid (((ZB.here H0.out).below (Below.refl _ _).drew).power0 hn2 hc2) | skip); obtain ⟨rx, rfl⟩ := hv2.r3; have HV2 := Lib.hid hv2; clear hv2 hp2 hpp2 hn2 hz2 hc2; unfold R3.v)
      | (go_at_call 119; refine (power1_any (v := r3.v) (p := s) (q := y) (n := d) (a0 := b0) (b := a1) (by first | with_reducible exact H2.out.s.ps.swap | with_reducible exact (H2.out.allocd _).s.ps.swap) (by first | with_reducible exact H2.out.s.q3 | with_reducible exact (H2.out.allocd _).s.q3) H0.out.s.pb (by omega) HP.out.2.2.2.2.1 H0.out.s.sz.2).mono ?_; rintro e w3 ⟨v3, rfl, hv3, a2, hp3, hpp3, hn3, hz3, hc3⟩; (first | have H3 := Lib.hid (H2.out.power1 hp3 hpp3 hn3 (by have := H0.out.s.sz.2; omega) hc3) | have H3 := Lib.hid ((H2.out.allocd _).power1 hp3 hpp3 hn3 (by have := H0.out.s.sz.2; omega) hc3)); (first | have HV23 := Lib.hid ((Kq.of_chg 0 hc3 H2.out.s.ps.swap.num).qv HV2.out) | have HV23 := Lib.hid ((Kq.of_chg 0 hc3 (H2.out.allocd _).s.ps.swap.num).qv (HV2.out.allocd _))); (first | have HZ := Lib.hid ((ZB.here H2.out).power1 hn3 hc3) | have HZ := Lib.hid (HZ.out.power1 hn3 hc3) | skip); obtain ⟨ry, rfl⟩ := hv3.r3; have HV3 := Lib.hid hv3; clear hv3 hp3 hpp3 hn3 hz3 hc3; unfold R3.v)
      | (go_at_call 12; refine (mul_o (qs := [qlow ((choose many so : Nat) : Int) 1, x, y]) (by first | with_reducible exact QR.new3' H3.out.qc HV23.out HV3.out rfl | with_reducible exact QR.new3' (H3.out.qc.allocd _) (HV23.out.allocd _) (HV3.out.allocd _) (by rw [World.size_alloc]) | with_reducible exact (QR.new3' H3.out.qc HV23.out HV3.out rfl).allocd _) (by decide) (Nat.le_refl _) HP.out.2.2.2.2.2.1).mono ?_; rintro e w4 ⟨v4, rfl, hv4, hb4⟩; (first | have H4 := Lib.hid ((H3.out.allocd _).below hb4) | have H4 := Lib.hid (((H3.out.allocd _).allocd _).below hb4)); (first | have HZ := Lib.hid ((((ZB.here H3.out).allocd _)).below hb4) | (have hz := (ZB.here (H3.out.allocd _)).below hb4; rw [World.size_alloc] at hz; have HZ := Lib.hid hz) | have HZ := Lib.hid ((HZ.out.allocd _).below hb4) | skip); obtain ⟨r4, rfl⟩ := hv4.r3; have HV4 := Lib.hid hv4; (first | (have q := cells_rat HZ.out.1; obtain ⟨q0, q1, q2, s0, s1, s2⟩ := q) | skip); unfold R3.v))
    all_goals (go_wp2_with fail; go_meet; first | exact ⟨_, r4, _, _, rfl, Bk.newA w4 40 #[.bool r4.s, .slice r4.A r4.m r4.c, .slice r4.B r4.n r4.d], HV4.out.allocd _, H4.out.allocd _⟩ | exact ⟨_, r4, _, _, rfl, HZ.out.1.set3 r4, HV4.out.set3 HZ.out.1 r4, H4.out.put HZ.out r4⟩)
  case rest =>
    obtain ⟨z, r4, a1, b1', rfl, hkz, hqz, hRz⟩ := hcut
    obtain ⟨t0, t1, t2, _, _, _⟩ := cells_rat hkz
    obtain ⟨_, _, _, u0, u1, u2⟩ := cells_rat hRz.r
    have HF := Lib.hid (And.intro hqz hRz)
    clear hkz hqz hRz
    go_wp2_with fail
    obtain ⟨hqz, hRz⟩ := HF.out
    refine bodyPost_ret (ret_rat27 rfl rfl (hRz.r.set3 r4)) rfl ?_
    have hk := kq_set3 (B := 0) (Below.refl _ _) hRz.r r4
    have hgr2 := HP.out.2.2.2.2.2.2.2.2
    have l1 := HP.out.1.k1.lt
    have l3 := HP.out.1.k3.lt
    have l6 := HP.out.1.k6.lt
    refine ⟨r4.v, rfl, hqz.set3 hRz.r r4, a1, b1', hRz.s.kq hk (fun k hf e => ?_), hRz.na, hRz.nb, hRz.chg.trans (chg_set3 wc gr r4) (fun k hk e => by omega)⟩
    subst e
    rcases hf with e | e | e | e
    · exact hRz.neo.2 e
    · omega
    · omega
    · omega
end Go.Proofs.YtlhipaffhehcnaaGreat
namespace Go.Proofs.YtlhipaffhehcnaaGreat
open Go.RowKit Go.Shelf
set_option linter.unusedVariables false
def lackQ (p : Q) : Q := qsum ⟨1, 1⟩ (qneg p)
theorem whole1 : qlow ((1 : Nat) : Int) 1 = ⟨1, 1⟩ := rfl
theorem pow_one (p : Q) : Pow p [⟨1, 1⟩] := fun i h => by
  have e : i = 0 := by simp at h; omega
  subst e
  rfl
/-- A row of one. -/
theorem pwr_one {w : World} {r : R3} (h : QV w r.v ⟨1, 1⟩) : PwR (w.alloc (.cells #[.bool r.s, .slice r.A r.m r.c, .slice r.B r.n r.d] 40)) ⟨w.heap.size, 1, 1, [⟨1, 1⟩]⟩ :=
  ⟨rfl, Nat.le_refl _, Nat.le_refl _, (by show 1 ≤ maxLen; simp only [maxLen]; omega), [], ⟨[r], Bk.newA w 40 #[.bool r.s, .slice r.A r.m r.c, .slice r.B r.n r.d], (h.allocd _), trivial⟩, rfl, fun i x => by simp⟩
theorem bk3 {w : World} {g : Nat} {r : R3} (h : Bk w g 40 r.cells) : w.cell? ⟨g, 0, none⟩ = some (.bool r.s) ∧ w.cell? ⟨g, 1, none⟩ = some (.slice r.A r.m r.c) ∧ w.cell? ⟨g, 2, none⟩ = some (.slice r.B r.n r.d) := ⟨h.cell 0, h.cell 1, h.cell 2⟩
theorem bk3_set3 {w : World} {g z n : Nat} {r : R3} {cs : List Value} (h : Bk w g 40 r.cells) (hz : Bk w z 40 cs) (hg : g < n) (hn : n ≤ z) (u : R3) : (((w.setCell ⟨z, 0, none⟩ (.bool u.s)).setCell ⟨z, 1, none⟩ (.slice u.A u.m u.c)).setCell ⟨z, 2, none⟩ (.slice u.B u.n u.d)).cell? ⟨g, 0, none⟩ = some (.bool r.s) ∧ (((w.setCell ⟨z, 0, none⟩ (.bool u.s)).setCell ⟨z, 1, none⟩ (.slice u.A u.m u.c)).setCell ⟨z, 2, none⟩ (.slice u.B u.n u.d)).cell? ⟨g, 1, none⟩ = some (.slice r.A r.m r.c) ∧ (((w.setCell ⟨z, 0, none⟩ (.bool u.s)).setCell ⟨z, 1, none⟩ (.slice u.A u.m u.c)).setCell ⟨z, 2, none⟩ (.slice u.B u.n u.d)).cell? ⟨g, 2, none⟩ = some (.slice r.B r.n r.d) :=
  bk3 ((chg_set3 w z u).bk h (by omega))
/-- What shares hands back. -/
def SharesPost (w : World) (p : Q) (e : Ending) (w' : World) : Prop := ∃ b1 b3 b5 b6 r1 r3 a b, e = .returned (.func (.func 120) #[] #[.pointer (some ⟨b6, 0, none⟩), .pointer (some ⟨b1, 0, none⟩), .pointer (some ⟨b3, 0, none⟩)]) ∧ ShS w' b1 b3 b5 b6 r1 r3 a b p (lackQ p) ∧ (∀ k, foot b1 b3 b5 b6 a b k → w.heap.size ≤ k) ∧ Below w.heap.size w w'
set_option maxRecDepth 100000 in
set_option maxHeartbeats 4000000 in
/-- ripple.shares -/
theorem shares_any {w : World} {v : Value} {p : Q} (h : QV w v p) (hp : p.ok = true) : Calls Tryz.prog 84 #[v] w (SharesPost w p) := by
  have hmf : ∀ (fn : Fn) (first cap : Array Value) (w : World), (Instr.makeFunc fn first cap).run Tryz.prog w = .ok (.func fn first cap) w := fun _ _ _ _ => rfl
  obtain ⟨r1, rfl⟩ := h.r3
  obtain ⟨b1, hb1⟩ : ∃ b1, w.heap.size = b1 := ⟨_, rfl⟩
  obtain ⟨w1, hw1⟩ : ∃ w1, w.alloc (.cells #[.bool r1.s, .slice r1.A r1.m r1.c, .slice r1.B r1.n r1.d] 40) = w1 := ⟨_, rfl⟩
  have hbl : Below w.heap.size w w1 := by rw [← hw1]; exact bl_allocd (Below.refl _ _) _
  have k1 : Bk w1 b1 40 r1.cells := by rw [← hw1, ← hb1]; exact Bk.newA w 40 #[.bool r1.s, .slice r1.A r1.m r1.c, .slice r1.B r1.n r1.d]
  have H0 := Lib.hid (And.intro k1 (And.intro (h.below hbl) hbl))
  have H1 := Lib.hid (And.intro (k1.belowS (Below.refl _ _).drew) ((h.below hbl).below (Below.refl _ _).drew))
  have HP := Lib.hid (And.intro hp hb1)
  have HE := Lib.hid (Below.refl w1.heap.size w1)
  clear h hp hbl k1
  unfold R3.v
  go_enter Tryz.func84, Tryz.ntmps84
  go_wp2_with fail
  go_cut [3] (fun s3 wx => ∃ z r, s3 = .pointer (some ⟨z, 0, none⟩) ∧ Bk wx z 40 (R3.cells r) ∧ QV wx r.v (lackQ p) ∧ Below w1.heap.size w1 wx ∧ w1.heap.size ≤ z)
  case first =>
    go_region_held3 (fun w' => w'.cell? ⟨b1, 0, none⟩ = some (.bool r1.s) ∧ w'.cell? ⟨b1, 1, none⟩ = some (.slice r1.A r1.m r1.c) ∧ w'.cell? ⟨b1, 2, none⟩ = some (.slice r1.B r1.n r1.d))
      (first | with_reducible exact bk3_set3 H3.out HK.out.1 H0.out.1.lt HK.out.2 _ | with_reducible exact bk3 (H3.out.alloc _) | with_reducible exact bk3 H3.out | with_reducible exact bk3 (H2.out.alloc _) | with_reducible exact bk3 H2.out | with_reducible exact bk3 (Bk.drew (H0.out.1.alloc _)) | with_reducible exact bk3 H1.out.1)
      (first
      | (go_at_call 20; refine (whole_any (n := 1) (by decide)).mono ?_; rintro e w2 ⟨v2, rfl, hv2, hb2⟩; rw [whole1] at hv2; (first | have H2 := Lib.hid (H1.out.1.belowS hb2) | have H2 := Lib.hid ((Bk.drew (H0.out.1.alloc _)).belowS hb2)); (first | have HK := Lib.hid (zr_D HE.out hb2) | skip); (first | have HE2 := Lib.hid (bl_drew HE.out hb2) | have HE2 := Lib.hid (bl_allocD HE.out hb2)); obtain ⟨r2, rfl⟩ := hv2.r3; have HV2 := Lib.hid hv2; clear hv2 hb2; unfold R3.v)
      | (go_at_call 100; (first | have HL := Lib.hid HE2.out | skip); refine (sub_q (va := r2.v) (vb := r1.v) (a := ⟨1, 1⟩) (b := p) (by first | with_reducible exact HV2.out | with_reducible exact HV2.out.allocd _) (by first | with_reducible exact H0.out.2.1.below HE2.out | with_reducible exact (H0.out.2.1.below HE2.out).allocd _) rfl HP.out.1).mono ?_; rintro e w3 ⟨v3, rfl, hv3, hb3⟩; (first | have H3 := Lib.hid (H2.out.belowS hb3) | have H3 := Lib.hid ((H2.out.alloc _).belowS hb3)); (first | have HK := Lib.hid (zr_1 HE2.out hb3) | have HK := Lib.hid (zr_d HK.out hb3) | skip); (first | have HE3 := Lib.hid (bl_next HE2.out hb3) | have HE3 := Lib.hid (bl_alloc HE2.out hb3)); obtain ⟨r3, rfl⟩ := hv3.r3; have HV3 := Lib.hid hv3; (first | (have q := cells_rat HK.out.1; obtain ⟨q0, q1, q2, s0, s1, s2⟩ := q) | skip); unfold R3.v))
    all_goals (go_wp2_with fail; go_meet; first | exact ⟨_, r3, rfl, Bk.newA w3 40 #[.bool r3.s, .slice r3.A r3.m r3.c, .slice r3.B r3.n r3.d], HV3.out.allocd _, bl_allocd HE3.out _, HE3.out.size⟩ | exact ⟨_, r3, rfl, HK.out.1.set3 r3, HV3.out.set3 HK.out.1 r3, bl_set3 HE3.out HK.out.2 r3, HK.out.2⟩)
  case rest =>
    obtain ⟨b3, r3, rfl, hkz, hqz, hbz, hz⟩ := hcut
    have H2 := Lib.hid (And.intro hkz (And.intro hqz (And.intro hbz hz)))
    clear hkz hqz hbz hz
    go_wp2_with fail
    refine (whole_any (n := 1) (by decide)).mono ?_
    rintro e w4 ⟨v4, rfl, hv4, hb4⟩
    rw [whole1] at hv4
    obtain ⟨ra, rfl⟩ := hv4.r3
    obtain ⟨oa, hoa⟩ : ∃ oa : Obj, oa = .cells #[.bool ra.s, .slice ra.A ra.m ra.c, .slice ra.B ra.n ra.d] 40 := ⟨_, rfl⟩
    obtain ⟨ga, hga⟩ : ∃ ga, w4.heap.size = ga := ⟨_, rfl⟩
    obtain ⟨w5, hw5⟩ : ∃ w5, w4.alloc oa = w5 := ⟨_, rfl⟩
    have hA : PwR w5 ⟨ga, 1, 1, [⟨1, 1⟩]⟩ := by rw [← hw5, hoa, ← hga]; exact pwr_one hv4
    have hb5 : Below w4.heap.size w4 w5 := by rw [← hw5]; exact bl_allocd (Below.refl _ _) _
    have HA := Lib.hid (And.intro hA (bl_next hb4 hb5))
    clear hv4 hA
    unfold R3.v
    go_wp2_with fail
    rw [← hoa, hw5]
    clear hoa hw5 hb5
    refine (whole_any (n := 1) (by decide)).mono ?_
    rintro e w6 ⟨v6, rfl, hv6, hb6⟩
    rw [whole1] at hv6
    obtain ⟨rb, rfl⟩ := hv6.r3
    obtain ⟨ob, hob⟩ : ∃ ob : Obj, ob = .cells #[.bool rb.s, .slice rb.A rb.m rb.c, .slice rb.B rb.n rb.d] 40 := ⟨_, rfl⟩
    obtain ⟨gb, hgb⟩ : ∃ gb, w6.heap.size = gb := ⟨_, rfl⟩
    obtain ⟨w7, hw7⟩ : ∃ w7, w6.alloc ob = w7 := ⟨_, rfl⟩
    have hB : PwR w7 ⟨gb, 1, 1, [⟨1, 1⟩]⟩ := by rw [← hw7, hob, ← hgb]; exact pwr_one hv6
    have hb7 : Below w6.heap.size w6 w7 := by rw [← hw7]; exact bl_allocd (Below.refl _ _) _
    have HB := Lib.hid (And.intro hB (bl_next hb6 hb7))
    clear hv6 hB
    unfold R3.v
    go_wp2_with fail
    rw [← hob, hw7]
    have hs7 : w7.heap.size = gb + 1 := by rw [← hw7, World.size_alloc, hgb]
    clear hob hw7
    refine bodyPost_ret (v := .func (.func 120) #[] #[.pointer (some ⟨gb + 1 + 1, 0, none⟩), .pointer (some ⟨b1, 0, none⟩), .pointer (some ⟨b3, 0, none⟩)]) (by simp [results, Tryz.results84, go_sem]) rfl ?_
    have hx1 := HA.out.1.lt
    have hx2 := HB.out.1.lt
    have hx1' : ga < w5.heap.size := hx1
    have hx2' : gb < w7.heap.size := hx2
    have hz1 := H2.out.2.2.2
    have hz2 := H2.out.1.lt
    have hz3 := H0.out.1.lt
    have hz4 := HA.out.2.size
    have hz5 := HB.out.2.size
    have hz6 := hb6.size
    have hz7 := hb4.size
    have hz8 := H2.out.2.2.1.size
    have hz9 := H0.out.2.2.size
    have hz0 := HP.out.2
    have c5 : Below w7.heap.size w7 (w7.alloc (.cells #[.slice (some ⟨ga, 0, none⟩) 1 1, .slice (some ⟨gb, 0, none⟩) 1 1] 174)) := bl_allocd (Below.refl _ _) _
    have hsz5 : (w7.alloc (.cells #[.slice (some ⟨ga, 0, none⟩) 1 1, .slice (some ⟨gb, 0, none⟩) 1 1] 174)).heap.size = gb + 1 + 1 := by rw [World.size_alloc, hs7]
    have k5 : Bk (w7.alloc (.cells #[.slice (some ⟨ga, 0, none⟩) 1 1, .slice (some ⟨gb, 0, none⟩) 1 1] 174)) (gb + 1) 174 [.slice (some ⟨ga, 0, none⟩) 1 1, .slice (some ⟨gb, 0, none⟩) 1 1] := by
      rw [← hs7]
      exact Bk.newA w7 174 #[.slice (some ⟨ga, 0, none⟩) 1 1, .slice (some ⟨gb, 0, none⟩) 1 1]
    generalize w7.alloc (.cells #[.slice (some ⟨ga, 0, none⟩) 1 1, .slice (some ⟨gb, 0, none⟩) 1 1] 174) = w8 at *
    have c6 : Below w8.heap.size w8 (w8.alloc (.cells #[.func (.func 119) #[] #[.pointer (some ⟨gb + 1, 0, none⟩)]] 175)) := bl_allocd (Below.refl _ _) _
    have k6 : Bk (w8.alloc (.cells #[.func (.func 119) #[] #[.pointer (some ⟨gb + 1, 0, none⟩)]] 175)) (gb + 1 + 1) 175 [.func (.func 119) #[] #[.pointer (some ⟨gb + 1, 0, none⟩)]] := by
      rw [← hsz5]
      exact Bk.newA w8 175 #[.func (.func 119) #[] #[.pointer (some ⟨gb + 1, 0, none⟩)]]
    generalize w8.alloc (.cells #[.func (.func 119) #[] #[.pointer (some ⟨gb + 1, 0, none⟩)]] 175) = w9 at *
    have b79 : Below w7.heap.size w7 w9 := bl_next c5 c6
    have b59 : Below w5.heap.size w5 w9 := bl_next HB.out.2 b79
    have bc9 : Below wc.heap.size wc w9 := bl_next HA.out.2 b59
    have b19 : Below w1.heap.size w1 w9 := bl_next H2.out.2.2.1 bc9
    have b09 : Below w.heap.size w w9 := bl_next H0.out.2.2 b19
    refine ⟨b1, b3, gb + 1, gb + 1 + 1, r1, r3, ⟨ga, 1, 1, [⟨1, 1⟩]⟩, ⟨gb, 1, 1, [⟨1, 1⟩]⟩, rfl, ⟨H0.out.1.belowS b19, H0.out.2.1.below b19, H2.out.1.belowS bc9, H2.out.2.1.below bc9, k6, ⟨k5.belowS c6, HA.out.1.below b59, HB.out.1.below b79, by show ga ≠ gb; omega⟩, pow_one p, pow_one _, ⟨?_, ?_, ?_, ?_⟩, ⟨by show 1 ≤ 2000; omega, by show 1 ≤ 2000; omega⟩⟩, ?_, b09⟩
    · show ga ≠ b1; omega
    · show ga ≠ b3; omega
    · show gb ≠ b1; omega
    · show gb ≠ b3; omega
    · rintro k ((e | e | e) | e | e | e)
      · omega
      · have e' : k = ga := e
        omega
      · have e' : k = gb := e
        omega
      · omega
      · omega
      · omega
end Go.Proofs.YtlhipaffhehcnaaGreat
