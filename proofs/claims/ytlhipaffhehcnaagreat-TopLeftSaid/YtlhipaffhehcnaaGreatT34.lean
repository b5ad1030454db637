/- TopLeft: ripple.next: what it comes to; its first statements. -/
import Derived.Sort.CutIn
import Derived.Test.YtlhipaffhehcnaaGreatT32
namespace Go.Proofs.YtlhipaffhehcnaaGreat
open Go.RowKit Go.Shelf
set_option linter.unusedVariables false
set_option linter.unusedSimpArgs false
attribute [local go_sem] Oper.semAt_some
/-- A fold that may stop. -/
def foldO (f : Nat → List Q → Option (List Q)) (l0 : List Q) : Nat → Option (List Q)
  | 0 => some l0
  | i + 1 => (foldO f l0 i).bind (f i)
theorem foldO_pre {f : Nat → List Q → Option (List Q)} {l0 : List Q} {N : Nat} {l : List Q} (h : foldO f l0 N = some l) : ∀ i, i ≤ N → ∃ a, foldO f l0 i = some a := by
  induction N generalizing l with
  | zero => intro i hi; obtain rfl : i = 0 := by omega
            exact ⟨_, h⟩
  | succ N ih =>
    intro i hi
    by_cases e : i = N + 1
    · subst e; exact ⟨_, h⟩
    · unfold foldO at h
      obtain ⟨a, ha, _⟩ := Option.bind_eq_some_iff.1 h
      exact ih ha i (by omega)
theorem foldO_step {f : Nat → List Q → Option (List Q)} {l0 : List Q} {N : Nat} {l : List Q} (h : foldO f l0 N = some l) {i : Nat} (hi : i < N) : ∃ a b, foldO f l0 i = some a ∧ f i a = some b ∧ foldO f l0 (i + 1) = some b := by
  obtain ⟨b, hb⟩ := foldO_pre h (i + 1) (by omega)
  have hb2 := hb
  unfold foldO at hb2
  obtain ⟨a, ha, hm⟩ := Option.bind_eq_some_iff.1 hb2
  exact ⟨a, b, ha, hm, hb⟩
theorem foldO_len {f : Nat → List Q → Option (List Q)} {l0 : List Q} (hf : ∀ i a b, f i a = some b → b.length = a.length) : ∀ {N : Nat} {l : List Q}, foldO f l0 N = some l → l.length = l0.length
  | 0, l, h => by
    unfold foldO at h
    rw [← Option.some.inj h]
  | N + 1, l, h => by
    obtain ⟨a, b, h1, h2, h3⟩ := foldO_step h (i := N) (by omega)
    rw [h] at h3
    obtain rfl := Option.some.inj h3
    rw [hf _ _ _ h2]
    exact foldO_len hf h1
/-- One share that next adds. -/
def nx1 (gn mass come : Q) (n c r a b : Nat) (l : List Q) : Option (List Q) := (shareO gn (lackQ gn) (r - 1) b).bind fun g => (mulO [mass, come, g]).bind fun part => (l[(c - a) * (n + 1) + (r - 1 - b + a)]?).bind fun x => (addO [x, part]).map fun y => l.set ((c - a) * (n + 1) + (r - 1 - b + a)) y
def nx2 (fr gn mass : Q) (n c r a : Nat) (l : List Q) : Option (List Q) := (shareO fr (lackQ fr) c a).bind fun come => if come.z = 0 then some l else foldO (nx1 gn mass come n c r a) l r
def nx3 (fr gn : Q) (n : Nat) (qs : List Q) (i : Nat) (l : List Q) : Option (List Q) := (qs[i]?).bind fun mass => if i % (n + 1) = 0 ∨ mass.z = 0 then some l else foldO (nx2 fr gn mass n (i / (n + 1)) (i % (n + 1))) l (i / (n + 1) + 1)
def nextO (t : List Nat) (k u n : Nat) (qs : List Q) : Option (List Q) := (freeO t k u).bind fun fr => foldO (nx3 fr (qlow ((1 : Nat) : Int) u) n qs) (List.replicate ((n + 1) * (n + 1)) ⟨0, 1⟩) ((n + 1) * (n + 1))
theorem nx1_len {gn mass come : Q} {n c r a b : Nat} {l l' : List Q} (h : nx1 gn mass come n c r a b l = some l') : l'.length = l.length := by
  unfold nx1 at h
  obtain ⟨g, _, h⟩ := Option.bind_eq_some_iff.1 h
  obtain ⟨p, _, h⟩ := Option.bind_eq_some_iff.1 h
  obtain ⟨x, _, h⟩ := Option.bind_eq_some_iff.1 h
  obtain ⟨y, _, h⟩ := Option.map_eq_some_iff.1 h
  rw [← h, List.length_set]
theorem nx2_len {fr gn mass : Q} {n c r a : Nat} {l l' : List Q} (h : nx2 fr gn mass n c r a l = some l') : l'.length = l.length := by
  unfold nx2 at h
  obtain ⟨come, _, h⟩ := Option.bind_eq_some_iff.1 h
  split at h
  · rw [← Option.some.inj h]
  · exact foldO_len (fun i a b h => nx1_len h) h
theorem nx3_len {fr gn : Q} {n : Nat} {qs l l' : List Q} {i : Nat} (h : nx3 fr gn n qs i l = some l') : l'.length = l.length := by
  unfold nx3 at h
  obtain ⟨mass, _, h⟩ := Option.bind_eq_some_iff.1 h
  split at h
  · rw [← Option.some.inj h]
  · exact foldO_len (fun i a b h => nx2_len h) h
/-- The two closures that next makes. -/
def Cl.fv (x : Cl) : Value := .func (.func 120) #[] #[.pointer (some ⟨x.b6, 0, none⟩), .pointer (some ⟨x.b1, 0, none⟩), .pointer (some ⟨x.b3, 0, none⟩)]
def ClS (x : Cl) (W : World) (a b : Rw) : Prop := ShS W x.b1 x.b3 x.b5 x.b6 x.r1 x.r3 a b x.p (lackQ x.p)
def Sh2 (w0 wx : World) (p q : Q) (z14 z15 : Nat) : Prop := ∃ x y a b c d, x.p = p ∧ y.p = q ∧ Bk wx z14 41 [Cl.fv x] ∧ Bk wx z15 41 [Cl.fv y] ∧ ClS x wx a b ∧ ClS y wx c d ∧ (∀ k, x.F a b k → w0.heap.size ≤ k) ∧ (∀ k, y.F c d k → w0.heap.size ≤ k) ∧ (∀ k, x.F a b k → ¬ y.F c d k) ∧ Below w0.heap.size w0 wx
theorem nb_1 {w0 W W' : World} {cs : Array Value} {t : TypeId} (hl : Below w0.heap.size w0 W) (hb : Below (W.alloc (.cells cs t)).heap.size (W.alloc (.cells cs t)) W') : Bk W' W.heap.size t cs.toList ∧ w0.heap.size ≤ W.heap.size := ⟨(Bk.newA W t cs).belowS hb, hl.size⟩
theorem nb_D {w0 W W' : World} {cs : Array Value} {t : TypeId} (hl : Below w0.heap.size w0 W) (hb : Below (W.alloc (.cells cs t)).drew.heap.size (W.alloc (.cells cs t)).drew W') : Bk W' W.heap.size t cs.toList ∧ w0.heap.size ≤ W.heap.size := ⟨(Bk.newA W t cs).belowS (below_undrew hb), hl.size⟩
def set2 (W : World) (g : Nat) (u v : Value) : World := (W.setCell ⟨g, 0, none⟩ u).setCell ⟨g, 1, none⟩ v
theorem chg_set2 (W : World) (g : Nat) (u v : Value) : Chg (fun k => k = g) W (set2 W g u v) :=
  ((Chg.refl (fun k => k = g) W).set_ (g := g) (show (fun k => k = g) g from rfl) 0 u).set_ (g := g) (show (fun k => k = g) g from rfl) 1 v
theorem bk2 {W : World} {g : Nat} {t : TypeId} {u v : Value} (h : Bk W g t [u, v]) : W.cell? ⟨g, 0, none⟩ = some u ∧ W.cell? ⟨g, 1, none⟩ = some v := ⟨h.cell 0, h.cell 1⟩
theorem bk2_set2 {W : World} {g z n : Nat} {t t' : TypeId} {u v u' v' : Value} {cs : List Value} (h : Bk W g t [u, v]) (hg : g < n) (hz : Bk W z t' cs ∧ n ≤ z) : ((W.setCell ⟨z, 0, none⟩ u').setCell ⟨z, 1, none⟩ v').cell? ⟨g, 0, none⟩ = some u ∧ ((W.setCell ⟨z, 0, none⟩ u').setCell ⟨z, 1, none⟩ v').cell? ⟨g, 1, none⟩ = some v :=
  bk2 ((chg_set2 W z u' v').bk h (by have := hz.2; omega))
theorem gb_set2 {W : World} {z G : Nat} {t : TypeId} {u0 v0 u v : Value} {tl : List Value} {l : List Q} (hg : GB W G tl l) (hz : Bk W z t [u0, v0]) (hn : ∀ (i : Nat) (x : Int), [u0, v0][i]? ≠ some (.int .u64 x)) (ht : t ≠ 40) : GB (set2 W z u v) G tl l :=
  hg.kq (Kq.of_chg 0 (chg_set2 W z u v) (num_of_bk hz hn)) (Ne.symm (gb_type hz hg ht))
theorem zg_no : ∀ (i : Nat) (x : Int), [(.int .i64 0 : Value), .slice none 0 0][i]? ≠ some (.int .u64 x) := fun i x => by rcases i with _ | _ | i <;> simp
/-- What the closures are made of. -/
structure CC (w8 W : World) (g10 g12 : Nat) (r5 r7 : R3) (p q : Q) : Prop where
  k10 : Bk W g10 40 r5.cells
  k12 : Bk W g12 40 r7.cells
  q5 : QV W r5.v p
  q7 : QV W r7.v q
  l : Below w8.heap.size w8 W
section
variable {w8 W W' : World} {g10 g12 z : Nat} {r5 r7 : R3} {p q : Q} {o : Obj}
theorem CC.below (h : CC w8 W g10 g12 r5 r7 p q) (hb : Below W.heap.size W W') : CC w8 W' g10 g12 r5 r7 p q := ⟨h.k10.belowS hb, h.k12.belowS hb, h.q5.below hb, h.q7.below hb, bl_next h.l hb⟩
theorem CC.allocd (h : CC w8 W g10 g12 r5 r7 p q) (o : Obj) : CC w8 (W.alloc o) g10 g12 r5 r7 p q := h.below (bl_allocd (Below.refl _ _) o)
theorem CC.drew (h : CC w8 W g10 g12 r5 r7 p q) : CC w8 W.drew g10 g12 r5 r7 p q := h.below (Below.refl _ _).drew
theorem CC.six (h : CC w8 W g10 g12 r5 r7 p q) : W.cell? ⟨g10, 0, none⟩ = some (.bool r5.s) ∧ W.cell? ⟨g10, 1, none⟩ = some (.slice r5.A r5.m r5.c) ∧ W.cell? ⟨g10, 2, none⟩ = some (.slice r5.B r5.n r5.d) ∧ W.cell? ⟨g12, 0, none⟩ = some (.bool r7.s) ∧ W.cell? ⟨g12, 1, none⟩ = some (.slice r7.A r7.m r7.c) ∧ W.cell? ⟨g12, 2, none⟩ = some (.slice r7.B r7.n r7.d) := ⟨h.k10.cell 0, h.k10.cell 1, h.k10.cell 2, h.k12.cell 0, h.k12.cell 1, h.k12.cell 2⟩
/-- A box for a closure. -/
def FB (w8 W : World) (z : Nat) : Prop := Bk W z 41 [.nilFunc] ∧ w8.heap.size ≤ z
theorem FB.below (h : FB w8 W z) (hb : Below W.heap.size W W') : FB w8 W' z := ⟨h.1.belowS hb, h.2⟩
theorem FB.one (h : CC w8 W g10 g12 r5 r7 p q) : FB w8 (W.alloc (.cells #[.nilFunc] 41)) W.heap.size := ⟨Bk.newA W 41 #[.nilFunc], h.l.size⟩
theorem FB.two (h : CC w8 W g10 g12 r5 r7 p q) : FB w8 ((W.alloc o).alloc (.cells #[.nilFunc] 41)) (W.heap.size + 1) := ⟨Bk.new2 W o 41 #[.nilFunc], Nat.le_succ_of_le h.l.size⟩
theorem FB.next (h : FB w8 W z) (o : Obj) : FB w8 (W.alloc o) z := ⟨h.1.alloc o, h.2⟩
theorem FB.drew (h : FB w8 W z) : FB w8 W.drew z := ⟨h.1.belowS (Below.refl _ _).drew, h.2⟩
end
theorem cells1 {w : World} {g : Nat} {t : TypeId} {x : Value} (h : Bk w g t [x]) : w.cell? ⟨g, 0, none⟩ = some x ∧ w.frozen? ⟨g, 0, none⟩ = false ∧ g < w.heap.size := ⟨h.cell 0, h.frozen 0, h.lt⟩
/-- Two closures. -/
structure ShP (w8 W : World) (x y : Cl) (a b c d : Rw) : Prop where
  s : ShS W x.b1 x.b3 x.b5 x.b6 x.r1 x.r3 a b x.p (lackQ x.p)
  u : ShS W y.b1 y.b3 y.b5 y.b6 y.r1 y.r3 c d y.p (lackQ y.p)
  fs : ∀ k, x.F a b k → w8.heap.size ≤ k
  fu : ∀ k, y.F c d k → w8.heap.size ≤ k
  dj : ∀ k, x.F a b k → ¬ y.F c d k
theorem ShP.mk' {w8 w10 W : World} {M : Nat} {x y : Cl} {a b c d : Rw} (h : ShS w10 x.b1 x.b3 x.b5 x.b6 x.r1 x.r3 a b x.p (lackQ x.p) ∧ (∀ k, x.F a b k → w8.heap.size ≤ k)) (h8 : w8.heap.size ≤ w10.heap.size) (hbl : Below w10.heap.size w10 W) (hs : ShS W y.b1 y.b3 y.b5 y.b6 y.r1 y.r3 c d y.p (lackQ y.p)) (he : ∀ k, y.F c d k → M ≤ k) (hM : w10.heap.size ≤ M) : ShP w8 W x y a b c d :=
  ⟨h.1.below hbl, hs, h.2, fun k e => by have := he k e; omega, fun k e f => by have := he k f; have := h.1.lt k e; omega⟩
/-- The cells that are read, beside stores to the boxes. -/
def C6 (w8 W : World) (g10 g12 : Nat) (r5 r7 : R3) : Prop := Bk W g10 40 r5.cells ∧ Bk W g12 40 r7.cells ∧ g10 < w8.heap.size ∧ g12 < w8.heap.size
section
variable {w8 W : World} {g10 g12 z z' : Nat} {r5 r7 : R3} {p q : Q} {x y : Cl} {a b c d : Rw} {v u : Value}
theorem C6.allocd (h : C6 w8 W g10 g12 r5 r7) (o : Obj) : C6 w8 (W.alloc o) g10 g12 r5 r7 := ⟨h.1.alloc o, h.2.1.alloc o, h.2.2⟩
theorem C6.set (h : C6 w8 W g10 g12 r5 r7) (hz : w8.heap.size ≤ z) (v : Value) : C6 w8 (W.setCell ⟨z, 0, none⟩ v) g10 g12 r5 r7 := by
  have hc := (Chg.refl (fun k => k = z) W).set_ (g := z) (show (fun k => k = z) z from rfl) 0 v
  have h1 := h.2.2
  exact ⟨hc.bk h.1 (by omega), hc.bk h.2.1 (by omega), h.2.2⟩
theorem C6.six (h : C6 w8 W g10 g12 r5 r7) : W.cell? ⟨g10, 0, none⟩ = some (.bool r5.s) ∧ W.cell? ⟨g10, 1, none⟩ = some (.slice r5.A r5.m r5.c) ∧ W.cell? ⟨g10, 2, none⟩ = some (.slice r5.B r5.n r5.d) ∧ W.cell? ⟨g12, 0, none⟩ = some (.bool r7.s) ∧ W.cell? ⟨g12, 1, none⟩ = some (.slice r7.A r7.m r7.c) ∧ W.cell? ⟨g12, 2, none⟩ = some (.slice r7.B r7.n r7.d) := ⟨h.1.cell 0, h.1.cell 1, h.1.cell 2, h.2.1.cell 0, h.2.1.cell 1, h.2.1.cell 2⟩
def FV (w8 W : World) (z : Nat) (v : Value) : Prop := Bk W z 41 [v] ∧ w8.heap.size ≤ z ∧ ∀ x, v ≠ .int .u64 x
theorem FB.fv (h : FB w8 W z) : FV w8 W z .nilFunc := ⟨h.1, h.2, fun _ e => by cases e⟩
theorem FV.no (h : FV w8 W z v) : ∀ (i : Nat) (x : Int), [v][i]? ≠ some (.int .u64 x) := fun i x => by
  rcases i with _ | i
  · simpa using h.2.2 x
  · simp
theorem FV.kq (h : FV w8 W z v) (u : Value) : Kq 0 (fun k => k = z) W (W.setCell ⟨z, 0, none⟩ u) := Kq.set_ 0 h.1 h.no 0 u
theorem FV.self (h : FV w8 W z v) (x : Cl) : FV w8 (W.setCell ⟨z, 0, none⟩ (Cl.fv x)) z (Cl.fv x) := ⟨h.1.set_ 0 (Cl.fv x), h.2.1, fun _ e => by cases e⟩
theorem FV.other (h : FV w8 W z v) (h' : FV w8 W z' u) (hz : z ≠ z') (t : Value) : FV w8 (W.setCell ⟨z', 0, none⟩ t) z v := ⟨(h'.kq t).bk h.1 hz, h.2⟩
theorem FV.next (h : FV w8 W z v) (o : Obj) : FV w8 (W.alloc o) z v := ⟨h.1.alloc o, h.2⟩
theorem FV.new (h : w8.heap.size ≤ W.heap.size) (x : Cl) : FV w8 (W.alloc (.cells #[Cl.fv x] 41)) W.heap.size (Cl.fv x) := ⟨Bk.newA W 41 #[Cl.fv x], h, fun _ e => by cases e⟩
theorem FV.zero (h : w8.heap.size ≤ W.heap.size) : FV w8 (W.alloc (.cells #[.nilFunc] 41)) W.heap.size .nilFunc := ⟨Bk.newA W 41 #[.nilFunc], h, fun _ e => by cases e⟩
theorem FV.to (h : FV w8 W z v) (e : z' = z) : FV w8 W z' v := by subst e; exact h
/-- The closures, beside stores to the boxes. -/
def F7 (w8 W : World) (x y : Cl) (a b c d : Rw) : Prop := ShP w8 W x y a b c d ∧ Below w8.heap.size w8 W
theorem F7.allocd (h : F7 w8 W x y a b c d) (o : Obj) : F7 w8 (W.alloc o) x y a b c d := ⟨⟨h.1.s.below (bl_allocd (Below.refl _ _) o), h.1.u.below (bl_allocd (Below.refl _ _) o), h.1.fs, h.1.fu, h.1.dj⟩, bl_allocd h.2 o⟩
theorem FV.out (h : FV w8 W z v) {b1 b3 b5 b6 : Nat} {r1 r3 : R3} {s : Q} (hs : ShS W b1 b3 b5 b6 r1 r3 a b p s) : ¬ foot b1 b3 b5 b6 a b z := by
  rintro (e | e | e | e)
  · exact own_type hs.ps h.1 (by decide) (by decide) e
  · exact h.1.ne_of_type hs.k1 (by decide) e
  · exact h.1.ne_of_type hs.k3 (by decide) e
  · exact h.1.ne_of_type hs.k6 (by decide) e
theorem F7.set (h : F7 w8 W x y a b c d) (hz : FV w8 W z v) (u : Value) : F7 w8 (W.setCell ⟨z, 0, none⟩ u) x y a b c d :=
  ⟨⟨h.1.s.kq (hz.kq u) (fun k hf e => hz.out h.1.s (by rw [← e]; exact hf)), h.1.u.kq (hz.kq u) (fun k hf e => hz.out h.1.u (by rw [← e]; exact hf)), h.1.fs, h.1.fu, h.1.dj⟩, h.2.setCell (p := ⟨z, 0, none⟩) hz.2.1 u⟩
theorem F7.fin (h : F7 w8 W x y a b c d) (h1 : FV w8 W z (Cl.fv x)) (h2 : FV w8 W z' (Cl.fv y)) : Sh2 w8 W x.p y.p z z' :=
  ⟨x, y, a, b, c, d, rfl, rfl, h1.1, h2.1, h.1.s, h.1.u, h.1.fs, h.1.fu, h.1.dj, h.2⟩
end
/-- The shapes of memory at the end. -/
theorem end_yy {w8 W : World} {z z' : Nat} {x y : Cl} {a b c d : Rw} {u v : Value} (h : F7 w8 W x y a b c d) (h1 : FV w8 W z u) (h2 : FV w8 W z' v) (hz : z ≠ z') : Sh2 w8 ((W.setCell ⟨z, 0, none⟩ (Cl.fv x)).setCell ⟨z', 0, none⟩ (Cl.fv y)) x.p y.p z z' :=
  ((h.set h1 _).set (h2.other h1 hz.symm _) _).fin ((h1.self x).other (h2.other h1 hz.symm _) hz _) ((h2.other h1 hz.symm _).self y)
theorem end_yn {w8 W : World} {z : Nat} {x y : Cl} {a b c d : Rw} {u : Value} (h : F7 w8 W x y a b c d) (h1 : FV w8 W z u) : Sh2 w8 ((W.setCell ⟨z, 0, none⟩ (Cl.fv x)).alloc (.cells #[Cl.fv y] 41)) x.p y.p z W.heap.size :=
  ((h.set h1 _).allocd _).fin ((h1.self x).next _) ((FV.new (h.set h1 (Cl.fv x)).2.size y).to (by simp))
theorem end_ny {w8 W : World} {z : Nat} {x y : Cl} {a b c d : Rw} {u : Value} (h : F7 w8 W x y a b c d) (h1 : FV w8 W z u) : Sh2 w8 ((W.setCell ⟨z, 0, none⟩ (Cl.fv y)).alloc (.cells #[Cl.fv x] 41)) x.p y.p W.heap.size z :=
  ((h.set h1 _).allocd _).fin ((FV.new (h.set h1 (Cl.fv y)).2.size x).to (by simp)) ((h1.self y).next _)
theorem end_nn' {w8 W : World} {x y : Cl} {a b c d : Rw} (h : F7 w8 W x y a b c d) : Sh2 w8 ((W.alloc (.cells #[Cl.fv y] 41)).alloc (.cells #[Cl.fv x] 41)) x.p y.p (W.heap.size + 1) W.heap.size :=
  ((h.allocd _).allocd _).fin ((FV.new (h.allocd _).2.size x).to (by simp)) ((FV.new h.2.size y).next _)
theorem end_nn {w8 W : World} {x y : Cl} {a b c d : Rw} (h : F7 w8 W x y a b c d) : Sh2 w8 ((W.alloc (.cells #[Cl.fv x] 41)).alloc (.cells #[Cl.fv y] 41)) x.p y.p W.heap.size (W.heap.size + 1) :=
  ((h.allocd _).allocd _).fin ((FV.new h.2.size x).next _) ((FV.new (h.allocd _).2.size y).to (by simp))
/-- What the range over the places keeps. -/
def NxI (X : Nxc) (w : World) (f : Nat → List Q → Option (List Q)) (l0 : List Q) (i : Nat) (zs : List (Nat × R3 × Q)) (W : World) : Prop :=
  ∃ R l, foldO f l0 i = some l ∧ Rn X W W R R l zs ∧ Below w.heap.size w W ∧ ∀ k, k = X.G ∨ X.x.F R.a R.b k ∨ X.y.F R.c R.d k → w.heap.size ≤ k
theorem NxI.kq {X : Nxc} {w W W' : World} {f : Nat → List Q → Option (List Q)} {l0 : List Q} {i B : Nat} {zs : List (Nat × R3 × Q)} (h : NxI X w f l0 i zs W) (hk : Kq B Nq W W') (hB : w.heap.size ≤ B) : NxI X w f l0 i zs W' := by
  obtain ⟨R, l, h1, h2, h3, h4⟩ := h
  exact ⟨R, l, h1, h2.kq0 hk, hk.below h3 (Nat.le_refl _) hB (fun k e => e.elim), h4⟩
theorem qv_zero (w : World) : QV w R3.zero.v ⟨0, 0⟩ := (all3_zero w 1).1
theorem Rn.top {X : Nxc} {W0 W : World} {R0 R : R4} {l : List Q} {zs : List (Nat × R3 × Q)} {z : Nat} {r : R3} {q : Q} (h : Rn X W0 W R0 R l ((z, r, q) :: zs)) : Bk W z 40 r.cells := (h.zb (z, r, q) (by simp)).1
/-- The end of a round. -/
theorem NxI.fin {X : Nxc} {w W W' : World} {f : Nat → List Q → Option (List Q)} {ll l0 l' : List Q} {i B : Nat} {R R' : R4} {zs zs' : List (Nat × R3 × Q)} (h0 : Rn X W W R R l0 zs) (hbl : Below w.heap.size w W) (hft : ∀ k, k = X.G ∨ X.x.F R.a R.b k ∨ X.y.F R.c R.d k → w.heap.size ≤ k) (h : Rn X W W' R R' l' zs') (hfo : foldO f ll (i + 1) = some l') :
    KeepsFrom B W W' ∧ Kx B (fun k => w.heap.size ≤ k ∧ k ≠ X.bp) W W' ∧ NxI X w f ll (i + 1) [] W' := by
  obtain ⟨h1, h2⟩ := h.kx (B := B) (h0.drop (List.nil_sublist _)) hft
  refine ⟨h2, h1, R', l', hfo, (h.drop (List.nil_sublist _)).here, h.chg.below hbl (fun k _ e => hft k (e.imp id (fun e => e.imp .inl .inl))) hbl.size, ?_⟩
  have hs := hbl.size
  rintro k (e | e | e)
  · exact hft k (.inl e)
  · rcases foot_mv h.nr.1 h.nr.2.1 e with e | e
    · exact hft k (.inr (.inl e))
    · omega
  · rcases foot_mv h.nr.2.2.1 h.nr.2.2.2 e with e | e
    · exact hft k (.inr (.inr e))
    · omega
set_option maxRecDepth 100000 in
set_option maxHeartbeats 16000000 in
/-- ripple.next -/
theorem next_any {w : World} {A : Option Addr} {nt cp k u n G L : Nat} {t : List Nat} {qs qs' : List Q} (h : Tb w A nt t) (hk : k ≤ 8) (hu : u ≤ k) (hu1 : 1 ≤ u) (ht : tOk t k = true) (hn : n ≤ 8) (hL : (n + 1) * (n + 1) = L) (hg : GB w G [] qs) (hql : qs.length = L) (hq : nextO t k u n qs = some qs') : Calls Tryz.prog 46 #[gridV n G L, .slice A nt cp, .int .i64 (k : Nat), .int .i64 (u : Nat)] w fun e w' => ∃ G', e = .returned (gridV n G' L) ∧ GB w' G' [] qs' ∧ w.heap.size ≤ G' ∧ Below w.heap.size w w' := by
  unfold nextO at hq
  obtain ⟨fr, hfr, hfo⟩ := Option.bind_eq_some_iff.1 hq
  have hfk : fr.ok = true := freeO_ok hfr
  rw [hL] at hfo
  have hgk : (qlow ((1 : Nat) : Int) u).ok = true := qlow_ok (by omega) (by simp) (by omega)
  obtain ⟨g4, hg4⟩ : ∃ g4, w.heap.size = g4 := ⟨_, rfl⟩
  obtain ⟨w1, hw1⟩ : ∃ w1, (w.alloc (.cells #[.int .i64 (n : Nat), .slice (some ⟨G, 0, none⟩) L L] 60)).alloc (.cells #[.int .i64 0, .slice none 0 0] 60) = w1 := ⟨_, rfl⟩
  have hb1 : Below w.heap.size w w1 := by rw [← hw1]; exact bl_allocd (bl_allocd (Below.refl _ _) _) _
  have k4 : Bk w1 g4 60 [.int .i64 (n : Nat), .slice (some ⟨G, 0, none⟩) L L] := by rw [← hw1, ← hg4]; exact (Bk.newA w 60 #[.int .i64 (n : Nat), .slice (some ⟨G, 0, none⟩) L L]).alloc _
  have k8 : Bk w1 (g4 + 1) 60 [.int .i64 0, .slice none 0 0] := by rw [← hw1, ← hg4]; exact Bk.new2 w _ 60 #[.int .i64 0, .slice none 0 0]
  have hs1 : w1.heap.size = g4 + 2 := by rw [← hw1, ← hg4]; simp
  have HP := Lib.hid (And.intro hk (And.intro hu (And.intro hu1 (And.intro ht (And.intro hn (And.intro hL (And.intro hql (And.intro hfr (And.intro hfo (And.intro hfk hgk))))))))))
  have H1 := Lib.hid (And.intro (h.below hb1) (And.intro (hg.below hb1) (And.intro k4 (And.intro k8 (And.intro hb1 hs1)))))
  have HE := Lib.hid (Below.refl w1.heap.size w1)
  have HGL := Lib.hid hg.lt
  have hnI : (n : Int) ≤ 8 := by omega
  have d0 := k4.cell 0
  have d1 := k4.cell 1
  simp at d0 d1
  clear h hk hu hu1 ht hn hL hql hfr hq hfo hfk hgk hb1 k4 k8 hs1 hg
  unfold gridV
  refine (callsIn_wide (n := 5)).1 ?_
  refine callsIn_of_wp_marks Tryz.func46 rfl trivial ?_ rfl
  simp only [Tryz.ntmps46, List.size_toArray, List.length_cons, List.length_nil, Nat.reduceAdd, Nat.reduceSub, Array.replicate_succ, Array.replicate_zero, List.push_toArray, List.append_toArray, List.nil_append, List.cons_append]
  gi_wp2
  refine wpIn_wide.2 ?_
  have K1 := Lib.hid (H1.out.2.2.1.belowS (Below.refl _ _).drew)
  go_cut [9] from 9 to 29 (fun s9 wx => ∃ z G2, s9 = .pointer (some ⟨z, 0, none⟩) ∧ Bk wx z 60 [.int .i64 (n : Nat), .slice (some ⟨G2, 0, none⟩) L L] ∧ GB wx G2 [] (List.replicate L ⟨0, 1⟩) ∧ w1.heap.size ≤ G2 ∧ w1.heap.size ≤ z ∧ Below w1.heap.size w1 wx)
  case first =>
    -- [[
    go_region_held3 (fun w' => w'.cell? ⟨g4, 0, none⟩ = some (.int .i64 (n : Nat)) ∧ w'.cell? ⟨g4, 1, none⟩ = some (.slice (some ⟨G, 0, none⟩) L L))
      (first | with_reducible exact bk2_set2 K3.out H1.out.2.2.1.lt HK.out | with_reducible exact bk2 (K3.out.alloc _) | with_reducible exact bk2 K3.out | with_reducible exact bk2 (K2.out.alloc _) | with_reducible exact bk2 K2.out | with_reducible exact bk2 (Bk.drew (H1.out.2.2.1.alloc _)) | with_reducible exact bk2 K1.out)
      (first
      | (go_at_call 20; refine (whole_any (n := 0) (by decide)).mono ?_; rintro e w2 ⟨v2, rfl, hv2, hb2⟩; rw [whole0] at hv2; (first | have K2 := Lib.hid (K1.out.belowS hb2) | have K2 := Lib.hid ((Bk.drew (H1.out.2.2.1.alloc _)).belowS hb2)); (first | have HK := Lib.hid (nb_D HE.out hb2) | skip); (first | have HE2 := Lib.hid (bl_drew HE.out hb2) | have HE2 := Lib.hid (bl_allocD HE.out hb2)); have HV2 := Lib.hid hv2; clear hv2 hb2)
      | (go_at_call 82; (first | have HL := Lib.hid HE2.out | skip); refine (made_any (q := ⟨0, 1⟩) (by first | with_reducible exact HV2.out | with_reducible exact HV2.out.allocd _) HP.out.2.2.2.2.1 HP.out.2.2.2.2.2.1).mono ?_; rintro e w3 ⟨G2, rfl, hgb, hG2, hb3⟩; (first | have K3 := Lib.hid (K2.out.belowS hb3) | have K3 := Lib.hid ((K2.out.alloc _).belowS hb3)); (first | have HK := Lib.hid (nb_1 HE2.out hb3) | have HK := Lib.hid (zr_d HK.out hb3) | skip); (first | have HE3 := Lib.hid (bl_next HE2.out hb3) | have HE3 := Lib.hid (bl_alloc HE2.out hb3)); (have hG3 : w1.heap.size ≤ G2 := (by have := HE2.out.size; (try rw [World.size_alloc] at hG2); omega)); have HV3 := Lib.hid (And.intro hgb hG3); clear hgb hG2 hG3 hb3; (first | (have q := cells2 HK.out.1; obtain ⟨q0, q1, s0, s1⟩ := q) | skip); unfold gridV))
    all_goals (go_wp2_with fail; go_meet; first | exact ⟨_, G2, rfl, Bk.newA w3 60 #[.int .i64 (n : Nat), .slice (some ⟨G2, 0, none⟩) L L], HV3.out.1.below (bl_allocd (Below.refl _ _) _), HV3.out.2, HE3.out.size, bl_allocd HE3.out _⟩ | exact ⟨_, G2, rfl, (HK.out.1.set_ 0 (.int .i64 (n : Nat))).set_ 1 (.slice (some ⟨G2, 0, none⟩) L L), gb_set2 HV3.out.1 HK.out.1 zg_no (by decide), HV3.out.2, HK.out.2, (HE3.out.setCell (p := ⟨_, 0, none⟩) HK.out.2 _).setCell (p := ⟨_, 1, none⟩) HK.out.2 _⟩)
    -- ]]
  case rest =>
    obtain ⟨g9, G2, rfl, hk9, hgb2, hG2, hg9, hbx⟩ := hcut
    have H2 := Lib.hid (And.intro hk9 (And.intro hgb2 (And.intro hG2 (And.intro hg9 hbx))))
    have HT := Lib.hid (H1.out.1.below hbx)
    clear hk9 hgb2 hG2 hg9 hbx d0 d1
    gi_wp2
    refine ⟨trivial, ((callsIn_wide).2 (free_any HT.out HP.out.1 HP.out.2.1 HP.out.2.2.1 HP.out.2.2.2.1 HP.out.2.2.2.2.2.2.2.1)).mono ?_⟩
    rintro e w5 ⟨v5, rfl, hv5, hb5⟩
    obtain ⟨r5, rfl⟩ := hv5.r3
    obtain ⟨o10, ho10⟩ : ∃ o10 : Obj, o10 = .cells #[.bool r5.s, .slice r5.A r5.m r5.c, .slice r5.B r5.n r5.d] 40 := ⟨_, rfl⟩
    obtain ⟨g10, hg10⟩ : ∃ g10, w5.heap.size = g10 := ⟨_, rfl⟩
    obtain ⟨w6, hw6⟩ : ∃ w6, w5.alloc o10 = w6 := ⟨_, rfl⟩
    have hb6 : Below w5.heap.size w5 w6 := by rw [← hw6]; exact bl_allocd (Below.refl _ _) _
    have k10 : Bk w6 g10 40 r5.cells := by rw [← hw6, ← hg10, ho10]; exact Bk.newA w5 40 #[.bool r5.s, .slice r5.A r5.m r5.c, .slice r5.B r5.n r5.d]
    have H6 := Lib.hid (And.intro (hv5.below hb6) (And.intro k10 (bl_next hb5 hb6)))
    clear hv5 hb5 hb6 k10
    unfold R3.v
    gi_wp2
    rw [← ho10, hw6]
    clear ho10 hw6
    refine ⟨trivial, ((callsIn_wide).2 (pair_q (n := 1) (d := u) (by have := HP.out; omega) (by omega) (by have := HP.out; omega))).mono ?_⟩
    rintro e w7 ⟨v7, rfl, hv7, hb7⟩
    obtain ⟨r7, rfl⟩ := hv7.r3
    obtain ⟨o12, ho12⟩ : ∃ o12 : Obj, o12 = .cells #[.bool r7.s, .slice r7.A r7.m r7.c, .slice r7.B r7.n r7.d] 40 := ⟨_, rfl⟩
    obtain ⟨g12, hg12⟩ : ∃ g12, w7.heap.size = g12 := ⟨_, rfl⟩
    obtain ⟨w8, hw8⟩ : ∃ w8, w7.alloc o12 = w8 := ⟨_, rfl⟩
    have hb8 : Below w7.heap.size w7 w8 := by rw [← hw8]; exact bl_allocd (Below.refl _ _) _
    have k12 : Bk w8 g12 40 r7.cells := by rw [← hw8, ← hg12, ho12]; exact Bk.newA w7 40 #[.bool r7.s, .slice r7.A r7.m r7.c, .slice r7.B r7.n r7.d]
    have hb68 := bl_next hb7 hb8
    have H8 := Lib.hid (And.intro (hv7.below hb8) (And.intro k12 (And.intro (H6.out.1.below hb68) (And.intro (H6.out.2.1.belowS hb68) (bl_next H6.out.2.2 hb68)))))
    clear hv7 hb7 hb8 k12 hb68
    unfold R3.v
    gi_wp2
    rw [← ho12, hw8]
    clear ho12 hw8
    refine wpIn_wide.2 ?_
    have C0 := Lib.hid (show CC w8 w8 g10 g12 r5 r7 fr (qlow ((1 : Nat) : Int) u) from ⟨H8.out.2.2.2.1, H8.out.2.1, H8.out.2.2.1, H8.out.1, Below.refl _ _⟩)
    have C1 := Lib.hid C0.out.drew
    go_cut [14, 15] from 14 to 45 (fun s14 s15 wx => ∃ z14 z15, s14 = .pointer (some ⟨z14, 0, none⟩) ∧ s15 = .pointer (some ⟨z15, 0, none⟩) ∧ Sh2 w8 wx fr (qlow ((1 : Nat) : Int) u) z14 z15)
    case first =>
      -- [[
      have M1 := Lib.hid True.intro
      go_region_held3 (fun w' => w'.cell? ⟨g10, 0, none⟩ = some (.bool r5.s) ∧ w'.cell? ⟨g10, 1, none⟩ = some (.slice r5.A r5.m r5.c) ∧ w'.cell? ⟨g10, 2, none⟩ = some (.slice r5.B r5.n r5.d) ∧ w'.cell? ⟨g12, 0, none⟩ = some (.bool r7.s) ∧ w'.cell? ⟨g12, 1, none⟩ = some (.slice r7.A r7.m r7.c) ∧ w'.cell? ⟨g12, 2, none⟩ = some (.slice r7.B r7.n r7.d))
        (first | with_reducible exact C3.out.six | with_reducible exact (C3.out.allocd _).six | with_reducible exact ((C3.out.allocd _).allocd _).six | with_reducible exact C2.out.six | with_reducible exact (C2.out.allocd _).six | with_reducible exact ((C2.out.allocd _).allocd _).six | with_reducible exact C1.out.six | with_reducible exact (C0.out.allocd _).drew.six | with_reducible exact ((C0.out.allocd _).allocd _).drew.six | with_reducible exact (K6.out.set (by have e1 := C2.out.l.size; have e2 := C3.out.l.size; omega) _).six | with_reducible exact ((K6.out.allocd _).set (by have e1 := C2.out.l.size; have e2 := C3.out.l.size; omega) _).six | with_reducible exact ((K6.out.set (by have e1 := C2.out.l.size; have e2 := C3.out.l.size; omega) _).allocd _).six | with_reducible exact ((K6.out.set (by have e1 := C2.out.l.size; have e2 := C3.out.l.size; omega) _).set (by have e1 := C2.out.l.size; have e2 := C3.out.l.size; omega) _).six | with_reducible exact (((K6.out.allocd _).allocd _).set (by have e1 := C2.out.l.size; have e2 := C3.out.l.size; omega) _).six | with_reducible exact (((K6.out.allocd _).set (by have e1 := C2.out.l.size; have e2 := C3.out.l.size; omega) _).allocd _).six | with_reducible exact (((K6.out.set (by have e1 := C2.out.l.size; have e2 := C3.out.l.size; omega) _).allocd _).set (by have e1 := C2.out.l.size; have e2 := C3.out.l.size; omega) _).six | with_reducible exact ((((K6.out.allocd _).allocd _).set (by have e1 := C2.out.l.size; have e2 := C3.out.l.size; omega) _).set (by have e1 := C2.out.l.size; have e2 := C3.out.l.size; omega) _).six | with_reducible exact (((K6.out.allocd _).set (by have e1 := C2.out.l.size; have e2 := C3.out.l.size; omega) _).set (by have e1 := C2.out.l.size; have e2 := C3.out.l.size; omega) _).six | with_reducible exact ((((K6.out.allocd _).set (by have e1 := C2.out.l.size; have e2 := C3.out.l.size; omega) _).allocd _).set (by have e1 := C2.out.l.size; have e2 := C3.out.l.size; omega) _).six)
        (first
        | (go_at_call 84; clear M1; refine (shares_any (v := r5.v) (p := fr) (by first | with_reducible exact C1.out.q5 | with_reducible exact (C0.out.allocd _).drew.q5 | with_reducible exact ((C0.out.allocd _).allocd _).drew.q5) HP.out.2.2.2.2.2.2.2.2.2.1).mono ?_; rintro e w10 ⟨b1, b3, b5, b6, s1, s3, a, b, rfl, hS, hF, hb⟩; (first | have C2 := Lib.hid (C1.out.below hb) | have C2 := Lib.hid ((C0.out.allocd _).drew.below hb) | have C2 := Lib.hid (((C0.out.allocd _).allocd _).drew.below hb)); (first | (have Z1 := Lib.hid ((FB.two C0.out).drew.below hb); have Z2 := Lib.hid (((FB.one C0.out).next _).drew.below hb)) | have Z1 := Lib.hid ((FB.one C0.out).drew.below hb) | skip); have HX := Lib.hid (And.intro hS (show ∀ k, foot b1 b3 b5 b6 a b k → w8.heap.size ≤ k from fun k e => Nat.le_trans (by first | with_reducible exact C1.out.l.size | with_reducible exact (C0.out.allocd _).drew.l.size | with_reducible exact ((C0.out.allocd _).allocd _).drew.l.size) (hF k e))); clear hS hF hb)
        | (go_at_call 84; refine (shares_any (v := r7.v) (p := qlow ((1 : Nat) : Int) u) (by first | with_reducible exact C2.out.q7 | with_reducible exact (C2.out.allocd _).q7 | with_reducible exact ((C2.out.allocd _).allocd _).q7) HP.out.2.2.2.2.2.2.2.2.2.2).mono ?_; rintro e w11 ⟨e1, e3, e5, e6, t1, t3, c, d, rfl, hS, hF, hb⟩; (first | have C3 := Lib.hid (C2.out.below hb) | have C3 := Lib.hid ((C2.out.allocd _).below hb) | have C3 := Lib.hid (((C2.out.allocd _).allocd _).below hb)); (first | (have Y1 := Lib.hid (Z1.out.below hb); have Y2 := Lib.hid (Z2.out.below hb)) | (have Y1 := Lib.hid ((Z1.out.next _).below hb); have Y2 := Lib.hid ((FB.one C2.out).below hb)) | (have Y1 := Lib.hid ((FB.two C2.out).below hb); have Y2 := Lib.hid (((FB.one C2.out).next _).below hb)) | have Y1 := Lib.hid (Z1.out.below hb) | have Y1 := Lib.hid ((FB.one C2.out).below hb) | skip); have HY := Lib.hid (show ShP w8 w11 ⟨b1, b3, b5, b6, s1, s3, fr⟩ ⟨e1, e3, e5, e6, t1, t3, qlow ((1 : Nat) : Int) u⟩ a b c d from ShP.mk' HX.out C2.out.l.size (by first | with_reducible exact hb | with_reducible exact bl_alloc (Below.refl _ _) hb | with_reducible exact bl_alloc2 (Below.refl _ _) hb) hS hF (by first | with_reducible exact Nat.le_refl _ | (rw [World.size_alloc]; omega) | (rw [World.size_alloc, World.size_alloc]; omega))); have K6 := Lib.hid (show C6 w8 w11 g10 g12 r5 r7 from ⟨C3.out.k10, C3.out.k12, C0.out.k10.lt, C0.out.k12.lt⟩); have F := Lib.hid (And.intro HY.out C3.out.l); clear hS hF hb; (first | (have m1 := Nat.ne_of_lt Z1.out.1.lt; have m1' := m1.symm) | skip); (first | (have q := cells1 Y1.out.1; obtain ⟨q0, s0, l1⟩ := q; have n1 := Nat.ne_of_lt l1; have n1' := n1.symm) | skip); (first | (have q := cells1 Y2.out.1; obtain ⟨q2, s2, l2⟩ := q; have n2 := Nat.ne_of_lt l2; have n2' := n2.symm) | skip)))
      all_goals (go_wp2_with fail; go_meet; refine ⟨_, _, rfl, rfl, ?_⟩; first | exact end_nn F.out | exact end_nn' F.out | exact end_yn F.out Y1.out.fv | exact end_ny F.out Y1.out.fv | exact end_yy F.out Y1.out.fv Y2.out.fv (by omega) | exact end_yy F.out Y2.out.fv Y1.out.fv (by omega))
      -- ]]
    case rest =>
      obtain ⟨z14, z15, rfl, rfl, x, y, a, b, c, d, hxp, hyp, h14, h15, hSx, hSy, hFx, hFy, hdj, hb9⟩ := hcut
      unfold ClS at hSx hSy
      rw [hxp] at hSx
      rw [hyp] at hSy
      have HA := Lib.hid (bl_next H2.out.2.2.2.2 (bl_next H8.out.2.2.2.2 hb9))
      have hA2 : Below w8.heap.size w8 wc := hb9
      have hw28 := bl_next H8.out.2.2.2.2 hb9
      have k4' := H1.out.2.2.1.belowS HA.out
      obtain ⟨e0, e1, _, _⟩ := cells2 k4'
      obtain ⟨o, ho⟩ : ∃ o : Obj, o = .cells #[.int .i64 (n : Nat), .slice (some ⟨G, 0, none⟩) L L] 60 := ⟨_, rfl⟩
      obtain ⟨bp, hbp⟩ : ∃ bp, wc.heap.size = bp := ⟨_, rfl⟩
      obtain ⟨wp, hwp⟩ : ∃ wp, wc.alloc o = wp := ⟨_, rfl⟩
      have hbw : Below wc.heap.size wc wp := by rw [← hwp]; exact bl_allocd (Below.refl _ _) _
      have kp : Bk wp bp 60 [.int .i64 (n : Nat), .slice (some ⟨G, 0, none⟩) L L] := by rw [← hwp, ← hbp, ho]; exact Bk.newA wc 60 #[.int .i64 (n : Nat), .slice (some ⟨G, 0, none⟩) L L]
      have HR := Lib.hid (show Rn ⟨n, L, G2, g4 + 1, g9, z14, z15, bp, .int .i64 (n : Nat), .slice (some ⟨G, 0, none⟩) L L, x, y⟩ wp wp ⟨a, b, c, d⟩ ⟨a, b, c, d⟩ (List.replicate L ⟨0, 1⟩) [] from by
        refine ⟨(H1.out.2.2.2.1.belowS HA.out).belowS hbw, (H2.out.1.belowS hw28).belowS hbw, kp, (H2.out.2.1.below hw28).below hbw, h14.belowS hbw, h15.belowS hbw, ?_, ?_, hdj, ⟨fun e => ?_, fun e => ?_⟩, fun z hz => by simp at hz, List.nodup_nil, Chg.refl _ _, ⟨.inl rfl, .inl rfl, .inl rfl, .inl rfl⟩⟩
        · show ShS wp x.b1 x.b3 x.b5 x.b6 x.r1 x.r3 a b x.p (lackQ x.p)
          rw [hxp]; exact hSx.below hbw
        · show ShS wp y.b1 y.b3 y.b5 y.b6 y.r1 y.r3 c d y.p (lackQ y.p)
          rw [hyp]; exact hSy.below hbw
        · have e1 := hFx _ e
          have e2 := H2.out.2.1.lt
          have e3 := H8.out.2.2.2.2.size
          have e1' : w8.heap.size ≤ G2 := e1
          omega
        · have e1 := hFy _ e
          have e2 := H2.out.2.1.lt
          have e3 := H8.out.2.2.2.2.size
          have e1' : w8.heap.size ≤ G2 := e1
          omega)
      have hge : w.heap.size ≤ G2 ∧ w.heap.size ≤ w8.heap.size := by
        have := H2.out.2.2.1
        have := H1.out.2.2.2.2.2
        have := H1.out.2.2.2.2.1.size
        have := H2.out.2.2.2.2.size
        have := H8.out.2.2.2.2.size
        omega
      have HB := Lib.hid (And.intro (bl_next (bl_next H1.out.2.2.2.2.1 HA.out) hbw) (And.intro (show ∀ k, k = G2 ∨ x.F a b k ∨ y.F c d k → w.heap.size ≤ k from by
        rintro k (e | e | e)
        · omega
        · have := hFx k e; omega
        · have := hFy k e; omega) (And.intro ((H1.out.2.1.below HA.out).below hbw) (And.intro hxp hyp))))
      clear hbw kp hSx hSy hFx hFy hdj hb9 h14 h15 hge hw28 hA2 hxp hyp
      gi_wp2
      refine ⟨trivial, ((callsIn_wide).2 places_any).mono ?_⟩
      rintro e w13 ⟨rfl, rfl⟩
      rw [← ho, hwp, hbp]
      clear ho hwp
      gi_wp2
      obtain ⟨X, hX⟩ : ∃ X : Nxc, X = ⟨n, L, G2, g4 + 1, g9, z14, z15, bp, .int .i64 (n : Nat), .slice (some ⟨G, 0, none⟩) L L, x, y⟩ := ⟨_, rfl⟩
      have HX := Lib.hid hX
      refine range_stX Nq (fun k => w.heap.size ≤ k ∧ k ≠ bp) rfl (by decide) (gf := 47) (lb := #[.pointer (some ⟨bp, 0, none⟩)]) rfl trivial (enters_of Tryz.func47 (by kernel_rfl) rfl)
        (fun i W => NxI X w (nx3 fr (qlow ((1 : Nat) : Int) u) n qs) (List.replicate L ⟨0, 1⟩) i [] W) (OkP n qs) L (fun _ _ => False) ?hps ?hI ?hI ?hIx ?hIx ?h0 ?hseq
        (fun i x' a' W => ∃ g16 g17 r q ci di, i / (n + 1) = ci ∧ i % (n + 1) = di ∧ x' = #[.agg #[.int .i64 (ci : Nat), .int .i64 (di : Nat)], R3.v r] ∧ qs[i]? = some q ∧ NxI X w (nx3 fr (qlow ((1 : Nat) : Int) u) n qs) (List.replicate L ⟨0, 1⟩) i [(g17, r, q)] W ∧ Bk W g16 65 [.int .i64 (ci : Nat), .int .i64 (di : Nat)] ∧ a' = { tmps := List.toArray (.agg #[.int .i64 (n : Nat), .slice (some ⟨G, 0, none⟩) L L] :: .slice A nt cp :: .int .i64 (k : Nat) :: .int .i64 (u : Nat) :: .pointer (some ⟨g4, 0, none⟩) :: undef :: undef :: undef :: .pointer (some ⟨g4 + 1, 0, none⟩) :: .pointer (some ⟨g9, 0, none⟩) :: .pointer (some ⟨g10, 0, none⟩) :: .int .i64 0 :: .pointer (some ⟨g12, 0, none⟩) :: .int .i64 0 :: .pointer (some ⟨z14, 0, none⟩) :: .pointer (some ⟨z15, 0, none⟩) :: .pointer (some ⟨g16, 0, none⟩) :: .pointer (some ⟨g17, 0, none⟩) :: u18 :: u19 :: u20 :: u21 :: u22 :: u23 :: u24 :: u25 :: u26 :: u27 :: u28 :: u29 :: u30 :: u31 :: u32 :: u33 :: u34 :: u35 :: u36 :: u37 :: u38 :: u39 :: u40 :: u41 :: u42 :: u43 :: u44 :: u45 :: .agg #[.int .i64 (n : Nat), .slice (some ⟨G, 0, none⟩) L L] :: .func (.func 47) #[] #[.pointer (some ⟨bp, 0, none⟩)] :: .agg #[.int .i64 (ci : Nat), .int .i64 (di : Nat)] :: .agg #[.bool r.s, .slice r.A r.m r.c, .slice r.B r.n r.d] :: undef :: undef :: undef :: undef :: undef :: undef :: undef :: undef :: undef :: undef :: undef :: undef :: undef :: undef :: undef :: undef :: undef :: undef :: undef :: undef :: undef :: undef :: undef :: undef :: undef :: undef :: undef :: undef :: undef :: undef :: undef :: undef :: undef :: undef :: undef :: undef :: undef :: undef :: undef :: undef :: undef :: undef :: undef :: undef :: undef :: undef :: undef :: undef :: undef :: undef :: undef :: undef :: undef :: undef :: undef :: undef :: undef :: undef :: undef :: undef :: undef :: undef :: undef :: undef :: []), defers := [] }) ?hAx ?hassign ?hbody ?hdone ?hstop
      case hps =>
        rintro i x W ⟨r, q, rfl, _, _⟩
        rfl
      case hI => exact fun i W W' h hk => h.kq hk HB.out.1.size
      case hIx => exact fun _ _ _ h _ => h.elim
      case h0 =>
        subst hX
        exact ⟨_, _, rfl, HR.out, HB.out.1, HB.out.2.1⟩
      case hseq =>
        have hL81 : L ≤ 81 := by rw [← HP.out.2.2.2.2.2.1]; exact Nat.mul_le_mul (n₁ := n + 1) (m₁ := n + 1) (n₂ := 9) (m₂ := 9) (by have := HP.out; omega) (by have := HP.out; omega)
        exact places_iterX (m := 4) (by decide) (by have := HR.out.kp; exact this) HB.out.2.2.1 HP.out.2.2.2.2.1 HP.out.2.2.2.2.2.2.1 hL81 ⟨fun e => e.2 rfl, fun e => by have := HGL.out; omega⟩
      case hAx =>
        rintro i x' a' W W' ⟨g16, g17, r, q, ci, di, h7, h8, h1, h2, h3, h4, h5⟩ hk
        exact ⟨g16, g17, r, q, ci, di, h7, h8, h1, h2, h3.kq hk HB.out.1.size, hk.bk h4 id, h5⟩
      case hassign =>
        intro l i x' W K hIW hok hK
        obtain ⟨r, q, rfl, hq, hqv⟩ := hok
        have HK := Lib.hid hK
        have HI := Lib.hid (And.intro hIW (And.intro hq hqv))
        clear hK hIW hq hqv
        obtain ⟨ci, hci⟩ : ∃ ci, i / (n + 1) = ci := ⟨_, rfl⟩
        obtain ⟨di, hdi⟩ : ∃ di, i % (n + 1) = di := ⟨_, rfl⟩
        rw [hci, hdi]
        unfold R3.v
        gi_wp2
        have hbl : Below W.heap.size W ((W.alloc (.cells #[.int .i64 (ci : Nat), .int .i64 (di : Nat)] 65)).alloc (.cells #[.bool r.s, .slice r.A r.m r.c, .slice r.B r.n r.d] 40)) := bl_allocd (bl_allocd (Below.refl _ _) _) _
        refine HK.out _ _ (keepsFrom_below hbl) (Kx.none (Kq.of_below _ hbl)) (HI.out.1.kq (Kq.of_below _ hbl) HB.out.1.size) ⟨W.heap.size, W.heap.size + 1, r, q, ci, di, hci, hdi, by rw [hci, hdi], HI.out.2.1, ?_, (Bk.newA W 65 #[.int .i64 (ci : Nat), .int .i64 (di : Nat)]).alloc _, rfl⟩
        obtain ⟨R, l0, h1, h2, h3, h4⟩ := HI.out.1
        exact ⟨R, l0, h1, (h2.box hbl (Bk.new2 W _ 40 #[.bool r.s, .slice r.A r.m r.c, .slice r.B r.n r.d]) (HI.out.2.2.below hbl) (by omega)).here, bl_next h3 hbl, h4⟩
      case hbody =>
        rintro l i x' a' W hl hr hiN hIW ⟨g16, g17, r, q, ci, di, hci, hdi, rfl, hq, hI, hk16, rfl⟩
        clear hIW hr HX hg4
        subst hX
        have HI := Lib.hid (And.intro hI (And.intro hq (And.intro hci (And.intro hdi hiN))))
        have c16 := hk16.belowS (Below.refl _ _).drew
        have c0 := c16.cell 0
        have c1 := c16.cell 1
        simp at c0 c1
        clear hI hq hci hdi hiN c16 hk16
        gi_wp2
        refine region_round (S := fun w' => w'.cell? ⟨g16, 0, none⟩ = some (.int .i64 (ci : Nat)) ∧ w'.cell? ⟨g16, 1, none⟩ = some (.int .i64 (di : Nat))) (by kernel_rfl) (by kernel_rfl) ⟨c0, c1⟩ (fun hS => ?_)
        refine wpAnyH_take (i := 0) (v := _) rfl (by kernel_rfl) (by kernel_rfl) (by kernel_rfl) (fun _ _ _ h => h) (Or.inl ⟨by rfl, fun w' hw' => by ((try dsimp only at hw'); go_split_ands; first | (go_simp; done) | (go_simp; with_reducible rfl))⟩) hS ?_
        simp only [Act.put, List.getElem_toArray, List.getElem_cons_zero, List.getElem_cons_succ, List.setIfInBounds_toArray, List.set_cons_zero, List.set_cons_succ]
        refine wpAnyH_take (i := 1) (v := _) rfl (by kernel_rfl) (by kernel_rfl) (by kernel_rfl) (fun _ _ _ h => h) (Or.inl ⟨by rfl, fun w' hw' => by ((try dsimp only at hw'); go_split_ands; first | (go_simp; done) | (go_simp; with_reducible rfl))⟩) hS ?_
        simp only [Act.put, List.getElem_toArray, List.getElem_cons_zero, List.getElem_cons_succ, List.setIfInBounds_toArray, List.set_cons_zero, List.set_cons_succ]
        refine wpAnyH_take (i := 2) (v := _) rfl (by kernel_rfl) (by kernel_rfl) (by kernel_rfl) (fun _ _ _ h => h) (Or.inl ⟨by rfl, fun w' hw' => by ((try dsimp only at hw'); go_split_ands; first | (go_simp; done) | (go_simp; with_reducible rfl))⟩) hS ?_
        simp only [Act.put, List.getElem_toArray, List.getElem_cons_zero, List.getElem_cons_succ, List.setIfInBounds_toArray, List.set_cons_zero, List.set_cons_succ]
        refine wpAnyH_take (i := 3) (v := _) rfl (by kernel_rfl) (by kernel_rfl) (by kernel_rfl) (fun _ _ _ h => h) (Or.inl ⟨by rfl, fun w' hw' => by ((try dsimp only at hw'); go_split_ands; first | (go_simp; done) | (go_simp; with_reducible rfl))⟩) hS ?_
        simp only [Act.put, List.getElem_toArray, List.getElem_cons_zero, List.getElem_cons_succ, List.setIfInBounds_toArray, List.set_cons_zero, List.set_cons_succ]
        refine wpAnyH_take (i := 4) (v := _) rfl (by kernel_rfl) (by kernel_rfl) (by kernel_rfl) (fun _ _ _ h => h) (Or.inl ⟨by rfl, fun w' hw' => by ((try dsimp only at hw'); go_split_ands; first | (go_simp; done) | (go_simp; with_reducible rfl))⟩) hS ?_
        simp only [Act.put, List.getElem_toArray, List.getElem_cons_zero, List.getElem_cons_succ, List.setIfInBounds_toArray, List.set_cons_zero, List.set_cons_succ]
        refine wpAnyH_take (i := 5) (v := _) rfl (by kernel_rfl) (by kernel_rfl) (by kernel_rfl) (fun _ _ _ h => h) (Or.inl ⟨by rfl, fun w' hw' => by ((try dsimp only at hw'); go_split_ands; first | (go_simp; done) | (go_simp; with_reducible rfl))⟩) hS ?_
        simp only [Act.put, List.getElem_toArray, List.getElem_cons_zero, List.getElem_cons_succ, List.setIfInBounds_toArray, List.set_cons_zero, List.set_cons_succ]
        refine wpAnyH_done (by kernel_rfl) ?_ _
        simp only [NormR, Exit.then]
        clear c0 c1 hS
        obtain ⟨⟨R, l0, hfo, hRn, hbl, hft⟩, hq, hci, hdi, hiN⟩ := HI.out
        obtain ⟨la, lb, e1, e2, e3⟩ := foldO_step HP.out.2.2.2.2.2.2.2.2.1 hiN
        obtain rfl := Option.some.inj (hfo.symm.trans e1)
        unfold nx3 at e2
        rw [hq, Option.bind_some, hci, hdi] at e2
        have HF := Lib.hid (show ∀ (W' : World) (R' : R4) (zs' : List (Nat × R3 × Q)), Rn ⟨n, L, G2, g4 + 1, g9, z14, z15, bp, .int .i64 (n : Nat), .slice (some ⟨G, 0, none⟩) L L, x, y⟩ W W' R R' lb zs' → KeepsFrom wp.heap.size W W' ∧ Kx wp.heap.size (fun k => w.heap.size ≤ k ∧ k ≠ bp) W W' ∧ NxI ⟨n, L, G2, g4 + 1, g9, z14, z15, bp, .int .i64 (n : Nat), .slice (some ⟨G, 0, none⟩) L L, x, y⟩ w (nx3 fr (qlow ((1 : Nat) : Int) u) n qs) (List.replicate L ⟨0, 1⟩) (i + 1) [] W' from fun W' R' zs' h => NxI.fin (B := wp.heap.size) hRn hbl hft h e3)
        have HB2 := Lib.hid (And.intro hRn.drew (And.intro e2 (And.intro hci (And.intro hdi hiN))))
        have hln : l0.length = L := by
          rw [foldO_len (fun i a b h => nx3_len h) hfo, List.length_replicate]
        have HN := Lib.hid hln
        clear hfo hRn hbl hft hq hci hdi hiN e1 e2 e3 hln
        obtain ⟨b0, b1, b2, _, _, _⟩ := cells_rat (HB2.out.1.zb (g17, r, q) (by simp)).1
        by_cases hd0 : di = 0
        · subst hd0
          have hlb : l0 = lb := by have := HB2.out.2.1; rw [if_pos (Or.inl rfl)] at this; exact Option.some.inj this
          have HLB := Lib.hid hlb
          clear hlb
          gi_wp2
          refine ⟨trivial, ?_⟩
          gi_wp2
          have := HB2.out.1
          rw [HLB.out] at this
          exact HF.out _ _ _ this
        · have hd0I : ¬ ((di : Int) = 0) := by omega
          have hdb : ((di : Int) == 0) = false := by simp; omega
          gi_wp2
          refine ⟨trivial, (CallsIn.inRound l ((callsIn_wide).2 (some_any (HB2.out.1.zb (g17, r, q) (by simp)).2.1))).mono ?_⟩
          rintro e w14 ⟨rfl, hb14⟩
          have H14 := Lib.hid (HB2.out.1.below hb14)
          clear hb14 b0 b1 b2
          by_cases hz0 : q.z = 0
          · have hlb : l0 = lb := by have := HB2.out.2.1; rw [if_pos (Or.inr hz0)] at this; exact Option.some.inj this
            have HLB := Lib.hid hlb
            have hsg := sgn_zero hz0
            have hsb : (sgn q.z != 0) = false := by simp [hsg]
            clear hlb
            gi_wp2
            have := H14.out
            rw [HLB.out] at this
            exact HF.out _ _ _ this
          · have hsg := sgn_ne hz0
            have hsb : (sgn q.z != 0) = true := by simp [hsg]
            have h15 := HB2.out.2.1
            rw [if_neg (by rintro (e | e); exact hd0 e; exact hz0 e)] at h15
            have H15 := Lib.hid h15
            have hcn : ci ≤ n := by
              have h1 := HB2.out.2.2.1
              have h2 := HB2.out.2.2.2.2
              rw [← HP.out.2.2.2.2.2.1] at h2
              rw [← h1]
              exact Nat.lt_succ_iff.1 (Nat.div_lt_of_lt_mul h2)
            have hdn : di ≤ n := by
              have h1 := HB2.out.2.2.2.1
              have h2 := Nat.mod_lt i (show 0 < n + 1 by omega)
              omega
            have hcI : (ci : Int) ≤ 8 := by have := HP.out; omega
            have hdI : (di : Int) ≤ 8 := by have := HP.out; omega
            have HCD := Lib.hid (And.intro hcn (And.intro hdn hd0))
            clear h15 hcn hdn
            gi_wp2
            have hwc : IntKind.i64.wrap ((ci : Int) + 1) = (ci : Int) + 1 := by rw [IntKind.wrap_i64]; omega
            gi_loopw [63] (fun s wr => ∃ ja : Nat, ja ≤ ci + 1 ∧ s = .int .i64 (ja : Nat) ∧ ∃ R' l', foldO (nx2 fr (qlow ((1 : Nat) : Int) u) q n ci di) l0 ja = some l' ∧ Rn ⟨n, L, G2, g4 + 1, g9, z14, z15, bp, .int .i64 (n : Nat), .slice (some ⟨G, 0, none⟩) L L, x, y⟩ W wr R R' l' [(g17, r, q)]) (fun s _ => ci + 1 - (intOf s).toNat)
            case atStart => exact ⟨0, Nat.zero_le _, rfl, R, l0, rfl, H14.out⟩
            case round =>
              obtain ⟨ja, hja, rfl, R1, l1, hl1, hR1⟩ := hrel
              have HR1 := Lib.hid (And.intro hR1 hl1)
              by_cases hlt : ja < ci + 1
              · have hltI : (ja : Int) < (ci : Int) + 1 := by omega
                obtain ⟨la, lb2, e1, e2, e3⟩ := foldO_step H15.out hlt
                obtain rfl := Option.some.inj (hl1.symm.trans e1)
                unfold nx2 at e2
                obtain ⟨come, hcome, e4⟩ := Option.bind_eq_some_iff.1 e2
                have HJ := Lib.hid (And.intro hcome (And.intro e4 (And.intro e3 (And.intro hlt hja))))
                have c14 : wr.cell? ⟨z14, 0, none⟩ = some (.func (.func 120) #[] #[.pointer (some ⟨x.b6, 0, none⟩), .pointer (some ⟨x.b1, 0, none⟩), .pointer (some ⟨x.b3, 0, none⟩)]) := hR1.kf.cell 0
                clear hcome e4 e3 e2 e1 hR1 hl1
                gi_wp2
                refine ⟨trivial, (CallsIn.inRound l ((callsIn_wide).2 (share_any (many := ci) (so := ja) HR1.out.1.s (Nat.le_trans HCD.out.1 HP.out.2.2.2.2.1) (Nat.lt_succ_iff.1 hlt) (by have := HJ.out.1; rw [← HB.out.2.2.2.1] at this; exact this)))).mono ?_⟩
                rintro e w15 ⟨u15, rfl, hu15, a2, b2, hs2, hn2, hn3, hc2⟩
                obtain ⟨r15, rfl⟩ := hu15.r3
                have hR15 := HR1.out.1.share_x hs2 hn2 hn3 hc2
                obtain ⟨o21, ho21⟩ : ∃ o21 : Obj, o21 = .cells #[.bool r15.s, .slice r15.A r15.m r15.c, .slice r15.B r15.n r15.d] 40 := ⟨_, rfl⟩
                obtain ⟨g21, hg21⟩ : ∃ g21, w15.heap.size = g21 := ⟨_, rfl⟩
                obtain ⟨w16, hw16⟩ : ∃ w16, w15.alloc o21 = w16 := ⟨_, rfl⟩
                have hb16 : Below w15.heap.size w15 w16 := by rw [← hw16]; exact bl_allocd (Below.refl _ _) _
                have k21 : Bk w16 g21 40 r15.cells := by rw [← hw16, ← hg21, ho21]; exact Bk.newA w15 40 #[.bool r15.s, .slice r15.A r15.m r15.c, .slice r15.B r15.n r15.d]
                have HR16 := Lib.hid (hR15.box hb16 k21 (hu15.below hb16) (Nat.le_of_eq hg21))
                obtain ⟨f0, f1, f2, _, _, _⟩ := cells_rat k21
                have HQ16 := Lib.hid (hu15.below hb16)
                clear hu15 hs2 hn2 hn3 hc2 hR15 hb16 k21 c14
                unfold R3.v
                gi_wp2
                rw [← ho21, hw16]
                clear ho21 hw16
                refine ⟨trivial, (CallsIn.inRound l ((callsIn_wide).2 (some_any HQ16.out))).mono ?_⟩
                rintro e w17 ⟨rfl, hb17⟩
                have HR17 := Lib.hid (HR16.out.below hb17)
                have HQ17 := Lib.hid (HQ16.out.below hb17)
                clear hb17 f0 f1 f2
                by_cases hz1 : come.z = 0
                · have hlb : l1 = lb2 := by have := HJ.out.2.1; rw [if_pos hz1] at this; exact Option.some.inj this
                  have HLB := Lib.hid hlb
                  have hsg1 := sgn_zero hz1
                  have hsb1 : (sgn come.z != 0) = false := by simp [hsg1]
                  clear hlb
                  gi_wp2
                  have := HR17.out.drop (zs' := [(g17, r, q)]) (List.sublist_cons_self _ _)
                  rw [HLB.out] at this
                  exact ⟨⟨ja + 1, by omega, by go_num, _, _, HJ.out.2.2.1, this⟩, by simp [intOf]; omega⟩
                · have hsg1 := sgn_ne hz1
                  have hsb1 : (sgn come.z != 0) = true := by simp [hsg1]
                  have h17 := HJ.out.2.1
                  rw [if_neg hz1] at h17
                  have H17 := Lib.hid h17
                  clear h17
                  gi_wp2
                  gi_loopw [74] (fun s wr => ∃ jb : Nat, jb ≤ di ∧ s = .int .i64 (jb : Nat) ∧ ∃ R' l', foldO (nx1 (qlow ((1 : Nat) : Int) u) q come n ci di ja) l1 jb = some l' ∧ Rn ⟨n, L, G2, g4 + 1, g9, z14, z15, bp, .int .i64 (n : Nat), .slice (some ⟨G, 0, none⟩) L L, x, y⟩ W wr R R' l' [(g21, r15, come), (g17, r, q)]) (fun s _ => di - (intOf s).toNat)
                  case atStart => exact ⟨0, Nat.zero_le _, rfl, _, l1, rfl, HR17.out⟩
                  case round =>
                    obtain ⟨jb, hjb, rfl, R2, l2, hl2, hR2⟩ := hrel
                    have HR2 := Lib.hid (And.intro hR2 hl2)
                    by_cases hltb : jb < di
                    · have hltbI : (jb : Int) < (di : Int) := by omega
                      obtain ⟨lc, lc2, e1, e2, e3⟩ := foldO_step H17.out hltb
                      obtain rfl := Option.some.inj (hl2.symm.trans e1)
                      unfold nx1 at e2
                      obtain ⟨gs, hgs, e4⟩ := Option.bind_eq_some_iff.1 e2
                      obtain ⟨part, hpart, e5⟩ := Option.bind_eq_some_iff.1 e4
                      obtain ⟨old, hold, e6⟩ := Option.bind_eq_some_iff.1 e5
                      obtain ⟨nw, hnw, e7⟩ := Option.map_eq_some_iff.1 e6
                      have HK := Lib.hid (And.intro hgs (And.intro hpart (And.intro hold (And.intro hnw (And.intro e7 (And.intro e3 (And.intro hltb hjb)))))))
                      obtain ⟨d1, hd1⟩ : ∃ d1, di - 1 = d1 := ⟨_, rfl⟩
                      have hwd1 : IntKind.i64.wrap ((di : Int) - 1) = (d1 : Int) := by rw [IntKind.wrap_i64]; omega
                      have hwd2 : IntKind.i64.wrap (d1 : Int) = (d1 : Int) := by rw [IntKind.wrap_i64]; omega
                      have HD1 := Lib.hid hd1
                      have hR2d := hR2.drew
                      have c15 : wr.drew.cell? ⟨z15, 0, none⟩ = some (.func (.func 120) #[] #[.pointer (some ⟨y.b6, 0, none⟩), .pointer (some ⟨y.b1, 0, none⟩), .pointer (some ⟨y.b3, 0, none⟩)]) := hR2d.kg.cell 0
                      have k21 := bk3 (hR2d.zb (g21, r15, come) (by simp)).1
                      have k17 := bk3 (hR2d.zb (g17, r, q) (by simp)).1
                      have HS := Lib.hid (And.intro k17 (And.intro k21 c15))
                      clear hgs hpart hold hnw e7 e6 e5 e4 e3 e2 e1 hR2 hl2 hR2d k21 k17 c15 hd1
                      gi_wp2
                      have HR20 := Lib.hid HR2.out.1.drew
                      gi_cut [23] from 114 (fun s23 wx => ∃ z rM R', s23 = .pointer (some ⟨z, 0, none⟩) ∧ Rn ⟨n, L, G2, g4 + 1, g9, z14, z15, bp, .int .i64 (n : Nat), .slice (some ⟨G, 0, none⟩) L L, x, y⟩ W wx R R' l2 [(z, rM, part), (g21, r15, come), (g17, r, q)])
                      case first =>
                        -- [[
                        refine region_round (S := fun w' => (w'.cell? ⟨g17, 0, none⟩ = some (.bool r.s) ∧ w'.cell? ⟨g17, 1, none⟩ = some (.slice r.A r.m r.c) ∧ w'.cell? ⟨g17, 2, none⟩ = some (.slice r.B r.n r.d)) ∧ (w'.cell? ⟨g21, 0, none⟩ = some (.bool r15.s) ∧ w'.cell? ⟨g21, 1, none⟩ = some (.slice r15.A r15.m r15.c) ∧ w'.cell? ⟨g21, 2, none⟩ = some (.slice r15.B r15.n r15.d)) ∧ w'.cell? ⟨z15, 0, none⟩ = some (.func (.func 120) #[] #[.pointer (some ⟨y.b6, 0, none⟩), .pointer (some ⟨y.b1, 0, none⟩), .pointer (some ⟨y.b3, 0, none⟩)])) (by kernel_rfl) (by kernel_rfl) HS.out (fun hS => ?_)
                        refine wpAnyH_take (i := 0) (v := _) rfl (by kernel_rfl) (by kernel_rfl) (by kernel_rfl) (fun _ _ _ h => h) (Or.inl ⟨by rfl, fun w' hw' => by ((try dsimp only at hw'); go_split_ands; first | (go_simp; done) | (go_simp; with_reducible rfl))⟩) hS ?_
                        simp only [Act.put, List.getElem_toArray, List.getElem_cons_zero, List.getElem_cons_succ, List.setIfInBounds_toArray, List.set_cons_zero, List.set_cons_succ]
                        refine wpAnyH_take (i := 1) (v := _) rfl (by kernel_rfl) (by kernel_rfl) (by kernel_rfl) (fun _ _ _ h => h) (Or.inl ⟨by rfl, fun w' hw' => by ((try dsimp only at hw'); go_split_ands; first | (go_simp; done) | (go_simp; with_reducible rfl))⟩) hS ?_
                        simp only [Act.put, List.getElem_toArray, List.getElem_cons_zero, List.getElem_cons_succ, List.setIfInBounds_toArray, List.set_cons_zero, List.set_cons_succ]
                        refine wpAnyH_take (i := 2) (v := _) rfl (by kernel_rfl) (by kernel_rfl) (by kernel_rfl) (fun _ _ _ h => h) (Or.inl ⟨by rfl, fun w' hw' => by ((try dsimp only at hw'); go_split_ands; first | (go_simp; done) | (go_simp; with_reducible rfl))⟩) hS ?_
                        simp only [Act.put, List.getElem_toArray, List.getElem_cons_zero, List.getElem_cons_succ, List.setIfInBounds_toArray, List.set_cons_zero, List.set_cons_succ]
                        refine wpAnyH_take (i := 3) (v := _) rfl (by kernel_rfl) (by kernel_rfl) (by kernel_rfl) (fun _ _ _ h => h) (Or.inl ⟨by rfl, fun w' hw' => by ((try dsimp only at hw'); go_split_ands; first | (go_simp; done) | (go_simp; with_reducible rfl))⟩) hS ?_
                        simp only [Act.put, List.getElem_toArray, List.getElem_cons_zero, List.getElem_cons_succ, List.setIfInBounds_toArray, List.set_cons_zero, List.set_cons_succ]
                        refine wpAnyH_take (i := 4) (v := _) rfl (by kernel_rfl) (by kernel_rfl) (by kernel_rfl) (fun _ _ _ h => h) (Or.inl ⟨by rfl, fun w' hw' => by ((try dsimp only at hw'); go_split_ands; first | (go_simp; done) | (go_simp; with_reducible rfl))⟩) hS ?_
                        simp only [Act.put, List.getElem_toArray, List.getElem_cons_zero, List.getElem_cons_succ, List.setIfInBounds_toArray, List.set_cons_zero, List.set_cons_succ]
                        refine wpAnyH_take (i := 5) (v := _) rfl (by kernel_rfl) (by kernel_rfl) (by kernel_rfl) (fun _ _ _ h => h) (Or.inl ⟨by rfl, fun w' hw' => by ((try dsimp only at hw'); go_split_ands; first | (go_simp; done) | (go_simp; with_reducible rfl))⟩) hS ?_
                        simp only [Act.put, List.getElem_toArray, List.getElem_cons_zero, List.getElem_cons_succ, List.setIfInBounds_toArray, List.set_cons_zero, List.set_cons_succ]
                        refine wpAnyH_ready (rs := [6, 12]) (by kernel_rfl) (by simp) ?_
                        refine AllReadyH.cons rfl (fun K hK => ?_) ?_
                        · skip
                          simp only [List.getElem_toArray, List.getElem_cons_zero, List.getElem_cons_succ]
                          go_simp
                          refine (share_any (many := d1) (so := jb) HR20.out.u (by have := HCD.out; have := HP.out; have := HD1.out; omega) (by have := HD1.out; omega) (by have := HK.out.1; rw [HD1.out, ← HB.out.2.2.2.2] at this; exact this)).mono ?_
                          rintro e w18 ⟨u18, rfl, hu18, c18, d18, hs2, hn2, hn3, hc2⟩
                          obtain ⟨r18, rfl⟩ := hu18.r3
                          have HR1 := Lib.hid (HR20.out.share_y hs2 hn2 hn3 hc2)
                          have HV1 := Lib.hid hu18
                          clear hu18 hs2 hn2 hn3 hc2
                          unfold R3.v
                          try dsimp only
                          refine hK.out _ _ ?_ (fun hS1 => ?_)
                          · exact ⟨bk3 (HR1.out.zb (g17, r, q) (by simp)).1, bk3 (HR1.out.zb (g21, r15, come) (by simp)).1, HR1.out.kg.cell 0⟩
                          clear hK K
                          (try simp only [Act.put, List.setIfInBounds_toArray, List.set_cons_zero, List.set_cons_succ])
                          refine wpAnyH_ready (rs := [7, 12]) (by kernel_rfl) (by simp) ?_
                          refine AllReadyH.cons rfl (fun K hK => ?_) ?_
                          · skip
                            simp only [List.getElem_toArray, List.getElem_cons_zero, List.getElem_cons_succ]
                            go_simp
                            have HQ2 := Lib.hid (QR.new3' (HR1.out.zb (g17, r, q) (by simp)).2.1 (HR1.out.zb (g21, r15, come) (by simp)).2.1 HV1.out rfl)
                            have HR2 := Lib.hid (HR1.out.allocd (.cells #[.bool r.s, .slice r.A r.m r.c, .slice r.B r.n r.d, .bool r15.s, .slice r15.A r15.m r15.c, .slice r15.B r15.n r15.d, .bool r18.s, .slice r18.A r18.m r18.c, .slice r18.B r18.n r18.d] 40))
                            refine hK.out _ _ ?_ (fun hS2 => ?_)
                            · exact ⟨bk3 (HR2.out.zb (g17, r, q) (by simp)).1, bk3 (HR2.out.zb (g21, r15, come) (by simp)).1, HR2.out.kg.cell 0⟩
                            clear hK K
                            (try simp only [Act.put, List.setIfInBounds_toArray, List.set_cons_zero, List.set_cons_succ])
                            refine wpAnyH_ready (rs := [8, 12]) (by kernel_rfl) (by simp) ?_
                            refine AllReadyH.cons rfl (fun K hK => ?_) ?_
                            · skip
                              simp only [List.getElem_toArray, List.getElem_cons_zero, List.getElem_cons_succ]
                              go_simp
                              refine (mul_o (qs := [q, come, gs]) HQ2.out (by decide) (Nat.le_refl _) HK.out.2.1).mono ?_
                              rintro e w19 ⟨v19, rfl, hv19, hb19⟩
                              obtain ⟨rM, rfl⟩ := hv19.r3
                              have HR3 := Lib.hid (HR2.out.below hb19)
                              have HM3 := Lib.hid hv19
                              clear hv19 hb19
                              unfold R3.v
                              try dsimp only
                              refine hK.out _ _ ?_ (fun hS3 => ?_)
                              · exact ⟨bk3 (HR3.out.zb (g17, r, q) (by simp)).1, bk3 (HR3.out.zb (g21, r15, come) (by simp)).1, HR3.out.kg.cell 0⟩
                              clear hK K
                              (try simp only [Act.put, List.setIfInBounds_toArray, List.set_cons_zero, List.set_cons_succ])
                              refine wpAnyH_take (i := 9) (v := _) rfl (by kernel_rfl) (by kernel_rfl) (by kernel_rfl) (fun _ _ _ h => h) (Or.inl ⟨by rfl, fun w' hw' => by ((try dsimp only at hw'); go_split_ands; first | (go_simp; done) | (go_simp; with_reducible rfl))⟩) hS3 ?_
                              simp only [Act.put, List.getElem_toArray, List.getElem_cons_zero, List.getElem_cons_succ, List.setIfInBounds_toArray, List.set_cons_zero, List.set_cons_succ]
                              refine wpAnyH_take (i := 10) (v := _) rfl (by kernel_rfl) (by kernel_rfl) (by kernel_rfl) (fun _ _ _ h => h) (Or.inl ⟨by rfl, fun w' hw' => by ((try dsimp only at hw'); go_split_ands; first | (go_simp; done) | (go_simp; with_reducible rfl))⟩) hS3 ?_
                              simp only [Act.put, List.getElem_toArray, List.getElem_cons_zero, List.getElem_cons_succ, List.setIfInBounds_toArray, List.set_cons_zero, List.set_cons_succ]
                              refine wpAnyH_take (i := 11) (v := _) rfl (by kernel_rfl) (by kernel_rfl) (by kernel_rfl) (fun _ _ _ h => h) (Or.inl ⟨by rfl, fun w' hw' => by ((try dsimp only at hw'); go_split_ands; first | (go_simp; done) | (go_simp; with_reducible rfl))⟩) hS3 ?_
                              simp only [Act.put, List.getElem_toArray, List.getElem_cons_zero, List.getElem_cons_succ, List.setIfInBounds_toArray, List.set_cons_zero, List.set_cons_succ]
                              refine wpAnyH_ready (rs := [12]) (by kernel_rfl) (by simp) ?_
                              refine AllReadyH.cons rfl (fun K hK => ?_) AllReadyH.nil
                              simp only [List.getElem_toArray, List.getElem_cons_zero, List.getElem_cons_succ]
                              go_simp
                              have HZ4 := Lib.hid (show W.heap.size ≤ w19.heap.size from HR3.out.chg.size)
                              have HR4 := Lib.hid (HR3.out.box (z := w19.heap.size) (r := R3.zero) (q := ⟨0, 0⟩) (bl_allocd (Below.refl _ _) (.cells #[.bool false, .slice none 0 0, .slice none 0 0] 40)) (Bk.newA _ 40 #[.bool false, .slice none 0 0, .slice none 0 0]) (qv_zero _) (Nat.le_refl _))
                              refine hK.out _ _ ?_ (fun hS4 => ?_)
                              · exact ⟨bk3 (HR4.out.zb (g17, r, q) (by simp)).1, bk3 (HR4.out.zb (g21, r15, come) (by simp)).1, HR4.out.kg.cell 0⟩
                              clear hK K
                              (try simp only [Act.put, List.setIfInBounds_toArray, List.set_cons_zero, List.set_cons_succ])
                              refine wpAnyH_ready (rs := [13]) (by kernel_rfl) (by simp) ?_
                              refine AllReadyH.cons rfl (fun K hK => ?_) AllReadyH.nil
                              simp only [List.getElem_toArray, List.getElem_cons_zero, List.getElem_cons_succ]
                              go_simp
                              have HR5 := Lib.hid (HR3.out.box (bl_allocd (Below.refl _ _) (.cells #[.bool rM.s, .slice rM.A rM.m rM.c, .slice rM.B rM.n rM.d] 40)) (Bk.newA _ 40 #[.bool rM.s, .slice rM.A rM.m rM.c, .slice rM.B rM.n rM.d]) (HM3.out.allocd _) (Nat.le_refl _))
                              refine hK.out _ _ ?_ (fun hS5 => ?_)
                              · exact ⟨bk3 (HR5.out.zb (g17, r, q) (by simp)).1, bk3 (HR5.out.zb (g21, r15, come) (by simp)).1, HR5.out.kg.cell 0⟩
                              clear hK K
                              (try simp only [Act.put, List.setIfInBounds_toArray, List.set_cons_zero, List.set_cons_succ])
                              refine wpAnyH_take (i := 14) (v := _) rfl (by kernel_rfl) (by kernel_rfl) (by kernel_rfl) (fun _ _ _ h => h) (Or.inl ⟨by rfl, fun w' hw' => by ((try dsimp only at hw'); go_split_ands; first | (go_simp; done) | (go_simp; with_reducible rfl))⟩) hS5 ?_
                              simp only [Act.put, List.getElem_toArray, List.getElem_cons_zero, List.getElem_cons_succ, List.setIfInBounds_toArray, List.set_cons_zero, List.set_cons_succ]
                              refine wpAnyH_done (by kernel_rfl) ?_ _
                              simp only [NormR, Exit.then]
                              gi_wp2
                              gi_meet
                              exact ⟨_, rM, _, rfl, HR5.out⟩
                            refine AllReadyH.cons rfl (fun K hK => ?_) AllReadyH.nil
                            simp only [List.getElem_toArray, List.getElem_cons_zero, List.getElem_cons_succ]
                            go_simp
                            have HZ3 := Lib.hid (show W.heap.size ≤ w18.heap.size + 1 from Nat.le_succ_of_le HR1.out.chg.size)
                            have HR3 := Lib.hid (HR2.out.box (z := w18.heap.size + 1) (r := R3.zero) (q := ⟨0, 0⟩) (bl_allocd (Below.refl _ _) (.cells #[.bool false, .slice none 0 0, .slice none 0 0] 40)) (Bk.new2 w18 _ 40 #[.bool false, .slice none 0 0, .slice none 0 0]) (qv_zero _) (by rw [World.size_alloc]; exact Nat.le_refl _))
                            refine hK.out _ _ ?_ (fun hS3 => ?_)
                            · exact ⟨bk3 (HR3.out.zb (g17, r, q) (by simp)).1, bk3 (HR3.out.zb (g21, r15, come) (by simp)).1, HR3.out.kg.cell 0⟩
                            clear hK K
                            (try simp only [Act.put, List.setIfInBounds_toArray, List.set_cons_zero, List.set_cons_succ])
                            refine wpAnyH_ready (rs := [8]) (by kernel_rfl) (by simp) ?_
                            refine AllReadyH.cons rfl (fun K hK => ?_) AllReadyH.nil
                            simp only [List.getElem_toArray, List.getElem_cons_zero, List.getElem_cons_succ]
                            go_simp
                            refine (mul_o (qs := [q, come, gs]) (HQ2.out.allocd (.cells #[.bool false, .slice none 0 0, .slice none 0 0] 40)) (by decide) (Nat.le_refl _) HK.out.2.1).mono ?_
                            rintro e w19 ⟨v19, rfl, hv19, hb19⟩
                            obtain ⟨rM, rfl⟩ := hv19.r3
                            have HR4 := Lib.hid (HR3.out.below hb19)
                            have HM4 := Lib.hid hv19
                            clear hv19 hb19
                            unfold R3.v
                            try dsimp only
                            refine hK.out _ _ ?_ (fun hS4 => ?_)
                            · exact ⟨bk3 (HR4.out.zb (g17, r, q) (by simp)).1, bk3 (HR4.out.zb (g21, r15, come) (by simp)).1, HR4.out.kg.cell 0⟩
                            clear hK K
                            (try simp only [Act.put, List.setIfInBounds_toArray, List.set_cons_zero, List.set_cons_succ])
                            refine wpAnyH_take (i := 9) (v := _) rfl (by kernel_rfl) (by kernel_rfl) (by kernel_rfl) (fun _ _ _ h => h) (Or.inl ⟨by rfl, fun w' hw' => by ((try dsimp only at hw'); go_split_ands; first | (go_simp; done) | (go_simp; with_reducible rfl))⟩) hS4 ?_
                            simp only [Act.put, List.getElem_toArray, List.getElem_cons_zero, List.getElem_cons_succ, List.setIfInBounds_toArray, List.set_cons_zero, List.set_cons_succ]
                            refine wpAnyH_take (i := 10) (v := _) rfl (by kernel_rfl) (by kernel_rfl) (by kernel_rfl) (fun _ _ _ h => h) (Or.inl ⟨by rfl, fun w' hw' => by ((try dsimp only at hw'); go_split_ands; first | (go_simp; done) | (go_simp; with_reducible rfl))⟩) hS4 ?_
                            simp only [Act.put, List.getElem_toArray, List.getElem_cons_zero, List.getElem_cons_succ, List.setIfInBounds_toArray, List.set_cons_zero, List.set_cons_succ]
                            refine wpAnyH_take (i := 11) (v := _) rfl (by kernel_rfl) (by kernel_rfl) (by kernel_rfl) (fun _ _ _ h => h) (Or.inl ⟨by rfl, fun w' hw' => by ((try dsimp only at hw'); go_split_ands; first | (go_simp; done) | (go_simp; with_reducible rfl))⟩) hS4 ?_
                            simp only [Act.put, List.getElem_toArray, List.getElem_cons_zero, List.getElem_cons_succ, List.setIfInBounds_toArray, List.set_cons_zero, List.set_cons_succ]
                            refine wpAnyH_ready (rs := [13]) (by kernel_rfl) (by simp) ?_
                            refine AllReadyH.cons rfl (fun K hK => ?_) AllReadyH.nil
                            obtain ⟨z0, z1, z2, y0, y1, y2⟩ := cells_rat HR4.out.top
                            simp only [List.getElem_toArray, List.getElem_cons_zero, List.getElem_cons_succ]
                            go_simp
                            have HR5 := Lib.hid (HR4.out.fill HM4.out HZ3.out)
                            refine hK.out _ _ ?_ (fun hS5 => ?_)
                            · exact ⟨bk3 (HR5.out.zb (g17, r, q) (by simp)).1, bk3 (HR5.out.zb (g21, r15, come) (by simp)).1, HR5.out.kg.cell 0⟩
                            clear hK K
                            (try simp only [Act.put, List.setIfInBounds_toArray, List.set_cons_zero, List.set_cons_succ])
                            refine wpAnyH_take (i := 14) (v := _) rfl (by kernel_rfl) (by kernel_rfl) (by kernel_rfl) (fun _ _ _ h => h) (Or.inl ⟨by rfl, fun w' hw' => by ((try dsimp only at hw'); go_split_ands; first | (go_simp; done) | (go_simp; with_reducible rfl))⟩) hS5 ?_
                            simp only [Act.put, List.getElem_toArray, List.getElem_cons_zero, List.getElem_cons_succ, List.setIfInBounds_toArray, List.set_cons_zero, List.set_cons_succ]
                            refine wpAnyH_done (by kernel_rfl) ?_ _
                            simp only [NormR, Exit.then]
                            gi_wp2
                            gi_meet
                            exact ⟨_, rM, _, rfl, HR5.out⟩
                          refine AllReadyH.cons rfl (fun K hK => ?_) AllReadyH.nil
                          simp only [List.getElem_toArray, List.getElem_cons_zero, List.getElem_cons_succ]
                          go_simp
                          have HZ2 := Lib.hid (show W.heap.size ≤ w18.heap.size from HR1.out.chg.size)
                          have HR2 := Lib.hid (HR1.out.box (z := w18.heap.size) (r := R3.zero) (q := ⟨0, 0⟩) (bl_allocd (Below.refl _ _) (.cells #[.bool false, .slice none 0 0, .slice none 0 0] 40)) (Bk.newA _ 40 #[.bool false, .slice none 0 0, .slice none 0 0]) (qv_zero _) (Nat.le_refl _))
                          have HV2 := Lib.hid (HV1.out.allocd (.cells #[.bool false, .slice none 0 0, .slice none 0 0] 40))
                          refine hK.out _ _ ?_ (fun hS2 => ?_)
                          · exact ⟨bk3 (HR2.out.zb (g17, r, q) (by simp)).1, bk3 (HR2.out.zb (g21, r15, come) (by simp)).1, HR2.out.kg.cell 0⟩
                          clear hK K
                          (try simp only [Act.put, List.setIfInBounds_toArray, List.set_cons_zero, List.set_cons_succ])
                          refine wpAnyH_ready (rs := [7]) (by kernel_rfl) (by simp) ?_
                          refine AllReadyH.cons rfl (fun K hK => ?_) AllReadyH.nil
                          simp only [List.getElem_toArray, List.getElem_cons_zero, List.getElem_cons_succ]
                          go_simp
                          have HQ3 := Lib.hid (QR.new3' (HR2.out.zb (g17, r, q) (by simp)).2.1 (HR2.out.zb (g21, r15, come) (by simp)).2.1 HV2.out (show w18.heap.size + 1 = _ from (World.size_alloc _ _).symm))
                          have HR3 := Lib.hid (HR2.out.allocd (.cells #[.bool r.s, .slice r.A r.m r.c, .slice r.B r.n r.d, .bool r15.s, .slice r15.A r15.m r15.c, .slice r15.B r15.n r15.d, .bool r18.s, .slice r18.A r18.m r18.c, .slice r18.B r18.n r18.d] 40))
                          refine hK.out _ _ ?_ (fun hS3 => ?_)
                          · exact ⟨bk3 (HR3.out.zb (g17, r, q) (by simp)).1, bk3 (HR3.out.zb (g21, r15, come) (by simp)).1, HR3.out.kg.cell 0⟩
                          clear hK K
                          (try simp only [Act.put, List.setIfInBounds_toArray, List.set_cons_zero, List.set_cons_succ])
                          refine wpAnyH_ready (rs := [8]) (by kernel_rfl) (by simp) ?_
                          refine AllReadyH.cons rfl (fun K hK => ?_) AllReadyH.nil
                          simp only [List.getElem_toArray, List.getElem_cons_zero, List.getElem_cons_succ]
                          go_simp
                          refine (mul_o (qs := [q, come, gs]) HQ3.out (by decide) (Nat.le_refl _) HK.out.2.1).mono ?_
                          rintro e w19 ⟨v19, rfl, hv19, hb19⟩
                          obtain ⟨rM, rfl⟩ := hv19.r3
                          have HR4 := Lib.hid (HR3.out.below hb19)
                          have HM4 := Lib.hid hv19
                          clear hv19 hb19
                          unfold R3.v
                          try dsimp only
                          refine hK.out _ _ ?_ (fun hS4 => ?_)
                          · exact ⟨bk3 (HR4.out.zb (g17, r, q) (by simp)).1, bk3 (HR4.out.zb (g21, r15, come) (by simp)).1, HR4.out.kg.cell 0⟩
                          clear hK K
                          (try simp only [Act.put, List.setIfInBounds_toArray, List.set_cons_zero, List.set_cons_succ])
                          refine wpAnyH_take (i := 9) (v := _) rfl (by kernel_rfl) (by kernel_rfl) (by kernel_rfl) (fun _ _ _ h => h) (Or.inl ⟨by rfl, fun w' hw' => by ((try dsimp only at hw'); go_split_ands; first | (go_simp; done) | (go_simp; with_reducible rfl))⟩) hS4 ?_
                          simp only [Act.put, List.getElem_toArray, List.getElem_cons_zero, List.getElem_cons_succ, List.setIfInBounds_toArray, List.set_cons_zero, List.set_cons_succ]
                          refine wpAnyH_take (i := 10) (v := _) rfl (by kernel_rfl) (by kernel_rfl) (by kernel_rfl) (fun _ _ _ h => h) (Or.inl ⟨by rfl, fun w' hw' => by ((try dsimp only at hw'); go_split_ands; first | (go_simp; done) | (go_simp; with_reducible rfl))⟩) hS4 ?_
                          simp only [Act.put, List.getElem_toArray, List.getElem_cons_zero, List.getElem_cons_succ, List.setIfInBounds_toArray, List.set_cons_zero, List.set_cons_succ]
                          refine wpAnyH_take (i := 11) (v := _) rfl (by kernel_rfl) (by kernel_rfl) (by kernel_rfl) (fun _ _ _ h => h) (Or.inl ⟨by rfl, fun w' hw' => by ((try dsimp only at hw'); go_split_ands; first | (go_simp; done) | (go_simp; with_reducible rfl))⟩) hS4 ?_
                          simp only [Act.put, List.getElem_toArray, List.getElem_cons_zero, List.getElem_cons_succ, List.setIfInBounds_toArray, List.set_cons_zero, List.set_cons_succ]
                          refine wpAnyH_ready (rs := [13]) (by kernel_rfl) (by simp) ?_
                          refine AllReadyH.cons rfl (fun K hK => ?_) AllReadyH.nil
                          obtain ⟨z0, z1, z2, y0, y1, y2⟩ := cells_rat HR4.out.top
                          simp only [List.getElem_toArray, List.getElem_cons_zero, List.getElem_cons_succ]
                          go_simp
                          have HR5 := Lib.hid (HR4.out.fill HM4.out HZ2.out)
                          refine hK.out _ _ ?_ (fun hS5 => ?_)
                          · exact ⟨bk3 (HR5.out.zb (g17, r, q) (by simp)).1, bk3 (HR5.out.zb (g21, r15, come) (by simp)).1, HR5.out.kg.cell 0⟩
                          clear hK K
                          (try simp only [Act.put, List.setIfInBounds_toArray, List.set_cons_zero, List.set_cons_succ])
                          refine wpAnyH_take (i := 14) (v := _) rfl (by kernel_rfl) (by kernel_rfl) (by kernel_rfl) (fun _ _ _ h => h) (Or.inl ⟨by rfl, fun w' hw' => by ((try dsimp only at hw'); go_split_ands; first | (go_simp; done) | (go_simp; with_reducible rfl))⟩) hS5 ?_
                          simp only [Act.put, List.getElem_toArray, List.getElem_cons_zero, List.getElem_cons_succ, List.setIfInBounds_toArray, List.set_cons_zero, List.set_cons_succ]
                          refine wpAnyH_done (by kernel_rfl) ?_ _
                          simp only [NormR, Exit.then]
                          gi_wp2
                          gi_meet
                          exact ⟨_, rM, _, rfl, HR5.out⟩
                        refine AllReadyH.cons rfl (fun K hK => ?_) AllReadyH.nil
                        simp only [List.getElem_toArray, List.getElem_cons_zero, List.getElem_cons_succ]
                        go_simp
                        have HZ1 := Lib.hid (show W.heap.size ≤ wr.heap.size from HR20.out.chg.size)
                        have HR1 := Lib.hid (HR20.out.box (z := wr.heap.size) (r := R3.zero) (q := ⟨0, 0⟩) (bl_allocd (Below.refl _ _) (.cells #[.bool false, .slice none 0 0, .slice none 0 0] 40)) (Bk.newA _ 40 #[.bool false, .slice none 0 0, .slice none 0 0]) (qv_zero _) (Nat.le_refl _))
                        refine hK.out _ _ ?_ (fun hS1 => ?_)
                        · exact ⟨bk3 (HR1.out.zb (g17, r, q) (by simp)).1, bk3 (HR1.out.zb (g21, r15, come) (by simp)).1, HR1.out.kg.cell 0⟩
                        clear hK K
                        (try simp only [Act.put, List.setIfInBounds_toArray, List.set_cons_zero, List.set_cons_succ])
                        refine wpAnyH_ready (rs := [6]) (by kernel_rfl) (by simp) ?_
                        refine AllReadyH.cons rfl (fun K hK => ?_) AllReadyH.nil
                        simp only [List.getElem_toArray, List.getElem_cons_zero, List.getElem_cons_succ]
                        go_simp
                        refine (share_any (many := d1) (so := jb) HR1.out.u (by have := HCD.out; have := HP.out; have := HD1.out; omega) (by have := HD1.out; omega) (by have := HK.out.1; rw [HD1.out, ← HB.out.2.2.2.2] at this; exact this)).mono ?_
                        rintro e w18 ⟨u18, rfl, hu18, c18, d18, hs2, hn2, hn3, hc2⟩
                        obtain ⟨r18, rfl⟩ := hu18.r3
                        have HR2 := Lib.hid (HR1.out.share_y hs2 hn2 hn3 hc2)
                        have HV2 := Lib.hid hu18
                        clear hu18 hs2 hn2 hn3 hc2
                        unfold R3.v
                        try dsimp only
                        refine hK.out _ _ ?_ (fun hS2 => ?_)
                        · exact ⟨bk3 (HR2.out.zb (g17, r, q) (by simp)).1, bk3 (HR2.out.zb (g21, r15, come) (by simp)).1, HR2.out.kg.cell 0⟩
                        clear hK K
                        (try simp only [Act.put, List.setIfInBounds_toArray, List.set_cons_zero, List.set_cons_succ])
                        refine wpAnyH_ready (rs := [7]) (by kernel_rfl) (by simp) ?_
                        refine AllReadyH.cons rfl (fun K hK => ?_) AllReadyH.nil
                        simp only [List.getElem_toArray, List.getElem_cons_zero, List.getElem_cons_succ]
                        go_simp
                        have HQ3 := Lib.hid (QR.new3' (HR2.out.zb (g17, r, q) (by simp)).2.1 (HR2.out.zb (g21, r15, come) (by simp)).2.1 HV2.out rfl)
                        have HR3 := Lib.hid (HR2.out.allocd (.cells #[.bool r.s, .slice r.A r.m r.c, .slice r.B r.n r.d, .bool r15.s, .slice r15.A r15.m r15.c, .slice r15.B r15.n r15.d, .bool r18.s, .slice r18.A r18.m r18.c, .slice r18.B r18.n r18.d] 40))
                        refine hK.out _ _ ?_ (fun hS3 => ?_)
                        · exact ⟨bk3 (HR3.out.zb (g17, r, q) (by simp)).1, bk3 (HR3.out.zb (g21, r15, come) (by simp)).1, HR3.out.kg.cell 0⟩
                        clear hK K
                        (try simp only [Act.put, List.setIfInBounds_toArray, List.set_cons_zero, List.set_cons_succ])
                        refine wpAnyH_ready (rs := [8]) (by kernel_rfl) (by simp) ?_
                        refine AllReadyH.cons rfl (fun K hK => ?_) AllReadyH.nil
                        simp only [List.getElem_toArray, List.getElem_cons_zero, List.getElem_cons_succ]
                        go_simp
                        refine (mul_o (qs := [q, come, gs]) HQ3.out (by decide) (Nat.le_refl _) HK.out.2.1).mono ?_
                        rintro e w19 ⟨v19, rfl, hv19, hb19⟩
                        obtain ⟨rM, rfl⟩ := hv19.r3
                        have HR4 := Lib.hid (HR3.out.below hb19)
                        have HM4 := Lib.hid hv19
                        clear hv19 hb19
                        unfold R3.v
                        try dsimp only
                        refine hK.out _ _ ?_ (fun hS4 => ?_)
                        · exact ⟨bk3 (HR4.out.zb (g17, r, q) (by simp)).1, bk3 (HR4.out.zb (g21, r15, come) (by simp)).1, HR4.out.kg.cell 0⟩
                        clear hK K
                        (try simp only [Act.put, List.setIfInBounds_toArray, List.set_cons_zero, List.set_cons_succ])
                        refine wpAnyH_take (i := 9) (v := _) rfl (by kernel_rfl) (by kernel_rfl) (by kernel_rfl) (fun _ _ _ h => h) (Or.inl ⟨by rfl, fun w' hw' => by ((try dsimp only at hw'); go_split_ands; first | (go_simp; done) | (go_simp; with_reducible rfl))⟩) hS4 ?_
                        simp only [Act.put, List.getElem_toArray, List.getElem_cons_zero, List.getElem_cons_succ, List.setIfInBounds_toArray, List.set_cons_zero, List.set_cons_succ]
                        refine wpAnyH_take (i := 10) (v := _) rfl (by kernel_rfl) (by kernel_rfl) (by kernel_rfl) (fun _ _ _ h => h) (Or.inl ⟨by rfl, fun w' hw' => by ((try dsimp only at hw'); go_split_ands; first | (go_simp; done) | (go_simp; with_reducible rfl))⟩) hS4 ?_
                        simp only [Act.put, List.getElem_toArray, List.getElem_cons_zero, List.getElem_cons_succ, List.setIfInBounds_toArray, List.set_cons_zero, List.set_cons_succ]
                        refine wpAnyH_take (i := 11) (v := _) rfl (by kernel_rfl) (by kernel_rfl) (by kernel_rfl) (fun _ _ _ h => h) (Or.inl ⟨by rfl, fun w' hw' => by ((try dsimp only at hw'); go_split_ands; first | (go_simp; done) | (go_simp; with_reducible rfl))⟩) hS4 ?_
                        simp only [Act.put, List.getElem_toArray, List.getElem_cons_zero, List.getElem_cons_succ, List.setIfInBounds_toArray, List.set_cons_zero, List.set_cons_succ]
                        refine wpAnyH_ready (rs := [13]) (by kernel_rfl) (by simp) ?_
                        refine AllReadyH.cons rfl (fun K hK => ?_) AllReadyH.nil
                        obtain ⟨z0, z1, z2, y0, y1, y2⟩ := cells_rat HR4.out.top
                        simp only [List.getElem_toArray, List.getElem_cons_zero, List.getElem_cons_succ]
                        go_simp
                        have HR5 := Lib.hid (HR4.out.fill HM4.out HZ1.out)
                        refine hK.out _ _ ?_ (fun hS5 => ?_)
                        · exact ⟨bk3 (HR5.out.zb (g17, r, q) (by simp)).1, bk3 (HR5.out.zb (g21, r15, come) (by simp)).1, HR5.out.kg.cell 0⟩
                        clear hK K
                        (try simp only [Act.put, List.setIfInBounds_toArray, List.set_cons_zero, List.set_cons_succ])
                        refine wpAnyH_take (i := 14) (v := _) rfl (by kernel_rfl) (by kernel_rfl) (by kernel_rfl) (fun _ _ _ h => h) (Or.inl ⟨by rfl, fun w' hw' => by ((try dsimp only at hw'); go_split_ands; first | (go_simp; done) | (go_simp; with_reducible rfl))⟩) hS5 ?_
                        simp only [Act.put, List.getElem_toArray, List.getElem_cons_zero, List.getElem_cons_succ, List.setIfInBounds_toArray, List.set_cons_zero, List.set_cons_succ]
                        refine wpAnyH_done (by kernel_rfl) ?_ _
                        simp only [NormR, Exit.then]
                        gi_wp2
                        gi_meet
                        exact ⟨_, rM, _, rfl, HR5.out⟩
                        -- ]]
                      case rest =>
                        obtain ⟨z, rM, R3', rfl, hR3⟩ := hcut
                        have HR3 := Lib.hid hR3
                        obtain ⟨j0, j1, _, _⟩ := cells2 (show Bk wc g9 60 [.int .i64 (n : Nat), .slice (some ⟨G2, 0, none⟩) L L] from hR3.k9)
                        obtain ⟨ca, hca⟩ : ∃ ca, ci - ja = ca := ⟨_, rfl⟩
                        obtain ⟨ed, hed⟩ : ∃ ed, d1 - jb = ed := ⟨_, rfl⟩
                        have hd1' := HD1.out
                        have hja' := HJ.out.2.2.2.1
                        have hwca : IntKind.i64.wrap ((ci : Int) - (ja : Int)) = (ca : Int) := by rw [IntKind.wrap_i64]; omega
                        have hwca2 : IntKind.i64.wrap (ca : Int) = (ca : Int) := by rw [IntKind.wrap_i64]; omega
                        have hwed : IntKind.i64.wrap ((d1 : Int) - (jb : Int)) = (ed : Int) := by rw [IntKind.wrap_i64]; omega
                        have hwed2 : IntKind.i64.wrap (ed : Int) = (ed : Int) := by rw [IntKind.wrap_i64]; omega
                        have hwfd : IntKind.i64.wrap ((ed : Int) + (ja : Int)) = ((ed + ja : Nat) : Int) := by rw [IntKind.wrap_i64]; omega
                        obtain ⟨fd, hfd⟩ : ∃ fd, ed + ja = fd := ⟨_, rfl⟩
                        rw [hfd] at hwfd
                        have hwfd2 : IntKind.i64.wrap (fd : Int) = (fd : Int) := by rw [IntKind.wrap_i64]; omega
                        obtain ⟨ix, hix⟩ : ∃ ix, ca * (n + 1) + fd = ix := ⟨_, rfl⟩
                        have hold := HK.out.2.2.1
                        have he7 := HK.out.2.2.2.2.1
                        rw [HD1.out, hca, hed, hfd, hix] at hold he7
                        obtain ⟨hixl, hold2⟩ := List.getElem?_eq_some_iff.1 hold
                        have hl2L : l2.length = L := by rw [foldO_len (fun i a b h => nx1_len h) HR2.out.2, foldO_len (fun i a b h => nx2_len h) HR1.out.2, HN.out]
                        have HI2 := Lib.hid (And.intro hixl (And.intro (show ∀ h : ix < l2.length, l2[ix]'h = old from fun _ => hold2) (And.intro he7 (And.intro hix (by rw [hix, ← hl2L]; exact hixl : ca * (n + 1) + fd < L)))))
                        clear hR3 hold he7 hixl hold2 hl2L hix hca hed hfd hd1' hja'
                        gi_wp2
                        refine ⟨trivial, (CallsIn.inRound l ((callsIn_wide).2 (at_any HP.out.2.2.2.2.1 HP.out.2.2.2.2.2.1 HI2.out.2.2.2.2))).mono ?_⟩
                        rintro e w20 ⟨he, hb20⟩
                        rw [HI2.out.2.2.2.1] at he
                        subst he
                        have HR4 := Lib.hid ((HR3.out.below hb20).drew)
                        clear hb20 j0 j1
                        gi_wp2
                        obtain ⟨xo, hxo, g0, g1, g2, h0, h1, h2⟩ := HR4.out.gb.form (i := ix) HI2.out.1
                        rw [HI2.out.2.1 HI2.out.1] at hxo
                        have HXO := Lib.hid hxo
                        have kz := bk3 HR4.out.top
                        have HS2 := Lib.hid (And.intro (And.intro g0 (And.intro g1 g2)) kz)
                        have HFz := Lib.hid (And.intro h0 (And.intro h1 h2))
                        clear hxo g0 g1 g2 h0 h1 h2 kz
                        refine region_round (S := fun w' => w'.cell? ⟨z, 0, none⟩ = some (.bool rM.s) ∧ w'.cell? ⟨z, 1, none⟩ = some (.slice rM.A rM.m rM.c) ∧ w'.cell? ⟨z, 2, none⟩ = some (.slice rM.B rM.n rM.d)) (by kernel_rfl) (by kernel_rfl) HS2.out.2 (fun hS => ?_)
                        refine wpAnyH_take (i := 0) (v := _) rfl (by kernel_rfl) (by kernel_rfl) (by kernel_rfl) (fun _ _ _ h => h) (Or.inl ⟨by rfl, fun w' hw' => by ((try dsimp only at hw'); go_split_ands; first | (go_simp; done) | (go_simp; with_reducible rfl))⟩) hS ?_
                        simp only [Act.put, List.getElem_toArray, List.getElem_cons_zero, List.getElem_cons_succ, List.setIfInBounds_toArray, List.set_cons_zero, List.set_cons_succ]
                        refine wpAnyH_take (i := 1) (v := _) rfl (by kernel_rfl) (by kernel_rfl) (by kernel_rfl) (fun _ _ _ h => h) (Or.inl ⟨by rfl, fun w' hw' => by ((try dsimp only at hw'); go_split_ands; first | (go_simp; done) | (go_simp; with_reducible rfl))⟩) hS ?_
                        simp only [Act.put, List.getElem_toArray, List.getElem_cons_zero, List.getElem_cons_succ, List.setIfInBounds_toArray, List.set_cons_zero, List.set_cons_succ]
                        refine wpAnyH_take (i := 2) (v := _) rfl (by kernel_rfl) (by kernel_rfl) (by kernel_rfl) (fun _ _ _ h => h) (Or.inl ⟨by rfl, fun w' hw' => by ((try dsimp only at hw'); go_split_ands; first | (go_simp; done) | (go_simp; with_reducible rfl))⟩) hS ?_
                        simp only [Act.put, List.getElem_toArray, List.getElem_cons_zero, List.getElem_cons_succ, List.setIfInBounds_toArray, List.set_cons_zero, List.set_cons_succ]
                        refine wpAnyH_take (i := 4) (v := _) rfl (by kernel_rfl) (by kernel_rfl) (by kernel_rfl) (fun _ _ _ h => h) (Or.inl ⟨by rfl, fun w' hw' => by ((try dsimp only at hw'); go_split_ands; first | (go_simp; done) | (go_simp; with_reducible rfl))⟩) hS ?_
                        simp only [Act.put, List.getElem_toArray, List.getElem_cons_zero, List.getElem_cons_succ, List.setIfInBounds_toArray, List.set_cons_zero, List.set_cons_succ]
                        obtain ⟨g0, g1, g2⟩ := HS2.out.1
                        refine wpAnyH_ready (rs := [3]) (by kernel_rfl) (by simp) ?_
                        refine AllReadyH.cons rfl (fun K hK => ?_) AllReadyH.nil
                        simp only [List.getElem_toArray, List.getElem_cons_zero, List.getElem_cons_succ]
                        go_simp
                        refine hK.out _ _ ?_ (fun hS1 => ?_)
                        · exact bk3 HR4.out.top
                        clear hK K
                        (try simp only [Act.put, List.setIfInBounds_toArray, List.set_cons_zero, List.set_cons_succ])
                        clear g0 g1 g2
                        refine wpAnyH_ready (rs := [5]) (by kernel_rfl) (by simp) ?_
                        refine AllReadyH.cons rfl (fun K hK => ?_) AllReadyH.nil
                        simp only [List.getElem_toArray, List.getElem_cons_zero, List.getElem_cons_succ]
                        go_simp
                        have HQ5 := Lib.hid (QR.new2' HXO.out (HR4.out.zb (z, rM, part) (by simp)).2.1 rfl)
                        have HR5 := Lib.hid (HR4.out.allocd (.cells #[.bool xo.s, .slice xo.A xo.m xo.c, .slice xo.B xo.n xo.d, .bool rM.s, .slice rM.A rM.m rM.c, .slice rM.B rM.n rM.d] 40))
                        refine hK.out _ _ ?_ (fun hS2 => ?_)
                        · exact bk3 HR5.out.top
                        clear hK K
                        (try simp only [Act.put, List.setIfInBounds_toArray, List.set_cons_zero, List.set_cons_succ])
                        refine wpAnyH_ready (rs := [6]) (by kernel_rfl) (by simp) ?_
                        refine AllReadyH.cons rfl (fun K hK => ?_) AllReadyH.nil
                        simp only [List.getElem_toArray, List.getElem_cons_zero, List.getElem_cons_succ]
                        go_simp
                        refine (add_o (qs := [old, part]) HQ5.out (by decide) (Nat.le_refl _) HK.out.2.2.2.1).mono ?_
                        rintro e w22 ⟨v22, rfl, hv22, hb22⟩
                        obtain ⟨rN, rfl⟩ := hv22.r3
                        have HR6 := Lib.hid (HR5.out.below hb22)
                        have HV6 := Lib.hid hv22
                        clear hv22 hb22
                        unfold R3.v
                        try dsimp only
                        refine hK.out _ _ ?_ (fun hS3 => ?_)
                        · exact bk3 HR6.out.top
                        clear hK K
                        (try simp only [Act.put, List.setIfInBounds_toArray, List.set_cons_zero, List.set_cons_succ])
                        refine wpAnyH_take (i := 7) (v := _) rfl (by kernel_rfl) (by kernel_rfl) (by kernel_rfl) (fun _ _ _ h => h) (Or.inl ⟨by rfl, fun w' hw' => by ((try dsimp only at hw'); go_split_ands; first | (go_simp; done) | (go_simp; with_reducible rfl))⟩) hS3 ?_
                        simp only [Act.put, List.getElem_toArray, List.getElem_cons_zero, List.getElem_cons_succ, List.setIfInBounds_toArray, List.set_cons_zero, List.set_cons_succ]
                        refine wpAnyH_take (i := 8) (v := _) rfl (by kernel_rfl) (by kernel_rfl) (by kernel_rfl) (fun _ _ _ h => h) (Or.inl ⟨by rfl, fun w' hw' => by ((try dsimp only at hw'); go_split_ands; first | (go_simp; done) | (go_simp; with_reducible rfl))⟩) hS3 ?_
                        simp only [Act.put, List.getElem_toArray, List.getElem_cons_zero, List.getElem_cons_succ, List.setIfInBounds_toArray, List.set_cons_zero, List.set_cons_succ]
                        refine wpAnyH_take (i := 9) (v := _) rfl (by kernel_rfl) (by kernel_rfl) (by kernel_rfl) (fun _ _ _ h => h) (Or.inl ⟨by rfl, fun w' hw' => by ((try dsimp only at hw'); go_split_ands; first | (go_simp; done) | (go_simp; with_reducible rfl))⟩) hS3 ?_
                        simp only [Act.put, List.getElem_toArray, List.getElem_cons_zero, List.getElem_cons_succ, List.setIfInBounds_toArray, List.set_cons_zero, List.set_cons_succ]
                        refine wpAnyH_take (i := 10) (v := _) rfl (by kernel_rfl) (by kernel_rfl) (by kernel_rfl) (fun _ _ _ h => h) (Or.inl ⟨by rfl, fun w' hw' => by ((try dsimp only at hw'); go_split_ands; first | (go_simp; done) | (go_simp; with_reducible rfl))⟩) hS3 ?_
                        simp only [Act.put, List.getElem_toArray, List.getElem_cons_zero, List.getElem_cons_succ, List.setIfInBounds_toArray, List.set_cons_zero, List.set_cons_succ]
                        obtain ⟨x6, _, g0, g1, g2, h0, h1, h2⟩ := HR6.out.gb.form (i := ix) HI2.out.1
                        refine wpAnyH_ready (rs := [11]) (by kernel_rfl) (by simp) ?_
                        refine AllReadyH.cons rfl (fun K hK => ?_) AllReadyH.nil
                        simp only [List.getElem_toArray, List.getElem_cons_zero, List.getElem_cons_succ]
                        go_simp
                        have HR7 := Lib.hid (HR6.out.put HI2.out.1 HV6.out)
                        refine hK.out _ _ ?_ (fun hS4 => ?_)
                        · exact bk3 HR7.out.top
                        clear hK K
                        (try simp only [Act.put, List.setIfInBounds_toArray, List.set_cons_zero, List.set_cons_succ])
                        clear g0 g1 g2 h0 h1 h2
                        refine wpAnyH_done (by kernel_rfl) ?_ _
                        simp only [NormR, Exit.then]
                        gi_wp2
                        have hfin := HR7.out.drop (zs' := [(g21, r15, come), (g17, r, q)]) (List.sublist_cons_self _ _)
                        rw [HI2.out.2.2.1] at hfin
                        exact ⟨⟨jb + 1, by omega, by go_num, _, _, HK.out.2.2.2.2.2.1, hfin⟩, by simp [intOf]; omega⟩
                    · obtain rfl : jb = di := by omega
                      clear hR2
                      gi_wp2
                      obtain rfl := Option.some.inj (hl2.symm.trans H17.out)
                      exact ⟨⟨ja + 1, by omega, by go_num, _, _, HJ.out.2.2.1, HR2.out.1.drop (List.sublist_cons_self _ _)⟩, by simp [intOf]; omega⟩
              · obtain rfl : ja = ci + 1 := by omega
                have hirr : ¬ ((ci : Int) + 1 < (ci : Int) + 1) := by omega
                clear hR1
                gi_wp2
                obtain rfl := Option.some.inj (hl1.symm.trans H15.out)
                exact HF.out _ _ _ HR1.out.1
      case hdone =>
        intro D W hD hIW hKD
        clear HX
        subst hX
        obtain ⟨R, l, hfo, hRn, hbl, hft⟩ := hIW
        obtain rfl : l = qs' := Option.some.inj (hfo.symm.trans HP.out.2.2.2.2.2.2.2.2.1)
        have k8 : Bk W (g4 + 1) 60 [.int .i64 0, .slice none 0 0] := hRn.k8
        have k8p : Bk wp (g4 + 1) 60 [.int .i64 0, .slice none 0 0] := HR.out.k8
        obtain ⟨j0, j1, _, _⟩ := cells2 (show Bk W g9 60 [.int .i64 (n : Nat), .slice (some ⟨G2, 0, none⟩) L L] from hRn.k9)
        obtain ⟨_, _, f0, f1⟩ := cells2 k8
        have hgb : GB W G2 [] l := hRn.gb
        have HW := Lib.hid (And.intro k8 (And.intro hgb (And.intro hbl (And.intro hKD (And.intro hD (And.intro k8p.lt (hft G2 (.inl rfl))))))))
        clear hRn hgb k8 k8p hKD hD hft hfo
        gi_wp2
        obtain ⟨k8, hgb, hbl, hKD, hD, hlt, hG2⟩ := HW.out
        have hkd : (set2 W (g4 + 1) (.int .i64 (n : Nat)) (.slice (some ⟨G2, 0, none⟩) L L)).heap[D]? = some (.deferred (some [])) :=
          (((chg_set2 W (g4 + 1) (.int .i64 (n : Nat)) (.slice (some ⟨G2, 0, none⟩) L L))).2 D (Array.getElem?_eq_some_iff.1 hKD).1 (fun e => by omega)).trans hKD
        have hkq : Kq wp.heap.size Nq (set2 W (g4 + 1) (.int .i64 (n : Nat)) (.slice (some ⟨G2, 0, none⟩) L L)) ((set2 W (g4 + 1) (.int .i64 (n : Nat)) (.slice (some ⟨G2, 0, none⟩) L L)).putObj D (.deferred none)) := Kq.put hD hkd rfl
        have hbs : Below w.heap.size w (set2 W (g4 + 1) (.int .i64 (n : Nat)) (.slice (some ⟨G2, 0, none⟩) L L)) := (hbl.setCell (p := ⟨g4 + 1, 0, none⟩) (by show w.heap.size ≤ g4 + 1; omega) _).setCell (p := ⟨g4 + 1, 1, none⟩) (by show w.heap.size ≤ g4 + 1; omega) _
        refine ⟨by simp, .inl ⟨_, _, rfl, run_takeDeferred hkd, ?_⟩⟩
        refine ⟨_, ret_grid rfl rfl (hkq.bk ((k8.set_ 0 (.int .i64 (n : Nat))).set_ 1 (.slice (some ⟨G2, 0, none⟩) L L)) id), G2, rfl, (gb_set2 hgb k8 zg_no (by decide)).kq hkq id, hG2, ?_⟩
        have hbz := hkq.below hbs (Nat.le_refl _) HB.out.1.size (fun k e => e.elim)
        first | exact hbz | (rw [hg4] at hbz; exact hbz)
      case hstop => exact fun D c W _ h _ => h.elim
end Go.Proofs.YtlhipaffhehcnaaGreat
