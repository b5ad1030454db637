/- Chapter 31: an ether in memory. -/
import Derived.Test.YtknpghemogfenaaHs31
import Derived.Test.YtknpghemogfenaaEr31
namespace Go.Proofs.Ytknpghemogfenaa
open Go.Conc Go.RowKit
set_option linter.unusedVariables false
/-- A fate; a stray; what lies in a box. -/
structure FT where
  lost : Bool
  late : Int
  twice : Bool
  again : Int
def FT.cells (f : FT) : List Value := [.bool f.lost, .int .i64 f.late, .bool f.twice, .int .i64 f.again]
structure SY where
  at_ : Int
  dst : Int
  A : Option Addr
  n : Nat
  c : Nat
  x : List UInt8
def SY.cells (y : SY) : List Value := [.int .i64 y.at_, .int .i64 y.dst, .slice y.A y.n y.c]
structure BX where
  A : Option Addr
  n : Nat
  c : Nat
  x : List UInt8
def BX.v (b : BX) : Value := .slice b.A b.n b.c
/-- An ether: where its parts lie, and what they are. -/
structure EM where
  FA : Option Addr
  fc : Nat
  fates : List FT
  SA : Option Addr
  sc : Nat
  strays : List SY
  now : Int
  number : Int
  v : Value
  l : List HE
  pay : Int → List UInt8
  C0 : Nat
  C1 : Nat
  b0 : List BX
  b1 : List BX
  lost : Int
def fcs (l : List FT) : List Value := l.flatMap FT.cells
def ycs (l : List SY) : List Value := l.flatMap SY.cells
def EM.cells (m : EM) : List Value :=
  [.slice m.FA m.fates.length m.fc, .slice m.SA m.strays.length m.sc, .int .i64 m.now, .int .i64 m.number, m.v, .chan (some m.C0), .chan (some m.C1), .int .i64 m.lost]
/-- A box: a channel's block with these values in it. -/
def Ck (w : World) (C : Nat) (vs : List Value) : Prop := ∃ s r, w.heap[C]? = some (.chan 1000 vs.toArray false s r false)
theorem Ck.lt {w : World} {C : Nat} {vs : List Value} (h : Ck w C vs) : C < w.heap.size := by
  obtain ⟨s, r, h⟩ := h
  rcases Nat.lt_or_ge C w.heap.size with h1 | h1
  · exact h1
  · rw [Array.getElem?_eq_none h1] at h; cases h
theorem Ck.chg {S : Nat → Prop} {w w' : World} {C : Nat} {vs : List Value} (h : Ck w C vs) (hc : Chg S w w') (hS : ¬ S C) : Ck w' C vs := by
  have hl := h.lt
  obtain ⟨s, r, h⟩ := h
  exact ⟨s, r, (hc.2 C hl hS).trans h⟩
theorem Ck.ne_bk {w : World} {C g : Nat} {vs cs : List Value} {t : TypeId} (h : Ck w C vs) (hb : Bk w g t cs) : g ≠ C := fun e => by
  obtain ⟨s, r, h⟩ := h
  unfold Bk at hb
  rw [e, h] at hb
  cases hb
/-- Bytes of its own, not too many. -/
def PX (w : World) (base : Nat) (A : Option Addr) (n c : Nat) (x : List UInt8) : Prop := w.ownsRow base 5 1 (.slice A n c) n (bys x) ∧ n ≤ 70000
theorem PX.chg {S : Nat → Prop} {w w' : World} {base n c : Nat} {A : Option Addr} {x : List UInt8} (h : PX w base A n c x) (hc : Chg S w w') (hS : ∀ a, A = some a → ¬ S a.block) : PX w' base A n c x :=
  ⟨hc.own h.1 hS, h.2⟩
theorem PX.rd {w : World} {base n c : Nat} {A : Option Addr} {x : List UInt8} (h : PX w base A n c x) : Rd w A n (bys x) := Rd.of_own h.1
theorem PX.len {w : World} {base n c : Nat} {A : Option Addr} {x : List UInt8} (h : PX w base A n c x) : x.length = n := by have := h.rd.1; simpa [bys_length] using this
/-- Of what type a block is. -/
def Ty (w : World) (g : Nat) (t : TypeId) : Prop := ∃ cs, Bk w g t cs
theorem Ty.ne {w : World} {g g' : Nat} {t t' : TypeId} (h : Ty w g t) (h' : Ty w g' t') (ht : t ≠ t') : g ≠ g' := fun e => by
  obtain ⟨a, h⟩ := h
  obtain ⟨b, h'⟩ := h'
  subst e
  unfold Bk at h h'
  rw [h] at h'
  injection h' with h'
  injection h' with h1 h2 h3
  exact ht h2
theorem Ty.chg {S : Nat → Prop} {w w' : World} {g : Nat} {t : TypeId} (h : Ty w g t) (hc : Chg S w w') (hS : ¬ S g) : Ty w' g t := by
  obtain ⟨a, h⟩ := h; exact ⟨a, hc.bk h hS⟩
theorem own_ty {w : World} {base n : Nat} {e : TypeId} {size : Nat} {v : Value} {xs : List Value} (h : w.ownsRow base e size v n xs) {g : Nat} (hg : v.ownBlock = some g) : Ty w g e ∧ base ≤ g := by
  rcases h.2 with ⟨rfl, _⟩ | ⟨g', cap, cur, rfl, hb, hh, _⟩
  · cases hg
  · injection hg with hg
    subst hg
    exact ⟨⟨cur.toList, hh⟩, hb⟩
def blk (A : Option Addr) : List Nat := match A with
  | some a => [a.block]
  | none => []
theorem mem_blk {A : Option Addr} {k : Nat} : k ∈ blk A ↔ ∃ a, A = some a ∧ a.block = k := by
  cases A <;> simp [blk, eq_comm]
/-- The blocks of bytes that it has. -/
def EM.bl (m : EM) : List Nat := m.strays.flatMap (fun y => blk y.A) ++ (m.l.flatMap (fun e => blk e.A) ++ (m.b0.flatMap (fun b => blk b.A) ++ m.b1.flatMap (fun b => blk b.A)))
/-- All blocks that it has. -/
def EM.foot (m : EM) (E k : Nat) : Prop := k = E ∨ k = m.C0 ∨ k = m.C1 ∨ m.v.ownBlock = some k ∨ k ∈ blk m.FA ∨ k ∈ blk m.SA ∨ k ∈ m.bl
structure Em (w : World) (base E : Nat) (m : EM) : Prop where
  e : Bk w E 66 m.cells
  f : Rd w m.FA (m.fates.length * 4) (fcs m.fates)
  ft : ∀ a, m.FA = some a → Ty w a.block 53 ∧ base ≤ a.block
  fl : m.fates.length ≤ m.fc ∧ m.fates.length ≤ 100000
  s : w.ownsRow base 45 3 (.slice m.SA m.strays.length m.sc) m.strays.length (ycs m.strays)
  sl : m.strays.length ≤ 100000
  sx : ∀ y ∈ m.strays, PX w base y.A y.n y.c y.x
  k : HR w base m.v m.l
  kx : ∀ e ∈ m.l, PX w base e.A e.n e.c (m.pay e.b)
  hp : Hp (keys m.l)
  fit : FitL m.l
  c0 : Ck w m.C0 (m.b0.map BX.v)
  c1 : Ck w m.C1 (m.b1.map BX.v)
  cc : m.C0 ≠ m.C1
  x0 : ∀ b ∈ m.b0, PX w base b.A b.n b.c b.x
  x1 : ∀ b ∈ m.b1, PX w base b.A b.n b.c b.x
  nd : m.bl.Nodup
  bs : base ≤ E ∧ base ≤ m.C0 ∧ base ≤ m.C1 ∧ base ≤ w.heap.size
section
variable {w w' : World} {base E : Nat} {m : EM}
theorem Em.cell (h : Em w base E m) : w.cell? ⟨E, 0, none⟩ = some (.slice m.FA m.fates.length m.fc) ∧ w.cell? ⟨E, 1, none⟩ = some (.slice m.SA m.strays.length m.sc) ∧ w.cell? ⟨E, 2, none⟩ = some (.int .i64 m.now) ∧ w.cell? ⟨E, 3, none⟩ = some (.int .i64 m.number) ∧
    w.cell? ⟨E, 4, none⟩ = some m.v ∧ w.cell? ⟨E, 5, none⟩ = some (.chan (some m.C0)) ∧ w.cell? ⟨E, 6, none⟩ = some (.chan (some m.C1)) ∧ w.cell? ⟨E, 7, none⟩ = some (.int .i64 m.lost) :=
  ⟨h.e.cell 0, h.e.cell 1, h.e.cell 2, h.e.cell 3, h.e.cell 4, h.e.cell 5, h.e.cell 6, h.e.cell 7⟩
theorem Em.bl_ty (h : Em w base E m) {k : Nat} (hk : k ∈ m.bl) : Ty w k 5 ∧ base ≤ k := by
  have key : ∀ {A : Option Addr} {n c : Nat} {x : List UInt8}, PX w base A n c x → k ∈ blk A → Ty w k 5 ∧ base ≤ k := fun hp hk => by
    obtain ⟨a, rfl, e⟩ := mem_blk.1 hk
    subst e
    exact own_ty hp.1 rfl
  unfold EM.bl at hk
  rcases List.mem_append.1 hk with hk | hk
  · obtain ⟨y, hy, hk⟩ := List.mem_flatMap.1 hk; exact key (h.sx y hy) hk
  rcases List.mem_append.1 hk with hk | hk
  · obtain ⟨y, hy, hk⟩ := List.mem_flatMap.1 hk; exact key (h.kx y hy) hk
  rcases List.mem_append.1 hk with hk | hk
  · obtain ⟨y, hy, hk⟩ := List.mem_flatMap.1 hk; exact key (h.x0 y hy) hk
  · obtain ⟨y, hy, hk⟩ := List.mem_flatMap.1 hk; exact key (h.x1 y hy) hk
theorem Em.foot_base (h : Em w base E m) {k : Nat} (hk : m.foot E k) : base ≤ k ∧ k < w.heap.size := by
  have ty : ∀ {t : TypeId}, Ty w k t → k < w.heap.size := fun ⟨_, hb⟩ => hb.lt
  rcases hk with rfl | rfl | rfl | hk | hk | hk | hk
  · exact ⟨h.bs.1, h.e.lt⟩
  · exact ⟨h.bs.2.1, h.c0.lt⟩
  · exact ⟨h.bs.2.2.1, h.c1.lt⟩
  · have := own_ty h.k hk; exact ⟨this.2, ty this.1⟩
  · obtain ⟨a, ha, rfl⟩ := mem_blk.1 hk; have := h.ft a ha; exact ⟨this.2, ty this.1⟩
  · obtain ⟨a, ha, rfl⟩ := mem_blk.1 hk; have := own_ty h.s (g := a.block) (by rw [ha]; rfl); exact ⟨this.2, ty this.1⟩
  · have := h.bl_ty hk; exact ⟨this.2, ty this.1⟩
theorem EM.fE : m.foot E E := .inl rfl
theorem EM.fC0 : m.foot E m.C0 := .inr (.inl rfl)
theorem EM.fC1 : m.foot E m.C1 := .inr (.inr (.inl rfl))
theorem EM.fv {k : Nat} (h : m.v.ownBlock = some k) : m.foot E k := .inr (.inr (.inr (.inl h)))
theorem EM.fF {a : Addr} (h : m.FA = some a) : m.foot E a.block := .inr (.inr (.inr (.inr (.inl (mem_blk.2 ⟨a, h, rfl⟩)))))
theorem EM.fS {a : Addr} (h : m.SA = some a) : m.foot E a.block := .inr (.inr (.inr (.inr (.inr (.inl (mem_blk.2 ⟨a, h, rfl⟩))))))
theorem EM.fb {k : Nat} (h : k ∈ m.bl) : m.foot E k := .inr (.inr (.inr (.inr (.inr (.inr h)))))
theorem EM.bs {y : SY} (h : y ∈ m.strays) {k : Nat} (hk : k ∈ blk y.A) : k ∈ m.bl := List.mem_append_left _ (List.mem_flatMap.2 ⟨y, h, hk⟩)
theorem EM.bk {y : HE} (h : y ∈ m.l) {k : Nat} (hk : k ∈ blk y.A) : k ∈ m.bl := List.mem_append_right _ (List.mem_append_left _ (List.mem_flatMap.2 ⟨y, h, hk⟩))
theorem EM.b0' {y : BX} (h : y ∈ m.b0) {k : Nat} (hk : k ∈ blk y.A) : k ∈ m.bl := List.mem_append_right _ (List.mem_append_right _ (List.mem_append_left _ (List.mem_flatMap.2 ⟨y, h, hk⟩)))
theorem EM.b1' {y : BX} (h : y ∈ m.b1) {k : Nat} (hk : k ∈ blk y.A) : k ∈ m.bl := List.mem_append_right _ (List.mem_append_right _ (List.mem_append_right _ (List.mem_flatMap.2 ⟨y, h, hk⟩)))
/-- What else changes leaves an ether as it was. -/
theorem Em.other (h : Em w base E m) {S : Nat → Prop} (hc : Chg S w w') (hS : ∀ k, m.foot E k → ¬ S k) : Em w' base E m := by
  have px : ∀ {A : Option Addr} {n c : Nat} {x : List UInt8}, PX w base A n c x → (∀ k ∈ blk A, k ∈ m.bl) → PX w' base A n c x := fun hp hb =>
    hp.chg hc fun a ha => hS _ (EM.fb (hb _ (mem_blk.2 ⟨a, ha, rfl⟩)))
  have z1 := hc.bk h.e (hS _ EM.fE)
  have z2 := hc.rd h.f (fun a ha => hS _ (EM.fF ha))
  have z3 : ∀ a, m.FA = some a → Ty w' a.block 53 ∧ base ≤ a.block := fun a ha => ⟨(h.ft a ha).1.chg hc (hS _ (EM.fF ha)), (h.ft a ha).2⟩
  have z4 := hc.own h.s (fun a ha => hS _ (EM.fS ha))
  have z5 : ∀ y ∈ m.strays, PX w' base y.A y.n y.c y.x := fun y hy => px (h.sx y hy) fun k hk => EM.bs hy hk
  have z6 := h.k.chg hc (fun g hg => hS _ (EM.fv hg))
  have z7 : ∀ e ∈ m.l, PX w' base e.A e.n e.c (m.pay e.b) := fun y hy => px (h.kx y hy) fun k hk => EM.bk hy hk
  have z8 : ∀ b ∈ m.b0, PX w' base b.A b.n b.c b.x := fun y hy => px (h.x0 y hy) fun k hk => EM.b0' hy hk
  have z9 : ∀ b ∈ m.b1, PX w' base b.A b.n b.c b.x := fun y hy => px (h.x1 y hy) fun k hk => EM.b1' hy hk
  exact { h with e := z1, f := z2, ft := z3, s := z4, sx := z5, k := z6, kx := z7, c0 := h.c0.chg hc (hS _ EM.fC0), c1 := h.c1.chg hc (hS _ EM.fC1), x0 := z8, x1 := z9, bs := ⟨h.bs.1, h.bs.2.1, h.bs.2.2.1, Nat.le_trans h.bs.2.2.2 hc.size⟩ }
theorem Em.below (h : Em w base E m) (hb : Below w.heap.size w w') : Em w' base E m := h.other (Chg.of_below (S := fun _ => False) hb) fun _ _ x => x
end
end Go.Proofs.Ytknpghemogfenaa
