/- OctetBack: what its loop keeps. -/
import Derived.Test.YtdepmogibhmdaaaBk10
namespace Go.Proofs.Ytdepmogibhmdaaa
open Go.RowKit
set_option linter.unusedVariables false
def ItCells (w0 : World) (cells : List Value) (o : Nat) (it : It) : Prop :=
  cells[o]? = some (.bool it.raws) ∧ cells[o + 1]? = some (.int .i64 it.wd) ∧ cells[o + 2]? = some (.int .i64 it.n) ∧ ∃ B m c, cells[o + 3]? = some (.slice B m c) ∧ Rd w0 B m (bys it.b) ∧ m ≤ c ∧ m ≤ 140737488351232
def KI (w0 : World) (cells : List Value) (its : List It) : Prop := cells.length = its.length * 4 ∧ ∀ (i : Nat) (h : i < its.length), ItCells w0 cells (i * 4) its[i]
theorem KI.nil (w0 : World) : KI w0 [] [] := ⟨rfl, fun i h => by simp at h⟩
theorem KI.snoc {w0 : World} {cells : List Value} {its : List It} {it : It} {B : Option Addr} {m c : Nat} (h : KI w0 cells its) (hr : Rd w0 B m (bys it.b)) (hm : m ≤ c) (hb : m ≤ 140737488351232) :
    KI w0 (cells ++ [.bool it.raws, .int .i64 it.wd, .int .i64 it.n, .slice B m c]) (its ++ [it]) := by
  refine ⟨by simp [h.1]; omega, fun i hi => ?_⟩
  rcases Nat.lt_or_ge i its.length with h1 | h1
  · obtain ⟨a0, a1, a2, B', m', c', a3, a4⟩ := h.2 i h1
    have hl := h.1
    rw [List.getElem_append_left h1]
    refine ⟨?_, ?_, ?_, B', m', c', ?_, a4⟩ <;> rw [List.getElem?_append_left (by omega)] <;> assumption
  · have hi' : i = its.length := by simp at hi; omega
    subst hi'
    have hl := h.1
    rw [List.getElem_append_right (Nat.le_refl _)]
    simp only [Nat.sub_self, List.getElem_cons_zero]
    refine ⟨?_, ?_, ?_, B, m, c, ?_, hr, hm, hb⟩ <;> rw [List.getElem?_append_right (by omega), hl]
    · rw [Nat.sub_self]; rfl
    · rw [show its.length * 4 + 1 - its.length * 4 = 1 from by omega]; rfl
    · rw [show its.length * 4 + 2 - its.length * 4 = 2 from by omega]; rfl
    · rw [show its.length * 4 + 3 - its.length * 4 = 3 from by omega]; rfl
theorem own_chg {S : Nat → Prop} {w w' : World} {base size n : Nat} {e : TypeId} {v : Value} {xs : List Value} (h : w.ownsRow base e size v n xs) (hc : Chg S w w') (hn : ∀ g, v.ownBlock = some g → ¬ S g) : w'.ownsRow base e size v n xs := by
  refine ⟨h.1, ?_⟩
  rcases h.2 with h2 | ⟨g, cap, cur, rfl, hb, hh, r⟩
  · exact .inl h2
  · exact .inr ⟨g, cap, cur, rfl, hb, (hc.2 g (Array.getElem?_eq_some_iff.1 hh).1 (hn g rfl)).trans hh, r⟩
theorem itsK_of {w0 w : World} {base n c : Nat} {A : Option Addr} {cells : List Value} {its : List It} (h : w.ownsRow base 34 4 (.slice A n c) n cells) (hk : KI w0 cells its) : ItsK w0 w A n its := by
  have hl : its.length = n := by have := h.1; have := hk.1; omega
  refine ⟨hl, fun hn => ?_⟩
  rcases h.2 with ⟨_, h0⟩ | ⟨g, cap, cur, hv, hb, hh, hnc, _, hcs, ht⟩
  · omega
  · injection hv with e1 e2 e3
    have hb' : Bk w g 34 cur.toList := hh
    refine ⟨g, 0, e1, hb'.lt, fun i hi => ?_⟩
    have hc : ∀ o, o < n * 4 → w.cell? ⟨g, o, none⟩ = cells[o]? := fun o ho => by
      rw [hb'.cell o, ← ht, List.getElem?_take_of_lt ho]
    obtain ⟨a0, a1, a2, B, m, c', a3, a4⟩ := hk.2 i hi
    simp only [Nat.zero_add]
    exact ⟨(hc _ (by omega)).trans a0, (hc _ (by omega)).trans a1, (hc _ (by omega)).trans a2, B, m, c', (hc _ (by omega)).trans a3, a4⟩
structure BK (w0 w : World) (P : Nat) (A : Option Addr) (c : Nat) (s : WS) (v : Value) (n : Nat) (its : List It) : Prop where
  ww : WW w0 w P A c s
  own : ∃ cells, w.ownsRow w0.heap.size 34 4 v n cells ∧ KI w0 cells its
  far : ∀ g, v.ownBlock = some g → ¬ Wset P A g
theorem BK.below {w0 w w' : World} {P c n : Nat} {A : Option Addr} {s : WS} {v : Value} {its : List It} (h : BK w0 w P A c s v n its) (hb : Below w.heap.size w w') : BK w0 w' P A c s v n its := by
  obtain ⟨cells, ho, hk⟩ := h.own
  exact ⟨h.ww.below hb, ⟨cells, own_below ho hb, hk⟩, h.far⟩
theorem BK.step {w0 w w' : World} {P c n : Nat} {A : Option Addr} {s s' : WS} {v : Value} {its : List It} {x : Int} {e : Ending} (h : BK w0 w P A c s v n its) (hl : LyPost w w0.heap.size P A x s' e w') :
    e = .returned (.int .i64 x) ∧ ∃ A' c', BK w0 w' P A' c' s' v n its ∧ Chg (Wset P A) w w' := by
  have hl' := hl
  obtain ⟨he, A', c', l1, l2, l3⟩ := hl'
  obtain ⟨cells, ho, hk⟩ := h.own
  have hlt := ho.lt
  refine ⟨he, A', c', ⟨⟨l1, h.ww.2.1, ?_⟩, ⟨cells, own_chg ho l3 h.far, hk⟩, ?_⟩, l3⟩
  · exact l3.below h.ww.2.2 (fun k _ hS => by
      rcases hS with e | ⟨a, ha, e⟩
      · have := h.ww.2.1; omega
      · have := (own_ge h.ww.1.2.1 a ha).1; omega) h.ww.2.2.size
  · rintro g hg (e | ⟨a, ha, e⟩)
    · exact h.far g hg (.inl e)
    · rcases l2 a ha with ⟨b, hb, e'⟩ | e'
      · exact h.far g hg (.inr ⟨b, hb, e'.symm.trans e⟩)
      · have := (hlt g hg).2; omega
theorem BK.app {w0 w w' : World} {P c n : Nat} {A : Option Addr} {s : WS} {v v' : Value} {its : List It} {it : It} {cells : List Value} {B : Option Addr} {m cc : Nat} (h : BK w0 w P A c s v n its) (ho : w'.ownsRow w0.heap.size 34 4 v' (n + 1) (cells ++ [.bool it.raws, .int .i64 it.wd, .int .i64 it.n, .slice B m cc])) (hk : KI w0 cells its)
    (hr : Rd w0 B m (bys it.b)) (hm : m ≤ cc) (hmb : m ≤ 140737488351232) (hg : w.grownBy w' v.ownBlock) (hat : v'.ownBlock = v.ownBlock ∨ v'.ownBlock = some w.heap.size) : BK w0 w' P A c s v' (n + 1) (its ++ [it]) := by
  have hc : Chg (fun k => v.ownBlock = some k) w w' := Chg.of_grown hg fun k e => e
  obtain ⟨_, ho0, _⟩ := h.own
  have hlt := ho0.lt
  refine ⟨⟨h.ww.1.chg hc (fun e => h.far _ e (.inl rfl)) (fun a ha e => h.far _ e (.inr ⟨a, ha, rfl⟩)), h.ww.2.1, hc.below h.ww.2.2 (fun k _ e => (hlt k e).1) h.ww.2.2.size⟩, ⟨_, ho, hk.snoc hr hm hmb⟩, fun g e => ?_⟩
  rcases hat with e' | e'
  · exact h.far g (e' ▸ e)
  · rw [e'] at e
    injection e with e
    subst e
    rintro (e | ⟨a, ha, e⟩)
    · have := h.ww.1.1.lt; omega
    · have := (own_ge h.ww.1.2.1 a ha).2; omega
theorem own_slice {w : World} {base size n : Nat} {e : TypeId} {v : Value} {xs : List Value} (h : w.ownsRow base e size v n xs) : ∃ A c, v = .slice A n c ∧ ∀ a, A = some a → v.ownBlock = some a.block := by
  rcases h.2 with ⟨rfl, rfl⟩ | ⟨g, cap, cur, rfl, _⟩
  · exact ⟨none, 0, rfl, fun a e => by cases e⟩
  · exact ⟨_, cap, rfl, fun a e => by cases e; rfl⟩
/-- What OctetBack reads by: the items that were kept, the bytes; all older than X. -/
structure B2 (w0 w : World) (K : Option Addr) (k ck : Nat) (its : List It) (B : Option Addr) (L : Nat) (E : List UInt8) (X : Nat) : Prop where
  own : ∃ cells, w.ownsRow w0.heap.size 34 4 (.slice K k ck) k cells ∧ KI w0 cells its
  rd : Rd w B L (bys E)
  kx : ∀ a, K = some a → a.block < X
  bx : ∀ a, B = some a → a.block < X
  x0 : w0.heap.size ≤ X
  xs : X ≤ w.heap.size
  b : Below w0.heap.size w0 w
section
variable {w0 w w' : World} {K B : Option Addr} {k ck L X : Nat} {its : List It} {E : List UInt8}
theorem B2.below (h : B2 w0 w K k ck its B L E X) (hb : Below w.heap.size w w') : B2 w0 w' K k ck its B L E X := by
  obtain ⟨cells, ho, hk⟩ := h.own
  exact ⟨⟨cells, own_below ho hb, hk⟩, h.rd.below hb, h.kx, h.bx, h.x0, Nat.le_trans h.xs hb.size, below_base h.b hb h.b.size⟩
theorem B2.chg (h : B2 w0 w K k ck its B L E X) {S : Nat → Prop} (hc : Chg S w w') (hS : ∀ j, S j → X ≤ j) : B2 w0 w' K k ck its B L E X := by
  obtain ⟨cells, ho, hk⟩ := h.own
  have hKS : ∀ a, K = some a → ¬ S a.block := fun a e hs => by have := hS _ hs; have := h.kx a e; omega
  refine ⟨⟨cells, hc.own ho hKS, hk⟩, hc.rd h.rd (fun a e hs => by have := hS _ hs; have := h.bx a e; omega), h.kx, h.bx, h.x0, Nat.le_trans h.xs hc.size, hc.below h.b (fun j _ hs => by have := hS j hs; have := h.x0; omega) h.b.size⟩
theorem B2.takes (h : B2 w0 w K k ck its B L E X) {Q d : Nat} {C : Option Addr} {s : RS} (hr : Ro w Q C d s) (hQ : X ≤ Q) (hk : k ≤ 2932031007402) :
    Calls Try.prog 32 #[.pointer (some ⟨Q, 0, none⟩), .slice K k ck] w fun e w' => e = .returned (.bool (tkV s its && (tkA s its).fin.1 != 7)) ∧ Ro w' Q C d (tkA s its) ∧ Chg (fun j => j = Q) w w' ∧ B2 w0 w' K k ck its B L E X := by
  obtain ⟨cells, ho, hki⟩ := h.own
  exact (tks_any hr (itsK_of ho hki) (fun a e => by have := h.kx a e; omega) (Nat.le_trans h.x0 hQ) h.b hk).mono fun e w' ⟨h1, h2, h3⟩ => ⟨h1, h2, h3, h.chg h3 fun j e => by omega⟩
end
end Go.Proofs.Ytdepmogibhmdaaa
