/- Chapter 31: two ethers beside the boxes of EtherTrue. -/
import Derived.Test.YtknpghemogfenaaTr31
import Derived.Test.YtknpghemogfenaaPl31
namespace Go.Proofs.Ytknpghemogfenaa
open Go.Conc Go.RowKit
set_option linter.unusedVariables false
structure TC (w0 w : World) (P X Y : Nat) (sx sy : ES) (bs : Nat → List BX) (Fx Fy : Nat → Prop) (A : Nat → Option Addr) (c : Nat → Nat) : Prop where
  lx : Lf w0 w X sx Fx
  ly : Lf w0 w Y sy Fy
  bw : BW w0 w P A c bs
  xg : ∀ k, Fx k → ¬ BG P A k
  yg : ∀ k, Fy k → ¬ BG P A k
  xy : ∀ k, Fx k → ¬ Fy k
  b : Below w0.heap.size w0 w
section
variable {w0 w w' : World} {P X Y : Nat} {sx sy s' : ES} {bs : Nat → List BX} {Fx Fy F' : Nat → Prop} {A : Nat → Option Addr} {c : Nat → Nat}
theorem TC.chgX (h : TC w0 w P X Y sx sy bs Fx Fy A c) (g1 : Lf w0 w' X s' F') (g2 : ∀ k, F' k → Fx k ∨ w.heap.size ≤ k) (hc : Chg Fx w w') : TC w0 w' P X Y s' sy bs F' Fy A c where
  lx := g1
  ly := h.ly.other hc fun k hy hx => h.xy k hx hy
  bw := h.bw.chg hc fun k hk => ⟨(h.lx.2.1 k hk).1, h.xg k hk⟩
  xg := fun k hk hg => by
    rcases g2 k hk with e | e
    · exact h.xg k e hg
    · have := (h.bw.bg hg).2; omega
  yg := h.yg
  xy := fun k hk hy => by
    rcases g2 k hk with e | e
    · exact h.xy k e hy
    · have := (h.ly.2.1 k hy).2; omega
  b := hc.below h.b (fun k _ hk => (h.lx.2.1 k hk).1) h.lx.2.2
theorem TC.chgY (h : TC w0 w P X Y sx sy bs Fx Fy A c) (g1 : Lf w0 w' Y s' F') (g2 : ∀ k, F' k → Fy k ∨ w.heap.size ≤ k) (hc : Chg Fy w w') : TC w0 w' P X Y sx s' bs Fx F' A c where
  lx := h.lx.other hc fun k hx hy => h.xy k hx hy
  ly := g1
  bw := h.bw.chg hc fun k hk => ⟨(h.ly.2.1 k hk).1, h.yg k hk⟩
  xg := h.xg
  yg := fun k hk hg => by
    rcases g2 k hk with e | e
    · exact h.yg k e hg
    · have := (h.bw.bg hg).2; omega
  xy := fun k hx hk => by
    rcases g2 k hk with e | e
    · exact h.xy k hx e
    · have := (h.lx.2.1 k hx).2; omega
  b := hc.below h.b (fun k _ hk => (h.ly.2.1 k hk).1) h.ly.2.2
theorem TC.deedX (h : TC w0 w P X Y sx sy bs Fx Fy A c) (hd : Deed w0 X Fx s' w w') : ∃ F', TC w0 w' P X Y s' sy bs F' Fy A c := by
  obtain ⟨F', g1, g2, hc⟩ := hd
  exact ⟨F', h.chgX g1 g2 hc⟩
theorem TC.deedY (h : TC w0 w P X Y sx sy bs Fx Fy A c) (hd : Deed w0 Y Fy s' w w') : ∃ F', TC w0 w' P X Y sx s' bs Fx F' A c := by
  obtain ⟨F', g1, g2, hc⟩ := hd
  exact ⟨F', h.chgY g1 g2 hc⟩
theorem TC.below (h : TC w0 w P X Y sx sy bs Fx Fy A c) (hb : Below w.heap.size w w') : TC w0 w' P X Y sx sy bs Fx Fy A c where
  lx := h.lx.below hb
  ly := h.ly.below hb
  bw := h.bw.chg (S := fun _ => False) (Chg.of_below hb) fun _ e => e.elim
  xg := h.xg
  yg := h.yg
  xy := h.xy
  b := below_base h.b hb h.lx.2.2
theorem TC.put {T : Nat → Prop} {k : Nat} (h : TC w0 w P X Y sx sy bs Fx Fy A c) (hk : k < 2) (hc : Chg T w w') (hT : ∀ j, T j → j ∈ blk (A k)) {A1 : Option Addr} {c1 : Nat} {l : List BX} (ho : w'.ownsRow w0.heap.size 32 1 (.slice A1 l.length c1) l.length (l.map BX.v))
    (hat : ∀ a, A1 = some a → a.block ∈ blk (A k) ∨ w.heap.size ≤ a.block) (hx : ∀ b ∈ l, BOK w0 w' b) :
    TC w0 (w'.setCell ⟨P, k, none⟩ (.slice A1 l.length c1)) P X Y sx sy (upd bs k l) Fx Fy (upd A k A1) (upd c k c1) ∧ Chg (BG P A) w (w'.setCell ⟨P, k, none⟩ (.slice A1 l.length c1)) ∧ ∀ j, BG P (upd A k A1) j → BG P A j ∨ w.heap.size ≤ j := by
  obtain ⟨z1, z2, z3⟩ := h.bw.put hk hc hT ho hat hx
  refine ⟨⟨h.lx.other z2 h.xg, h.ly.other z2 h.yg, z1, fun j hj hg => ?_, fun j hj hg => ?_, h.xy, z2.below h.b (fun j _ hj => (h.bw.bg hj).1) h.lx.2.2⟩, z2, z3⟩
  · rcases z3 j hg with e | e
    · exact h.xg j hj e
    · have := (h.lx.2.1 j hj).2; omega
  · rcases z3 j hg with e | e
    · exact h.yg j hj e
    · have := (h.ly.2.1 j hj).2; omega
end
theorem TC.new {w0 w4 w5 : World} {X Y : Nat} {s : ES} {Fx Fy : Nat → Prop} (hx : Lf w0 w4 X s Fx) (hb45 : Below w4.heap.size w4 w5) (hy : Lf w0 w5 Y s Fy) (hyf : ∀ k, Fy k → w4.heap.size ≤ k) (hb : Below w0.heap.size w0 w5) :
    TC w0 (w5.alloc (.cells #[.slice none 0 0, .slice none 0 0] 30)) w5.heap.size X Y s s (fun _ => []) Fx Fy (fun _ => none) (fun _ => 0) where
  lx := (hx.below hb45).below ((Below.refl _ _).alloc (Nat.le_refl _) _)
  ly := hy.below ((Below.refl _ _).alloc (Nat.le_refl _) _)
  bw := BW.new hb.size
  xg := fun k hk hg => by
    rcases hg with e | e | e
    · have := (hx.2.1 k hk).2; have := hb45.size; omega
    · cases e
    · cases e
  yg := fun k hk hg => by
    rcases hg with e | e | e
    · have := (hy.2.1 k hk).2; omega
    · cases e
    · cases e
  xy := fun k hx' hy' => by have := (hx.2.1 k hx').2; have := hyf k hy'; omega
  b := below_base hb ((Below.refl _ _).alloc (Nat.le_refl _) _) hb.size
end Go.Proofs.Ytknpghemogfenaa
