/- Chapter 31: what a pop leaves of an ether. -/
import Derived.Test.YtknpghemogfenaaTk31
namespace Go.Proofs.Ytknpghemogfenaa
open Go.Conc Go.RowKit
set_option linter.unusedVariables false
def EM.pop (m : EM) (v' : Value) (l' : List HE) : EM := { m with v := v', l := l' }
theorem Em.popped {w w2 : World} {base E : Nat} {m : EM} (h : Em w base E m) {A : Option Addr} {q c : Nat} {l' : List HE} (hv : m.v = .slice A (q + 1) c)
    (hf : HF w2 base E (m.cells.set 4 (.slice A q c)) 4 (.slice A q c) l') (hp : (gx m.l 0 :: l').Perm m.l) (hh : Hp (keys l')) (hc : Chg (fun k => k = E ∨ (Value.slice A (q + 1) c).ownBlock = some k) w w2) :
    Em w2 base E (m.pop (.slice A q c) l') ∧ PX w2 base (gx m.l 0).A (gx m.l 0).n (gx m.l 0).c (m.pay (gx m.l 0).b) ∧ (∀ k ∈ blk (gx m.l 0).A, k ∉ (m.pop (.slice A q c) l').bl ∧ m.foot E k) ∧ Chg (m.foot E) w w2 ∧ ∀ k, (m.pop (.slice A q c) l').foot E k → m.foot E k := by
  rw [← hv] at hc
  have hS : ∀ k, (k = E ∨ m.v.ownBlock = some k) → k = E ∨ k = m.C0 ∨ k = m.C1 ∨ m.v.ownBlock = some k := fun k hk => hk.elim .inl fun e => .inr (.inr (.inr e))
  obtain ⟨z1, z2, z3, z4, z5, z6, z7⟩ := h.keep hc hS
  obtain ⟨n1, n2, n3, n4, n5⟩ := h.neE
  have hg : gx m.l 0 ∈ m.l := hp.mem_iff.1 (List.mem_cons_self ..)
  have hl' : ∀ f ∈ l', f ∈ m.l := fun f hf' => hp.mem_iff.1 (List.mem_cons_of_mem _ hf')
  have hpb : (blk (gx m.l 0).A ++ (m.pop (.slice A q c) l').bl).Perm m.bl := by
    have hp' := flat_perm hp
    rw [List.flatMap_cons] at hp'
    unfold EM.bl EM.pop
    simp only
    have h1 : (blk (gx m.l 0).A ++ (m.strays.flatMap (fun y => blk y.A) ++ (l'.flatMap (fun e => blk e.A) ++ (m.b0.flatMap (fun b => blk b.A) ++ m.b1.flatMap (fun b => blk b.A))))).Perm (m.strays.flatMap (fun y => blk y.A) ++ ((blk (gx m.l 0).A ++ l'.flatMap (fun e => blk e.A)) ++ (m.b0.flatMap (fun b => blk b.A) ++ m.b1.flatMap (fun b => blk b.A)))) := by
      rw [List.append_assoc (blk (gx m.l 0).A), ← List.append_assoc (m.strays.flatMap (fun y => blk y.A)) (blk (gx m.l 0).A), ← List.append_assoc (blk (gx m.l 0).A)]
      exact List.Perm.append_right _ List.perm_append_comm
    exact h1.trans (List.Perm.append_left _ (List.Perm.append_right _ hp'))
  have hnd : (blk (gx m.l 0).A ++ (m.pop (.slice A q c) l').bl).Nodup := hpb.nodup_iff.2 h.nd
  obtain ⟨d1, d2, d3⟩ := List.nodup_append.1 hnd
  have hcells : m.cells.set 4 (.slice A q c) = (m.pop (.slice A q c) l').cells := rfl
  refine ⟨{ h with
    e := by rw [← hcells]; exact hf.1
    f := z1, ft := z2, s := z3, sx := z4
    k := hf.2.2.1
    kx := fun f hf' => z5 f (hl' f hf')
    hp := hh
    fit := fun f hf' => h.fit f (hl' f hf')
    c0 := h.c0.chg hc (fun hs => hs.elim (fun e => n1 e.symm) (fun e => n4 e))
    c1 := h.c1.chg hc (fun hs => hs.elim (fun e => n2 e.symm) (fun e => n5 e))
    x0 := z6, x1 := z7
    nd := d2
    bs := ⟨h.bs.1, h.bs.2.1, h.bs.2.2.1, Nat.le_trans h.bs.2.2.2 hc.size⟩ }, z5 _ hg, fun k hk => ⟨fun hin => d3 k hk k hin rfl, EM.fb (hpb.mem_iff.1 (List.mem_append_left _ hk))⟩, hc.mono (fun k _ hk => hk.elim .inl EM.fv), fun k hk => ?_⟩
  rcases hk with e | e | e | e | e | e | e
  · exact .inl e
  · exact .inr (.inl e)
  · exact .inr (.inr (.inl e))
  · refine EM.fv ?_
    rw [hv]
    cases A with
    | none => cases e
    | some a => exact e
  · exact .inr (.inr (.inr (.inr (.inl e))))
  · exact .inr (.inr (.inr (.inr (.inr (.inl e)))))
  · exact EM.fb (hpb.mem_iff.1 (List.mem_append_right _ e))
end Go.Proofs.Ytknpghemogfenaa
