/- Chapter 31: a datagram flies (plain part): what a push leaves of an ether. -/
import Derived.Test.YtknpghemogfenaaEo31
namespace Go.Proofs.Ytknpghemogfenaa
open Go.Conc Go.RowKit
set_option linter.unusedVariables false
def EM.push (m : EM) (v' : Value) (l' : List HE) (x : List UInt8) : EM := { m with v := v', l := l', number := m.number + 1, pay := fun k => if k = m.number then x else m.pay k }
section
variable {w w1 w2 : World} {base E : Nat} {m : EM}
theorem flat_perm {l l' : List HE} (h : l'.Perm l) : (l'.flatMap (fun e => blk e.A)).Perm (l.flatMap (fun e => blk e.A)) := h.flatMap_right _
theorem Em.pushed (h : Em w base E m) (hb : Below w.heap.size w w1) {A : Option Addr} {n c : Nat} {x : List UInt8} (hown : w1.ownsRow w.heap.size 5 1 (.slice A n c) n (bys x)) (hn : n ≤ 70000)
    {e : HE} (he : e.A = A ∧ e.n = n ∧ e.c = c ∧ e.b = m.number) (hfit : e.fit) (hnum : ∀ f ∈ m.l, f.b ≠ m.number) {v' : Value} {l' : List HE}
    (hf : HF w2 base E (m.cells.set 4 v') 4 v' l') (hp : l'.Perm (m.l ++ [e])) (hh : Hp (keys l')) (hc : Chg (fun k => k = E ∨ m.v.ownBlock = some k) w1 w2) (hv : ∀ b, v'.ownBlock = some b → m.v.ownBlock = some b ∨ w1.heap.size ≤ b) :
    Em (w2.setCell ⟨E, 3, none⟩ (.int .i64 (m.number + 1))) base E (m.push v' l' x) ∧ Chg (m.foot E) w (w2.setCell ⟨E, 3, none⟩ (.int .i64 (m.number + 1))) ∧ ∀ k, (m.push v' l' x).foot E k → m.foot E k ∨ w.heap.size ≤ k := by
  have h1 := h.below hb
  have hc3 : Chg (fun k => k = E ∨ m.v.ownBlock = some k) w1 (w2.setCell ⟨E, 3, none⟩ (.int .i64 (m.number + 1))) := hc.set_ (.inl rfl) _ _
  have hS : ∀ k, (k = E ∨ m.v.ownBlock = some k) → k = E ∨ k = m.C0 ∨ k = m.C1 ∨ m.v.ownBlock = some k := fun k hk => hk.elim .inl fun e => .inr (.inr (.inr e))
  obtain ⟨z1, z2, z3, z4, z5, z6, z7⟩ := h1.keep hc3 hS
  obtain ⟨n1, n2, n3, n4, n5⟩ := h1.neE
  have hpx1 : PX w1 base A n c x := ⟨own_mono hown h.bs.2.2.2, hn⟩
  have hpx := h1.px hc3 hS hpx1
  have hcE : Chg (fun k => k = E) w2 (w2.setCell ⟨E, 3, none⟩ (.int .i64 (m.number + 1))) := (Chg.refl (fun k => k = E) w2).set_ (show E = E from rfl) _ _
  have hcells : (m.cells.set 4 v').set 3 (.int .i64 (m.number + 1)) = (m.push v' l' x).cells := by
    obtain ⟨A9, c9, hv9, _⟩ := hf.2.2.1.form
    simp [EM.cells, EM.push]
  have hnew : ∀ k ∈ blk A, w.heap.size ≤ k := fun k hk => by
    obtain ⟨a, ha, rfl⟩ := mem_blk.1 hk
    exact (own_ge hown a ha).1
  have hold : ∀ k ∈ m.bl, k < w.heap.size := fun k hk => (h.foot_base (EM.fb hk)).2
  have hperm : (m.push v' l' x).bl.Perm (m.bl ++ blk A) := by
    have hp' := flat_perm hp
    rw [List.flatMap_append] at hp'
    simp only [List.flatMap_cons, List.flatMap_nil, List.append_nil] at hp'
    rw [he.1] at hp'
    unfold EM.bl EM.push
    simp only [List.append_assoc]
    refine List.Perm.append_left _ ?_
    refine (List.Perm.append_right _ hp').trans ?_
    rw [List.append_assoc]
    refine List.Perm.append_left _ ?_
    have hcm := List.perm_append_comm (l₁ := blk A) (l₂ := m.b0.flatMap (fun b => blk b.A) ++ m.b1.flatMap (fun b => blk b.A))
    simpa [List.append_assoc] using hcm
  refine ⟨{ h1 with
    e := by rw [← hcells]; exact hf.1.set_ 3 _
    f := z1, ft := z2, s := z3, sx := z4
    k := hf.2.2.1.chg hcE (fun g hg hs => hf.2.2.2.1 (by rw [hg, hs]))
    kx := fun f hf' => ?_
    hp := hh
    fit := fun f hf' => ?_
    c0 := h1.c0.chg hc3 (fun hs => hs.elim (fun e => n1 e.symm) (fun e => n4 e))
    c1 := h1.c1.chg hc3 (fun hs => hs.elim (fun e => n2 e.symm) (fun e => n5 e))
    x0 := z6, x1 := z7
    nd := hperm.nodup_iff.2 (List.nodup_append.2 ⟨h.nd, blk_nodup _, fun p hp' q hq e => by have := hold p hp'; have := hnew q hq; omega⟩)
    bs := ⟨h1.bs.1, h1.bs.2.1, h1.bs.2.2.1, Nat.le_trans h1.bs.2.2.2 hc3.size⟩ }, ?_, fun k hk => ?_⟩
  · show PX _ base f.A f.n f.c (if f.b = m.number then x else m.pay f.b)
    rcases List.mem_append.1 (hp.mem_iff.1 hf') with hm | hm
    · rw [if_neg (hnum f hm)]; exact z5 f hm
    · rw [List.mem_singleton.1 hm, if_pos he.2.2.2, he.1, he.2.1, he.2.2.1]; exact hpx
  · rcases List.mem_append.1 (hp.mem_iff.1 hf') with hm | hm
    · exact h.fit f hm
    · rw [List.mem_singleton.1 hm]; exact hfit
  · refine (Chg.of_below (S := m.foot E) hb).trans hc3 fun k hk hT => ?_
    rcases hT with e | e
    · exact .inl e
    · exact EM.fv e
  · have hs1 : w.heap.size ≤ w1.heap.size := hb.size
    rcases hk with e | e | e | e | e | e | e
    · exact .inl (.inl e)
    · exact .inl (.inr (.inl e))
    · exact .inl (.inr (.inr (.inl e)))
    · rcases hv k e with e | e
      · exact .inl (EM.fv e)
      · exact .inr (by omega)
    · exact .inl (.inr (.inr (.inr (.inr (.inl e)))))
    · exact .inl (.inr (.inr (.inr (.inr (.inr (.inl e))))))
    · rcases List.mem_append.1 (hperm.mem_iff.1 e) with e | e
      · exact .inl (EM.fb e)
      · exact .inr (hnew k e)
end
end Go.Proofs.Ytknpghemogfenaa
