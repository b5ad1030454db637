/- Chapter 31: comes of an ether. -/
import Derived.Test.YtknpghemogfenaaEk31
namespace Go.Proofs.Ytknpghemogfenaa
open Go.Conc Go.RowKit
set_option linter.unusedVariables false
def EM.come (m : EM) (d : Nat) (b : BX) : EM :=
  if d = 0 then (if m.b0.length < 1000 then { m with b0 := m.b0 ++ [b] } else { m with lost := m.lost + 1 })
  else (if m.b1.length < 1000 then { m with b1 := m.b1 ++ [b] } else { m with lost := m.lost + 1 })
section
variable {w w' : World} {base E : Nat} {m : EM}
/-- Its numbers are others. -/
theorem Em.nums (h : Em w base E m) {a b c : Int} (hc : Chg (fun k => k = E) w w') (he : Bk w' E 66 ({ m with now := a, number := b, lost := c } : EM).cells) : Em w' base E { m with now := a, number := b, lost := c } := by
  have hS' : ∀ k, k = E → k = E ∨ k = m.C0 ∨ k = m.C1 ∨ m.v.ownBlock = some k := fun k hk => .inl hk
  obtain ⟨z1, z2, z3, z4, z5, z6, z7⟩ := h.keep hc hS'
  obtain ⟨n1, n2, n3, n4, n5⟩ := h.neE
  exact { h with e := he, f := z1, ft := z2, s := z3, sx := z4, k := h.k.chg hc (fun g hg hs => n3 (by rw [hg, hs])), kx := z5, c0 := h.c0.chg hc (fun hs => n1 hs.symm), c1 := h.c1.chg hc (fun hs => n2 hs.symm), x0 := z6, x1 := z7, nd := h.nd, bs := ⟨h.bs.1, h.bs.2.1, h.bs.2.2.1, Nat.le_trans h.bs.2.2.2 hc.size⟩ }
theorem foot_nums {a b c : Int} {k : Nat} (hk : ({ m with now := a, number := b, lost := c } : EM).foot E k) : m.foot E k := hk
theorem Em.frozen (h : Em w base E m) (i : Nat) : w.frozen? ⟨E, i, none⟩ = false := h.e.frozen i
/-- What a coming leaves. -/
def ECame (w : World) (base E : Nat) (m m' : EM) (b : BX) (e : Ending) (w' : World) : Prop :=
  e = .returned (.tuple #[]) ∧ Em w' base E m' ∧ Chg (m.foot E) w w' ∧ ∀ k, m'.foot E k → m.foot E k ∨ k ∈ blk b.A
theorem nodup_comm3 {a b c : List Nat} (h : (a ++ (b ++ c)).Nodup) {d : List Nat} (hd : d.Nodup) (hx : ∀ k ∈ d, k ∉ a ++ (b ++ c)) : (a ++ (b ++ (c ++ d))).Nodup := by
  have : (a ++ (b ++ c) ++ d).Nodup := List.nodup_append.2 ⟨h, hd, fun x hx' y hy e => hx y hy (by rw [← e]; exact hx')⟩
  simpa [List.append_assoc] using this
theorem blk_nodup (A : Option Addr) : (blk A).Nodup := by cases A <;> simp [blk]
theorem ecomes_any (h : Em w base E m) {b : BX} (hp : PX w base b.A b.n b.c b.x) (hx : ∀ k ∈ blk b.A, k ∉ m.bl) (h0 : 0 ≤ m.lost) (h1 : m.lost ≤ 1000000000) {d : Nat} (hd : d < 2) :
    Calls Try.prog 38 #[.pointer (some ⟨E, 0, none⟩), .int .i64 (d : Nat), b.v] w (ECame w base E m (m.come d b) b) := by
  obtain ⟨_, _, _, _, _, k5, k6, k7⟩ := h.cell
  have f7 := h.frozen 7
  have lostcase : ∀ (m' : EM), m' = { m with lost := m.lost + 1 } → ECame w base E m m' b (.returned (.tuple #[])) (w.setCell ⟨E, 7, none⟩ (.int .i64 (m.lost + 1))) := by
    intro m' e
    subst e
    have hc : Chg (fun k => k = E) w (w.setCell ⟨E, 7, none⟩ (.int .i64 (m.lost + 1))) := (Chg.refl (fun k => k = E) w).set_ (show E = E from rfl) _ _
    exact ⟨rfl, h.nums (a := m.now) (b := m.number) (c := m.lost + 1) hc (h.e.set_ 7 _), hc.mono (fun k _ hk => by rw [hk]; exact EM.fE), fun k hk => .inl hk⟩
  rcases (show d = 0 ∨ d = 1 by omega) with rfl | rfl
  · obtain ⟨s0, r0, q0⟩ := h.c0
    by_cases hl : m.b0.length < 1000
    · have hm : m.come 0 b = { m with b0 := m.b0 ++ [b] } := by unfold EM.come; rw [if_pos rfl, if_pos hl]
      rw [hm]
      refine (comes0_room k5 k7 f7 h0 h1 q0 (by simpa using hl)).mono ?_
      rintro e w' ⟨rfl, rfl⟩
      have hc : Chg (fun k => k = m.C0) w (w.setChan m.C0 1000 ((m.b0.map BX.v).toArray.push b.v) false (s0 + 1) r0 false) := chg_setChan (S := fun k => k = m.C0) rfl _ _ _ _ _ _
      have hS : ∀ k, k = m.C0 → k = E ∨ k = m.C0 ∨ k = m.C1 ∨ m.v.ownBlock = some k := fun k hk => .inr (.inl hk)
      have hck : Ck (w.setChan m.C0 1000 ((m.b0.map BX.v).toArray.push b.v) false (s0 + 1) r0 false) m.C0 ((m.b0 ++ [b]).map BX.v) := by
        have e : (m.b0.map BX.v).toArray.push b.v = ((m.b0 ++ [b]).map BX.v).toArray := by simp
        rw [e]; exact ck_setChan h.c0.lt _ _ _
      refine ⟨rfl, h.box0 hc (fun _ hk => hk) hck (fun y hy => ?_) ?_, hc.mono (fun k _ hk => by rw [hk]; exact EM.fC0), fun k hk => ?_⟩
      · rcases List.mem_append.1 hy with hy | hy
        · exact h.px hc hS (h.x0 y hy)
        · rw [List.mem_singleton.1 hy]; exact h.px hc hS hp
      · have hnd := h.nd
        unfold EM.bl at hnd hx ⊢
        have hnd' : ((m.strays.flatMap (fun y => blk y.A) ++ m.l.flatMap (fun e => blk e.A)) ++ (m.b0.flatMap (fun b => blk b.A) ++ (m.b1.flatMap (fun b => blk b.A)))).Nodup := by simpa [List.append_assoc] using hnd
        have hp2 : (m.strays.flatMap (fun y => blk y.A) ++ (m.l.flatMap (fun e => blk e.A) ++ ((m.b0 ++ [b]).flatMap (fun b => blk b.A) ++ m.b1.flatMap (fun b => blk b.A)))).Perm ((m.strays.flatMap (fun y => blk y.A) ++ (m.l.flatMap (fun e => blk e.A) ++ (m.b0.flatMap (fun b => blk b.A) ++ m.b1.flatMap (fun b => blk b.A)))) ++ blk b.A) := by
          rw [List.flatMap_append]
          simp only [List.flatMap_cons, List.flatMap_nil, List.append_nil, List.append_assoc]
          exact List.Perm.append_left _ (List.Perm.append_left _ (List.Perm.append_left _ List.perm_append_comm))
        exact hp2.nodup_iff.2 (List.nodup_append.2 ⟨hnd, blk_nodup _, fun x hx' y hy e => hx y hy (by rw [← e]; exact hx')⟩)
      · rcases hk with e | e | e | e | e | e | e
        · exact .inl (.inl e)
        · exact .inl (.inr (.inl e))
        · exact .inl (.inr (.inr (.inl e)))
        · exact .inl (.inr (.inr (.inr (.inl e))))
        · exact .inl (.inr (.inr (.inr (.inr (.inl e)))))
        · exact .inl (.inr (.inr (.inr (.inr (.inr (.inl e))))))
        · unfold EM.bl at e
          simp only [List.flatMap_append, List.flatMap_cons, List.flatMap_nil, List.append_nil, List.mem_append] at e
          rcases e with e | e | (e | e) | e
          · exact .inl (EM.fb (List.mem_append_left _ e))
          · exact .inl (EM.fb (List.mem_append_right _ (List.mem_append_left _ e)))
          · exact .inl (EM.fb (List.mem_append_right _ (List.mem_append_right _ (List.mem_append_left _ e))))
          · exact .inr e
          · exact .inl (EM.fb (List.mem_append_right _ (List.mem_append_right _ (List.mem_append_right _ e))))
    · refine (comes0_full k5 k7 f7 h0 h1 q0 (by simpa using Nat.le_of_not_lt hl)).mono ?_
      rintro e w' ⟨rfl, rfl⟩
      exact lostcase _ (by unfold EM.come; rw [if_pos rfl, if_neg hl])
  · obtain ⟨s0, r0, q0⟩ := h.c1
    by_cases hl : m.b1.length < 1000
    · have hm : m.come 1 b = { m with b1 := m.b1 ++ [b] } := by unfold EM.come; rw [if_neg (by decide), if_pos hl]
      rw [hm]
      refine (comes1_room k6 k7 f7 h0 h1 q0 (by simpa using hl)).mono ?_
      rintro e w' ⟨rfl, rfl⟩
      have hc : Chg (fun k => k = m.C1) w (w.setChan m.C1 1000 ((m.b1.map BX.v).toArray.push b.v) false (s0 + 1) r0 false) := chg_setChan (S := fun k => k = m.C1) rfl _ _ _ _ _ _
      have hS : ∀ k, k = m.C1 → k = E ∨ k = m.C0 ∨ k = m.C1 ∨ m.v.ownBlock = some k := fun k hk => .inr (.inr (.inl hk))
      have hck : Ck (w.setChan m.C1 1000 ((m.b1.map BX.v).toArray.push b.v) false (s0 + 1) r0 false) m.C1 ((m.b1 ++ [b]).map BX.v) := by
        have e : (m.b1.map BX.v).toArray.push b.v = ((m.b1 ++ [b]).map BX.v).toArray := by simp
        rw [e]; exact ck_setChan h.c1.lt _ _ _
      refine ⟨rfl, h.box1 hc (fun _ hk => hk) hck (fun y hy => ?_) ?_, hc.mono (fun k _ hk => by rw [hk]; exact EM.fC1), fun k hk => ?_⟩
      · rcases List.mem_append.1 hy with hy | hy
        · exact h.px hc hS (h.x1 y hy)
        · rw [List.mem_singleton.1 hy]; exact h.px hc hS hp
      · have hnd := h.nd
        unfold EM.bl at hnd hx ⊢
        have hp2 : (m.strays.flatMap (fun y => blk y.A) ++ (m.l.flatMap (fun e => blk e.A) ++ (m.b0.flatMap (fun b => blk b.A) ++ (m.b1 ++ [b]).flatMap (fun b => blk b.A)))) = ((m.strays.flatMap (fun y => blk y.A) ++ (m.l.flatMap (fun e => blk e.A) ++ (m.b0.flatMap (fun b => blk b.A) ++ m.b1.flatMap (fun b => blk b.A)))) ++ blk b.A) := by
          rw [List.flatMap_append]
          simp only [List.flatMap_cons, List.flatMap_nil, List.append_nil, List.append_assoc]
        show (m.strays.flatMap (fun y => blk y.A) ++ (m.l.flatMap (fun e => blk e.A) ++ (m.b0.flatMap (fun b => blk b.A) ++ (m.b1 ++ [b]).flatMap (fun b => blk b.A)))).Nodup
        rw [hp2]
        exact List.nodup_append.2 ⟨hnd, blk_nodup _, fun x hx' y hy e => hx y hy (by rw [← e]; exact hx')⟩
      · rcases hk with e | e | e | e | e | e | e
        · exact .inl (.inl e)
        · exact .inl (.inr (.inl e))
        · exact .inl (.inr (.inr (.inl e)))
        · exact .inl (.inr (.inr (.inr (.inl e))))
        · exact .inl (.inr (.inr (.inr (.inr (.inl e)))))
        · exact .inl (.inr (.inr (.inr (.inr (.inr (.inl e))))))
        · unfold EM.bl at e
          simp only [List.flatMap_append, List.flatMap_cons, List.flatMap_nil, List.append_nil, List.mem_append] at e
          rcases e with e | e | e | e | e
          · exact .inl (EM.fb (List.mem_append_left _ e))
          · exact .inl (EM.fb (List.mem_append_right _ (List.mem_append_left _ e)))
          · exact .inl (EM.fb (List.mem_append_right _ (List.mem_append_right _ (List.mem_append_left _ e))))
          · exact .inl (EM.fb (List.mem_append_right _ (List.mem_append_right _ (List.mem_append_right _ e))))
          · exact .inr e
    · refine (comes1_full k6 k7 f7 h0 h1 q0 (by simpa using Nat.le_of_not_lt hl)).mono ?_
      rintro e w' ⟨rfl, rfl⟩
      exact lostcase _ (by unfold EM.come; rw [if_neg (by decide), if_neg hl])
end
end Go.Proofs.Ytknpghemogfenaa
