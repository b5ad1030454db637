/- Chapter 31: (*Ether).Send: its walk. -/
import Derived.Test.YtknpghemogfenaaEs31
namespace Go.Proofs.Ytknpghemogfenaa
open Go.Conc Go.RowKit
set_option linter.unusedVariables false
theorem run_fromS {P : Program} {t e : TypeId} {i : TypeInfo} (ht : P.underlying t = some (.slice e)) (hi : P.info? e = some i) {S : Nat} (h1 : i.size = S) (A : Option Addr) (n c k : Nat) (kk : IntKind) (hk : k ≤ n) (hc : n ≤ c) (w : World) :
    (Instr.slice t (.slice A n c) (some (.int kk k)) none none).run P w = .ok (.slice (if c = k then A else A.map (·.add (k * S))) (n - k) (c - k)) w := by
  have hb : (Instr.sliceBound (.int kk (k : Int)) n .sliceB).run P w = .ok k w := by
    rw [run_sliceBound _ kk k n .sliceB (by omega) (by omega)]; simp
  simp [Instr.slice, Instr.sliceBounds, run_underlying ht, sizeOf, typeInfo, hi, h1, hb]
theorem fate_info : (Try.prog.info? 53).map (fun i => (i.zero, i.size, i.bytes)) = some (some (.agg #[.bool false, .int .i64 0, .bool false, .int .i64 0]), 4, 32) := by kernel_rfl
theorem fcs_length (l : List FT) : (fcs l).length = l.length * 4 := by
  induction l with
  | nil => rfl
  | cons f l ih =>
    have : fcs (f :: l) = f.cells ++ fcs l := rfl
    rw [this, List.length_append, ih, List.length_cons]
    show 4 + l.length * 4 = _
    omega
/-- The first fate is taken away. -/
def EM.fated (m : EM) : EM := { m with FA := if m.fc = 1 then m.FA else m.FA.map (fun a => a.add 4), fc := m.fc - 1, fates := m.fates.tail }
theorem blk_fated (m : EM) : blk m.fated.FA = blk m.FA := by
  unfold EM.fated
  show blk (if m.fc = 1 then m.FA else m.FA.map (fun a => a.add 4)) = _
  split
  · rfl
  · cases m.FA with
    | none => rfl
    | some a => simp [blk, Addr.add]
theorem Em.fated {w w' : World} {base E : Nat} {m : EM} (h : Em w base E m) {f : FT} {r : List FT} (hf : m.fates = f :: r) (hc : Chg (fun k => k = E) w w') (he : Bk w' E 66 m.fated.cells) : Em w' base E m.fated ∧ ∀ k, m.fated.foot E k → m.foot E k := by
  have hS' : ∀ k, k = E → k = E ∨ k = m.C0 ∨ k = m.C1 ∨ m.v.ownBlock = some k := fun k hk => .inl hk
  obtain ⟨z1, z2, z3, z4, z5, z6, z7⟩ := h.keep hc hS'
  obtain ⟨n1, n2, n3, n4, n5⟩ := h.neE
  have hfoot : ∀ k, m.fated.foot E k → m.foot E k := fun k hk => by
    rcases hk with e | e | e | e | e | e | e
    · exact .inl e
    · exact .inr (.inl e)
    · exact .inr (.inr (.inl e))
    · exact .inr (.inr (.inr (.inl e)))
    · rw [blk_fated] at e; exact .inr (.inr (.inr (.inr (.inl e))))
    · exact .inr (.inr (.inr (.inr (.inr (.inl e)))))
    · exact EM.fb e
  have hfl : m.fated.fates = r := by show m.fates.tail = r; rw [hf]; rfl
  have hlen : m.fates.length = r.length + 1 := by rw [hf]; rfl
  refine ⟨{ h with e := he, f := ?_, ft := fun a ha => ?_, fl := ?_, s := z3, sx := z4, k := h.k.chg hc (fun g hg hs => n3 (by rw [hg, hs])), kx := z5, c0 := h.c0.chg hc (fun hs => n1 hs.symm), c1 := h.c1.chg hc (fun hs => n2 hs.symm), x0 := z6, x1 := z7, nd := h.nd, bs := ⟨h.bs.1, h.bs.2.1, h.bs.2.2.1, Nat.le_trans h.bs.2.2.2 hc.size⟩ }, hfoot⟩
  · rw [hfl]
    have hcut := z1.cut_at (k := 4) (by omega) (A' := m.fated.FA) (fun hh => by
      have h2 := h.fl.1
      unfold EM.fated
      show (if m.fc = 1 then m.FA else m.FA.map (fun a => a.add 4)) = _
      rw [if_neg (by omega)]
      cases hFA : m.FA with
      | none => rfl
      | some a =>
        obtain ⟨b, off, e, _⟩ := z1.form (by omega)
        rw [hFA] at e
        injection e with e
        subst e
        rfl)
    rw [hf] at hcut
    have e1 : (fcs (f :: r)).drop 4 = fcs r := rfl
    rw [e1, List.length_cons, show (r.length + 1) * 4 - 4 = r.length * 4 from by omega] at hcut
    exact hcut
  · have hm : a.block ∈ blk m.FA := by rw [← blk_fated]; exact mem_blk.2 ⟨a, ha, rfl⟩
    obtain ⟨a', ha', e⟩ := mem_blk.1 hm
    have := z2 a' ha'
    rw [e] at this
    exact this
  · have h1 := h.fl
    rw [hfl]
    show r.length ≤ m.fc - 1 ∧ r.length ≤ 100000
    omega
theorem Ab.fated {m : EM} {s : ES} (h : Ab m s) : Ab m.fated { s with fates := s.fates.tail } := { h with fates := by show m.fates.tail = s.fates.tail; rw [h.fates] }
/-- Where a Send stands. -/
def SnS (w wx : World) (base E : Nat) (m : EM) (s1 : ES) (f : FT) (d : Int) (A : Option Addr) (n c : Nat) : Prop :=
  (∃ m1, Em wx base E m1 ∧ Ab m1 s1 ∧ s1.ok ∧ Chg (m.foot E) w wx ∧ ∀ k, m1.foot E k → m.foot E k ∨ w.heap.size + 4 ≤ k) ∧ Bk wx (w.heap.size + 3) 53 f.cells ∧
  wx.cell? ⟨w.heap.size, 0, none⟩ = some (.pointer (some ⟨E, 0, none⟩)) ∧ wx.cell? ⟨w.heap.size + 1, 0, none⟩ = some (.int .i64 d) ∧ wx.cell? ⟨w.heap.size + 2, 0, none⟩ = some (.slice A n c) ∧ w.heap.size + 4 ≤ wx.heap.size
end Go.Proofs.Ytknpghemogfenaa
