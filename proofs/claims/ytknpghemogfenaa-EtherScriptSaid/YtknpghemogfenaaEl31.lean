/- Chapter 31: a datagram flies: its walk. -/
import Derived.Test.YtknpghemogfenaaEp31
namespace Go.Proofs.Ytknpghemogfenaa
open Go.Conc Go.RowKit
set_option linter.unusedVariables false
theorem cell_below {w w' : World} {p : Addr} {u : Value} (hb : Below w.heap.size w w') (h : w.cell? p = some u) : w'.cell? p = some u := (hb.cell (World.block_lt_of_cell? w p h)).trans h
set_option maxRecDepth 100000 in
set_option maxHeartbeats 3200000 in
theorem flies_any {w : World} {base E : Nat} {m : EM} (h : Em w base E m) {X T B n c : Nat} {A : Option Addr} {x : List UInt8} {d wait : Int}
    (hX : w.cell? ⟨X, 0, none⟩ = some (.pointer (some ⟨E, 0, none⟩))) (hT : w.cell? ⟨T, 0, none⟩ = some (.int .i64 d)) (hB : w.cell? ⟨B, 0, none⟩ = some (.slice A n c)) (hXf : ¬ m.foot E X) (hTf : ¬ m.foot E T) (hBf : ¬ m.foot E B)
    (hr : Rd w A n (bys x)) (hn : n ≤ 70000) (hw0 : 0 ≤ wait ∧ wait ≤ 10000) (hnow : 0 ≤ m.now ∧ m.now ≤ 1000000) (hnb : 0 ≤ m.number ∧ m.number ≤ 1000000) (hnum : ∀ f ∈ m.l, f.b ≠ m.number) (hl : m.l.length ≤ 1000000) :
    Calls Try.prog 36 #[.int .i64 wait, .pointer (some ⟨X, 0, none⟩), .pointer (some ⟨T, 0, none⟩), .pointer (some ⟨B, 0, none⟩)] w fun e w' => e = .returned (.tuple #[]) ∧
      ∃ v' l' g, g.a = m.now + 1 + wait ∧ g.b = m.number ∧ g.d = d ∧ l'.Perm (m.l ++ [g]) ∧ Em w' base E (m.push v' l' x) ∧ Chg (m.foot E) w w' ∧ ∀ k, (m.push v' l' x).foot E k → m.foot E k ∨ w.heap.size ≤ k := by
  have H := Lib.hid (And.intro h (And.intro hr (And.intro hXf (And.intro hnum hl))))
  obtain ⟨_, _, c2, c3, _, _, _, _⟩ := h.cell
  obtain ⟨hw1, hw2⟩ := hw0
  obtain ⟨hn1, hn2⟩ := hnow
  obtain ⟨hb1, hb2⟩ := hnb
  have e1 : IntKind.i64.wrap (m.now + 1) = m.now + 1 := by rw [IntKind.wrap_i64]; omega
  have e2 : IntKind.i64.wrap (m.now + 1 + wait) = m.now + 1 + wait := by rw [IntKind.wrap_i64]; omega
  have e3 : IntKind.i64.wrap (m.number + 1) = m.number + 1 := by rw [IntKind.wrap_i64]; omega
  have FC := Lib.hid (show ∀ w', Below w.heap.size w w' → (w'.cell? ⟨X, 0, none⟩ = some (.pointer (some ⟨E, 0, none⟩)) ∧ w'.cell? ⟨T, 0, none⟩ = some (.int .i64 d) ∧ w'.cell? ⟨B, 0, none⟩ = some (.slice A n c) ∧ w'.cell? ⟨E, 2, none⟩ = some (.int .i64 m.now) ∧ w'.cell? ⟨E, 3, none⟩ = some (.int .i64 m.number)) from fun w' hb => ⟨cell_below hb hX, cell_below hb hT, cell_below hb hB, cell_below hb c2, cell_below hb c3⟩)
  have hhf : ∀ w1, Below w.heap.size w w1 → HF w1 base E m.cells 4 m.v m.l := fun w1 hb => ⟨h.e.belowS hb, rfl, h.k.below hb, h.neE.2.2.1, Nat.le_trans h.bs.2.2.2 hb.size⟩
  have HH := Lib.hid hhf
  have hpk : ∀ w1 w2 v' l', Below w.heap.size w w1 → HF w2 base E (m.cells.set 4 v') 4 v' l' → Chg (fun k => k = E ∨ m.v.ownBlock = some k) w1 w2 → (w2.cell? ⟨X, 0, none⟩ = some (.pointer (some ⟨E, 0, none⟩)) ∧ w2.cell? ⟨T, 0, none⟩ = some (.int .i64 d) ∧ w2.cell? ⟨B, 0, none⟩ = some (.slice A n c) ∧ w2.cell? ⟨E, 2, none⟩ = some (.int .i64 m.now) ∧ w2.cell? ⟨E, 3, none⟩ = some (.int .i64 m.number)) := fun w1 w2 v' l' hb hf hc => by
    obtain ⟨a1, a2, a3, a4, a5⟩ := FC.out w1 hb
    have hk : ∀ q, ¬ m.foot E q → ¬ (q = E ∨ m.v.ownBlock = some q) := fun q hq hh => hq (hh.elim .inl EM.fv)
    refine ⟨hc.cell a1 (hk _ hXf), hc.cell a2 (hk _ hTf), hc.cell a3 (hk _ hBf), ?_, ?_⟩
    · rw [hf.1.cell]; rfl
    · rw [hf.1.cell]; rfl
  have HPK := Lib.hid hpk
  have HN := Lib.hid (And.intro True.intro (And.intro hb1 hb2))
  clear h hr hXf hTf hBf hnum hl hhf hpk
  go_enter Try.func36, Try.ntmps36
  go_wp2_with fail
  go_region_held3 (fun w' => w'.cell? ⟨X, 0, none⟩ = some (.pointer (some ⟨E, 0, none⟩)) ∧ w'.cell? ⟨T, 0, none⟩ = some (.int .i64 d) ∧ w'.cell? ⟨B, 0, none⟩ = some (.slice A n c) ∧ w'.cell? ⟨E, 2, none⟩ = some (.int .i64 m.now) ∧ w'.cell? ⟨E, 3, none⟩ = some (.int .i64 m.number))
    (first | exact S2.out.2 | exact FC.out _ H1.out.2 | go_keep)
    (first
      | (go_at_call 34; refine (clone_any (H.out.2.1.below (Below.refl w.heap.size w).drew) (by omega)).mono ?_; rintro e w1 ⟨v1, rfl, ho1, hb1⟩; obtain ⟨A1, d1, rfl, hd1, hx1⟩ := own_form ho1; clear hx1 hd1; have H1 := Lib.hid (And.intro ho1 (below_undrew hb1)); clear ho1 hb1)
      | (go_at_call 37; refine (heapPush_any (o := 4) ⟨m.now + 1 + wait, m.number, d, A1, n, d1⟩ (HH.out _ H1.out.2) H.out.1.hp H.out.1.fit ⟨HN.out.2.1, by have := HN.out.2.2; show m.number < 1099511627776; omega⟩ H.out.2.2.2.2).mono ?_; rintro e w2 ⟨rfl, v', l', hf, hp, hh, hc, hv⟩; have S2 := Lib.hid (And.intro (And.intro hf (And.intro hp (And.intro hh (And.intro hc hv)))) (HPK.out _ _ _ _ H1.out.2 hf hc)); have f3 := hf.1.frozen 3; clear hf hp hh hc hv))
  obtain ⟨k1, k2, k3, k4, k5⟩ := S2.out.2
  go_wp2_with fail
  go_end0
  have hpu := H.out.1.pushed H1.out.2 H1.out.1 hn (e := ⟨m.now + 1 + wait, m.number, d, A1, n, d1⟩) ⟨rfl, rfl, rfl, rfl⟩ ⟨HN.out.2.1, by have := HN.out.2.2; show m.number < 1099511627776; omega⟩ H.out.2.2.2.1 S2.out.1.1 S2.out.1.2.1 S2.out.1.2.2.1 S2.out.1.2.2.2.1 S2.out.1.2.2.2.2
  exact ⟨rfl, v', l', _, rfl, rfl, rfl, S2.out.1.2.1, hpu.1, hpu.2.1, hpu.2.2⟩
end Go.Proofs.Ytknpghemogfenaa
