/- Chapter 28: writing over what was told; two manifests in blocks. -/
import Derived.Test.YtchdjbbhhjjmkaaLg28
namespace Go.Proofs.Ytchdjbbhhjjmkaa
open Go.RowKit
set_option linter.unusedVariables false
set_option maxRecDepth 100000 in
/-- OverSymbols: which blocks it writes -/
theorem overSymbols_rows {w : World} {base n c : Nat} {A : Option Addr} {vs : List Value} {xss : List (List UInt8)} (ho : w.ownsRow base 32 1 (.slice A n c) n vs) (hr : ORows w base vs xss) (hn : n ≤ 1000000) (hx : ∀ x ∈ xss, x.length ≤ 1000000) :
    Calls Try.prog 29 #[.slice A n c] w fun e w' => e = .returned (.tuple #[]) ∧ Chg (fun b => ∃ (j : Nat) (u : Value), vs[j]? = some u ∧ u.ownBlock = some b) w w' := by
  have hvl : vs.length = n := by have := ho.1; simpa using this
  have hxl : xss.length = n := by rw [← hr.1]; exact hvl
  have H := Lib.hid (And.intro ho (And.intro hr (And.intro hx (And.intro hvl hxl))))
  have hn' : (n : Int) ≤ 1000000 := by omega
  clear ho hr hx hvl hxl
  go_enter Try.func29, Try.ntmps29
  go_wp2
  go_loopw [2] (fun i wr => ∃ k : Nat, k ≤ n ∧ i = .int .i64 k ∧ Chg (fun b => ∃ (j : Nat) (u : Value), j < k ∧ vs[j]? = some u ∧ u.ownBlock = some b) w wr ∧ w.heap.size ≤ wr.heap.size) (fun i wr => n - (intOf i).toNat)
  case atStart => exact ⟨0, by omega, rfl, Chg.refl _ _, Nat.le_refl _⟩
  case round =>
    obtain ⟨k, hk, rfl, hc, hsz⟩ := hrel
    by_cases hlt : k < n
    · have hkl : k < xss.length := by rw [H.out.2.2.2.2]; exact hlt
      obtain ⟨B, cc, hv, hob⟩ := H.out.2.1.2.1 k _ (List.getElem?_eq_getElem hkl)
      have hno : ∀ (b : Nat), (∃ (j : Nat) (u : Value), j < k ∧ vs[j]? = some u ∧ u.ownBlock = some b) → ¬ ((Value.slice B xss[k].length cc).ownBlock = some b) := fun b ⟨j, u, h1, h2, h3⟩ e => H.out.2.1.2.2 j k u _ b h1 h2 hv h3 e
      have hob2 := own_chgS hob hc fun b e hS => hno b hS e
      have hrow : ∀ b, (∃ (j : Nat) (u : Value), j < k ∧ vs[j]? = some u ∧ u.ownBlock = some b) → ¬ ((Value.slice A n c).ownBlock = some b) := fun b ⟨j, u, h1, h2, h3⟩ e => by
        have hjl : j < xss.length := by have := H.out.2.2.2.2; omega
        obtain ⟨B', c', hv', hob'⟩ := H.out.2.1.2.1 j _ (List.getElem?_eq_getElem hjl)
        rw [h2] at hv'; injection hv' with hv'; subst hv'
        obtain ⟨a, ha, ha'⟩ := ownB h3
        exact own_apart H.out.1 hob' (by decide) a ha (by rw [ha']; exact e)
      have how2 := own_chgS H.out.1 hc fun b e hS => hrow b hS e
      obtain ⟨g, hm, hgb, hgl⟩ := Mut.of_own_below hob2 (Below.refl _ _) (Nat.le_trans (by have := H.out.1; exact own_base H.out.1 H.out.2.1 hlt) hsz)
      have hxk := H.out.2.2.1 _ (List.getElem_mem hkl)
      obtain ⟨b, off, hA, hb, hcc⟩ := (Rd.of_own how2).form (by omega)
      subst hA
      have cx := hcc k _ hv
      have km : (k : Int) < (n : Int) := by omega
      have HO := Lib.hid (over_any (c := cc) hm (by omega))
      have HC := Lib.hid (And.intro hc (And.intro hsz (And.intro hlt (show ∀ b, some b = some g → 0 < xss[k].length → (Value.slice B xss[k].length cc).ownBlock = some b from fun b e h0 => by
        injection e with e
        subst e
        have := (hm.2 h0).1
        rw [this]; rfl))))
      have HV := Lib.hid (And.intro hv hob2)
      have HG := Lib.hid hgl
      clear hc hsz hno hob2 hrow how2 hm hxk hb hcc hlt hob hv hgl hgb
      obtain ⟨m, hmm⟩ : ∃ m, xss[k].length = m := ⟨_, rfl⟩
      rw [hmm] at cx HO HC HV HG
      clear hmm
      go_wp2_with fail
      refine HO.out.mono ?_
      rintro e w4 ⟨rfl, hu⟩
      have HU := Lib.hid hu
      clear hu
      go_wp2
      refine ⟨⟨k + 1, by have := HC.out.2.2.1; omega, by go_num, ?_, Nat.le_trans HC.out.2.1 HU.out.1.size⟩, by have := HC.out.2.2.1; simp [intOf]; omega⟩
      refine (HC.out.1.mono fun b _ ⟨j, u, h1, h2, h3⟩ => ⟨j, u, by omega, h2, h3⟩).trans (Chg.of_grown HU.out.1 (S := fun b => (∃ (j : Nat) (u : Value), j < k + 1 ∧ vs[j]? = some u ∧ u.ownBlock = some b) ∨ wr.heap.size ≤ b) fun b e => ?_) fun b hb hS => hS.elim id fun h => absurd h (by have := HC.out.2.1; omega)
      rcases HG.out with ⟨h0, h1⟩ | ⟨h0, h1⟩
      · exact .inl ⟨k, _, by omega, HV.out.1, HC.out.2.2.2 b e.symm h0⟩
      · right
        injection e with e
        omega
    · obtain rfl : k = n := by omega
      have HC := Lib.hid hc
      clear hc hlt hk hsz
      go_wp2
      go_end0
      exact ⟨rfl, HC.out.mono fun b hb ⟨j, u, h1, h2, h3⟩ => ⟨j, u, h2, h3⟩⟩
theorem overB_own {w : World} {base : Nat} {A : Option Addr} {n c : Nat} {l : List UInt8} (h : w.ownsRow base 5 1 (.slice A n c) n (bys l)) (hbase : base ≤ w.heap.size) (hn : n ≤ 140737488351232) :
    Calls Try.prog 19 #[.slice A n c] w fun e w' => e = .returned (.tuple #[]) ∧ Chg (fun k => base ≤ k) w w' := by
  obtain ⟨g, hm, hg, hc⟩ := Mut.of_own_below h (Below.refl _ _) hbase
  refine (over_any hm hn).mono fun e w' ⟨he, hu⟩ => ⟨he, ⟨⟨hu.1.os, hu.1.tape, hu.1.output, hu.1.size, fun k hk => absurd hk (Nat.not_lt_zero _)⟩, fun k hk hS => hu.1.block k hk fun e => ?_⟩⟩
  injection e with e
  subst e
  exact hS hg
theorem v_mk (z s k d : Int) (t : List Int) (A : Option Addr) (n c : Nat) : (⟨z, s, k, d, t⟩ : MF).v A n c = .agg #[.int .i64 z, .int .i64 s, .int .i64 k, .int .i64 d, .slice A n c] := rfl
/-- Two manifests in blocks. -/
def OS (w w' : World) (G : Nat) (A A3 : Option Addr) (n c d3 : Nat) (z s k d : Int) (t : List Int) : Prop :=
  Bk w' w.heap.size 24 [.int .i64 z, .int .i64 s, .int .i64 k, .int .i64 d, .slice A n c] ∧ Bk w' G 24 [.int .i64 z, .int .i64 s, .int .i64 k, .int .i64 d, .slice A3 n d3] ∧ MA w' A n c ⟨z, s, k, d, t⟩ ∧ MA w' A3 n d3 ⟨z, s, k, d, t⟩ ∧ Below w.heap.size w w'
section
variable {w w' w'' : World} {G n c d3 : Nat} {A A3 : Option Addr} {z s k d : Int} {t : List Int}
theorem OS.below (h : OS w w' G A A3 n c d3 z s k d t) (hb : Below w'.heap.size w' w'') : OS w w'' G A A3 n c d3 z s k d t :=
  ⟨h.1.belowS hb, h.2.1.belowS hb, h.2.2.1.below hb, h.2.2.2.1.below hb, below_base h.2.2.2.2 hb h.2.2.2.2.size⟩
theorem OS.cells (h : OS w w' G A A3 n c d3 z s k d t) : w'.cell? ⟨w.heap.size, 0, none⟩ = some (.int .i64 z) ∧ w'.cell? ⟨w.heap.size, 1, none⟩ = some (.int .i64 s) ∧ w'.cell? ⟨w.heap.size, 2, none⟩ = some (.int .i64 k) ∧ w'.cell? ⟨w.heap.size, 3, none⟩ = some (.int .i64 d) ∧ w'.cell? ⟨w.heap.size, 4, none⟩ = some (.slice A n c) ∧
    w'.cell? ⟨G, 0, none⟩ = some (.int .i64 z) ∧ w'.cell? ⟨G, 1, none⟩ = some (.int .i64 s) ∧ w'.cell? ⟨G, 2, none⟩ = some (.int .i64 k) ∧ w'.cell? ⟨G, 3, none⟩ = some (.int .i64 d) ∧ w'.cell? ⟨G, 4, none⟩ = some (.slice A3 n d3) := by
  obtain ⟨c0, c1, c2, c3, c4⟩ := cells5 h.1
  obtain ⟨e0, e1, e2, e3, e4⟩ := cells5 h.2.1
  exact ⟨c0, c1, c2, c3, c4, e0, e1, e2, e3, e4⟩
end
theorem own_syms {w : World} {base n : Nat} {v : Value} {vs : List Value} {xss : List (List UInt8)} (ho : w.ownsRow base 32 1 v n vs) (hr : ORows w base vs xss) : ∃ A c, v = .slice A n c ∧ n ≤ c ∧ Syms w A n xss := by
  obtain ⟨A, c, rfl, hc, _⟩ := own_form ho
  exact ⟨A, c, rfl, hc, vs, Rd.of_own ho, hr.rows⟩
theorem symsTrue {w : World} {A A' : Option Addr} {n n' c c' : Nat} {xss : List (List UInt8)} (h : Syms w A n xss) (h' : Syms w A' n' xss) (hn : n ≤ 5864062014634) :
    Calls Try.prog 21 #[.slice A n c, .slice A' n' c'] w fun e w' => e = .returned (.bool true) ∧ Below w.heap.size w w' :=
  (sameSymbols_any h h' hn).mono fun e w' ⟨h1, h2⟩ => ⟨by rw [h1]; simp, h2⟩
end Go.Proofs.Ytchdjbbhhjjmkaa
