/- Chapter 21: a decoder that a law has made; adds; begun; awake. -/
import Derived.Test.YtidoembkcaojoaaPf21
namespace Go.Proofs.Ytidoembkcaojoaa
open Go.RowKit
set_option linter.unusedVariables false
/-- A decoder that was made since w0. -/
def Lp (w0 w : World) (D : Nat) (d : DS) : Prop := Below w0.heap.size w0 w ∧ ∃ base FA, Dw w base D d FA ∧ ∀ b, FA b → w0.heap.size ≤ b ∧ b < w.heap.size
section
variable {w0 w1 w w' : World} {D : Nat} {d : DS}
theorem Dw.tight {base : Nat} {FA : Nat → Prop} (h : Dw w base D d FA) : Dw w base D d fun b => FA b ∧ b < w.heap.size := by
  obtain ⟨m, F, h1, h2, h3, h4⟩ := h
  exact ⟨m, F, h1, h2, h3, fun b hb => ⟨h4 b hb, (h1.all_lt hb).2⟩⟩
theorem Lp.below (h : Lp w0 w1 D d) (hb : Below w1.heap.size w1 w) : Lp w0 w D d := by
  obtain ⟨h1, base, FA, h2, h3⟩ := h
  exact ⟨below_base h1 hb h1.size, base, FA, h2.below hb, fun b hb' => ⟨(h3 b hb').1, Nat.lt_of_lt_of_le (h3 b hb').2 hb.size⟩⟩
theorem lp_add (h : Lp w0 w1 D d) (hb : Below w1.heap.size w1 w) {A B : Option Addr} {n nb cA cB : Nat} {set : List Int} {pay : List UInt8} {id : Int} (hN : d.sets.length < 1000) (hr : Rd w A n (nums set)) (hn : n ≤ 1000000) (hp : Rd w B nb (bys pay)) (hnb : nb ≤ 140737488351232) (hw : (Lit.int .i64 id).wf = true)
    (hA : 0 < n → ∀ a, A = some a → a.block < w0.heap.size ∨ w1.heap.size ≤ a.block) (hB : 0 < nb → ∀ a, B = some a → a.block < w0.heap.size ∨ w1.heap.size ≤ a.block) :
    Calls Try.prog 14 #[.pointer (some ⟨D, 0, none⟩), .int .i64 id, .slice A n cA, .slice B nb cB] w fun e w' => ∃ v, e = .returned (.tuple #[v, .int .i64 (d.add id set pay).2.1]) ∧ Lp w0 w' D (d.add id set pay).2.2 ∧ w'.ownsRow w.heap.size 3 1 v (d.add id set pay).1.length (nums (d.add id set pay).1) ∧ (∀ b, (b < w0.heap.size ∨ w1.heap.size ≤ b) → b < w.heap.size → w'.heap[b]? = w.heap[b]?) ∧ w.heap.size ≤ w'.heap.size ∧ (∀ b, v.ownBlock = some b → w.heap.size ≤ b) := by
  obtain ⟨h1, base, FA, h2, h3⟩ := h
  have hap : ∀ b, (b < w0.heap.size ∨ w1.heap.size ≤ b) → ¬ FA b := fun b hb e => by have := h3 b e; omega
  refine (add_dw (h2.below hb) hN hr hn hp hnb hw (fun h0 a ha => hap _ (hA h0 a ha)) (fun h0 a ha => hap _ (hB h0 a ha))).mono ?_
  rintro e w' ⟨v, FB, rfl, p1, p2, p3, p4⟩
  have hz := p3.size
  have hb1 := below_base h1 hb h1.size
  refine ⟨v, rfl, ⟨p3.below hb1 (fun b hb e => (h3 b e).1) hb1.size, base, _, p1.tight, fun b hb => ⟨(p2 b hb.1).elim (fun e => (h3 b e).1) fun e => by have := hb1.size; omega, hb.2⟩⟩, p4.1, fun b hb hl => p3.2 b hl (hap b hb), hz, fun b hb => (own_ty p4.1 hb).2⟩
theorem rd_blk {w w' : World} {A : Option Addr} {n : Nat} {xs : List Value} (h : Rd w A n xs) (hk : 0 < n → ∀ a, A = some a → w'.heap[a.block]? = w.heap[a.block]?) : Rd w' A n xs := by
  refine ⟨h.1, fun h0 => ?_⟩
  obtain ⟨b, off, e, hc⟩ := h.2 h0
  have hk' := hk h0 _ e
  refine ⟨b, off, e, fun j u hu => ?_⟩
  rw [← hc j u hu]
  unfold World.cell?
  have : w'.heap[b]? = w.heap[b]? := hk'
  simp only [this]
set_option maxRecDepth 100000 in
set_option maxHeartbeats 1600000 in
theorem lp_adds (h : Lp w0 w1 D d) (hb : Below w1.heap.size w1 w) {A B W : Option Addr} {n nb cA cB nw cw : Nat} {set ws : List Int} {pay : List UInt8} {id err : Int} (hN : d.sets.length < 1000) (hr : Rd w A n (nums set)) (hn : n ≤ 1000000) (hp : Rd w B nb (bys pay)) (hnb : nb ≤ 140737488351232) (hw : (Lit.int .i64 id).wf = true)
    (hA : 0 < n → ∀ a, A = some a → a.block < w0.heap.size ∨ w1.heap.size ≤ a.block) (hB : 0 < nb → ∀ a, B = some a → a.block < w0.heap.size ∨ w1.heap.size ≤ a.block) (hW : 0 < nw → ∀ a, W = some a → a.block < w0.heap.size ∨ w1.heap.size ≤ a.block) (hrw : Rd w W nw (nums ws)) (hk : d.k ≤ 100) :
    Calls Try.prog 25 #[.pointer (some ⟨D, 0, none⟩), .int .i64 id, .slice A n cA, .slice B nb cB, .int .i64 err, .slice W nw cw] w fun e w' => e = .returned (.bool (((d.add id set pay).2.1 == err) && ((d.add id set pay).1 == ws))) ∧ Lp w0 w' D (d.add id set pay).2.2 := by
  have hlw := hrw.lt
  have H := Lib.hid (And.intro (lp_add (cA := cA) (cB := cB) h hb hN hr hn hp hnb hw hA hB) (And.intro hrw (And.intro hW hlw)))
  have hlen : (d.add id set pay).1.length ≤ 1000 := by
    obtain ⟨_, base, FA, h2, _⟩ := h
    have hok := h2.ok
    by_cases he : d.err id set pay = 0
    · obtain ⟨out, d', e, p1, _⟩ := add_spec hok he
      rw [e]
      have h4 := p1.len (hok.addP he)
      have h5 := unk_le (d.addP id set pay).kn
      have h6 := (hok.addP he).kl
      have h7 : (d.addP id set pay).k = d.k := rfl
      show out.length ≤ 1000
      omega
    · rw [dadd_bad he]; simp
  have HL := Lib.hid hlen
  obtain ⟨T, hT⟩ : ∃ T, d.add id set pay = T := ⟨_, rfl⟩
  rw [hT] at H HL ⊢
  obtain ⟨T1, T2, T3⟩ := T
  clear h hb hN hr hn hp hnb hw hA hB hW hrw hk hlen hT hlw
  dsimp only at H HL ⊢
  by_cases he : T2 = err
  · subst he
    go_enter Try.func25, Try.ntmps25
    go_wp2_with fail
    refine H.out.1.mono ?_
    rintro e w2 ⟨v, rfl, p1, p2, p3, p4, p5⟩
    obtain ⟨V, c, rfl⟩ := own_sl p2
    have hW2 : Rd w2 W nw (nums ws) := rd_blk H.out.2.1 fun h0 a ha => p3 _ (H.out.2.2.1 h0 a ha) (H.out.2.2.2 h0 a ha)
    have HQ := Lib.hid (sameInts_any (c := c) (c' := cw) (Rd.of_own p2) hW2 (by have := HL.out; omega))
    have HP := Lib.hid p1
    clear p1 p2 p3 p4 p5 hW2
    go_wp2_with fail
    refine HQ.out.mono ?_
    rintro e w3 ⟨rfl, hb3⟩
    have HB := Lib.hid hb3
    clear hb3
    go_wp2_with fail
    go_ret
    refine ⟨ret_bool ?_, HP.out.below HB.out⟩
    simp
  · have d1 : decide (T2 = err) = false := decide_eq_false he
    have d2 : (T2 == err) = false := by simpa using he
    clear he
    go_enter Try.func25, Try.ntmps25
    go_wp2_with fail
    refine H.out.1.mono ?_
    rintro e w2 ⟨v, rfl, p1, p2, p3, p4, p5⟩
    have HP := Lib.hid p1
    clear p1 p2 p3 p4 p5
    go_wp2_with fail
    go_ret
    refine ⟨ret_bool ?_, HP.out⟩
    rw [d2]; rfl
theorem lp_adds_lit (h : Hid (Lp w0 w1 D d)) {set : List Int} {pay : List UInt8} {id err : Int} {arr arr2 : Array Value} {n nb cA cB : Nat} (hN : d.sets.length < 1000) (hw : (Lit.int .i64 id).wf = true) (hn : set.length = n) (hn1 : n ≤ 1000) (hnb : pay.length = nb) (hnb1 : nb ≤ 1000) (ha : arr.toList = nums set) (hb : arr2.toList = bys pay) (hk : d.k ≤ 100) :
    Calls Try.prog 25 #[.pointer (some ⟨D, 0, none⟩), .int .i64 id, .slice (some ⟨w1.heap.size, 0, none⟩) n cA, .slice (some ⟨w1.heap.size + 1, 0, none⟩) nb cB, .int .i64 err, .slice none 0 0] ((w1.alloc (.cells arr 3)).alloc (.cells arr2 5)) fun e w' => e = .returned (.bool (((d.add id set pay).2.1 == err) && ((d.add id set pay).1 == []))) ∧ Lp w0 w' D (d.add id set pay).2.2 := by
  have k1 := (Bk.newA w1 3 arr).alloc (.cells arr2 5)
  have k2 := Bk.newA (w1.alloc (.cells arr 3)) 5 arr2
  rw [ha] at k1
  rw [hb, World.size_alloc] at k2
  refine lp_adds h.out (((Below.refl _ _).alloc (Nat.le_refl _) _).alloc (by rw [World.size_alloc]; omega) _) hN (Rd.of_bk k1 (by rw [nums_length]; omega) (by simp [← hn, ← nums_length])) (by omega) (Rd.of_bk k2 (by rw [bys_length]; omega) (by simp [← hnb, ← bys_length])) (by omega) hw (fun _ a ha => .inr (by injection ha with ha; rw [← ha]; exact Nat.le_refl _)) (fun _ a ha => .inr (by injection ha with ha; rw [← ha]; exact Nat.le_succ _)) (fun h0 => absurd h0 (Nat.lt_irrefl _)) (Rd.nil _ _) hk
theorem lp_adds_lit3 (h : Hid (Lp w0 w1 D d)) {set ws : List Int} {pay : List UInt8} {id err : Int} {arr arr2 arr3 : Array Value} {n nb nw cA cB cw : Nat} (hN : d.sets.length < 1000) (hw : (Lit.int .i64 id).wf = true) (hn : set.length = n) (hn1 : n ≤ 1000) (hnb : pay.length = nb) (hnb1 : nb ≤ 1000) (hnw : ws.length = nw) (ha : arr.toList = nums set) (hb : arr2.toList = bys pay) (hc : arr3.toList = nums ws) (hk : d.k ≤ 100) :
    Calls Try.prog 25 #[.pointer (some ⟨D, 0, none⟩), .int .i64 id, .slice (some ⟨w1.heap.size, 0, none⟩) n cA, .slice (some ⟨w1.heap.size + 1, 0, none⟩) nb cB, .int .i64 err, .slice (some ⟨w1.heap.size + 1 + 1, 0, none⟩) nw cw] (((w1.alloc (.cells arr 3)).alloc (.cells arr2 5)).alloc (.cells arr3 3)) fun e w' => e = .returned (.bool (((d.add id set pay).2.1 == err) && ((d.add id set pay).1 == ws))) ∧ Lp w0 w' D (d.add id set pay).2.2 := by
  have k1 := ((Bk.newA w1 3 arr).alloc (.cells arr2 5)).alloc (.cells arr3 3)
  have k2 := (Bk.newA (w1.alloc (.cells arr 3)) 5 arr2).alloc (.cells arr3 3)
  have k3 := Bk.newA ((w1.alloc (.cells arr 3)).alloc (.cells arr2 5)) 3 arr3
  rw [ha] at k1
  rw [hb, World.size_alloc] at k2
  rw [hc, World.size_alloc, World.size_alloc] at k3
  refine lp_adds h.out ((((Below.refl _ _).alloc (Nat.le_refl _) _).alloc (by rw [World.size_alloc]; omega) _).alloc (by rw [World.size_alloc, World.size_alloc]; omega) _) hN (Rd.of_bk k1 (by rw [nums_length]; omega) (by simp [← hn, ← nums_length])) (by omega) (Rd.of_bk k2 (by rw [bys_length]; omega) (by simp [← hnb, ← bys_length])) (by omega) hw (fun _ a ha => .inr (by injection ha with ha; rw [← ha]; exact Nat.le_refl _)) (fun _ a ha => .inr (by injection ha with ha; rw [← ha]; exact Nat.le_succ _)) (fun _ a ha => .inr (by injection ha with ha; rw [← ha]; show w1.heap.size ≤ w1.heap.size + 1 + 1; omega)) (Rd.of_bk k3 (by rw [nums_length]; omega) (by simp [← hnw, ← nums_length])) hk
end
end Go.Proofs.Ytidoembkcaojoaa
