/- Chapter 21: the program's decoder and the document's, side by side; alike. -/
import Derived.Test.YtidoembkcaojoaaRr21
import Derived.Deep.RegionWith
namespace Go.Proofs.Ytidoembkcaojoaa
open Go.RowKit
set_option linter.unusedVariables false
theorem own_chgv2 {S : Nat → Prop} {w w' : World} {base size n : Nat} {e : TypeId} {v : Value} {xs : List Value} (h : w.ownsRow base e size v n xs) (hc : Chg S w w') (hn : ∀ g, v.ownBlock = some g → ¬ S g) : w'.ownsRow base e size v n xs := own_chgv h hc hn
/-- Both decoders, made since w0. -/
def Sp (w0 w : World) (Dx Dr : Nat) (d : DS) : Prop :=
  Below w0.heap.size w0 w ∧ ∃ bx br FX m FR, Dw w bx Dx d FX ∧ Rc w br Dr m d FR ∧ (∀ b, FX b ∨ FR b → w0.heap.size ≤ b ∧ b < w.heap.size) ∧ ∀ b, FX b → ¬ FR b
section
variable {w0 w1 w : World} {Dx Dr : Nat} {d : DS}
theorem Sp.below (h : Sp w0 w1 Dx Dr d) (hb : Below w1.heap.size w1 w) : Sp w0 w Dx Dr d := by
  obtain ⟨h1, bx, br, FX, m, FR, h2, h3, h4, h5⟩ := h
  have hz := hb.size
  exact ⟨below_base h1 hb h1.size, bx, br, FX, m, FR, h2.below hb, h3.below hb, fun b e => by have := h4 b e; exact ⟨this.1, by omega⟩, h5⟩
theorem Sp.other (h : Sp w0 w1 Dx Dr d) {S : Nat → Prop} (hc : Chg S w1 w) (hS : ∀ b, b < w1.heap.size → S b → w0.heap.size ≤ b) (hN : ∀ b, (∃ bx br FX m FR, Dw w1 bx Dx d FX ∧ Rc w1 br Dr m d FR ∧ (FX b ∨ FR b)) → ¬ S b) : Sp w0 w Dx Dr d := by
  obtain ⟨h1, bx, br, FX, m, FR, h2, h3, h4, h5⟩ := h
  have hz := hc.size
  exact ⟨hc.below h1 hS h1.size, bx, br, FX, m, FR, h2.other hc (fun b e => hN b ⟨bx, br, FX, m, FR, h2, h3, .inl e⟩), h3.other hc (fun b e => hN b ⟨bx, br, FX, m, FR, h2, h3, .inr e⟩), fun b e => by have := h4 b e; exact ⟨this.1, by omega⟩, h5⟩
theorem Sp.ok (h : Sp w0 w Dx Dr d) : d.ok := by obtain ⟨_, _, _, _, _, _, h2, _⟩ := h; exact h2.ok
theorem sp_block (h : Sp w0 w Dx Dr d) : Calls Try.prog 22 #[.pointer (some ⟨Dx, 0, none⟩)] w (BlPost w (blR d).1.length (blR d).1 (blR d).2) := by obtain ⟨_, _, _, _, _, _, h2, _⟩ := h; exact block_dw h2
theorem sp_known (h : Sp w0 w Dx Dr d) : Calls Try.prog 18 #[.pointer (some ⟨Dx, 0, none⟩)] w fun e w' => ∃ v, e = .returned v ∧ w'.ownsRow w.heap.size 3 1 v (knL d.kn).length (nums (knL d.kn)) ∧ Below w.heap.size w w' := by obtain ⟨_, _, _, _, _, _, h2, _⟩ := h; exact known_dw h2
theorem sp_left (h : Sp w0 w Dx Dr d) : Calls Try.prog 34 #[.pointer (some ⟨Dx, 0, none⟩)] w fun e w' => e = .returned (.int .i64 (unk d.kn : Nat)) ∧ w = w' := by obtain ⟨_, _, _, _, _, _, h2, _⟩ := h; exact left_dw h2
theorem sp_done (h : Sp w0 w Dx Dr d) : Calls Try.prog 35 #[.pointer (some ⟨Dx, 0, none⟩)] w fun e w' => e = .returned (.bool (unk d.kn == 0)) ∧ w = w' := by obtain ⟨_, _, _, _, _, _, h2, _⟩ := h; exact done_dw h2
theorem sp_packets (h : Sp w0 w Dx Dr d) : Calls Try.prog 19 #[.pointer (some ⟨Dx, 0, none⟩)] w fun e w' => e = .returned (.int .i64 (d.sets.length : Nat)) ∧ w = w' := by obtain ⟨_, _, _, _, _, _, h2, _⟩ := h; exact packets_dw h2
theorem sp_symbol (h : Sp w0 w Dx Dr d) (i : Int) : Calls Try.prog 21 #[.pointer (some ⟨Dx, 0, none⟩), .int .i64 i] w (SyPost w (syR d i).1 (syR d i).2) := by obtain ⟨_, _, _, _, _, _, h2, _⟩ := h; exact symbol_dw h2 i
theorem sp_rblock (h : Sp w0 w Dx Dr d) : Calls Try.prog 51 #[.pointer (some ⟨Dr, 0, none⟩)] w (BlPost w (blR d).1.length (blR d).1 (blR d).2) := by have hd := h.ok; obtain ⟨_, _, _, _, _, _, _, h3, _⟩ := h; exact rblock_any h3 hd
theorem sp_rknown (h : Sp w0 w Dx Dr d) : Calls Try.prog 52 #[.pointer (some ⟨Dr, 0, none⟩)] w fun e w' => ∃ v, e = .returned v ∧ w'.ownsRow w.heap.size 3 1 v (knL d.kn).length (nums (knL d.kn)) ∧ Below w.heap.size w w' := by have hd := h.ok; obtain ⟨_, _, _, _, _, _, _, h3, _⟩ := h; exact rknown_any h3 hd
theorem sp_rleft (h : Sp w0 w Dx Dr d) : Calls Try.prog 53 #[.pointer (some ⟨Dr, 0, none⟩)] w fun e w' => e = .returned (.int .i64 (unk d.kn : Nat)) ∧ Below w.heap.size w w' := by have hd := h.ok; obtain ⟨_, _, _, _, _, _, _, h3, _⟩ := h; exact rleftN_any h3 hd
theorem sp_rsymbol (h : Sp w0 w Dx Dr d) (i : Int) : Calls Try.prog 54 #[.pointer (some ⟨Dr, 0, none⟩), .int .i64 i] w (SyPost w (syR d i).1 (syR d i).2) := by have hd := h.ok; obtain ⟨_, _, _, _, _, _, _, h3, _⟩ := h; exact rsymbol_any h3 hd i
theorem Sp.cells (h : Sp w0 w Dx Dr d) : w.cell? ⟨Dr, 0, none⟩ = some (.int .i64 (d.k : Nat)) ∧ ∃ A c, w.cell? ⟨Dr, 3, none⟩ = some (.slice A d.sets.length c) := by obtain ⟨_, _, _, _, m, _, _, h3, _⟩ := h; exact ⟨h3.e.cell 0, _, _, h3.e.cell 3⟩
theorem overOwnS {w : World} {base : Nat} {A : Option Addr} {n c : Nat} {l : List UInt8} (h : w.ownsRow base 5 1 (.slice A n c) n (bys l)) (hbase : base ≤ w.heap.size) (hn : n ≤ 140737488351232) :
    Calls Try.prog 33 #[.slice A n c] w fun e w' => e = .returned (.tuple #[]) ∧ Chg (fun k => (Value.slice A n c).ownBlock = some k ∨ w.heap.size ≤ k) w w' := by
  obtain ⟨g, hm, hg, hc⟩ := Mut.of_own_below h (Below.refl _ _) hbase
  refine (over_any hm hn).mono fun e w' ⟨he, hu⟩ => ⟨he, ⟨⟨hu.1.os, hu.1.tape, hu.1.output, hu.1.size, fun k hk => absurd hk (Nat.not_lt_zero _)⟩, fun k hk hS => hu.1.block k hk fun e => ?_⟩⟩
  injection e with e
  subst e
  rcases hc with ⟨h0, h1⟩ | ⟨h0, h1⟩
  · exact hS (.inl (by have := (hm.2 h0).1; rw [this]; rfl))
  · omega
end
set_option maxRecDepth 100000 in
set_option maxHeartbeats 12800000 in
theorem alike_any {w0 w : World} {Dx Dr : Nat} {d : DS} (h : Sp w0 w Dx Dr d) : Calls Try.prog 31 #[.pointer (some ⟨Dx, 0, none⟩), .pointer (some ⟨Dr, 0, none⟩)] w fun e w' => e = .returned (.bool true) ∧ Below w.heap.size w w' := by
  have hd := h.ok
  obtain ⟨K, hK⟩ : ∃ K, d.k = K := ⟨_, rfl⟩
  have hK9 : K ≤ 100 := by have := hd.k1; omega
  obtain ⟨u, hu⟩ : ∃ u, unk d.kn = u := ⟨_, rfl⟩
  obtain ⟨N, hN⟩ : ∃ N, d.sets.length = N := ⟨_, rfl⟩
  obtain ⟨bz, hbz⟩ : ∃ bz, (u == 0) = bz := ⟨_, rfl⟩
  obtain ⟨kl, hkl⟩ : ∃ kl, (knL d.kn).length = kl := ⟨_, rfl⟩
  have hkl9 : kl ≤ 100 := by have h1 := knL_len d.kn; have h2 := hd.kl; omega
  have hbl : (blR d).1.length ≤ 100 ∧ ∀ x ∈ (blR d).1, x.length ≤ 65535 := by
    unfold blR
    split
    · rename_i hz
      refine ⟨by show d.vals.length ≤ 100; rw [hd.vl]; exact hd.k1.2, fun x hx => ?_⟩
      obtain ⟨i, hi, rfl⟩ := List.mem_iff_getElem.1 hx
      have hi' : i < d.k := by rw [← hd.vl]; exact hi
      have := hd.vs i hi' (unk_zero hz (by rw [hd.kl]; exact hi'))
      rw [getD_at hi] at this
      rw [this]; exact hd.s1.2
    · exact ⟨Nat.zero_le _, fun x hx => by cases hx⟩
  obtain ⟨X, hX⟩ : ∃ X, blR d = X := ⟨_, rfl⟩
  rw [hX] at hbl
  obtain ⟨xss, E⟩ := X
  dsimp only at hbl
  obtain ⟨bl, hble⟩ : ∃ bl, xss.length = bl := ⟨_, rfl⟩
  have hbl9 : bl ≤ 100 := by omega
  have H := Lib.hid (And.intro h (And.intro hd (And.intro hK (And.intro hu (And.intro hN (And.intro hbz (And.intro hkl (And.intro hX (And.intro hbl hble)))))))))
  have hb1 := sp_block h
  rw [hX] at hb1
  dsimp only at hb1
  rw [hble] at hb1
  have HB1 := Lib.hid hb1
  clear h hd hK hu hN hbz hkl hX hbl hble hb1
  go_enter Try.func31, Try.ntmps31
  go_wp2_with fail
  refine HB1.out.mono ?_
  rintro e w1 ⟨v1, vs1, rfl, ho1, hor1, hbl1⟩
  obtain ⟨A1, c1, rfl⟩ := own_sl ho1
  have hb2 := sp_rblock (H.out.1.below hbl1)
  rw [H.out.2.2.2.2.2.2.2.1] at hb2
  dsimp only at hb2
  rw [H.out.2.2.2.2.2.2.2.2.2] at hb2
  have H1 := Lib.hid (And.intro ho1 (And.intro hor1 hbl1))
  have HB2 := Lib.hid hb2
  clear ho1 hor1 hbl1 hb2
  go_wp2_with fail
  refine HB2.out.mono ?_
  rintro e w2 ⟨v2, vs2, rfl, ho2, hor2, hbl2⟩
  obtain ⟨A2, c2, rfl⟩ := own_sl ho2
  have HS2 := Lib.hid ((H.out.1.below H1.out.2.2).below hbl2)
  have H2 := Lib.hid (And.intro (And.intro (own_below H1.out.1 hbl2) (H1.out.2.1.below hbl2)) (And.intro (And.intro ho2 hor2) (below_base H1.out.2.2 hbl2 H1.out.2.2.size)))
  have HSy := Lib.hid (And.intro (show Syms w2 A1 bl xss from ⟨vs1, Rd.of_own H2.out.1.1, H2.out.1.2.rows⟩) (show Syms w2 A2 bl xss from ⟨vs2, Rd.of_own ho2, hor2.rows⟩))
  obtain ⟨hc0, LA, lc, hc3⟩ := HS2.out.cells
  rw [H.out.2.2.1] at hc0
  rw [H.out.2.2.2.2.1] at hc3
  clear ho2 hor2 hbl2
  go_upto_region 3 with fail
  go_cut [9] (fun v wx => v = .bool true ∧ Below w2.heap.size w2 wx)
  case first =>
    -- R3
    by_cases hu0 : u = 0
    · subst hu0
      obtain rfl : bz = true := H.out.2.2.2.2.2.1.symm
      refine wp_region_any (by kernel_rfl) ?_
      change wpAny _ _ _ _ _ _ _ (World.drew _)
      have B3 := Lib.hid ((Below.refl w2.heap.size w2).drew)
      refine wpAny_take (i := 0) (v := .pointer (some ⟨Dx, 0, none⟩)) rfl (by kernel_rfl) (by kernel_rfl) (by kernel_rfl) (fun _ _ _ h => h) (Or.inl ⟨by rfl, fun w => by first | rfl | go_simp⟩) ?_
      go_simp
      refine wpAny_take (i := 2) (v := .pointer (some ⟨Dr, 0, none⟩)) rfl (by kernel_rfl) (by kernel_rfl) (by kernel_rfl) (fun _ _ _ h => h) (Or.inl ⟨by rfl, fun w => by first | rfl | go_simp⟩) ?_
      go_simp
      refine wpAny_ready (rs := [1]) (by kernel_rfl) (by simp) ?_
      refine AllReady.cons rfl (fun K hK => ?_) AllReady.nil
      rw [if_pos (by rfl)]
      go_simp
      go_at_call 18
      refine (sp_known (HS2.out.below B3.out)).mono ?_
      rintro e w4 ⟨v, rfl, ho, hb⟩
      rw [H.out.2.2.2.2.2.2.1] at ho
      obtain ⟨V, cv, rfl⟩ := own_sl ho
      have HK := Lib.hid (Rd.of_own ho)
      clear ho
      have B4 := Lib.hid (below_base B3.out hb B3.out.size)
      clear hb
      try go_simp
      refine hK _ _ ?_
      clear hK K
      go_simp
      refine wpAny_ready (rs := [3]) (by kernel_rfl) (by simp) ?_
      refine AllReady.cons rfl (fun K hK => ?_) AllReady.nil
      rw [if_pos (by rfl)]
      go_simp
      go_at_call 52
      refine (sp_rknown (HS2.out.below B4.out)).mono ?_
      rintro e w5 ⟨v, rfl, ho, hb⟩
      rw [H.out.2.2.2.2.2.2.1] at ho
      obtain ⟨V', cv', rfl⟩ := own_sl ho
      have HR := Lib.hid (And.intro (HK.out.below hb) (Rd.of_own ho))
      clear ho
      have B5 := Lib.hid (below_base B4.out hb B4.out.size)
      clear hb
      try go_simp
      refine hK _ _ ?_
      clear hK K
      go_simp
      refine wpAny_ready (rs := [4]) (by kernel_rfl) (by simp) ?_
      refine AllReady.cons rfl (fun K hK => ?_) AllReady.nil
      rw [if_pos (by rfl)]
      go_simp
      go_at_call 16
      refine (sameInts_any HR.out.1 HR.out.2 (by omega)).mono ?_
      rintro e w6 ⟨rfl, hb⟩
      rw [show (knL d.kn == knL d.kn) = true from (by simp)]
      have B6 := Lib.hid (below_base B5.out hb B5.out.size)
      clear hb
      try go_simp
      refine hK _ _ ?_
      clear hK K
      go_simp
      refine wpAny_take (i := 5) (v := .bool true) rfl (by kernel_rfl) (by kernel_rfl) (by kernel_rfl) (fun _ _ _ h => h) (Or.inl ⟨by rfl, fun w => by first | rfl | go_simp⟩) ?_
      go_simp
      refine wpAny_take (i := 6) (v := .pointer (some ⟨Dx, 0, none⟩)) rfl (by kernel_rfl) (by kernel_rfl) (by kernel_rfl) (fun _ _ _ h => h) (Or.inl ⟨by rfl, fun w => by first | rfl | go_simp⟩) ?_
      go_simp
      refine wpAny_take (i := 8) (v := .pointer (some ⟨Dr, 0, none⟩)) rfl (by kernel_rfl) (by kernel_rfl) (by kernel_rfl) (fun _ _ _ h => h) (Or.inl ⟨by rfl, fun w => by first | rfl | go_simp⟩) ?_
      go_simp
      refine wpAny_ready (rs := [7]) (by kernel_rfl) (by simp) ?_
      refine AllReady.cons rfl (fun K hK => ?_) AllReady.nil
      rw [if_pos (by rfl)]
      go_simp
      go_at_call 34
      refine (sp_left (HS2.out.below B6.out)).mono ?_
      rintro e w7 ⟨rfl, rfl⟩
      rw [H.out.2.2.2.1]
      try go_simp
      refine hK _ _ ?_
      clear hK K
      go_simp
      refine wpAny_ready (rs := [9]) (by kernel_rfl) (by simp) ?_
      refine AllReady.cons rfl (fun K hK => ?_) AllReady.nil
      rw [if_pos (by rfl)]
      go_simp
      go_at_call 53
      refine (sp_rleft (HS2.out.below B6.out)).mono ?_
      rintro e w7 ⟨rfl, hb⟩
      rw [H.out.2.2.2.1]
      have B7 := Lib.hid (below_base B6.out hb B6.out.size)
      clear hb
      try go_simp
      refine hK _ _ ?_
      clear hK K
      go_simp
      refine wpAny_take (i := 10) (v := .bool true) rfl (by kernel_rfl) (by kernel_rfl) (by kernel_rfl) (fun _ _ _ h => h) (Or.inl ⟨by rfl, fun w => by first | rfl | go_simp⟩) ?_
      go_simp
      refine wpAny_take (i := 11) (v := .bool true) rfl (by kernel_rfl) (by kernel_rfl) (by kernel_rfl) (fun _ _ _ h => h) (Or.inl ⟨by rfl, fun w => by first | rfl | go_simp⟩) ?_
      go_simp
      refine wpAny_take (i := 12) (v := .bool true) rfl (by kernel_rfl) (by kernel_rfl) (by kernel_rfl) (fun _ _ _ h => h) (Or.inl ⟨by rfl, fun w => by first | rfl | go_simp⟩) ?_
      go_simp
      refine wpAny_take (i := 13) (v := .pointer (some ⟨Dx, 0, none⟩)) rfl (by kernel_rfl) (by kernel_rfl) (by kernel_rfl) (fun _ _ _ h => h) (Or.inl ⟨by rfl, fun w => by first | rfl | go_simp⟩) ?_
      go_simp
      refine wpAny_take (i := 15) (v := .pointer (some ⟨Dr, 0, none⟩)) rfl (by kernel_rfl) (by kernel_rfl) (by kernel_rfl) (fun _ _ _ h => h) (Or.inl ⟨by rfl, fun w => by first | rfl | go_simp⟩) ?_
      go_simp
      refine wpAny_ready (rs := [14]) (by kernel_rfl) (by simp) ?_
      refine AllReady.cons rfl (fun K hK => ?_) AllReady.nil
      rw [if_pos (by rfl)]
      go_simp
      go_at_call 35
      refine (sp_done (HS2.out.below B7.out)).mono ?_
      rintro e w8 ⟨rfl, rfl⟩
      rw [H.out.2.2.2.1, H.out.2.2.2.2.2.1]
      try go_simp
      refine hK _ _ ?_
      clear hK K
      go_simp
      refine wpAny_ready (rs := [16]) (by kernel_rfl) (by simp) ?_
      refine AllReady.cons rfl (fun K hK => ?_) AllReady.nil
      rw [if_pos (by rfl)]
      go_simp
      go_at_call 53
      refine (sp_rleft (HS2.out.below B7.out)).mono ?_
      rintro e w8 ⟨rfl, hb⟩
      rw [H.out.2.2.2.1]
      have c3 := cell_below (below_base B7.out hb B7.out.size) hc3
      have B8 := Lib.hid (below_base B7.out hb B7.out.size)
      clear hb
      try go_simp
      refine hK _ _ ?_
      clear hK K
      go_simp
      refine wpAny_take (i := 17) (v := .bool true) rfl (by kernel_rfl) (by kernel_rfl) (by kernel_rfl) (fun _ _ _ h => h) (Or.inl ⟨by rfl, fun w => by first | rfl | go_simp⟩) ?_
      go_simp
      refine wpAny_take (i := 18) (v := .bool true) rfl (by kernel_rfl) (by kernel_rfl) (by kernel_rfl) (fun _ _ _ h => h) (Or.inl ⟨by rfl, fun w => by first | rfl | go_simp⟩) ?_
      go_simp
      refine wpAny_take (i := 19) (v := .bool true) rfl (by kernel_rfl) (by kernel_rfl) (by kernel_rfl) (fun _ _ _ h => h) (Or.inl ⟨by rfl, fun w => by first | rfl | go_simp⟩) ?_
      go_simp
      refine wpAny_take (i := 20) (v := .bool true) rfl (by kernel_rfl) (by kernel_rfl) (by kernel_rfl) (fun _ _ _ h => h) (Or.inl ⟨by rfl, fun w => by first | rfl | go_simp⟩) ?_
      go_simp
      refine wpAny_take (i := 21) (v := .pointer (some ⟨Dx, 0, none⟩)) rfl (by kernel_rfl) (by kernel_rfl) (by kernel_rfl) (fun _ _ _ h => h) (Or.inl ⟨by rfl, fun w => by first | rfl | go_simp⟩) ?_
      go_simp
      refine wpAny_take (i := 23) (v := .pointer (some ⟨Dr, 0, none⟩)) rfl (by kernel_rfl) (by kernel_rfl) (by kernel_rfl) (fun _ _ _ h => h) (Or.inl ⟨by rfl, fun w => by first | rfl | go_simp⟩) ?_
      go_simp
      refine wpAny_take (i := 24) (v := .pointer (some ⟨Dr, 0, none⟩)) rfl (by kernel_rfl) (by kernel_rfl) (by kernel_rfl) (fun _ _ _ h => h) (Or.inl ⟨by rfl, fun w => by first | rfl | go_simp⟩) ?_
      go_simp
      refine wpAny_take (i := 25) (v := .pointer (some ⟨Dr, 3, none⟩)) rfl (by kernel_rfl) (by kernel_rfl) (by kernel_rfl) (fun _ _ _ h => h) (Or.inl ⟨by rfl, fun w => by first | rfl | go_simp⟩) ?_
      go_simp
      refine wpAny_ready (rs := [22, 26]) (by kernel_rfl) (by simp) ?_
      refine AllReady.cons rfl (fun K hK => ?_) (AllReady.cons rfl (fun K hK => ?_) AllReady.nil)
      · rw [if_pos (by rfl)]
        go_simp
        go_at_call 19
        refine (sp_packets (HS2.out.below B8.out)).mono ?_
        rintro e w9 ⟨rfl, rfl⟩
        rw [H.out.2.2.2.2.1]
        try go_simp
        refine hK _ _ ?_
        clear hK K
        go_simp
        refine wpAny_ready (rs := [26]) (by kernel_rfl) (by simp) ?_
        refine AllReady.cons rfl (fun K hK => ?_) AllReady.nil
        rw [if_pos (by rfl)]
        go_simp
        refine hK _ _ ?_
        clear hK K
        go_simp
        refine wpAny_take (i := 27) (v := .int .i64 (N : Nat)) rfl (by kernel_rfl) (by kernel_rfl) (by kernel_rfl) (fun _ _ _ h => h) (Or.inl ⟨by rfl, fun w => by first | rfl | go_simp⟩) ?_
        go_simp
        refine wpAny_take (i := 28) (v := .bool true) rfl (by kernel_rfl) (by kernel_rfl) (by kernel_rfl) (fun _ _ _ h => h) (Or.inl ⟨by rfl, fun w => by first | rfl | go_simp⟩) ?_
        go_simp
        refine wpAny_take (i := 29) (v := .bool true) rfl (by kernel_rfl) (by kernel_rfl) (by kernel_rfl) (fun _ _ _ h => h) (Or.inl ⟨by rfl, fun w => by first | rfl | go_simp⟩) ?_
        go_simp
        refine wpAny_take (i := 30) (v := .bool true) rfl (by kernel_rfl) (by kernel_rfl) (by kernel_rfl) (fun _ _ _ h => h) (Or.inl ⟨by rfl, fun w => by first | rfl | go_simp⟩) ?_
        go_simp
        refine wpAny_take (i := 31) (v := .slice A1 bl c1) rfl (by kernel_rfl) (by kernel_rfl) (by kernel_rfl) (fun _ _ _ h => h) (Or.inl ⟨by rfl, fun w => by first | rfl | go_simp⟩) ?_
        go_simp
        refine wpAny_take (i := 32) (v := .slice A2 bl c2) rfl (by kernel_rfl) (by kernel_rfl) (by kernel_rfl) (fun _ _ _ h => h) (Or.inl ⟨by rfl, fun w => by first | rfl | go_simp⟩) ?_
        go_simp
        refine wpAny_ready (rs := [33]) (by kernel_rfl) (by simp) ?_
        refine AllReady.cons rfl (fun K hK => ?_) AllReady.nil
        rw [if_pos (by rfl)]
        go_simp
        go_at_call 24
        refine (sameLists_any (HSy.out.1.below B8.out) (HSy.out.2.below B8.out) (by omega)).mono ?_
        rintro e w9 ⟨rfl, hb⟩
        rw [show (xss == xss) = true from (by simp)]
        have B9 := Lib.hid (below_base B8.out hb B8.out.size)
        clear hb
        try go_simp
        refine hK _ _ ?_
        clear hK K
        go_simp
        refine wpAny_take (i := 34) (v := .bool true) rfl (by kernel_rfl) (by kernel_rfl) (by kernel_rfl) (fun _ _ _ h => h) (Or.inl ⟨by rfl, fun w => by first | rfl | go_simp⟩) ?_
        go_simp
        refine wpAny_take (i := 35) (v := .bool true) rfl (by kernel_rfl) (by kernel_rfl) (by kernel_rfl) (fun _ _ _ h => h) (Or.inl ⟨by rfl, fun w => by first | rfl | go_simp⟩) ?_
        go_simp
        refine wpAny_take (i := 36) (v := .int .i64 E) rfl (by kernel_rfl) (by kernel_rfl) (by kernel_rfl) (fun _ _ _ h => h) (Or.inl ⟨by rfl, fun w => by first | rfl | go_simp⟩) ?_
        go_simp
        refine wpAny_take (i := 37) (v := .int .i64 E) rfl (by kernel_rfl) (by kernel_rfl) (by kernel_rfl) (fun _ _ _ h => h) (Or.inl ⟨by rfl, fun w => by first | rfl | go_simp⟩) ?_
        go_simp
        refine wpAny_take (i := 38) (v := .bool true) rfl (by kernel_rfl) (by kernel_rfl) (by kernel_rfl) (fun _ _ _ h => h) (Or.inl ⟨by rfl, fun w => by first | rfl | go_simp⟩) ?_
        go_simp
        refine wpAny_take (i := 39) (v := .bool true) rfl (by kernel_rfl) (by kernel_rfl) (by kernel_rfl) (fun _ _ _ h => h) (Or.inl ⟨by rfl, fun w => by first | rfl | go_simp⟩) ?_
        go_simp
        refine wpAny_take (i := 40) (v := .bool true) rfl (by kernel_rfl) (by kernel_rfl) (by kernel_rfl) (fun _ _ _ h => h) (Or.inl ⟨by rfl, fun w => by first | rfl | go_simp⟩) ?_
        go_simp
        refine wpAny_done (by kernel_rfl) ?_ _
        go_wp2_with fail
        go_meet
        exact ⟨rfl, B9.out⟩
      · rw [if_pos (by rfl)]
        go_simp
        refine hK _ _ ?_
        clear hK K
        go_simp
        refine wpAny_take (i := 27) (v := .int .i64 (N : Nat)) rfl (by kernel_rfl) (by kernel_rfl) (by kernel_rfl) (fun _ _ _ h => h) (Or.inl ⟨by rfl, fun w => by first | rfl | go_simp⟩) ?_
        go_simp
        refine wpAny_ready (rs := [22]) (by kernel_rfl) (by simp) ?_
        refine AllReady.cons rfl (fun K hK => ?_) AllReady.nil
        rw [if_pos (by rfl)]
        go_simp
        go_at_call 19
        refine (sp_packets (HS2.out.below B8.out)).mono ?_
        rintro e w9 ⟨rfl, rfl⟩
        rw [H.out.2.2.2.2.1]
        try go_simp
        refine hK _ _ ?_
        clear hK K
        go_simp
        refine wpAny_take (i := 28) (v := .bool true) rfl (by kernel_rfl) (by kernel_rfl) (by kernel_rfl) (fun _ _ _ h => h) (Or.inl ⟨by rfl, fun w => by first | rfl | go_simp⟩) ?_
        go_simp
        refine wpAny_take (i := 29) (v := .bool true) rfl (by kernel_rfl) (by kernel_rfl) (by kernel_rfl) (fun _ _ _ h => h) (Or.inl ⟨by rfl, fun w => by first | rfl | go_simp⟩) ?_
        go_simp
        refine wpAny_take (i := 30) (v := .bool true) rfl (by kernel_rfl) (by kernel_rfl) (by kernel_rfl) (fun _ _ _ h => h) (Or.inl ⟨by rfl, fun w => by first | rfl | go_simp⟩) ?_
        go_simp
        refine wpAny_take (i := 31) (v := .slice A1 bl c1) rfl (by kernel_rfl) (by kernel_rfl) (by kernel_rfl) (fun _ _ _ h => h) (Or.inl ⟨by rfl, fun w => by first | rfl | go_simp⟩) ?_
        go_simp
        refine wpAny_take (i := 32) (v := .slice A2 bl c2) rfl (by kernel_rfl) (by kernel_rfl) (by kernel_rfl) (fun _ _ _ h => h) (Or.inl ⟨by rfl, fun w => by first | rfl | go_simp⟩) ?_
        go_simp
        refine wpAny_ready (rs := [33]) (by kernel_rfl) (by simp) ?_
        refine AllReady.cons rfl (fun K hK => ?_) AllReady.nil
        rw [if_pos (by rfl)]
        go_simp
        go_at_call 24
        refine (sameLists_any (HSy.out.1.below B8.out) (HSy.out.2.below B8.out) (by omega)).mono ?_
        rintro e w9 ⟨rfl, hb⟩
        rw [show (xss == xss) = true from (by simp)]
        have B9 := Lib.hid (below_base B8.out hb B8.out.size)
        clear hb
        try go_simp
        refine hK _ _ ?_
        clear hK K
        go_simp
        refine wpAny_take (i := 34) (v := .bool true) rfl (by kernel_rfl) (by kernel_rfl) (by kernel_rfl) (fun _ _ _ h => h) (Or.inl ⟨by rfl, fun w => by first | rfl | go_simp⟩) ?_
        go_simp
        refine wpAny_take (i := 35) (v := .bool true) rfl (by kernel_rfl) (by kernel_rfl) (by kernel_rfl) (fun _ _ _ h => h) (Or.inl ⟨by rfl, fun w => by first | rfl | go_simp⟩) ?_
        go_simp
        refine wpAny_take (i := 36) (v := .int .i64 E) rfl (by kernel_rfl) (by kernel_rfl) (by kernel_rfl) (fun _ _ _ h => h) (Or.inl ⟨by rfl, fun w => by first | rfl | go_simp⟩) ?_
        go_simp
        refine wpAny_take (i := 37) (v := .int .i64 E) rfl (by kernel_rfl) (by kernel_rfl) (by kernel_rfl) (fun _ _ _ h => h) (Or.inl ⟨by rfl, fun w => by first | rfl | go_simp⟩) ?_
        go_simp
        refine wpAny_take (i := 38) (v := .bool true) rfl (by kernel_rfl) (by kernel_rfl) (by kernel_rfl) (fun _ _ _ h => h) (Or.inl ⟨by rfl, fun w => by first | rfl | go_simp⟩) ?_
        go_simp
        refine wpAny_take (i := 39) (v := .bool true) rfl (by kernel_rfl) (by kernel_rfl) (by kernel_rfl) (fun _ _ _ h => h) (Or.inl ⟨by rfl, fun w => by first | rfl | go_simp⟩) ?_
        go_simp
        refine wpAny_take (i := 40) (v := .bool true) rfl (by kernel_rfl) (by kernel_rfl) (by kernel_rfl) (fun _ _ _ h => h) (Or.inl ⟨by rfl, fun w => by first | rfl | go_simp⟩) ?_
        go_simp
        refine wpAny_done (by kernel_rfl) ?_ _
        go_wp2_with fail
        go_meet
        exact ⟨rfl, B9.out⟩
    · have e9 : ((u : Int) == 0) = false := by simpa using hu0
      obtain rfl : bz = false := by rw [← H.out.2.2.2.2.2.1]; simpa using hu0
      clear hu0
      refine wp_region_any (by kernel_rfl) ?_
      change wpAny _ _ _ _ _ _ _ (World.drew _)
      have B3 := Lib.hid ((Below.refl w2.heap.size w2).drew)
      refine wpAny_take (i := 0) (v := .pointer (some ⟨Dx, 0, none⟩)) rfl (by kernel_rfl) (by kernel_rfl) (by kernel_rfl) (fun _ _ _ h => h) (Or.inl ⟨by rfl, fun w => by first | rfl | go_simp⟩) ?_
      go_simp
      refine wpAny_take (i := 2) (v := .pointer (some ⟨Dr, 0, none⟩)) rfl (by kernel_rfl) (by kernel_rfl) (by kernel_rfl) (fun _ _ _ h => h) (Or.inl ⟨by rfl, fun w => by first | rfl | go_simp⟩) ?_
      go_simp
      refine wpAny_ready (rs := [1]) (by kernel_rfl) (by simp) ?_
      refine AllReady.cons rfl (fun K hK => ?_) AllReady.nil
      rw [if_pos (by rfl)]
      go_simp
      go_at_call 18
      refine (sp_known (HS2.out.below B3.out)).mono ?_
      rintro e w4 ⟨v, rfl, ho, hb⟩
      rw [H.out.2.2.2.2.2.2.1] at ho
      obtain ⟨V, cv, rfl⟩ := own_sl ho
      have HK := Lib.hid (Rd.of_own ho)
      clear ho
      have B4 := Lib.hid (below_base B3.out hb B3.out.size)
      clear hb
      try go_simp
      refine hK _ _ ?_
      clear hK K
      go_simp
      refine wpAny_ready (rs := [3]) (by kernel_rfl) (by simp) ?_
      refine AllReady.cons rfl (fun K hK => ?_) AllReady.nil
      rw [if_pos (by rfl)]
      go_simp
      go_at_call 52
      refine (sp_rknown (HS2.out.below B4.out)).mono ?_
      rintro e w5 ⟨v, rfl, ho, hb⟩
      rw [H.out.2.2.2.2.2.2.1] at ho
      obtain ⟨V', cv', rfl⟩ := own_sl ho
      have HR := Lib.hid (And.intro (HK.out.below hb) (Rd.of_own ho))
      clear ho
      have B5 := Lib.hid (below_base B4.out hb B4.out.size)
      clear hb
      try go_simp
      refine hK _ _ ?_
      clear hK K
      go_simp
      refine wpAny_ready (rs := [4]) (by kernel_rfl) (by simp) ?_
      refine AllReady.cons rfl (fun K hK => ?_) AllReady.nil
      rw [if_pos (by rfl)]
      go_simp
      go_at_call 16
      refine (sameInts_any HR.out.1 HR.out.2 (by omega)).mono ?_
      rintro e w6 ⟨rfl, hb⟩
      rw [show (knL d.kn == knL d.kn) = true from (by simp)]
      have B6 := Lib.hid (below_base B5.out hb B5.out.size)
      clear hb
      try go_simp
      refine hK _ _ ?_
      clear hK K
      go_simp
      refine wpAny_take (i := 5) (v := .bool true) rfl (by kernel_rfl) (by kernel_rfl) (by kernel_rfl) (fun _ _ _ h => h) (Or.inl ⟨by rfl, fun w => by first | rfl | go_simp⟩) ?_
      go_simp
      refine wpAny_take (i := 6) (v := .pointer (some ⟨Dx, 0, none⟩)) rfl (by kernel_rfl) (by kernel_rfl) (by kernel_rfl) (fun _ _ _ h => h) (Or.inl ⟨by rfl, fun w => by first | rfl | go_simp⟩) ?_
      go_simp
      refine wpAny_take (i := 8) (v := .pointer (some ⟨Dr, 0, none⟩)) rfl (by kernel_rfl) (by kernel_rfl) (by kernel_rfl) (fun _ _ _ h => h) (Or.inl ⟨by rfl, fun w => by first | rfl | go_simp⟩) ?_
      go_simp
      refine wpAny_ready (rs := [7]) (by kernel_rfl) (by simp) ?_
      refine AllReady.cons rfl (fun K hK => ?_) AllReady.nil
      rw [if_pos (by rfl)]
      go_simp
      go_at_call 34
      refine (sp_left (HS2.out.below B6.out)).mono ?_
      rintro e w7 ⟨rfl, rfl⟩
      rw [H.out.2.2.2.1]
      try go_simp
      refine hK _ _ ?_
      clear hK K
      go_simp
      refine wpAny_ready (rs := [9]) (by kernel_rfl) (by simp) ?_
      refine AllReady.cons rfl (fun K hK => ?_) AllReady.nil
      rw [if_pos (by rfl)]
      go_simp
      go_at_call 53
      refine (sp_rleft (HS2.out.below B6.out)).mono ?_
      rintro e w7 ⟨rfl, hb⟩
      rw [H.out.2.2.2.1]
      have B7 := Lib.hid (below_base B6.out hb B6.out.size)
      clear hb
      try go_simp
      refine hK _ _ ?_
      clear hK K
      go_simp
      refine wpAny_take (i := 10) (v := .bool true) rfl (by kernel_rfl) (by kernel_rfl) (by kernel_rfl) (fun _ _ _ h => h) (Or.inl ⟨by rfl, fun w => by first | rfl | go_simp⟩) ?_
      go_simp
      refine wpAny_take (i := 11) (v := .bool true) rfl (by kernel_rfl) (by kernel_rfl) (by kernel_rfl) (fun _ _ _ h => h) (Or.inl ⟨by rfl, fun w => by first | rfl | go_simp⟩) ?_
      go_simp
      refine wpAny_take (i := 12) (v := .bool true) rfl (by kernel_rfl) (by kernel_rfl) (by kernel_rfl) (fun _ _ _ h => h) (Or.inl ⟨by rfl, fun w => by first | rfl | go_simp⟩) ?_
      go_simp
      refine wpAny_take (i := 13) (v := .pointer (some ⟨Dx, 0, none⟩)) rfl (by kernel_rfl) (by kernel_rfl) (by kernel_rfl) (fun _ _ _ h => h) (Or.inl ⟨by rfl, fun w => by first | rfl | go_simp⟩) ?_
      go_simp
      refine wpAny_take (i := 15) (v := .pointer (some ⟨Dr, 0, none⟩)) rfl (by kernel_rfl) (by kernel_rfl) (by kernel_rfl) (fun _ _ _ h => h) (Or.inl ⟨by rfl, fun w => by first | rfl | go_simp⟩) ?_
      go_simp
      refine wpAny_ready (rs := [14]) (by kernel_rfl) (by simp) ?_
      refine AllReady.cons rfl (fun K hK => ?_) AllReady.nil
      rw [if_pos (by rfl)]
      go_simp
      go_at_call 35
      refine (sp_done (HS2.out.below B7.out)).mono ?_
      rintro e w8 ⟨rfl, rfl⟩
      rw [H.out.2.2.2.1, H.out.2.2.2.2.2.1]
      try go_simp
      refine hK _ _ ?_
      clear hK K
      go_simp
      refine wpAny_ready (rs := [16]) (by kernel_rfl) (by simp) ?_
      refine AllReady.cons rfl (fun K hK => ?_) AllReady.nil
      rw [if_pos (by rfl)]
      go_simp
      go_at_call 53
      refine (sp_rleft (HS2.out.below B7.out)).mono ?_
      rintro e w8 ⟨rfl, hb⟩
      rw [H.out.2.2.2.1]
      have c3 := cell_below (below_base B7.out hb B7.out.size) hc3
      have B8 := Lib.hid (below_base B7.out hb B7.out.size)
      clear hb
      try go_simp
      refine hK _ _ ?_
      clear hK K
      go_simp
      refine wpAny_take (i := 17) (v := .bool false) rfl (by kernel_rfl) (by kernel_rfl) (by kernel_rfl) (fun _ _ _ h => h) (Or.inl ⟨by rfl, fun w => by first | rfl | go_simp⟩) ?_
      go_simp
      refine wpAny_take (i := 18) (v := .bool true) rfl (by kernel_rfl) (by kernel_rfl) (by kernel_rfl) (fun _ _ _ h => h) (Or.inl ⟨by rfl, fun w => by first | rfl | go_simp⟩) ?_
      go_simp
      refine wpAny_take (i := 19) (v := .bool true) rfl (by kernel_rfl) (by kernel_rfl) (by kernel_rfl) (fun _ _ _ h => h) (Or.inl ⟨by rfl, fun w => by first | rfl | go_simp⟩) ?_
      go_simp
      refine wpAny_take (i := 20) (v := .bool true) rfl (by kernel_rfl) (by kernel_rfl) (by kernel_rfl) (fun _ _ _ h => h) (Or.inl ⟨by rfl, fun w => by first | rfl | go_simp⟩) ?_
      go_simp
      refine wpAny_take (i := 21) (v := .pointer (some ⟨Dx, 0, none⟩)) rfl (by kernel_rfl) (by kernel_rfl) (by kernel_rfl) (fun _ _ _ h => h) (Or.inl ⟨by rfl, fun w => by first | rfl | go_simp⟩) ?_
      go_simp
      refine wpAny_take (i := 23) (v := .pointer (some ⟨Dr, 0, none⟩)) rfl (by kernel_rfl) (by kernel_rfl) (by kernel_rfl) (fun _ _ _ h => h) (Or.inl ⟨by rfl, fun w => by first | rfl | go_simp⟩) ?_
      go_simp
      refine wpAny_take (i := 24) (v := .pointer (some ⟨Dr, 0, none⟩)) rfl (by kernel_rfl) (by kernel_rfl) (by kernel_rfl) (fun _ _ _ h => h) (Or.inl ⟨by rfl, fun w => by first | rfl | go_simp⟩) ?_
      go_simp
      refine wpAny_take (i := 25) (v := .pointer (some ⟨Dr, 3, none⟩)) rfl (by kernel_rfl) (by kernel_rfl) (by kernel_rfl) (fun _ _ _ h => h) (Or.inl ⟨by rfl, fun w => by first | rfl | go_simp⟩) ?_
      go_simp
      refine wpAny_ready (rs := [22, 26]) (by kernel_rfl) (by simp) ?_
      refine AllReady.cons rfl (fun K hK => ?_) (AllReady.cons rfl (fun K hK => ?_) AllReady.nil)
      · rw [if_pos (by rfl)]
        go_simp
        go_at_call 19
        refine (sp_packets (HS2.out.below B8.out)).mono ?_
        rintro e w9 ⟨rfl, rfl⟩
        rw [H.out.2.2.2.2.1]
        try go_simp
        refine hK _ _ ?_
        clear hK K
        go_simp
        refine wpAny_ready (rs := [26]) (by kernel_rfl) (by simp) ?_
        refine AllReady.cons rfl (fun K hK => ?_) AllReady.nil
        rw [if_pos (by rfl)]
        go_simp
        refine hK _ _ ?_
        clear hK K
        go_simp
        refine wpAny_take (i := 27) (v := .int .i64 (N : Nat)) rfl (by kernel_rfl) (by kernel_rfl) (by kernel_rfl) (fun _ _ _ h => h) (Or.inl ⟨by rfl, fun w => by first | rfl | go_simp⟩) ?_
        go_simp
        refine wpAny_take (i := 28) (v := .bool true) rfl (by kernel_rfl) (by kernel_rfl) (by kernel_rfl) (fun _ _ _ h => h) (Or.inl ⟨by rfl, fun w => by first | rfl | go_simp⟩) ?_
        go_simp
        refine wpAny_take (i := 29) (v := .bool true) rfl (by kernel_rfl) (by kernel_rfl) (by kernel_rfl) (fun _ _ _ h => h) (Or.inl ⟨by rfl, fun w => by first | rfl | go_simp⟩) ?_
        go_simp
        refine wpAny_take (i := 30) (v := .bool true) rfl (by kernel_rfl) (by kernel_rfl) (by kernel_rfl) (fun _ _ _ h => h) (Or.inl ⟨by rfl, fun w => by first | rfl | go_simp⟩) ?_
        go_simp
        refine wpAny_take (i := 31) (v := .slice A1 bl c1) rfl (by kernel_rfl) (by kernel_rfl) (by kernel_rfl) (fun _ _ _ h => h) (Or.inl ⟨by rfl, fun w => by first | rfl | go_simp⟩) ?_
        go_simp
        refine wpAny_take (i := 32) (v := .slice A2 bl c2) rfl (by kernel_rfl) (by kernel_rfl) (by kernel_rfl) (fun _ _ _ h => h) (Or.inl ⟨by rfl, fun w => by first | rfl | go_simp⟩) ?_
        go_simp
        refine wpAny_ready (rs := [33]) (by kernel_rfl) (by simp) ?_
        refine AllReady.cons rfl (fun K hK => ?_) AllReady.nil
        rw [if_pos (by rfl)]
        go_simp
        go_at_call 24
        refine (sameLists_any (HSy.out.1.below B8.out) (HSy.out.2.below B8.out) (by omega)).mono ?_
        rintro e w9 ⟨rfl, hb⟩
        rw [show (xss == xss) = true from (by simp)]
        have B9 := Lib.hid (below_base B8.out hb B8.out.size)
        clear hb
        try go_simp
        refine hK _ _ ?_
        clear hK K
        go_simp
        refine wpAny_take (i := 34) (v := .bool true) rfl (by kernel_rfl) (by kernel_rfl) (by kernel_rfl) (fun _ _ _ h => h) (Or.inl ⟨by rfl, fun w => by first | rfl | go_simp⟩) ?_
        go_simp
        refine wpAny_take (i := 35) (v := .bool true) rfl (by kernel_rfl) (by kernel_rfl) (by kernel_rfl) (fun _ _ _ h => h) (Or.inl ⟨by rfl, fun w => by first | rfl | go_simp⟩) ?_
        go_simp
        refine wpAny_take (i := 36) (v := .int .i64 E) rfl (by kernel_rfl) (by kernel_rfl) (by kernel_rfl) (fun _ _ _ h => h) (Or.inl ⟨by rfl, fun w => by first | rfl | go_simp⟩) ?_
        go_simp
        refine wpAny_take (i := 37) (v := .int .i64 E) rfl (by kernel_rfl) (by kernel_rfl) (by kernel_rfl) (fun _ _ _ h => h) (Or.inl ⟨by rfl, fun w => by first | rfl | go_simp⟩) ?_
        go_simp
        refine wpAny_take (i := 38) (v := .bool true) rfl (by kernel_rfl) (by kernel_rfl) (by kernel_rfl) (fun _ _ _ h => h) (Or.inl ⟨by rfl, fun w => by first | rfl | go_simp⟩) ?_
        go_simp
        refine wpAny_take (i := 39) (v := .bool true) rfl (by kernel_rfl) (by kernel_rfl) (by kernel_rfl) (fun _ _ _ h => h) (Or.inl ⟨by rfl, fun w => by first | rfl | go_simp⟩) ?_
        go_simp
        refine wpAny_take (i := 40) (v := .bool true) rfl (by kernel_rfl) (by kernel_rfl) (by kernel_rfl) (fun _ _ _ h => h) (Or.inl ⟨by rfl, fun w => by first | rfl | go_simp⟩) ?_
        go_simp
        refine wpAny_done (by kernel_rfl) ?_ _
        go_wp2_with fail
        go_meet
        exact ⟨rfl, B9.out⟩
      · rw [if_pos (by rfl)]
        go_simp
        refine hK _ _ ?_
        clear hK K
        go_simp
        refine wpAny_take (i := 27) (v := .int .i64 (N : Nat)) rfl (by kernel_rfl) (by kernel_rfl) (by kernel_rfl) (fun _ _ _ h => h) (Or.inl ⟨by rfl, fun w => by first | rfl | go_simp⟩) ?_
        go_simp
        refine wpAny_ready (rs := [22]) (by kernel_rfl) (by simp) ?_
        refine AllReady.cons rfl (fun K hK => ?_) AllReady.nil
        rw [if_pos (by rfl)]
        go_simp
        go_at_call 19
        refine (sp_packets (HS2.out.below B8.out)).mono ?_
        rintro e w9 ⟨rfl, rfl⟩
        rw [H.out.2.2.2.2.1]
        try go_simp
        refine hK _ _ ?_
        clear hK K
        go_simp
        refine wpAny_take (i := 28) (v := .bool true) rfl (by kernel_rfl) (by kernel_rfl) (by kernel_rfl) (fun _ _ _ h => h) (Or.inl ⟨by rfl, fun w => by first | rfl | go_simp⟩) ?_
        go_simp
        refine wpAny_take (i := 29) (v := .bool true) rfl (by kernel_rfl) (by kernel_rfl) (by kernel_rfl) (fun _ _ _ h => h) (Or.inl ⟨by rfl, fun w => by first | rfl | go_simp⟩) ?_
        go_simp
        refine wpAny_take (i := 30) (v := .bool true) rfl (by kernel_rfl) (by kernel_rfl) (by kernel_rfl) (fun _ _ _ h => h) (Or.inl ⟨by rfl, fun w => by first | rfl | go_simp⟩) ?_
        go_simp
        refine wpAny_take (i := 31) (v := .slice A1 bl c1) rfl (by kernel_rfl) (by kernel_rfl) (by kernel_rfl) (fun _ _ _ h => h) (Or.inl ⟨by rfl, fun w => by first | rfl | go_simp⟩) ?_
        go_simp
        refine wpAny_take (i := 32) (v := .slice A2 bl c2) rfl (by kernel_rfl) (by kernel_rfl) (by kernel_rfl) (fun _ _ _ h => h) (Or.inl ⟨by rfl, fun w => by first | rfl | go_simp⟩) ?_
        go_simp
        refine wpAny_ready (rs := [33]) (by kernel_rfl) (by simp) ?_
        refine AllReady.cons rfl (fun K hK => ?_) AllReady.nil
        rw [if_pos (by rfl)]
        go_simp
        go_at_call 24
        refine (sameLists_any (HSy.out.1.below B8.out) (HSy.out.2.below B8.out) (by omega)).mono ?_
        rintro e w9 ⟨rfl, hb⟩
        rw [show (xss == xss) = true from (by simp)]
        have B9 := Lib.hid (below_base B8.out hb B8.out.size)
        clear hb
        try go_simp
        refine hK _ _ ?_
        clear hK K
        go_simp
        refine wpAny_take (i := 34) (v := .bool true) rfl (by kernel_rfl) (by kernel_rfl) (by kernel_rfl) (fun _ _ _ h => h) (Or.inl ⟨by rfl, fun w => by first | rfl | go_simp⟩) ?_
        go_simp
        refine wpAny_take (i := 35) (v := .bool true) rfl (by kernel_rfl) (by kernel_rfl) (by kernel_rfl) (fun _ _ _ h => h) (Or.inl ⟨by rfl, fun w => by first | rfl | go_simp⟩) ?_
        go_simp
        refine wpAny_take (i := 36) (v := .int .i64 E) rfl (by kernel_rfl) (by kernel_rfl) (by kernel_rfl) (fun _ _ _ h => h) (Or.inl ⟨by rfl, fun w => by first | rfl | go_simp⟩) ?_
        go_simp
        refine wpAny_take (i := 37) (v := .int .i64 E) rfl (by kernel_rfl) (by kernel_rfl) (by kernel_rfl) (fun _ _ _ h => h) (Or.inl ⟨by rfl, fun w => by first | rfl | go_simp⟩) ?_
        go_simp
        refine wpAny_take (i := 38) (v := .bool true) rfl (by kernel_rfl) (by kernel_rfl) (by kernel_rfl) (fun _ _ _ h => h) (Or.inl ⟨by rfl, fun w => by first | rfl | go_simp⟩) ?_
        go_simp
        refine wpAny_take (i := 39) (v := .bool true) rfl (by kernel_rfl) (by kernel_rfl) (by kernel_rfl) (fun _ _ _ h => h) (Or.inl ⟨by rfl, fun w => by first | rfl | go_simp⟩) ?_
        go_simp
        refine wpAny_take (i := 40) (v := .bool true) rfl (by kernel_rfl) (by kernel_rfl) (by kernel_rfl) (fun _ _ _ h => h) (Or.inl ⟨by rfl, fun w => by first | rfl | go_simp⟩) ?_
        go_simp
        refine wpAny_done (by kernel_rfl) ?_ _
        go_wp2_with fail
        go_meet
        exact ⟨rfl, B9.out⟩
    -- 3R
  case rest =>
    obtain ⟨rfl, hb3⟩ := hcut
    have HB3 := Lib.hid hb3
    clear hb3 hc0 hc3
    go_upto_block 0 with fail
    go_cut [9, 10, 11, 12, 13, 14] (fun v9 v10 v11 v12 v13 v14 wx => v9 = .bool true ∧ Below w2.heap.size w2 wx)
    case first =>
      go_wp2_with fail
      go_loopw [9, 10] (fun s i wr => ∃ iv : Int, s = .bool true ∧ i = .int .i64 iv ∧ -1 ≤ iv ∧ iv ≤ 41 ∧ Below w2.heap.size w2 wr) (fun s i wr => 50 - (intOf i + 1).toNat)
      case atStart => exact ⟨-1, rfl, rfl, by decide, by decide, HB3.out⟩
      case round =>
        obtain ⟨iv, rfl, rfl, h1, h2, hb⟩ := hrel
        have hSr := HS2.out.below hb
        have c0 := hSr.cells.1
        rw [H.out.2.2.1] at c0
        by_cases g1 : iv ≤ (K : Int)
        · have d1 : decide (iv ≤ (K : Int)) = true := decide_eq_true g1
          by_cases g2 : iv < 41
          · have d2 : decide (iv < 41) = true := decide_eq_true g2
            have hsx := sp_symbol hSr iv
            obtain ⟨T, hT⟩ : ∃ T, syR d iv = T := ⟨_, rfl⟩
            have hl9 : T.1.length ≤ 65535 := by
              rw [← hT]
              unfold syR
              split
              · split
                · rename_i ha hk
                  rw [H.out.2.1.vx ha hk]; exact H.out.2.1.s1.2
                · exact Nat.zero_le _
              · exact Nat.zero_le _
            rw [hT] at hsx
            have HX := Lib.hid (And.intro hSr (And.intro hT (And.intro hb (And.intro h1 (And.intro hl9 g2)))))
            obtain ⟨l1, e1⟩ := T
            dsimp only at hsx hl9
            obtain ⟨ll, hll⟩ : ∃ ll, l1.length = ll := ⟨_, rfl⟩
            rw [hll] at hl9
            have HS := Lib.hid (And.intro hsx hll)
            clear hSr hT hb hsx hll g1
            go_wp2_with fail
            refine HS.out.1.mono ?_
            rintro e w4 ⟨v4, rfl, ho4, hb4⟩
            rw [HS.out.2] at ho4
            obtain ⟨A4, c4, rfl⟩ := own_sl ho4
            have hsr := sp_rsymbol (HX.out.1.below hb4) iv
            rw [HX.out.2.1] at hsr
            dsimp only at hsr
            have H4 := Lib.hid (And.intro ho4 (And.intro hb4 hsr))
            clear ho4 hb4 hsr c0
            go_wp2_with fail
            refine H4.out.2.2.mono ?_
            rintro e w5 ⟨v5, rfl, ho5, hb5⟩
            rw [HS.out.2] at ho5
            obtain ⟨A5, c5, rfl⟩ := own_sl ho5
            have hsm := same_any (c := c4) (c' := c5) ((Rd.of_own H4.out.1).below hb5) (Rd.of_own ho5)
            rw [show (l1 == l1) = true from by simp] at hsm
            have H5 := Lib.hid (And.intro hsm (And.intro hb5 (own_below H4.out.1 hb5)))
            clear hsm ho5 hb5
            go_wp2_with fail
            refine H5.out.1.mono ?_
            rintro e w6 ⟨rfl, rfl⟩
            go_wp2_with fail
            refine (overOwnS H5.out.2.2 (by have := H4.out.2.1.size; have := H5.out.2.1.size; omega) (by omega)).mono ?_
            rintro e w7 ⟨rfl, hc7⟩
            have hb7 : Below w2.heap.size w2 w7 := hc7.below (below_base (below_base HX.out.2.2.1 H4.out.2.1 HX.out.2.2.1.size) H5.out.2.1 (Nat.le_trans HX.out.2.2.1.size H4.out.2.1.size)) (fun k hk e => by
              have z1 := HX.out.2.2.1.size
              have z2 := H4.out.2.1.size
              have z3 := H5.out.2.1.size
              rcases e with e | e
              · have := (H5.out.2.2.lt k e).1; omega
              · omega) (by have z1 := HX.out.2.2.1.size; have z2 := H4.out.2.1.size; have z3 := H5.out.2.1.size; omega)
            have HB7 := Lib.hid hb7
            clear hc7 hb7
            go_wp2_with fail
            refine ⟨⟨iv + 1, by simp, by go_num, by omega, by omega, HB7.out⟩, ?_⟩
            simp [intOf]
            omega
          · have d2 : decide (iv < 41) = false := decide_eq_false g2
            have HB := Lib.hid hb
            clear hSr hb g1 g2
            go_wp2_with fail
            go_meet
            exact ⟨rfl, HB.out⟩
        · have d1 : decide (iv ≤ (K : Int)) = false := decide_eq_false g1
          have HB := Lib.hid hb
          clear hSr hb g1
          go_wp2_with fail
          go_meet
          exact ⟨rfl, HB.out⟩
    case rest =>
      obtain ⟨rfl, hb4⟩ := hcut
      have HB4 := Lib.hid (And.intro hb4 (And.intro (own_below H2.out.1.1 hb4) (H2.out.1.2.below hb4)))
      clear hb4
      have hxl : xss.length = bl := H.out.2.2.2.2.2.2.2.2.2
      have HXl := Lib.hid (And.intro hxl H.out.2.2.2.2.2.2.2.2.1.2)
      clear hxl
      go_wp2_with fail
      go_loopw [15] (fun i wr => ∃ k : Nat, k ≤ bl ∧ i = .int .i64 k ∧ Chg (fun b => ∃ (j : Nat) (u : Value), j < k ∧ vs1[j]? = some u ∧ u.ownBlock = some b) wc wr) (fun i wr => bl - (intOf i).toNat)
      case atStart => exact ⟨0, by omega, rfl, Chg.refl _ _⟩
      case round =>
        obtain ⟨k, hk, rfl, hc⟩ := hrel
        by_cases hlt : k < bl
        · have hkl : k < xss.length := by rw [HXl.out.1]; exact hlt
          obtain ⟨B, cc, hv, hob⟩ := HB4.out.2.2.2.1 k _ (List.getElem?_eq_getElem hkl)
          have hno : ∀ (b : Nat), (∃ (j : Nat) (u : Value), j < k ∧ vs1[j]? = some u ∧ u.ownBlock = some b) → ¬ ((Value.slice B xss[k].length cc).ownBlock = some b) := fun b ⟨j, u, h1, h2, h3⟩ e => HB4.out.2.2.2.2 j k u _ b h1 h2 hv h3 e
          have hob2 := own_chgv2 hob hc fun b e hS => hno b hS e
          have hrow : ∀ b, (∃ (j : Nat) (u : Value), j < k ∧ vs1[j]? = some u ∧ u.ownBlock = some b) → ¬ ((Value.slice A1 bl c1).ownBlock = some b) := fun b ⟨j, u, h1, h2, h3⟩ e => by
            have hjl : j < xss.length := by have := HXl.out.1; omega
            obtain ⟨B', c', hv', hob'⟩ := HB4.out.2.2.2.1 j _ (List.getElem?_eq_getElem hjl)
            rw [h2] at hv'; injection hv' with hv'; subst hv'
            obtain ⟨a, ha, ha'⟩ := ownB h3
            exact own_apart HB4.out.2.1 hob' (by decide) a ha (by rw [ha']; exact e)
          have how2 := own_chgv2 HB4.out.2.1 hc fun b e hS => hrow b hS e
          have hxk := HXl.out.2 _ (List.getElem_mem hkl)
          obtain ⟨b, off, hA, hb, hcc⟩ := (Rd.of_own how2).form (by omega)
          subst hA
          have cx := hcc k _ hv
          have km : (k : Int) < (bl : Int) := by omega
          have kd : decide ((k : Int) < (bl : Int)) = true := decide_eq_true km
          have kd' : decide (k < bl) = true := decide_eq_true hlt
          have k0 : (0 : Int) ≤ (k : Int) := by omega
          have hzs : w.heap.size ≤ wr.heap.size := by have z1 := H2.out.2.2.size; have z2 := HB4.out.1.size; have z3 := hc.size; omega
          have HO := Lib.hid (overOwnS hob2 hzs (by omega))
          have HC := Lib.hid (And.intro hc (And.intro hlt hv))
          clear hc hno hob2 hrow how2 hxk hb hcc hlt hob hv hzs hk
          obtain ⟨m, hmm⟩ : ∃ m, xss[k].length = m := ⟨_, rfl⟩
          rw [hmm] at cx HO HC
          clear hmm
          go_wp2_with fail
          refine HO.out.mono ?_
          rintro e w4 ⟨rfl, hu⟩
          have HU := Lib.hid hu
          clear hu
          go_wp2_with fail
          refine ⟨⟨k + 1, HC.out.2.1, by go_num, ?_⟩, by have := HC.out.2.1; simp [intOf]; omega⟩
          refine (HC.out.1.mono fun b _ ⟨j, u, h1, h2, h3⟩ => ⟨j, u, by omega, h2, h3⟩).trans (HU.out.mono (T := fun b => (∃ (j : Nat) (u : Value), j < k + 1 ∧ vs1[j]? = some u ∧ u.ownBlock = some b) ∨ wr.heap.size ≤ b) fun b hb e => ?_) fun b hb hS => hS.elim (fun e => e) fun h => absurd h (by have := HC.out.1.size; omega)
          rcases e with e | e
          · exact .inl ⟨k, _, by omega, HC.out.2.2, e⟩
          · exact .inr e
        · have hkb : k = bl := by omega
          have kd : decide ((k : Int) < (bl : Int)) = false := decide_eq_false (by omega)
          have kd' : decide (k < bl) = false := decide_eq_false (by omega)
          have HC := Lib.hid hc
          clear hc hlt hk
          go_wp2_with fail
          go_ret
          refine ⟨rfl, HC.out.below (below_base H2.out.2.2 HB4.out.1 H2.out.2.2.size) (fun b hb e => ?_) (by have := H2.out.2.2.size; have := HB4.out.1.size; omega)⟩
          obtain ⟨j, u, h1, h2, h3⟩ := e
          exact (HB4.out.2.2.blk j u b h2 h3).1
end Go.Proofs.Ytidoembkcaojoaa
