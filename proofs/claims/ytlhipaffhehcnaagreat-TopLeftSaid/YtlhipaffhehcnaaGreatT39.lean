/- TopLeft: mass.of: its iterator. TopLeft: mass.Sets. -/
import Derived.Test.YtlhipaffhehcnaaGreatT37
import Derived.Deep.RegionLawGrows
namespace Go.Proofs.YtlhipaffhehcnaaGreat
open Go.RowKit Go.Shelf
set_option linter.unusedVariables false
set_option linter.unusedSimpArgs false
attribute [local go_sem] Oper.semAt_some
/-- What of's iterator yields. -/
def OkS (ls : List (List Nat)) (i : Nat) (U : Nat → Prop) (x : Array Value) (W : World) : Prop := ∃ A c l, x = #[.slice A l.length c] ∧ ls[i]? = some l ∧ l.length ≤ c ∧ Rd W A l.length (wts l) ∧ ∀ a, A = some a → ¬ U a.block
/-- What of's iterator owns. -/
def OfV (A : Option Addr) (bd bs bf bk x : Nat) : Prop := x = bd ∨ x = bs ∨ x = bf ∨ x = bk ∨ ∃ a, A = some a ∧ x = a.block
set_option maxRecDepth 100000 in
set_option maxHeartbeats 4000000 in
theorem of0_iter {w : World} {A : Option Addr} {n c : Nat} {sm : List Nat} {k fr bd bs bf bk m : Nat} (hm : 2 ≤ m) (h : OfF A n c sm k fr 0 bd bs bf bk w) (hn1 : 0 < n) (hn : n ≤ 8) :
    IterU Fence.wide m Tryz.prog 42 #[.pointer (some ⟨bd, 0, none⟩), .pointer (some ⟨bs, 0, none⟩), .pointer (some ⟨bf, 0, none⟩), .pointer (some ⟨bk, 0, none⟩)] (OfV A bd bs bf bk) (OkS (ofS k 0 fr sm)) (ofS k 0 fr sm).length w := by
  intro l J Jx U W hkw hlW hlV hVU hJU hJ hJx hY h0
  have hW := h.kq hkw
  have hsm : sm.length = n := by have := hW.r.1; simpa [wts] using this
  obtain ⟨W1, hW1⟩ : ∃ W1, W.alloc (.cells #[.func (.yield l) #[] #[]] 92) = W1 := ⟨_, rfl⟩
  obtain ⟨b5, hb5⟩ : ∃ b5, W.heap.size = b5 := ⟨_, rfl⟩
  have hbl : Below W.heap.size W W1 := by rw [← hW1]; exact bl_allocd (Below.refl _ _) _
  have k5 : Bk W1 b5 92 [.func (.yield l) #[] #[]] := by rw [← hW1, ← hb5]; exact Bk.newA W 92 #[.func (.yield l) #[] #[]]
  have H1 := Lib.hid (And.intro (hW.below hbl) (And.intro k5 (And.intro hbl (hJ _ _ _ _ h0 (Kq.of_below _ hbl)))))
  have HH := Lib.hid (And.intro hJU (And.intro hJ (And.intro hY (And.intro hn1 (And.intro hn hsm)))))
  have HW1 := Lib.hid hW1
  have c1 := (hW.below hbl).kd.cell 0
  have c1' : (W.alloc (.cells #[.func (.yield l) #[] #[]] 92)).cell? ⟨bd, 0, none⟩ = some (.int .i64 0) := by rw [hW1]; exact c1
  clear h hkw hlW hlV hVU hJU hJ hJx hY h0 hn1 hn hsm hW hbl k5 c1 hW1
  refine callsIn_of_wp_marks Tryz.func42 rfl trivial ?_ rfl
  simp only [Tryz.ntmps42, List.size_toArray, List.length_cons, List.length_nil, Nat.reduceAdd, Nat.reduceSub, Array.replicate_succ, Array.replicate_zero, List.push_toArray, List.append_toArray, List.nil_append, List.cons_append]
  gi_wp2
  rw [HW1.out]
  clear c1'
  have y5 := (H1.out.2.1.belowS (Below.refl _ _).drew).cell 0
  have ys := (H1.out.1.ks.belowS (Below.refl _ _).drew).cell 0
  simp at y5 ys
  have HR := Lib.hid (show Rd W1.drew A n (nums (sm.map fun x : Nat => (x : Int))) by have := (H1.out.1.r).drew; rw [wts_nums] at this; exact this)
  have M1 := Lib.hid True.intro
  gi_region_with (first
    | (clear M1; refine ⟨trivial, fun _ => by omega, ((callsIn_wide).2 (cloneI_any (c := c) HR.out (by have := HH.out.2.2.2.2.1; omega))).mono ?_⟩; rintro e w2 ⟨v2, rfl, ho2, hb2⟩; obtain ⟨A2, c2, rfl, hc2, _, _, hf2⟩ := own_form ho2; obtain ⟨fn, tmps, assign, body, hy, hR⟩ := HH.out.2.2.1 0 U #[.slice A2 n c2] w2 (by simp [ofS]) (HH.out.2.1 _ _ _ _ H1.out.2.2.2 (Kq.of_below _ (bl_next (Below.refl W1.heap.size W1).drew hb2))) ⟨A2, c2, sm, by rw [HH.out.2.2.2.2.2], rfl, by rw [HH.out.2.2.2.2.2]; exact hc2, by rw [HH.out.2.2.2.2.2, wts_nums]; exact Rd.of_own ho2, fun a ha e => by have h1 := (HH.out.1 _ _ _ H1.out.2.2.2).2 _ e; obtain ⟨g2, _, e2, hg2, _⟩ := hf2 HH.out.2.2.2.1; rw [e2] at ha; injection ha with ha; subst ha; have h3 : W1.heap.size ≤ g2 := hg2; have h4 : g2 < W1.heap.size := h1; omega⟩; have z5 := (((H1.out.2.1.belowS (Below.refl _ _).drew).belowS hb2)).cell 0; simp at z5; clear ho2 hb2 hc2 hf2)
    | (refine ⟨fun _ => by omega, hR.mono ?_⟩; rintro e W3 ⟨U', hU', hk3, h4⟩; obtain ⟨qb, rfl, hqb⟩ := yes_no h4; clear h4 hR hy))
  all_goals gi_wp2
  all_goals
    refine ⟨_, results_none rfl _ _ _, ⟨_, rfl⟩, U', ?_⟩
    rcases hqb with ⟨_, h⟩ | ⟨_, h⟩
    · exact .inl h
    · exact .inr h
theorem OfF.three {A : Option Addr} {n c : Nat} {sm : List Nat} {k fr d bd bs bf bk : Nat} {W : World} (h : OfF A n c sm k fr d bd bs bf bk W) : W.cell? ⟨bk, 0, none⟩ = some (.int .i64 (k : Nat)) ∧ W.cell? ⟨bd, 0, none⟩ = some (.int .i64 (d : Nat)) ∧ W.cell? ⟨bs, 0, none⟩ = some (.slice A n c) := ⟨h.kk.cell 0, h.kd.cell 0, h.ks.cell 0⟩
theorem wts_snoc (l : List Nat) (i : Nat) : wts (l ++ [i]) = wts l ++ [.int .i64 (i : Int)] := by simp [wts]
theorem wts_one (l : List Nat) : ∀ u ∈ wts l, u.oneCell' = true := by
  intro u hu
  unfold wts at hu
  obtain ⟨_, _, rfl⟩ := List.mem_map.1 hu
  rfl
/-- One number more, in a new row. -/
theorem step_of {ops : Array Oper} {o : Oper} {a : Act} {w : World} {K : Act → World → Prop} {Q : Exit → Act → World → Prop} {E : Prop} (hgd : o.guard = none) (s x : Operand) (ho : o.op = .call { callee := .builtin .append, args := #[s, x], argTypes := #[22, 22] })
    {A : Option Addr} {n i b : Nat} {sm : List Nat} (hs : a.eval s = .slice A n n) (hx : a.eval x = .slice (some ⟨b, 0, none⟩) 1 1) (hr : Rd w A n (wts sm)) (hb : w.cell? ⟨b, 0, none⟩ = some (.int .i64 (i : Int))) (hn : n ≤ 8)
    (hK : ∀ A' c' w', Rd w' A' (n + 1) (wts (sm ++ [i])) → n + 1 ≤ c' → (∀ a, A' = some a → w.heap.size ≤ a.block) → Below w.heap.size w w' → K (a.put o.dst (.slice A' (n + 1) c')) w') :
    if Region.wanted o (yielded ops a.tmps) = true then Oper.wp Tryz.prog o a w K Q else E := by
  obtain ⟨i0, hi0, hz0, hz1, hz2⟩ := info_parts u3_info
  refine step_append_grows hgd s x _ ho 3 i0 _ 1 8 Tryz.underlying22 hi0 hz0 hz1 hz2 rfl (by omega) A n n (wts sm) hs (fun e => ?_) (by rw [Nat.mul_one]; exact hr.1) (fun p e j u hj => ?_) ⟨b, 0, none⟩ 1 1 [.int .i64 (i : Int)] hx rfl (fun j u hj => ?_) (by intro u hu; rw [List.mem_singleton.1 hu]; rfl) (by omega) (by simp only [maxLen]; omega) (by omega) ?_
  · rcases Nat.eq_zero_or_pos n with h0 | h0
    · exact ⟨h0, h0⟩
    · obtain ⟨p, off, e2, _⟩ := hr.form h0
      rw [e] at e2
      cases e2
  · subst e
    exact hr.cells j u hj
  · rcases j with _ | j
    · simp at hj
      subst hj
      rw [Addr.add_lit]
      exact hb
    · simp at hj
  · intro v w' hown hg
    obtain ⟨A', c', rfl, hc, _, _, hf⟩ := own_form hown
    refine hK A' c' w' (by rw [wts_snoc]; exact Rd.of_own hown) hc (fun p hp => ?_) (below_of_grownN hg)
    obtain ⟨g, _, e, hg2, _⟩ := hf (by omega)
    rw [e] at hp
    injection hp with hp
    subst hp
    exact hg2
theorem pre_get {f : Nat → List (List Nat)} : ∀ {cnt j i : Nat}, j < cnt → i < (f j).length → ((List.range cnt).flatMap f)[((List.range j).flatMap f).length + i]? = (f j)[i]?
  | cnt, j, i, hj, hi => by
    have e : List.range cnt = List.range j ++ (List.range (cnt - j)).map (j + ·) := by
      rw [← List.range_add, show j + (cnt - j) = cnt from by omega]
    rw [e, List.flatMap_append, List.getElem?_append_right (by omega), Nat.add_sub_cancel_left, show cnt - j = (cnt - j - 1) + 1 from by omega, List.range_succ_eq_map, List.map_cons, List.flatMap_cons, Nat.add_zero, List.getElem?_append_left hi]
theorem pre_succ (f : Nat → List (List Nat)) (j : Nat) : ((List.range (j + 1)).flatMap f).length = ((List.range j).flatMap f).length + (f j).length := by
  rw [List.range_succ, List.flatMap_append, List.length_append]
  simp
theorem pre_le {f : Nat → List (List Nat)} {cnt j i : Nat} (hj : j < cnt) (hi : i < (f j).length) : ((List.range j).flatMap f).length + i < ((List.range cnt).flatMap f).length := by
  have := pre_get (f := f) hj hi
  rw [List.getElem?_eq_getElem hi] at this
  exact (List.getElem?_eq_some_iff.1 this).1
def ofF (k d fr : Nat) (sm : List Nat) (j : Nat) : List (List Nat) := ofS k d (fr + j + 1) (sm ++ [fr + j])
theorem ofS_succ (k d fr : Nat) (sm : List Nat) : ofS k (d + 1) fr sm = (List.range (k + 1 - (d + 1) - fr)).flatMap (ofF k d fr sm) := rfl
/-- of's loop, so far. -/
structure OfL (A : Option Addr) (n c : Nat) (sm : List Nat) (k fr d bd bs bf bk b5 l m0 : Nat) (J : Nat → (Nat → Prop) → World → Prop) (p : Nat) (U : Nat → Prop) (Ds : List Nat) (W : World) : Prop where
  f : OfF A n c sm k fr d bd bs bf bk W
  k5 : Bk W b5 92 [.func (.yield l) #[] #[]]
  j : J p U W
  u : ∀ x, OfV A bd bs bf bk x ∨ x = b5 ∨ x ∈ Ds → ¬ U x ∧ x ≠ l
  c : Cds W Ds
  b : ∀ D ∈ Ds, m0 ≤ D
  m : m0 ≤ W.heap.size ∧ l < W.heap.size ∧ ∀ x, U x → x < W.heap.size
theorem OfF.lt {A : Option Addr} {n c : Nat} {sm : List Nat} {k fr d bd bs bf bk : Nat} {W : World} (h : OfF A n c sm k fr d bd bs bf bk W) {x : Nat} (hx : OfV A bd bs bf bk x) : x < W.heap.size := by
  rcases hx with e | e | e | e | ⟨a, ha, e⟩
  · subst e; exact h.kd.lt
  · subst e; exact h.ks.lt
  · subst e; exact h.kf.lt
  · subst e; exact h.kk.lt
  · subst e
    rcases Nat.eq_zero_or_pos n with h0 | h0
    · have := h.z h0
      rw [ha] at this
      cases this
    · exact h.r.lt h0 a ha
section
variable {A : Option Addr} {n c : Nat} {sm : List Nat} {k fr d bd bs bf bk b5 l m0 p : Nat} {J : Nat → (Nat → Prop) → World → Prop} {U U3 : Nat → Prop} {Ds : List Nat} {W W' : World}
theorem OfL.kq {B : Nat} (hJ : ∀ i U W1 W2, J i U W1 → Kq m0 Nq W1 W2 → J i U W2) (h : OfL A n c sm k fr d bd bs bf bk b5 l m0 J p U Ds W) (hk : Kq B Nq W W') (hB : m0 ≤ B) (hD : ∀ D ∈ Ds, D < B) : OfL A n c sm k fr d bd bs bf bk b5 l m0 J p U Ds W' :=
  ⟨h.f.kq hk, hk.bk h.k5 id, hJ _ _ _ _ h.j (hk.lower hB), h.u, h.c.kq hk hD, h.b, ⟨Nat.le_trans h.m.1 hk.size, Nat.lt_of_lt_of_le h.m.2.1 hk.size, fun x e => Nat.lt_of_lt_of_le (h.m.2.2 x e) hk.size⟩⟩
theorem OfL.yield {p' : Nat} (h : OfL A n c sm k fr d bd bs bf bk b5 l m0 J p U Ds W) (hj : J p' U3 W') (hU : ∀ x, U3 x → U x ∨ W.heap.size ≤ x) (hk : Kx W.heap.size (fun x => U x ∨ x = l) W W') (hlt : ∀ x, U3 x → x < W'.heap.size) : OfL A n c sm k fr d bd bs bf bk b5 l m0 J p' U3 Ds W' := by
  have hT : ∀ x, OfV A bd bs bf bk x ∨ x = b5 ∨ x ∈ Ds → ¬ (U x ∨ x = l) := fun x hx e => e.elim (h.u x hx).1 (h.u x hx).2
  have hsz := hk.size
  refine ⟨h.f.kx hk ⟨hT _ (.inl (.inl rfl)), hT _ (.inl (.inr (.inl rfl))), hT _ (.inl (.inr (.inr (.inl rfl)))), hT _ (.inl (.inr (.inr (.inr (.inl rfl))))), fun a ha => hT _ (.inl (.inr (.inr (.inr (.inr ⟨a, ha, rfl⟩)))))⟩, hk.bk h.k5 (hT _ (.inr (.inl rfl))), hj, ?_, h.c.kx hk (fun D hD => ⟨h.c.lt D hD, hT _ (.inr (.inr hD))⟩), h.b, ⟨Nat.le_trans h.m.1 hsz, Nat.lt_of_lt_of_le h.m.2.1 hsz, hlt⟩⟩
  intro x hx
  refine ⟨fun e => ?_, (h.u x hx).2⟩
  rcases hU x e with e | e
  · exact (h.u x hx).1 e
  · have hxl : x < W.heap.size := by
      rcases hx with q | q | q
      · exact h.f.lt q
      · subst q; exact h.k5.lt
      · exact h.c.lt x q
    omega
end
set_option maxRecDepth 100000 in
set_option maxHeartbeats 4000000 in
theorem ofs_iter {d : Nat} (ih : ∀ {w : World} {A : Option Addr} {n c : Nat} {sm : List Nat} {k fr bd bs bf bk m : Nat}, 2 ≤ m → OfF A n c sm k fr d bd bs bf bk w → 0 < n + d → n + d ≤ 8 → k ≤ 8 → fr ≤ 16 →
      IterU Fence.wide m Tryz.prog 42 #[.pointer (some ⟨bd, 0, none⟩), .pointer (some ⟨bs, 0, none⟩), .pointer (some ⟨bf, 0, none⟩), .pointer (some ⟨bk, 0, none⟩)] (OfV A bd bs bf bk) (OkS (ofS k d fr sm)) (ofS k d fr sm).length w)
    {w : World} {A : Option Addr} {n c : Nat} {sm : List Nat} {k fr bd bs bf bk m : Nat} (hm : 8 ≤ m) (h : OfF A n c sm k fr (d + 1) bd bs bf bk w) (hn : n + (d + 1) ≤ 8) (hk : k ≤ 8) (hfr : fr ≤ 16) :
    IterU Fence.wide m Tryz.prog 42 #[.pointer (some ⟨bd, 0, none⟩), .pointer (some ⟨bs, 0, none⟩), .pointer (some ⟨bf, 0, none⟩), .pointer (some ⟨bk, 0, none⟩)] (OfV A bd bs bf bk) (OkS (ofS k (d + 1) fr sm)) (ofS k (d + 1) fr sm).length w := by
  intro l J Jx U W hkw hlW hlV hVU hJU hJ hJx hY h0
  have hW := h.kq hkw
  have hsm : sm.length = n := by have := hW.r.1; simpa [wts] using this
  obtain ⟨W1, hW1⟩ : ∃ W1, W.alloc (.cells #[.func (.yield l) #[] #[]] 92) = W1 := ⟨_, rfl⟩
  obtain ⟨b5, hb5⟩ : ∃ b5, W.heap.size = b5 := ⟨_, rfl⟩
  obtain ⟨d1, hd1⟩ : ∃ d1, d + 1 = d1 := ⟨_, rfl⟩
  have hbl : Below W.heap.size W W1 := by rw [← hW1]; exact bl_allocd (Below.refl _ _) _
  have k5 : Bk W1 b5 92 [.func (.yield l) #[] #[]] := by rw [← hW1, ← hb5]; exact Bk.newA W 92 #[.func (.yield l) #[] #[]]
  have hU0 := (hJU _ _ _ h0).2
  have hs1 : W1.heap.size = b5 + 1 := by rw [← hW1, World.size_alloc, hb5]
  have H1 := Lib.hid (show OfL A n c sm k fr d1 bd bs bf bk b5 l W.heap.size J 0 U [] W1 from ⟨by rw [← hd1]; exact hW.below hbl, k5, hJ _ _ _ _ h0 (Kq.of_below _ hbl), by
    rintro x (e | e | e)
    · exact ⟨hVU x e, fun e2 => hlV (e2 ▸ e)⟩
    · exact ⟨fun e2 => by have := hU0 x e2; omega, by omega⟩
    · simp at e, ⟨List.nodup_nil, fun D hD => by simp at hD⟩, fun D hD => by simp at hD, ⟨hbl.size, by omega, fun x e => by have := hU0 x e; omega⟩⟩)
  have HH := Lib.hid (And.intro hJU (And.intro hJ (And.intro hY (And.intro hn (And.intro hk (And.intro hfr (And.intro hsm (And.intro hd1 (And.intro hJx hlW)))))))))
  have HW1 := Lib.hid hW1
  have c1 := (hW.below hbl).kd.cell 0
  have c1' : (W.alloc (.cells #[.func (.yield l) #[] #[]] 92)).cell? ⟨bd, 0, none⟩ = some (.int .i64 (d1 : Nat)) := by rw [hW1, ← hd1]; exact c1
  have c3' : (W.alloc (.cells #[.func (.yield l) #[] #[]] 92)).cell? ⟨bf, 0, none⟩ = some (.int .i64 (fr : Nat)) := by rw [hW1]; exact (hW.below hbl).kf.cell 0
  have hd8 : (d1 : Int) ≤ 8 := by omega
  have hdz : ((d1 : Int) == 0) = false := by simp; omega
  have hk8 : (k : Int) ≤ 8 := by omega
  clear h hkw hlW hlV hVU hJU hJ hJx hY h0 hn hsm hW hbl k5 c1 hW1 hU0 hs1 hd1 hk hfr
  refine callsIn_of_wp_marks Tryz.func42 rfl trivial ?_ rfl
  simp only [Tryz.ntmps42, List.size_toArray, List.length_cons, List.length_nil, Nat.reduceAdd, Nat.reduceSub, Array.replicate_succ, Array.replicate_zero, List.push_toArray, List.append_toArray, List.nil_append, List.cons_append]
  gi_wp2
  rw [HW1.out]
  clear c1' c3'
  obtain ⟨cnt, hcnt⟩ : ∃ cnt, k + 1 - (d + 1) - fr = cnt := ⟨_, rfl⟩
  have HC := Lib.hid (And.intro hcnt (show ofS k (d + 1) fr sm = (List.range cnt).flatMap (ofF k d fr sm) by rw [ofS_succ, hcnt]))
  clear hcnt
  refine wpIn_loop (fun a' w' => ∃ (j i : Nat) (U' : Nat → Prop) (Ds : List Nat) (u7 u15 u16 u17 u18 u19 u20 u21 u22 u23 u24 u25 u26 u27 u28 u29 u30 u31 u32 u33 u34 u35 u36 u37 : Value), (j ≤ cnt ∧ fr + j = i ∧ OfL A n c sm k fr d1 bd bs bf bk b5 l W.heap.size J ((List.range j).flatMap (ofF k d fr sm)).length U' Ds w') ∧ a' = ⟨List.toArray (.func (.yield l) #[] #[] :: .pointer (some ⟨bd, 0, none⟩) :: .pointer (some ⟨bs, 0, none⟩) :: .pointer (some ⟨bf, 0, none⟩) :: .pointer (some ⟨bk, 0, none⟩) :: .pointer (some ⟨b5, 0, none⟩) :: .int .i64 (i : Nat) :: u7 :: .int .i64 (d1 : Nat) :: .bool false :: undef :: undef :: undef :: undef :: .int .i64 (fr : Nat) :: u15 :: u16 :: u17 :: u18 :: u19 :: u20 :: u21 :: u22 :: u23 :: u24 :: u25 :: u26 :: u27 :: u28 :: u29 :: u30 :: u31 :: u32 :: u33 :: u34 :: u35 :: u36 :: u37 :: []), Ds.map dfr⟩) (fun a' _ => 40 - (intOf (a'.tmps.getD 6 undef)).toNat) ?_ ?_
  · exact ⟨0, fr, U, [], undef, undef, undef, undef, undef, undef, undef, undef, undef, undef, undef, undef, undef, undef, undef, undef, undef, undef, undef, undef, undef, undef, undef, undef, ⟨Nat.zero_le _, rfl, H1.out⟩, rfl⟩
  · rintro a' wr ⟨j, i, U', Ds, u7, u15, u16, u17, u18, u19, u20, u21, u22, u23, u24, u25, u26, u27, u28, u29, u30, u31, u32, u33, u34, u35, u36, u37, ⟨hj, hi, hL⟩, rfl⟩
    have HL := Lib.hid (And.intro hL (And.intro hi hj))
    obtain ⟨c4, c1, c2⟩ := hL.f.three
    have hn8 := HH.out.2.2.2.1
    have hfr := HH.out.2.2.2.2.2.1
    have hdd := HH.out.2.2.2.2.2.2.2.1
    have hiI : (i : Int) ≤ 30 := by have := HC.out.1; have := HH.out.2.2.2.2.1; omega
    by_cases hlt : j < cnt
    · have hle : (i : Int) ≤ (k : Int) - (d1 : Int) := by have := HC.out.1; omega
      have hwz : IntKind.i64.wrap ((k : Int) - (d1 : Int)) = (k : Int) - (d1 : Int) := by rw [IntKind.wrap_i64]; omega
      have dle : decide ((i : Int) ≤ (k : Int) - (d1 : Int)) = true := decide_eq_true hle
      have HLT := Lib.hid hlt
      clear hL hj hi hn8 hfr hdd hlt
      obtain ⟨i1, hi1⟩ : ∃ i1, i + 1 = i1 := ⟨_, rfl⟩
      have hwi : IntKind.i64.wrap ((i : Int) + 1) = (i1 : Int) := by rw [IntKind.wrap_i64]; omega
      have hwi2 : (i : Int) + 1 = (i1 : Int) := by omega
      have hwd : IntKind.i64.wrap ((d1 : Int) - 1) = (d : Int) := by rw [IntKind.wrap_i64]; have := HH.out.2.2.2.2.2.2.2.1; omega
      have hwd2 : (d1 : Int) - 1 = (d : Int) := by have := HH.out.2.2.2.2.2.2.2.1; omega
      have hwi3 : IntKind.i64.wrap (i1 : Int) = (i1 : Int) := by rw [IntKind.wrap_i64]; omega
      have hwd3 : IntKind.i64.wrap (d : Int) = (d : Int) := by rw [IntKind.wrap_i64]; omega
      have HI := Lib.hid hi1
      clear hi1
      gi_wp2
      refine wpIn_wide.2 ?_
      have F0 := Lib.hid (HL.out.1.f.below (Below.refl _ _).drew)
      have FA := Lib.hid ((HL.out.1.f.below (bl_allocd (Below.refl _ _) (.cells #[.int .i64 (i : Nat)] 3))).below (Below.refl _ _).drew)
      have CA := Lib.hid (((Bk.newA wr 3 #[.int .i64 (i : Nat)]).belowS (Below.refl _ _).drew).cell 0)
      have HN := Lib.hid (show n ≤ 8 by have := HH.out.2.2.2.1; omega)
      clear c4 c1 c2
      go_cut [32] from 22 to 33 (fun s32 wx => ∃ A' c' b, s32 = .func (.func 42) #[] #[.pointer (some ⟨b + 1 + 1, 0, none⟩), .pointer (some ⟨b + 1 + 1 + 1, 0, none⟩), .pointer (some ⟨b + 1, 0, none⟩), .pointer (some ⟨b, 0, none⟩)] ∧ OfF A' (n + 1) c' (sm ++ [i]) k i1 d (b + 1 + 1) (b + 1 + 1 + 1) (b + 1) b wx ∧ Below wr.heap.size wr wx ∧ wr.heap.size ≤ b ∧ ∀ a, A' = some a → wr.heap.size ≤ a.block)
      case first =>
        go_region_held3 (fun w' => w'.cell? ⟨bk, 0, none⟩ = some (.int .i64 (k : Nat)) ∧ w'.cell? ⟨bd, 0, none⟩ = some (.int .i64 (d1 : Nat)) ∧ w'.cell? ⟨bs, 0, none⟩ = some (.slice A n c))
          (first | with_reducible exact H3.out.three | with_reducible exact H2.out.three | with_reducible exact FA.out.three | with_reducible exact F0.out.three)
          (first
          | (go_at_call 43; refine (clipI_any (c := c) F0.out.nc (by have := HN.out; omega)).mono ?_; rintro e wq ⟨rfl, rfl⟩)
          | (go_at_call 17; refine (mof_any (k := k) (fr := i1) (d := d) HR2.out.1 HR2.out.2.1 (fun e => by omega)).mono ?_; rintro e w3 ⟨rfl, hf3, hb3⟩; have H3 := Lib.hid (H2.out.below hb3); have HF3 := Lib.hid (And.intro hf3 hb3); clear hf3 hb3)
          | (refine step_of (by rfl) (.tmp 28) (.tmp 30) (by rfl) (A := A) (n := n) (i := i) (b := wr.heap.size) (sm := sm) (by rfl) (by rfl) FA.out.r CA.out HN.out ?_; intro A2 c2 w2 hr2 hc2 ha2 hb2; have H2 := Lib.hid (FA.out.below hb2); have HR2 := Lib.hid (And.intro hr2 (And.intro hc2 (And.intro ha2 hb2))); clear hr2 hc2 ha2 hb2)
          | fail)
        all_goals (go_wp2_with fail; go_meet)
        all_goals
          have e1 := HR2.out.2.2.2
          have e2 : Below wr.heap.size wr (wr.alloc (.cells #[.int .i64 (i : Nat)] 3)).drew := (bl_allocd (Below.refl _ _) _).drew
          have e3 := e2.size
          exact ⟨A2, c2, w2.heap.size, rfl, HF3.out.1, bl_next (bl_next e2 e1) HF3.out.2, Nat.le_trans e3 e1.size, fun a ha => Nat.le_trans e3 (HR2.out.2.2.1 a ha)⟩
      case rest =>
        obtain ⟨A2, c2, b, rfl, hf2, hb2, hbb, hA2⟩ := hcut
        have H2 := Lib.hid (And.intro hf2 (And.intro hb2 (And.intro hbb hA2)))
        clear hf2 hb2 hbb hA2 hwi hwi2 hwd hwd2 hwz dle hle hwi3 hwd3
        gi_wp2
        obtain ⟨p, hp⟩ : ∃ p, ((List.range j).flatMap (ofF k d fr sm)).length = p := ⟨_, rfl⟩
        have hLc : OfL A n c sm k fr d1 bd bs bf bk b5 l W.heap.size J p U' Ds wc := by
          have := HL.out.1
          rw [hp] at this
          exact this.kq HH.out.2.1 (Kq.of_below wr.heap.size H2.out.2.1) this.m.1 this.c.lt
        have HLc := Lib.hid hLc
        have HF := Lib.hid (show ofF k d fr sm j = ofS k d i1 (sm ++ [i]) by unfold ofF; rw [HL.out.2.1, HI.out])
        have HPp := Lib.hid hp
        have hmm : 1 ≤ m := by omega
        clear hLc hp
        refine range_stU rfl hmm (gf := 42) (lb := #[.pointer (some ⟨b + 1 + 1, 0, none⟩), .pointer (some ⟨b + 1 + 1 + 1, 0, none⟩), .pointer (some ⟨b + 1, 0, none⟩), .pointer (some ⟨b, 0, none⟩)]) rfl trivial (enters_of Tryz.func42 (by kernel_rfl) rfl)
          (fun i' V' W' => ∃ U'', (∀ x, V' x ↔ U'' x ∨ x = l) ∧ OfL A n c sm k fr d1 bd bs bf bk b5 l W.heap.size J (p + i') U'' Ds W')
          (OkS (ofS k d i1 (sm ++ [i]))) (ofS k d i1 (sm ++ [i])).length (fun c V' W' => c = .ret ∧ ∃ U'', Jx U'' W' ∧ Cds W' Ds) ?hps ?hIU ?hI0 ?hIx0 (U0 := fun x => U' x ∨ x = l) (OfV A2 (b + 1 + 1) (b + 1 + 1 + 1) (b + 1) b) ?hV ?h0 ?hseq
          (fun i' V' x' a' W' => ∃ A3 c3 ls, x' = #[.slice A3 (List.length ls) c3] ∧ (ofS k d i1 (sm ++ [i]))[i']? = some ls ∧ ls.length ≤ c3 ∧ Rd W' A3 ls.length (wts ls) ∧ (∀ a, A3 = some a → ¬ V' a.block) ∧ a' = { tmps := List.toArray (.func (.yield l) #[] #[] :: .pointer (some ⟨bd, 0, none⟩) :: .pointer (some ⟨bs, 0, none⟩) :: .pointer (some ⟨bf, 0, none⟩) :: .pointer (some ⟨bk, 0, none⟩) :: .pointer (some ⟨b5, 0, none⟩) :: .int .i64 (i : Nat) :: .slice A3 ls.length c3 :: .int .i64 (d1 : Nat) :: .bool false :: undef :: undef :: undef :: undef :: .int .i64 (fr : Nat) :: .int .i64 (i : Nat) :: .int .i64 (k : Nat) :: .int .i64 (d1 : Nat) :: .int .i64 ((k : Int) - (d1 : Int)) :: .bool true :: u20 :: u21 :: u22 :: u23 :: u24 :: u25 :: u26 :: u27 :: u28 :: u29 :: u30 :: u31 :: .func (.func 42) #[] #[.pointer (some ⟨b + 1 + 1, 0, none⟩), .pointer (some ⟨b + 1 + 1 + 1, 0, none⟩), .pointer (some ⟨b + 1, 0, none⟩), .pointer (some ⟨b, 0, none⟩)] :: .slice A3 ls.length c3 :: u34 :: u35 :: u36 :: u37 :: []), defers := [] }) ?hAx ?hassign ?hbody ?hdone ?hstop
        case hps =>
          rintro i' V' x' W' ⟨A3, c3, ls, rfl, _⟩
          rfl
        case hIU =>
          rintro i' V' W' ⟨U'', hVU, hOL⟩ x hx
          rcases (hVU x).1 hx with e | e
          · exact hOL.m.2.2 x e
          · subst e; exact hOL.m.2.1
        case hI0 =>
          rintro i' V' W2 W3 ⟨U'', hVU, hOL⟩ hk
          exact ⟨U'', hVU, hOL.kq HH.out.2.1 hk HLc.out.m.1 HLc.out.c.lt⟩
        case hIx0 =>
          rintro c' V' W2 W3 ⟨rfl, U'', hjx, hcd⟩ hk
          exact ⟨rfl, U'', HH.out.2.2.2.2.2.2.2.2.1 _ _ _ hjx (hk.lower HLc.out.m.1), hcd.kq hk HLc.out.c.lt⟩
        case hV =>
          intro x hx
          refine ⟨H2.out.1.lt hx, ?_⟩
          have hxr : wr.heap.size ≤ x := by
            have hbb := H2.out.2.2.1
            rcases hx with e | e | e | e | ⟨a, ha, e⟩
            · omega
            · omega
            · omega
            · omega
            · rw [e]; exact H2.out.2.2.2 a ha
          rintro (e | e)
          · have := HL.out.1.m.2.2 x e; omega
          · have := HL.out.1.m.2.1; omega
        case h0 => exact ⟨U', fun x => Iff.rfl, HLc.out⟩
        case hseq => exact ih (by omega) H2.out.1 (by omega) (by have := HH.out.2.2.2.1; omega) HH.out.2.2.2.2.1 (by have := HI.out; have := HL.out.2.1; have := HC.out.1; have := HLT.out; have := HH.out.2.2.2.2.1; omega)
        case hAx =>
          rintro i' V' x' a' W2 W3 ⟨A3, c3, ls, h1, h2, h3, h4, h5, h6⟩ hk
          exact ⟨A3, c3, ls, h1, h2, h3, hk.rd h4 (fun a _ e => e), h5, h6⟩
        case hassign =>
          rintro l2 i' x' V' W2 K' hI' ⟨A3, c3, ls, rfl, h2, h3, h4, h5⟩ hK'
          have HK := Lib.hid hK'
          have HO := Lib.hid (And.intro h2 (And.intro h3 (And.intro h4 h5)))
          clear hK' h2 h3 h4 h5 hI'
          gi_wp2
          exact HK.out _ _ (Kq.refl _ _) ⟨A3, c3, ls, rfl, HO.out.1, HO.out.2.1, HO.out.2.2.1, HO.out.2.2.2, rfl⟩
        case hbody =>
          rintro l2 i' x' a' V' W2 hl2 hVl hiN ⟨U'', hVU, hOL⟩ ⟨A3, c3, ls, rfl, h2, h3, h4, h5, rfl⟩
          have hpl : p + i' < (ofS k (d + 1) fr sm).length := by
            rw [HC.out.2, ← HPp.out]
            exact pre_le HLT.out (by rw [HF.out]; exact hiN)
          have hpg : (ofS k (d + 1) fr sm)[p + i']? = some ls := by
            rw [HC.out.2, ← HPp.out, pre_get HLT.out (by rw [HF.out]; exact hiN), HF.out]
            exact h2
          obtain ⟨fn, tmps, assign, body, hy, hR⟩ := yield_n (n' := m - 1 - 1 - 1) (HH.out.2.2.1 (p + i') U'' #[.slice A3 ls.length c3] W2 hpl hOL.j ⟨A3, c3, ls, rfl, hpg, h3, h4, fun a ha e => h5 a ha ((hVU _).2 (.inl e))⟩)
          have HB := Lib.hid (And.intro hVU hOL)
          have c5 := hOL.k5.cell 0
          simp at c5
          clear hl2 hVl hVU hOL h2 h3 h4 h5 hpl hpg hiN
          gi_wp2
          refine ⟨fun _ => by omega, (show RoundIn (Fence.wide.inRound l2) (m - 1 - 1 - 1) Tryz.prog l fn tmps assign body W2 _ from hR).mono ?_⟩
          rintro e W3 ⟨U3, hU3, hk3, (⟨rfl, hJ3⟩ | ⟨rfl, hJ3⟩)⟩
          · have hlt3 := (HH.out.1 _ _ _ hJ3).2
            have HE := Lib.hid (And.intro hU3 (And.intro hk3 (And.intro hJ3 hlt3)))
            clear hR hy hU3 hk3 hJ3 hlt3 c5
            gi_wp2
            obtain ⟨hU3, hk3, hJ3, hlt3⟩ := HE.out
            exact ⟨fun x => U3 x ∨ x = l, fun x e => e.elim (fun e => (hU3 x e).imp (fun e => (HB.out.1 x).2 (.inl e)) id) (fun e => .inl ((HB.out.1 x).2 (.inr e))), hk3.to (fun x e => (HB.out.1 x).2 e), U3, fun x => Iff.rfl, HB.out.2.yield hJ3 hU3 hk3 hlt3⟩
          · have HE := Lib.hid (And.intro hU3 (And.intro hk3 hJ3))
            clear hR hy hU3 hk3 hJ3 c5
            gi_wp2
            obtain ⟨hU3, hk3, hJ3⟩ := HE.out
            exact ⟨fun x => U3 x ∨ x = l, fun x e => e.elim (fun e => (hU3 x e).imp (fun e => (HB.out.1 x).2 (.inl e)) id) (fun e => .inl ((HB.out.1 x).2 (.inr e))), hk3.to (fun x e => (HB.out.1 x).2 e), rfl, U3, hJ3, HB.out.2.c.kx hk3 (fun D hD => ⟨HB.out.2.c.lt D hD, fun e => e.elim (HB.out.2.u D (.inr (.inr hD))).1 (HB.out.2.u D (.inr (.inr hD))).2⟩)⟩
        case hdone =>
          rintro D V' W2 hD hVD ⟨U'', hVU, hOL⟩ hKD
          have HB := Lib.hid (And.intro hVU (And.intro hOL (And.intro hKD (And.intro hD hVD))))
          have hwi : IntKind.i64.wrap ((i : Int) + 1) = (i1 : Int) := by rw [IntKind.wrap_i64]; have := HI.out; omega
          have hwi2 : (i : Int) + 1 = (i1 : Int) := by have := HI.out; omega
          have hi30 : (i1 : Int) ≤ 40 := by omega
          clear hVU hOL hKD hD hVD
          gi_wp2
          obtain ⟨hVU, hOL, hKD, hD, hVD⟩ := HB.out
          have hDn : D ∉ Ds := fun e => by have := HLc.out.c.lt D e; omega
          refine ⟨⟨j + 1, i1, U'', D :: Ds, _, _, _, _, _, _, _, _, _, _, _, _, _, _, _, _, _, _, _, _, _, _, _, _, ⟨by have := HLT.out; omega, by have := HI.out; have := HL.out.2.1; omega, ?_⟩, rfl⟩, ?_⟩
          · have hpn : ((List.range (j + 1)).flatMap (ofF k d fr sm)).length = p + (ofS k d i1 (sm ++ [i])).length := by rw [pre_succ, HPp.out, HF.out]
            rw [hpn]
            refine ⟨hOL.f, hOL.k5, hOL.j, ?_, hOL.c.cons hKD hDn, ?_, hOL.m⟩
            · rintro x (e | e | e)
              · exact hOL.u x (.inl e)
              · exact hOL.u x (.inr (.inl e))
              · rcases List.mem_cons.1 e with e | e
                · subst e
                  exact ⟨fun e => hVD ((hVU _).2 (.inl e)), fun e => by have := HLc.out.m.2.1; omega⟩
                · exact hOL.u x (.inr (.inr e))
            · intro x e
              rcases List.mem_cons.1 e with e | e
              · subst e; have := HLc.out.m.1; omega
              · exact hOL.b x e
          · simp [intOf]; have := HI.out; omega
        case hstop =>
          rintro D c' V' W2 hD ⟨rfl, U'', hjx, hcd⟩ hKD
          have HB := Lib.hid (And.intro hjx (And.intro hcd (And.intro hKD hD)))
          clear hjx hcd hKD hD
          gi_wp2
          obtain ⟨hjx, hcd, hKD, hD⟩ := HB.out
          have hDn : D ∉ Ds := fun e => by have := HLc.out.c.lt D e; omega
          exact leaves_cds (B := W.heap.size) (D :: Ds) W2 (hcd.cons hKD hDn) (fun x e => by
            rcases List.mem_cons.1 e with e | e
            · subst e; have := HLc.out.m.1; omega
            · exact HLc.out.b x e) (fun w' hk => ⟨_, results_none rfl _ _ _, ⟨_, rfl⟩, U'', .inr (HH.out.2.2.2.2.2.2.2.2.1 _ _ _ hjx hk)⟩)
    · have hle : ¬ ((i : Int) ≤ (k : Int) - (d1 : Int)) := by have := HC.out.1; omega
      have hwz : IntKind.i64.wrap ((k : Int) - (d1 : Int)) = (k : Int) - (d1 : Int) := by rw [IntKind.wrap_i64]; omega
      have dle : decide ((i : Int) ≤ (k : Int) - (d1 : Int)) = false := decide_eq_false hle
      have hjc : j = cnt := by omega
      have HJ := Lib.hid hjc
      clear hL hj hi hn8 hfr hdd hlt hjc
      gi_wp2
      refine leaves_cds (B := W.heap.size) Ds wr HL.out.1.c HL.out.1.b (fun w' hk => ⟨_, results_none rfl _ _ _, ⟨_, rfl⟩, U', .inl ?_⟩)
      have hj := HH.out.2.1 _ _ _ _ HL.out.1.j hk
      rw [HJ.out, ← HC.out.2] at hj
      exact hj
end Go.Proofs.YtlhipaffhehcnaaGreat
namespace Go.Proofs.YtlhipaffhehcnaaGreat
open Go.RowKit Go.Shelf
set_option linter.unusedVariables false
set_option linter.unusedSimpArgs false
attribute [local go_sem] Oper.semAt_some
theorem of_iter_n {P : Program} {gf m m' N : Nat} {lb : Array Value} {V : Nat → Prop} {Ok : Nat → (Nat → Prop) → Array Value → World → Prop} {w : World} (h : IterU Fence.wide m P gf lb V Ok N w) : IterU Fence.wide m' P gf lb V Ok N w :=
  fun l J Jx U W hk hl hlV hVU hJU hJ hJx hY h0 => (callsIn_wide).2 ((callsIn_wide).1 (h l J Jx U W hk hl hlV hVU hJU hJ hJx (fun i U x W1 hi hj ho => yield_n (hY i U x W1 hi hj ho)) h0))
theorem of_iter (d : Nat) : ∀ {w : World} {A : Option Addr} {n c : Nat} {sm : List Nat} {k fr bd bs bf bk m : Nat}, 2 ≤ m → OfF A n c sm k fr d bd bs bf bk w → 0 < n + d → n + d ≤ 8 → k ≤ 8 → fr ≤ 16 →
    IterU Fence.wide m Tryz.prog 42 #[.pointer (some ⟨bd, 0, none⟩), .pointer (some ⟨bs, 0, none⟩), .pointer (some ⟨bf, 0, none⟩), .pointer (some ⟨bk, 0, none⟩)] (OfV A bd bs bf bk) (OkS (ofS k d fr sm)) (ofS k d fr sm).length w := by
  induction d with
  | zero => intro w A n c sm k fr bd bs bf bk m hm h hn hn8 hk hfr; exact of0_iter hm h (by omega) (by omega)
  | succ d ih => intro w A n c sm k fr bd bs bf bk m hm h hn hn8 hk hfr; exact of_iter_n (ofs_iter (m := 8) ih (by decide) h hn8 hk hfr)
theorem ofS_len (k : Nat) : ∀ (d fr : Nat) (sm : List Nat), ∀ l ∈ ofS k d fr sm, l.length = sm.length + d
  | 0, _, sm, l, h => by rw [List.mem_singleton.1 h]; rfl
  | d + 1, fr, sm, l, h => by
    unfold ofS at h
    obtain ⟨j, _, hj⟩ := List.mem_flatMap.1 h
    rw [ofS_len k d _ _ l hj, List.length_append]
    simp
    omega
/-- Headers of slices. -/
structure Hd where
  A : Option Addr
  n : Nat
  c : Nat
def Hd.v (h : Hd) : Value := .slice h.A h.n h.c
def hds (l : List Hd) : List Value := l.map Hd.v
def LL (W : World) : List Hd → List (List Nat) → Prop
  | [], [] => True
  | h :: hs, l :: ls => (l.length = h.n ∧ 0 < h.n ∧ h.n ≤ h.c ∧ Rd W h.A h.n (wts l)) ∧ LL W hs ls
  | _, _ => False
def HB (hs : List Hd) (x : Nat) : Prop := ∃ h ∈ hs, ∃ a, h.A = some a ∧ x = a.block
section
variable {W W' : World}
theorem LL.keep (hk : ∀ (A : Option Addr) (n : Nat) (xs : List Value), Rd W A n xs → (∀ a, A = some a → ∃ h : Unit, True) → Rd W' A n xs) : ∀ {hs : List Hd} {ls : List (List Nat)}, LL W hs ls → LL W' hs ls
  | [], [], _ => trivial
  | h :: hs, l :: ls, hh => ⟨⟨hh.1.1, hh.1.2.1, hh.1.2.2.1, hk _ _ _ hh.1.2.2.2 (fun _ _ => ⟨(), trivial⟩)⟩, LL.keep hk hh.2⟩
  | [], _ :: _, h => h
  | _ :: _, [], h => h
theorem LL.below (hb : Below W.heap.size W W') {hs : List Hd} {ls : List (List Nat)} (h : LL W hs ls) : LL W' hs ls := h.keep fun _ _ _ hr _ => hr.below hb
theorem LL.kx {B : Nat} {T : Nat → Prop} (hk : Kx B T W W') : ∀ {hs : List Hd} {ls : List (List Nat)}, LL W hs ls → (∀ x, HB hs x → ¬ T x) → LL W' hs ls
  | [], [], _, _ => trivial
  | h :: hs, l :: ls, hh, hT => by
    obtain ⟨S, h1, k1⟩ := hk
    exact ⟨⟨hh.1.1, hh.1.2.1, hh.1.2.2.1, h1.rd hh.1.2.2.2 (fun a ha e => hT _ ⟨h, List.mem_cons_self .., a, ha, rfl⟩ (k1 _ e))⟩, LL.kx ⟨S, h1, k1⟩ hh.2 (fun x hx => hT x (by obtain ⟨g, hg, r⟩ := hx; exact ⟨g, List.mem_cons_of_mem _ hg, r⟩))⟩
  | [], _ :: _, h, _ => h
  | _ :: _, [], h, _ => h
theorem LL.kq {B : Nat} (hk : Kq B Nq W W') {hs : List Hd} {ls : List (List Nat)} (h : LL W hs ls) : LL W' hs ls := h.kx (T := Nq) (hk.x (fun _ e => e)) (fun _ _ e => e)
theorem LL.len : ∀ {hs : List Hd} {ls : List (List Nat)}, LL W hs ls → hs.length = ls.length
  | [], [], _ => rfl
  | h :: hs, l :: ls, hh => by rw [List.length_cons, List.length_cons, LL.len hh.2]
  | [], _ :: _, h => h.elim
  | _ :: _, [], h => h.elim
theorem LL.snoc : ∀ {hs : List Hd} {ls : List (List Nat)}, LL W hs ls → ∀ {h : Hd} {l : List Nat}, l.length = h.n → 0 < h.n → h.n ≤ h.c → Rd W h.A h.n (wts l) → LL W (hs ++ [h]) (ls ++ [l])
  | [], [], _, _, _, h1, h2, h3, h4 => ⟨⟨h1, h2, h3, h4⟩, trivial⟩
  | h :: hs, l :: ls, hh, _, _, h1, h2, h3, h4 => ⟨hh.1, LL.snoc hh.2 h1 h2 h3 h4⟩
  | [], _ :: _, h, _, _, _, _, _, _ => h.elim
  | _ :: _, [], h, _, _, _, _, _, _ => h.elim
theorem LL.get : ∀ {hs : List Hd} {ls : List (List Nat)} (h : LL W hs ls) {i : Nat} (h1 : i < hs.length) (h2 : i < ls.length), (ls[i]).length = (hs[i]).n ∧ 0 < (hs[i]).n ∧ (hs[i]).n ≤ (hs[i]).c ∧ Rd W (hs[i]).A (hs[i]).n (wts ls[i])
  | h :: hs, l :: ls, hh, 0, _, _ => hh.1
  | h :: hs, l :: ls, hh, i + 1, h1, h2 => LL.get hh.2 (Nat.lt_of_succ_lt_succ h1) (Nat.lt_of_succ_lt_succ h2)
  | [], _ :: _, h, _, _, _ => h.elim
  | _ :: _, [], h, _, _, _ => h.elim
theorem LL.lt : ∀ {hs : List Hd} {ls : List (List Nat)}, LL W hs ls → ∀ x, HB hs x → x < W.heap.size
  | [], [], _, x, ⟨h, hh, _⟩ => by simp at hh
  | h :: hs, l :: ls, hh, x, ⟨g, hg, a, ha, e⟩ => by
    rcases List.mem_cons.1 hg with q | q
    · subst q; subst e
      exact hh.1.2.2.2.lt hh.1.2.1 a ha
    · exact LL.lt hh.2 x ⟨g, q, a, ha, e⟩
  | [], _ :: _, h, _, _ => h.elim
  | _ :: _, [], h, _, _ => h.elim
end
theorem hds_one (l : List Hd) : ∀ u ∈ hds l, u.oneCell' = true := by
  intro u hu
  obtain ⟨h, _, rfl⟩ := List.mem_map.1 hu
  rfl
theorem sl_info : (Tryz.prog.info? 22).map (fun i => (i.zero, i.size, i.bytes)) = some (some (.slice none 0 0), 1, 24) := by kernel_rfl
end Go.Proofs.YtlhipaffhehcnaaGreat
