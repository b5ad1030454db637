/- TopLeft: ripple.Stuck. TopLeft: ripple.Fail. -/
import Derived.Test.YtlhipaffhehcnaaGreatT35
namespace Go.Proofs.YtlhipaffhehcnaaGreat
open Go.RowKit Go.Shelf
set_option linter.unusedVariables false
set_option linter.unusedSimpArgs false
attribute [local go_sem] Oper.semAt_some
/-- What Stuck adds at a place, and at a level. -/
def sk2 (u n : Nat) (qs : List Q) (i : Nat) (l : List Q) : Option (List Q) := (qs[i]?).bind fun m => if u = 0 ∨ i % (n + 1) = 0 then (l[u]?).bind fun o => (addO [o, m]).map fun y => l.set u y else some l
def sk1 (t : List Nat) (k n i : Nat) (l : List Q) : Option (List Q) := (levO t k n i).bind fun g => foldO (sk2 (k - i) n g) (l.set (k - i) ⟨0, 1⟩) ((n + 1) * (n + 1))
def stuckO (t : List Nat) (k n : Nat) : Option (List Q) := foldO (sk1 t k n) (List.replicate (k + 1) ⟨0, 0⟩) (k + 1)
theorem sk2_len {u n i : Nat} {qs l l' : List Q} (h : sk2 u n qs i l = some l') : l'.length = l.length := by
  unfold sk2 at h
  obtain ⟨m, _, h⟩ := Option.bind_eq_some_iff.1 h
  split at h
  · obtain ⟨o, _, h⟩ := Option.bind_eq_some_iff.1 h
    obtain ⟨y, _, h⟩ := Option.map_eq_some_iff.1 h
    rw [← h, List.length_set]
  · rw [← Option.some.inj h]
theorem sk1_len {t : List Nat} {k n i : Nat} {l l' : List Q} (h : sk1 t k n i l = some l') : l'.length = l.length := by
  unfold sk1 at h
  obtain ⟨g, _, h⟩ := Option.bind_eq_some_iff.1 h
  rw [foldO_len (fun i a b h => sk2_len h) h, List.length_set]
theorem stuckO_len {t : List Nat} {k n : Nat} {l : List Q} (h : stuckO t k n = some l) : l.length = k + 1 := by
  unfold stuckO at h
  rw [foldO_len (fun i a b h => sk1_len h) h, List.length_replicate]
theorem stuckO_lev {t : List Nat} {k n : Nat} {l : List Q} (h : stuckO t k n = some l) : ∃ q, levO t k n k = some q := by
  obtain ⟨a, b, _, h2, _⟩ := foldO_step h (i := k) (by omega)
  unfold sk1 at h2
  obtain ⟨g, hg, _⟩ := Option.bind_eq_some_iff.1 h2
  exact ⟨g, hg⟩
/-- What Stuck owns. -/
structure SkX where
  n : Nat
  L : Nat
  K : Nat
  u : Nat
  G : Nat
  b9 : Nat
  b10 : Nat
  b11 : Nat
  gO : Nat
/-- Within a round of Stuck. -/
structure Sk (X : SkX) (W0 W : World) (qs l : List Q) : Prop where
  k9 : Bk W X.b9 30 [.slice (some ⟨X.gO, 0, none⟩) X.K X.K]
  k10 : Bk W X.b10 3 [.int .i64 (X.u : Nat)]
  k11 : Bk W X.b11 60 [.int .i64 (X.n : Nat), .slice (some ⟨X.G, 0, none⟩) X.L X.L]
  g : GB W X.G [] qs
  o : GB W X.gO [] l
  ne : X.G ≠ X.gO
  len : l.length = X.K ∧ X.u < X.K
  chg : Chg (fun k => k = X.gO) W0 W
section
variable {X : SkX} {W0 W W' : World} {qs l l' : List Q}
theorem Sk.below (h : Sk X W0 W qs l) (hb : Below W.heap.size W W') : Sk X W0 W' qs l :=
  ⟨h.k9.belowS hb, h.k10.belowS hb, h.k11.belowS hb, h.g.below hb, h.o.below hb, h.ne, h.len, h.chg.trans (Chg.of_below (S := fun k => k = X.gO) hb) (fun _ _ e => e)⟩
theorem Sk.drew (h : Sk X W0 W qs l) : Sk X W0 W.drew qs l := h.below (Below.refl _ _).drew
theorem Sk.allocd (h : Sk X W0 W qs l) (o : Obj) : Sk X W0 (W.alloc o) qs l := h.below (bl_allocd (Below.refl _ _) o)
theorem Sk.kq {B : Nat} (h : Sk X W0 W qs l) (hk : Kq B Nq W W') (hB : W0.heap.size ≤ B) : Sk X W0 W' qs l :=
  ⟨hk.bk h.k9 id, hk.bk h.k10 id, hk.bk h.k11 id, h.g.kq hk id, h.o.kq hk id, h.ne, h.len, hk.chg h.chg hB (fun _ e => e.elim)⟩
theorem Sk.here (h : Sk X W0 W qs l) : Sk X W W qs l := ⟨h.k9, h.k10, h.k11, h.g, h.o, h.ne, h.len, Chg.refl _ _⟩
theorem Sk.trans (h : Sk X W0 W qs l) (h' : Sk X W W' qs l') : Sk X W0 W' qs l' := ⟨h'.k9, h'.k10, h'.k11, h'.g, h'.o, h'.ne, h'.len, h.chg.trans h'.chg (fun _ _ e => e)⟩
theorem Sk.put {r : R3} {q : Q} (h : Sk X W0 W qs l) (hq : QV W r.v q) : Sk X W0 (s3 W X.gO (X.u * 3) r) qs (l.set X.u q) := by
  obtain ⟨hgb, hk⟩ := h.o.put (fun i x => by simp) (by rw [h.len.1]; exact h.len.2) hq
  exact ⟨(hk 0).bk h.k9 (gb_type h.k9 h.o (by decide)), (hk 0).bk h.k10 (gb_type h.k10 h.o (by decide)), (hk 0).bk h.k11 (gb_type h.k11 h.o (by decide)), h.g.kq (hk 0) h.ne, hgb, h.ne, by rw [List.length_set]; exact h.len, h.chg.trans (chg_s3 W X.gO (X.u * 3) r) (fun _ _ e => e)⟩
theorem Sk.fin {B : Nat} (h0 : Sk X W W qs l) (h : Sk X W W' qs l') : KeepsFrom B W W' ∧ Kx B (fun k => k = X.gO) W W' := by
  refine ⟨keepsFrom_chg h.chg ?_, (Kq.of_chg B h.chg (fun k c t z e ho => h0.o.num (fun i x => by simp) k c t z e ho)).x (fun _ e => e)⟩
  intro k o e _ ho
  obtain ⟨_, h1, _⟩ := h0.o
  subst e
  exact bk_cells h1 ho
end
set_option maxRecDepth 100000 in
set_option maxHeartbeats 4000000 in
/-- ripple.Stuck -/
theorem stuck_any {w : World} {A : Option Addr} {nt nc k n : Nat} {t : List Nat} {l : List Q} (h : Tb w A nt t) (hk : k ≤ 8) (hk1 : 1 ≤ k) (ht : tOk t k = true) (hn : n ≤ 8) (hq : stuckO t k n = some l) : Calls Tryz.prog 8 #[.slice A nt nc, .int .i64 (k : Nat), .int .i64 (n : Nat)] w fun e w' => ∃ G, e = .returned (.tuple #[.slice (some ⟨G, 0, none⟩) (k + 1) (k + 1), .int .i64 0]) ∧ GB w' G [] l ∧ w.heap.size ≤ G ∧ Below w.heap.size w w' := by
  obtain ⟨K, hK⟩ : ∃ K, k + 1 = K := ⟨_, rfl⟩
  obtain ⟨L, hL⟩ : ∃ L, (n + 1) * (n + 1) = L := ⟨_, rfl⟩
  obtain ⟨qk, hqk⟩ := stuckO_lev hq
  have hw : IntKind.i64.wrap ((k : Int) + 1) = (K : Int) := by rw [IntKind.wrap_i64]; omega
  have hm : (k : Int) + 1 = (K : Int) := by omega
  obtain ⟨i0, hi0, hz0, hz1, hz2⟩ := info_parts27 rat_info
  have hKI : (K : Int) ≤ 9 := by omega
  have hK9 : K ≤ 9 := by omega
  have hq2 : foldO (sk1 t k n) (List.replicate K ⟨0, 0⟩) (k + 1) = some l := by rw [← hK]; exact hq
  have HP := Lib.hid (And.intro h (And.intro hk (And.intro hk1 (And.intro ht (And.intro hn (And.intro hq2 (And.intro hqk (And.intro hK hL))))))))
  rw [hK]
  clear h hk hk1 ht hn hq hq2 hqk hK hL
  refine (callsIn_wide (n := 10)).1 ?_
  refine callsIn_of_wp_marks Tryz.func8 rfl trivial ?_ rfl
  simp only [Tryz.ntmps8, List.size_toArray, List.length_cons, List.length_nil, Nat.reduceAdd, Nat.reduceSub, Array.replicate_succ, Array.replicate_zero, List.push_toArray, List.append_toArray, List.nil_append, List.cons_append]
  refine wpIn_wide.2 ?_
  go_wp2_with fail
  refine (rrefuses_any HP.out.1 HP.out.2.1 (Nat.le_trans HP.out.2.2.2.2.1 (by decide)) HP.out.2.2.2.1).mono ?_
  rintro e w1 ⟨rfl, rfl⟩
  go_wp2_with (at_make; refine wpList_make_full _ rfl _ _ 30 rfl w.heap.size 40 i0 (.agg #[.bool false, .slice none 0 0, .slice none 0 0]) 3 Tryz.underlying30 hi0 hz0 hz1 .i64 .i64 _ _ K rfl rfl rfl rfl (by rw [hz2]; omega) (by simp only [maxLen]; omega) (Nat.le_refl _) ?_; intro w2 hown hgw; rw [zeros_r3s] at hown; have H2 := Lib.hid (And.intro (gb_made hown (by have := HP.out.2.2.2.2.2.2.2.1; omega)) (below_of_grownN hgw)); clear hown hgw)
  obtain ⟨gO, hgO⟩ : ∃ gO, w.heap.size = gO := ⟨_, rfl⟩
  obtain ⟨b9, hb9⟩ : ∃ b9, w2.heap.size = b9 := ⟨_, rfl⟩
  obtain ⟨w3, hw3⟩ : ∃ w3, w2.alloc (.cells #[.slice (some ⟨gO, 0, none⟩) K K] 30) = w3 := ⟨_, rfl⟩
  have hb3 : Below w2.heap.size w2 w3 := by rw [← hw3]; exact bl_allocd (Below.refl _ _) _
  have k9 : Bk w3 b9 30 [.slice (some ⟨gO, 0, none⟩) K K] := by rw [← hw3, ← hb9]; exact Bk.newA w2 30 #[.slice (some ⟨gO, 0, none⟩) K K]
  have hs3 : w3.heap.size = b9 + 1 := by rw [← hw3, World.size_alloc, hb9]
  have H3 := Lib.hid (And.intro k9 (And.intro (by have := H2.out.1.1.below hb3; rw [hgO] at this; exact this : GB w3 gO [] (List.replicate K ⟨0, 0⟩)) (And.intro (bl_next H2.out.2 hb3) (And.intro (by have := H2.out.1.1.lt; have := H2.out.1.2; omega : gO < b9 ∧ w.heap.size ≤ gO) hs3))))
  have HG := Lib.hid (And.intro hgO hb9)
  rw [hgO]
  rw [hw3]
  clear hb3 k9 hs3 hgO hb9
  refine (levels_any (A := A) (nt := nt) (c := nc) (k := k) (n := n) (t := t) (HP.out.1.below H3.out.2.2.1)).mono ?_
  rintro e w4 ⟨rfl, hF4, hb4⟩
  obtain ⟨b, hbb⟩ : ∃ b, w3.heap.size = b := ⟨_, rfl⟩
  rw [hbb] at hF4 ⊢
  have hbe : b = b9 + 1 := by rw [← hbb]; exact H3.out.2.2.2.2
  have H4 := Lib.hid (And.intro hF4 (And.intro (H3.out.1.belowS hb4) (And.intro (H3.out.2.1.below hb4) (And.intro (bl_next H3.out.2.2.1 hb4) hbe))))
  clear hF4 hb4 hbe hbb
  go_wp2_with fail
  rw [HG.out.2]
  obtain ⟨B, hB⟩ : ∃ B, w4.heap.size = B := ⟨_, rfl⟩
  have HB := Lib.hid (And.intro hB (by have := H4.out.2.1.lt; have := H3.out.2.2.2.1; omega : gO < B ∧ b9 < B ∧ w.heap.size ≤ B ∧ w.heap.size ≤ gO ∧ gO ≠ b9))
  have hbl : b < B ∧ b + 1 < B ∧ b + 1 + 1 < B := ⟨by have := H4.out.1.ht.lt; omega, by have := H4.out.1.hk.lt; omega, by have := H4.out.1.hu.lt; omega⟩
  have hAl : ∀ a, A = some a → a.block < w.heap.size := fun a ha => by
    subst ha
    exact HP.out.1.1.lt (by have := (tOk_len HP.out.2.2.2.1).2.1; have := HP.out.1.2.1; omega) a rfl
  have HA := Lib.hid (And.intro hbl hAl)
  clear hbl hAl hB
  refine (wpIn_wide (n := 9)).1 ?_
  refine range_stY (fun g => B ≤ g) (fun g => g = gO) rfl (by decide) (gf := 44) (lb := #[.pointer (some ⟨b, 0, none⟩), .pointer (some ⟨b + 1, 0, none⟩), .pointer (some ⟨b + 1 + 1, 0, none⟩)]) rfl trivial (enters_of Tryz.func44 (by kernel_rfl) rfl)
    (fun i W => ∃ l', foldO (sk1 t k n) (List.replicate K ⟨0, 0⟩) i = some l' ∧ Bk W b9 30 [.slice (some ⟨gO, 0, none⟩) K K] ∧ GB W gO [] l' ∧ Below w.heap.size w W) (OkL B t k n L) (k + 1) (fun _ _ => False) ?hps ?hI ?hI0 ?hIx ?hIx0 ?h0 ?hseq
    (fun i x' a' W => ∃ g10 g11 G qs u, k - i = u ∧ x' = #[.int .i64 (u : Nat), gridV n G L] ∧ levO t k n i = some qs ∧ GB W G [] qs ∧ B ≤ G ∧ Bk W g10 3 [.int .i64 (u : Nat)] ∧ Bk W g11 60 [.int .i64 (n : Nat), .slice (some ⟨G, 0, none⟩) L L] ∧ a' = { tmps := List.toArray (.slice A nt nc :: .int .i64 (k : Nat) :: .int .i64 (n : Nat) :: undef :: undef :: undef :: .slice none 0 0 :: .int .i64 0 :: .int .i64 0 :: .pointer (some ⟨b9, 0, none⟩) :: .pointer (some ⟨g10, 0, none⟩) :: .pointer (some ⟨g11, 0, none⟩) :: undef :: undef :: .slice A nt nc :: .int .i64 (k : Nat) :: .int .i64 (n : Nat) :: .int .i64 0 :: .int .i64 0 :: .bool false :: undef :: .int .i64 (k : Nat) :: .int .i64 (K : Nat) :: .slice (some ⟨gO, 0, none⟩) K K :: .slice A nt nc :: .int .i64 (k : Nat) :: .int .i64 (n : Nat) :: .func (.func 44) #[] #[.pointer (some ⟨b, 0, none⟩), .pointer (some ⟨b + 1, 0, none⟩), .pointer (some ⟨b + 1 + 1, 0, none⟩)] :: .int .i64 (u : Nat) :: .agg #[.int .i64 (n : Nat), .slice (some ⟨G, 0, none⟩) L L] :: undef :: undef :: undef :: undef :: undef :: undef :: undef :: undef :: undef :: undef :: undef :: undef :: undef :: undef :: undef :: undef :: undef :: undef :: undef :: undef :: undef :: undef :: undef :: undef :: undef :: undef :: undef :: undef :: undef :: []), defers := [] }) ?hAx ?hassign ?hbody ?hdone ?hstop
  case hps =>
    rintro i x W ⟨G, qs, rfl, _⟩
    rfl
  case hI =>
    rintro i W W' ⟨l', e, k9, g, bl⟩ hk
    have hB := HB.out
    refine ⟨l', e, hk.bk k9 (fun e => by omega), g.kx hk (fun e => by omega), ?_⟩
    obtain ⟨S, h1, k1⟩ := hk
    exact h1.below bl (Nat.le_refl _) (by omega) (fun k e => by have : B ≤ k := k1 k e; omega)
  case hI0 =>
    rintro i W W' ⟨l', e, k9, g, bl⟩ hk
    have hB := HB.out
    exact ⟨l', e, hk.bk k9 id, g.kq hk id, hk.below bl (Nat.le_refl _) (by omega) (fun k e => e.elim)⟩
  case hIx => exact fun _ _ _ h _ => h.elim
  case hIx0 => exact fun _ _ _ h _ => h.elim
  case h0 => exact ⟨_, rfl, H4.out.2.1, H4.out.2.2.1, H4.out.2.2.2.1⟩
  case hseq =>
    have hB := HB.out.1
    have hB2 := HB.out.2
    subst hB
    exact levels_iter (m := 8) (by decide) H4.out.1 HP.out.2.1 HP.out.2.2.1 HP.out.2.2.2.1 HP.out.2.2.2.2.1 HP.out.2.2.2.2.2.2.2.2 (Nat.le_refl _) ⟨HA.out.1.1, HA.out.1.2.1, HA.out.1.2.2, fun a ha => by have := HA.out.2 a ha; omega⟩ (fun g e => by
      have hbe := H4.out.2.2.2.2
      have h9 := H3.out.2.2.2.1
      have e' : g = gO := e
      exact ⟨by omega, by omega, by omega, by omega, fun a ha => by have := HA.out.2 a ha; omega⟩) HP.out.2.2.2.2.2.2.1
  case hAx =>
    rintro i x' a' W W' ⟨g10, g11, G, qs, u, h1, h2, h3, h4, h5, h6, h7, h8⟩ hk
    exact ⟨g10, g11, G, qs, u, h1, h2, h3, h4.kq hk id, h5, hk.bk h6 id, hk.bk h7 id, h8⟩
  case hassign =>
    intro l₀ i x' W K hIW hok hK
    obtain ⟨G, qs, rfl, hlv, hg, hBG⟩ := hok
    obtain ⟨u, hu⟩ : ∃ u, k - i = u := ⟨_, rfl⟩
    have HK := Lib.hid hK
    have HI := Lib.hid (And.intro hIW (And.intro hlv (And.intro hg (And.intro hBG hu))))
    rw [hu]
    clear hK hIW hlv hg hBG hu
    unfold gridV
    gi_wp2
    have hbl : Below W.heap.size W ((W.alloc (.cells #[.int .i64 (u : Nat)] 3)).alloc (.cells #[.int .i64 (n : Nat), .slice (some ⟨G, 0, none⟩) L L] 60)) := bl_allocd (bl_allocd (Below.refl _ _) _) _
    obtain ⟨⟨l', e, k9, g, bl⟩, hlv, hg, hBG, hu⟩ := HI.out
    refine HK.out _ _ (keepsFrom_below hbl) (Kx.none (Kq.of_below _ hbl)) ⟨l', e, k9.belowS hbl, g.below hbl, bl_next bl hbl⟩ ⟨W.heap.size, W.heap.size + 1, G, qs, u, hu, by rw [hu], hlv, hg.below hbl, hBG, (Bk.newA W 3 #[.int .i64 (u : Nat)]).alloc _, Bk.new2 W _ 60 #[.int .i64 (n : Nat), .slice (some ⟨G, 0, none⟩) L L], rfl⟩
  case hbody =>
    rintro l₀ i x' a' W hl hr hiN ⟨l1, hfo, k9, go, hbl⟩ ⟨g10, g11, G, qs, u, hu, rfl, hlv, hg, hBG, k10, k11, rfl⟩
    obtain ⟨la, lb, e1, e2, e3⟩ := foldO_step HP.out.2.2.2.2.2.1 hiN
    obtain rfl := Option.some.inj (hfo.symm.trans e1)
    unfold sk1 at e2
    rw [hlv, Option.bind_some, hu, HP.out.2.2.2.2.2.2.2.2] at e2
    have hK := HP.out.2.2.2.2.2.2.2.1
    have hln : l1.length = K := by rw [foldO_len (fun i a b h => sk1_len h) hfo, List.length_replicate]
    have hS := (show Sk ⟨n, L, K, u, G, b9, g10, g11, gO⟩ W W qs l1 from ⟨k9, k10, k11, hg, go, (by show G ≠ gO; have := HB.out; omega), ⟨hln, (by show u < K; omega)⟩, Chg.refl _ _⟩)
    have H0 := Lib.hid (And.intro hS (And.intro e2 (And.intro e3 (And.intro hbl (And.intro hr hl)))))
    have hu0 : (0 : Int) ≤ (u : Int) := by omega
    have hu1 : u < K := by omega
    have hu2 : (u : Int) < (K : Int) := by omega
    have hu9 : (u : Int) ≤ 9 := by omega
    have HU := Lib.hid hu
    have HLV := Lib.hid hlv
    have c9 := (hS.k9.belowS (Below.refl _ _).drew).cell 0
    have c10 := (hS.k10.belowS (Below.refl _ _).drew).cell 0
    simp at c9 c10
    have HC := Lib.hid (And.intro c9 c10)
    clear hu hlv hfo k9 go hbl hg hBG k10 k11 e1 e2 e3 hS hr hln hK c9 c10
    gi_wp2
    refine region_round (S := fun w' => w'.cell? ⟨b9, 0, none⟩ = some (.slice (some ⟨gO, 0, none⟩) K K) ∧ w'.cell? ⟨g10, 0, none⟩ = some (.int .i64 (u : Nat))) (by kernel_rfl) (by kernel_rfl) HC.out (fun hS => ?_)
    refine wpAnyH_take (i := 0) (v := _) rfl (by kernel_rfl) (by kernel_rfl) (by kernel_rfl) (fun _ _ _ h => h) (Or.inl ⟨by rfl, fun w' hw' => by ((try dsimp only at hw'); go_split_ands; first | (go_simp; done) | (go_simp; with_reducible rfl))⟩) hS ?_
    simp only [Act.put, List.getElem_toArray, List.getElem_cons_zero, List.getElem_cons_succ, List.setIfInBounds_toArray, List.set_cons_zero, List.set_cons_succ]
    refine wpAnyH_take (i := 1) (v := _) rfl (by kernel_rfl) (by kernel_rfl) (by kernel_rfl) (fun _ _ _ h => h) (Or.inl ⟨by rfl, fun w' hw' => by ((try dsimp only at hw'); go_split_ands; first | (go_simp; done) | (go_simp; with_reducible rfl))⟩) hS ?_
    simp only [Act.put, List.getElem_toArray, List.getElem_cons_zero, List.getElem_cons_succ, List.setIfInBounds_toArray, List.set_cons_zero, List.set_cons_succ]
    refine wpAnyH_ready (rs := [2]) (by kernel_rfl) (by simp) ?_
    refine AllReadyH.cons rfl (fun K hK => ?_) AllReadyH.nil
    simp only [List.getElem_toArray, List.getElem_cons_zero, List.getElem_cons_succ]
    go_simp
    refine (whole_any (n := 0) (by decide)).mono ?_
    rintro e w5 ⟨v5, rfl, hv5, hb5⟩
    rw [whole0] at hv5
    obtain ⟨rw, rfl⟩ := hv5.r3
    have H5 := Lib.hid (H0.out.1.below (bl_next (Below.refl _ _).drew hb5))
    have HV := Lib.hid hv5
    clear hv5 hb5
    unfold R3.v
    try dsimp only
    refine hK.out _ _ ?_ (fun hS1 => ?_)
    · exact ⟨H5.out.k9.cell 0, H5.out.k10.cell 0⟩
    clear hK K
    (try simp only [Act.put, List.setIfInBounds_toArray, List.set_cons_zero, List.set_cons_succ])
    refine wpAnyH_take (i := 3) (v := _) rfl (by kernel_rfl) (by kernel_rfl) (by kernel_rfl) (fun _ _ _ h => h) (Or.inl ⟨by rfl, fun w' hw' => by ((try dsimp only at hw'); go_split_ands; first | (go_simp; done) | (go_simp; with_reducible rfl))⟩) hS1 ?_
    simp only [Act.put, List.getElem_toArray, List.getElem_cons_zero, List.getElem_cons_succ, List.setIfInBounds_toArray, List.set_cons_zero, List.set_cons_succ]
    obtain ⟨x6, _, y0, y1, y2, f0, f1, f2⟩ := H5.out.o.form (i := u) (by rw [H5.out.len.1]; exact H5.out.len.2)
    refine wpAnyH_ready (rs := [4]) (by kernel_rfl) (by simp) ?_
    refine AllReadyH.cons rfl (fun K hK => ?_) AllReadyH.nil
    simp only [List.getElem_toArray, List.getElem_cons_zero, List.getElem_cons_succ]
    go_simp
    have H6 := Lib.hid (H5.out.put HV.out)
    refine hK.out _ _ ?_ (fun hS2 => ?_)
    · exact ⟨H6.out.k9.cell 0, H6.out.k10.cell 0⟩
    clear hK K
    (try simp only [Act.put, List.setIfInBounds_toArray, List.set_cons_zero, List.set_cons_succ])
    clear y0 y1 y2 f0 f1 f2
    refine wpAnyH_done (by kernel_rfl) ?_ _
    simp only [NormR, Exit.then]
    have hl0 : (s3 w5 gO (u * 3) rw).heap[l₀]? = W.heap[l₀]? := H6.out.chg.2 l₀ (by obtain ⟨r, hr⟩ := H0.out.2.2.2.2.1; exact (Array.getElem?_eq_some_iff.1 hr).1) (by have := H0.out.2.2.2.2.2; have := HB.out; show ¬ (l₀ = gO); omega)
    have H6a := Lib.hid (And.intro H6.out (by obtain ⟨r, hr⟩ := H0.out.2.2.2.2.1; exact ⟨r, hl0.trans hr⟩ : ∃ r, (s3 w5 gO (u * 3) rw).heap[l₀]? = some (.loop r)))
    have c11 := H6.out.k11
    obtain ⟨d0, d1, _, _⟩ := cells2 c11
    clear c11 hl0
    unfold s3 at H6a d0 d1
    obtain ⟨W6, hW6⟩ : ∃ W6, ((w5.setCell ⟨gO, u * 3, none⟩ (.bool rw.s)).setCell ⟨gO, u * 3 + 1, none⟩ (.slice rw.A rw.m rw.c)).setCell ⟨gO, u * 3 + 2, none⟩ (.slice rw.B rw.n rw.d) = W6 := ⟨_, rfl⟩
    rw [hW6] at H6a d0 d1 ⊢
    clear hW6
    gi_wp2
    refine ⟨trivial, (CallsIn.inRound l₀ ((callsIn_wide).2 places_any)).mono ?_⟩
    rintro e w7 ⟨rfl, rfl⟩
    obtain ⟨bp, hbp⟩ : ∃ bp, W6.heap.size = bp := ⟨_, rfl⟩
    obtain ⟨w7, hw7⟩ : ∃ w7, W6.alloc (.cells #[.int .i64 (n : Nat), .slice (some ⟨G, 0, none⟩) L L] 60) = w7 := ⟨_, rfl⟩
    have hb7 : Below W6.heap.size W6 w7 := by rw [← hw7]; exact bl_allocd (Below.refl _ _) _
    have kp : Bk w7 bp 60 [.int .i64 (n : Nat), .slice (some ⟨G, 0, none⟩) L L] := by rw [← hw7, ← hbp]; exact Bk.newA W6 60 #[.int .i64 (n : Nat), .slice (some ⟨G, 0, none⟩) L L]
    obtain ⟨r0, hr0⟩ := H6a.out.2
    have hr7 : w7.heap[l₀]? = some (.loop r0) := (hb7.block l₀ (Array.getElem?_eq_some_iff.1 hr0).1).trans hr0
    have H7 := Lib.hid (And.intro (H6a.out.1.below hb7) (And.intro kp (And.intro (H6a.out.1.chg.size) hb7.size)))
    rw [hbp, hw7]
    clear hb7 kp hr0 hbp hw7 d0 d1
    gi_wp2
    refine range_inX Nq (fun g => g = gO) (l₀ := l₀) (r₀ := r0) rfl hr7 (by decide) (gf := 47) (lb := #[.pointer (some ⟨bp, 0, none⟩)]) rfl trivial (enters_of Tryz.func47 (by kernel_rfl) rfl)
      (fun j W' => ∃ l2, foldO (sk2 u n qs) (l1.set u ⟨0, 1⟩) j = some l2 ∧ Sk ⟨n, L, K, u, G, b9, g10, g11, gO⟩ W W' qs l2) (OkP n qs) L (fun _ _ => False) ?ips ?iI ?iI ?iIx ?iIx ?i0 ?iseq
      (fun j x' a' W' => ∃ g12 g13 r q ci di, j / (n + 1) = ci ∧ j % (n + 1) = di ∧ x' = #[.agg #[.int .i64 (ci : Nat), .int .i64 (di : Nat)], R3.v r] ∧ qs[j]? = some q ∧ QV W' r.v q ∧ Bk W' g12 65 [.int .i64 (ci : Nat), .int .i64 (di : Nat)] ∧ Bk W' g13 40 r.cells ∧ gO < g13 ∧ a' = { tmps := List.toArray (.slice A nt nc :: .int .i64 (k : Nat) :: .int .i64 (n : Nat) :: undef :: undef :: undef :: .slice none 0 0 :: .int .i64 0 :: .int .i64 0 :: .pointer (some ⟨b9, 0, none⟩) :: .pointer (some ⟨g10, 0, none⟩) :: .pointer (some ⟨g11, 0, none⟩) :: .pointer (some ⟨g12, 0, none⟩) :: .pointer (some ⟨g13, 0, none⟩) :: .slice A nt nc :: .int .i64 (k : Nat) :: .int .i64 (n : Nat) :: .int .i64 0 :: .int .i64 0 :: .bool false :: undef :: .int .i64 (k : Nat) :: .int .i64 (K : Nat) :: .slice (some ⟨gO, 0, none⟩) K K :: .slice A nt nc :: .int .i64 (k : Nat) :: .int .i64 (n : Nat) :: .func (.func 44) #[] #[.pointer (some ⟨b, 0, none⟩), .pointer (some ⟨b + 1, 0, none⟩), .pointer (some ⟨b + 1 + 1, 0, none⟩)] :: .int .i64 (u : Nat) :: .agg #[.int .i64 (n : Nat), .slice (some ⟨G, 0, none⟩) L L] :: .slice (some ⟨gO, 0, none⟩) K K :: .int .i64 (u : Nat) :: .agg #[.bool rw.s, .slice rw.A rw.m rw.c, .slice rw.B rw.n rw.d] :: .pointer (some ⟨gO, u * 3, none⟩) :: .agg #[.int .i64 (n : Nat), .slice (some ⟨G, 0, none⟩) L L] :: .func (.func 47) #[] #[.pointer (some ⟨bp, 0, none⟩)] :: .agg #[.int .i64 (ci : Nat), .int .i64 (di : Nat)] :: .agg #[.bool r.s, .slice r.A r.m r.c, .slice r.B r.n r.d] :: undef :: undef :: undef :: undef :: undef :: undef :: undef :: undef :: undef :: undef :: undef :: undef :: undef :: undef :: undef :: undef :: undef :: undef :: undef :: undef :: undef :: []), defers := [] }) ?iAx ?iassign ?ibody ?idone ?istop
    case ips =>
      rintro i x W ⟨r, q, rfl, _, _⟩
      rfl
    case iI =>
      rintro j W1 W2 ⟨l2, h1, h2⟩ hk
      exact ⟨l2, h1, h2.kq hk (by have := H7.out.2.2.1; have := H7.out.2.2.2; omega)⟩
    case iIx => exact fun _ _ _ h _ => h.elim
    case i0 => exact ⟨_, rfl, H7.out.1⟩
    case iseq =>
      have hL81 : L ≤ 81 := by rw [← HP.out.2.2.2.2.2.2.2.2]; exact Nat.mul_le_mul (n₁ := n + 1) (m₁ := n + 1) (n₂ := 9) (m₂ := 9) (by have := HP.out.2.2.2.2.1; omega) (by have := HP.out.2.2.2.2.1; omega)
      exact places_iterX (m := 6) (by decide) H7.out.2.1 H7.out.1.g HP.out.2.2.2.2.1 ((levO_len HLV.out).trans HP.out.2.2.2.2.2.2.2.2) hL81 ⟨fun e => gb_type H7.out.2.1 H7.out.1.o (by decide) e, H7.out.1.ne⟩
    case iAx =>
      rintro j x' a' W1 W2 ⟨g12, g13, r, q, ci, di, h1, h2, h3, h4, h5, h6, h7, h8, h9⟩ hk
      exact ⟨g12, g13, r, q, ci, di, h1, h2, h3, h4, hk.qv h5, hk.bk h6 id, hk.bk h7 id, h8, h9⟩
    case iassign =>
      intro l₂ j x' W1 K' hIW hok hK
      obtain ⟨r, q, rfl, hq, hqv⟩ := hok
      have HK := Lib.hid hK
      have HI := Lib.hid (And.intro hIW (And.intro hq hqv))
      clear hK hIW hq hqv
      obtain ⟨ci, hci⟩ : ∃ ci, j / (n + 1) = ci := ⟨_, rfl⟩
      obtain ⟨di, hdi⟩ : ∃ di, j % (n + 1) = di := ⟨_, rfl⟩
      rw [hci, hdi]
      unfold R3.v
      gi_wp2
      have hbl : Below W1.heap.size W1 ((W1.alloc (.cells #[.int .i64 (ci : Nat), .int .i64 (di : Nat)] 65)).alloc (.cells #[.bool r.s, .slice r.A r.m r.c, .slice r.B r.n r.d] 40)) := bl_allocd (bl_allocd (Below.refl _ _) _) _
      obtain ⟨⟨l2, hf2, hS2⟩, hq, hqv⟩ := HI.out
      refine HK.out _ _ (keepsFrom_below hbl) (Kx.none (Kq.of_below _ hbl)) ⟨l2, hf2, hS2.below hbl⟩ ⟨W1.heap.size, W1.heap.size + 1, r, q, ci, di, hci, hdi, by rw [hci, hdi], hq, hqv.below hbl, (Bk.newA W1 65 #[.int .i64 (ci : Nat), .int .i64 (di : Nat)]).alloc _, Bk.new2 W1 _ 40 #[.bool r.s, .slice r.A r.m r.c, .slice r.B r.n r.d], by have : gO < W1.heap.size := hS2.o.lt; omega, rfl⟩
    case ibody =>
      rintro l₂ j x' a' W1 hl2 hr2 hjN ⟨l2, hf2, hS2⟩ ⟨g12, g13, r, q, ci, di, hci, hdi, rfl, hq, hqv, k12, k13, h13, rfl⟩
      obtain ⟨la, lb2, e1, e2, e3⟩ := foldO_step H0.out.2.1 hjN
      obtain rfl := Option.some.inj (hf2.symm.trans e1)
      unfold sk2 at e2
      rw [hq, Option.bind_some, hdi] at e2
      have HF := Lib.hid (show ∀ (W' : World), Sk ⟨n, L, K, u, G, b9, g10, g11, gO⟩ W1 W' qs lb2 → KeepsFrom w7.heap.size W1 W' ∧ Kx w7.heap.size (fun g => g = gO) W1 W' ∧ (∃ l2, foldO (sk2 u n qs) (l1.set u ⟨0, 1⟩) (j + 1) = some l2 ∧ Sk ⟨n, L, K, u, G, b9, g10, g11, gO⟩ W W' qs l2) from fun W' h => ⟨(hS2.here.fin h).1, (hS2.here.fin h).2, _, e3, hS2.trans h⟩)
      have HI := Lib.hid (And.intro hS2.here (And.intro e2 (And.intro hqv (And.intro k12 (And.intro k13 h13)))))
      have c10 := hS2.k10.cell 0
      have c12 := k12.cell 1
      simp at c10 c12
      clear hl2 hr2 hjN hf2 hS2 hci hdi hq hqv k12 k13 h13 e1 e2 e3
      by_cases hcase : u = 0 ∨ di = 0
      · have hstep : foldO (sk2 u n qs) (l1.set u ⟨0, 1⟩) 0 = some (l1.set u ⟨0, 1⟩) := rfl
        have hadd := HI.out.2.1
        rw [if_pos hcase] at hadd
        obtain ⟨old, hold, hadd⟩ := Option.bind_eq_some_iff.1 hadd
        obtain ⟨nw, hnw, hset⟩ := Option.map_eq_some_iff.1 hadd
        obtain ⟨hul, hold2⟩ := List.getElem?_eq_some_iff.1 hold
        have HN := Lib.hid (And.intro hnw (And.intro hset (And.intro hul (show ∀ h : u < l2.length, l2[u]'h = old from fun _ => hold2))))
        clear hold2 hstep hadd hold hnw hset hul
        have hd2 : (((u : Int) == 0) = true) ∨ (((u : Int) == 0) = false ∧ ((di : Int) == 0) = true) := by
          by_cases hu00 : u = 0
          · left; simp; omega
          · right; constructor
            · simp; omega
            · simp; omega
        clear hcase
        rcases hd2 with hub | ⟨hub, hdb⟩
        all_goals
          gi_wp2
          have hSd := HI.out.1.drew
          have k13 := bk3 (HI.out.2.2.2.2.1.belowS (Below.refl _ _).drew)
          have c9 := hSd.k9.cell 0
          have c10 := hSd.k10.cell 0
          simp at c9 c10
          obtain ⟨xo, hxo, g0, g1, g2, _, _, _⟩ := hSd.o.form (i := u) HN.out.2.2.1
          rw [HN.out.2.2.2 HN.out.2.2.1] at hxo
          have HXO := Lib.hid hxo
          have HS := Lib.hid hSd
          have HC := Lib.hid (And.intro c9 (And.intro c10 k13))
          have HO := Lib.hid (And.intro g0 (And.intro g1 g2))
          clear hSd hxo c9 c10 k13 g0 g1 g2
          refine region_round (S := fun w' => w'.cell? ⟨b9, 0, none⟩ = some (.slice (some ⟨gO, 0, none⟩) K K) ∧ w'.cell? ⟨g10, 0, none⟩ = some (.int .i64 (u : Nat)) ∧ w'.cell? ⟨g13, 0, none⟩ = some (.bool r.s) ∧ w'.cell? ⟨g13, 1, none⟩ = some (.slice r.A r.m r.c) ∧ w'.cell? ⟨g13, 2, none⟩ = some (.slice r.B r.n r.d)) (by kernel_rfl) (by kernel_rfl) HC.out (fun hS => ?_)
          refine wpAnyH_take (i := 0) (v := _) rfl (by kernel_rfl) (by kernel_rfl) (by kernel_rfl) (fun _ _ _ h => h) (Or.inl ⟨by rfl, fun w' hw' => by ((try dsimp only at hw'); go_split_ands; first | (go_simp; done) | (go_simp; with_reducible rfl))⟩) hS ?_
          simp only [Act.put, List.getElem_toArray, List.getElem_cons_zero, List.getElem_cons_succ, List.setIfInBounds_toArray, List.set_cons_zero, List.set_cons_succ]
          refine wpAnyH_take (i := 1) (v := _) rfl (by kernel_rfl) (by kernel_rfl) (by kernel_rfl) (fun _ _ _ h => h) (Or.inl ⟨by rfl, fun w' hw' => by ((try dsimp only at hw'); go_split_ands; first | (go_simp; done) | (go_simp; with_reducible rfl))⟩) hS ?_
          simp only [Act.put, List.getElem_toArray, List.getElem_cons_zero, List.getElem_cons_succ, List.setIfInBounds_toArray, List.set_cons_zero, List.set_cons_succ]
          refine wpAnyH_take (i := 2) (v := _) rfl (by kernel_rfl) (by kernel_rfl) (by kernel_rfl) (fun _ _ _ h => h) (Or.inl ⟨by rfl, fun w' hw' => by ((try dsimp only at hw'); go_split_ands; first | (go_simp; done) | (go_simp; with_reducible rfl))⟩) hS ?_
          simp only [Act.put, List.getElem_toArray, List.getElem_cons_zero, List.getElem_cons_succ, List.setIfInBounds_toArray, List.set_cons_zero, List.set_cons_succ]
          refine wpAnyH_take (i := 3) (v := _) rfl (by kernel_rfl) (by kernel_rfl) (by kernel_rfl) (fun _ _ _ h => h) (Or.inl ⟨by rfl, fun w' hw' => by ((try dsimp only at hw'); go_split_ands; first | (go_simp; done) | (go_simp; with_reducible rfl))⟩) hS ?_
          simp only [Act.put, List.getElem_toArray, List.getElem_cons_zero, List.getElem_cons_succ, List.setIfInBounds_toArray, List.set_cons_zero, List.set_cons_succ]
          refine wpAnyH_take (i := 6) (v := _) rfl (by kernel_rfl) (by kernel_rfl) (by kernel_rfl) (fun _ _ _ h => h) (Or.inl ⟨by rfl, fun w' hw' => by ((try dsimp only at hw'); go_split_ands; first | (go_simp; done) | (go_simp; with_reducible rfl))⟩) hS ?_
          simp only [Act.put, List.getElem_toArray, List.getElem_cons_zero, List.getElem_cons_succ, List.setIfInBounds_toArray, List.set_cons_zero, List.set_cons_succ]
          refine wpAnyH_take (i := 4) (v := _) rfl (by kernel_rfl) (by kernel_rfl) (by kernel_rfl) (fun _ _ _ h => h) (Or.inl ⟨by rfl, fun w' hw' => by ((try dsimp only at hw'); go_split_ands; first | (go_simp; done) | (go_simp; with_reducible rfl))⟩) hS ?_
          simp only [Act.put, List.getElem_toArray, List.getElem_cons_zero, List.getElem_cons_succ, List.setIfInBounds_toArray, List.set_cons_zero, List.set_cons_succ]
          obtain ⟨g0, g1, g2⟩ := HO.out
          refine wpAnyH_ready (rs := [5]) (by kernel_rfl) (by simp) ?_
          refine AllReadyH.cons rfl (fun K hK => ?_) AllReadyH.nil
          simp only [List.getElem_toArray, List.getElem_cons_zero, List.getElem_cons_succ]
          go_simp
          refine hK.out _ _ ?_ (fun hS1 => ?_)
          · exact HC.out
          clear hK K
          (try simp only [Act.put, List.setIfInBounds_toArray, List.set_cons_zero, List.set_cons_succ])
          clear g0 g1 g2
          refine wpAnyH_ready (rs := [7]) (by kernel_rfl) (by simp) ?_
          refine AllReadyH.cons rfl (fun K hK => ?_) AllReadyH.nil
          simp only [List.getElem_toArray, List.getElem_cons_zero, List.getElem_cons_succ]
          go_simp
          have HQ7 := Lib.hid (QR.new2' HXO.out (HI.out.2.2.1.below (Below.refl _ _).drew) rfl)
          have HR7 := Lib.hid (HS.out.allocd (.cells #[.bool xo.s, .slice xo.A xo.m xo.c, .slice xo.B xo.n xo.d, .bool r.s, .slice r.A r.m r.c, .slice r.B r.n r.d] 40))
          have HK7 := Lib.hid ((HI.out.2.2.2.2.1.belowS (Below.refl _ _).drew).alloc (.cells #[.bool xo.s, .slice xo.A xo.m xo.c, .slice xo.B xo.n xo.d, .bool r.s, .slice r.A r.m r.c, .slice r.B r.n r.d] 40))
          refine hK.out _ _ ?_ (fun hS2 => ?_)
          · exact ⟨HR7.out.k9.cell 0, HR7.out.k10.cell 0, bk3 HK7.out⟩
          clear hK K
          (try simp only [Act.put, List.setIfInBounds_toArray, List.set_cons_zero, List.set_cons_succ])
          refine wpAnyH_ready (rs := [8]) (by kernel_rfl) (by simp) ?_
          refine AllReadyH.cons rfl (fun K hK => ?_) AllReadyH.nil
          simp only [List.getElem_toArray, List.getElem_cons_zero, List.getElem_cons_succ]
          go_simp
          refine (add_o (qs := [old, q]) HQ7.out (by decide) (Nat.le_refl _) HN.out.1).mono ?_
          rintro e w8 ⟨v8, rfl, hv8, hb8⟩
          obtain ⟨rN, rfl⟩ := hv8.r3
          have HR8 := Lib.hid (HR7.out.below hb8)
          have HK8 := Lib.hid (HK7.out.belowS hb8)
          have HV8 := Lib.hid hv8
          clear hv8 hb8
          unfold R3.v
          try dsimp only
          refine hK.out _ _ ?_ (fun hS3 => ?_)
          · exact ⟨HR8.out.k9.cell 0, HR8.out.k10.cell 0, bk3 HK8.out⟩
          clear hK K
          (try simp only [Act.put, List.setIfInBounds_toArray, List.set_cons_zero, List.set_cons_succ])
          refine wpAnyH_take (i := 9) (v := _) rfl (by kernel_rfl) (by kernel_rfl) (by kernel_rfl) (fun _ _ _ h => h) (Or.inl ⟨by rfl, fun w' hw' => by ((try dsimp only at hw'); go_split_ands; first | (go_simp; done) | (go_simp; with_reducible rfl))⟩) hS3 ?_
          simp only [Act.put, List.getElem_toArray, List.getElem_cons_zero, List.getElem_cons_succ, List.setIfInBounds_toArray, List.set_cons_zero, List.set_cons_succ]
          refine wpAnyH_take (i := 10) (v := _) rfl (by kernel_rfl) (by kernel_rfl) (by kernel_rfl) (fun _ _ _ h => h) (Or.inl ⟨by rfl, fun w' hw' => by ((try dsimp only at hw'); go_split_ands; first | (go_simp; done) | (go_simp; with_reducible rfl))⟩) hS3 ?_
          simp only [Act.put, List.getElem_toArray, List.getElem_cons_zero, List.getElem_cons_succ, List.setIfInBounds_toArray, List.set_cons_zero, List.set_cons_succ]
          refine wpAnyH_take (i := 11) (v := _) rfl (by kernel_rfl) (by kernel_rfl) (by kernel_rfl) (fun _ _ _ h => h) (Or.inl ⟨by rfl, fun w' hw' => by ((try dsimp only at hw'); go_split_ands; first | (go_simp; done) | (go_simp; with_reducible rfl))⟩) hS3 ?_
          simp only [Act.put, List.getElem_toArray, List.getElem_cons_zero, List.getElem_cons_succ, List.setIfInBounds_toArray, List.set_cons_zero, List.set_cons_succ]
          refine wpAnyH_take (i := 12) (v := _) rfl (by kernel_rfl) (by kernel_rfl) (by kernel_rfl) (fun _ _ _ h => h) (Or.inl ⟨by rfl, fun w' hw' => by ((try dsimp only at hw'); go_split_ands; first | (go_simp; done) | (go_simp; with_reducible rfl))⟩) hS3 ?_
          simp only [Act.put, List.getElem_toArray, List.getElem_cons_zero, List.getElem_cons_succ, List.setIfInBounds_toArray, List.set_cons_zero, List.set_cons_succ]
          obtain ⟨x6, _, g0, g1, g2, f0, f1, f2⟩ := HR8.out.o.form (i := u) HN.out.2.2.1
          refine wpAnyH_ready (rs := [13]) (by kernel_rfl) (by simp) ?_
          refine AllReadyH.cons rfl (fun K hK => ?_) AllReadyH.nil
          simp only [List.getElem_toArray, List.getElem_cons_zero, List.getElem_cons_succ]
          go_simp
          have HR9 := Lib.hid (HR8.out.put HV8.out)
          have HK9 := Lib.hid ((chg_s3 w8 gO (u * 3) rN).bk HK8.out (by have := HI.out.2.2.2.2.2; show ¬ (g13 = gO); omega))
          refine hK.out _ _ ?_ (fun hS4 => ?_)
          · exact ⟨HR9.out.k9.cell 0, HR9.out.k10.cell 0, bk3 HK9.out⟩
          clear hK K
          (try simp only [Act.put, List.setIfInBounds_toArray, List.set_cons_zero, List.set_cons_succ])
          clear g0 g1 g2 f0 f1 f2
          refine wpAnyH_done (by kernel_rfl) ?_ _
          simp only [NormR, Exit.then]
          gi_wp2
          have hfin := HR9.out
          have hse := HN.out.2.1
          have hse2 : l2.set u nw = lb2 := hse
          have hfin2 : Sk ⟨n, L, K, u, G, b9, g10, g11, gO⟩ W1 (s3 w8 gO (u * 3) rN) qs (l2.set u nw) := hfin
          rw [hse2] at hfin2
          exact HF.out _ hfin2
      · have hst : l2 = lb2 := by have := HI.out.2.1; rw [if_neg hcase] at this; exact Option.some.inj this
        have hub : ((u : Int) == 0) = false := by simp; omega
        have hdb : ((di : Int) == 0) = false := by simp; omega
        have HT := Lib.hid hst
        clear hcase hst
        gi_wp2
        have := HI.out.1
        rw [HT.out] at this
        exact HF.out _ this
    case idone =>
      rintro W1 ⟨l2, hf2, hS2⟩
      obtain rfl := Option.some.inj (hf2.symm.trans H0.out.2.1)
      have hf := H0.out.1.fin (B := w4.heap.size) hS2
      exact ⟨hf.1, hf.2, _, H0.out.2.2.1, hS2.k9, hS2.o, hS2.chg.below H0.out.2.2.2.1 (fun k _ e => by have e' : k = gO := e; have := HB.out; omega) H0.out.2.2.2.1.size⟩
    case istop => exact fun c W h => h.elim
  case hdone =>
    rintro D W hD ⟨l', hfo, k9, go, bl⟩ hKD
    obtain rfl := Option.some.inj (hfo.symm.trans HP.out.2.2.2.2.2.1)
    have c9 := k9.cell 0
    simp at c9
    have HW := Lib.hid (And.intro go (And.intro bl (And.intro hKD hD)))
    clear k9 go bl hKD hD hfo
    go_wp2_with fail
    have hkq : Kq w4.heap.size Nq W (W.putObj D (.deferred none)) := Kq.put HW.out.2.2.2 HW.out.2.2.1 rfl
    have hB := HB.out
    refine ⟨by simp, .inl ⟨_, _, rfl, run_takeDeferred HW.out.2.2.1, ?_⟩⟩
    refine ⟨_, ?_, gO, rfl, HW.out.1.kq hkq id, by omega, hkq.below HW.out.2.1 (Nat.le_refl _) (by omega) (fun k e => e.elim)⟩
    simp [results, Tryz.results8, go_sem]
  case hstop => exact fun D c W _ h _ => h.elim
end Go.Proofs.YtlhipaffhehcnaaGreat
namespace Go.Proofs.YtlhipaffhehcnaaGreat
open Go.RowKit Go.Shelf
set_option linter.unusedVariables false
set_option linter.unusedSimpArgs false
def failO (t : List Nat) (k n : Nat) : Option Q := (stuckO t k n).bind fun l => addO l.tail
theorem GB.tail {W : World} {G k : Nat} {l : List Q} (h : GB W G [] l) (hl : l.length = k + 1) : QR W (some ⟨G, 3, none⟩) k l.tail := by
  obtain ⟨rs, h1, h2⟩ := h
  have hr := h2.len
  cases l with
  | nil => simp at hl
  | cons q l =>
    cases rs with
    | nil => simp at hr
    | cons r rs =>
      simp at hl hr
      refine ⟨rs, by omega, Rd.of_bk h1 ?_ ?_, h2.2⟩
      · rw [List.length_append, r3s_len, List.length_cons]; simp; omega
      · show ((r.cells ++ r3s rs ++ []).drop 3).take (3 * k) = r3s rs
        rw [List.append_nil, List.drop_append_of_le_length (by rw [R3.len]; omega), List.drop_of_length_le (by rw [R3.len]; omega), List.nil_append, List.take_of_length_le (by rw [r3s_len]; omega)]
set_option maxRecDepth 100000 in
set_option maxHeartbeats 1000000 in
/-- ripple.Fail -/
theorem fail_any {w : World} {A : Option Addr} {nt nc k n : Nat} {t : List Nat} {q : Q} (h : Tb w A nt t) (hk : k ≤ 8) (hk1 : 1 ≤ k) (ht : tOk t k = true) (hn : n ≤ 8) (hq : failO t k n = some q) : Calls Tryz.prog 103 #[.slice A nt nc, .int .i64 (k : Nat), .int .i64 (n : Nat)] w fun e w' => ∃ v, e = .returned (.tuple #[v, .int .i64 0]) ∧ QV w' v q ∧ Below w.heap.size w w' := by
  unfold failO at hq
  obtain ⟨l, hl, hq⟩ := Option.bind_eq_some_iff.1 hq
  have hb0 : Below w.heap.size w (w.alloc (.cells #[.bool false, .slice none 0 0, .slice none 0 0] 40)) := bl_allocd (Below.refl _ _) _
  have k0 := Bk.newA w 40 #[.bool false, .slice none 0 0, .slice none 0 0]
  have H0 := Lib.hid (And.intro hb0 k0)
  have HS := Lib.hid (stuck_any (nc := nc) (h.below hb0) hk hk1 ht hn hl)
  have HP := Lib.hid (And.intro (stuckO_len hl) (And.intro hq hk))
  obtain ⟨K, hK⟩ : ∃ K, k + 1 = K := ⟨_, rfl⟩
  have hK1 : (1 : Int) ≤ (K : Int) := by omega
  have hK2 : 1 ≤ K := by omega
  have hK3 : ¬ K = 1 := by omega
  have hK9 : (K : Int) ≤ 9 := by omega
  have hK4 : K - 1 = k := by omega
  rw [hK] at HS
  have HK := Lib.hid hK
  clear h hk hk1 ht hn hq hl hb0 k0 hK
  go_enter Tryz.func103, Tryz.ntmps103
  go_wp2_with fail
  refine HS.out.mono ?_
  rintro e w2 ⟨G, rfl, hg, hG, hb2⟩
  have H2 := Lib.hid (And.intro (hg.tail HP.out.1) (And.intro (H0.out.2.belowS hb2) (bl_next H0.out.1 hb2)))
  clear hg hG hb2 HS
  go_wp2_with fail
  refine (add_o H2.out.1 (by have := HP.out.2.2; omega) (Nat.le_refl _) HP.out.2.1).mono ?_
  rintro e w3 ⟨v, rfl, hv, hb3⟩
  obtain ⟨r, rfl⟩ := hv.r3
  have k3 := H2.out.2.1.belowS hb3
  obtain ⟨_, _, _, s0, s1, s2⟩ := cells_rat k3
  have HF := Lib.hid (fin_rat k3 hv (bl_next H2.out.2.2 hb3) (Nat.le_refl _))
  clear hv k3 hb3
  unfold R3.v
  go_wp2_with fail
  refine bodyPost_ret (ret_rat2 rfl rfl HF.out.1) rfl ?_
  exact ⟨_, rfl, HF.out.2⟩
end Go.Proofs.YtlhipaffhehcnaaGreat
