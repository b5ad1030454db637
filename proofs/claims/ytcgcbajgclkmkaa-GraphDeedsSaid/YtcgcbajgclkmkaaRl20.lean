/- The document's graph: Add. -/
import Derived.Test.YtcgcbajgclkmkaaRk20
namespace Go.Proofs.Ytcgcbajgclkmkaa
open Go.RowKit
set_option linter.unusedVariables false
theorem RG.add_ {w w1 : World} {base W KB : Nat} {A : Option Addr} {pc : Nat} {vs : List Value} {R : Nat → Option Nat} {kn : List Bool} {S : List (List Int)} {most : Int} {g c gB cB N : Nat} {o : Obj} {l : List Int} (h : RG w base W KB A pc vs R kn S most)
    (hB : Rd w (some ⟨gB, 0, none⟩) l.length (nums l)) (tB : R gB = none) (hbB : base ≤ gB) (hBl : gB < w.heap.size) (hNB : N ≤ gB) (hN : N ≤ w.heap.size) (hS : Sset kn.length l) (hs : S.length < 100000) (hm : (S.length : Int) < most)
    (ho : w1.ownsRow base 32 1 (.slice (some ⟨g, 0, none⟩) (S.length + 1) c) (S.length + 1) (vs ++ [.slice (some ⟨gB, 0, none⟩) l.length cB]))
    (hg : (w.alloc o).grownBy w1 (Value.slice A S.length pc).ownBlock) (hat : some g = (Value.slice A S.length pc).ownBlock ∨ some g = some (w.alloc o).heap.size) :
    RG (w1.setCell ⟨W, 2, none⟩ (.slice (some ⟨g, 0, none⟩) (S.length + 1) c)) base W KB (some ⟨g, 0, none⟩) c (vs ++ [.slice (some ⟨gB, 0, none⟩) l.length cB]) (tagW (tagW R g 2) gB 3) kn (S ++ [l]) most ∧
      Chg (fun b => R b ≠ none) w (w1.setCell ⟨W, 2, none⟩ (.slice (some ⟨g, 0, none⟩) (S.length + 1) c)) ∧ (∀ b, b < N → tagW (tagW R g 2) gB 3 b = R b) := by
  have hgt : R g = some 2 ∨ w.heap.size ≤ g := by
    rcases hat with e | e
    · obtain ⟨a, ha, ha'⟩ := slice_block e.symm
      left; rw [← ha']; exact h.tA a ha
    · right; injection e with e; rw [e, World.size_alloc]; omega
  have htg : ∀ {b u}, R b = some u → u ≠ 2 → b ≠ g := fun {b u} hb hu e => by
    subst e
    rcases hgt with e | e
    · rw [hb] at e; injection e with e; exact hu e
    · have := (h.lt b (by rw [hb]; simp)).2; omega
  have htB : ∀ {b u}, R b = some u → b ≠ gB := fun hb e => by subst e; rw [tB] at hb; cases hb
  have hgB : g ≠ gB := fun e => by
    subst e
    rcases hgt with e | e
    · rw [tB] at e; cases e
    · omega
  have hc1 : Chg (fun b => R b = some 2) w w1 := ((Chg.refl _ w).alloc o).trans (Chg.of_grown hg (S := fun b => R b = some 2) fun k e => by
    obtain ⟨a, ha, ha'⟩ := slice_block e
    rw [← ha']; exact h.tA a ha) fun _ _ x => x
  have hgl := ho.lt g rfl
  have hgW : g ≠ W := fun e => htg h.tW (by omega) e.symm
  have hc2 : Chg (fun b => b = W) w1 (w1.setCell ⟨W, 2, none⟩ (.slice (some ⟨g, 0, none⟩) (S.length + 1) c)) := (Chg.refl (fun b => b = W) w1).set_ (g := W) (show (fun b => b = W) W from rfl) _ _
  have ne : ∀ {b u}, R b = some u → u ≠ 0 → ¬ (b = W) := fun hb hu e => by subst e; rw [h.tW] at hb; injection hb with hb; exact hu hb.symm
  have ne2 : ∀ {b u}, R b = some u → u ≠ 2 → ¬ (R b = some 2) := fun hb hu e => by rw [hb] at e; injection e with e; exact hu e
  have hBW : gB ≠ W := fun e => htB h.tW e.symm
  have tt : ∀ {b u}, R b = some u → u ≠ 2 → tagW (tagW R g 2) gB 3 b = some u := fun hb hu => by rw [tagW_ne (htB hb), tagW_ne (htg hb hu)]; exact hb
  have hl : (S ++ [l]).length = S.length + 1 := by simp
  have hrd : IRd (w1.setCell ⟨W, 2, none⟩ (.slice (some ⟨g, 0, none⟩) (S.length + 1) c)) vs S := ⟨h.rd.1, fun i x hx => by
    obtain ⟨B, cc, h1, h2, h3⟩ := h.rd.2 i x hx
    have q1 := hc1.rd h2 (fun a ha => by subst ha; exact ne2 (h.rt _ _ _ _ h1) (by omega))
    exact ⟨B, cc, h1, hc2.rd q1 (fun a ha => by subst ha; exact ne (h.rt _ _ _ _ h1) (by omega)), h3⟩⟩
  have hlen := hS.len
  have hBr : Rd (w1.setCell ⟨W, 2, none⟩ (.slice (some ⟨g, 0, none⟩) (S.length + 1) c)) (some ⟨gB, 0, none⟩) l.length (nums l) :=
    hc2.rd (hc1.rd hB (fun a ha e => by injection ha with ha; subst ha; have e' : R gB = some 2 := e; rw [tB] at e'; cases e')) (fun a ha e => by injection ha with ha; subst ha; exact hBW e)
  refine ⟨{ g := ?_, kb := ?_, so := ?_, rd := hrd.snoc hBr (by have := h.kz; omega), rt := ?_, tW := tt h.tW (by omega), tK := tt h.tK (by omega), tA := ?_, lt := ?_, bs := ?_, ss := ?_, kz := h.kz, sz := by rw [hl]; omega, sm := by rw [hl]; omega }, ?_, fun b hb => ?_⟩
  · rw [hl]
    exact (hc1.bk h.g (ne2 h.tW (by omega))).set_ 2 _
  · exact hc2.bk (hc1.bk h.kb (ne2 h.tK (by omega))) (ne h.tK (by omega))
  · rw [hl]
    exact own_chgv ho hc2 (fun k hk => by injection hk with hk; rw [← hk]; exact hgW)
  · intro i B n c' hi
    rcases Nat.lt_or_ge i vs.length with e | e
    · rw [List.getElem?_append_left e] at hi
      exact tt (h.rt i B n c' hi) (by omega)
    · rw [List.getElem?_append_right e] at hi
      have h0 : i - vs.length = 0 := by have := (List.getElem?_eq_some_iff.1 hi).1; simp at this; omega
      rw [h0] at hi
      simp at hi
      rw [← hi.1]
      exact tagW_eq
  · intro a ha
    injection ha with ha; subst ha
    rw [tagW_ne hgB]
    exact tagW_eq
  · intro b hb
    have hsz := hc1.size
    have hsz2 := hc2.size
    by_cases e1 : b = gB
    · subst e1; exact ⟨hbB, by omega⟩
    · rw [tagW_ne e1] at hb
      by_cases e2 : b = g
      · subst e2; exact ⟨hgl.1, by omega⟩
      · rw [tagW_ne e2] at hb
        have := h.lt b hb; exact ⟨this.1, by omega⟩
  · have hsz := hc1.size
    have hsz2 := hc2.size
    have := h.bs; omega
  · intro m hm'
    rcases List.mem_append.1 hm' with e | e
    · exact h.ss m e
    · rw [List.mem_singleton] at e; subst e; exact hS
  · exact (hc1.mono fun k _ e => by show R k ≠ none; rw [show R k = some 2 from e]; simp).trans hc2 fun k _ e => by have e' : k = W := e; subst e'; show R k ≠ none; rw [h.tW]; simp
  · by_cases e1 : b = gB
    · omega
    · rw [tagW_ne e1]
      by_cases e2 : b = g
      · subst e2
        rcases hgt with e | e
        · rw [e]; exact tagW_eq
        · omega
      · rw [tagW_ne e2]
theorem ra_bk {w w1 : World} {base W KB : Nat} {A : Option Addr} {pc sl : Nat} {vs : List Value} {R : Nat → Option Nat} {kn : List Bool} {S : List (List Int)} {most : Int} {o : Obj} (h : RG w base W KB A pc vs R kn S most) (hg : (w.alloc o).grownBy w1 (Value.slice A sl pc).ownBlock) : ∃ cs, Bk w1 W 65 cs ∧ cs[2]? = some (.slice A S.length pc) := by
  refine ⟨_, (h.g.alloc o).grown hg fun e => ?_, rfl⟩
  obtain ⟨a, ha, ha'⟩ := slice_block e.symm
  have := h.tA a ha
  rw [ha', h.tW] at this
  cases this
def RAPost (w : World) (base W KB : Nat) (R : Nat → Option Nat) (kn : List Bool) (S : List (List Int)) (most : Int) (l : List Int) (e : Ending) (w' : World) : Prop :=
  e = .returned (.tuple #[.int .i64 (adR kn S most l).1, .int .i64 (adR kn S most l).2.1, .int .i64 (adR kn S most l).2.2]) ∧ ∃ A' pc' vs' R', RG w' base W KB A' pc' vs' R' kn (adS kn S most l) most ∧ Chg (fun b => R b ≠ none) w w' ∧ ∀ b, b < w.heap.size → R' b = R b
section
variable {w w' : World} {base W KB : Nat} {A : Option Addr} {pc : Nat} {vs : List Value} {R : Nat → Option Nat} {kn : List Bool} {S : List (List Int)} {most : Int}
set_option maxRecDepth 100000 in
set_option maxHeartbeats 3200000 in
/-- Add -/
theorem rAdd_any (h : RG w base W KB A pc vs R kn S most) {B : Option Addr} {n c : Nat} {l : List Int} (hr : Rd w B n (nums l)) (hn : n ≤ 100000) (hB : 0 < n → ∀ a, B = some a → R a.block = none) (hs : S.length < 100000) :
    Calls Try.prog 36 #[.pointer (some ⟨W, 0, none⟩), .slice B n c] w (RAPost w base W KB R kn S most l) := by
  have hl : l.length = n := by have := hr.1; simpa [nums_length] using this
  obtain ⟨K, hK⟩ : ∃ K, kn.length = K := ⟨_, rfl⟩
  obtain ⟨sl, hsl⟩ : ∃ sl, S.length = sl := ⟨_, rfl⟩
  have cg0 := h.g.cell 0
  rw [hK] at cg0
  have hset := rset_any (k := K) (c := c) hr (by omega)
  rw [← hK] at hset
  have H := Lib.hid (And.intro h (And.intro hr (And.intro hl (And.intro hK (And.intro hsl (And.intro hB hset))))))
  have hsz' : (sl : Int) < 100000 := by omega
  cases hb : setB kn.length l with
  | false =>
    have e1 : adR kn S most l = (0, 0, 2) := by unfold adR; rw [if_pos hb]
    have e2 : adS kn S most l = S := by unfold adS; rw [if_pos hb]
    have HE := Lib.hid (And.intro e1 (And.intro e2 hb))
    clear h hr hl hK hsl hB hset hb e1 e2
    go_enter Try.func36, Try.ntmps36
    go_wp2_with fail
    rw [← H.out.2.2.2.1]
    refine H.out.2.2.2.2.2.2.mono ?_
    rintro e w1 ⟨rfl, hb1⟩
    have HB := Lib.hid hb1
    rw [HE.out.2.2]
    clear hb1
    go_wp2
    go_ret3
    exact ⟨by rw [HE.out.1]; rfl, A, pc, vs, R, by rw [HE.out.2.1]; exact H.out.1.below HB.out, Chg.of_below HB.out, fun _ _ => rfl⟩
  | true =>
    by_cases hf : (sl : Int) = most
    · have e1 : adR kn S most l = (0, 0, 9) := by unfold adR; rw [if_neg (by rw [hb]; simp), if_pos (by rw [hsl]; exact hf)]
      have e2 : adS kn S most l = S := by unfold adS; rw [if_neg (by rw [hb]; simp), if_pos (by rw [hsl]; exact hf)]
      have HE := Lib.hid (And.intro e1 (And.intro e2 hb))
      have d1 : decide ((sl : Int) ≥ most) = true := by simp; omega
      have d2 : decide (most ≤ (sl : Int)) = true := by simp; omega
      clear h hr hl hK hsl hB hset hb e1 e2 hf
      go_enter Try.func36, Try.ntmps36
      go_wp2_with fail
      rw [← H.out.2.2.2.1]
      refine H.out.2.2.2.2.2.2.mono ?_
      rintro e w1 ⟨rfl, hb1⟩
      have HB := Lib.hid hb1
      rw [HE.out.2.2]
      have c1 := (H.out.1.below hb1).g.cell 1
      have c2 := (H.out.1.below hb1).g.cell 2
      rw [H.out.2.2.2.2.1] at c1 c2
      clear hb1
      go_wp2_with fail
      go_quiet (fail)
      go_wp2
      go_ret3
      exact ⟨by rw [HE.out.1]; rfl, A, pc, vs, R, by rw [HE.out.2.1]; exact (H.out.1.below HB.out).below (below_dN (Below.refl _ _) _), Chg.of_below (below_dN HB.out _), fun _ _ => rfl⟩
    · have e1 : adR kn S most l = ((sl : Int), ((rst kn l).length : Int), 0) := by unfold adR; rw [if_neg (by rw [hb]; simp), if_neg (by rw [hsl]; exact hf), hsl]
      have e2 : adS kn S most l = S ++ [l] := by unfold adS; rw [if_neg (by rw [hb]; simp), if_neg (by rw [hsl]; exact hf)]
      have hsm := h.sm
      have hS : Sset kn.length l := hb
      have d1 : decide ((sl : Int) ≥ most) = false := by simp; omega
      have d2 : decide (most ≤ (sl : Int)) = false := by simp; omega
      have hn0 : 0 < n := by rw [← hl]; exact hS.ok.2
      have HM := Lib.hid (show (sl : Int) < most by omega)
      have HE := Lib.hid (And.intro e1 (And.intro e2 (And.intro hb hn0)))
      obtain ⟨i0, hi0, hz0, hz1, hz2⟩ := info_parts u3_info
      obtain ⟨i1, hj0, hj1, hj2, hj3⟩ := info_parts ints_info
      clear h hr hl hK hsl hB hset hb e1 e2 hf hsm hS hn0
      go_enter Try.func36, Try.ntmps36
      go_wp2_with fail
      rw [← H.out.2.2.2.1]
      refine H.out.2.2.2.2.2.2.mono ?_
      rintro e w1 ⟨rfl, hb1⟩
      have hR1 := H.out.1.below hb1
      have hrd1 := H.out.2.1.below hb1
      have H1 := Lib.hid (And.intro hR1 (And.intro hrd1 hb1))
      rw [HE.out.2.2.1]
      have c1 := hR1.g.cell 1
      have c2 := hR1.g.cell 2
      have f2 := hR1.g.frozen 2
      rw [H.out.2.2.2.2.1] at c1 c2
      clear hb1 hR1 hrd1
      go_wp2_with fail
      go_quiet (fail)
      have H2 := Lib.hid (And.intro (H1.out.1.below (below_dN (Below.refl _ _) nq)) (And.intro (H1.out.2.1.drewN nq) (below_dN H1.out.2.2 nq)))
      have c2' : (w1.drewN nq).cell? ⟨W, 2, none⟩ = some (.slice A sl pc) := c2
      have f2' := H2.out.1.g.frozen 2
      clear c1 c2 f2
      generalize w1.drewN nq = w2 at H2 c2' f2' ⊢
      go_wp2_with fail
      go_cut [] (fun wx => ∃ A' pc' vs' R', RG wx base W KB A' pc' vs' R' kn (S ++ [l]) most ∧ Chg (fun b => R b ≠ none) w wx ∧ ∀ b, b < w.heap.size → R' b = R b)
      case first =>
        have hso := H2.out.1.so
        rw [H.out.2.2.2.2.1] at hso
        have HSo := Lib.hid hso
        clear hso
        have c2a : (w2.alloc (.cells #[] 3)).cell? ⟨W, 2, none⟩ = some (.slice A sl pc) := (World.cell?_alloc_lt w2 _ ⟨W, 2, none⟩ H2.out.1.g.lt).trans c2'
        go_region_law (first
          | (refine step_append_rd (by rfl) (.tmp 30) (.tmp 31) _ (by rfl) w2.heap.size 3 i0 _ 1 8 Try.underlying32 hi0 hz0 hz1 hz2 rfl (by omega) _ 0 [] (by rfl) (own_below (own_new0 w2 _ _ (Nat.le_refl _)) (Below.refl _ _).drew) B n c (nums l) (by rfl) (by rw [Nat.mul_one]; exact (H2.out.2.1.alloc _).drew) (nums_one l) (by simp only [maxLen]; omega) (by omega) (by show w2.heap.size ≤ (w2.alloc _).heap.size; rw [World.size_alloc]; omega) ?_; intro v1 w4 hown1 hg1 hat1; rw [Nat.zero_add, List.nil_append] at hown1; obtain ⟨A4, c4, rfl, _⟩ := own_slice hown1; obtain ⟨g4, cur4, rfl, _⟩ := own_formN hown1 HE.out.2.2.2; have hb4 : Below w2.heap.size w2 w4 := (((Below.refl _ _).alloc (Nat.le_refl _) _).drew).grown hg1 (by show w2.heap.size ≤ (w2.alloc _).heap.size; rw [World.size_alloc]; omega) (fun k hk => ((own_new0 w2 3 _ (Nat.le_refl _)).lt k hk).1); have c2'' := (hb4.cell (p := ⟨W, 2, none⟩) H2.out.1.g.lt).trans c2'; have c2b : (w4.alloc (.cells #[.slice (some ⟨g4, 0, none⟩) n c4] 32)).cell? ⟨W, 2, none⟩ = some (.slice A sl pc) := (World.cell?_alloc_lt w4 _ ⟨W, 2, none⟩ (H2.out.1.g.belowS hb4).lt).trans c2''; have H4 := Lib.hid (And.intro hb4 hown1))
          | (refine step_append_rd (by rfl) (.tmp 29) (.tmp 33) _ (by rfl) base 32 i1 _ 1 24 Try.underlying31 hj0 hj1 hj2 hj3 rfl (by omega) _ sl vs (by rfl) (own_below (own_below HSo.out H4.out.1) ((Below.refl _ _).alloc (Nat.le_refl _) _)) (some ⟨w4.heap.size, 0, none⟩) 1 1 [.slice (some ⟨g4, 0, none⟩) n c4] (by rfl) (Rd.lit _ _ _ _ rfl 1 rfl _ rfl) slice_one (by simp only [maxLen]; omega) (by omega) (by have := H2.out.1.bs; have := H4.out.1.size; rw [World.size_alloc]; omega) ?_; intro v6 w6 hown6 hg6 hat6; obtain ⟨A6, c6, rfl, _⟩ := own_slice hown6; obtain ⟨g6, cur6, rfl, _⟩ := own_formN hown6 (by omega); obtain ⟨cs6, b6, e6⟩ := ra_bk (H2.out.1.below H4.out.1) hg6; have f6 := b6.frozen 2; have c6' := (b6.cell 2).trans e6))
        all_goals go_wp2_with fail
        all_goals go_meet
        all_goals (
          have hS : Sset kn.length l := HE.out.2.2.1
          have hge := own_ge H4.out.2 _ rfl
          have hsz2 := H2.out.2.2.size
          have hz4 := H4.out.1.size
          have hl := H.out.2.2.1
          subst hl
          obtain ⟨q1, q2, q3⟩ := (H2.out.1.below H4.out.1).add_ (g := g6) (c := c6) (gB := g4) (cB := c4) (N := w.heap.size) (o := .cells #[.slice (some ⟨g4, 0, none⟩) l.length c4] 32) (l := l) (w1 := w6) (Rd.of_own H4.out.2) (H2.out.1.newTag hge.1) (by have := H.out.1.bs; omega) hge.2 (by omega) (by omega) hS (by have := H.out.2.2.2.2.1; omega) (by have := H.out.2.2.2.2.1; have := HM.out; omega) (by rw [H.out.2.2.2.2.1]; exact hown6) (by rw [H.out.2.2.2.2.1]; exact hg6) (by rw [H.out.2.2.2.2.1]; exact hat6)
          rw [H.out.2.2.2.2.1] at q1 q2
          exact ⟨_, _, _, _, q1, (Chg.of_below (below_base H2.out.2.2 H4.out.1 hsz2)).trans q2 fun _ _ e => e, q3⟩)
      case rest =>
        obtain ⟨A', pc', vs', R', hR', hc', ht'⟩ := hcut
        have HX := Lib.hid (And.intro hR' (And.intro hc' ht'))
        have cw := hR'.g.cell 2
        rw [show (S ++ [l]).length = sl + 1 from by rw [List.length_append, H.out.2.2.2.2.1]; rfl] at cw
        have hrd : Rd wc B n (nums l) := by
          have hcw : Chg (fun b => R b ≠ none) w wc := hc'
          exact hcw.rd H.out.2.1 (fun a ha e => e (H.out.2.2.2.2.2.1 HE.out.2.2.2 a ha))
        have hlen : (rst kn l).length ≤ 65536 := Nat.le_trans (List.length_filter_le _ _) (Nat.le_trans (show Sset kn.length l from HE.out.2.2.1).len H.out.1.kz)
        have HQ := Lib.hid (rrest_any (c := c) (hR'.below (Below.refl _ _).drew) (hrd.below (Below.refl _ _).drew) (by omega) (show Sset kn.length l from HE.out.2.2.1).inr)
        have hKl := Lib.hid (hR'.g.lt)
        have hwr : IntKind.i64.wrap (((sl + 1 : Nat) : Int) - 1) = (sl : Int) := by rw [IntKind.wrap_i64]; omega
        have hw0 := Lib.hid (show IntKind.i64.wrap (sl : Int) = (sl : Int) from by rw [IntKind.wrap_i64]; omega)
        have hwr2 : wrap64 (((sl + 1 : Nat) : Int) - 1) = (sl : Int) := by rw [wrap_idz (by omega) (by omega)]; omega
        obtain ⟨rl, hrl⟩ : ∃ rl, (rst kn l).length = rl := ⟨_, rfl⟩
        have HR := Lib.hid hrl
        rw [hrl] at HQ
        clear c2' f2' hR' hc' ht' hrd hrl hlen
        go_wp2_with fail
        go_cut [4, 5, 6] (fun s4 s5 s6 wx => s4 = .int .i64 (sl : Int) ∧ s5 = .int .i64 (rl : Int) ∧ s6 = .int .i64 0 ∧ Below wc.heap.size wc wx)
        case first =>
          go_region_held3 (fun w' => w'.cell? ⟨W, 2, none⟩ = some (.slice A' (sl + 1) pc')) (first | exact C5.out | exact cw)
            ((first | (go_at_call 45; refine HQ.out.mono ?_; rintro e w5 ⟨v5, rfl, ho5, hb5⟩; have hb6 := below_undrew hb5; obtain ⟨A5, c5, rfl, _⟩ := own_slice ho5; have C5 := Lib.hid ((hb6.cell (p := ⟨W, 2, none⟩) hKl.out).trans cw); have B5 := Lib.hid hb6; clear ho5 hb5 hb6)))
          all_goals go_wp2_with fail
          all_goals go_meet
          all_goals exact ⟨by first | rfl | rw [hw0.out], rfl, rfl, B5.out⟩
        case rest =>
          obtain ⟨rfl, rfl, rfl, hbl⟩ := hcut
          have HB := Lib.hid hbl
          clear hbl
          go_wp2
          go_ret3
          exact ⟨by rw [HE.out.1, HR.out]; rfl, A', pc', vs', R', by rw [HE.out.2.1]; exact HX.out.1.below HB.out, HX.out.2.1.trans (Chg.of_below HB.out) fun _ _ e => e, HX.out.2.2⟩
end
end Go.Proofs.Ytcgcbajgclkmkaa
