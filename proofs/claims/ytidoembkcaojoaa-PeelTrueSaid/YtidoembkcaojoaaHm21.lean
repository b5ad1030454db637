/- A container/heap in memory: Len, Less, Swap, and how the interface finds them. Printed by gen_Hm.py. -/
import Derived.Test.YtidoembkcaojoaaHe21
import Derived.BigQuiet
import Derived.Deep.QuietTactic
import Derived.Deep.RegionHeld3
namespace Go.Proofs.Ytidoembkcaojoaa
open Go.RowKit
set_option linter.unusedVariables false
theorem el_size : (Try.prog.info? 101).map (·.size) = some 2 := by kernel_rfl
set_option maxRecDepth 100000 in
theorem hLen_any {w : World} {A : Option Addr} {n c : Nat} (hn : n ≤ 1000000000) : Calls Try.prog 62 #[.slice A n c] w fun e w' => e = .returned (.int .i64 (n : Nat)) ∧ w = w' := by
  have hn' : (n : Int) ≤ 1000000000 := by omega
  clear hn
  go_enter Try.func62, Try.ntmps62
  go_wp2
  go_ret
  exact ⟨rfl, rfl⟩
theorem le_cells {w : World} {g o : Nat} {e : HE} (h : w.rangeAt g o e.cells) : w.cell? ⟨g, o, none⟩ = some (.int .i64 e.a) ∧ w.cell? ⟨g, o + 1, none⟩ = some (.int .i64 e.b) :=
  ⟨h 0 _ rfl, h 1 _ rfl⟩
set_option maxRecDepth 100000 in
set_option maxHeartbeats 1600000 in
theorem hLess_any {w : World} {base : Nat} {v : Value} {l : List HE} (h : HR w base v l) {i j : Nat} (hi : i < l.length) (hj : j < l.length) (hl : l.length ≤ 1000000000) :
    Calls Try.prog 90 #[v, .int .i64 (i : Nat), .int .i64 (j : Nat)] w fun e w' => e = .returned (.bool ((gx l i).less (gx l j))) ∧ ∃ k, w' = w.drewN k := by
  obtain ⟨g, c, rfl, hg, hri, _⟩ := h.at_ hi
  obtain ⟨g', c', e', hg', hrj, _⟩ := h.at_ hj
  injection e' with e1 e2 e3
  injection e1 with e1
  injection e1 with e1
  subst e1 e3
  obtain ⟨i0, i1⟩ := le_cells hri
  obtain ⟨j0, j1⟩ := le_cells hrj
  obtain ⟨L, hL⟩ : ∃ L, l.length = L := ⟨_, rfl⟩
  rw [hL] at hi hj hl ⊢
  have q0 : (0 : Int) ≤ (i : Int) := Int.natCast_nonneg _
  have q1 : (i : Int) < (L : Int) := by omega
  have q2 : (0 : Int) ≤ (j : Int) := Int.natCast_nonneg _
  have q3 : (j : Int) < (L : Int) := by omega
  have q4 : (L : Int) ≤ 1000000000 := by omega
  generalize gx l i = e at i0 i1 ⊢
  generalize gx l j = f at j0 j1 ⊢
  obtain ⟨x, hx⟩ : ∃ x, e.a = x := ⟨_, rfl⟩
  obtain ⟨y, hy⟩ : ∃ y, f.a = y := ⟨_, rfl⟩
  obtain ⟨z, hz⟩ : ∃ z, e.b = z := ⟨_, rfl⟩
  obtain ⟨u, hu⟩ : ∃ u, f.b = u := ⟨_, rfl⟩
  have HV := Lib.hid (show e.less f = (decide (x < y) || (x == y && decide (z < u))) from by unfold HE.less; rw [hx, hy, hz, hu])
  rw [hx] at i0
  rw [hy] at j0
  rw [hz] at i1
  rw [hu] at j1
  clear hx hy hz hu hri hrj h hL hg hg' hi hj hl
  by_cases d1 : x < y
  · have d2 : decide (x < y) = true := by simpa using d1
    have HW := Lib.hid (show (decide (x < y) || (x == y && decide (z < u))) = true from by simp [d1])
    clear d1
    go_enter Try.func90, Try.ntmps90
    go_wp2_with fail
    go_quiet (fail)
    go_wp2_with fail
    go_ret
    exact ⟨ret_bool (by rw [HV.out, HW.out]), _, rfl⟩
  · have d2 : decide (x < y) = false := by simpa using d1
    by_cases d3 : x = y
    · subst d3
      have d4 : (x == x) = true := by simp
      have HW := Lib.hid (show (decide (x < x) || (x == x && decide (z < u))) = decide (z < u) from by simp)
      clear d1
      go_enter Try.func90, Try.ntmps90
      go_wp2_with fail
      go_quiet (fail)
      go_wp2_with fail
      go_ret
      exact ⟨ret_bool (by rw [HV.out, HW.out]), _, rfl⟩
    · have d4 : (x == y) = false := by simpa using d3
      have HW := Lib.hid (show (decide (x < y) || (x == y && decide (z < u))) = false from by rw [d2, d4]; rfl)
      clear d1 d3
      go_enter Try.func90, Try.ntmps90
      go_wp2_with fail
      go_quiet (fail)
      go_wp2_with fail
      go_ret
      exact ⟨ret_bool (by rw [HV.out, HW.out]), _, rfl⟩
/-- How two places of a row are exchanged in memory. -/
theorem HR.swap {w : World} {base g c : Nat} {l : List HE} (h : HR w base (.slice (some ⟨g, 0, none⟩) l.length c) l) {i j : Nat} (hi : i < l.length) (hj : j < l.length) :
    HR ((w.setCells g (i * 2) (gx l j).cells).setCells g (j * 2) (gx l i).cells) base (.slice (some ⟨g, 0, none⟩) l.length c) (swx l i j) ∧ Chg (fun k => k = g) w ((w.setCells g (i * 2) (gx l j).cells).setCells g (j * 2) (gx l i).cells) := by
  obtain ⟨A, c', e', hc, hf⟩ := h.form
  injection e' with e1 e2 e3
  subst e3
  obtain ⟨g', cur, e4, hb, hk, hcl, ht⟩ := hf (by omega)
  rw [← e1] at e4
  injection e4 with e4
  injection e4 with e4
  subst e4
  have hl1 : ∀ e : HE, e.cells.length = 2 := cells_length
  have hij : i * 2 + 2 ≤ l.length * 2 := by omega
  have hjj : j * 2 + 2 ≤ l.length * 2 := by omega
  have hlen : l.length * 2 ≤ cur.length := by rw [hcl]; exact Nat.mul_le_mul_right _ hc
  have hset : ∀ (w : World) (cur : List Value) (o : Nat) (e : HE), Bk w g 101 cur → o + 2 ≤ cur.length → Bk (w.setCells g o e.cells) g 101 (spl cur o e.cells) ∧ Chg (fun k => k = g) w (w.setCells g o e.cells) := by
    intro w cur o e hbk hle
    refine ⟨?_, ?_⟩
    · have key : ∀ (vs pre : List Value) (w : World), Bk w g 101 (spl cur o pre) → o + pre.length + vs.length ≤ cur.length → Bk (w.setCells g (o + pre.length) vs) g 101 (spl cur o (pre ++ vs)) := by
        intro vs
        induction vs with
        | nil => intro pre w hb _; rw [List.append_nil]; exact hb
        | cons u vs ih =>
          intro pre w hb hle
          simp only [List.length_cons] at hle
          have h1 := hb.set_ (o + pre.length) u
          rw [set_spl rfl (by omega)] at h1
          have h2 := ih (pre ++ [u]) _ h1 (by simp; omega)
          rw [List.append_assoc] at h2
          simp only [List.length_append, List.length_cons, List.length_nil, Nat.zero_add] at h2
          rw [← Nat.add_assoc] at h2
          exact h2
      have := key e.cells [] w (by rw [spl_nil]; exact hbk) (by rw [hl1]; simpa using hle)
      simpa using this
    · have key : ∀ (vs : List Value) (o : Nat) (w' : World), Chg (fun k => k = g) w w' → Chg (fun k => k = g) w (w'.setCells g o vs) := by
        intro vs
        induction vs with
        | nil => intro o w' h; exact h
        | cons u vs ih => intro o w' h; exact ih (o + 1) _ (h.set_ (show g = g from rfl) o u)
      exact key e.cells o w (Chg.refl _ _)
  obtain ⟨h1, c1⟩ := hset w cur (i * 2) (gx l j) hk (by omega)
  obtain ⟨h2, c2⟩ := hset _ _ (j * 2) (gx l i) h1 (by rw [spl_length (by rw [hl1]; omega)]; omega)
  refine ⟨?_, c1.trans c2 fun _ _ x => x⟩
  have hd := h.1
  have hs1 : (spl cur (i * 2) (gx l j).cells).length = cur.length := spl_length (by rw [hl1]; omega)
  have hs2 : (spl (spl cur (i * 2) (gx l j).cells) (j * 2) (gx l i).cells).length = cur.length := by rw [spl_length (by rw [hl1]; omega), hs1]
  show World.ownsRow _ base 101 2 _ (swx l i j).length _
  rw [swx_length]
  refine ⟨by rw [ecs_length, swx_length], .inr ⟨g, c, _, rfl, hb, h2, hc, ?_, ?_, ?_⟩⟩
  · rcases h.2 with ⟨h3, h4⟩ | ⟨_, _, _, h3, _, _, _, hm, _⟩
    · cases h3
    · injection h3 with _ _ h5; rw [h5]; exact hm
  · simp only [List.size_toArray]; rw [hs2, hcl]
  · apply List.ext_getElem?
    intro m
    simp only [List.getElem?_take]
    by_cases hm : m < l.length * 2
    · rw [if_pos hm]
      obtain ⟨q, r, hq, hr⟩ : ∃ q r, m = q * 2 + r ∧ r < 2 := ⟨m / 2, m % 2, by omega, by omega⟩
      subst hq
      have hql : q < l.length := by omega
      rw [ecs_get (by rw [swx_length]; exact hql) hr, gx_swx hi hj]
      rw [spl_getElem? (by rw [hl1]; omega), spl_getElem? (by rw [hl1]; omega)]
      simp only [hl1]
      have hcq : cur[q * 2 + r]? = (gx l q).cells[r]? := by rw [← ecs_get hql hr, ← ht, List.getElem?_take, if_pos hm]
      by_cases e5 : j = q
      · subst e5
        rw [if_pos (by omega), if_pos rfl, show j * 2 + r - j * 2 = r from by omega]
      · rw [if_neg (by omega), if_neg e5]
        by_cases e6 : i = q
        · subst e6
          rw [if_pos (by omega), if_pos rfl, show i * 2 + r - i * 2 = r from by omega]
        · rw [if_neg (by omega), if_neg e6]; exact hcq
    · rw [if_neg hm, List.getElem?_eq_none (by rw [ecs_length, swx_length]; omega)]
set_option maxRecDepth 100000 in
set_option maxHeartbeats 3200000 in
theorem hSwap_any {w : World} {base : Nat} {v : Value} {l : List HE} (h : HR w base v l) {i j : Nat} (hi : i < l.length) (hj : j < l.length) (hl : l.length ≤ 1000000000) :
    Calls Try.prog 91 #[v, .int .i64 (i : Nat), .int .i64 (j : Nat)] w fun e w' => e = .returned (.tuple #[]) ∧ HR w' base v (swx l i j) ∧ Chg (fun k => v.ownBlock = some k) w w' := by
  obtain ⟨g, c, rfl, hg, hri, hti⟩ := h.at_ hi
  obtain ⟨g', c', e', hg', hrj, htj⟩ := h.at_ hj
  injection e' with e1 e2 e3
  injection e1 with e1
  injection e1 with e1
  subst e1 e3
  have H := Lib.hid (h.swap hi hj)
  obtain ⟨L, hL⟩ : ∃ L, l.length = L := ⟨_, rfl⟩
  have q0 : (0 : Int) ≤ (i : Int) := Int.natCast_nonneg _
  have q1 : (i : Int) < (L : Int) := by omega
  have q2 : (0 : Int) ≤ (j : Int) := Int.natCast_nonneg _
  have q3 : (j : Int) < (L : Int) := by omega
  have q4 : (L : Int) ≤ 1000000000 := by omega
  rw [hL] at H ⊢
  have hdone : ∀ w9, w9 = ((w.drew.setCells g (i * 2) (gx l j).cells).setCells g (j * 2) (gx l i).cells) → HR w9 base (.slice (some ⟨g, 0, none⟩) L c) (swx l i j) ∧ Chg (fun k => (Value.slice (some ⟨g, 0, none⟩) L c).ownBlock = some k) w w9 := fun w9 e9 => by
    subst e9
    have h' : HR w.drew base (.slice (some ⟨g, 0, none⟩) l.length c) l := h.below (Below.refl _ _).drew
    obtain ⟨h1, h2⟩ := h'.swap hi hj
    rw [hL] at h1
    refine ⟨h1, (h2.undrew).mono fun k _ hk => ?_⟩
    subst hk; rfl
  have HD := Lib.hid hdone
  have hu := Lib.hid Try.underlying101
  obtain ⟨ci, hci⟩ : ∃ cs, cs = (gx l i).cells := ⟨_, rfl⟩
  obtain ⟨cj, hcj⟩ : ∃ cs, cs = (gx l j).cells := ⟨_, rfl⟩
  have hli : ci.length = 2 := by rw [hci]; rfl
  have hlj : cj.length = 2 := by rw [hcj]; rfl
  have h1i : ∀ v ∈ ci, v.oneCell' = true := by rw [hci]; exact cells_one _
  have h1j : ∀ v ∈ cj, v.oneCell' = true := by rw [hcj]; exact cells_one _
  have hsi : (Try.prog.info? 101).map (·.size) = some ci.length := by rw [hli]; exact el_size
  have hsj : (Try.prog.info? 101).map (·.size) = some cj.length := by rw [hlj]; exact el_size
  rw [← hci, ← hcj] at hdone
  rw [← hci] at hri
  rw [← hcj] at hrj
  have hti' : w.there g (i * 2) cj.length := by rw [hlj]; exact hti
  have htj' : w.there g (j * 2) ci.length := by rw [hli]; exact htj
  have HX := Lib.hid (And.intro hdone (And.intro hri (And.intro hrj (And.intro hti' (And.intro htj' (And.intro (And.intro h1i h1j) (And.intro hsi hsj)))))))
  clear h hi hj hl hL hg hg' hdone H HD hri hrj hti htj hti' htj' h1i h1j hsi hsj hli hlj hci hcj
  go_enter Try.func91, Try.ntmps91
  go_wp2_with fail
  refine wp_region_any (by kernel_rfl) ?_
  change wpAny _ _ _ _ _ _ _ (World.drew _)
  refine wpAny_take (i := 0) (v := .slice (some ⟨g, 0, none⟩) L c) rfl (by kernel_rfl) (by kernel_rfl) (by kernel_rfl) (fun _ _ _ h => h) (Or.inl ⟨by rfl, fun w => by first | rfl | go_simp⟩) ?_
  go_simp
  refine wpAny_take (i := 1) (v := .int .i64 (i : Nat)) rfl (by kernel_rfl) (by kernel_rfl) (by kernel_rfl) (fun _ _ _ h => h) (Or.inl ⟨by rfl, fun w => by first | rfl | go_simp⟩) ?_
  go_simp
  refine wpAny_take (i := 2) (v := .slice (some ⟨g, 0, none⟩) L c) rfl (by kernel_rfl) (by kernel_rfl) (by kernel_rfl) (fun _ _ _ h => h) (Or.inl ⟨by rfl, fun w => by first | rfl | go_simp⟩) ?_
  go_simp
  refine wpAny_take (i := 3) (v := .int .i64 (j : Nat)) rfl (by kernel_rfl) (by kernel_rfl) (by kernel_rfl) (fun _ _ _ h => h) (Or.inl ⟨by rfl, fun w => by first | rfl | go_simp⟩) ?_
  go_simp
  refine wpAny_take (i := 4) (v := .slice (some ⟨g, 0, none⟩) L c) rfl (by kernel_rfl) (by kernel_rfl) (by kernel_rfl) (fun _ _ _ h => h) (Or.inl ⟨by rfl, fun w => by first | rfl | go_simp⟩) ?_
  go_simp
  refine wpAny_take (i := 5) (v := .int .i64 (j : Nat)) rfl (by kernel_rfl) (by kernel_rfl) (by kernel_rfl) (fun _ _ _ h => h) (Or.inl ⟨by rfl, fun w => by first | rfl | go_simp⟩) ?_
  go_simp
  refine wpAny_take (i := 6) (v := .pointer (some ⟨g, j * 2, none⟩)) rfl (by kernel_rfl) (by kernel_rfl) (by kernel_rfl) (fun _ _ _ h => h) (Or.inl ⟨by rfl, fun w => by first | rfl | go_simp⟩) ?_
  go_simp
  refine wpAny_take (i := 8) (v := .slice (some ⟨g, 0, none⟩) L c) rfl (by kernel_rfl) (by kernel_rfl) (by kernel_rfl) (fun _ _ _ h => h) (Or.inl ⟨by rfl, fun w => by first | rfl | go_simp⟩) ?_
  go_simp
  refine wpAny_take (i := 9) (v := .int .i64 (i : Nat)) rfl (by kernel_rfl) (by kernel_rfl) (by kernel_rfl) (fun _ _ _ h => h) (Or.inl ⟨by rfl, fun w => by first | rfl | go_simp⟩) ?_
  go_simp
  refine wpAny_take (i := 10) (v := .pointer (some ⟨g, i * 2, none⟩)) rfl (by kernel_rfl) (by kernel_rfl) (by kernel_rfl) (fun _ _ _ h => h) (Or.inl ⟨by rfl, fun w => by first | rfl | go_simp⟩) ?_
  go_simp
  refine wpAny_ready (rs := [7, 11]) (by kernel_rfl) (by simp) ?_
  refine AllReady.cons rfl (fun K hK => ?_) (AllReady.cons rfl (fun K hK => ?_) AllReady.nil)
  · rw [if_pos (by rfl)]
    refine wp_load_mid 101 (.tmp 12) rfl g (j * 2) (by rfl) cj _ HX.out.2.2.1 hu.out rfl HX.out.2.2.2.2.2.2.2 ?_
    refine hK _ _ ?_
    clear hK K
    go_simp
    refine wpAny_ready (rs := [11]) (by kernel_rfl) (by simp) ?_
    refine AllReady.cons rfl (fun K hK => ?_) AllReady.nil
    rw [if_pos (by rfl)]
    refine wp_load_mid 101 (.tmp 16) rfl g (i * 2) (by rfl) ci _ HX.out.2.1 hu.out rfl HX.out.2.2.2.2.2.2.1 ?_
    refine hK _ _ ?_
    clear hK K
    go_simp
    refine wpAny_take (i := 12) (v := .pointer (some ⟨g, i * 2, none⟩)) rfl (by kernel_rfl) (by kernel_rfl) (by kernel_rfl) (fun _ _ _ h => h) (Or.inl ⟨by rfl, fun w => by first | rfl | go_simp⟩) ?_
    go_simp
    refine wpAny_ready (rs := [13]) (by kernel_rfl) (by simp) ?_
    refine AllReady.cons rfl (fun K hK => ?_) AllReady.nil
    rw [if_pos (by rfl)]
    refine wp_store_mid 101 (.tmp 18) (.tmp 13) rfl g (i * 2) cj.toArray (by rfl) (by rfl) HX.out.2.2.2.1 HX.out.2.2.2.2.2.2.2 (all_oneCell_toArray HX.out.2.2.2.2.2.1.2) ?_
    refine hK _ _ ?_
    clear hK K
    go_simp
    refine wpAny_take (i := 14) (v := .pointer (some ⟨g, j * 2, none⟩)) rfl (by kernel_rfl) (by kernel_rfl) (by kernel_rfl) (fun _ _ _ h => h) (Or.inl ⟨by rfl, fun w => by first | rfl | go_simp⟩) ?_
    go_simp
    refine wpAny_ready (rs := [15]) (by kernel_rfl) (by simp) ?_
    refine AllReady.cons rfl (fun K hK => ?_) AllReady.nil
    rw [if_pos (by rfl)]
    refine wp_store_mid 101 (.tmp 19) (.tmp 17) rfl g (j * 2) ci.toArray (by rfl) (by rfl) (World.there_setCells (w := w.drew) HX.out.2.2.2.2.1 _ _ _) HX.out.2.2.2.2.2.2.1 (all_oneCell_toArray HX.out.2.2.2.2.2.1.1) ?_
    refine hK _ _ ?_
    clear hK K
    refine wpAny_done (by kernel_rfl) ?_ _
    go_end0
    exact ⟨rfl, HX.out.1 _ rfl⟩
  · rw [if_pos (by rfl)]
    refine wp_load_mid 101 (.tmp 16) rfl g (i * 2) (by rfl) ci _ HX.out.2.1 hu.out rfl HX.out.2.2.2.2.2.2.1 ?_
    refine hK _ _ ?_
    clear hK K
    go_simp
    refine wpAny_ready (rs := [7]) (by kernel_rfl) (by simp) ?_
    refine AllReady.cons rfl (fun K hK => ?_) AllReady.nil
    rw [if_pos (by rfl)]
    refine wp_load_mid 101 (.tmp 12) rfl g (j * 2) (by rfl) cj _ HX.out.2.2.1 hu.out rfl HX.out.2.2.2.2.2.2.2 ?_
    refine hK _ _ ?_
    clear hK K
    go_simp
    refine wpAny_take (i := 12) (v := .pointer (some ⟨g, i * 2, none⟩)) rfl (by kernel_rfl) (by kernel_rfl) (by kernel_rfl) (fun _ _ _ h => h) (Or.inl ⟨by rfl, fun w => by first | rfl | go_simp⟩) ?_
    go_simp
    refine wpAny_ready (rs := [13]) (by kernel_rfl) (by simp) ?_
    refine AllReady.cons rfl (fun K hK => ?_) AllReady.nil
    rw [if_pos (by rfl)]
    refine wp_store_mid 101 (.tmp 18) (.tmp 13) rfl g (i * 2) cj.toArray (by rfl) (by rfl) HX.out.2.2.2.1 HX.out.2.2.2.2.2.2.2 (all_oneCell_toArray HX.out.2.2.2.2.2.1.2) ?_
    refine hK _ _ ?_
    clear hK K
    go_simp
    refine wpAny_take (i := 14) (v := .pointer (some ⟨g, j * 2, none⟩)) rfl (by kernel_rfl) (by kernel_rfl) (by kernel_rfl) (fun _ _ _ h => h) (Or.inl ⟨by rfl, fun w => by first | rfl | go_simp⟩) ?_
    go_simp
    refine wpAny_ready (rs := [15]) (by kernel_rfl) (by simp) ?_
    refine AllReady.cons rfl (fun K hK => ?_) AllReady.nil
    rw [if_pos (by rfl)]
    refine wp_store_mid 101 (.tmp 19) (.tmp 17) rfl g (j * 2) ci.toArray (by rfl) (by rfl) (World.there_setCells (w := w.drew) HX.out.2.2.2.2.1 _ _ _) HX.out.2.2.2.2.2.2.1 (all_oneCell_toArray HX.out.2.2.2.2.2.1.1) ?_
    refine hK _ _ ?_
    clear hK K
    refine wpAny_done (by kernel_rfl) ?_ _
    go_end0
    exact ⟨rfl, HX.out.1 _ rfl⟩
end Go.Proofs.Ytidoembkcaojoaa
