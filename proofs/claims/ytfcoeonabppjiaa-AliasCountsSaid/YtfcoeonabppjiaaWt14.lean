/- alias.Weight. -/
import Derived.Test.YtfcoeonabppjiaaWi14
import Derived.Test.YtfcoeonabppjiaaPk14
namespace Go.Proofs.Ytfcoeonabppjiaa
open Go.RowKit Go.Shelf
set_option linter.unusedVariables false
attribute [local go_sem] Oper.semAt_some
theorem told_stops (n : Nat) (hn : 1 ≤ n) (Bs S n₀ a off a' off' m c d : Nat) (T : Int) (xs ys : List Int) (hx : xs.length = m) (hy : ys.length = m) (hm : m ≤ 65536) (hT0 : 0 ≤ T) (hTm : T ≤ 1099511627776) (hxb : ∀ x ∈ xs, 0 ≤ x ∧ x ≤ T)
    (hB : Bs < n₀ ∧ Bs ≠ S) (ha : a < n₀ ∧ a ≠ S) (ha' : a' < n₀ ∧ a' ≠ S) (w : World) (hn₀ : n₀ ≤ w.heap.size)
    (c0 : w.cell? ⟨Bs, 0, none⟩ = some (.int .i64 T)) (c1 : w.cell? ⟨Bs, 1, none⟩ = some (.slice (some ⟨a, off, none⟩) m c)) (c2 : w.cell? ⟨Bs, 2, none⟩ = some (.slice (some ⟨a', off', none⟩) m d))
    (hc : ∀ (j : Nat) u, (nums xs)[j]? = some u → w.cell? ⟨a, off + j, none⟩ = some u) (hc' : ∀ (j : Nat) u, (nums ys)[j]? = some u → w.cell? ⟨a', off' + j, none⟩ = some u) :
    SeqStopsK Fence.wide n Try.prog 38 #[.pointer (some ⟨Bs, 0, none⟩)] (fun x : Int × Int => #[Value.int .i64 x.1, Value.int .i64 x.2]) (KpB S n₀) (fun l => l = toldL T xs ys m) (fun _ => True) (2 * m) w := fun l J Jx W hW hJ _ hY h0 => by
  refine (told1_in n hn l Bs S n₀ a off a' off' m c d T xs ys hx hy hm hT0 hTm hxb hB ha ha' J Jx (fun pre W h => hJ pre W W.drew none h (grownBy_of_below (Below.refl _ _).drew) (fun r e => by cases e)) hY W
    ((hW.cell (p := ⟨Bs, 0, none⟩) (by simp only []; omega)).trans c0) ((hW.cell (p := ⟨Bs, 1, none⟩) (by simp only []; omega)).trans c1) ((hW.cell (p := ⟨Bs, 2, none⟩) (by simp only []; omega)).trans c2)
    (fun j u hu => (hW.cell (p := ⟨a, off + j, none⟩) (by simp only []; omega)).trans (hc j u hu)) (fun j u hu => (hW.cell (p := ⟨a', off' + j, none⟩) (by simp only []; omega)).trans (hc' j u hu)) h0).mono ?_
  rintro e W' ⟨he, h | ⟨pre, h⟩⟩
  · exact ⟨he, .inl ⟨_, rfl, h⟩⟩
  · exact ⟨he, .inr ⟨pre, trivial, h⟩⟩
def sumW (p : Int) : List (Int × Int) → Int := List.foldl (fun s x => if x.1 = p then wrap64 (s + x.2) else s) 0
theorem sumW_snoc (p : Int) (pre : List (Int × Int)) (x : Int × Int) : sumW p (pre ++ [x]) = if x.1 = p then wrap64 (sumW p pre + x.2) else sumW p pre := by simp [sumW]
theorem wrap_id {z : Int} (h0 : 0 ≤ z) (h1 : z ≤ 9000000000000000000) : wrap64 z = z := by
  unfold wrap64
  omega
theorem sumW_told {T : Int} {xs ys : List Int} {p : Nat} (hT0 : 0 ≤ T) (hTm : T ≤ 1099511627776) (hxb : ∀ j, j < xs.length → 0 ≤ gi xs j ∧ gi xs j ≤ T) (hp : p < xs.length) : ∀ k, k ≤ xs.length → xs.length ≤ 65536 →
    sumW p (toldL T xs ys k) = (if p < k then gi xs p else 0) + Sg k (fun c => if gi ys c = (p : Int) then T - gi xs c else 0)
  | 0, _, _ => by simp [toldL, sumW, Sg]
  | k + 1, hk, hm => by
    have ih := sumW_told (ys := ys) hT0 hTm hxb hp k (by omega) hm
    have hb := wt_bound (T := T) (xs := xs) (ys := ys) (i := (p : Int)) (k := k) hT0 hTm (by omega) (fun j hj => hxb j (by omega))
    have hxk := hxb k (by omega)
    have hxp := hxb p hp
    rw [show toldL T xs ys (k + 1) = (toldL T xs ys k ++ [((k : Int), gi xs k)]) ++ [(gi ys k, T - gi xs k)] from by simp [toldL], sumW_snoc, sumW_snoc, ih]
    rw [show Sg (k + 1) (fun c => if gi ys c = (p : Int) then T - gi xs c else 0) = Sg k (fun c => if gi ys c = (p : Int) then T - gi xs c else 0) + (if gi ys k = (p : Int) then T - gi xs k else 0) from rfl]
    generalize Sg k (fun c => if gi ys c = (p : Int) then T - gi xs c else 0) = z at hb ⊢
    have hy : ∀ v u : Int, 0 ≤ v → v ≤ 2 * 1099511627776 + 65536 * 1099511627776 → (v = u + z) → (if gi ys k = (p : Int) then wrap64 (v + (T - gi xs k)) else v) = u + (z + (if gi ys k = (p : Int) then T - gi xs k else 0)) := fun v u h0 h1 h2 => by
      by_cases e2 : gi ys k = (p : Int)
      · rw [if_pos e2, if_pos e2, wrap_id (by omega) (by omega)]; omega
      · rw [if_neg e2, if_neg e2]; omega
    rcases Nat.lt_trichotomy p k with e | e | e
    · rw [if_neg (show ¬ ((k : Int) = (p : Int)) from by omega), if_pos (show p < k from e), if_pos (show p < k + 1 from by omega)]
      exact hy _ _ (by omega) (by omega) rfl
    · subst e
      rw [if_pos (show ((p : Int) = (p : Int)) from rfl), if_neg (show ¬ p < p from by omega), if_pos (show p < p + 1 from by omega), wrap_id (z := 0 + z + gi xs p) (by omega) (by omega)]
      exact hy _ _ (by omega) (by omega) (by omega)
    · rw [if_neg (show ¬ ((k : Int) = (p : Int)) from by omega), if_neg (show ¬ p < k from by omega), if_neg (show ¬ p < k + 1 from by omega)]
      exact hy _ _ (by omega) (by omega) rfl
set_option maxRecDepth 100000 in
set_option maxHeartbeats 4000000 in
/-- alias.Weight -/
theorem weight_any {w : World} {v : Value} {T : Int} {xs ys : List Int} (i : Int) (h : Al w v T xs ys) :
    Calls Try.prog 17 #[v, .int .i64 i] w fun e w' => e = .returned (.tuple #[.int .i64 (weightV T xs ys i).1, .int .i64 (weightV T xs ys i).2]) ∧ Below w.heap.size w w' := by
  obtain ⟨A, n, c, B, m, d, rfl, h1, h2, h3, h4⟩ := h
  have hx : xs.length = n := by have := h1.1; simpa [nums_length] using this
  have hy : ys.length = m := by have := h2.1; simpa [nums_length] using this
  have HR := Lib.hid (And.intro h3 (And.intro h4 (And.intro hx hy)))
  have HF := Lib.hid (And.intro h1 h2)
  have hS := ((ckS_new (c := c) (d := d) (T := T) h1 h2).alloc (.cells #[.int .i64 i] 3)).alloc (.cells #[.int .i64 0] 3)
  have k1 := (Bk.new2 w (.cells #[.int .i64 T, .slice A n c, .slice B m d] 26) 3 #[.int .i64 i]).alloc (.cells #[.int .i64 0] 3)
  have k2 := Bk.new2 (w.alloc (.cells #[.int .i64 T, .slice A n c, .slice B m d] 26)) (.cells #[.int .i64 i] 3) 3 #[.int .i64 0]
  rw [World.size_alloc] at k2
  have HS := Lib.hid (And.intro hS (And.intro k1 k2))
  have g0 := hS.1
  have g1 := hS.2.1
  have g2 := hS.2.2.1
  clear h1 h2 h3 h4 hx hy hS k1 k2
  refine (callsIn_wide (n := 5)).1 ?_
  refine callsIn_of_wp_marks Try.func17 rfl trivial ?_ rfl
  simp only [Try.ntmps17, List.size_toArray, List.length_cons, List.length_nil, Nat.reduceAdd, Nat.reduceSub, Array.replicate_succ, Array.replicate_zero, List.push_toArray, List.append_toArray, List.nil_append, List.cons_append]
  have HCK := Lib.hid ((callsIn_wide (n := 4)).2 (check_any (v := .agg #[.int .i64 T, .slice A n c, .slice B m d]) ⟨A, n, c, B, m, d, rfl, HS.out.1.2.2.2.2.1, HS.out.1.2.2.2.2.2.1, HR.out.1, HR.out.2.1⟩))
  cases hok : alOk T xs ys with
  | false =>
    have HCHK := Lib.hid (chk_false hok)
    have HP := Lib.hid (weight_form (i := i) hok)
    clear hok
    gi_wp2_with (refine ⟨trivial, ?_⟩; gi_at_call 16; refine HCK.out.mono ?_; rintro e w4 ⟨rfl, hb⟩; rw [HCHK.out]; have hS4 := HS.out.1.below hb; have b1 := HS.out.2.1.belowS hb; have b2 := HS.out.2.2.belowS hb; have e0 := hS4.1; have e1 := hS4.2.1; have e2 := hS4.2.2.1; have s0 := b2.cell 0; have sf := b2.frozen 0; have i0 := b1.cell 0; have HS4 := Lib.hid (And.intro hS4 (And.intro b1 b2)); clear hS4 b1 b2 hb g0 g1 g2)
    gi_wp2
    refine ⟨.tuple #[.int .i64 0, .int .i64 6], by simp [results, Try.results17, go_sem, s0], tup2p HP.out, HS4.out.1.2.2.2.2.2.2.setCell (p := ⟨w.heap.size + 1 + 1, 0, none⟩) (by simp only []; omega) _⟩
  | true =>
    have HCHK := Lib.hid (chk_true hok)
    have HO := Lib.hid hok
    have hal := (alOk_iff T xs ys).1 hok
    have HA := Lib.hid hal
    clear hok hal
    by_cases q1 : i < 0
    · have d1 : decide (i < 0) = true := by simpa using q1
      have HP := Lib.hid (weight_out (i := i) HO.out (by omega))
      clear q1
      gi_wp2_with (refine ⟨trivial, ?_⟩; gi_at_call 16; refine HCK.out.mono ?_; rintro e w4 ⟨rfl, hb⟩; rw [HCHK.out]; have hS4 := HS.out.1.below hb; have b1 := HS.out.2.1.belowS hb; have b2 := HS.out.2.2.belowS hb; have e0 := hS4.1; have e1 := hS4.2.1; have e2 := hS4.2.2.1; have s0 := b2.cell 0; have sf := b2.frozen 0; have i0 := b1.cell 0; have HS4 := Lib.hid (And.intro hS4 (And.intro b1 b2)); clear hS4 b1 b2 hb g0 g1 g2)
      gi_wp2
      refine ⟨.tuple #[.int .i64 0, .int .i64 3], by simp [results, Try.results17, go_sem, s0], tup2p HP.out, HS4.out.1.2.2.2.2.2.2.setCell (p := ⟨w.heap.size + 1 + 1, 0, none⟩) (by simp only []; omega) _⟩
    · have d1 : decide (i < 0) = false := by simpa using q1
      by_cases q2 : i ≥ (n : Int)
      · have d2 : decide (i ≥ (n : Int)) = true := by simpa using q2
        have d3 : decide ((n : Int) ≤ i) = true := by simpa using q2
        have HP := Lib.hid (weight_out (i := i) HO.out (by have := HR.out.2.2.1; omega))
        clear q1 q2
        gi_wp2_with (refine ⟨trivial, ?_⟩; gi_at_call 16; refine HCK.out.mono ?_; rintro e w4 ⟨rfl, hb⟩; rw [HCHK.out]; have hS4 := HS.out.1.below hb; have b1 := HS.out.2.1.belowS hb; have b2 := HS.out.2.2.belowS hb; have e0 := hS4.1; have e1 := hS4.2.1; have e2 := hS4.2.2.1; have s0 := b2.cell 0; have sf := b2.frozen 0; have i0 := b1.cell 0; have HS4 := Lib.hid (And.intro hS4 (And.intro b1 b2)); clear hS4 b1 b2 hb g0 g1 g2)
        gi_wp2
        refine ⟨.tuple #[.int .i64 0, .int .i64 3], by simp [results, Try.results17, go_sem, s0], tup2p HP.out, HS4.out.1.2.2.2.2.2.2.setCell (p := ⟨w.heap.size + 1 + 1, 0, none⟩) (by simp only []; omega) _⟩
      · have d2 : decide (i ≥ (n : Int)) = false := by simpa using q2
        have d3 : decide ((n : Int) ≤ i) = false := by simpa using q2
        obtain ⟨p, rfl⟩ : ∃ p : Nat, i = (p : Int) := ⟨i.toNat, by omega⟩
        have hpx : p < xs.length := by have := HR.out.2.2.1; omega
        have hmn : m = n := by have := HR.out.2.2; have := HA.out.2.2.2.2.1; omega
        subst hmn
        obtain ⟨a, off, rfl, hbl, hc⟩ := HF.out.1.form (by have := HR.out.2.2.1; omega)
        obtain ⟨a', off', rfl, hbl', hc'⟩ := HF.out.2.form (by have := HR.out.2.2.1; omega)
        have HC := Lib.hid (And.intro hbl (And.intro hbl' (And.intro hc hc')))
        have d4 : decide (m ≤ p) = false := by have := HR.out.2.2.1; simp; omega
        have HP := Lib.hid (And.intro (weight_in HO.out hpx) hpx)
        clear q1 q2 hbl hbl' hc hc' hpx
        gi_wp2_with (first | (refine ⟨trivial, ?_⟩; gi_at_call 16; refine HCK.out.mono ?_; rintro e w4 ⟨rfl, hb⟩; rw [HCHK.out]; have hS4 := HS.out.1.below hb; have b1 := HS.out.2.1.belowS hb; have b2 := HS.out.2.2.belowS hb; have e0 := hS4.1; have e1 := hS4.2.1; have e2 := hS4.2.2.1; have s0 := b2.cell 0; have sf := b2.frozen 0; have i0 := b1.cell 0; have HS4 := Lib.hid (And.intro hS4 (And.intro b1 b2)); clear hS4 b1 b2 hb g0 g1 g2) | (refine ⟨trivial, ?_⟩; gi_at_call 36; refine (told_in 4 _ _ _ _).mono ?_; rintro e w' ⟨rfl, rfl⟩))
        have hb4 := HS4.out.1.2.2.2.2.2.2
        have hs4 : w.heap.size + 3 ≤ w4.heap.size := by have := HS4.out.2.2.lt; omega
        have hb5 := (Below.refl w4.heap.size w4).alloc (Nat.le_refl _) (.cells #[.int .i64 T, .slice (some ⟨a, off, none⟩) m c, .slice (some ⟨a', off', none⟩) m d] 26)
        have K5 := Bk.newA w4 26 #[.int .i64 T, .slice (some ⟨a, off, none⟩) m c, .slice (some ⟨a', off', none⟩) m d]
        have hb05 := below_base hb4 hb5 hb4.size
        have s5 := (HS4.out.2.2.belowS hb5)
        have i5 := (HS4.out.2.1.belowS hb5)
        have hsz5 : (w4.alloc (.cells #[.int .i64 T, .slice (some ⟨a, off, none⟩) m c, .slice (some ⟨a', off', none⟩) m d] 26)).heap.size = w4.heap.size + 1 := World.size_alloc _ _
        have hT0 : 0 ≤ T := by have := HA.out.1; omega
        have hTm : T ≤ 1099511627776 := HA.out.2.1
        generalize hw5 : w4.alloc (.cells #[.int .i64 T, .slice (some ⟨a, off, none⟩) m c, .slice (some ⟨a', off', none⟩) m d] 26) = w5 at *
        have hro : Fence.wide.round = none := rfl
        have h15 : 1 ≤ 5 := by decide
        refine wpIn_rangeFunc_ownG hro h15 (gf := 38) (lb := #[.pointer (some ⟨w4.heap.size, 0, none⟩)]) ?hg trivial (enters_of Try.func38 (by kernel_rfl) rfl)
          (told_stops 4 (by omega) w4.heap.size (w.heap.size + 1 + 1) (w4.heap.size + 1) a off a' off' m c d T xs ys HR.out.2.2.1 HR.out.2.2.2 (by have := HA.out.2.2.2.1; have := HR.out.2.2.1; omega) hT0 hTm HA.out.2.2.2.2.2.1 ⟨by omega, by omega⟩ ⟨by have := HC.out.1; omega, by have := HC.out.1; omega⟩ ⟨by have := HC.out.2.1; omega, by have := HC.out.2.1; omega⟩ w5 (by omega)
            (K5.cell 0) (K5.cell 1) (K5.cell 2) (fun j u hu => (hb05.cell (p := ⟨a, off + j, none⟩) HC.out.1).trans (HC.out.2.2.1 j u hu)) (fun j u hu => (hb05.cell (p := ⟨a', off' + j, none⟩) HC.out.2.1).trans (HC.out.2.2.2 j u hu)))
          (fun h k => h.trans k) (kpB_b (by omega)) (Below.refl _ _) ?hps
          (fun pre W => (W.cell? ⟨w.heap.size + 1 + 1, 0, none⟩ = some (.int .i64 (sumW p pre)) ∧ W.frozen? ⟨w.heap.size + 1 + 1, 0, none⟩ = false ∧ W.cell? ⟨w.heap.size + 1, 0, none⟩ = some (.int .i64 (p : Int))) ∧ Below w.heap.size w W)
          (fun _ _ _ => False)
          (OwnFrom.and (Own.from (fun s A B row hs hg hr => ⟨cell_kept hs.1 hg hr, (frozen_kept hs.1 hg hr).trans hs.2.1, cell_kept hs.2.2 hg hr⟩) _) (ownFrom_below (Nat.le_refl _) (by omega)))
          (fun _ _ _ _ _ hs _ _ => hs)
          ⟨⟨s5.cell 0, s5.frozen 0, i5.cell 0⟩, hb05⟩
          (fun x => { tmps := #[.agg #[.int .i64 T, .slice (some ⟨a, off, none⟩) m c, .slice (some ⟨a', off', none⟩) m d], .int .i64 (p : Int), .pointer (some ⟨w.heap.size, 0, none⟩), .pointer (some ⟨w.heap.size + 1, 0, none⟩), .pointer (some ⟨w.heap.size + 1 + 1, 0, none⟩), .int .i64 0, .int .i64 x.1, .int .i64 x.2, .bool false, .agg #[.int .i64 T, .slice (some ⟨a, off, none⟩) m c, .slice (some ⟨a', off', none⟩) m d], .int .i64 0, .bool false, .bool false, .int .i64 (p : Int), .bool false, .bool false, .int .i64 (p : Int), .pointer (some ⟨w.heap.size, 1, none⟩), .slice (some ⟨a, off, none⟩) m c, .int .i64 (m : Int), .bool false, .bool false, .agg #[.int .i64 T, .slice (some ⟨a, off, none⟩) m c, .slice (some ⟨a', off', none⟩) m d], .func (.func 38) #[] #[.pointer (some ⟨w4.heap.size, 0, none⟩)], .int .i64 x.1, .int .i64 x.2, undef, undef, undef, undef, undef, undef, undef], defers := [] }) ?assign ?body ?done ?stop
        case hg => rfl
        case hps => intro x; rfl
        case assign =>
          intro l x W K hK
          gi_wp2
          exact hK
        case body =>
          rintro l pre x W ⟨⟨hc, hf, hi⟩, hB⟩ _
          by_cases hx1 : x.1 = (p : Int)
          · have hxb : (x.1 == (p : Int)) = true := by simpa using hx1
            have HX1 := Lib.hid hx1
            clear hx1
            gi_wp2
            refine ⟨(KeepsOthers.setCell _ _ _).from _, fun k hk hne => Below.heap_setCell _ ⟨w.heap.size + 1 + 1, 0, none⟩ _ k hne, ⟨?_, by rw [World.frozen?_setCell]; exact hf, ?_⟩, hB.setCell (p := ⟨w.heap.size + 1 + 1, 0, none⟩) (by simp only []; omega) _⟩
            · rw [sumW_snoc, if_pos HX1.out]; exact World.cell?_setCell_same' _ _ _ (by rw [hc]; rfl)
            · exact (World.cell?_of_block (w := W) (Below.heap_setCell W ⟨w.heap.size + 1 + 1, 0, none⟩ _ (w.heap.size + 1) (by simp only []; omega))).trans hi
          · have hxb : (x.1 == (p : Int)) = false := by simpa using hx1
            have HX1 := Lib.hid hx1
            clear hx1
            gi_wp2
            exact ⟨KeepsFrom.refl _ _, KpB.refl _ _ _, ⟨by rw [sumW_snoc, if_neg HX1.out]; exact hc, hf, hi⟩, hB⟩
        case done =>
          rintro D l W hD rfl ⟨⟨hc, hf, hi⟩, hB⟩ hK
          gi_wp2
          have hK' := (KeepsOthers.setCell W ⟨w.heap.size + 1 + 1, 0, none⟩ (.int .i64 (sumW (p : Int) (toldL T xs ys m)))).same D _ hK rfl
          have hc5 := cell_kept (World.cell?_setCell_same' W ⟨w.heap.size + 1 + 1, 0, none⟩ (.int .i64 (sumW (p : Int) (toldL T xs ys m))) (by rw [hc]; rfl)) (grownBy_putObj' _ D (.deferred none)) (fun r e => by cases e; exact ⟨_, hK', rfl⟩)
          refine ⟨by simp, .inl ⟨_, _, rfl, run_takeDeferred hK', ?_⟩⟩
          refine ⟨.tuple #[.int .i64 (sumW (p : Int) (toldL T xs ys m)), .int .i64 0], by simp [results, Try.results17, go_sem, hc5], tup2p ?_, (hB.setCell (p := ⟨w.heap.size + 1 + 1, 0, none⟩) (by simp only []; omega) _).trans (belowK_b (w := w) (Nat.le_refl _) _ D _ _ (by omega) hK' rfl rfl)⟩
          have hlm := HR.out.2.2.1
          have hst := sumW_told (ys := ys) (p := p) hT0 hTm (fun j hj => HA.out.2.2.2.2.2.1 _ (gi_mem hj)) HP.out.2 m (by omega) HA.out.2.2.2.1
          rw [HP.out.1, hst, if_pos (by have := HP.out.2; omega)]
          unfold wt
          rw [Int.toNat_natCast, hlm]
        case stop =>
          rintro D c pre W _ _ h _
          exact h.elim
end Go.Proofs.Ytfcoeonabppjiaa
