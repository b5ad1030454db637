/- block: Cut. -/
import Derived.Test.YtchdjbbhhjjmkaaCh18
namespace Go.Proofs.Ytchdjbbhhjjmkaa
open Go.RowKit Go.Shelf
set_option linter.unusedVariables false
attribute [local go_sem] Oper.semAt_some
theorem chunk_stops (n : Nat) (hn : 1 ≤ n) (B1 B2 n₀ a off len cap s N : Nat) (A : Option Addr) (S : Nat → Prop) (hs : 1 ≤ s ∧ s ≤ 65535) (hl : len ≤ 1000000000) (hcap : len ≤ cap) (hN : len ≤ N * s) (hA : 0 < len → A = some ⟨a, off, none⟩)
    (hB1 : B1 < n₀ ∧ ¬ S B1) (hB2 : B2 < n₀ ∧ ¬ S B2) (w : World) (hn₀ : n₀ ≤ w.heap.size) (c1 : w.cell? ⟨B1, 0, none⟩ = some (.slice A len cap)) (c2 : w.cell? ⟨B2, 0, none⟩ = some (.int .i64 (s : Int))) :
    SeqStopsK Fence.wide n Try.prog 63 #[.pointer (some ⟨B1, 0, none⟩), .pointer (some ⟨B2, 0, none⟩)] (fun i : Nat => #[ckV a off len s i]) (KpS S n₀) (fun l => ∃ k, len ≤ k * s ∧ (k = 0 ∨ (k - 1) * s < len) ∧ l = List.range k) (fun _ => True) N w := fun l J Jx W hW hJ _ hY h0 => by
  refine (chunk1_in n hn l B1 B2 n₀ a off len cap s N A S hs hl hcap hN hA hB1 hB2 J Jx (fun pre W h => hJ pre W W.drew none h (grownBy_of_below (Below.refl _ _).drew) (fun r e => by cases e)) hY W
    ((hW.cell (p := ⟨B1, 0, none⟩) (by simp only []; omega)).trans c1) ((hW.cell (p := ⟨B2, 0, none⟩) (by simp only []; omega)).trans c2) h0).mono ?_
  rintro e W' ⟨he, ⟨k, h1, h2, h3⟩ | ⟨pre, h⟩⟩
  · exact ⟨he, .inl ⟨_, ⟨k, h1, h2, rfl⟩, h3⟩⟩
  · exact ⟨he, .inr ⟨pre, trivial, h⟩⟩
/-- What Cut tells. -/
def cutE (data : List UInt8) (k s : Int) : Int := if 1 ≤ k ∧ k ≤ 65536 ∧ 1 ≤ s ∧ s ≤ 65535 then (if k * s < data.length then 4 else 0) else 3
def cutR (data : List UInt8) (s i : Nat) : List UInt8 := evenL ((data.drop (i * s)).take s) s
def cutL (data : List UInt8) (k s : Nat) : List (List UInt8) := (List.range k).map (cutR data s)
def cutV (data : List UInt8) (k s : Int) : List (List UInt8) := if cutE data k s = 0 then cutL data k.toNat s.toNat else []
theorem cutL_succ (data : List UInt8) (k s : Nat) : cutL data (k + 1) s = cutL data k s ++ [cutR data s k] := by unfold cutL; rw [List.range_succ, List.map_append]; rfl
theorem cutL_len (data : List UInt8) (k s : Nat) : (cutL data k s).length = k := by simp [cutL]
/-- Lists of bytes that are told: new memory, all of it. -/
def ToldL (w : World) (V : List (List UInt8)) (E : Int) (e : Ending) (w' : World) : Prop :=
  ∃ v vs, e = .returned (.tuple #[v, .int .i64 E]) ∧ w'.ownsRow w.heap.size 32 1 v V.length vs ∧ ORows w' w.heap.size vs V ∧ Below w.heap.size w w'
theorem ck_rd {w : World} {A : Option Addr} {a off len s i : Nat} {data : List UInt8} (h : Rd w A len (bys data)) (hA : 0 < len → A = some ⟨a, off, none⟩) : Rd w (some ⟨a, off + i * s, none⟩) (min s (len - i * s)) (bys ((data.drop (i * s)).take s)) := by
  have hl : data.length = len := by have := h.1; simpa [bys_length] using this
  rcases Nat.lt_or_ge (i * s) len with hlt | hge
  · have h1 := h.cut_at (k := i * s) (A' := some ⟨a, off + i * s, none⟩) (by omega) (fun _ => by rw [hA (by omega)]; rfl)
    have h2 := h1.take_ (k := min s (len - i * s)) (by omega)
    rw [bys_drop, bys_take] at h2
    have e : (data.drop (i * s)).take (min s (len - i * s)) = (data.drop (i * s)).take s := by
      rcases Nat.le_total s (len - i * s) with q | q
      · rw [Nat.min_eq_left q]
      · rw [Nat.min_eq_right q, List.take_of_length_le (by rw [List.length_drop]; omega), List.take_of_length_le (by rw [List.length_drop]; omega)]
    rw [e] at h2
    exact h2
  · have e : (data.drop (i * s)).take s = [] := by rw [List.drop_eq_nil_of_le (by omega)]; simp
    rw [e, show min s (len - i * s) = 0 by omega]
    exact Rd.nil _ _
/-- Cells stay where other blocks turn. -/
theorem chg_row {W W' : World} {row : Option Nat} (hg : W.grownBy W' row) (hr : ∀ r, row = some r → ∃ o : Obj, W.heap[r]? = some o ∧ o.isCells = false) : Chg (fun b => row = some b) W W' ∧ ∀ {b t cs}, Bk W b t cs → ¬ (row = some b) :=
  ⟨Chg.of_grown hg fun k e => e, fun {b t cs} hb e => by
    obtain ⟨o, h1, h2⟩ := hr b e
    rw [hb] at h1; injection h1 with h1; subst h1; cases h2⟩
theorem own_row {W W' : World} {row : Option Nat} {base size n : Nat} {e : TypeId} {v : Value} {xs : List Value} (h : W.ownsRow base e size v n xs) (hg : W.grownBy W' row) (hr : ∀ r, row = some r → ∃ o : Obj, W.heap[r]? = some o ∧ o.isCells = false) : W'.ownsRow base e size v n xs := by
  obtain ⟨hc, hb⟩ := chg_row hg hr
  refine ⟨h.1, ?_⟩
  rcases h.2 with h0 | ⟨g, cap, cur, hv, hbg, hh, h3, h4, h5, h6⟩
  · exact .inl h0
  · have hk : Bk W g e cur.toList := hh
    exact .inr ⟨g, cap, cur, hv, hbg, hc.bk hk (hb hk), h3, h4, h5, h6⟩
theorem ORows.row {W W' : World} {row : Option Nat} {base : Nat} {vs : List Value} {xss : List (List UInt8)} (h : ORows W base vs xss) (hg : W.grownBy W' row) (hr : ∀ r, row = some r → ∃ o : Obj, W.heap[r]? = some o ∧ o.isCells = false) : ORows W' base vs xss :=
  ⟨h.1, fun i x hx => by obtain ⟨A, c, h1, h2⟩ := h.2.1 i x hx; exact ⟨A, c, h1, own_row h2 hg hr⟩, h.2.2⟩
/-- What is in Cut's variables between two rounds. -/
def CuI (base Z O : Nat) (k s : Nat) (data : List UInt8) (pre : List Nat) (w : World) : Prop :=
  ∃ v vs, Bk w Z 73 [.int .i64 (k : Int), .int .i64 (s : Int)] ∧ Bk w O 25 [v] ∧ w.ownsRow base 32 1 v pre.length vs ∧ ORows w base vs (pre.map (cutR data s))
theorem cuI_own {B base Z O k s : Nat} {data : List UInt8} : OwnFrom B (fun (pre : List Nat) W => CuI base Z O k s data pre W) := fun pre W W' row hs hg hr => by
  obtain ⟨v, vs, h1, h2, h3, h4⟩ := hs
  have hr' := fun r e => (hr r e).2
  obtain ⟨hc, hb⟩ := chg_row hg hr'
  exact ⟨v, vs, hc.bk h1 (hb h1), hc.bk h2 (hb h2), own_row h3 hg hr', h4.row hg hr'⟩
theorem bk_apart {w : World} {g base size n : Nat} {t e : TypeId} {cs xs : List Value} {v : Value} (h : Bk w g t cs) (ho : w.ownsRow base e size v n xs) (hne : t ≠ e) : ¬ (v.ownBlock = some g) := by
  intro e1
  rcases ho.2 with ⟨rfl, _⟩ | ⟨g', cap, cur, rfl, _, hh, _⟩
  · cases e1
  · injection e1 with e1
    have e2 : g' = g := e1
    subst e2
    have hk : Bk w g' e cur.toList := hh
    unfold Bk at h hk
    rw [h] at hk
    injection hk with hk; injection hk with _ hk
    exact hne hk
theorem own_cells {w : World} {base size n : Nat} {e : TypeId} {xs : List Value} {v : Value} (ho : w.ownsRow base e size v n xs) : ∀ (j : Nat) (o : Obj), v.ownBlock = some j → w.heap[j]? = some o → o.isCells = true := by
  intro j o e1 h
  rcases ho.2 with ⟨rfl, _⟩ | ⟨g', cap, cur, rfl, _, hh, _⟩
  · cases e1
  · injection e1 with e1
    have e2 : g' = j := e1
    subst e2
    rw [hh] at h; injection h with h; subst h; rfl
theorem cu_app {w5 w6 : World} {O Zb base n : Nat} {v : Value} {zs vs : List Value} {o : Obj} (b2 : Bk w5 O 25 [v]) (b1 : Bk w5 Zb 73 zs) (b3 : w5.ownsRow base 32 1 v n vs) (hg : (w5.alloc o).grownBy w6 v.ownBlock) :
    Bk w6 O 25 [v] ∧ Bk w6 Zb 73 zs ∧ Chg (fun b => v.ownBlock = some b) w5 w6 := by
  have hc : Chg (fun b => v.ownBlock = some b) w5 w6 := ((Chg.refl _ w5).alloc o).trans (Chg.of_grown hg (S := fun b => v.ownBlock = some b) fun k e => e) fun _ _ x => x
  exact ⟨hc.bk b2 (bk_apart b2 b3 (by decide)), hc.bk b1 (bk_apart b1 b3 (by decide)), hc⟩
/-- One more row: append, and the store into the variable. -/
theorem cu_snoc {W w5 w6 : World} {O Zb base n s c5 c6 : Nat} {A5 A6 : Option Addr} {v : Value} {zs vs : List Value} {o : Obj} {xss : List (List UInt8)} {r : List UInt8}
    (h4 : ORows W base vs xss) (hW : base ≤ W.heap.size)
    (H5 : Bk w5 Zb 73 zs ∧ Bk w5 O 25 [v] ∧ w5.ownsRow base 32 1 v n vs ∧ ORows w5 base vs xss ∧ w5.ownsRow W.heap.size 5 1 (.slice A5 s c5) s (bys r) ∧ Below W.heap.size W w5)
    (hown6 : w6.ownsRow base 32 1 (.slice A6 (n + 1) c6) (n + 1) (vs ++ [.slice A5 s c5])) (hg6 : (w5.alloc o).grownBy w6 v.ownBlock) (hat6 : (Value.slice A6 (n + 1) c6).ownBlock = v.ownBlock ∨ (Value.slice A6 (n + 1) c6).ownBlock = some (w5.alloc o).heap.size) (hr : r.length = s) :
    KeepsOthers W (w6.setCell ⟨O, 0, none⟩ (.slice A6 (n + 1) c6)) ∧ Chg (fun b => b = O ∨ v.ownBlock = some b) W (w6.setCell ⟨O, 0, none⟩ (.slice A6 (n + 1) c6)) ∧
      Bk (w6.setCell ⟨O, 0, none⟩ (.slice A6 (n + 1) c6)) Zb 73 zs ∧ Bk (w6.setCell ⟨O, 0, none⟩ (.slice A6 (n + 1) c6)) O 25 [.slice A6 (n + 1) c6] ∧
      (w6.setCell ⟨O, 0, none⟩ (.slice A6 (n + 1) c6)).ownsRow base 32 1 (.slice A6 (n + 1) c6) (n + 1) (vs ++ [.slice A5 s c5]) ∧ ORows (w6.setCell ⟨O, 0, none⟩ (.slice A6 (n + 1) c6)) base (vs ++ [.slice A5 s c5]) (xss ++ [r]) := by
  obtain ⟨q1, q2, q3, q4, q5, q6⟩ := H5
  obtain ⟨r2, r1, hc6⟩ := cu_app q2 q1 q3 hg6
  have hcS : Chg (fun b => b = O) w6 (w6.setCell ⟨O, 0, none⟩ (.slice A6 (n + 1) c6)) := (Chg.refl (fun b => b = O) w6).set_ (g := O) (show (fun b => b = O) O from rfl) _ _
  have hOZ : Zb ≠ O := fun e => by subst e; have := q1; unfold Bk at this q2; rw [q2] at this; injection this with this; injection this with _ this; revert this; decide
  have hka : KeepsOthers w5 w6 := (KeepsOthers.alloc w5 o).trans (KeepsOthers.of_grownBy hg6 (own_cells (own_below q3 ((Below.refl _ _).alloc (Nat.le_refl _) o))))
  have hor : ORows w6 base (vs ++ [.slice A5 s c5]) (xss ++ [r]) := by
    subst hr
    refine ORows.snoc (B := W.heap.size) ⟨q4.1, fun i y hy => ?_, q4.2.2⟩ ?_ hW fun i v b hv e => (h4.blk i v b hv e).2
    · obtain ⟨A', c', h1, h2⟩ := q4.2.1 i y hy
      exact ⟨A', c', h1, hc6.own h2 fun a ha e => by
        rcases q3.2 with ⟨rfl, _⟩ | ⟨g', cap, cur, rfl, hx⟩
        · cases e
        · exact own_apart q3 h2 (by decide) a ha e⟩
    · exact hc6.own q5 fun a ha e => by
        rcases q3.2 with ⟨rfl, _⟩ | ⟨g', cap, cur, rfl, hx⟩
        · cases e
        · exact own_apart q3 q5 (by decide) a ha e
  refine ⟨((KeepsOthers.of_grownBy (grownBy_of_below q6 (row := none)) (fun j o e => by cases e)).trans hka).trans (KeepsOthers.setCell _ _ _), ((Chg.of_below q6).trans (hc6.mono fun k _ e => Or.inr e) fun _ _ e => e).trans hcS fun k _ e => Or.inl e, hcS.bk r1 hOZ, ?_, ?_, ?_⟩
  · have := r2.set_ 0 (.slice A6 (n + 1) c6)
    exact this
  · have hOw := bk_apart r2 hown6 (by decide)
    exact hcS.own hown6 fun a ha (e : a.block = O) => hOw (by rw [ha, ← e]; rfl)
  · refine ⟨hor.1, fun i y hy => ?_, hor.2.2⟩
    obtain ⟨A', c', h1, h2⟩ := hor.2.1 i y hy
    exact ⟨A', c', h1, hcS.own h2 fun a ha (e : a.block = O) => bk_apart r2 h2 (by decide) (by rw [ha, ← e]; rfl)⟩
theorem cu_round {w w3 W w5 w6 : World} {O Zb K n s c5 c6 x : Nat} {A5 A6 : Option Addr} {v : Value} {vs : List Value} {o : Obj} {data : List UInt8} {pre : List Nat}
    (hn : pre.length = n) (h3 : w.heap.size ≤ w3.heap.size) (hB : Below w.heap.size w3 W) (hO : w.heap.size ≤ O) (h4 : ORows W w3.heap.size vs (pre.map (cutR data s)))
    (H5 : Bk w5 Zb 73 [.int .i64 (K : Int), .int .i64 (s : Int)] ∧ Bk w5 O 25 [v] ∧ w5.ownsRow w3.heap.size 32 1 v n vs ∧ ORows w5 w3.heap.size vs (pre.map (cutR data s)) ∧ w5.ownsRow W.heap.size 5 1 (.slice A5 s c5) s (bys (cutR data s x)) ∧ Below W.heap.size W w5)
    (hown6 : w6.ownsRow w3.heap.size 32 1 (.slice A6 (n + 1) c6) (n + 1) (vs ++ [.slice A5 s c5])) (hg6 : (w5.alloc o).grownBy w6 v.ownBlock) (hat6 : (Value.slice A6 (n + 1) c6).ownBlock = v.ownBlock ∨ (Value.slice A6 (n + 1) c6).ownBlock = some (w5.alloc o).heap.size) :
    KeepsFrom w3.heap.size W (w6.setCell ⟨O, 0, none⟩ (.slice A6 (n + 1) c6)) ∧ KpS (fun b => b = O) w3.heap.size W (w6.setCell ⟨O, 0, none⟩ (.slice A6 (n + 1) c6)) ∧
      CuI w3.heap.size Zb O K s data (pre ++ [x]) (w6.setCell ⟨O, 0, none⟩ (.slice A6 (n + 1) c6)) ∧ Below w.heap.size w3 (w6.setCell ⟨O, 0, none⟩ (.slice A6 (n + 1) c6)) := by
  subst hn
  obtain ⟨k1, k2, k3, k4, k5, k6⟩ := cu_snoc h4 hB.size H5 hown6 hg6 hat6 (by unfold cutR; exact evenL_length _ _)
  have hvb : ∀ b, v.ownBlock = some b → w3.heap.size ≤ b := fun b e => (H5.2.2.1.lt b e).1
  refine ⟨k1.from _, fun k hk hS => k2.2 k (Nat.lt_of_lt_of_le hk hB.size) (fun e => by
    rcases e with e | e
    · exact hS e
    · have := hvb k e; omega), ⟨_, _, k3, k4, by rw [List.length_append]; exact k5, by rw [List.map_append]; exact k6⟩, k2.below hB (fun b _ e => by
    rcases e with e | e
    · rw [e]; exact hO
    · have := hvb b e; omega) (Nat.le_trans h3 hB.size)⟩
theorem ORows.mono {w : World} {base base' : Nat} {vs : List Value} {xss : List (List UInt8)} (h : ORows w base vs xss) (hb : base' ≤ base) : ORows w base' vs xss :=
  ⟨h.1, fun i x hx => by obtain ⟨A, c, h1, h2⟩ := h.2.1 i x hx; exact ⟨A, c, h1, own_mono h2 hb⟩, h.2.2⟩
set_option maxRecDepth 100000 in
set_option maxHeartbeats 4000000 in
/-- Cut -/
theorem cut_any {w : World} {A : Option Addr} {len cap : Nat} {data : List UInt8} (h : Rd w A len (bys data)) (hcap : len ≤ cap) (hlen : len ≤ 1000000000) (k s : Int) (hkw : (Lit.int .i64 k).wf = true) (hsw : (Lit.int .i64 s).wf = true) :
    Calls Try.prog 43 #[.slice A len cap, .int .i64 k, .int .i64 s] w (ToldL w (cutV data k s) (cutE data k s)) := by
  have hl : data.length = len := by have := h.1; simpa [bys_length] using this
  have hb1 := (Below.refl w.heap.size w).alloc (Nat.le_refl _) (.cells #[.int .i64 k, .int .i64 s] 73)
  have hz := Bk.newA w 73 #[.int .i64 k, .int .i64 s]
  have H := Lib.hid (And.intro h (And.intro hl (And.intro hb1 hz)))
  clear h hl hb1 hz
  refine (callsIn_wide (n := 5)).1 ?_
  refine callsIn_of_wp_marks Try.func43 rfl trivial ?_ rfl
  simp only [Try.ntmps43, List.size_toArray, List.length_cons, List.length_nil, Nat.reduceAdd, Nat.reduceSub, Array.replicate_succ, Array.replicate_zero, List.push_toArray, List.append_toArray, List.nil_append, List.cons_append]
  have HM := Lib.hid (fun w1 => (callsIn_wide (n := 4)).2 (may_any (w := w1) k s))
  have c0 := H.out.2.2.2.cell 0
  have c1 := H.out.2.2.2.cell 1
  by_cases hok : 1 ≤ k ∧ k ≤ 65536 ∧ 1 ≤ s ∧ s ≤ 65535
  · obtain ⟨K, hK⟩ : ∃ K : Nat, k = K := ⟨k.toNat, by omega⟩
    obtain ⟨Z, hZ⟩ : ∃ Z : Nat, s = Z := ⟨s.toNat, by omega⟩
    subst hK; subst hZ
    have hsz : 1 ≤ K ∧ K ≤ 65536 ∧ 1 ≤ Z ∧ Z ≤ 65535 := by omega
    have hmul : K * Z ≤ 4294967296 := by
      have := Nat.mul_le_mul hsz.2.1 hsz.2.2.2
      omega
    have hw : IntKind.i64.wrap ((K : Int) * (Z : Int)) = ((K * Z : Nat) : Int) := by rw [← Int.natCast_mul, IntKind.wrap_i64]; omega
    have HD := Lib.hid (decide_eq_true hok)
    by_cases hlong : K * Z < len
    · have hE : cutE data K Z = 4 := by unfold cutE; rw [if_pos hok, if_pos (by rw [H.out.2.1, ← Int.natCast_mul]; omega)]
      have hV : cutV data K Z = [] := by unfold cutV; rw [hE, if_neg (by omega)]
      rw [hE, hV]
      have d3 : decide (((K * Z : Nat) : Int) < (len : Int)) = true := by simp; omega
      have d4 : decide (K * Z < len) = true := by simpa using hlong
      have d5 : decide ((len : Int) > (K : Int) * (Z : Int)) = true := by rw [← Int.natCast_mul]; exact d3
      have d6 : decide ((K : Int) * (Z : Int) < (len : Int)) = true := by rw [← Int.natCast_mul]; exact d3
      clear hok hE hV hlong hmul hsz
      gi_wp2_with (refine ⟨trivial, ?_⟩; gi_at_call 54; refine (HM.out _).mono ?_; rintro e w2 ⟨rfl, hb2⟩; rw [HD.out]; have HB := Lib.hid (below_base H.out.2.2.1 hb2 H.out.2.2.1.size); clear hb2)
      gi_wp2
      exact ⟨.tuple #[.slice none 0 0, .int .i64 4], by simp [results, Try.results43, go_sem], _, [], rfl, World.ownsRow_nil _ _ _ _, ORows.nil _ _, HB.out⟩
    · have hE : cutE data K Z = 0 := by unfold cutE; rw [if_pos hok, if_neg (by rw [H.out.2.1, ← Int.natCast_mul]; omega)]
      have hV : cutV data K Z = cutL data K Z := by unfold cutV; rw [hE, if_pos rfl, Int.toNat_natCast, Int.toNat_natCast]
      rw [hE, hV]
      have d3 : decide (((K * Z : Nat) : Int) < (len : Int)) = false := by simp; omega
      have d4 : decide (K * Z < len) = false := by simpa using hlong
      have d5 : decide ((len : Int) > (K : Int) * (Z : Int)) = false := by rw [← Int.natCast_mul]; exact d3
      have d6 : decide ((K : Int) * (Z : Int) < (len : Int)) = false := by rw [← Int.natCast_mul]; exact d3
      have HS := Lib.hid (And.intro hsz (show len ≤ K * Z by omega))
      clear hok hE hV hlong hmul hsz
      gi_wp2_with (first | (refine ⟨trivial, ?_⟩; gi_at_call 54; refine (HM.out _).mono ?_; rintro e w2 ⟨rfl, hb2⟩; rw [HD.out]; have HB := Lib.hid (And.intro (below_base H.out.2.2.1 hb2 H.out.2.2.1.size) (H.out.2.2.2.belowS hb2)); clear hb2) | (refine ⟨trivial, ?_⟩; gi_at_call 55; refine (chunk_in 4 _ _ _ _ HS.out.1.2.2.1 _).mono ?_; rintro e w' ⟨rfl, rfl⟩))
      obtain ⟨a, off, hA⟩ : ∃ a off, 0 < len → A = some ⟨a, off, none⟩ := by
        rcases Nat.eq_zero_or_pos len with h0 | h0
        · exact ⟨0, 0, fun h => by omega⟩
        · obtain ⟨b, o, e, _⟩ := H.out.1.form h0; exact ⟨b, o, fun _ => e⟩
      have HA := Lib.hid hA
      have hb3 := (((Below.refl w2.heap.size w2).alloc (Nat.le_refl _) (.cells #[.slice none 0 0] 25)).alloc (by rw [World.size_alloc]; omega) (.cells #[.slice A len cap] 32)).alloc (by rw [World.size_alloc, World.size_alloc]; omega) (.cells #[.int .i64 (Z : Int)] 3)
      have kO := ((Bk.newA w2 25 #[.slice none 0 0]).alloc (.cells #[.slice A len cap] 32)).alloc (.cells #[.int .i64 (Z : Int)] 3)
      have k1 := (Bk.newA (w2.alloc (.cells #[.slice none 0 0] 25)) 32 #[.slice A len cap]).alloc (.cells #[.int .i64 (Z : Int)] 3)
      have k2 := Bk.newA ((w2.alloc (.cells #[.slice none 0 0] 25)).alloc (.cells #[.slice A len cap] 32)) 3 #[.int .i64 (Z : Int)]
      have hsz3 : (((w2.alloc (.cells #[.slice none 0 0] 25)).alloc (.cells #[.slice A len cap] 32)).alloc (.cells #[.int .i64 (Z : Int)] 3)).heap.size = w2.heap.size + 3 := by simp
      rw [World.size_alloc] at k1
      rw [World.size_alloc, World.size_alloc] at k2
      have hZ2 := HB.out.2
      have hZl := HB.out.2.lt
      have h03 := below_base HB.out.1 hb3 HB.out.1.size
      generalize hw3 : (((w2.alloc (.cells #[.slice none 0 0] 25)).alloc (.cells #[.slice A len cap] 32)).alloc (.cells #[.int .i64 (Z : Int)] 3)) = w3 at *
      have HK := Lib.hid (And.intro kO (And.intro k1 (And.intro k2 (And.intro (hZ2.belowS hb3) (And.intro hsz3 (And.intro h03 hZl))))))
      clear kO k1 k2 hZ2 h03 hb3 hw3 hZl hA
      obtain ⟨i0, hi0, hz0, hz1, hz2⟩ := info_parts ints2_info
      have hro : Fence.wide.round = none := rfl
      have h15 : 1 ≤ 5 := by decide
      refine wpIn_rangeFunc_ownG hro h15 (gf := 63) (lb := #[.pointer (some ⟨w2.heap.size + 1, 0, none⟩), .pointer (some ⟨w2.heap.size + 1 + 1, 0, none⟩)]) ?hg trivial (enters_of Try.func63 (by kernel_rfl) rfl)
        (chunk_stops 4 (by omega) (w2.heap.size + 1) (w2.heap.size + 1 + 1) w3.heap.size a off len cap Z K A (fun b => b = w2.heap.size) ⟨HS.out.1.2.2.1, HS.out.1.2.2.2⟩ (by omega) hcap HS.out.2 HA.out ⟨by omega, by omega⟩ ⟨by omega, by omega⟩ w3 (Nat.le_refl _) (HK.out.2.1.cell 0) (HK.out.2.2.1.cell 0))
        (fun h k => h.trans k) (kpS_b (Nat.le_refl _)) (Below.refl _ _) ?hps
        (fun pre W => CuI w3.heap.size w.heap.size w2.heap.size K Z data pre W ∧ Below w.heap.size w3 W)
        (fun _ _ _ => False)
        (OwnFrom.and cuI_own (ownFrom_below HK.out.2.2.2.2.2.1.size HK.out.2.2.2.2.2.1.size))
        (fun _ _ _ _ _ hs _ _ => hs)
        ⟨⟨.slice none 0 0, [], HK.out.2.2.2.1, HK.out.1, World.ownsRow_nil _ _ _ _, ORows.nil _ _⟩, Below.refl _ _⟩
        (fun x => { tmps := #[.slice A len cap, .int .i64 (K : Int), .int .i64 (Z : Int), undef, undef, undef, .slice none 0 0, .int .i64 0, .pointer (some ⟨w.heap.size, 0, none⟩), .pointer (some ⟨w2.heap.size, 0, none⟩), ckV a off len Z x, .int .i64 (K : Int), .int .i64 (Z : Int), .agg #[.int .i64 (K : Int), .int .i64 (Z : Int)], .bool false, .agg #[.int .i64 (K : Int), .int .i64 (Z : Int)], .bool true, .bool false, .bool false, .slice A len cap, .int .i64 (len : Int), .int .i64 (K : Int), .int .i64 (Z : Int), .int .i64 ((K : Int) * (Z : Int)), .bool false, .slice A len cap, .int .i64 (Z : Int), .func (.func 63) #[] #[.pointer (some ⟨w2.heap.size + 1, 0, none⟩), .pointer (some ⟨w2.heap.size + 1 + 1, 0, none⟩)], ckV a off len Z x, undef, undef, undef, undef, undef, undef, undef, undef, undef, undef, undef, undef, undef, undef, undef, undef], defers := [] }) ?assign ?body ?done ?stop
      case hg => rfl
      case hps => intro x; rfl
      case assign =>
        intro l x W K hK
        gi_wp2
        exact hK
      case body =>
        rintro l pre x W ⟨⟨v, vs, b1, b2, b3, b4⟩, hB⟩ hpl
        have z0 := b1.cell 0
        have z1 := b1.cell 1
        have o0 := b2.cell 0
        have of := b2.frozen 0
        obtain ⟨Av, cv, rfl, _⟩ := own_form b3
        have HRd := Lib.hid (padded_any (w := W.drew) (k := (K : Int)) (ck_rd (i := x) (s := Z) ((H.out.1.below (HK.out.2.2.2.2.2.1.trans hB)).drew) HA.out) (Nat.min_le_left _ _) HS.out.1.2.2.2 (c := min Z (len - x * Z)))
        have HW := Lib.hid (And.intro b1 (And.intro b2 (And.intro b3 (And.intro b4 hB))))
        have HSZ := Lib.hid hB.size
        have HL := Lib.hid hpl
        have hpK : pre.length + 1 ≤ 65536 := by have := HS.out.1.2.1; omega
        clear b1 b2 b3 b4 hB hpl
        gi_wp2
        refine wpIn_region_any (by kernel_rfl) ?_
        change wpAnyIn _ _ _ _ _ _ _ _ _ (World.drew _)
        -- A
        refine wpAnyIn_ready (rs := [0, 1, 2]) (by kernel_rfl) (by simp) ?_
        refine AllReadyIn.cons rfl (fun K hK => ?_) ?_
        · go_simp
          refine hK _ _ ?_
          clear hK K
          refine wpAnyIn_ready (rs := [1, 2]) (by kernel_rfl) (by simp) ?_
          refine AllReadyIn.cons rfl (fun K hK => ?_) ?_
          · go_simp
            refine hK _ _ ?_
            clear hK K
            refine wpAnyIn_ready (rs := [2]) (by kernel_rfl) (by simp) ?_
            refine AllReadyIn.cons rfl (fun K hK => ?_) ?_
            · go_simp
              refine hK _ _ ?_
              clear hK K
              refine wpAnyIn_ready (rs := [3]) (by kernel_rfl) (by simp) ?_
              refine AllReadyIn.cons rfl (fun K hK => ?_) ?_
              · go_simp
                refine ⟨trivial, (CallsIn.inRound l ((callsIn_wide).2 HRd.out)).mono ?_⟩
                rintro e w5 ⟨v5, rfl, ho5, hb5⟩
                obtain ⟨A5, c5, rfl, _⟩ := own_form ho5
                have hb6 := below_undrew hb5
                have q1 := HW.out.1.belowS hb6
                have q2 := HW.out.2.1.belowS hb6
                have o5 := q2.cell 0
                have o6 := (q2.alloc (.cells #[.slice A5 Z c5] 32)).cell 0
                have H5 := Lib.hid (And.intro q1 (And.intro q2 (And.intro (own_below HW.out.2.2.1 hb6) (And.intro (HW.out.2.2.2.1.below hb6) (And.intro ho5 hb6)))))
                clear q1 q2 ho5 hb5 hb6
                dsimp only
                refine hK _ _ ?_
                clear hK K
                refine wpAnyIn_ready (rs := [4]) (by kernel_rfl) (by simp) ?_
                refine AllReadyIn.cons rfl (fun K hK => ?_) ?_
                · go_simp
                  refine hK _ _ ?_
                  clear hK K
                  refine wpAnyIn_ready (rs := [5]) (by kernel_rfl) (by simp) ?_
                  refine AllReadyIn.cons rfl (fun K hK => ?_) ?_
                  · refine stepIn_append_rd (by rfl) (.tmp 29) (.tmp 33) _ (by rfl) w3.heap.size 32 i0 _ 1 24 Try.underlying25 hi0 hz0 hz1 hz2 rfl (by omega) _ pre.length vs (by rfl) (own_below H5.out.2.2.1 ((Below.refl _ _).alloc (Nat.le_refl _) _)) (some ⟨w5.heap.size, 0, none⟩) 1 1 [.slice A5 Z c5] (by rfl) (Rd.lit _ _ _ _ rfl 1 rfl _ rfl) slice_one (by simp only [maxLen]; omega) (by omega) (by have := H5.out.2.2.2.2.2.size; have := HSZ.out; rw [World.size_alloc]; omega) ?_
                    intro v6 w6 hown6 hg6 hat6
                    obtain ⟨q3, q4, hc6⟩ := cu_app H5.out.2.1 H5.out.1 H5.out.2.2.1 hg6
                    have o7 := q3.cell 0
                    have f7 := q3.frozen 0
                    obtain ⟨A6, c6, rfl, _⟩ := own_form hown6
                    refine hK _ _ ?_
                    clear hK K
                    refine wpAnyIn_ready (rs := [6]) (by kernel_rfl) (by simp) ?_
                    refine AllReadyIn.cons rfl (fun K hK => ?_) ?_
                    · go_simp
                      refine hK _ _ ?_
                      clear hK K
                      refine wpAnyIn_done (by kernel_rfl) ?_ _
                      gi_wp2
                      exact cu_round rfl HK.out.2.2.2.2.2.1.size HW.out.2.2.2.2 (Nat.le_of_lt HK.out.2.2.2.2.2.2) HW.out.2.2.2.1 H5.out hown6 hg6 hat6
                    exact AllReadyIn.nil
                  exact AllReadyIn.nil
                exact AllReadyIn.nil
              exact AllReadyIn.nil
            exact AllReadyIn.nil
          refine AllReadyIn.cons rfl (fun K hK => ?_) ?_
          · go_simp
            refine hK _ _ ?_
            clear hK K
            refine wpAnyIn_ready (rs := [1]) (by kernel_rfl) (by simp) ?_
            refine AllReadyIn.cons rfl (fun K hK => ?_) ?_
            · go_simp
              refine hK _ _ ?_
              clear hK K
              refine wpAnyIn_ready (rs := [3]) (by kernel_rfl) (by simp) ?_
              refine AllReadyIn.cons rfl (fun K hK => ?_) ?_
              · go_simp
                refine ⟨trivial, (CallsIn.inRound l ((callsIn_wide).2 HRd.out)).mono ?_⟩
                rintro e w5 ⟨v5, rfl, ho5, hb5⟩
                obtain ⟨A5, c5, rfl, _⟩ := own_form ho5
                have hb6 := below_undrew hb5
                have q1 := HW.out.1.belowS hb6
                have q2 := HW.out.2.1.belowS hb6
                have o5 := q2.cell 0
                have o6 := (q2.alloc (.cells #[.slice A5 Z c5] 32)).cell 0
                have H5 := Lib.hid (And.intro q1 (And.intro q2 (And.intro (own_below HW.out.2.2.1 hb6) (And.intro (HW.out.2.2.2.1.below hb6) (And.intro ho5 hb6)))))
                clear q1 q2 ho5 hb5 hb6
                dsimp only
                refine hK _ _ ?_
                clear hK K
                refine wpAnyIn_ready (rs := [4]) (by kernel_rfl) (by simp) ?_
                refine AllReadyIn.cons rfl (fun K hK => ?_) ?_
                · go_simp
                  refine hK _ _ ?_
                  clear hK K
                  refine wpAnyIn_ready (rs := [5]) (by kernel_rfl) (by simp) ?_
                  refine AllReadyIn.cons rfl (fun K hK => ?_) ?_
                  · refine stepIn_append_rd (by rfl) (.tmp 29) (.tmp 33) _ (by rfl) w3.heap.size 32 i0 _ 1 24 Try.underlying25 hi0 hz0 hz1 hz2 rfl (by omega) _ pre.length vs (by rfl) (own_below H5.out.2.2.1 ((Below.refl _ _).alloc (Nat.le_refl _) _)) (some ⟨w5.heap.size, 0, none⟩) 1 1 [.slice A5 Z c5] (by rfl) (Rd.lit _ _ _ _ rfl 1 rfl _ rfl) slice_one (by simp only [maxLen]; omega) (by omega) (by have := H5.out.2.2.2.2.2.size; have := HSZ.out; rw [World.size_alloc]; omega) ?_
                    intro v6 w6 hown6 hg6 hat6
                    obtain ⟨q3, q4, hc6⟩ := cu_app H5.out.2.1 H5.out.1 H5.out.2.2.1 hg6
                    have o7 := q3.cell 0
                    have f7 := q3.frozen 0
                    obtain ⟨A6, c6, rfl, _⟩ := own_form hown6
                    refine hK _ _ ?_
                    clear hK K
                    refine wpAnyIn_ready (rs := [6]) (by kernel_rfl) (by simp) ?_
                    refine AllReadyIn.cons rfl (fun K hK => ?_) ?_
                    · go_simp
                      refine hK _ _ ?_
                      clear hK K
                      refine wpAnyIn_done (by kernel_rfl) ?_ _
                      gi_wp2
                      exact cu_round rfl HK.out.2.2.2.2.2.1.size HW.out.2.2.2.2 (Nat.le_of_lt HK.out.2.2.2.2.2.2) HW.out.2.2.2.1 H5.out hown6 hg6 hat6
                    exact AllReadyIn.nil
                  exact AllReadyIn.nil
                exact AllReadyIn.nil
              exact AllReadyIn.nil
            exact AllReadyIn.nil
          exact AllReadyIn.nil
        refine AllReadyIn.cons rfl (fun K hK => ?_) ?_
        · go_simp
          refine hK _ _ ?_
          clear hK K
          refine wpAnyIn_ready (rs := [0, 2]) (by kernel_rfl) (by simp) ?_
          refine AllReadyIn.cons rfl (fun K hK => ?_) ?_
          · go_simp
            refine hK _ _ ?_
            clear hK K
            refine wpAnyIn_ready (rs := [2]) (by kernel_rfl) (by simp) ?_
            refine AllReadyIn.cons rfl (fun K hK => ?_) ?_
            · go_simp
              refine hK _ _ ?_
              clear hK K
              refine wpAnyIn_ready (rs := [3]) (by kernel_rfl) (by simp) ?_
              refine AllReadyIn.cons rfl (fun K hK => ?_) ?_
              · go_simp
                refine ⟨trivial, (CallsIn.inRound l ((callsIn_wide).2 HRd.out)).mono ?_⟩
                rintro e w5 ⟨v5, rfl, ho5, hb5⟩
                obtain ⟨A5, c5, rfl, _⟩ := own_form ho5
                have hb6 := below_undrew hb5
                have q1 := HW.out.1.belowS hb6
                have q2 := HW.out.2.1.belowS hb6
                have o5 := q2.cell 0
                have o6 := (q2.alloc (.cells #[.slice A5 Z c5] 32)).cell 0
                have H5 := Lib.hid (And.intro q1 (And.intro q2 (And.intro (own_below HW.out.2.2.1 hb6) (And.intro (HW.out.2.2.2.1.below hb6) (And.intro ho5 hb6)))))
                clear q1 q2 ho5 hb5 hb6
                dsimp only
                refine hK _ _ ?_
                clear hK K
                refine wpAnyIn_ready (rs := [4]) (by kernel_rfl) (by simp) ?_
                refine AllReadyIn.cons rfl (fun K hK => ?_) ?_
                · go_simp
                  refine hK _ _ ?_
                  clear hK K
                  refine wpAnyIn_ready (rs := [5]) (by kernel_rfl) (by simp) ?_
                  refine AllReadyIn.cons rfl (fun K hK => ?_) ?_
                  · refine stepIn_append_rd (by rfl) (.tmp 29) (.tmp 33) _ (by rfl) w3.heap.size 32 i0 _ 1 24 Try.underlying25 hi0 hz0 hz1 hz2 rfl (by omega) _ pre.length vs (by rfl) (own_below H5.out.2.2.1 ((Below.refl _ _).alloc (Nat.le_refl _) _)) (some ⟨w5.heap.size, 0, none⟩) 1 1 [.slice A5 Z c5] (by rfl) (Rd.lit _ _ _ _ rfl 1 rfl _ rfl) slice_one (by simp only [maxLen]; omega) (by omega) (by have := H5.out.2.2.2.2.2.size; have := HSZ.out; rw [World.size_alloc]; omega) ?_
                    intro v6 w6 hown6 hg6 hat6
                    obtain ⟨q3, q4, hc6⟩ := cu_app H5.out.2.1 H5.out.1 H5.out.2.2.1 hg6
                    have o7 := q3.cell 0
                    have f7 := q3.frozen 0
                    obtain ⟨A6, c6, rfl, _⟩ := own_form hown6
                    refine hK _ _ ?_
                    clear hK K
                    refine wpAnyIn_ready (rs := [6]) (by kernel_rfl) (by simp) ?_
                    refine AllReadyIn.cons rfl (fun K hK => ?_) ?_
                    · go_simp
                      refine hK _ _ ?_
                      clear hK K
                      refine wpAnyIn_done (by kernel_rfl) ?_ _
                      gi_wp2
                      exact cu_round rfl HK.out.2.2.2.2.2.1.size HW.out.2.2.2.2 (Nat.le_of_lt HK.out.2.2.2.2.2.2) HW.out.2.2.2.1 H5.out hown6 hg6 hat6
                    exact AllReadyIn.nil
                  exact AllReadyIn.nil
                exact AllReadyIn.nil
              exact AllReadyIn.nil
            exact AllReadyIn.nil
          refine AllReadyIn.cons rfl (fun K hK => ?_) ?_
          · go_simp
            refine hK _ _ ?_
            clear hK K
            refine wpAnyIn_ready (rs := [0, 3]) (by kernel_rfl) (by simp) ?_
            refine AllReadyIn.cons rfl (fun K hK => ?_) ?_
            · go_simp
              refine hK _ _ ?_
              clear hK K
              refine wpAnyIn_ready (rs := [3]) (by kernel_rfl) (by simp) ?_
              refine AllReadyIn.cons rfl (fun K hK => ?_) ?_
              · go_simp
                refine ⟨trivial, (CallsIn.inRound l ((callsIn_wide).2 HRd.out)).mono ?_⟩
                rintro e w5 ⟨v5, rfl, ho5, hb5⟩
                obtain ⟨A5, c5, rfl, _⟩ := own_form ho5
                have hb6 := below_undrew hb5
                have q1 := HW.out.1.belowS hb6
                have q2 := HW.out.2.1.belowS hb6
                have o5 := q2.cell 0
                have o6 := (q2.alloc (.cells #[.slice A5 Z c5] 32)).cell 0
                have H5 := Lib.hid (And.intro q1 (And.intro q2 (And.intro (own_below HW.out.2.2.1 hb6) (And.intro (HW.out.2.2.2.1.below hb6) (And.intro ho5 hb6)))))
                clear q1 q2 ho5 hb5 hb6
                dsimp only
                refine hK _ _ ?_
                clear hK K
                refine wpAnyIn_ready (rs := [4]) (by kernel_rfl) (by simp) ?_
                refine AllReadyIn.cons rfl (fun K hK => ?_) ?_
                · go_simp
                  refine hK _ _ ?_
                  clear hK K
                  refine wpAnyIn_ready (rs := [5]) (by kernel_rfl) (by simp) ?_
                  refine AllReadyIn.cons rfl (fun K hK => ?_) ?_
                  · refine stepIn_append_rd (by rfl) (.tmp 29) (.tmp 33) _ (by rfl) w3.heap.size 32 i0 _ 1 24 Try.underlying25 hi0 hz0 hz1 hz2 rfl (by omega) _ pre.length vs (by rfl) (own_below H5.out.2.2.1 ((Below.refl _ _).alloc (Nat.le_refl _) _)) (some ⟨w5.heap.size, 0, none⟩) 1 1 [.slice A5 Z c5] (by rfl) (Rd.lit _ _ _ _ rfl 1 rfl _ rfl) slice_one (by simp only [maxLen]; omega) (by omega) (by have := H5.out.2.2.2.2.2.size; have := HSZ.out; rw [World.size_alloc]; omega) ?_
                    intro v6 w6 hown6 hg6 hat6
                    obtain ⟨q3, q4, hc6⟩ := cu_app H5.out.2.1 H5.out.1 H5.out.2.2.1 hg6
                    have o7 := q3.cell 0
                    have f7 := q3.frozen 0
                    obtain ⟨A6, c6, rfl, _⟩ := own_form hown6
                    refine hK _ _ ?_
                    clear hK K
                    refine wpAnyIn_ready (rs := [6]) (by kernel_rfl) (by simp) ?_
                    refine AllReadyIn.cons rfl (fun K hK => ?_) ?_
                    · go_simp
                      refine hK _ _ ?_
                      clear hK K
                      refine wpAnyIn_done (by kernel_rfl) ?_ _
                      gi_wp2
                      exact cu_round rfl HK.out.2.2.2.2.2.1.size HW.out.2.2.2.2 (Nat.le_of_lt HK.out.2.2.2.2.2.2) HW.out.2.2.2.1 H5.out hown6 hg6 hat6
                    exact AllReadyIn.nil
                  exact AllReadyIn.nil
                exact AllReadyIn.nil
              exact AllReadyIn.nil
            refine AllReadyIn.cons rfl (fun K hK => ?_) ?_
            · go_simp
              refine ⟨trivial, (CallsIn.inRound l ((callsIn_wide).2 HRd.out)).mono ?_⟩
              rintro e w5 ⟨v5, rfl, ho5, hb5⟩
              obtain ⟨A5, c5, rfl, _⟩ := own_form ho5
              have hb6 := below_undrew hb5
              have q1 := HW.out.1.belowS hb6
              have q2 := HW.out.2.1.belowS hb6
              have o5 := q2.cell 0
              have o6 := (q2.alloc (.cells #[.slice A5 Z c5] 32)).cell 0
              have H5 := Lib.hid (And.intro q1 (And.intro q2 (And.intro (own_below HW.out.2.2.1 hb6) (And.intro (HW.out.2.2.2.1.below hb6) (And.intro ho5 hb6)))))
              clear q1 q2 ho5 hb5 hb6
              dsimp only
              refine hK _ _ ?_
              clear hK K
              refine wpAnyIn_ready (rs := [0, 4]) (by kernel_rfl) (by simp) ?_
              refine AllReadyIn.cons rfl (fun K hK => ?_) ?_
              · go_simp
                refine hK _ _ ?_
                clear hK K
                refine wpAnyIn_ready (rs := [4]) (by kernel_rfl) (by simp) ?_
                refine AllReadyIn.cons rfl (fun K hK => ?_) ?_
                · go_simp
                  refine hK _ _ ?_
                  clear hK K
                  refine wpAnyIn_ready (rs := [5]) (by kernel_rfl) (by simp) ?_
                  refine AllReadyIn.cons rfl (fun K hK => ?_) ?_
                  · refine stepIn_append_rd (by rfl) (.tmp 29) (.tmp 33) _ (by rfl) w3.heap.size 32 i0 _ 1 24 Try.underlying25 hi0 hz0 hz1 hz2 rfl (by omega) _ pre.length vs (by rfl) (own_below H5.out.2.2.1 ((Below.refl _ _).alloc (Nat.le_refl _) _)) (some ⟨w5.heap.size, 0, none⟩) 1 1 [.slice A5 Z c5] (by rfl) (Rd.lit _ _ _ _ rfl 1 rfl _ rfl) slice_one (by simp only [maxLen]; omega) (by omega) (by have := H5.out.2.2.2.2.2.size; have := HSZ.out; rw [World.size_alloc]; omega) ?_
                    intro v6 w6 hown6 hg6 hat6
                    obtain ⟨q3, q4, hc6⟩ := cu_app H5.out.2.1 H5.out.1 H5.out.2.2.1 hg6
                    have o7 := q3.cell 0
                    have f7 := q3.frozen 0
                    obtain ⟨A6, c6, rfl, _⟩ := own_form hown6
                    refine hK _ _ ?_
                    clear hK K
                    refine wpAnyIn_ready (rs := [6]) (by kernel_rfl) (by simp) ?_
                    refine AllReadyIn.cons rfl (fun K hK => ?_) ?_
                    · go_simp
                      refine hK _ _ ?_
                      clear hK K
                      refine wpAnyIn_done (by kernel_rfl) ?_ _
                      gi_wp2
                      exact cu_round rfl HK.out.2.2.2.2.2.1.size HW.out.2.2.2.2 (Nat.le_of_lt HK.out.2.2.2.2.2.2) HW.out.2.2.2.1 H5.out hown6 hg6 hat6
                    exact AllReadyIn.nil
                  exact AllReadyIn.nil
                exact AllReadyIn.nil
              refine AllReadyIn.cons rfl (fun K hK => ?_) ?_
              · go_simp
                refine hK _ _ ?_
                clear hK K
                refine wpAnyIn_ready (rs := [0]) (by kernel_rfl) (by simp) ?_
                refine AllReadyIn.cons rfl (fun K hK => ?_) ?_
                · go_simp
                  refine hK _ _ ?_
                  clear hK K
                  refine wpAnyIn_ready (rs := [5]) (by kernel_rfl) (by simp) ?_
                  refine AllReadyIn.cons rfl (fun K hK => ?_) ?_
                  · refine stepIn_append_rd (by rfl) (.tmp 29) (.tmp 33) _ (by rfl) w3.heap.size 32 i0 _ 1 24 Try.underlying25 hi0 hz0 hz1 hz2 rfl (by omega) _ pre.length vs (by rfl) (own_below H5.out.2.2.1 ((Below.refl _ _).alloc (Nat.le_refl _) _)) (some ⟨w5.heap.size, 0, none⟩) 1 1 [.slice A5 Z c5] (by rfl) (Rd.lit _ _ _ _ rfl 1 rfl _ rfl) slice_one (by simp only [maxLen]; omega) (by omega) (by have := H5.out.2.2.2.2.2.size; have := HSZ.out; rw [World.size_alloc]; omega) ?_
                    intro v6 w6 hown6 hg6 hat6
                    obtain ⟨q3, q4, hc6⟩ := cu_app H5.out.2.1 H5.out.1 H5.out.2.2.1 hg6
                    have o7 := q3.cell 0
                    have f7 := q3.frozen 0
                    obtain ⟨A6, c6, rfl, _⟩ := own_form hown6
                    refine hK _ _ ?_
                    clear hK K
                    refine wpAnyIn_ready (rs := [6]) (by kernel_rfl) (by simp) ?_
                    refine AllReadyIn.cons rfl (fun K hK => ?_) ?_
                    · go_simp
                      refine hK _ _ ?_
                      clear hK K
                      refine wpAnyIn_done (by kernel_rfl) ?_ _
                      gi_wp2
                      exact cu_round rfl HK.out.2.2.2.2.2.1.size HW.out.2.2.2.2 (Nat.le_of_lt HK.out.2.2.2.2.2.2) HW.out.2.2.2.1 H5.out hown6 hg6 hat6
                    exact AllReadyIn.nil
                  exact AllReadyIn.nil
                exact AllReadyIn.nil
              exact AllReadyIn.nil
            exact AllReadyIn.nil
          exact AllReadyIn.nil
        refine AllReadyIn.cons rfl (fun K hK => ?_) ?_
        · go_simp
          refine hK _ _ ?_
          clear hK K
          refine wpAnyIn_ready (rs := [0, 1]) (by kernel_rfl) (by simp) ?_
          refine AllReadyIn.cons rfl (fun K hK => ?_) ?_
          · go_simp
            refine hK _ _ ?_
            clear hK K
            refine wpAnyIn_ready (rs := [1]) (by kernel_rfl) (by simp) ?_
            refine AllReadyIn.cons rfl (fun K hK => ?_) ?_
            · go_simp
              refine hK _ _ ?_
              clear hK K
              refine wpAnyIn_ready (rs := [3]) (by kernel_rfl) (by simp) ?_
              refine AllReadyIn.cons rfl (fun K hK => ?_) ?_
              · go_simp
                refine ⟨trivial, (CallsIn.inRound l ((callsIn_wide).2 HRd.out)).mono ?_⟩
                rintro e w5 ⟨v5, rfl, ho5, hb5⟩
                obtain ⟨A5, c5, rfl, _⟩ := own_form ho5
                have hb6 := below_undrew hb5
                have q1 := HW.out.1.belowS hb6
                have q2 := HW.out.2.1.belowS hb6
                have o5 := q2.cell 0
                have o6 := (q2.alloc (.cells #[.slice A5 Z c5] 32)).cell 0
                have H5 := Lib.hid (And.intro q1 (And.intro q2 (And.intro (own_below HW.out.2.2.1 hb6) (And.intro (HW.out.2.2.2.1.below hb6) (And.intro ho5 hb6)))))
                clear q1 q2 ho5 hb5 hb6
                dsimp only
                refine hK _ _ ?_
                clear hK K
                refine wpAnyIn_ready (rs := [4]) (by kernel_rfl) (by simp) ?_
                refine AllReadyIn.cons rfl (fun K hK => ?_) ?_
                · go_simp
                  refine hK _ _ ?_
                  clear hK K
                  refine wpAnyIn_ready (rs := [5]) (by kernel_rfl) (by simp) ?_
                  refine AllReadyIn.cons rfl (fun K hK => ?_) ?_
                  · refine stepIn_append_rd (by rfl) (.tmp 29) (.tmp 33) _ (by rfl) w3.heap.size 32 i0 _ 1 24 Try.underlying25 hi0 hz0 hz1 hz2 rfl (by omega) _ pre.length vs (by rfl) (own_below H5.out.2.2.1 ((Below.refl _ _).alloc (Nat.le_refl _) _)) (some ⟨w5.heap.size, 0, none⟩) 1 1 [.slice A5 Z c5] (by rfl) (Rd.lit _ _ _ _ rfl 1 rfl _ rfl) slice_one (by simp only [maxLen]; omega) (by omega) (by have := H5.out.2.2.2.2.2.size; have := HSZ.out; rw [World.size_alloc]; omega) ?_
                    intro v6 w6 hown6 hg6 hat6
                    obtain ⟨q3, q4, hc6⟩ := cu_app H5.out.2.1 H5.out.1 H5.out.2.2.1 hg6
                    have o7 := q3.cell 0
                    have f7 := q3.frozen 0
                    obtain ⟨A6, c6, rfl, _⟩ := own_form hown6
                    refine hK _ _ ?_
                    clear hK K
                    refine wpAnyIn_ready (rs := [6]) (by kernel_rfl) (by simp) ?_
                    refine AllReadyIn.cons rfl (fun K hK => ?_) ?_
                    · go_simp
                      refine hK _ _ ?_
                      clear hK K
                      refine wpAnyIn_done (by kernel_rfl) ?_ _
                      gi_wp2
                      exact cu_round rfl HK.out.2.2.2.2.2.1.size HW.out.2.2.2.2 (Nat.le_of_lt HK.out.2.2.2.2.2.2) HW.out.2.2.2.1 H5.out hown6 hg6 hat6
                    exact AllReadyIn.nil
                  exact AllReadyIn.nil
                exact AllReadyIn.nil
              exact AllReadyIn.nil
            exact AllReadyIn.nil
          refine AllReadyIn.cons rfl (fun K hK => ?_) ?_
          · go_simp
            refine hK _ _ ?_
            clear hK K
            refine wpAnyIn_ready (rs := [0, 3]) (by kernel_rfl) (by simp) ?_
            refine AllReadyIn.cons rfl (fun K hK => ?_) ?_
            · go_simp
              refine hK _ _ ?_
              clear hK K
              refine wpAnyIn_ready (rs := [3]) (by kernel_rfl) (by simp) ?_
              refine AllReadyIn.cons rfl (fun K hK => ?_) ?_
              · go_simp
                refine ⟨trivial, (CallsIn.inRound l ((callsIn_wide).2 HRd.out)).mono ?_⟩
                rintro e w5 ⟨v5, rfl, ho5, hb5⟩
                obtain ⟨A5, c5, rfl, _⟩ := own_form ho5
                have hb6 := below_undrew hb5
                have q1 := HW.out.1.belowS hb6
                have q2 := HW.out.2.1.belowS hb6
                have o5 := q2.cell 0
                have o6 := (q2.alloc (.cells #[.slice A5 Z c5] 32)).cell 0
                have H5 := Lib.hid (And.intro q1 (And.intro q2 (And.intro (own_below HW.out.2.2.1 hb6) (And.intro (HW.out.2.2.2.1.below hb6) (And.intro ho5 hb6)))))
                clear q1 q2 ho5 hb5 hb6
                dsimp only
                refine hK _ _ ?_
                clear hK K
                refine wpAnyIn_ready (rs := [4]) (by kernel_rfl) (by simp) ?_
                refine AllReadyIn.cons rfl (fun K hK => ?_) ?_
                · go_simp
                  refine hK _ _ ?_
                  clear hK K
                  refine wpAnyIn_ready (rs := [5]) (by kernel_rfl) (by simp) ?_
                  refine AllReadyIn.cons rfl (fun K hK => ?_) ?_
                  · refine stepIn_append_rd (by rfl) (.tmp 29) (.tmp 33) _ (by rfl) w3.heap.size 32 i0 _ 1 24 Try.underlying25 hi0 hz0 hz1 hz2 rfl (by omega) _ pre.length vs (by rfl) (own_below H5.out.2.2.1 ((Below.refl _ _).alloc (Nat.le_refl _) _)) (some ⟨w5.heap.size, 0, none⟩) 1 1 [.slice A5 Z c5] (by rfl) (Rd.lit _ _ _ _ rfl 1 rfl _ rfl) slice_one (by simp only [maxLen]; omega) (by omega) (by have := H5.out.2.2.2.2.2.size; have := HSZ.out; rw [World.size_alloc]; omega) ?_
                    intro v6 w6 hown6 hg6 hat6
                    obtain ⟨q3, q4, hc6⟩ := cu_app H5.out.2.1 H5.out.1 H5.out.2.2.1 hg6
                    have o7 := q3.cell 0
                    have f7 := q3.frozen 0
                    obtain ⟨A6, c6, rfl, _⟩ := own_form hown6
                    refine hK _ _ ?_
                    clear hK K
                    refine wpAnyIn_ready (rs := [6]) (by kernel_rfl) (by simp) ?_
                    refine AllReadyIn.cons rfl (fun K hK => ?_) ?_
                    · go_simp
                      refine hK _ _ ?_
                      clear hK K
                      refine wpAnyIn_done (by kernel_rfl) ?_ _
                      gi_wp2
                      exact cu_round rfl HK.out.2.2.2.2.2.1.size HW.out.2.2.2.2 (Nat.le_of_lt HK.out.2.2.2.2.2.2) HW.out.2.2.2.1 H5.out hown6 hg6 hat6
                    exact AllReadyIn.nil
                  exact AllReadyIn.nil
                exact AllReadyIn.nil
              exact AllReadyIn.nil
            refine AllReadyIn.cons rfl (fun K hK => ?_) ?_
            · go_simp
              refine ⟨trivial, (CallsIn.inRound l ((callsIn_wide).2 HRd.out)).mono ?_⟩
              rintro e w5 ⟨v5, rfl, ho5, hb5⟩
              obtain ⟨A5, c5, rfl, _⟩ := own_form ho5
              have hb6 := below_undrew hb5
              have q1 := HW.out.1.belowS hb6
              have q2 := HW.out.2.1.belowS hb6
              have o5 := q2.cell 0
              have o6 := (q2.alloc (.cells #[.slice A5 Z c5] 32)).cell 0
              have H5 := Lib.hid (And.intro q1 (And.intro q2 (And.intro (own_below HW.out.2.2.1 hb6) (And.intro (HW.out.2.2.2.1.below hb6) (And.intro ho5 hb6)))))
              clear q1 q2 ho5 hb5 hb6
              dsimp only
              refine hK _ _ ?_
              clear hK K
              refine wpAnyIn_ready (rs := [0, 4]) (by kernel_rfl) (by simp) ?_
              refine AllReadyIn.cons rfl (fun K hK => ?_) ?_
              · go_simp
                refine hK _ _ ?_
                clear hK K
                refine wpAnyIn_ready (rs := [4]) (by kernel_rfl) (by simp) ?_
                refine AllReadyIn.cons rfl (fun K hK => ?_) ?_
                · go_simp
                  refine hK _ _ ?_
                  clear hK K
                  refine wpAnyIn_ready (rs := [5]) (by kernel_rfl) (by simp) ?_
                  refine AllReadyIn.cons rfl (fun K hK => ?_) ?_
                  · refine stepIn_append_rd (by rfl) (.tmp 29) (.tmp 33) _ (by rfl) w3.heap.size 32 i0 _ 1 24 Try.underlying25 hi0 hz0 hz1 hz2 rfl (by omega) _ pre.length vs (by rfl) (own_below H5.out.2.2.1 ((Below.refl _ _).alloc (Nat.le_refl _) _)) (some ⟨w5.heap.size, 0, none⟩) 1 1 [.slice A5 Z c5] (by rfl) (Rd.lit _ _ _ _ rfl 1 rfl _ rfl) slice_one (by simp only [maxLen]; omega) (by omega) (by have := H5.out.2.2.2.2.2.size; have := HSZ.out; rw [World.size_alloc]; omega) ?_
                    intro v6 w6 hown6 hg6 hat6
                    obtain ⟨q3, q4, hc6⟩ := cu_app H5.out.2.1 H5.out.1 H5.out.2.2.1 hg6
                    have o7 := q3.cell 0
                    have f7 := q3.frozen 0
                    obtain ⟨A6, c6, rfl, _⟩ := own_form hown6
                    refine hK _ _ ?_
                    clear hK K
                    refine wpAnyIn_ready (rs := [6]) (by kernel_rfl) (by simp) ?_
                    refine AllReadyIn.cons rfl (fun K hK => ?_) ?_
                    · go_simp
                      refine hK _ _ ?_
                      clear hK K
                      refine wpAnyIn_done (by kernel_rfl) ?_ _
                      gi_wp2
                      exact cu_round rfl HK.out.2.2.2.2.2.1.size HW.out.2.2.2.2 (Nat.le_of_lt HK.out.2.2.2.2.2.2) HW.out.2.2.2.1 H5.out hown6 hg6 hat6
                    exact AllReadyIn.nil
                  exact AllReadyIn.nil
                exact AllReadyIn.nil
              refine AllReadyIn.cons rfl (fun K hK => ?_) ?_
              · go_simp
                refine hK _ _ ?_
                clear hK K
                refine wpAnyIn_ready (rs := [0]) (by kernel_rfl) (by simp) ?_
                refine AllReadyIn.cons rfl (fun K hK => ?_) ?_
                · go_simp
                  refine hK _ _ ?_
                  clear hK K
                  refine wpAnyIn_ready (rs := [5]) (by kernel_rfl) (by simp) ?_
                  refine AllReadyIn.cons rfl (fun K hK => ?_) ?_
                  · refine stepIn_append_rd (by rfl) (.tmp 29) (.tmp 33) _ (by rfl) w3.heap.size 32 i0 _ 1 24 Try.underlying25 hi0 hz0 hz1 hz2 rfl (by omega) _ pre.length vs (by rfl) (own_below H5.out.2.2.1 ((Below.refl _ _).alloc (Nat.le_refl _) _)) (some ⟨w5.heap.size, 0, none⟩) 1 1 [.slice A5 Z c5] (by rfl) (Rd.lit _ _ _ _ rfl 1 rfl _ rfl) slice_one (by simp only [maxLen]; omega) (by omega) (by have := H5.out.2.2.2.2.2.size; have := HSZ.out; rw [World.size_alloc]; omega) ?_
                    intro v6 w6 hown6 hg6 hat6
                    obtain ⟨q3, q4, hc6⟩ := cu_app H5.out.2.1 H5.out.1 H5.out.2.2.1 hg6
                    have o7 := q3.cell 0
                    have f7 := q3.frozen 0
                    obtain ⟨A6, c6, rfl, _⟩ := own_form hown6
                    refine hK _ _ ?_
                    clear hK K
                    refine wpAnyIn_ready (rs := [6]) (by kernel_rfl) (by simp) ?_
                    refine AllReadyIn.cons rfl (fun K hK => ?_) ?_
                    · go_simp
                      refine hK _ _ ?_
                      clear hK K
                      refine wpAnyIn_done (by kernel_rfl) ?_ _
                      gi_wp2
                      exact cu_round rfl HK.out.2.2.2.2.2.1.size HW.out.2.2.2.2 (Nat.le_of_lt HK.out.2.2.2.2.2.2) HW.out.2.2.2.1 H5.out hown6 hg6 hat6
                    exact AllReadyIn.nil
                  exact AllReadyIn.nil
                exact AllReadyIn.nil
              exact AllReadyIn.nil
            exact AllReadyIn.nil
          exact AllReadyIn.nil
        exact AllReadyIn.nil
        -- B
      case done =>
        rintro D l W hD ⟨k', hk1, hk2, rfl⟩ ⟨⟨v, vs, b1, b2, b3, b4⟩, hB⟩ hKD
        rw [List.length_range] at b3
        have hkK : k' ≤ K := by
          rcases hk2 with e | e
          · omega
          · rcases Nat.lt_or_ge K k' with q | q
            · have h1 : K * Z ≤ (k' - 1) * Z := Nat.mul_le_mul_right _ (by omega)
              have := HS.out.2; omega
            · exact q
        have HD1 := Lib.hid (show ∃ m v vs, k' ≤ m ∧ m ≤ K ∧ Bk W w.heap.size 73 [.int .i64 (K : Int), .int .i64 (Z : Int)] ∧ Bk W w2.heap.size 25 [v] ∧ W.ownsRow w3.heap.size 32 1 v m vs ∧ ORows W w3.heap.size vs (cutL data m Z) ∧ Below w.heap.size w W ∧ W.heap[D]? = some (.deferred (some [])) ∧ w3.heap.size ≤ W.heap.size from ⟨k', v, vs, Nat.le_refl _, hkK, b1, b2, b3, b4, HK.out.2.2.2.2.2.1.trans hB, hKD, hB.size⟩)
        have HN := Lib.hid (show ∀ m, k' ≤ m → cutR data Z m = evenL [] Z from fun m hm => by
          have h1 : k' * Z ≤ m * Z := Nat.mul_le_mul_right _ hm
          unfold cutR
          rw [List.drop_eq_nil_of_le (by have := H.out.2.1; omega)]; simp)
        have HDD := Lib.hid hD
        clear hk1 hk2 b1 b2 b3 b4 hB hKD hkK hD
        gi_wp2
        gi_loopw [] (fun wr => ∃ m v vs, k' ≤ m ∧ m ≤ K ∧ Bk wr w.heap.size 73 [.int .i64 (K : Int), .int .i64 (Z : Int)] ∧ Bk wr w2.heap.size 25 [v] ∧ wr.ownsRow w3.heap.size 32 1 v m vs ∧ ORows wr w3.heap.size vs (cutL data m Z) ∧ Below w.heap.size w wr ∧ wr.heap[D]? = some (.deferred (some [])) ∧ w3.heap.size ≤ wr.heap.size) (fun wr => match wr.cell? ⟨w2.heap.size, 0, none⟩ with | some (.slice _ n _) => K - n | _ => 0)
        case atStart => exact HD1.out
        case round =>
          obtain ⟨m, v, vs, hm1, hm2, b1, b2, b3, b4, hB, hKD, hs3⟩ := hrel
          clear HD1
          obtain ⟨Av, cv, rfl, _⟩ := own_form b3
          have z0 := b1.cell 0
          have z1 := b1.cell 1
          have o0 := b2.cell 0
          have of := b2.frozen 0
          by_cases hlt : m < K
          · have km : (m : Int) < (K : Int) := by omega
            have HRd := Lib.hid (padded_any (w := wr.drew) (k := (K : Int)) (s := Z) (A := none) (m := 0) (c := 0) (l := []) (Rd.nil _ _) (by omega) HS.out.1.2.2.2)
            have HW := Lib.hid (And.intro b1 (And.intro b2 (And.intro b3 (And.intro b4 (And.intro hB (And.intro hKD (And.intro hs3 (And.intro hm1 hlt))))))))
            have hpK : m + 1 ≤ 65536 := by have := HS.out.1.2.1; omega
            clear b1 b2 b3 b4 hB hKD hs3 hm1 hm2 hlt
            refine wpIn_wide.2 ?_
            go_wp2_with fail
            go_region_law (first
              | (refine step_append_rd (by rfl) (.tmp 39) (.tmp 42) _ (by rfl) w3.heap.size 32 i0 _ 1 24 Try.underlying25 hi0 hz0 hz1 hz2 rfl (by omega) _ m vs (by rfl) (own_below H5.out.2.2.1 ((Below.refl _ _).alloc (Nat.le_refl _) _)) (some ⟨w5.heap.size, 0, none⟩) 1 1 [.slice A5 Z c5] (by rfl) (Rd.lit _ _ _ _ rfl 1 rfl _ rfl) slice_one (by simp only [maxLen]; omega) (by omega) (by have := H5.out.2.2.2.2.2.size; have := HW.out.2.2.2.2.2.2.1; rw [World.size_alloc]; omega) ?_; intro v6 w6 hown6 hg6 hat6; obtain ⟨q3, q4, hc6⟩ := cu_app H5.out.2.1 H5.out.1 H5.out.2.2.1 hg6; have o7 := q3.cell 0; have f7 := q3.frozen 0; obtain ⟨A6, c6, rfl, _⟩ := own_form hown6)
              | (go_simp; go_at_call 56; refine HRd.out.mono ?_; rintro e w5 ⟨v5, rfl, ho5, hb5⟩; obtain ⟨A5, c5, rfl, _⟩ := own_form ho5; have hb6 := below_undrew hb5; have q1 := HW.out.1.belowS hb6; have q2 := HW.out.2.1.belowS hb6; have o5 := q2.cell 0; have o6 := (q2.alloc (.cells #[.slice A5 Z c5] 32)).cell 0; have H5 := Lib.hid (And.intro q1 (And.intro q2 (And.intro (own_below HW.out.2.2.1 hb6) (And.intro (HW.out.2.2.2.1.below hb6) (And.intro ho5 hb6))))); clear q1 q2 ho5 hb5 hb6))
            all_goals go_wp2
            all_goals (
              obtain ⟨k1, k2, k3, k4, k5, k6⟩ := cu_snoc HW.out.2.2.2.1 HW.out.2.2.2.2.2.2.1 H5.out hown6 hg6 hat6 (evenL_length [] Z)
              refine ⟨⟨m + 1, _, _, by have := HW.out.2.2.2.2.2.2.2.1; omega, by have := HW.out.2.2.2.2.2.2.2.2; omega, k3, k4, k5, by rw [cutL_succ, HN.out m HW.out.2.2.2.2.2.2.2.1]; exact k6, k2.below HW.out.2.2.2.2.1 (fun b _ e => by
                rcases e with e | e
                · rw [e]; exact HB.out.1.size
                · have := (HW.out.2.2.1.lt b e).1; have := HK.out.2.2.2.2.2.1.size; omega) HW.out.2.2.2.2.1.size, k1.same D _ HW.out.2.2.2.2.2.1 rfl, Nat.le_trans HW.out.2.2.2.2.2.2.1 k1.size⟩, ?_⟩
              rw [k4.cell 0, o0]
              show K - (m + 1) < K - m
              have := HW.out.2.2.2.2.2.2.2.2
              omega)
          · obtain rfl : m = K := by omega
            have HW := Lib.hid (And.intro b3 (And.intro b4 (And.intro hB (And.intro hKD (Nat.le_trans HK.out.2.2.2.2.2.1.size HDD.out)))))
            clear b1 b2 b3 b4 hB hs3 hm1 hm2 hlt
            gi_wp2
            refine ⟨by simp, .inl ⟨_, _, rfl, run_takeDeferred hKD, ?_⟩⟩
            have hr : ∀ r, some D = some r → ∃ o : Obj, wr.heap[r]? = some o ∧ o.isCells = false := fun r e => by cases e; exact ⟨_, hKD, rfl⟩
            refine ⟨.tuple #[.slice Av m cv, .int .i64 0], by simp [results, Try.results43, go_sem], _, vs, rfl, ?_, ?_, ?_⟩
            · rw [cutL_len]; exact own_mono (own_row HW.out.1 (grownBy_putObj' _ D (.deferred none)) hr) HK.out.2.2.2.2.2.1.size
            · exact (HW.out.2.1.row (grownBy_putObj' _ D (.deferred none)) hr).mono HK.out.2.2.2.2.2.1.size
            · exact HW.out.2.2.1.trans (belowK_b (w := w) (Nat.le_refl _) wr D _ _ HW.out.2.2.2.2 hKD rfl rfl)
      case stop =>
        rintro D c pre W _ _ h _
        exact h.elim
  · have hE : cutE data k s = 3 := by unfold cutE; rw [if_neg hok]
    have hV : cutV data k s = [] := by unfold cutV; rw [hE, if_neg (by omega)]
    rw [hE, hV]
    have HD := Lib.hid (decide_eq_false hok)
    clear hok hE hV
    gi_wp2_with (refine ⟨trivial, ?_⟩; gi_at_call 54; refine (HM.out _).mono ?_; rintro e w2 ⟨rfl, hb2⟩; rw [HD.out]; have HB := Lib.hid (below_base H.out.2.2.1 hb2 H.out.2.2.1.size); clear hb2)
    gi_wp2
    exact ⟨.tuple #[.slice none 0 0, .int .i64 3], by simp [results, Try.results43, go_sem], _, [], rfl, World.ownsRow_nil _ _ _ _, ORows.nil _ _, HB.out⟩
end Go.Proofs.Ytchdjbbhhjjmkaa
