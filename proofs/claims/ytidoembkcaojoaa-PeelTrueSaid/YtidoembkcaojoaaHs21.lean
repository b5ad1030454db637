/- container/heap: Push, Pop. Printed by gen_Hs.py. -/
import Derived.Test.YtidoembkcaojoaaHu21
import Derived.Deep.RegionLaw
namespace Go.Proofs.Ytidoembkcaojoaa
open Go.RowKit
set_option linter.unusedVariables false
theorem el_info : (Try.prog.info? 101).map (fun i => (i.zero, i.size, i.bytes)) = some (some (.agg #[.int .i64 0, .int .i64 0]), 2, 16) := by kernel_rfl
/-- A heap in a field of a block. -/
def HF (w : World) (base E : Nat) (cs : List Value) (o : Nat) (v : Value) (l : List HE) : Prop :=
  Bk w E 67 cs ∧ cs[o]? = some v ∧ HR w base v l ∧ v.ownBlock ≠ some E ∧ base ≤ w.heap.size
/-- What an element is as an interface's value. -/
def HE.any (e : HE) : Value := .iface 101 (.agg #[.int .i64 e.a, .int .i64 e.b])
theorem assert_el (e : HE) (w : World) : (Instr.typeAssert (.iface 101 (.agg #[.int .i64 e.a, .int .i64 e.b])) 20 101 false).run Try.prog w = .ok (.agg #[.int .i64 e.a, .int .i64 e.b]) w := by kernel_rfl
theorem grown_undrew {w w' : World} {row : Option Nat} (h : w.drew.grownBy w' row) : w.grownBy w' row := ⟨h.os, h.tape, h.output, h.size, h.block⟩
theorem push_end {w w4 : World} {base E o m : Nat} {cs : List Value} {v : Value} {l : List HE} {e : HE} {A1 : Option Addr} {d1 : Nat} {ob : Obj} (hm : (l ++ [e]).length = m)
    (hB : Bk w E 67 cs) (hco : cs[o]? = some v) (hne : v.ownBlock ≠ some E) (hbs : base ≤ w.heap.size)
    (h4 : HR w4 base (.slice A1 (l ++ [e]).length d1) (l ++ [e])) (hE : Bk w4 E 67 cs) (hg : (w.alloc ob).drew.grownBy w4 v.ownBlock)
    (hat : (Value.slice A1 (l ++ [e]).length d1).ownBlock = v.ownBlock ∨ (Value.slice A1 (l ++ [e]).length d1).ownBlock = some (w.alloc ob).drew.heap.size) :
    ∃ v', HF (w4.setCell ⟨E, o, none⟩ (.slice A1 m d1)) base E (cs.set o v') o v' (l ++ [e]) ∧ Chg (fun k => k = E ∨ v.ownBlock = some k) w (w4.setCell ⟨E, o, none⟩ (.slice A1 m d1)) ∧ (∀ b, v'.ownBlock = some b → v.ownBlock = some b ∨ w.heap.size ≤ b) := by
  subst hm
  have hlt := hB.lt
  have hsz : (w.alloc ob).drew.heap.size = w.heap.size + 1 := World.size_alloc _ _
  have hne' : (Value.slice A1 (l ++ [e]).length d1).ownBlock ≠ some E := fun e => by
    rcases hat with h | h
    · exact hne (h.symm.trans e)
    · rw [h] at e; injection e with e; omega
  have hc1 : Chg (fun k => k = E ∨ v.ownBlock = some k) w w4 := by
    have hc0 : Chg (fun k => k = E ∨ v.ownBlock = some k) w (w.alloc ob).drew := ((Chg.refl _ w).alloc ob).drew
    exact hc0.trans (Chg.of_grown (S := fun k => k = E ∨ v.ownBlock = some k) hg fun k hk => .inr hk) fun _ _ x => x
  have hcE : Chg (fun k => k = E) w4 (w4.setCell ⟨E, o, none⟩ (.slice A1 (l ++ [e]).length d1)) := (Chg.refl (fun k => k = E) w4).set_ (show E = E from rfl) o _
  refine ⟨_, ⟨hE.set_ o _, by rw [List.getElem?_set_self (List.getElem?_eq_some_iff.1 hco).1], h4.chg hcE (fun g hg e => hne' (by rw [hg, e])), hne', ?_⟩, hc1.set_ (.inl rfl) _ _, fun b hb => ?_⟩
  · have := hc1.size
    exact Nat.le_trans hbs (Nat.le_trans this (by simp [World.setCell]))
  · rcases hat with h | h
    · left; rw [← h]; exact hb
    · right; rw [h] at hb; injection hb with hb; omega
set_option maxRecDepth 100000 in
set_option maxHeartbeats 3200000 in
theorem sPush_any {w : World} {base E o : Nat} {cs : List Value} {v : Value} {l : List HE} (e : HE) (h : HF w base E cs o v l) (hl : l.length ≤ 1000000) :
    Calls Try.prog 93 #[.pointer (some ⟨E, o, none⟩), e.any] w fun x w' => x = .returned (.tuple #[]) ∧ ∃ v', HF w' base E (cs.set o v') o v' (l ++ [e]) ∧ Chg (fun k => k = E ∨ v.ownBlock = some k) w w' ∧ (∀ b, v'.ownBlock = some b → v.ownBlock = some b ∨ w.heap.size ≤ b) := by
  obtain ⟨hB, hco, hr, hne, hbs⟩ := h
  obtain ⟨A, c, rfl, hc, _⟩ := hr.form
  have c5 := hB.cell o
  rw [hco] at c5
  obtain ⟨i0, hi0, hz0, hz1, hz2⟩ := info_parts el_info
  have H := Lib.hid (And.intro hB (And.intro hco (And.intro hr (And.intro hne hbs))))
  obtain ⟨n, hn⟩ : ∃ n, l.length = n := ⟨_, rfl⟩
  have HN := Lib.hid hn
  have hn1 : n ≤ 1000000 := by omega
  rw [hn] at c5 H
  have hr' : w.ownsRow base 101 2 (.slice A n c) n (ecs l) := by rw [← hn]; exact hr
  have HR' := Lib.hid hr'
  rw [hn]
  clear hB hco hr hne hn hr' hl
  unfold HE.any
  have has := fun w => assert_el e w
  have c6 : (w.alloc (.cells #[.int .i64 e.a, .int .i64 e.b] 101)).cell? ⟨E, o, none⟩ = some (.slice A n c) := by rw [(H.out.1.alloc _).cell o]; exact H.out.2.1
  go_enter Try.func93, Try.ntmps93
  go_wp2_with fail
  go_region_law ((refine step_append_rd (by rfl) (.tmp 7) (.tmp 10) _ (by rfl) base 101 i0 _ 2 16 Try.underlying65 hi0 hz0 hz1 hz2 rfl (by omega) _ n (ecs l) (by rfl) (own_below HR'.out (((Below.refl _ _).alloc (Nat.le_refl _) _).drew)) (some ⟨w.heap.size, 0, none⟩) 1 1 e.cells (by rfl) ((Rd.lit _ _ _ _ rfl 2 rfl _ rfl).drew) (cells_one e) (by simp only [maxLen]; omega) (by omega) (by show base ≤ (w.alloc _).heap.size; rw [World.size_alloc]; omega) ?_; intro v1 w4 hown1 hg1 hat1; have hE4 := ((H.out.1.alloc _).drew).grown hg1 (fun hh => H.out.2.2.2.1 hh.symm); have c5' := hE4.cell o; rw [H.out.2.1] at c5'; have f5' := hE4.frozen o; have hr4 : HR w4 base v1 (l ++ [e]) := (by show w4.ownsRow base 101 2 v1 (l ++ [e]).length (ecs (l ++ [e])); rw [ecs_append, List.length_append, HN.out, show ecs [e] = e.cells from List.append_nil _]; exact hown1); obtain ⟨A1, d1, rfl, hd1, _⟩ := hr4.form; have H4 := Lib.hid (And.intro hr4 (And.intro hE4 (And.intro hg1 hat1))); clear hown1 hg1 hat1 hE4 hr4 hd1))
  all_goals go_end0
  all_goals refine ⟨rfl, ?_⟩
  all_goals exact push_end (by simp) H.out.1 H.out.2.1 H.out.2.2.2.1 H.out.2.2.2.2 H4.out.1 H4.out.2.1 H4.out.2.2.1 H4.out.2.2.2
theorem HF.cell {w : World} {base E o : Nat} {cs : List Value} {v : Value} {l : List HE} (h : HF w base E cs o v l) : w.cell? ⟨E, o, none⟩ = some v := by rw [h.1.cell]; exact h.2.1
set_option maxRecDepth 100000 in
set_option maxHeartbeats 3200000 in
theorem heapPush_any {w : World} {base E o : Nat} {cs : List Value} {v : Value} {l : List HE} (e : HE) (h : HF w base E cs o v l) (hp : Hp (keys l)) (hf : FitL l) (he : e.fit) (hl : l.length ≤ 1000000) :
    Calls Try.prog 61 #[hif E o, e.any] w fun x w' => x = .returned (.tuple #[]) ∧ ∃ v' l', HF w' base E (cs.set o v') o v' l' ∧ l'.Perm (l ++ [e]) ∧ Hp (keys l') ∧ Chg (fun k => k = E ∨ v.ownBlock = some k) w w' ∧ (∀ b, v'.ownBlock = some b → v.ownBlock = some b ∨ w.heap.size ≤ b) := by
  have H := Lib.hid (And.intro h (And.intro hp (And.intro hf (And.intro he hl))))
  have ha1 := fun w => ahead_push w ⟨E, o, none⟩
  have hm1 := fun w => method_push w ⟨E, o, none⟩
  have ha2 := fun w => ahead_len w ⟨E, o, none⟩
  clear h hp hf he hl
  show Calls Try.prog 61 #[.iface 99 (.pointer (some ⟨E, o, none⟩)), .iface 101 (.agg #[.int .i64 e.a, .int .i64 e.b])] w _
  go_enter Try.func61, Try.ntmps61
  go_wp2_with fail
  refine (sPush_any e H.out.1 H.out.2.2.2.2).mono ?_
  rintro x w1 ⟨rfl, v1, h1, c1, b1⟩
  have hm2 : ∀ w, w.cell? ⟨E, o, none⟩ = some v1 → (method 232 99 (.pointer (some ⟨E, o, none⟩)) "Len").run Try.prog w = .ok (62, v1) w := fun w h => method_len w h
  have c5 := h1.cell
  obtain ⟨A1, d1, hv1, hd1, hx1⟩ := h1.2.2.1.form
  have hln : (l ++ [e]).length = l.length + 1 := by simp
  rw [hln] at hv1
  subst hv1
  have H1 := Lib.hid (And.intro h1 (And.intro c1 b1))
  have HN := Lib.hid hln
  clear h1 c1 b1 hd1 hx1 hln
  obtain ⟨n, hn⟩ : ∃ n, l.length = n := ⟨_, rfl⟩
  have HL := Lib.hid hn
  have hn6 : (n : Int) ≤ 1000000 := by have := H.out.2.2.2.2; omega
  rw [hn] at c5 hm2 H1 HN
  clear hn
  have e1 : (((n + 1 : Nat) : Int)) - 1 = (n : Int) := by omega
  go_wp2_with fail
  refine (hLen_any (by have := H.out.2.2.2.2; have := HL.out; omega)).mono ?_
  rintro x w2 ⟨rfl, rfl⟩
  go_wp2_with fail
  refine (hUp_any (j := n) c5 H1.out.1.2.2.1 ?_ (by rw [HN.out]; omega) ?_ (by rw [HN.out]; omega) H1.out.1.2.2.2.1).mono ?_
  · have hk : keys (l ++ [e]) = keys l ++ [e.key] := by simp [keys]
    rw [hk]
    have := Up.snoc H.out.2.1 e.key
    rw [keys_length, HL.out] at this
    exact this
  · intro f hf
    rcases List.mem_append.1 hf with hf | hf
    · exact H.out.2.2.1 f hf
    · rw [List.mem_singleton.1 hf]; exact H.out.2.2.2.1
  rintro x w3 ⟨rfl, l', hr, hpm, hhp, hc⟩
  have H3 := Lib.hid (And.intro hr (And.intro hpm (And.intro hhp hc)))
  clear hr hpm hhp hc
  go_wp2_with fail
  go_end0
  refine ⟨rfl, _, l', ⟨H3.out.2.2.2.bk H1.out.1.1 (fun hh => H1.out.1.2.2.2.1 hh), H1.out.1.2.1, H3.out.1, H1.out.1.2.2.2.1, Nat.le_trans H1.out.1.2.2.2.2 H3.out.2.2.2.size⟩, H3.out.2.1, H3.out.2.2.1, H1.out.2.1.trans H3.out.2.2.2 (fun k hk hT => ?_), H1.out.2.2⟩
  rcases H1.out.2.2 k hT with h | h
  · exact .inr h
  · omega
theorem HR.take {w : World} {base g m c : Nat} {l : List HE} (h : HR w base (.slice (some ⟨g, 0, none⟩) (m + 1) c) l) (hl : l.length = m + 1) : HR w base (.slice (some ⟨g, 0, none⟩) m c) (l.take m) := by
  have hlt : (l.take m).length = m := by rw [List.length_take]; omega
  show World.ownsRow _ base 101 2 _ (l.take m).length _
  rw [hlt]
  rcases h.2 with ⟨h3, h4⟩ | ⟨g', cap, cur, hv, hb, hh, hnc, hcm, hcs, ht⟩
  · cases h3
  · injection hv with e1 e2 e3
    injection e1 with e1
    injection e1 with e1
    subst e1 e3
    rw [hl] at ht hnc
    refine ⟨by rw [ecs_length, hlt], .inr ⟨g, c, cur, rfl, hb, hh, by omega, hcm, hcs, ?_⟩⟩
    rw [← ecs_take, ← ht, List.take_take, Nat.min_eq_left (by omega)]
theorem pop_end {w w1 : World} {base E o m c g : Nat} {cs : List Value} {l : List HE} (h : HF w base E cs o (.slice (some ⟨g, 0, none⟩) (m + 1) c) l) (hl : l.length = m + 1) (hb : Below w.heap.size w w1) (hk : Bk w1 E 67 cs) (hg : g ≠ E) :
    HF (w1.setCell ⟨E, o, none⟩ (.slice (some ⟨g, 0, none⟩) m c)).drew base E (cs.set o (.slice (some ⟨g, 0, none⟩) m c)) o (.slice (some ⟨g, 0, none⟩) m c) (l.take m) ∧ Chg (fun k => k = E) w (w1.setCell ⟨E, o, none⟩ (.slice (some ⟨g, 0, none⟩) m c)).drew := by
  have hc : Chg (fun k => k = E) w (w1.setCell ⟨E, o, none⟩ (.slice (some ⟨g, 0, none⟩) m c)).drew := ((Chg.of_below (S := fun k => k = E) hb).set_ (show E = E from rfl) o _).drew
  have hne : (Value.slice (some ⟨g, 0, none⟩) m c).ownBlock ≠ some E := fun e => hg (by injection e)
  exact ⟨⟨(hk.set_ o _).drew, by rw [List.getElem?_set_self (List.getElem?_eq_some_iff.1 h.2.1).1], (h.2.2.1.take hl).chg hc (fun q hq e => hne (by rw [hq, e])), hne, Nat.le_trans h.2.2.2.2 hc.size⟩, hc⟩
theorem cells_bk {w : World} {K : Nat} {e : HE} (h : Bk w K 101 e.cells) : w.cell? ⟨K, 0, none⟩ = some (.int .i64 e.a) ∧ w.cell? ⟨K, 1, none⟩ = some (.int .i64 e.b) := ⟨h.cell 0, h.cell 1⟩
theorem er_cells {w : World} {g o : Nat} {e : HE} (h : w.rangeAt g o e.cells) : w.cell? ⟨g, o, none⟩ = some (.int .i64 e.a) ∧ w.cell? ⟨g, o + 1, none⟩ = some (.int .i64 e.b) := ⟨h 0 _ rfl, h 1 _ rfl⟩
set_option maxRecDepth 100000 in
set_option maxHeartbeats 3200000 in
theorem sPop_any {w : World} {base E o m c : Nat} {A : Option Addr} {cs : List Value} {l : List HE} (h : HF w base E cs o (.slice A (m + 1) c) l) (hl : l.length = m + 1) (hm : m ≤ 1000000) :
    Calls Try.prog 92 #[.pointer (some ⟨E, o, none⟩)] w fun x w' => x = .returned (gx l m).any ∧ HF w' base E (cs.set o (.slice A m c)) o (.slice A m c) (l.take m) ∧ Chg (fun k => k = E) w w' := by
  have hml : m < l.length := by omega
  obtain ⟨g, c', e', hg, hrm, htm⟩ := h.2.2.1.at_ hml
  rw [hl] at e'
  injection e' with e1 e2 e3
  subst e1 e3
  obtain ⟨i0, i1⟩ := er_cells hrm
  have c5 := h.cell
  have f5 := h.1.frozen o
  have H := Lib.hid (And.intro h hl)
  have m6 : (m : Int) ≤ 1000000 := by omega
  have e1 : (m : Int) + 1 - 1 = (m : Int) := by omega
  have e2 : IntKind.i64.wrap ((m : Int) + 1 - 1) = (m : Int) := by rw [IntKind.wrap_i64]; omega
  have e3 : IntKind.i64.wrap (m : Int) = (m : Int) := by rw [IntKind.wrap_i64]; omega
  have q0 : (0 : Int) ≤ (m : Int) := Int.natCast_nonneg _
  have q1 : (m : Int) < (m : Int) + 1 := by omega
  have q2 : (m : Int) ≤ (m : Int) + 1 := by omega
  have hgE : ¬ g = E := fun e => h.2.2.2.1 (by rw [e]; rfl)
  have hgE' : ¬ E = g := fun e => hgE e.symm
  have hwn := World.new_ne w _ c5
  have hwn0 := World.new_ne w _ i0
  obtain ⟨e, he⟩ : ∃ e, gx l m = e := ⟨_, rfl⟩
  rw [he] at i0 i1 ⊢
  have HE := Lib.hid he
  clear h hl hrm htm hml he hg
  show Calls Try.prog 92 #[.pointer (some ⟨E, o, none⟩)] w fun x w' => x = .returned (.iface 101 (.agg #[.int .i64 e.a, .int .i64 e.b])) ∧ _
  go_enter Try.func92, Try.ntmps92
  go_wp2_with fail
  go_region_held3 (fun w' => w'.cell? ⟨E, o, none⟩ = some (.slice (some ⟨g, 0, none⟩) (m + 1) c) ∧ w'.cell? ⟨g, m * 2, none⟩ = some (.int .i64 e.a) ∧ w'.cell? ⟨g, m * 2 + 1, none⟩ = some (.int .i64 e.b)) (go_keep) (fail)
  all_goals go_wp2_with fail
  obtain ⟨w1, hw1⟩ : ∃ w1, w1 = (w.alloc (.cells #[.int .i64 e.a, .int .i64 e.b] 101)).drew := ⟨_, rfl⟩
  rw [← hw1]
  have hb1 : Below w.heap.size w w1 := by rw [hw1]; exact ((Below.refl _ _).alloc (Nat.le_refl _) _).drew
  have hk1 : Bk w1 w.heap.size 101 e.cells := by rw [hw1]; exact (Bk.newA w 101 #[.int .i64 e.a, .int .i64 e.b]).drew
  obtain ⟨K, hK⟩ : ∃ K, w.heap.size = K := ⟨_, rfl⟩
  have hKE : ¬ K = E := by rw [← hK]; exact fun e => by have := H.out.1.1.lt; omega
  have hKE' : ¬ E = K := fun e => hKE e.symm
  have hmc : m + 1 ≤ c := by
    obtain ⟨A9, c9, e9, h9, _⟩ := H.out.1.2.2.1.form
    injection e9 with _ e2 e3
    rw [← e2, ← e3] at h9; exact h9
  have hmc' : (m : Int) ≤ (c : Int) := by omega
  have HW := Lib.hid (And.intro hb1 (And.intro hk1 hK))
  have hbk := H.out.1.1.belowS hb1
  have c5' := hbk.cell o
  rw [H.out.1.2.1] at c5'
  have f5' := hbk.frozen o
  rw [hK] at hk1
  obtain ⟨k0, k1⟩ := cells_bk hk1
  have HBK := Lib.hid hbk
  clear hw1 hb1 hk1 hbk c5 f5 i0 i1 hwn hwn0
  rw [hK]
  clear hK
  go_region
  all_goals go_wp2_with fail
  all_goals go_ret
  all_goals refine ⟨rfl, ?_⟩
  all_goals exact pop_end H.out.1 H.out.2 HW.out.1 HBK.out (fun e => hgE e)
set_option maxRecDepth 100000 in
set_option maxHeartbeats 3200000 in
theorem heapPop_any {w : World} {base E o m c : Nat} {A : Option Addr} {cs : List Value} {l : List HE} (h : HF w base E cs o (.slice A (m + 1) c) l) (hl : l.length = m + 1) (hp : Hp (keys l)) (hf : FitL l) (hm : m ≤ 1000000) :
    Calls Try.prog 63 #[hif E o] w fun x w' => x = .returned (gx l 0).any ∧ ∃ l', HF w' base E (cs.set o (.slice A m c)) o (.slice A m c) l' ∧ (gx l 0 :: l').Perm l ∧ Hp (keys l') ∧ (∀ e ∈ l, (gx l 0).key ≤ e.key) ∧ Chg (fun k => k = E ∨ (Value.slice A (m + 1) c).ownBlock = some k) w w' := by
  have H := Lib.hid (And.intro h (And.intro hl (And.intro hp (And.intro hf hm))))
  have c5 := h.cell
  have ha1 := fun w => ahead_len w ⟨E, o, none⟩
  have ha2 := fun w => ahead_swap w ⟨E, o, none⟩
  have ha3 := fun w => ahead_pop w ⟨E, o, none⟩
  have hm1 : ∀ w, w.cell? ⟨E, o, none⟩ = some (.slice A (m + 1) c) → (method 232 99 (.pointer (some ⟨E, o, none⟩)) "Len").run Try.prog w = .ok (62, .slice A (m + 1) c) w := fun w h => method_len w h
  have hm2 : ∀ w, w.cell? ⟨E, o, none⟩ = some (.slice A (m + 1) c) → (method 232 99 (.pointer (some ⟨E, o, none⟩)) "Swap").run Try.prog w = .ok (91, .slice A (m + 1) c) w := fun w h => method_swap w h
  have hm3 := fun w => method_pop w ⟨E, o, none⟩
  have m6 : (m : Int) ≤ 1000000 := by omega
  have e1 : (((m + 1 : Nat) : Int)) - 1 = (m : Int) := by omega
  clear h hl hp hf hm
  show Calls Try.prog 63 #[.iface 99 (.pointer (some ⟨E, o, none⟩))] w _
  go_enter Try.func63, Try.ntmps63
  go_wp2_with fail
  refine (hLen_any (by have := H.out.2.2.2.2; omega)).mono ?_
  rintro x w1 ⟨rfl, rfl⟩
  go_wp2_with fail
  have hl0 : 0 < l.length := by rw [H.out.2.1]; omega
  have hlm : m < l.length := by rw [H.out.2.1]; omega
  have hl9 : l.length ≤ 1000000000 := by have := H.out.2.2.2.2; have := H.out.2.1; omega
  refine (hSwap_any (i := 0) (j := m) H.out.1.2.2.1 hl0 hlm hl9).mono ?_
  rintro x w2 ⟨rfl, hs2, hc2⟩
  have c6 := hc2.cell c5 H.out.1.2.2.2.1
  have H2 := Lib.hid (And.intro hs2 hc2)
  clear hs2 hc2 c5
  go_wp2_with fail
  refine (hDown_any (n := m) c6 H2.out.1 (by rw [swx_length]; exact Nat.le_of_lt hlm) ?_ (H.out.2.2.2.1.perm (swx_perm hl0 hlm)) (by rw [swx_length]; exact hl9) H.out.1.2.2.2.1).mono ?_
  · have hk : keys ((swx l 0 m).take m) = ((keys l).set 0 (gx l m).key).take m := by
      unfold swx keys
      rw [List.take_set_of_le (Nat.le_refl _), List.map_take, List.map_set]
    rw [hk]
    exact Dn.start H.out.2.2.1 _ _
  rintro x w3 ⟨⟨b, rfl⟩, l', hr, hpm, hpt, hdr, hhp, hc⟩
  have c7 := hc.cell c6 H.out.1.2.2.2.1
  have hll : l'.length = m + 1 := by rw [hpm.length_eq, swx_length, H.out.2.1]
  have hbk3 : Bk w3 E 67 cs := hc.bk (H2.out.2.bk H.out.1.1 H.out.1.2.2.2.1) H.out.1.2.2.2.1
  have hf3 : HF w3 base E cs o (.slice A (m + 1) c) l' := ⟨hbk3, H.out.1.2.1, hr, H.out.1.2.2.2.1, Nat.le_trans H.out.1.2.2.2.2 (Nat.le_trans H2.out.2.size hc.size)⟩
  have hlast : gx l' m = gx l 0 := by
    have h1 : l'.drop m = (swx l 0 m).drop m := hdr
    have h2 : (l'.drop m)[0]? = ((swx l 0 m).drop m)[0]? := by rw [h1]
    rw [List.getElem?_drop, List.getElem?_drop, Nat.add_zero, gx_some (by omega), swx_get? hl0 hlm, if_pos rfl] at h2
    injection h2
  have hperm : (gx l 0 :: l'.take m).Perm l := by
    have h1 : l' = l'.take m ++ [gx l 0] := by
      have := (List.take_append_drop m l').symm
      have h2 : l'.drop m = [gx l 0] := by
        apply List.ext_getElem?
        intro q
        rw [List.getElem?_drop]
        rcases Nat.eq_zero_or_pos q with hq | hq
        · subst hq; rw [Nat.add_zero, gx_some (by omega), hlast]; rfl
        · rw [List.getElem?_eq_none (by omega), List.getElem?_eq_none (by show 1 ≤ q; omega)]
      rw [h2] at this; exact this
    have h3 : (gx l 0 :: l'.take m).Perm l' := by
      conv => rhs; rw [h1]
      exact (List.perm_append_comm (l₁ := [gx l 0]) (l₂ := l'.take m))
    exact h3.trans (hpm.trans (swx_perm hl0 hlm))
  have hmin : ∀ e ∈ l, (gx l 0).key ≤ e.key := fun e he => by
    obtain ⟨q, hq, he'⟩ := List.mem_iff_getElem.1 he
    have := H.out.2.2.1.min q (by rw [keys_length]; exact hq)
    rw [gi_keys hl0, gi_keys hq, gx_get hq, he'] at this
    exact this
  have H3 := Lib.hid (And.intro hf3 (And.intro hll (And.intro hperm (And.intro hhp (And.intro hmin (H2.out.2.trans hc fun _ _ x => x))))))
  have HLt := Lib.hid hlast
  clear hr hpm hpt hdr hhp hc hll hbk3 hf3 hlast hperm hmin c6 hl0 hlm hl9
  go_wp2_with fail
  refine (sPop_any H3.out.1 H3.out.2.1 H.out.2.2.2.2).mono ?_
  rw [HLt.out]
  rintro x w4 ⟨rfl, hf4, hc4⟩
  have H4 := Lib.hid (And.intro hf4 hc4)
  clear hf4 hc4 c7
  obtain ⟨z, hz⟩ : ∃ z, (gx l 0).any = z := ⟨_, rfl⟩
  rw [hz]
  go_wp2_with fail
  go_ret
  refine ⟨by rw [hz]; rfl, _, H4.out.1, H3.out.2.2.1, H3.out.2.2.2.1, H3.out.2.2.2.2.1, (H3.out.2.2.2.2.2.mono fun k _ hk => .inr hk).trans (H4.out.2.mono fun k _ hk => .inl hk) fun _ _ x => x⟩
end Go.Proofs.Ytidoembkcaojoaa
