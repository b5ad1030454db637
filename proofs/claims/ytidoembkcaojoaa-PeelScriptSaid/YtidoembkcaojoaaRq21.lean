/- Chapter 21: the document's decoder: Add. -/
import Derived.Test.YtidoembkcaojoaaRp21
import Derived.Test.YtidoembkcaojoaaSe21
import Derived.StillTailTactics
import Derived.Deep.DeepCutAuto
import Derived.Deep.CutBlock
namespace Go.Proofs.Ytidoembkcaojoaa
open Go.RowKit
set_option linter.unusedVariables false
def RaPost (w : World) (base D : Nat) (d : DS) (F : Nat → Prop) (id : Int) (set : List Int) (pay : List UInt8) (e : Ending) (w' : World) : Prop :=
  ∃ v m' F', e = .returned (.tuple #[v, .int .i64 (d.add id set pay).2.1]) ∧ Rc w' base D m' (d.add id set pay).2.2 F' ∧ (∀ b, F' b → F b ∨ w.heap.size ≤ b) ∧ Chg F w w' ∧ w'.ownsRow w.heap.size 3 1 v (d.add id set pay).1.length (nums (d.add id set pay).1) ∧ ∀ b, v.ownBlock = some b → ¬ F' b
theorem RaPost.bad {w w' : World} {base D : Nat} {m : RM} {d : DS} {F : Nat → Prop} {id : Int} {set : List Int} {pay : List UInt8} {x : Int} (h : Rc w base D m d F) (he : d.err id set pay = x) (hx : x ≠ 0) (hb : Below w.heap.size w w') : RaPost w base D d F id set pay (.returned (.tuple #[.slice none 0 0, .int .i64 x])) w' := by
  have e := dadd_bad (d := d) (id := id) (set := set) (pay := pay) (by rw [he]; exact hx)
  unfold RaPost
  rw [e, he]
  exact ⟨_, m, F, rfl, h.below hb, fun b e => .inl e, Chg.of_below hb, World.ownsRow_nil _ _ _ _, fun b hb => by cases hb⟩
/-- The state of the search's round. -/
structure RS21 (w wr : World) (base D : Nat) (F : Nat → Prop) (d0 d' : DS) (out : List Int) (v : Value) (m' : RM) (F' : Nat → Prop) : Prop where
  pe : Peels d0 out d'
  ok : d'.ok
  rc : Rc wr base D m' d' F'
  sub : ∀ b, F' b → F b ∨ w.heap.size ≤ b
  ch : Chg F w wr
  ow : wr.ownsRow w.heap.size 3 1 v out.length (nums out)
  ap : ∀ b, v.ownBlock = some b → ¬ F' b
/-- A symbol more, and what is told of it. -/
structure MS21 (w wr : World) (base D : Nat) (F : Nat → Prop) (d' : DS) (out : List Int) (v : Value) (m' : RM) (F' : Nat → Prop) : Prop where
  rc : Rc wr base D m' d' F'
  sub : ∀ b, F' b → F b ∨ w.heap.size ≤ b
  ch : Chg F w wr
  ow : wr.ownsRow w.heap.size 3 1 v out.length (nums out)
  ap : ∀ b, v.ownBlock = some b → ¬ F' b
theorem RS21.put {w wr w6 : World} {base D : Nat} {F F' : Nat → Prop} {d0 d' : DS} {out : List Int} {V A6 : Option Addr} {cv s c6 x p : Nat} {m' : RM} (h : RS21 w wr base D F d0 d' out (.slice V out.length cv) m' F') (hN : Next d' x p) (hb : Below wr.heap.size wr w6) (ho : w6.ownsRow wr.heap.size 5 1 (.slice A6 s c6) s (bys (d'.left p))) (hs : d'.s = s) :
    ∃ m2 F2, MS21 w ((w6.setCell ⟨m'.SB, x, none⟩ (.slice A6 s c6)).setCell ⟨m'.IS, x, none⟩ (.bool true)) base D F (d'.took x p) out (.slice V out.length cv) m2 F2 := by
  obtain ⟨m2, F2, q1, _, _, _, _, q2, q3⟩ := h.rc.took h.ok (hN.lt h.ok) hN.mem.2 hb ho hs
  have hz := h.ch.size
  refine ⟨m2, F2, { rc := q1, sub := fun b e => ?_, ch := ?_, ow := q3.own h.ow fun a ha => h.ap _ (own_b1 ha), ap := fun b e hf => ?_ }⟩
  · rcases q2 b e with g | g
    · exact h.sub b g
    · exact .inr (by omega)
  · refine h.ch.trans q3 fun b hb e => ?_
    rcases h.sub b e with g | g
    · exact g
    · omega
  · rcases q2 b hf with g | g
    · exact h.ap b e g
    · have := (h.ow.lt b e).2; omega
theorem MS21.push {w wz w8 : World} {base D : Nat} {F F2 : Nat → Prop} {d0 d' : DS} {out : List Int} {V : Option Addr} {v8 : Value} {cv x p : Nat} {m2 : RM} {o : Obj} (h : MS21 w wz base D F (d'.took x p) out (.slice V out.length cv) m2 F2) (hp : Peels d0 out d') (hN : Next d' x p) (hok : d'.ok)
    (ho : w8.ownsRow w.heap.size 3 1 v8 (out.length + 1) (nums (out ++ [(x : Int)]))) (hg : (wz.alloc o).grownBy w8 (Value.slice V out.length cv).ownBlock) (hat : v8.ownBlock = (Value.slice V out.length cv).ownBlock ∨ v8.ownBlock = some (wz.alloc o).heap.size) :
    RS21 w w8 base D F d0 (d'.took x p) (out ++ [(x : Int)]) v8 m2 F2 := by
  have hc : Chg (fun k => (Value.slice V out.length cv).ownBlock = some k) wz w8 := ((Chg.refl _ wz).alloc _).trans (Chg.of_grown hg (S := fun k => (Value.slice V out.length cv).ownBlock = some k) fun k e => e) fun _ _ x => x
  have hz := h.ch.size
  refine { pe := hp.snoc hN, ok := hok.took hN, rc := h.rc.other hc fun b hb e => h.ap b e hb, sub := h.sub, ch := h.ch.trans hc fun b hb e => ?_, ow := by rw [List.length_append]; exact ho, ap := fun b e hf => ?_ }
  · have := (h.ow.lt b e).1; omega
  · rcases hat with g | g
    · exact h.ap b (by rw [← g]; exact e) hf
    · rw [g] at e; injection e with e
      have := (h.rc.fb b hf).2
      rw [World.size_alloc] at e
      omega
theorem lv_take_succ (kn : List Bool) (vals : List (List UInt8)) {l : List Int} {j : Nat} (hj : j < l.length) (p : List UInt8) : lv kn vals (l.take (j + 1)) p = if knw kn (gi l j) then xorL (lv kn vals (l.take j) p) (xv vals (gi l j)) else lv kn vals (l.take j) p := by
  unfold lv
  rw [List.take_succ_eq_append_getElem hj, List.foldl_append, gi_get hj]; rfl
theorem next_other {d : DS} {x p : Nat} (h : Next d x p) {y : Int} (hy : y ∈ d.set p) : knw d.kn y = !decide (y = (x : Int)) := by
  cases hk : knw d.kn y with
  | true =>
    have : y ≠ (x : Int) := fun e => by rw [e, h.mem.2] at hk; cases hk
    rw [decide_eq_false this]; rfl
  | false =>
    have hm : y ∈ rst d.kn (d.set p) := mem_rst.2 ⟨hy, hk⟩
    rw [h.2.1] at hm
    rw [decide_eq_true (List.mem_singleton.1 hm)]; rfl
section
variable {w w' : World} {base D : Nat} {m : RM} {d : DS} {F : Nat → Prop}
set_option maxRecDepth 100000 in
set_option maxHeartbeats 6400000 in
theorem radd_any (h : Rc w base D m d F) (hd : d.ok) {A B : Option Addr} {n nb cA cB : Nat} {set : List Int} {pay : List UInt8} {id : Int} (hN : d.sets.length < 1000) (hr : Rd w A n (nums set)) (hn : n ≤ 1000000) (hp : Rd w B nb (bys pay)) (hnb : nb ≤ 1000000) :
    Calls Try.prog 29 #[.pointer (some ⟨D, 0, none⟩), .int .i64 id, .slice A n cA, .slice B nb cB] w (RaPost w base D d F id set pay) := by
  have hpl : pay.length = nb := by have := hp.1; simpa [bys_length] using this
  have hsl : set.length = n := by have := hr.1; simpa [nums_length] using this
  obtain ⟨K, hK⟩ : ∃ K, d.k = K := ⟨_, rfl⟩
  obtain ⟨s, hs⟩ : ∃ s, d.s = s := ⟨_, rfl⟩
  obtain ⟨N, hNe⟩ : ∃ N, d.sets.length = N := ⟨_, rfl⟩
  have c0 : w.cell? ⟨D, 0, none⟩ = some (.int .i64 (K : Nat)) := by rw [← hK]; exact h.e.cell 0
  have hset := rset_any (k := K) (c := cA) hr hn
  obtain ⟨sb, hsb⟩ : ∃ b, setB K set = b := ⟨_, rfl⟩
  rw [hsb] at hset
  have H := Lib.hid (And.intro h (And.intro hd (And.intro hr (And.intro hp (And.intro hpl (And.intro hsl (And.intro hK (And.intro hs (And.intro hNe (And.intro hset hsb))))))))))
  clear h hd hr hp hpl hsl hK hs hset hsb
  by_cases h1 : id < 0
  · have d1 : decide (id < 0) = true := decide_eq_true h1
    have HE := Lib.hid (show d.err id set pay = 3 from by unfold DS.err; rw [if_pos (.inl h1)])
    clear h1 hNe
    go_enter Try.func29, Try.ntmps29
    go_wp2_with fail
    go_ret2
    exact RaPost.bad H.out.1 HE.out (by decide) (Below.refl _ _)
  · have d1 : decide (id < 0) = false := decide_eq_false h1
    by_cases h2 : 4294967295 < id
    · have d2 : decide (id > 4294967295) = true := decide_eq_true h2
      have d3 : decide (4294967295 < id) = true := decide_eq_true h2
      have HE := Lib.hid (show d.err id set pay = 3 from by unfold DS.err; rw [if_pos (.inr h2)])
      clear h1 h2 hNe
      go_enter Try.func29, Try.ntmps29
      go_wp2_with fail
      go_ret2
      exact RaPost.bad H.out.1 HE.out (by decide) (Below.refl _ _)
    · have d2 : decide (id > 4294967295) = false := decide_eq_false h2
      have d3 : decide (4294967295 < id) = false := decide_eq_false h2
      have H1 := Lib.hid (show ¬ (id < 0 ∨ 4294967295 < id) from by omega)
      have HNe := Lib.hid hNe
      have hN9 : (N : Int) < 1000 := by omega
      clear h1 h2 hNe
      go_enter Try.func29, Try.ntmps29
      go_wp2_with fail
      refine H.out.2.2.2.2.2.2.2.2.2.1.mono ?_
      rintro e w1 ⟨rfl, hb1⟩
      have HB1 := Lib.hid hb1
      have c1 : w1.cell? ⟨D, 1, none⟩ = some (.int .i64 (s : Nat)) := by rw [← H.out.2.2.2.2.2.2.2.1]; exact (H.out.1.below hb1).e.cell 1
      have c0 := cell_below hb1 c0
      clear hb1
      cases sb with
      | false =>
        have HE := Lib.hid (show d.err id set pay = 2 from by unfold DS.err; rw [if_neg H1.out, if_pos (.inl (by rw [H.out.2.2.2.2.2.2.1]; exact H.out.2.2.2.2.2.2.2.2.2.2))])
        go_wp2_with fail
        go_ret2
        exact RaPost.bad H.out.1 HE.out (by decide) HB1.out
      | true =>
        by_cases h3 : nb = s
        · subst h3
          have d5 : ((nb : Int) != (nb : Int)) = false := by simp
          have HE1 := Lib.hid (show ¬ (setB d.k set = false ∨ pay.length ≠ d.s) from by rw [H.out.2.2.2.2.2.2.1, H.out.2.2.2.2.2.2.2.2.2.2, H.out.2.2.2.2.1, H.out.2.2.2.2.2.2.2.1]; simp)
          go_wp2_with fail
          go_loopw [10] (fun i wr => ∃ j : Nat, j ≤ N ∧ i = .int .i64 j ∧ (∀ t : Nat, t < j → d.ids[t]? ≠ some id) ∧ wr = w1) (fun i wr => N - (intOf i).toNat)
          case atStart => exact ⟨0, by omega, rfl, fun t ht => absurd ht (Nat.not_lt_zero _), rfl⟩
          case round =>
            obtain ⟨j, hj, rfl, hno, rfl⟩ := hrel
            have hR1 := H.out.1.below HB1.out
            have c3 : wr.cell? ⟨D, 3, none⟩ = some (.slice m.LV N m.lc) := by rw [← HNe.out]; exact hR1.e.cell 3
            by_cases hlt : j < N
            · have km : (j : Int) < (N : Int) := by omega
              have kd : decide ((j : Int) < (N : Int)) = true := decide_eq_true km
              have kd' : decide (j < N) = true := decide_eq_true hlt
              have j0 : (0 : Int) ≤ (j : Int) := by omega
              obtain ⟨g, a, e, _, _, _, _, _, hid, ca, _, _, _⟩ := hR1.pc (p := j) (by rw [HNe.out]; exact hlt)
              rw [e] at c3
              have HX := Lib.hid (And.intro hno (And.intro hlt hid))
              clear hno hlt hid hj hR1 e
              by_cases he : a.id = id
              · have e1 : (a.id == id) = true := by simpa using he
                have HE := Lib.hid (show d.err id set pay = 11 from by
                  have hi : id ∈ d.ids := by rw [← he]; exact List.mem_of_getElem? HX.out.2.2
                  unfold DS.err; rw [if_neg H1.out, if_neg HE1.out, if_pos hi])
                clear he
                go_wp2_with fail
                go_ret2
                exact RaPost.bad H.out.1 HE.out (by decide) HB1.out
              · have e1 : (a.id == id) = false := by simpa using he
                have HN := Lib.hid (show d.ids[j]? ≠ some id from by rw [HX.out.2.2]; intro e; injection e with e; exact he e)
                clear he
                go_wp2_with fail
                refine ⟨⟨j + 1, HX.out.2.1, by go_num, fun t ht => ?_, by first | rfl | trivial⟩, by have := HX.out.2.1; simp [intOf]; omega⟩
                rcases (show t < j ∨ t = j from by omega) with y | y
                · exact HX.out.1 t y
                · subst y; exact HN.out
            · have hjN : j = N := by omega
              have kd : decide ((j : Int) < (N : Int)) = false := decide_eq_false (by omega)
              have kd' : decide (j < N) = false := decide_eq_false (by omega)
              obtain ⟨mo, hmo⟩ : ∃ mo, d.most = mo := ⟨_, rfl⟩
              have c2 : wr.cell? ⟨D, 2, none⟩ = some (.int .i64 mo) := by rw [← hmo]; exact hR1.e.cell 2
              have HNi := Lib.hid (show ¬ id ∈ d.ids from fun hm => by
                obtain ⟨t, ht, e⟩ := List.mem_iff_getElem.1 hm
                exact hno t (by rw [hjN, ← HNe.out, ← H.out.2.1.ni]; exact ht) (by rw [List.getElem?_eq_getElem ht, e]))
              have HM := Lib.hid hmo
              clear hno hlt hj hjN hR1 hmo
              by_cases hf : mo ≤ (N : Int)
              · have f1 : decide ((N : Int) ≥ mo) = true := decide_eq_true hf
                have f2 : decide (mo ≤ (N : Int)) = true := decide_eq_true hf
                have HE := Lib.hid (show d.err id set pay = 9 from by unfold DS.err; rw [if_neg H1.out, if_neg HE1.out, if_neg HNi.out, if_pos (by rw [HM.out, HNe.out]; exact hf)])
                clear hf
                go_wp2_with fail
                go_quiet (fail)
                go_wp2_with fail
                go_ret2
                exact RaPost.bad H.out.1 HE.out (by decide) (below_dN HB1.out _)
              · have f1 : decide ((N : Int) ≥ mo) = false := decide_eq_false (by omega)
                have f2 : decide (mo ≤ (N : Int)) = false := decide_eq_false (by omega)
                have HE := Lib.hid (show d.err id set pay = 0 from by unfold DS.err; rw [if_neg H1.out, if_neg HE1.out, if_neg HNi.out, if_neg (by rw [HM.out, HNe.out]; exact hf)])
                clear hf
                go_wp2_with fail
                go_quiet (fail)
                have c3 : (wr.drewN nq).cell? ⟨D, 3, none⟩ = some (.slice m.LV N m.lc) := c3
                have HB2 := Lib.hid (below_dN HB1.out nq)
                clear c2 c0 c1
                generalize wr.drewN nq = w2 at c3 HB2 ⊢
                go_wp2_with fail
                have hR2 := H.out.1.below HB2.out
                have HPs := Lib.hid (show 0 < n ∧ 0 < nb from ⟨by
                  have hS : Sset d.k set := by have := H.out.2.2.2.2.2.2.2.2.2.2; rw [← H.out.2.2.2.2.2.2.1] at this; exact this
                  rw [← H.out.2.2.2.2.2.1]; exact hS.ok.2, by rw [← H.out.2.2.2.2.2.2.2.1]; exact H.out.2.1.s1.1⟩)
                have HR2 := Lib.hid (And.intro hR2 (And.intro (H.out.2.2.1.below HB2.out) (H.out.2.2.2.1.below HB2.out)))
                have e1 := cell_new c3 (.cells #[] 3) hR2.e.lt
                have e2 := cell_new c3 (.cells #[] 5) hR2.e.lt
                have e3 := cell_new e1 (.cells #[] 5) (by rw [World.size_alloc]; exact Nat.lt_succ_of_lt hR2.e.lt)
                have e4 := cell_new e2 (.cells #[] 3) (by rw [World.size_alloc]; exact Nat.lt_succ_of_lt hR2.e.lt)
                clear hR2
                obtain ⟨LV, hLV⟩ : ∃ V, m.LV = V := ⟨_, rfl⟩
                obtain ⟨lc, hlc⟩ : ∃ V, m.lc = V := ⟨_, rfl⟩
                have HL := Lib.hid (And.intro hLV hlc)
                rw [hLV, hlc] at c3 e1 e2 e3 e4
                clear hLV hlc
                go_cut [] (fun wx => ∃ m' F', Rc wx base D m' (d.addP id set pay) F' ∧ (∀ b, F' b → F b ∨ w.heap.size ≤ b) ∧ Chg F w wx)
                case first =>
                  go_region_law (first
                    | (refine step_cpI (w := w2) (l := set) (.tmp 74) (.tmp 75) (by rfl) (by rfl) (by rfl) (by rfl) (by repeat (first | exact H5.out.1 | refine bel_alloc ?_ _ | refine Below.drew ?_)) HR2.out.2.1 (by have := HPs.out; omega) (C := fun w' => w'.ownsRow w2.heap.size 5 1 (.slice A2 nb c2) nb (bys pay)) (fun w' hb' => own_below (by repeat (first | exact H5.out.2.1 | refine own_below ?_ (bel_alloc (Below.refl _ _) _) | refine own_below ?_ (Below.refl _ _).drew)) hb') ?_; intro A1 c1' w6 H6; have g6 := cell_below H6.out.1 c3; have H7 := Lib.hid (And.intro H6.out.1 (And.intro H6.out.2.1 H6.out.2.2)); have g7 := cell_new g6 (.cells #[.int .i64 id, .slice A1 n c1', .slice A2 nb c2] 89) (World.block_lt_of_cell? _ _ g6))
                    | (refine step_cpI (w := w2) (l := set) (.tmp 74) (.tmp 75) (by rfl) (by rfl) (by rfl) (by rfl) (by repeat (first | exact Below.refl _ _ | refine bel_alloc ?_ _ | refine Below.drew ?_)) HR2.out.2.1 (by have := HPs.out; omega) (C := fun w' => True) (fun w' hb' => trivial) ?_; intro A1 c1' w4 H4; have g4 := cell_below H4.out.1 c3; have g5 := cell_new g4 (.cells #[] 5) (World.block_lt_of_cell? _ _ g4))
                    | (refine step_cpU (w := w2) (l := pay) (.tmp 77) (.tmp 78) (by rfl) (by rfl) (by rfl) (by rfl) (by repeat (first | exact H4.out.1 | refine bel_alloc ?_ _ | refine Below.drew ?_)) HR2.out.2.2 (by have := HPs.out; omega) (C := fun w' => w'.ownsRow w2.heap.size 3 1 (.slice A1 n c1') n (nums set)) (fun w' hb' => own_below (by repeat (first | exact H4.out.2.1 | refine own_below ?_ (bel_alloc (Below.refl _ _) _) | refine own_below ?_ (Below.refl _ _).drew)) hb') ?_; intro A2 c2 w6 H6; have g6 := cell_below H6.out.1 c3; have H7 := Lib.hid (And.intro H6.out.1 (And.intro H6.out.2.2 H6.out.2.1)); have g7 := cell_new g6 (.cells #[.int .i64 id, .slice A1 n c1', .slice A2 nb c2] 89) (World.block_lt_of_cell? _ _ g6))
                    | (refine step_cpU (w := w2) (l := pay) (.tmp 77) (.tmp 78) (by rfl) (by rfl) (by rfl) (by rfl) (by repeat (first | exact Below.refl _ _ | refine bel_alloc ?_ _ | refine Below.drew ?_)) HR2.out.2.2 (by have := HPs.out; omega) (C := fun w' => True) (fun w' hb' => trivial) ?_; intro A2 c2 w5 H5; have g4 := cell_below H5.out.1 c3; have g5 := cell_new g4 (.cells #[] 3) (World.block_lt_of_cell? _ _ g4))
                    | (refine step_pk (w := w2) (w1 := w6) (LV := LV) (lc := lc) (N := N) (p := ⟨id, A1, n, c1', set, A2, nb, c2, pay⟩) (.tmp 72) (.tmp 81) (by rfl) (by rfl) (by rfl) (by rfl) HR2.out.1 HNe.out HL.out.1 HL.out.2 (by omega) H7.out.1 ?_; intro A6 c6 w8 H8 g8 f8))
                  all_goals go_wp2_with fail
                  all_goals go_meet
                  all_goals (
                    obtain ⟨m', F', q1, q2, q3⟩ := HR2.out.1.addP H7.out.1 H7.out.2.1 H7.out.2.2 H.out.2.2.2.2.2.2.2.1 (by rw [HNe.out]; exact H8.out.1) H8.out.2.1 H8.out.2.2
                    rw [HNe.out] at q1 q3
                    exact ⟨m', F', q1, fun b e => (q2 b e).imp (fun e => e) fun e => by have := HB2.out.size; omega, (Chg.of_below (S := F) HB2.out).trans q3 fun _ _ e => e⟩)
                case rest =>
                  obtain ⟨m1, F1, hr1, hs1, hc1⟩ := hcut
                  have hok1 := H.out.2.1.addP HE.out
                  obtain ⟨d0, hd0⟩ : ∃ d0, d.addP id set pay = d0 := ⟨_, rfl⟩
                  rw [hd0] at hr1 hok1
                  have hk0 : d0.k = K := by rw [← hd0]; exact H.out.2.2.2.2.2.2.1
                  have hs0 : d0.s = nb := by rw [← hd0]; exact H.out.2.2.2.2.2.2.2.1
                  have hn0 : d0.sets.length ≤ 1000 := by rw [← hd0]; show (d.sets ++ [set]).length ≤ 1000; rw [List.length_append]; have := HNe.out; simp; omega
                  have H0 : Hid (RS21 w wc base D F d0 d0 [] (.slice none 0 0) m1 F1) := Lib.hid { pe := .nil _, ok := hok1, rc := hr1, sub := hs1, ch := hc1, ow := World.ownsRow_nil _ _ _ _, ap := fun b hb => by cases hb }
                  have HD := Lib.hid (And.intro hd0 (And.intro hk0 (And.intro hs0 (And.intro hn0 hok1))))
                  clear hr1 hs1 hc1 hok1 hd0 hk0 hs0 hn0 c3 e1 e2 e3 e4
                  go_wp2_with fail
                  refine (rnext_any H0.out.rc H0.out.ok HD.out.2.2.2.1).mono ?_
                  rintro e w3 ⟨rfl, hb3⟩
                  have H3 : Hid (RS21 w w3 base D F d0 d0 [] (.slice none 0 0) m1 F1) := Lib.hid { H0.out with rc := H0.out.rc.below hb3, ch := H0.out.ch.trans (Chg.of_below hb3) fun _ _ e => e, ow := World.ownsRow_nil _ _ _ _ }
                  clear hb3
                  go_wp2_with fail
                  go_loopg [11, 12] (unk d0.kn + 1) (fun q o a wr => ∃ (d' : DS) (m' : RM) (F' : Nat → Prop) (out : List Int), q = unk d'.kn + 1 ∧ a = .int .i64 (atI d'.nx) ∧ RS21 w wr base D F d0 d' out o m' F')
                  case atStart => exact ⟨d0, m1, F1, [], rfl, rfl, H3.out⟩
                  case round =>
                    obtain ⟨d', m', F', out, hq, rfl, hR⟩ := hrel
                    obtain ⟨V, cv, rfl⟩ := own_sl hR.ow
                    have hsame := hR.pe.same
                    cases hnx : d'.nx with
                    | none =>
                      have HE2 := Lib.hid (show d.add id set pay = (out, 0, d') from add_eq H.out.2.1 HE.out (by rw [HD.out.1]; exact hR.pe) (nx_none hR.ok hnx))
                      have HRe := Lib.hid hR
                      clear hR hnx hsame hq
                      rw [show atI none = -1 from rfl]
                      go_wp2_with fail
                      go_ret2
                      unfold RaPost
                      rw [HE2.out]
                      exact ⟨_, m', F', rfl, HRe.out.rc, HRe.out.sub, HRe.out.ch, HRe.out.ow, HRe.out.ap⟩
                    | some xp =>
                      obtain ⟨x, p⟩ := xp
                      have hN := nx_some hR.ok hnx
                      have hx := hN.lt hR.ok
                      have hpN : p < N + 1 := by have h1 := hN.1; rw [hsame.2.2.2.2.1, ← HD.out.1] at h1; have h2 : p < (d.sets ++ [set]).length := h1; rw [List.length_append, HNe.out] at h2; simpa using h2
                      have hsl' : d'.sets.length = N + 1 := by rw [hsame.2.2.2.2.1, ← HD.out.1]; show (d.sets ++ [set]).length = _; rw [List.length_append, HNe.out]; rfl
                      obtain ⟨g, a, e, hin, _, hok, hset, hpay, _, ca, cb, cc, hlc⟩ := hR.rc.pc hN.1
                      have c3 : wr.cell? ⟨D, 3, none⟩ = some (.slice (some ⟨g, 0, none⟩) (N + 1 : Nat) m'.lc) := by rw [← e, ← hsl']; exact hR.rc.e.cell 3
                      have pN : (p : Int) < ((N + 1 : Nat) : Int) := by omega
                      have pN2 : (p : Int) < (N : Int) + 1 := by omega
                      have p0 : (0 : Int) ≤ (p : Int) := by omega
                      have HRe := Lib.hid (And.intro hR (And.intro hN (And.intro hx (And.intro hsl' (And.intro hok (And.intro hset (And.intro hpay hq)))))))
                      rw [show atI (some (x, p)) = (p : Int) from rfl]
                      clear hR hN hnx hsame hx hsl' hok hset hpay hin hpN e hq
                      go_wp2_with fail
                      have hbp := bel_alloc (Below.refl wr.heap.size wr) (.cells #[.int .i64 a.id, .slice a.A a.n a.c, .slice a.B a.m a.e] 89)
                      have hkp := Bk.newA wr 89 #[.int .i64 a.id, .slice a.A a.n a.c, .slice a.B a.m a.e]
                      have hS := HRe.out.1.ok.sset HRe.out.2.1.1
                      have hlf := rleft_any (c := a.c) (HRe.out.1.rc.below hbp) HRe.out.1.ok (l := a.set) (HRe.out.2.2.2.2.1.2.2.1.below hbp) (by rw [HRe.out.2.2.2.2.2.1]; exact hS.inr) (by rw [HRe.out.2.2.2.2.1.1, HRe.out.2.2.2.2.2.1]; have := hS.len; have := HRe.out.1.ok.k1; omega)
                      rw [HRe.out.2.2.2.2.2.1, HRe.out.2.1.2.1, show lf1 d'.k [(x : Int)] = (x : Int) from rfl] at hlf
                      have HLf := Lib.hid (And.intro hlf (And.intro hbp hkp))
                      clear hlf hbp hkp hS ca cb cc c3
                      refine HLf.out.1.mono ?_
                      rintro e w5 ⟨rfl, hb5⟩
                      have hk5 := HLf.out.2.2.belowS hb5
                      have H5 := Lib.hid (And.intro (below_base HLf.out.2.1 hb5 HLf.out.2.1.size) hk5)
                      clear hb5 hk5
                      obtain ⟨P, hP⟩ : ∃ P, wr.heap.size = P := ⟨_, rfl⟩
                      have HP := Lib.hid hP
                      rw [hP]
                      have q1 : w5.cell? ⟨P, 1, none⟩ = some (.slice a.A a.n a.c) := by rw [← hP]; exact H5.out.2.cell 1
                      have q2 : w5.cell? ⟨P, 2, none⟩ = some (.slice a.B a.m a.e) := by rw [← hP]; exact H5.out.2.cell 2
                      have hS := HRe.out.1.ok.sset HRe.out.2.1.1
                      obtain ⟨L, hL⟩ : ∃ L, a.n = L := ⟨_, rfl⟩
                      obtain ⟨AS, hAS⟩ : ∃ L, a.A = L := ⟨_, rfl⟩
                      obtain ⟨aB, haB⟩ : ∃ L, a.B = L := ⟨_, rfl⟩
                      obtain ⟨ac, hac⟩ : ∃ L, a.c = L := ⟨_, rfl⟩
                      obtain ⟨ae, hae⟩ : ∃ L, a.e = L := ⟨_, rfl⟩
                      have hds : d'.s = nb := by rw [HRe.out.1.pe.same.2.1]; exact HD.out.2.2.1
                      have hdk : d'.k = K := by rw [HRe.out.1.pe.same.1]; exact HD.out.2.1
                      have ham : a.m = nb := by rw [HRe.out.2.2.2.2.1.2.1]; exact hds
                      have hL9 : L ≤ 100 := by rw [← hL, HRe.out.2.2.2.2.1.1, HRe.out.2.2.2.2.2.1]; have := hS.len; have := HRe.out.1.ok.k1; omega
                      have rs5 : Rd w5 AS L (nums (d'.set p)) := by rw [← hL, ← hAS, ← HRe.out.2.2.2.2.2.1]; exact HRe.out.2.2.2.2.1.2.2.1.below H5.out.1
                      have rp5 : Rd w5 aB nb (bys (d'.pay p)) := by rw [← ham, ← haB, ← HRe.out.2.2.2.2.2.2.1]; exact HRe.out.2.2.2.2.1.2.2.2.1.below H5.out.1
                      have hsl3 : (d'.set p).length = L := by have := rs5.1; simpa [nums_length] using this
                      rw [hL, hAS, hac] at q1
                      rw [haB, ham, hae] at q2
                      have H6 := Lib.hid (And.intro rs5 (And.intro rp5 (And.intro hsl3 (And.intro hS (And.intro hds hdk)))))
                      clear hS rs5 rp5 hsl3 hL hAS haB hac hae hds hdk ham hP
                      go_wp2_with fail
                      go_loopw [15, 16] (fun v i wx => ∃ (t : Nat) (A9 : Option Addr) (c9 : Nat), t ≤ L ∧ i = .int .i64 t ∧ v = .slice A9 nb c9 ∧ Rd wx A9 nb (bys (lv d'.kn d'.vals ((d'.set p).take t) (d'.pay p))) ∧ Below w5.heap.size w5 wx) (fun v i wx => L - (intOf i).toNat)
                      case atStart => exact ⟨0, aB, ae, by omega, rfl, rfl, H6.out.2.1, Below.refl _ _⟩
                      case round =>
                        obtain ⟨t, A9, c9, ht, rfl, rfl, hr9, hb9⟩ := hrel
                        have q1 := cell_below hb9 q1
                        by_cases hlt : t < L
                        · have km : (t : Int) < (L : Int) := by omega
                          have kd : decide ((t : Int) < (L : Int)) = true := decide_eq_true km
                          have kd' : decide (t < L) = true := decide_eq_true hlt
                          have t0 : (0 : Int) ≤ (t : Int) := by omega
                          have hts : t < (d'.set p).length := by rw [H6.out.2.2.1]; exact hlt
                          obtain ⟨b, off, rfl, _, hcc⟩ := (H6.out.1.below hb9).form (by omega)
                          have cx := hcc t _ (nums_gi hts)
                          have hm := gi_mem hts
                          have hxr := H6.out.2.2.2.1.inr _ hm
                          rw [H6.out.2.2.2.2.2] at hxr
                          have hoth := next_other HRe.out.2.1 hm
                          have hsc := lv_take_succ d'.kn d'.vals hts (d'.pay p)
                          obtain ⟨y, hy⟩ : ∃ y : Nat, gi (d'.set p) t = y := ⟨(gi (d'.set p) t).toNat, by omega⟩
                          rw [hy] at cx hoth hsc
                          have hyK : y < K := by omega
                          have yK : (y : Int) < (K : Int) := by omega
                          have y0 : (0 : Int) ≤ (y : Int) := by omega
                          have H9 := Lib.hid (And.intro hr9 (And.intro hb9 hlt))
                          clear hr9 hb9 hlt hts hcc hm hxr hy ht
                          by_cases hyx : y = x
                          · have e1 : ((y : Int) != (x : Int)) = false := by simp; omega
                            rw [decide_eq_true (show (y : Int) = (x : Int) by omega)] at hoth
                            rw [hoth] at hsc
                            have HS := Lib.hid hsc
                            clear hsc hoth hyx
                            go_wp2_with fail
                            exact ⟨⟨t + 1, A9, c9, H9.out.2.2, by go_num, rfl, by rw [HS.out]; exact H9.out.1, H9.out.2.1⟩, by have := H9.out.2.2; simp [intOf]; omega⟩
                          · have e1 : ((y : Int) != (x : Int)) = true := by simp; omega
                            rw [decide_eq_false (show ¬ (y : Int) = (x : Int) by omega)] at hoth
                            rw [hoth] at hsc
                            have hR9 := (HRe.out.1.rc.below H5.out.1).below H9.out.2.1
                            have c5 : wr.cell? ⟨D, 5, none⟩ = some (.slice (some ⟨m'.SB, 0, none⟩) K K) := by rw [← H6.out.2.2.2.2.2]; exact hR9.e.cell 5
                            have cs := hR9.syc (x := y) (by rw [H6.out.2.2.2.2.2]; exact hyK)
                            unfold rsy at cs
                            rw [hoth, if_pos (by rfl), H6.out.2.2.2.2.1] at cs
                            have hsx := (hR9.sx y (by rw [H6.out.2.2.2.2.2]; exact hyK) (by rw [hoth]; rfl)).1
                            rw [H6.out.2.2.2.2.1] at hsx
                            have hvl := HRe.out.1.ok.vs y (by rw [H6.out.2.2.2.2.2]; exact hyK) (by rw [hoth]; rfl)
                            rw [H6.out.2.2.2.2.1] at hvl
                            have hll : (lv d'.kn d'.vals ((d'.set p).take t) (d'.pay p)).length = nb := by have := H9.out.1.1; rw [bys_length] at this; exact this
                            have hxo := refXor_any (c := c9) (c' := (m'.sy y).2) (H9.out.1.below (Below.refl _ _).drew) (hsx.below (Below.refl _ _).drew) (by omega)
                            have HXo := Lib.hid (And.intro hxo (And.intro hll (And.intro hvl (show xv d'.vals (y : Int) = d'.vals.getD y [] from by unfold xv; rw [Int.toNat_natCast]))))
                            have HS := Lib.hid hsc
                            obtain ⟨A8, hA8⟩ : ∃ A, (m'.sy y).1 = A := ⟨_, rfl⟩
                            obtain ⟨c8, hc8⟩ : ∃ A, (m'.sy y).2 = A := ⟨_, rfl⟩
                            rw [hA8, hc8] at cs HXo
                            clear hsc hoth hyx hR9 hsx hvl hll hxo hA8 hc8 hyK
                            go_wp2_with fail
                            go_region_with (go_at_call 50; refine HXo.out.1.mono ?_; rintro e w7 ⟨v7, rfl, ho7, hb7⟩; have hxv : xorV (lv d'.kn d'.vals ((d'.set p).take t) (d'.pay p)) (d'.vals.getD y []) = xorL (lv d'.kn d'.vals ((d'.set p).take t) (d'.pay p)) (d'.vals.getD y []) := (by unfold xorV; rw [if_pos (by rw [HXo.out.2.1, HXo.out.2.2.1])]); rw [hxv, xorL_length _ _ (by rw [HXo.out.2.1, HXo.out.2.2.1]), HXo.out.2.1] at ho7; obtain ⟨A7, c7, rfl⟩ := own_sl ho7; have H7 := Lib.hid (And.intro (Rd.of_own ho7) (below_undrew hb7)); clear ho7 hb7 hxv)
                            all_goals go_wp2_with fail
                            all_goals exact ⟨⟨t + 1, A7, c7, H9.out.2.2, by go_num, rfl, by rw [HS.out, if_pos (by rfl), HXo.out.2.2.2]; exact H7.out.1, below_base H9.out.2.1 H7.out.2 H9.out.2.1.size⟩, by have := H9.out.2.2; simp [intOf]; omega⟩
                        · have htL : t = L := by omega
                          have kd : decide ((t : Int) < (L : Int)) = false := decide_eq_false (by omega)
                          have kd' : decide (t < L) = false := decide_eq_false (by omega)
                          rw [htL, List.take_of_length_le (by rw [H6.out.2.2.1]; exact Nat.le_refl _)] at hr9
                          have hr9' : Rd wr A9 nb (bys (d'.left p)) := hr9
                          have hbq := below_base H5.out.1 hb9 H5.out.1.size
                          have hR9 := HRe.out.1.rc.below hbq
                          have c5 : wr.cell? ⟨D, 5, none⟩ = some (.slice (some ⟨m'.SB, 0, none⟩) K K) := by rw [← H6.out.2.2.2.2.2]; exact hR9.e.cell 5
                          have c4 : wr.cell? ⟨D, 4, none⟩ = some (.slice (some ⟨m'.IS, 0, none⟩) K K) := by rw [← H6.out.2.2.2.2.2]; exact hR9.e.cell 4
                          have xK : (x : Int) < (K : Int) := by have := HRe.out.2.2.1; rw [H6.out.2.2.2.2.2] at this; omega
                          have x0 : (0 : Int) ≤ (x : Int) := by omega
                          have H9 := Lib.hid (And.intro hr9' (And.intro hbq hR9))
                          clear hr9 hr9' hb9 hbq hR9 hlt ht htL
                          go_wp2_with fail
                          have HSB := Lib.hid H9.out.2.2.sb
                          have f5 := cell_new c5 (.cells #[] 5) H9.out.2.2.e.lt
                          go_cut [] (fun wx => ∃ (A6 : Option Addr) (c6 : Nat) (w6 : World), Below wr.heap.size wr w6 ∧ w6.ownsRow wr.heap.size 5 1 (.slice A6 nb c6) nb (bys (d'.left p)) ∧ wx = w6.setCell ⟨m'.SB, x, none⟩ (.slice A6 nb c6))
                          case first =>
                            go_region_law (refine step_cpU (w := wr) (l := d'.left p) (.tmp 139) (.tmp 140) (by rfl) (by rfl) (by rfl) (by rfl) (by repeat (first | exact Below.refl _ _ | refine bel_alloc ?_ _ | refine Below.drew ?_)) H9.out.1 (by have := HPs.out; omega) (C := fun w' => True) (fun w' hb' => trivial) ?_; intro A6 c6 w6 H10; have g4 := cell_below H10.out.1 c5; have k6 := HSB.out.belowS H10.out.1; have g6 := ((k6.cell x).trans (by rw [List.getElem?_map, List.getElem?_range (by rw [H6.out.2.2.2.2.2]; omega)]; rfl : _ = some (rsy d' m' x))); have f6 := k6.frozen x; clear k6)
                            all_goals go_wp2_with fail
                            all_goals go_meet
                            all_goals exact ⟨A6, c6, w6, H10.out.1, H10.out.2.1, rfl⟩
                          case rest =>
                            obtain ⟨A6, c6, w6, h1, h2, rfl⟩ := hcut
                            have H10 := Lib.hid (And.intro h1 h2)
                            obtain ⟨m2, F2, h3⟩ := HRe.out.1.put HRe.out.2.1 (below_base H9.out.2.1 h1 H9.out.2.1.size) (own_mono h2 H9.out.2.1.size) H6.out.2.2.2.2.1
                            have r6 := H9.out.2.2.below h1
                            have k4 := r6.e.far (p := ⟨m'.SB, x, none⟩) (Ty.ne ⟨_, r6.e⟩ ⟨_, r6.sb⟩ (by decide)) (.slice A6 nb c6)
                            have kI := r6.ik.far (p := ⟨m'.SB, x, none⟩) (Ty.ne ⟨_, r6.ik⟩ ⟨_, r6.sb⟩ (by decide)) (.slice A6 nb c6)
                            have c4' : (w6.setCell ⟨m'.SB, x, none⟩ (.slice A6 nb c6)).cell? ⟨D, 4, none⟩ = some (.slice (some ⟨m'.IS, 0, none⟩) K K) := by rw [← H6.out.2.2.2.2.2]; exact k4.cell 4
                            have ci : (w6.setCell ⟨m'.SB, x, none⟩ (.slice A6 nb c6)).cell? ⟨m'.IS, x, none⟩ = some (.bool (knw d'.kn (x : Int))) := by
                              rw [kI.cell]; unfold bools; rw [List.getElem?_map, knw_at (by rw [HRe.out.1.ok.kl, H6.out.2.2.2.2.2]; omega)]; rfl
                            have fi := kI.frozen x
                            have H11 := Lib.hid h3
                            obtain ⟨i0, hi0, hz0, hz1, hz2⟩ := info_parts u3_info
                            have hol : out.length ≤ 1000 := by have h1 := HRe.out.1.pe.len HD.out.2.2.2.2; have h2 := unk_le d0.kn; have h3 := HD.out.2.2.2.2.kl; have h4 := HD.out.2.2.2.2.k1; omega
                            obtain ⟨ol, hole⟩ : ∃ ol, out.length = ol := ⟨_, rfl⟩
                            rw [hole] at hol H11 ⊢
                            have HOL := Lib.hid hole
                            clear h1 h2 h3 r6 k4 kI c5 c4 f5 hole
                            go_upto_region 27 with fail
                            generalize (w6.setCell ⟨m'.SB, x, none⟩ (.slice A6 nb c6)).setCell ⟨m'.IS, x, none⟩ (.bool true) = wz at H11 ⊢
                            have how := H11.out.ow
                            rw [HOL.out] at how
                            have HW := Lib.hid how
                            clear how c4' ci fi
                            go_wp2_with (at_builtin; refine wpList_append_rd _ rfl (.tmp 149) (.tmp 151) _ rfl w.heap.size 3 i0 _ 1 8 Try.underlying23 hi0 hz0 hz1 hz2 rfl (by omega) _ ol (nums out) rfl (own_below HW.out ((Below.refl _ _).alloc (Nat.le_refl _) _)) (some ⟨wz.heap.size, 0, none⟩) 1 1 (nums [(x : Int)]) rfl (Rd.lit _ _ _ _ rfl 1 rfl _ rfl) (nums_one _) (by simp only [maxLen]; omega) (by omega) (by have := H11.out.ch.size; rw [World.size_alloc]; omega) ?_; intro v8 w8 hown8 hg8 hat8; rw [← nums_append] at hown8)
                            have hRS := MS21.push (d0 := d0) (o := .cells #[.int .i64 (x : Nat)] 3) (v8 := v8) (w8 := w8) (cv := cv) (V := V) (by rw [HOL.out]; exact H11.out) HRe.out.1.pe HRe.out.2.1 HRe.out.1.ok (by rw [HOL.out]; exact hown8) (by rw [HOL.out]; exact hg8) (by rw [HOL.out]; exact hat8)
                            have H12 := Lib.hid hRS
                            clear hown8 hg8 hat8 hRS
                            refine (rnext_any H12.out.rc H12.out.ok (by have := HRe.out.2.2.2.1; show (d'.took x p).sets.length ≤ 1000; show d'.sets.length ≤ 1000; omega)).mono ?_
                            rintro e wa ⟨rfl, hba⟩
                            have H13 : Hid (RS21 w wa base D F d0 (d'.took x p) (out ++ [(x : Int)]) v8 m2 F2) := Lib.hid { H12.out with rc := H12.out.rc.below hba, ch := H12.out.ch.trans (Chg.of_below hba) fun _ _ e => e, ow := own_below H12.out.ow hba }
                            have hun : unk (d'.took x p).kn + 1 = unk d'.kn := unk_set (by rw [HRe.out.1.ok.kl]; exact HRe.out.2.2.1) HRe.out.2.1.mem.2
                            have HU := Lib.hid (And.intro hun HRe.out.2.2.2.2.2.2.2)
                            clear hba hun
                            go_wp2_with fail
                            go_roundg (gk - 1)
                            case measure => have := HU.out; omega
                            case rel => exact ⟨d'.took x p, m2, F2, out ++ [(x : Int)], by have := HU.out; omega, rfl, H13.out⟩
        · have d5 : ((nb : Int) != (s : Int)) = true := by simp; omega
          have HE := Lib.hid (show d.err id set pay = 2 from by unfold DS.err; rw [if_neg H1.out, if_pos (.inr (by rw [H.out.2.2.2.2.1, H.out.2.2.2.2.2.2.2.1]; exact h3))])
          clear h3
          go_wp2_with fail
          go_ret2
          exact RaPost.bad H.out.1 HE.out (by decide) HB1.out
end
end Go.Proofs.Ytidoembkcaojoaa
