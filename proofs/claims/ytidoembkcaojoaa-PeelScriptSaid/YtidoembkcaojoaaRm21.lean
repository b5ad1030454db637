/- Chapter 21: the document's decoder in memory; left; next. -/
import Derived.Test.YtidoembkcaojoaaNo21
import Derived.Test.YtidoembkcaojoaaKn21
namespace Go.Proofs.Ytidoembkcaojoaa
open Go.RowKit
set_option linter.unusedVariables false
/-- Where the document's decoder lies. -/
structure RM where
  IS : Nat
  SB : Nat
  LV : Option Addr
  lc : Nat
  ps : List PA
  sy : Nat → Option Addr × Nat
def rcells (d : DS) (m : RM) : List Value := [.int .i64 (d.k : Nat), .int .i64 (d.s : Nat), .int .i64 d.most, .slice m.LV d.sets.length m.lc, .slice (some ⟨m.IS, 0, none⟩) d.k d.k, .slice (some ⟨m.SB, 0, none⟩) d.k d.k]
def rsy (d : DS) (m : RM) (i : Nat) : Value := if knw d.kn (i : Int) then .slice (m.sy i).1 d.s (m.sy i).2 else .slice none 0 0
def PA.rok (a : PA) (w : World) (s : Nat) (F : Nat → Prop) : Prop :=
  a.n = a.set.length ∧ a.m = s ∧ Rd w a.A a.n (nums a.set) ∧ Rd w a.B a.m (bys a.pay) ∧ (∀ x, a.A = some x → F x.block ∧ Ty w x.block 3) ∧ ∀ x, a.B = some x → F x.block ∧ Ty w x.block 5
structure Rc (w : World) (base D : Nat) (m : RM) (d : DS) (F : Nat → Prop) : Prop where
  e : Bk w D 87 (rcells d m)
  ik : Bk w m.IS 4 (bools d.kn)
  lv : w.ownsRow base 89 3 (.slice m.LV d.sets.length m.lc) d.sets.length (m.ps.flatMap PA.cells)
  pl : m.ps.length = d.sets.length
  pi : m.ps.map PA.id = d.ids
  pt : m.ps.map PA.set = d.sets
  pp : m.ps.map PA.pay = d.pays
  pn : ∀ a ∈ m.ps, a.rok w d.s F
  sb : Bk w m.SB 22 ((List.range d.k).map (rsy d m))
  sx : ∀ i, i < d.k → knw d.kn (i : Int) = true → Rd w (m.sy i).1 d.s (bys (d.vals.getD i [])) ∧ ∀ x, (m.sy i).1 = some x → F x.block ∧ Ty w x.block 5
  fD : F D
  fI : F m.IS
  fS : F m.SB
  fL : ∀ a, m.LV = some a → F a.block
  fb : ∀ b, F b → base ≤ b ∧ b < w.heap.size
  bs : base ≤ w.heap.size
section
variable {w w' w'' : World} {base D : Nat} {m : RM} {d : DS} {F F' S T : Nat → Prop}
theorem PA.rok.chg {a : PA} {s : Nat} (h : a.rok w s F) (hc : Chg S w w') (hS : ∀ b, F b → ¬ S b) : a.rok w' s F := by
  obtain ⟨h1, h2, h3, h4, h5, h6⟩ := h
  exact ⟨h1, h2, hc.rd h3 fun x hx => hS _ (h5 x hx).1, hc.rd h4 fun x hx => hS _ (h6 x hx).1, fun x hx => ⟨(h5 x hx).1, (h5 x hx).2.chg hc (hS _ (h5 x hx).1)⟩, fun x hx => ⟨(h6 x hx).1, (h6 x hx).2.chg hc (hS _ (h6 x hx).1)⟩⟩
theorem Rc.other (h : Rc w base D m d F) (hc : Chg S w w') (hS : ∀ b, F b → ¬ S b) : Rc w' base D m d F :=
  { h with
    e := hc.bk h.e (hS _ h.fD), ik := hc.bk h.ik (hS _ h.fI), lv := hc.own h.lv fun a ha => hS _ (h.fL a ha)
    pn := fun a ha => (h.pn a ha).chg hc hS
    sb := hc.bk h.sb (hS _ h.fS)
    sx := fun i hi hk => ⟨hc.rd (h.sx i hi hk).1 fun x hx => hS _ ((h.sx i hi hk).2 x hx).1, fun x hx => ⟨((h.sx i hi hk).2 x hx).1, ((h.sx i hi hk).2 x hx).2.chg hc (hS _ ((h.sx i hi hk).2 x hx).1)⟩⟩
    fb := fun b hb => by have := h.fb b hb; have := hc.size; omega
    bs := Nat.le_trans h.bs hc.size }
theorem Rc.below (h : Rc w base D m d F) (hb : Below w.heap.size w w') : Rc w' base D m d F := h.other (Chg.of_below (S := fun _ => False) hb) fun _ _ e => e
theorem Rc.isc (h : Rc w base D m d F) (hd : d.ok) {x : Nat} (hx : x < d.k) : w.cell? ⟨m.IS, x, none⟩ = some (.bool (knw d.kn (x : Int))) := by
  rw [h.ik.cell]
  unfold bools
  rw [List.getElem?_map, knw_at (by rw [hd.kl]; exact hx)]; rfl
theorem Rc.syc (h : Rc w base D m d F) {x : Nat} (hx : x < d.k) : w.cell? ⟨m.SB, x, none⟩ = some (rsy d m x) := by
  rw [h.sb.cell, List.getElem?_map, List.getElem?_range hx]; rfl
theorem pa_len (a : PA) : a.cells.length = 3 := rfl
/-- A packet's cells. -/
theorem Rc.pc (h : Rc w base D m d F) {p : Nat} (hp : p < d.sets.length) : ∃ g a, m.LV = some ⟨g, 0, none⟩ ∧ a ∈ m.ps ∧ m.ps[p]? = some a ∧ a.rok w d.s F ∧ a.set = d.set p ∧ a.pay = d.pay p ∧ d.ids[p]? = some a.id ∧ w.cell? ⟨g, p * 3, none⟩ = some (.int .i64 a.id) ∧ w.cell? ⟨g, p * 3 + 1, none⟩ = some (.slice a.A a.n a.c) ∧ w.cell? ⟨g, p * 3 + 2, none⟩ = some (.slice a.B a.m a.e) ∧ d.sets.length ≤ m.lc := by
  have hp' : p < m.ps.length := by rw [h.pl]; exact hp
  obtain ⟨g, cur, e, _, hl, _⟩ := own_formN h.lv (by omega)
  have hlv := h.lv
  rw [e] at hlv
  have hin : m.ps[p] ∈ m.ps := List.getElem_mem hp'
  have hc : ∀ r, r < 3 → w.cell? ⟨g, p * 3 + r, none⟩ = m.ps[p].cells[r]? := fun r hr => by
    rw [(own_cellN hlv (by rw [flat_len pa_len]; omega)).1, flat_get pa_len hp' hr]
  refine ⟨g, m.ps[p], e, hin, List.getElem?_eq_getElem hp', h.pn _ hin, ?_, ?_, ?_, hc 0 (by omega), hc 1 (by omega), hc 2 (by omega), (own_rdN h.lv).2⟩
  · unfold DS.set
    rw [← h.pt, List.getD_eq_getElem?_getD, List.getElem?_map, List.getElem?_eq_getElem hp']; rfl
  · unfold DS.pay
    rw [← h.pp, List.getD_eq_getElem?_getD, List.getElem?_map, List.getElem?_eq_getElem hp']; rfl
  · rw [← h.pi, List.getElem?_map, List.getElem?_eq_getElem hp']; rfl
end
theorem rst_tk {C : List Bool} {s : List Int} {j : Nat} (hj : j < s.length) : rst C (s.take (j + 1)) = rst C (s.take j) ++ (if knw C (gi s j) then [] else [gi s j]) := by
  unfold rst
  rw [List.take_succ_eq_append_getElem hj, List.filter_append, gi_get hj]
  congr 1
  cases hk : knw C s[j] <;> simp [hk]
/-- What left tells of the unknown ones. -/
def lf1 (k : Nat) (r : List Int) : Int := match r with | [y] => y | _ => k
theorem lf1_two {k : Nat} {r : List Int} (h : 2 ≤ r.length) : lf1 k r = k := by
  match r with
  | [] => simp at h
  | [y] => simp at h
  | y :: z :: l => rfl
set_option maxRecDepth 100000 in
set_option maxHeartbeats 1600000 in
/-- left -/
theorem rleft_any {w : World} {base D : Nat} {m : RM} {d : DS} {F : Nat → Prop} (h : Rc w base D m d F) (hd : d.ok) {A : Option Addr} {n c : Nat} {l : List Int} (hr : Rd w A n (nums l)) (hin : ∀ x ∈ l, 0 ≤ x ∧ x < d.k) (hn : n ≤ 100000) :
    Calls Try.prog 49 #[.pointer (some ⟨D, 0, none⟩), .slice A n c] w fun e w' => e = .returned (.int .i64 (lf1 d.k (rst d.kn l))) ∧ Below w.heap.size w w' := by
  have hl : l.length = n := by have := hr.1; simpa [nums_length] using this
  obtain ⟨K, hK⟩ : ∃ K, d.k = K := ⟨_, rfl⟩
  have hK9 : (K : Int) ≤ 100 := by have := hd.k1; omega
  have hn9 : (n : Int) ≤ 100000 := by omega
  have H := Lib.hid (And.intro h (And.intro hd (And.intro hr (And.intro hin (And.intro hl hK)))))
  have c0 : w.cell? ⟨D, 0, none⟩ = some (.int .i64 (K : Nat)) := by rw [← hK]; exact h.e.cell 0
  rw [hK]
  clear h hd hr hin hl hK
  go_enter Try.func49, Try.ntmps49
  go_wp2_with fail
  go_loopw [5, 6] (fun o i wr => ∃ j : Nat, j ≤ n ∧ i = .int .i64 j ∧ o = .int .i64 (lf1 K (rst d.kn (l.take j))) ∧ (rst d.kn (l.take j)).length ≤ 1 ∧ Below w.heap.size w wr) (fun o i wr => n - (intOf i).toNat)
  case atStart => exact ⟨0, by omega, rfl, rfl, Nat.zero_le _, Below.refl _ _⟩
  case round =>
    obtain ⟨j, hj, rfl, rfl, hl1, hb⟩ := hrel
    have c0 := cell_below hb c0
    by_cases hlt : j < n
    · have km : (j : Int) < (n : Int) := by omega
      have kd : decide ((j : Int) < (n : Int)) = true := decide_eq_true km
      have kd' : decide (j < n) = true := decide_eq_true hlt
      have j0 : (0 : Int) ≤ (j : Int) := by omega
      have hjl : j < l.length := by rw [H.out.2.2.2.2.1]; exact hlt
      obtain ⟨b, off, rfl, _, hcc⟩ := (H.out.2.2.1.below hb).form (by omega)
      have cx := hcc j _ (nums_gi hjl)
      have hxr := H.out.2.2.2.1 _ (gi_mem hjl)
      rw [H.out.2.2.2.2.2] at hxr
      obtain ⟨x, hx⟩ : ∃ x : Nat, gi l j = x := ⟨(gi l j).toNat, by omega⟩
      have hs := rst_tk (C := d.kn) hjl
      rw [hx] at cx hs
      have hxk : x < K := by omega
      have xk : (x : Int) < (K : Int) := by omega
      have x0 : (0 : Int) ≤ (x : Int) := by omega
      have ci := (H.out.1.below hb).isc H.out.2.1 (x := x) (by rw [H.out.2.2.2.2.2]; exact hxk)
      have c4 : wr.cell? ⟨D, 4, none⟩ = some (.slice (some ⟨m.IS, 0, none⟩) K K) := by rw [← H.out.2.2.2.2.2]; exact (H.out.1.below hb).e.cell 4
      have HX := Lib.hid (And.intro hb (And.intro hlt hl1))
      clear hb hlt hj hx hxr hxk hcc
      cases hk : knw d.kn (x : Int) with
      | true =>
        rw [hk] at ci hs
        rw [if_pos rfl, List.append_nil] at hs
        have HS := Lib.hid hs
        clear hs hk hl1
        go_wp2_with fail
        go_quiet (fail)
        go_wp2_with fail
        exact ⟨⟨j + 1, HX.out.2.1, by go_num, by rw [HS.out], by rw [HS.out]; exact HX.out.2.2, below_dN HX.out.1 _⟩, by have := HX.out.2.1; simp [intOf]; omega⟩
      | false =>
        rw [hk] at ci hs
        rw [if_neg (by simp)] at hs
        have HS := Lib.hid hs
        cases hr0 : rst d.kn (l.take j) with
        | nil =>
          have HR := Lib.hid hr0
          have e1 : decide ((K : Int) < (K : Int)) = false := decide_eq_false (by omega)
          have e2 : decide (K < K) = false := decide_eq_false (by omega)
          rw [show lf1 K [] = (K : Int) from rfl]
          clear hs hk hl1 hr0
          go_wp2_with fail
          go_quiet (fail)
          have c0 : (wr.drewN nq).cell? ⟨D, 0, none⟩ = some (.int .i64 (K : Nat)) := c0
          have cx : (wr.drewN nq).cell? ⟨b, off + j, none⟩ = some (.int .i64 (x : Nat)) := cx
          have HB := Lib.hid (below_dN HX.out.1 nq)
          clear ci c4
          generalize wr.drewN nq = w5 at c0 cx HB ⊢
          go_wp2_with fail
          exact ⟨⟨j + 1, HX.out.2.1, by go_num, by rw [HS.out, HR.out]; rfl, by rw [HS.out, HR.out]; exact Nat.le_refl _, HB.out⟩, by have := HX.out.2.1; simp [intOf]; omega⟩
        | cons y l2 =>
          have hl2 : l2 = [] := by rw [hr0] at hl1; simpa using hl1
          subst hl2
          have hy : y ∈ rst d.kn (l.take j) := by rw [hr0]; exact List.mem_cons_self ..
          have hyr := H.out.2.2.2.1 y (List.mem_of_mem_take (mem_rst.1 hy).1)
          rw [H.out.2.2.2.2.2] at hyr
          rw [show lf1 K [y] = y from rfl]
          have HR := Lib.hid (show lf1 K (rst d.kn l) = (K : Int) from lf1_two (by
            have e : rst d.kn l = rst d.kn (l.take (j + 1)) ++ rst d.kn (l.drop (j + 1)) := by
              unfold rst
              rw [← List.filter_append, List.take_append_drop]
            rw [e, hs, hr0, List.length_append, List.length_append]
            simp only [List.length_cons, List.length_nil]
            omega))
          have e1 : decide (y < (K : Int)) = true := decide_eq_true hyr.2
          clear hs hk hl1 hr0 hy hyr
          go_wp2_with fail
          go_quiet (fail)
          have c0 : (wr.drewN nq).cell? ⟨D, 0, none⟩ = some (.int .i64 (K : Nat)) := c0
          have HB := Lib.hid (below_dN HX.out.1 nq)
          clear ci c4 cx
          generalize wr.drewN nq = w5 at c0 HB ⊢
          go_wp2_with fail
          go_ret
          exact ⟨ret_int HR.out.symm, HB.out⟩
    · have hjn : j = n := by omega
      have kd : decide ((j : Int) < (n : Int)) = false := decide_eq_false (by omega)
      have kd' : decide (j < n) = false := decide_eq_false (by omega)
      rw [hjn, List.take_of_length_le (by rw [H.out.2.2.2.2.1]; exact Nat.le_refl _)]
      have HB := Lib.hid hb
      clear hb hl1 hlt hj
      go_wp2_with fail
      go_ret
      exact ⟨rfl, HB.out⟩
end Go.Proofs.Ytidoembkcaojoaa
