/- Chapter 21: the document's decoder gets a packet, and a symbol: memory. -/
import Derived.Test.YtidoembkcaojoaaRo21
import Derived.Deep.RegionLawGrows
namespace Go.Proofs.Ytidoembkcaojoaa
open Go.RowKit
set_option linter.unusedVariables false
theorem rpk_info : (Try.prog.info? 89).map (fun i => (i.zero, i.size, i.bytes)) = some (some (.agg #[.int .i64 0, .slice none 0 0, .slice none 0 0]), 3, 56) := by kernel_rfl
theorem bel_alloc {w W : World} (h : Below w.heap.size w W) (o : Obj) : Below w.heap.size w (W.alloc o) := h.alloc h.size o
/-- A copy of numbers, as a step of a drawn region. -/
theorem step_cpI {ops : Array Oper} {o : Oper} {a : Act} {w W : World} {K : Act → World → Prop} {Q : Exit → Act → World → Prop} {E : Prop} {g n c : Nat} {A : Option Addr} {l : List Int} (s y : Operand) (hgd : o.guard = none) (ho : o.op = .call { callee := .builtin .append, args := #[s, y], argTypes := #[23, 23] })
    (hs : a.eval s = .slice (some ⟨g, 0, none⟩) 0 0) (hx : a.eval y = .slice A n c) (hW : Below w.heap.size w W) (hr : Rd w A n (nums l)) (hn : 0 < n ∧ n ≤ 1000000) {C : World → Prop} (hC : ∀ w', Below W.heap.size W w' → C w')
    (h : ∀ A1 c1 w1, Hid (Below w.heap.size w w1 ∧ w1.ownsRow w.heap.size 3 1 (.slice A1 n c1) n (nums l) ∧ C w1) → K (a.put o.dst (.slice A1 n c1)) w1) :
    if Region.wanted o (yielded ops a.tmps) = true then Oper.wp Try.prog o a W K Q else E := by
  obtain ⟨i0, hi0, hz0, hz1, hz2⟩ := info_parts u3_info
  obtain ⟨b, off, rfl, _, hc⟩ := (hr.below hW).form hn.1
  have hl : (nums l).length = n := hr.1
  refine step_append_grows hgd s y _ ho 3 i0 _ 1 8 Try.underlying23 hi0 hz0 hz1 hz2 rfl (by omega) (some ⟨g, 0, none⟩) 0 0 [] hs (fun e => by cases e) rfl (fun b e j u hj => by cases hj) ⟨b, off, none⟩ n c (nums l) hx (by rw [Nat.mul_one]; exact hl) (fun j u hj => by rw [Addr.add_lit]; exact hc j u hj) (nums_one l) (by omega) (by simp only [maxLen]; omega) (by omega) ?_
  intro v1 w1 hown hg
  rw [Nat.zero_add, List.nil_append] at hown
  have hb := below_of_grownN hg
  obtain ⟨A1, c1, rfl⟩ := own_sl hown
  exact h A1 c1 w1 (Lib.hid ⟨below_base hW hb hW.size, own_mono hown hW.size, hC w1 hb⟩)
/-- A copy of bytes, as a step of a drawn region. -/
theorem step_cpU {ops : Array Oper} {o : Oper} {a : Act} {w W : World} {K : Act → World → Prop} {Q : Exit → Act → World → Prop} {E : Prop} {g n c : Nat} {A : Option Addr} {l : List UInt8} (s y : Operand) (hgd : o.guard = none) (ho : o.op = .call { callee := .builtin .append, args := #[s, y], argTypes := #[22, 22] })
    (hs : a.eval s = .slice (some ⟨g, 0, none⟩) 0 0) (hx : a.eval y = .slice A n c) (hW : Below w.heap.size w W) (hr : Rd w A n (bys l)) (hn : 0 < n ∧ n ≤ 1000000) {C : World → Prop} (hC : ∀ w', Below W.heap.size W w' → C w')
    (h : ∀ A1 c1 w1, Hid (Below w.heap.size w w1 ∧ w1.ownsRow w.heap.size 5 1 (.slice A1 n c1) n (bys l) ∧ C w1) → K (a.put o.dst (.slice A1 n c1)) w1) :
    if Region.wanted o (yielded ops a.tmps) = true then Oper.wp Try.prog o a W K Q else E := by
  obtain ⟨i0, hi0, hz0, hz1, hz2⟩ := info_parts u8_info
  obtain ⟨b, off, rfl, _, hc⟩ := (hr.below hW).form hn.1
  have hl : (bys l).length = n := hr.1
  refine step_append_grows hgd s y _ ho 5 i0 _ 1 1 Try.underlying22 hi0 hz0 hz1 hz2 rfl (by omega) (some ⟨g, 0, none⟩) 0 0 [] hs (fun e => by cases e) rfl (fun b e j u hj => by cases hj) ⟨b, off, none⟩ n c (bys l) hx (by rw [Nat.mul_one]; exact hl) (fun j u hj => by rw [Addr.add_lit]; exact hc j u hj) (bys_one l) (by omega) (by simp only [maxLen]; omega) (by omega) ?_
  intro v1 w1 hown hg
  rw [Nat.zero_add, List.nil_append] at hown
  have hb := below_of_grownN hg
  obtain ⟨A1, c1, rfl⟩ := own_sl hown
  exact h A1 c1 w1 (Lib.hid ⟨below_base hW hb hW.size, own_mono hown hW.size, hC w1 hb⟩)
theorem pa_one (a : PA) : ∀ u ∈ a.cells, u.oneCell' = true := fun u hu => by
  simp only [PA.cells, List.mem_cons, List.not_mem_nil, or_false] at hu
  rcases hu with rfl | rfl | rfl <;> rfl
/-- The packets' row, longer by one. -/
theorem step_pk {ops : Array Oper} {o : Oper} {a : Act} {w w1 : World} {K : Act → World → Prop} {Q : Exit → Act → World → Prop} {E : Prop} {base D : Nat} {m : RM} {d : DS} {F : Nat → Prop} {N : Nat} {LV : Option Addr} {lc : Nat} {p : PA} (s y : Operand) (hgd : o.guard = none) (ho : o.op = .call { callee := .builtin .append, args := #[s, y], argTypes := #[85, 85] })
    (hs : a.eval s = .slice LV N lc) (hx : a.eval y = .slice (some ⟨w1.heap.size, 0, none⟩) 1 1) (h : Rc w base D m d F) (hN : d.sets.length = N) (hLV : m.LV = LV) (hlc : m.lc = lc) (hN9 : N ≤ 1000) (hb : Below w.heap.size w w1)
    (hK : ∀ A6 c6 w6, Hid (w6.ownsRow base 89 3 (.slice A6 (N + 1) c6) (N + 1) (m.ps.flatMap PA.cells ++ p.cells) ∧ Chg (fun b => ∃ a, m.LV = some a ∧ a.block = b) w1 w6 ∧ ∀ a, A6 = some a → (∃ a', m.LV = some a' ∧ a'.block = a.block) ∨ w1.heap.size ≤ a.block) → w6.cell? ⟨D, 3, none⟩ = some (.slice LV N lc) → w6.frozen? ⟨D, 3, none⟩ = false → K (a.put o.dst (.slice A6 (N + 1) c6)) w6) :
    if Region.wanted o (yielded ops a.tmps) = true then Oper.wp Try.prog o a (w1.alloc (.cells p.cells.toArray 89)) K Q else E := by
  obtain ⟨i0, hi0, hz0, hz1, hz2⟩ := info_parts rpk_info
  have hlv := h.lv
  rw [hN] at hlv
  have h1 := h.below hb
  have hlv1 : (w1.alloc (.cells p.cells.toArray 89)).ownsRow base 89 3 (.slice LV N lc) N (m.ps.flatMap PA.cells) := by
    have := own_below hlv (bel_alloc hb (.cells p.cells.toArray 89))
    rw [hLV, hlc] at this
    exact this
  have hk := Bk.newA w1 89 p.cells.toArray
  have hrd : Rd (w1.alloc (.cells p.cells.toArray 89)) (some ⟨w1.heap.size, 0, none⟩) (1 * 3) p.cells := Rd.of_bk hk (Nat.le_refl _) (by rw [List.drop_zero]; exact List.take_of_length_le (Nat.le_refl _))
  refine step_append_rd hgd s y _ ho base 89 i0 _ 3 56 Try.underlying85 hi0 hz0 hz1 hz2 rfl (by omega) _ N _ hs hlv1 _ 1 1 p.cells hx hrd (pa_one p) (by simp only [maxLen]; omega) (by omega) (by have := h.bs; have := hb.size; rw [World.size_alloc]; omega) ?_
  intro v6 w6 hown6 hg6 hat6
  obtain ⟨A6, c6, rfl⟩ := own_sl hown6
  have hch : Chg (fun b => ∃ a, m.LV = some a ∧ a.block = b) w1 w6 := ((Chg.refl _ w1).alloc _).trans (Chg.of_grown hg6 (S := fun b => ∃ a, m.LV = some a ∧ a.block = b) fun k hk => by
    rw [← hLV] at hk
    obtain ⟨a, ha, e⟩ := ownB hk
    exact ⟨a, ha, e⟩) fun _ _ e => e
  have hD : ¬ ∃ a, m.LV = some a ∧ a.block = D := fun ⟨a, ha, e⟩ => by
    have t1 := (own_ty h.lv (own_b1 ha)).1
    rw [e] at t1
    exact Ty.ne t1 ⟨_, h.e⟩ (by decide) rfl
  have he := hch.bk h1.e hD
  refine hK A6 c6 w6 (Lib.hid ⟨hown6, hch, fun a ha => ?_⟩) ?_ (he.frozen 3)
  · subst ha
    rcases hat6 with e | e
    · rw [← hLV] at e
      obtain ⟨a', ha', e'⟩ := ownB e.symm
      exact .inl ⟨a', ha', e'⟩
    · injection e with e
      rw [World.size_alloc] at e
      exact .inr (by omega)
  · rw [he.cell 3, ← hLV, ← hN, ← hlc]; rfl
section
variable {w w1 w6 : World} {base D : Nat} {m : RM} {d : DS} {F : Nat → Prop}
/-- A packet more. -/
theorem Rc.addP (h : Rc w base D m d F) {id : Int} {A1 A2 A6 : Option Addr} {n c1 s c2 c6 : Nat} {set : List Int} {pay : List UInt8} (hb : Below w.heap.size w w1) (h1 : w1.ownsRow w.heap.size 3 1 (.slice A1 n c1) n (nums set)) (h2 : w1.ownsRow w.heap.size 5 1 (.slice A2 s c2) s (bys pay)) (hs : d.s = s)
    (h6 : w6.ownsRow base 89 3 (.slice A6 (d.sets.length + 1) c6) (d.sets.length + 1) (m.ps.flatMap PA.cells ++ (⟨id, A1, n, c1, set, A2, s, c2, pay⟩ : PA).cells)) (hc : Chg (fun b => ∃ a, m.LV = some a ∧ a.block = b) w1 w6) (hat : ∀ a, A6 = some a → (∃ a', m.LV = some a' ∧ a'.block = a.block) ∨ w1.heap.size ≤ a.block) :
    ∃ m' F', Rc (w6.setCell ⟨D, 3, none⟩ (.slice A6 (d.sets.length + 1) c6)) base D m' (d.addP id set pay) F' ∧ (∀ b, F' b → F b ∨ w.heap.size ≤ b) ∧ Chg F w (w6.setCell ⟨D, 3, none⟩ (.slice A6 (d.sets.length + 1) c6)) := by
  have hz := hb.size
  have hz6 := hc.size
  have tl : ∀ b, (∃ a, m.LV = some a ∧ a.block = b) → F b ∧ Ty w1 b 89 := fun b ⟨a, ha, e⟩ => by
    subst e
    exact ⟨h.fL a ha, (own_ty (h.below hb).lv (own_b1 ha)).1⟩
  have r1 := h.below hb
  have hl : (d.sets ++ [set]).length = d.sets.length + 1 := by simp
  have hDl : ¬ ∃ a, m.LV = some a ∧ a.block = D := fun e => Ty.ne (tl _ e).2 ⟨_, r1.e⟩ (by decide) rfl
  have hIl : ¬ ∃ a, m.LV = some a ∧ a.block = m.IS := fun e => Ty.ne (tl _ e).2 ⟨_, r1.ik⟩ (by decide) rfl
  have hSl : ¬ ∃ a, m.LV = some a ∧ a.block = m.SB := fun e => Ty.ne (tl _ e).2 ⟨_, r1.sb⟩ (by decide) rfl
  have e6 := hc.bk r1.e hDl
  have hc2 : Chg (fun b => b = D) w6 (w6.setCell ⟨D, 3, none⟩ (.slice A6 (d.sets.length + 1) c6)) := (Chg.refl (fun b => b = D) w6).set_ (g := D) (show (fun b => b = D) D from rfl) _ _
  have hDI : m.IS ≠ D := Ty.ne ⟨_, r1.ik⟩ ⟨_, r1.e⟩ (by decide)
  have hDS : m.SB ≠ D := Ty.ne ⟨_, r1.sb⟩ ⟨_, r1.e⟩ (by decide)
  have ty_keep : ∀ {b : Nat} {t : TypeId}, Ty w1 b t → t ≠ 89 → t ≠ 87 → Ty (w6.setCell ⟨D, 3, none⟩ (.slice A6 (d.sets.length + 1) c6)) b t := fun {b t} ht n1 n2 => by
    have t6 := ht.chg hc fun e => Ty.ne (tl _ e).2 ht n1.symm rfl
    exact t6.chg hc2 fun e => by subst e; exact Ty.ne t6 ⟨_, e6⟩ n2 rfl
  have rd_keep : ∀ {A : Option Addr} {n : Nat} {xs : List Value} {t : TypeId}, Rd w1 A n xs → (∀ x, A = some x → Ty w1 x.block t) → t ≠ 89 → t ≠ 87 → Rd (w6.setCell ⟨D, 3, none⟩ (.slice A6 (d.sets.length + 1) c6)) A n xs := fun {A n xs t} hr ht n1 n2 => by
    have r6 := hc.rd hr fun x hx e => Ty.ne (tl _ e).2 (ht x hx) n1.symm rfl
    exact hc2.rd r6 fun x hx e => by
      have t6 := (ht x hx).chg hc fun e => Ty.ne (tl _ e).2 (ht x hx) n1.symm rfl
      rw [e] at t6
      exact Ty.ne t6 ⟨_, e6⟩ n2 rfl
  have old : ∀ a ∈ m.ps, a.rok (w6.setCell ⟨D, 3, none⟩ (.slice A6 (d.sets.length + 1) c6)) d.s (fun b => F b ∨ (w.heap.size ≤ b ∧ b < w6.heap.size)) := fun a ha => by
    obtain ⟨q1, q2, q3, q4, q5, q6⟩ := r1.pn a ha
    exact ⟨q1, q2, rd_keep q3 (fun x hx => (q5 x hx).2) (by decide) (by decide), rd_keep q4 (fun x hx => (q6 x hx).2) (by decide) (by decide), fun x hx => ⟨.inl (q5 x hx).1, ty_keep (q5 x hx).2 (by decide) (by decide)⟩, fun x hx => ⟨.inl (q6 x hx).1, ty_keep (q6 x hx).2 (by decide) (by decide)⟩⟩
  have l1 := own_lt h1
  have l2 := own_lt h2
  refine ⟨{ m with LV := A6, lc := c6, ps := m.ps ++ [⟨id, A1, n, c1, set, A2, s, c2, pay⟩] }, fun b => F b ∨ (w.heap.size ≤ b ∧ b < w6.heap.size), { e := ?_, ik := hc2.bk (hc.bk r1.ik hIl) (fun e => hDI e), lv := ?_, pl := ?_, pi := ?_, pt := ?_, pp := ?_, pn := ?_, sb := ?_, sx := ?_, fD := .inl h.fD, fI := .inl h.fI, fS := .inl h.fS, fL := ?_, fb := ?_, bs := ?_ }, ?_, ?_⟩
  · have := e6.set_ 3 (.slice A6 (d.sets.length + 1) c6)
    have e : (rcells d m).set 3 (.slice A6 (d.sets.length + 1) c6) = rcells (d.addP id set pay) { m with LV := A6, lc := c6, ps := m.ps ++ [⟨id, A1, n, c1, set, A2, s, c2, pay⟩] } := by
      unfold rcells DS.addP
      simp [hl]
    rw [e] at this
    exact this
  · show World.ownsRow _ base _ 3 (.slice A6 (d.sets ++ [set]).length c6) (d.sets ++ [set]).length ((m.ps ++ [_]).flatMap PA.cells)
    rw [hl, List.flatMap_append, List.flatMap_cons, List.flatMap_nil, List.append_nil]
    exact hc2.own h6 fun a ha e => by
      have t6 := (own_ty h6 (own_b1 ha)).1
      rw [e] at t6
      exact Ty.ne t6 ⟨_, e6⟩ (by decide) rfl
  · show (m.ps ++ [_]).length = (d.sets ++ [set]).length
    rw [List.length_append, hl, h.pl]; rfl
  · show (m.ps ++ [_]).map PA.id = d.ids ++ [id]
    rw [List.map_append, h.pi]; rfl
  · show (m.ps ++ [_]).map PA.set = d.sets ++ [set]
    rw [List.map_append, h.pt]; rfl
  · show (m.ps ++ [_]).map PA.pay = d.pays ++ [pay]
    rw [List.map_append, h.pp]; rfl
  · intro a ha
    rcases List.mem_append.1 ha with e | e
    · exact old a e
    · rw [List.mem_singleton.1 e]
      have hn : n = set.length := by have := h1.1; rw [nums_length] at this; omega
      refine ⟨hn, hs.symm, rd_keep (Rd.of_own h1) (fun x hx => (own_ty h1 (own_b1 hx)).1) (by decide) (by decide), rd_keep (Rd.of_own h2) (fun x hx => (own_ty h2 (own_b1 hx)).1) (by decide) (by decide), fun x hx => ⟨.inr ⟨(l1 x hx).1, by have := (l1 x hx).2; omega⟩, ty_keep (own_ty h1 (own_b1 hx)).1 (by decide) (by decide)⟩, fun x hx => ⟨.inr ⟨(l2 x hx).1, by have := (l2 x hx).2; omega⟩, ty_keep (own_ty h2 (own_b1 hx)).1 (by decide) (by decide)⟩⟩
  · exact hc2.bk (hc.bk r1.sb hSl) (fun e => hDS e)
  · intro i hi hk
    obtain ⟨q1, q2⟩ := r1.sx i hi hk
    exact ⟨rd_keep q1 (fun x hx => (q2 x hx).2) (by decide) (by decide), fun x hx => ⟨.inl (q2 x hx).1, ty_keep (q2 x hx).2 (by decide) (by decide)⟩⟩
  · intro a ha
    rcases hat a ha with e | e
    · exact .inl (by have := (tl _ e).1; exact this)
    · exact .inr ⟨by omega, (own_lt h6 a ha).2⟩
  · intro b hb'
    have z2 := hc2.size
    rcases hb' with e | e
    · have := h.fb b e; exact ⟨this.1, by omega⟩
    · have := h.bs; exact ⟨by omega, by omega⟩
  · have := h.bs; have z2 := hc2.size; omega
  · intro b hb'
    exact hb'.imp (fun e => e) And.left
  · refine ((Chg.of_below (S := F) hb).trans (hc.mono fun b _ e => (tl b e).1) fun _ _ e => e).trans (hc2.mono fun b _ e => by rw [e]; exact h.fD) fun _ _ e => e
/-- A symbol is known. -/
theorem Rc.took (h : Rc w base D m d F) (hd : d.ok) {x : Nat} (hx : x < d.k) (hkx : knw d.kn (x : Int) = false) {A : Option Addr} {s c : Nat} {v : List UInt8} (hb : Below w.heap.size w w1) (ho : w1.ownsRow w.heap.size 5 1 (.slice A s c) s (bys v)) (hs : d.s = s) :
    ∃ m' F', Rc ((w1.setCell ⟨m.SB, x, none⟩ (.slice A s c)).setCell ⟨m.IS, x, none⟩ (.bool true)) base D m' (d.put x v) F' ∧ m'.LV = m.LV ∧ m'.lc = m.lc ∧ m'.IS = m.IS ∧ m'.SB = m.SB ∧ (∀ b, F' b → F b ∨ w.heap.size ≤ b) ∧ Chg F w ((w1.setCell ⟨m.SB, x, none⟩ (.slice A s c)).setCell ⟨m.IS, x, none⟩ (.bool true)) := by
  have hz := hb.size
  have r1 := h.below hb
  have l1 := own_lt ho
  have hc : Chg (fun b => b = m.SB ∨ b = m.IS) w1 ((w1.setCell ⟨m.SB, x, none⟩ (.slice A s c)).setCell ⟨m.IS, x, none⟩ (.bool true)) := ((Chg.refl (fun b => b = m.SB ∨ b = m.IS) w1).set_ (g := m.SB) (.inl rfl) _ _).set_ (g := m.IS) (.inr rfl) _ _
  have hIS : m.IS ≠ m.SB := Ty.ne ⟨_, r1.ik⟩ ⟨_, r1.sb⟩ (by decide)
  have tk : ∀ {b : Nat} {t : TypeId}, Ty w1 b t → t ≠ 22 → t ≠ 4 → ¬ (b = m.SB ∨ b = m.IS) := fun {b t} ht n1 n2 e => by
    rcases e with e | e
    · subst e; exact Ty.ne ht ⟨_, r1.sb⟩ n1 rfl
    · subst e; exact Ty.ne ht ⟨_, r1.ik⟩ n2 rfl
  have hD := tk ⟨_, r1.e⟩ (by decide) (by decide)
  have hkk : ∀ i : Nat, knw (d.kn.set x true) (i : Int) = (knw d.kn (i : Int) || decide ((i : Int) = (x : Int))) := fun i => knw_set (by rw [hd.kl]; exact hx) (by omega)
  have hF : ∀ b, F b → b < w.heap.size := fun b e => (h.fb b e).2
  have hz2 := hc.size
  refine ⟨{ m with sy := fun i => if i = x then (A, c) else m.sy i }, fun b => F b ∨ (w.heap.size ≤ b ∧ b < w1.heap.size), { e := ?_, ik := ?_, lv := ?_, pl := h.pl, pi := h.pi, pt := h.pt, pp := h.pp, pn := ?_, sb := ?_, sx := ?_, fD := .inl h.fD, fI := .inl h.fI, fS := .inl h.fS, fL := fun a ha => .inl (h.fL a ha), fb := ?_, bs := ?_ }, rfl, rfl, rfl, rfl, ?_, ?_⟩
  · exact hc.bk r1.e hD
  · have := (r1.ik.far (p := ⟨m.SB, x, none⟩) hIS (.slice A s c)).set_ x (.bool true)
    have e : (bools d.kn).set x (.bool true) = bools (d.kn.set x true) := by unfold bools; rw [List.map_set]
    rw [e] at this
    exact this
  · exact hc.own r1.lv fun a ha => tk (own_ty r1.lv (own_b1 ha)).1 (by decide) (by decide)
  · intro a ha
    obtain ⟨q1, q2, q3, q4, q5, q6⟩ := r1.pn a ha
    exact ⟨q1, q2, hc.rd q3 fun y hy => tk (q5 y hy).2 (by decide) (by decide), hc.rd q4 fun y hy => tk (q6 y hy).2 (by decide) (by decide), fun y hy => ⟨.inl (q5 y hy).1, (q5 y hy).2.chg hc (tk (q5 y hy).2 (by decide) (by decide))⟩, fun y hy => ⟨.inl (q6 y hy).1, (q6 y hy).2.chg hc (tk (q6 y hy).2 (by decide) (by decide))⟩⟩
  · have := (r1.sb.set_ x (.slice A s c)).far (p := ⟨m.IS, x, none⟩) hIS.symm (.bool true)
    have e : ((List.range d.k).map (rsy d m)).set x (.slice A s c) = (List.range (d.put x v).k).map (rsy (d.put x v) { m with sy := fun i => if i = x then (A, c) else m.sy i }) := by
      show ((List.range d.k).map (rsy d m)).set x (.slice A s c) = (List.range d.k).map _
      apply List.ext_getElem (by simp)
      intro i hi hj
      rw [List.getElem_set]
      simp only [List.getElem_map, List.getElem_range]
      have hk := hkk i
      unfold rsy
      show _ = if knw (d.kn.set x true) (i : Int) then Value.slice (if i = x then (A, c) else m.sy i).1 d.s (if i = x then (A, c) else m.sy i).2 else _
      by_cases e : x = i
      · subst e
        rw [if_pos rfl, hk, decide_eq_true rfl, Bool.or_true, if_pos rfl, if_pos rfl, hs]
      · rw [if_neg e, hk, decide_eq_false (by omega), Bool.or_false, if_neg (Ne.symm e)]
    rw [e] at this
    exact this
  · intro i hi hk
    have hk' : knw (d.kn.set x true) (i : Int) = true := hk
    rw [hkk i] at hk'
    have hi' : i < d.k := hi
    show Rd _ (if i = x then (A, c) else m.sy i).1 d.s (bys ((d.vals.set x v).getD i [])) ∧ ∀ y, (if i = x then (A, c) else m.sy i).1 = some y → _
    by_cases e : i = x
    · subst e
      rw [if_pos rfl, show (d.vals.set i v).getD i [] = v from by rw [List.getD_eq_getElem?_getD, List.getElem?_set]; simp [hd.vl, hx], hs]
      exact ⟨hc.rd (Rd.of_own ho) fun y hy => tk (own_ty ho (own_b1 hy)).1 (by decide) (by decide), fun y hy => ⟨.inr (l1 y hy), (own_ty ho (own_b1 hy)).1.chg hc (tk (own_ty ho (own_b1 hy)).1 (by decide) (by decide))⟩⟩
    · rw [if_neg e, show (d.vals.set x v).getD i [] = d.vals.getD i [] from by rw [List.getD_eq_getElem?_getD, List.getD_eq_getElem?_getD, List.getElem?_set, if_neg (Ne.symm e)]]
      rw [decide_eq_false (by omega), Bool.or_false] at hk'
      obtain ⟨q1, q2⟩ := r1.sx i hi' hk'
      exact ⟨hc.rd q1 fun y hy => tk (q2 y hy).2 (by decide) (by decide), fun y hy => ⟨.inl (q2 y hy).1, (q2 y hy).2.chg hc (tk (q2 y hy).2 (by decide) (by decide))⟩⟩
  · intro b hb'
    rcases hb' with e | e
    · have := h.fb b e; exact ⟨this.1, by omega⟩
    · have := h.bs; exact ⟨by omega, by omega⟩
  · have := h.bs; omega
  · intro b hb'
    exact hb'.imp (fun e => e) And.left
  · exact (Chg.of_below (S := F) hb).trans (hc.mono fun b _ e => by rcases e with e | e <;> rw [e]; exact h.fS; exact h.fI) fun _ _ e => e
end
end Go.Proofs.Ytidoembkcaojoaa
