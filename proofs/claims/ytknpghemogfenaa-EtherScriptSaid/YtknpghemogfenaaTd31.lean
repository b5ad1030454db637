/- Chapter 31: what EtherScript hands in and writes over; its walk. -/
import Derived.Test.YtknpghemogfenaaTa31
namespace Go.Proofs.Ytknpghemogfenaa
open Go.Conc Go.RowKit
set_option linter.unusedVariables false
theorem wpList_strays {ops : Array Oper} {rest : List Oper} {o : Oper} {a : Act} {wr wa : World} {Q : Exit → Act → World → Prop} {base n c : Nat} {A : Option Addr} {l : List SY} (hgd : o.guard = none) (s z : Operand) (ho : o.op = .call { callee := .builtin .append, args := #[s, z], argTypes := #[41, 41] })
    (hs : a.eval s = .slice (some ⟨wr.heap.size, 0, none⟩) 0 0) (hx : a.eval z = .slice A n c) (hal : Below wr.heap.size wr wa) (hbk : Bk wa wr.heap.size 45 []) (hr : Rd wr A (n * 3) (ycs l)) (hn : n ≤ 1000000) (hbs : base ≤ wr.heap.size)
    (h : ∀ A1 c1 w1, Hid (w1.ownsRow base 45 3 (.slice A1 n c1) n (ycs l) ∧ Below wr.heap.size wr w1) → wpList Try.prog ops Q rest (a.put o.dst (.slice A1 n c1)) w1) :
    wpList Try.prog ops Q (o :: rest) a wa := by
  obtain ⟨i0, hi0, hz0, hz1, hz2⟩ := info_parts stray_info2
  have hown0 : wa.ownsRow wr.heap.size 45 3 (.slice (some ⟨wr.heap.size, 0, none⟩) 0 0) 0 [] := own_mkN hbk (Nat.le_refl _) (Nat.le_refl _) (by decide) rfl rfl
  refine wpList_append_rd wa hgd s z _ ho wr.heap.size 45 i0 _ 3 40 Try.underlying41 hi0 hz0 hz1 hz2 rfl (by omega) _ 0 [] hs hown0 A n c (ycs l) hx (hr.below hal) (ycs_one l) (by simp only [maxLen]; omega) (by omega) hal.size ?_
  intro v1 w1 hown1 hg1 hat1
  have hbA : Below wr.heap.size wr w1 := hal.grown hg1 hal.size (fun q hq => (hown0.lt q hq).1)
  rw [Nat.zero_add, List.nil_append] at hown1
  obtain ⟨A1, c1, rfl⟩ := own_sl hown1
  exact h A1 c1 w1 (Lib.hid ⟨own_mono hown1 hbs, hbA⟩)
/-- Bytes that may be written over. -/
def PY (w : World) (A : Option Addr) (n : Nat) : Prop := n = 0 ∨ ∃ g cs, A = some ⟨g, 0, none⟩ ∧ Bk w g 5 cs ∧ n ≤ cs.length ∧ ∀ i, i < n → ∃ u : UInt8, cs[i]? = some (.int .u8 (u.toNat : Int))
theorem bytes_of {cs : List Value} : ∀ {n : Nat}, n ≤ cs.length → (∀ i, i < n → ∃ u : UInt8, cs[i]? = some (.int .u8 (u.toNat : Int))) → ∃ l, cs.take n = bys l
  | 0, _, _ => ⟨[], rfl⟩
  | n + 1, hn, h => by
    obtain ⟨l, hl⟩ := bytes_of (n := n) (by omega) fun i hi => h i (by omega)
    obtain ⟨u, hu⟩ := h n (by omega)
    refine ⟨l ++ [u], ?_⟩
    have hlt : n < cs.length := by omega
    rw [List.getElem?_eq_getElem hlt] at hu
    injection hu with hu
    rw [List.take_succ_eq_append_getElem hlt, hl, hu, bys_append]; rfl
theorem PY.chg {S : Nat → Prop} {w w' : World} {A : Option Addr} {n : Nat} (h : PY w A n) (hc : Chg S w w') (hS : ∀ a, A = some a → ¬ S a.block) : PY w' A n := by
  rcases h with h | ⟨g, cs, rfl, h1, h2⟩
  · exact .inl h
  · exact .inr ⟨g, cs, rfl, hc.bk h1 (hS _ rfl), h2⟩
theorem PY.mut {w : World} {A : Option Addr} {n : Nat} (h : PY w A n) : ∃ g l, Mut w A n g 0 (bys l) ∧ ((∃ a, A = some a ∧ a.block = g ∧ Ty w g 5) ∨ g = w.heap.size) := by
  rcases h with rfl | ⟨g, cs, rfl, h1, h2, h3⟩
  · exact ⟨w.heap.size, [], ⟨rfl, fun h => absurd h (by omega)⟩, .inr rfl⟩
  · obtain ⟨l, hl⟩ := bytes_of h2 h3
    refine ⟨g, l, ⟨by rw [← hl, List.length_take]; omega, fun hn => ⟨rfl, _, cs, h1, by omega, by rw [List.drop_zero]; exact hl⟩⟩, .inl ⟨_, rfl, rfl, _, h1⟩⟩
/-- Writing bytes over bytes leaves bytes. -/
theorem PY.upd {w w' : World} {A : Option Addr} {n g : Nat} {new : List UInt8} (h : PY w A n) (hu : Upd w w' g 0 (bys new)) (hf : ∀ t cs, Bk w g t cs → new.length ≤ cs.length) : PY w' A n := by
  rcases h with h | ⟨g', cs, rfl, h1, h2, h3⟩
  · exact .inl h
  · by_cases e : g' = g
    · subst e
      have hle : 0 + (bys new).length ≤ cs.length := by rw [bys_length]; have := hf _ _ h1; omega
      refine .inr ⟨g', _, rfl, hu.2 _ _ h1 hle, by rw [spl_length hle]; exact h2, fun i hi => ?_⟩
      rw [spl_getElem? hle]
      split
      · rename_i hc
        rw [bys_length] at hc
        exact ⟨_, bys_get new (i - 0) (by omega)⟩
      · exact h3 i hi
    · exact .inr ⟨g', cs, rfl, (upd_chg hu).bk h1 e, h2, h3⟩
theorem PY.of_own {w : World} {base n c : Nat} {A : Option Addr} {x : List UInt8} (h : w.ownsRow base 5 1 (.slice A n c) n (bys x)) : PY w A n := by
  rcases Nat.eq_zero_or_pos n with h0 | h0
  · exact .inl h0
  · obtain ⟨g, cur, hA, _, _, hbk, hnc, _, hcl, ht⟩ := own_formN h h0
    rw [Nat.mul_one] at ht hcl
    have hx : x.length = n := by have := congrArg List.length ht; rw [List.length_take, bys_length] at this; omega
    refine .inr ⟨g, cur, hA, hbk, by omega, fun i hi => ?_⟩
    have := bys_get x i (by omega)
    rw [← ht, List.getElem?_take_of_lt hi] at this
    exact ⟨_, this⟩
theorem ycs_set0 : ∀ {l : List SY} {j : Nat} (h : j < l.length) (z : Int), ycs (l.set j { l[j] with at_ := z }) = (ycs l).set (j * 3) (.int .i64 z)
  | [], j, h, _ => absurd h (by simp)
  | y :: l, 0, h, z => rfl
  | y :: l, j + 1, h, z => by
    have ih := ycs_set0 (l := l) (j := j) (by simpa using h) z
    show y.cells ++ ycs (l.set j _) = (y.cells ++ ycs l).set ((j + 1) * 3) _
    rw [List.set_append_right _ _ (by show y.cells.length ≤ _; rw [show y.cells.length = 3 from rfl]; omega)]
    congr 1
    rw [show (j + 1) * 3 - y.cells.length = j * 3 from by rw [show y.cells.length = 3 from rfl]; omega]
    exact ih
/-- Strays that are being copied: j of them have been. -/
structure YB (w wx : World) (A1 : Option Addr) (d1 : Nat) (fl : List FT) (B1 : Option Addr) (d2 : Nat) (sl cur : List SY) (j : Nat) : Prop where
  f : wx.ownsRow w.heap.size 53 4 (.slice A1 fl.length d1) fl.length (fcs fl)
  s : wx.ownsRow w.heap.size 45 3 (.slice B1 sl.length d2) sl.length (ycs cur)
  t : cur.map SY.t = sl.map SY.t
  n : cur.map SY.n = sl.map SY.n
  b : Below w.heap.size w wx
  x : ∀ y ∈ cur, Rd wx y.A y.n (bys y.x) ∧ (0 < y.n → ∀ a b, y.A = some a → B1 = some b → a.block ≠ b.block)
  lo : ∀ i (h : i < cur.length), i < j → PY wx cur[i].A cur[i].n ∧ ∀ a, cur[i].A = some a → w.heap.size ≤ a.block ∧ a.block < wx.heap.size
section
variable {w wx wy : World} {A1 B1 : Option Addr} {d1 d2 j : Nat} {fl : List FT} {sl cur : List SY}
theorem YB.len (h : YB w wx A1 d1 fl B1 d2 sl cur j) : cur.length = sl.length := by have := congrArg List.length h.t; simpa using this
theorem YB.step (h : YB w wx A1 d1 fl B1 d2 sl cur j) (hj : j < cur.length) {g : Nat} (hB : B1 = some ⟨g, 0, none⟩) (hb : Below wx.heap.size wx wy) {A' : Option Addr} {c' : Nat} (ho : wy.ownsRow wx.heap.size 5 1 (.slice A' cur[j].n c') cur[j].n (bys cur[j].x)) :
    YB w (wy.setCell ⟨g, j * 3 + 2, none⟩ (.slice A' cur[j].n c')) A1 d1 fl B1 d2 sl (cur.set j (cur[j].own A' c')) (j + 1) := by
  have hbx := hb
  have hs0 := own_below h.s hb
  rw [hB] at hs0
  have htg : Ty wy g 45 ∧ w.heap.size ≤ g := own_ty hs0 rfl
  have hc : Chg (fun k => k = g) wy (wy.setCell ⟨g, j * 3 + 2, none⟩ (.slice A' cur[j].n c')) := (Chg.refl (fun k => k = g) wy).set_ rfl _ _
  have hz := hc.size
  have hzb := hb.size
  have hne : ∀ {k : Nat} {t : TypeId}, Ty wy k t → t ≠ 45 → ¬ k = g := fun ht hn e => ht.ne htg.1 hn e
  have hm : ∀ {α : Type} (f : SY → α), f (cur[j].own A' c') = f cur[j] → (cur.set j (cur[j].own A' c')).map f = cur.map f := fun f hf => by
    rw [List.map_set, hf]
    apply List.ext_getElem?
    intro i
    rw [List.getElem?_set]
    split
    · rename_i e
      subst e
      rw [List.length_map, if_pos hj, List.getElem?_map, List.getElem?_eq_getElem hj]; rfl
    · rfl
  have hbw : Below w.heap.size w wy := below_base h.b hb h.b.size
  have hrow : ∀ a, A' = some a → wx.heap.size ≤ a.block ∧ a.block < wy.heap.size := own_lt ho
  refine ⟨hc.own (own_below h.f hb) fun a ha => hne (own_ty (own_below h.f hb) (own_b1 ha)).1 (by decide), ?_, (hm SY.t rfl).trans h.t, (hm SY.n rfl).trans h.n, hbw.setCell htg.2 _, fun y hy => ?_, fun i hi hij => ?_⟩
  · rw [hB, ycs_set hj A' c']
    refine own_setN hs0 ?_ _
    have := hs0.1
    have := h.len
    omega
  · rcases List.mem_or_eq_of_mem_set hy with hy | hy
    · obtain ⟨x1, x2⟩ := h.x y hy
      exact ⟨hc.rd0 (x1.below hb) fun a ha h0 => x2 h0 a _ ha hB, x2⟩
    · subst hy
      refine ⟨hc.rd (Rd.of_own ho) fun a ha => hne (own_ty ho (own_b1 ha)).1 (by decide), fun h0 a b ha hb' => ?_⟩
      rw [hB] at hb'
      injection hb' with hb'
      have e1 := (hrow a ha).1
      obtain ⟨⟨cs, hbk⟩, _⟩ := own_ty (by have := h.s; rw [hB] at this; exact this) (g := g) rfl
      have := hbk.lt
      rw [← hb']
      show a.block ≠ g
      omega
  · by_cases e : i = j
    · subst e
      have hg : (cur.set i (cur[i].own A' c'))[i] = cur[i].own A' c' := by rw [List.getElem_set_self]
      rw [hg]
      refine ⟨(PY.of_own ho).chg hc fun a ha => hne (own_ty ho (own_b1 ha)).1 (by decide), fun a ha => ?_⟩
      have := hrow a ha
      have := h.b.size
      omega
    · have hi' : i < cur.length := by simpa using hi
      have hg : (cur.set j (cur[j].own A' c'))[i] = cur[i] := by rw [List.getElem_set_ne (fun h => e h.symm)]
      rw [hg]
      obtain ⟨p1, p2⟩ := h.lo i hi' (by omega)
      refine ⟨?_, fun a ha => by have := p2 a ha; omega⟩
      rcases p1 with p1 | ⟨g', cs, hA, hbk, p3⟩
      · exact .inl p1
      · exact (PY.chg (w := wx) (.inr ⟨g', cs, hA, hbk, p3⟩) (Chg.of_below (S := fun _ => False) hb) fun _ _ e => e).chg hc fun a ha e => by
          rw [hA] at ha
          injection ha with ha
          subst ha
          exact hne ⟨cs, hbk.belowS hb⟩ (by decide) e
end
theorem okS_map {cur sl : List SY} (ht : cur.map SY.t = sl.map SY.t) (hn : cur.map SY.n = sl.map SY.n) : cur.all okS = sl.all okS := by
  have e : ∀ l : List SY, l.all okS = (List.zipWith (fun (t : Int × Int × List UInt8) (n : Nat) => decide (1 ≤ t.1) && isEnd t.2.1 && decide (n ≤ 70000)) (l.map SY.t) (l.map SY.n)).all id := fun l => by
    induction l with
    | nil => rfl
    | cons y l ih => simp only [List.all_cons, List.map_cons, List.zipWith_cons_cons]; rw [ih]; rfl
  rw [e cur, e sl, ht, hn]
theorem newE_map {fl : List FT} {cur sl : List SY} (ht : cur.map SY.t = sl.map SY.t) (hn : cur.map SY.n = sl.map SY.n) : newE fl cur = newE fl sl := by
  unfold newE; rw [okS_map ht hn]
theorem ESnew_map {fl : List FT} {cur sl : List SY} (ht : cur.map SY.t = sl.map SY.t) : ES.new fl cur = ES.new fl sl := by unfold ES.new; rw [ht]
theorem n_of_map {cur sl : List SY} {K : Nat} (hn : cur.map SY.n = sl.map SY.n) (h : ∀ a ∈ sl, a.n ≤ K) : ∀ y ∈ cur, y.n ≤ K := fun y hy => by
  have : y.n ∈ sl.map SY.n := by rw [← hn]; exact List.mem_map.2 ⟨y, hy, rfl⟩
  obtain ⟨a, ha, e⟩ := List.mem_map.1 this
  rw [← e]; exact h a ha
/-- Both ethers, and what was handed in, which may be written over. -/
structure OV (w w3 wx : World) (X E : Nat) (s : ES) (A1 : Option Addr) (d1 nf : Nat) (B1 : Option Addr) (d2 ns : Nat) : Prop where
  sc : ∃ Fx Fr, SC w wx X E s s 0 Fx Fr ∧ ∀ k, Fx k ∨ Fr k → w3.heap.size ≤ k
  f : ∃ xs, wx.ownsRow w.heap.size 53 4 (.slice A1 nf d1) nf xs
  s : ∃ cur : List SY, wx.ownsRow w.heap.size 45 3 (.slice B1 ns d2) ns (ycs cur) ∧ cur.length = ns ∧ ∀ y ∈ cur, PY wx y.A y.n ∧ (∀ a, y.A = some a → w.heap.size ≤ a.block ∧ a.block < w3.heap.size) ∧ y.n ≤ 140737488351232
  ab : ∀ a, A1 = some a ∨ B1 = some a → w.heap.size ≤ a.block ∧ a.block < w3.heap.size
  h3 : w3.heap.size ≤ wx.heap.size
section
variable {w w3 wx wy : World} {X E d1 nf d2 ns : Nat} {s : ES} {A1 B1 : Option Addr}
theorem SC.mid {X E N : Nat} {s : ES} {Fx Fr S : Nat → Prop} {B : Nat} (h : SC w wx X E s s N Fx Fr) (hF : ∀ k, Fx k ∨ Fr k → B ≤ k) (hc : Chg S wx wy) (hS : ∀ k, k < wx.heap.size → S k → w.heap.size ≤ k ∧ k < B) : SC w wy X E s s N Fx Fr :=
  h.other hc fun k hk hs => ⟨fun hf => by have := hF k (.inl hf); have := hS k hk hs; omega, fun hf => by have := hF k (.inr hf); have := hS k hk hs; omega, (hS k hk hs).1⟩
theorem OV.sl (h : OV w w3 wx X E s A1 d1 nf B1 d2 ns) : SL w wx X E s 0 := by obtain ⟨Fx, Fr, h1, _⟩ := h.sc; exact ⟨Fx, Fr, h1⟩
/-- A fate is written over. -/
theorem OV.fate (h : OV w w3 wx X E s A1 d1 nf B1 d2 ns) {j : Nat} (hj : j < nf) : ∃ (g : Nat) (v0 v1 v2 v3 : Value), A1 = some ⟨g, 0, none⟩ ∧ nf ≤ d1 ∧ wx.cell? ⟨g, j * 4, none⟩ = some v0 ∧ wx.cell? ⟨g, j * 4 + 1, none⟩ = some v1 ∧ wx.cell? ⟨g, j * 4 + 2, none⟩ = some v2 ∧ wx.cell? ⟨g, j * 4 + 3, none⟩ = some v3 ∧ (∀ i, wx.frozen? ⟨g, i, none⟩ = false) ∧
    ∀ u0 u1 u2 u3, OV w w3 ((((wx.setCell ⟨g, j * 4, none⟩ u0).setCell ⟨g, j * 4 + 1, none⟩ u1).setCell ⟨g, j * 4 + 2, none⟩ u2).setCell ⟨g, j * 4 + 3, none⟩ u3) X E s A1 d1 nf B1 d2 ns := by
  obtain ⟨xs, hf⟩ := h.f
  obtain ⟨g, cur, hA, hgb, hgl, hbk, hnc, hcm, hcl, ht⟩ := own_formN hf (by omega)
  have hxl := hf.1
  have hab := h.ab ⟨g, 0, none⟩ (.inl hA)
  rw [hA] at hf
  have hg : ∀ k, k < 4 → ∃ v, wx.cell? ⟨g, j * 4 + k, none⟩ = some v := fun k hk => by
    have hl : j * 4 + k < xs.length := by omega
    exact ⟨xs[j * 4 + k], by rw [(own_cellN hf hl).1, List.getElem?_eq_getElem hl]⟩
  obtain ⟨v0, e0⟩ := hg 0 (by decide)
  obtain ⟨v1, e1⟩ := hg 1 (by decide)
  obtain ⟨v2, e2⟩ := hg 2 (by decide)
  obtain ⟨v3, e3⟩ := hg 3 (by decide)
  refine ⟨g, v0, v1, v2, v3, hA, hnc, e0, e1, e2, e3, fun i => hbk.frozen i, fun u0 u1 u2 u3 => ?_⟩
  have hc : Chg (fun k => k = g) wx ((((wx.setCell ⟨g, j * 4, none⟩ u0).setCell ⟨g, j * 4 + 1, none⟩ u1).setCell ⟨g, j * 4 + 2, none⟩ u2).setCell ⟨g, j * 4 + 3, none⟩ u3) :=
    ((((Chg.refl (fun k => k = g) wx).set_ rfl _ _).set_ rfl _ _).set_ rfl _ _).set_ rfl _ _
  have hfn := own_setN (own_setN (own_setN (own_setN hf (i := j * 4) (by omega) u0) (i := j * 4 + 1) (by rw [List.length_set]; omega) u1) (i := j * 4 + 2) (by rw [List.length_set, List.length_set]; omega) u2) (i := j * 4 + 3) (by rw [List.length_set, List.length_set, List.length_set]; omega) u3
  have hty : Ty wx g 53 := ⟨cur, hbk⟩
  obtain ⟨Fx, Fr, s1, s2⟩ := h.sc
  obtain ⟨cr, r1, r2, r3⟩ := h.s
  refine ⟨⟨Fx, Fr, s1.mid s2 hc fun k _ e => by subst e; exact hab, s2⟩, ⟨_, by rw [hA]; exact hfn⟩, ⟨cr, hc.own r1 fun a ha e => ?_, r2, fun y hy => ⟨?_, (r3 y hy).2⟩⟩, h.ab, Nat.le_trans h.h3 hc.size⟩
  · exact (own_ty r1 (own_b1 ha)).1.ne hty (by decide) e
  · rcases (r3 y hy).1 with p | ⟨g', cs, hA', hbk', p⟩
    · exact .inl p
    · exact PY.chg (w := wx) (.inr ⟨g', cs, hA', hbk', p⟩) hc fun a ha e => by
        rw [hA'] at ha; injection ha with ha; subst ha
        exact Ty.ne (t := 5) ⟨cs, hbk'⟩ hty (by decide) e
/-- A stray is written over. -/
theorem OV.stray (h : OV w w3 wx X E s A1 d1 nf B1 d2 ns) {j : Nat} (hj : j < ns) : ∃ (g : Nat) (v0 : Value) (A : Option Addr) (n c gm : Nat) (l : List UInt8), B1 = some ⟨g, 0, none⟩ ∧ ns ≤ d2 ∧ wx.cell? ⟨g, j * 3, none⟩ = some v0 ∧ wx.cell? ⟨g, j * 3 + 2, none⟩ = some (.slice A n c) ∧ Mut wx A n gm 0 (bys l) ∧ n ≤ 140737488351232 ∧
    ∀ wy, Upd wx wy gm 0 (bys (over l)) → (wy.cell? ⟨g, j * 3, none⟩ = some v0 ∧ wy.frozen? ⟨g, j * 3, none⟩ = false ∧ OV w w3 (wy.setCell ⟨g, j * 3, none⟩ (.int .i64 1)) X E s A1 d1 nf B1 d2 ns) := by
  obtain ⟨Fx, Fr, s1, s2⟩ := h.sc
  obtain ⟨cr, r1, r2, r3⟩ := h.s
  obtain ⟨g, cur, hA, hgb, hgl, hbk, hnc, hcm, hcl, ht⟩ := own_formN r1 (by omega)
  have hjc : j < cr.length := by omega
  have hab := h.ab ⟨g, 0, none⟩ (.inr hA)
  have hxl := r1.1
  have hty : Ty wx g 45 := ⟨cur, hbk⟩
  obtain ⟨⟨ya, yd, yA, yn, yc, yx⟩, hy⟩ : ∃ y, cr[j] = y := ⟨_, rfl⟩
  have hyp := r3 _ (List.getElem_mem hjc)
  rw [hy] at hyp
  obtain ⟨gm, l, hmu, hgm⟩ := hyp.1.mut
  have r1' := r1
  rw [hA] at r1'
  have hcells : ∀ k, k < 3 → ∀ u, (cr[j]).cells[k]? = some u → wx.cell? ⟨g, j * 3 + k, none⟩ = some u := fun k hk u hu => by
    have hrd := (own_rdN r1').1
    obtain ⟨b, off, e, _, hc⟩ := (show Rd wx (some ⟨g, 0, none⟩) (ns * 3) (ycs cr) from hrd).form (by omega)
    injection e with e
    injection e with e1 e2
    subst e1 e2
    have hq := rd_cell (f := SY.cells) (k := 3) (fun _ => rfl) (w := wx) (A := some ⟨g, 0, none⟩) (l := cr) (by rw [r2]; exact hrd) hjc (by decide)
    obtain ⟨gg, oo, e, hcc⟩ := hq
    injection e with e
    injection e with e1 e2
    subst e1 e2
    have := hcc k u hu
    rw [Nat.zero_add] at this
    exact this
  rw [hy] at hcells
  refine ⟨g, _, yA, yn, yc, gm, l, hA, hnc, hcells 0 (by decide) _ rfl, hcells 2 (by decide) _ rfl, hmu, hyp.2.2, fun wy hu => ?_⟩
  have hgmS : ∀ k, k < wx.heap.size → k = gm → w.heap.size ≤ k ∧ k < w3.heap.size := fun k hk e => by
    subst e
    rcases hgm with ⟨a, ha, e, _⟩ | e
    · rw [← e]; exact hyp.2.1 a ha
    · omega
  have hcu := upd_chg hu
  have hgne : ∀ {t : TypeId} {k : Nat}, Ty wx k t → t ≠ 5 → ¬ k = gm := fun {t k} htk hne e => by
    rcases hgm with ⟨a, ha, _, e'⟩ | e'
    · exact htk.ne e' hne e
    · obtain ⟨cs, hb⟩ := htk; have := hb.lt; omega
  have hgg := hgne hty (by decide)
  have hbk' := hcu.bk hbk hgg
  have hty' : Ty wy g 45 := ⟨cur, hbk'⟩
  have c0 : wy.cell? ⟨g, j * 3, none⟩ = some (.int .i64 ya) := hcu.cell' (hcells 0 (by decide) _ rfl) hgg
  have hc : Chg (fun k => k = g) wy (wy.setCell ⟨g, j * 3, none⟩ (.int .i64 1)) := (Chg.refl (fun k => k = g) wy).set_ rfl _ _
  refine ⟨c0, hbk'.frozen _, ⟨⟨Fx, Fr, (s1.mid s2 hcu hgmS).mid s2 hc fun k _ e => by subst e; exact hab, s2⟩, ?_, ⟨cr.set j { cr[j] with at_ := 1 }, ?_, by rw [List.length_set]; exact r2, fun y hy' => ?_⟩, h.ab, Nat.le_trans h.h3 (Nat.le_trans hcu.size hc.size)⟩⟩
  · obtain ⟨xs, hf⟩ := h.f
    have hf' := hcu.own hf fun a ha => hgne (own_ty hf (own_b1 ha)).1 (by decide)
    exact ⟨xs, hc.own hf' fun a ha e => (own_ty hf' (own_b1 ha)).1.ne hty' (by decide) e⟩
  · rw [hA, ycs_set0 hjc]
    refine own_setN (hcu.own r1' fun a ha => ?_) (by omega) _
    injection ha with ha; rw [← ha]; exact hgg
  · have hle : ∀ t cs, Bk wx gm t cs → (over l).length ≤ cs.length := fun t cs hb => by
      rw [over_length]
      have hl : l.length = yn := by have := hmu.1; simpa [bys_length] using this
      rcases Nat.eq_zero_or_pos yn with h0 | h0
      · omega
      · obtain ⟨_, t', cs', hb', hfit, _⟩ := hmu.2 h0
        unfold Bk at hb hb'
        rw [hb] at hb'
        injection hb' with hb'
        injection hb' with e1
        have : cs = cs' := List.toArray_inj e1
        subst this
        have hfit' : 0 + yn ≤ cs.length := hfit
        omega
    have key : ∀ {A : Option Addr} {n : Nat}, PY wx A n → PY (wy.setCell ⟨g, j * 3, none⟩ (.int .i64 1)) A n := fun hp => by
      rcases hp.upd hu hle with p | ⟨g', cs, rfl, hb, p⟩
      · exact .inl p
      · exact PY.chg (w := wy) (.inr ⟨g', cs, rfl, hb, p⟩) hc fun a ha e => by
          injection ha with ha; subst ha
          exact Ty.ne (t := 5) ⟨cs, hb⟩ hty' (by decide) e
    rcases List.mem_or_eq_of_mem_set hy' with hm | hm
    · exact ⟨key (r3 y hm).1, (r3 y hm).2⟩
    · subst hm
      have := r3 _ (List.getElem_mem hjc)
      exact ⟨key this.1, this.2⟩
end
theorem awake_w (w : World) : Calls Try.prog 9 #[] w fun e w' => e = .returned (.bool true) ∧ Below w.heap.size w w' := awake_any
theorem QRow.base {w : World} {base base' n : Nat} {v : Value} {vs : List Value} (h : QRow w base v n vs) (hb : base' ≤ base) : QRow w base' v n vs :=
  ⟨h.1, h.2.imp id fun ⟨g, o, cap, cur, h1, h2, h3⟩ => ⟨g, o, cap, cur, h1, Nat.le_trans hb h2, h3⟩⟩
theorem FX.base {w : World} {base base' n c : Nat} {F : Nat → Prop} {A : Option Addr} {x : List UInt8} (h : FX w base F A n c x) (hb : base' ≤ base) : FX w base' F A n c x := ⟨⟨own_mono h.1.1 hb, h.1.2⟩, h.2⟩
theorem Rw.base {w : World} {base base' E N : Nat} {s : ES} {F : Nat → Prop} (h : Rw w base E s N F) (hb : base' ≤ base) : Rw w base' E s N F := by
  obtain ⟨m, h1, h2, h3⟩ := h
  exact ⟨m, ⟨h1.e, ⟨own_mono h1.f.f hb, own_mono h1.f.s hb, fun y hy => (h1.f.x y hy).base hb, h1.f.FF, h1.f.FS⟩, ⟨own_mono h1.l.ow hb, fun y hy => (h1.l.x y hy).base hb, h1.l.FL⟩, ⟨fun k hk => (h1.q.qr k hk).base hb, h1.q.nd, fun k hk y hy => (h1.q.x k hk y hy).base hb, h1.q.FQ⟩, h1.FE, fun k hk => ⟨Nat.le_trans hb (h1.fb k hk).1, (h1.fb k hk).2⟩, Nat.le_trans hb h1.bs⟩, h2, h3⟩
/-- So many acts have been. -/
def SA (w wx : World) (X E j q : Nat) : Prop := ∃ s N, SL w wx X E s N ∧ BD s N j q
set_option maxRecDepth 100000 in
set_option maxHeartbeats 12800000 in
theorem script_walk {A B D : Option Addr} {c d m : Nat} {fl : List FT} {sl : List SY} {al : List AC} {w : World} (h1 : Rd w A (fl.length * 4) (fl.flatMap FT.cells) ∧ fl.length ≤ c ∧ fl.length ≤ 4398046510976 ∧ ∀ a ∈ fl, I64 a.late ∧ I64 a.again)
    (h2 : Rd w B (sl.length * 3) (sl.flatMap SY.cells) ∧ sl.length ≤ d ∧ sl.length ≤ 3518437208780 ∧ ∀ a ∈ sl, I64 a.at_ ∧ I64 a.dst ∧ Rd w a.A a.n (bys a.x) ∧ a.n ≤ a.c ∧ a.n ≤ 140737488351232)
    (h3 : Rd w D (al.length * 4) (al.flatMap AC.cells) ∧ al.length ≤ m ∧ al.length ≤ 2932031007317 ∧ ∀ a ∈ al, I64 a.kind ∧ I64 a.dst ∧ I64 a.many ∧ Rd w a.A a.n (bys a.x) ∧ a.n ≤ a.c ∧ a.n ≤ 140737488351232) :
    Calls Try.prog 6 #[.slice A fl.length c, .slice B sl.length d, .slice D al.length m] w fun e w' => e = .returned (.bool true) ∧ Below w.heap.size w w' := by
  obtain ⟨nf, hnf⟩ : ∃ n, fl.length = n := ⟨_, rfl⟩
  obtain ⟨ns, hns⟩ : ∃ n, sl.length = n := ⟨_, rfl⟩
  obtain ⟨n, hn⟩ : ∃ n, al.length = n := ⟨_, rfl⟩
  have HN := Lib.hid (And.intro hnf (And.intro hns hn))
  have H := Lib.hid (And.intro h1 (And.intro h2 h3))
  rw [hnf, hns, hn]
  clear h1 h2 h3 hnf hns hn
  go_enter Try.func6, Try.ntmps6
  go_wp2_with fail
  refine (by have := long_any (nf := nf) (A0 := A) (A1 := B) (A2 := D) (c0 := c) (c1 := d) (c2 := m) H.out.2.1.1 H.out.2.2.1; rw [HN.out.2.1, HN.out.2.2] at this; exact this : Calls _ _ _ _ _).mono ?_
  rintro _ w2 ⟨rfl, rfl⟩
  cases hlg : long31 nf sl al with
  | true =>
    go_wp2_with fail
    refine (awake_w _).mono ?_
    rintro _ w3 ⟨rfl, hb⟩
    have HB := Lib.hid hb
    clear hb
    go_wp2_with fail
    go_ret
    exact ⟨rfl, HB.out⟩
  | false =>
    obtain ⟨wo, rfl⟩ : ∃ wo : World, wo = w2 := ⟨_, rfl⟩
    obtain ⟨q1, q2, q3, q4, q5⟩ := long31_all hlg
    rw [HN.out.2.1] at q2
    rw [HN.out.2.2] at q3
    have HQ := Lib.hid (And.intro q4 q5)
    clear hlg q4 q5
    have hrf : Rd wo A (nf * 4) (fcs fl) := by have := H.out.1.1; rw [HN.out.1] at this; exact this
    have hrs : Rd wo B (ns * 3) (ycs sl) := by have := H.out.2.1.1; rw [HN.out.2.1] at this; exact this
    have HR := Lib.hid (And.intro hrf hrs)
    clear hrf hrs
    go_wp2_with (first
      | (at_builtin; refine wpList_fates (wr := wo) (base := wo.heap.size) (l := fl) (by rfl) (.tmp 23) (.tmp 24) (by rfl) (by rfl) (by rfl) ((Below.refl _ _).alloc (Nat.le_refl _) _) (Bk.newA wo 53 #[]) HR.out.1 (by omega) (Nat.le_refl _) ?_; intro A1 d1 w1 H1)
      | (at_builtin; refine wpList_strays (wr := w1) (base := wo.heap.size) (l := sl) (by rfl) (.tmp 26) (.tmp 27) (by rfl) (by rfl) (by rfl) ((Below.refl _ _).alloc (Nat.le_refl _) _) (Bk.newA w1 45 #[]) (HR.out.2.below H1.out.2) (by omega) H1.out.2.size ?_; intro B1 d2 w3 H3))
    have hyb : YB wo w3 A1 d1 fl B1 d2 sl sl 0 := ⟨by rw [HN.out.1]; exact own_below H1.out.1 H3.out.2, by rw [HN.out.2.1]; exact H3.out.1, rfl, rfl, below_base H1.out.2 H3.out.2 H1.out.2.size, fun y hy => ⟨((H.out.2.1.2.2.2 y hy).2.2.1.below H1.out.2).below H3.out.2, fun h0 a b ha hb e => by
      have := rd_block (H.out.2.1.2.2.2 y hy).2.2.1 h0 a ha
      have := (own_lt H3.out.1 b hb).1
      omega⟩, fun i hi h => absurd h (Nat.not_lt_zero _)⟩
    have HY := Lib.hid hyb
    clear hyb H1 H3
    go_loopw [9] (fun v wx => ∃ j : Nat, j ≤ ns ∧ v = .int .i64 (j : Nat) ∧ Hid (∃ cur, YB wo wx A1 d1 fl B1 d2 sl cur j)) (fun v wx => ns - (intOf v).toNat)
    case atStart => exact ⟨0, Nat.zero_le _, rfl, Lib.hid ⟨_, HY.out⟩⟩
    case round =>
      obtain ⟨j, hj, rfl, HJ⟩ := hrel
      obtain ⟨cur, hyb⟩ := HJ.out
      by_cases hlt : j < ns
      · have hjc : j < cur.length := by rw [hyb.len, HN.out.2.1]; exact hlt
        have hs := hyb.s
        obtain ⟨g, crr, hB, _⟩ := own_formN hs (by rw [HN.out.2.1]; omega)
        subst hB
        have hrd := (own_rdN hs).1
        have hcc := rd_cell (f := SY.cells) (k := 3) (fun _ => rfl) (w := wr) (A := some ⟨g, 0, none⟩) (l := cur) (by rw [hyb.len]; exact hrd) hjc (by decide)
        obtain ⟨g', oo, hB', hc0⟩ := hcc
        injection hB' with hB'
        injection hB' with e1 e2
        subst e1 e2
        obtain ⟨⟨ya, yd, yA, yn, yc, yx⟩, hy⟩ : ∃ y, cur[j] = y := ⟨_, rfl⟩
        rw [hy] at hc0
        have z2 : wr.cell? ⟨g, j * 3 + 2, none⟩ = some (.slice yA yn yc) := by have := hc0 2 _ rfl; rw [Nat.zero_add] at this; exact this
        have hn9 : yn ≤ 140737488351232 := by
          have h := hyb.n
          have hjs : j < sl.length := by rw [HN.out.2.1]; exact hlt
          have e : (cur.map SY.n)[j]? = (sl.map SY.n)[j]? := by rw [h]
          rw [List.getElem?_map, List.getElem?_map, List.getElem?_eq_getElem hjc, List.getElem?_eq_getElem hjs, hy] at e
          have e : yn = sl[j].n := by simpa using e
          rw [e]; exact (H.out.2.1.2.2.2 _ (List.getElem_mem hjs)).2.2.2.2
        have hrx := (hyb.x _ (List.getElem_mem hjc)).1
        rw [hy] at hrx
        obtain ⟨⟨cs, hbk⟩, _⟩ := own_ty hs (g := g) rfl
        have hz2 := hs.1
        have hdn : ns ≤ d2 := by have := (own_rdN hs).2; rw [HN.out.2.1] at this; exact this
        have kd : decide ((j : Int) < (ns : Int)) = true := decide_eq_true (by omega)
        have kd' : decide (j < ns) = true := decide_eq_true hlt
        have kp : (j : Int) < (ns : Int) := by omega
        have ej : IntKind.i64.wrap ((j : Int) + 1) = ((j + 1 : Nat) : Int) := by rw [IntKind.wrap_i64]; omega
        have HV := Lib.hid (And.intro hyb (And.intro hjc (And.intro hy (And.intro True.intro (And.intro hrx (And.intro hn9 hbk))))))
        clear hyb hy hs hrd hc0 hrx hbk hz2 HJ hn9
        go_wp2_with fail
        refine (copy_any HV.out.2.2.2.2.1 HV.out.2.2.2.2.2.1).mono ?_
        rintro _ w5 ⟨v5, rfl, ho5, hb5⟩
        obtain ⟨A5, c5, rfl⟩ := own_sl ho5
        have z2' := cell_below hb5 z2
        have f2' := (HV.out.2.2.2.2.2.2.belowS hb5).frozen (j * 3 + 2)
        have hst := HV.out.1.step HV.out.2.1 rfl hb5 (A' := A5) (c' := c5) (by rw [HV.out.2.2.1]; exact ho5)
        rw [HV.out.2.2.1] at hst
        have HS := Lib.hid hst
        clear ho5 hb5 hst z2
        go_wp2_with fail
        refine ⟨⟨j + 1, hlt, rfl, Lib.hid ⟨_, HS.out⟩⟩, by show ns - ((j : Int) + 1).toNat < ns - ((j : Int)).toNat; omega⟩
      · obtain rfl : j = ns := by omega
        have kd : decide ((j : Int) < (j : Int)) = false := decide_eq_false (by omega)
        have kd' : decide (j < j) = false := decide_eq_false (by omega)
        have hcl : cur.length = j := by rw [hyb.len]; exact HN.out.2.1
        obtain ⟨w3, rfl⟩ : ∃ w3 : World, w3 = wr := ⟨_, rfl⟩
        have HY3 := Lib.hid (And.intro hyb hcl)
        clear hyb hcl HJ hlt hj
        have hb3 := HY3.out.1.b
        have hrA : Rd w3 A1 (nf * 4) (fcs fl) := by have := (own_rdN HY3.out.1.f).1; rw [HN.out.1] at this; exact this
        have hrB : Rd w3 B1 (j * 3) (ycs cur) := by have := (own_rdN HY3.out.1.s).1; rw [HN.out.2.1] at this; exact this
        have HA := Lib.hid (And.intro hrA (And.intro hrB hb3))
        clear hrA hrB hb3
        go_wp2_with fail
        refine (by have := new_any (w := w3) (c := d1) (d := d2) (fl := fl) (sl := cur) (by rw [HN.out.1]; exact HA.out.1) (by rw [HY3.out.2]; exact HA.out.2.1) (own_at0 HY3.out.1.f) (own_at0 HY3.out.1.s) (fun y hy => (HY3.out.1.x y hy).1) (by rw [HN.out.1]; omega) (by rw [HY3.out.2]; omega); rw [HN.out.1, HY3.out.2, newE_map HY3.out.1.t HY3.out.1.n, ESnew_map HY3.out.1.t] at this; exact this : Calls _ _ _ _ _).mono ?_
        rintro e w4 ⟨hb4, hr4⟩
        have HB4 := Lib.hid hb4
        clear hb4
        have hb34 := below_base HA.out.2.2 HB4.out HA.out.2.2.size
        have HB34 := Lib.hid hb34
        clear hb34
        have hcr := (by have := rnew_any (w := w4) (A := A) (B := B) (c := c) (d := d) (fl := fl) (sl := sl) (by rw [HN.out.1]; exact HR.out.1.below HB34.out) (by rw [HN.out.2.1]; exact HR.out.2.below HB34.out) (fun y hy => (H.out.2.1.2.2.2 y hy).2.2.1.below HB34.out) (by rw [HN.out.1]; omega) (by rw [HN.out.2.1]; omega); rw [HN.out.1, HN.out.2.1] at this; exact this : Calls Try.prog 25 #[.slice A nf c, .slice B j d] w4 _)
        have HCR := Lib.hid hcr
        clear hcr
        rcases hr4 with ⟨hE, rfl⟩ | ⟨hE, X, rfl, hX⟩
        · go_wp2_with fail
          refine HCR.out.mono ?_
          rintro e w5 ⟨hb5, ⟨_, rfl⟩ | ⟨hE2, _⟩⟩
          · have HB5 := Lib.hid (below_base HB34.out hb5 HB34.out.size)
            clear hb5 hE
            go_wp2_with fail
            refine (awake_w _).mono ?_
            rintro _ w6 ⟨rfl, hb6⟩
            have HB6 := Lib.hid (below_base HB5.out hb6 HB5.out.size)
            clear hb6
            go_wp2_with fail
            go_ret
            exact ⟨rfl, HB6.out⟩
          · rw [hE] at hE2; exact absurd hE2 (by decide)
        · have HX := Lib.hid hX
          clear hX
          go_wp2_with fail
          refine HCR.out.mono ?_
          rintro e w5 ⟨hb5, ⟨hE2, _⟩ | ⟨_, E, rfl, hRw⟩⟩
          · rw [hE] at hE2; exact absurd hE2 (by decide)
          · have hz34 := HB4.out.size
            have hz3 := HA.out.2.2.size
            have hz5 := hb5.size
            have hlx : Lf wo w5 X (ES.new fl sl) (fun k => w3.heap.size ≤ k ∧ k < w4.heap.size) := Lf.below (w := w4) ⟨⟨_, HX.out⟩, fun k hk => ⟨by have := hk.1; omega, hk.2⟩, by omega⟩ hb5
            have hsc : SC wo w5 X E (ES.new fl sl) (ES.new fl sl) 0 (fun k => w3.heap.size ≤ k ∧ k < w4.heap.size) (fun k => w4.heap.size ≤ k ∧ k < w5.heap.size) := ⟨hlx, hRw.base (by omega), fun k hk hf => by have := hk.2; have := hf.1; omega, below_base HB34.out hb5 HB34.out.size⟩
            have hb35 := below_base HB4.out hb5 HB4.out.size
            have hyb := HY3.out.1
            have hov : OV wo w3 w5 X E (ES.new fl sl) A1 d1 nf B1 d2 j := by
              refine ⟨⟨_, _, hsc, fun k hk => by rcases hk with hk | hk <;> omega⟩, ⟨_, by have := own_below hyb.f hb35; rw [HN.out.1] at this; exact this⟩, ⟨cur, by have := own_below hyb.s hb35; rw [HN.out.2.1] at this; exact this, HY3.out.2, fun y hy => ?_⟩, fun a ha => ?_, hb35.size⟩
              · obtain ⟨i, hi, e⟩ := List.mem_iff_getElem.1 hy
                subst e
                obtain ⟨p1, p2⟩ := hyb.lo i hi (by rw [HY3.out.2] at hi; exact hi)
                exact ⟨p1.chg (Chg.of_below (S := fun _ => False) hb35) fun _ _ e => e, p2, n_of_map hyb.n (fun a ha => (H.out.2.1.2.2.2 a ha).2.2.2.2) _ hy⟩
              · rcases ha with ha | ha
                · exact own_lt hyb.f a ha
                · exact own_lt hyb.s a ha
            have HO := Lib.hid hov
            have HNS := Lib.hid (show sl.length ≤ 20 by rw [HN.out.2.1]; exact q2)
            clear hlx hsc hb35 hyb hov hRw hb5 hE hz34 hz3 hz5 HX HCR HB4 HB34 HA HY3
            go_wp2_with fail
            go_loopw [14] (fun v wx => ∃ i : Nat, i ≤ nf ∧ v = .int .i64 (i : Nat) ∧ Hid (OV wo w3 wx X E (ES.new fl sl) A1 d1 nf B1 d2 j)) (fun v wx => nf - (intOf v).toNat)
            case atStart => exact ⟨0, Nat.zero_le _, rfl, HO⟩
            case round =>
              obtain ⟨i, hi, rfl, HI⟩ := hrel
              by_cases hlt : i < nf
              · obtain ⟨g, v0, v1, v2, v3, hA, hnd, c0, c1, c2, c3, hfz, hov⟩ := HI.out.fate hlt
                subst hA
                have f0 := hfz (i * 4)
                have f1 := hfz (i * 4 + 1)
                have f2 := hfz (i * 4 + 2)
                have f3 := hfz (i * 4 + 3)
                have kd : decide ((i : Int) < (nf : Int)) = true := decide_eq_true (by omega)
                have kd' : decide (i < nf) = true := decide_eq_true hlt
                have kp : (i : Int) < (nf : Int) := by omega
                have i0 : (0 : Int) ≤ (i : Int) := by omega
                have ei : IntKind.i64.wrap ((i : Int) + 1) = ((i + 1 : Nat) : Int) := by rw [IntKind.wrap_i64]; omega
                have HV := Lib.hid (hov (.bool true) (.int .i64 0) (.bool false) (.int .i64 0))
                clear hov hfz HI HO
                go_wp2_with fail
                refine ⟨⟨i + 1, hlt, rfl, HV⟩, by show nf - ((i : Int) + 1).toNat < nf - ((i : Int)).toNat; omega⟩
              · obtain rfl : i = nf := by omega
                have kd : decide ((i : Int) < (i : Int)) = false := decide_eq_false (by omega)
                have kd' : decide (i < i) = false := decide_eq_false (by omega)
                clear hlt hi HO
                go_wp2_with fail
                go_loopw [15] (fun v wx => ∃ q : Nat, q ≤ j ∧ v = .int .i64 (q : Nat) ∧ Hid (OV wo w3 wx X E (ES.new fl sl) A1 d1 i B1 d2 j)) (fun v wx => j - (intOf v).toNat)
                case atStart => exact ⟨0, Nat.zero_le _, rfl, HI⟩
                case round =>
                  obtain ⟨q, hq, rfl, HO⟩ := hrel
                  by_cases hlt : q < j
                  · obtain ⟨g, v0, yA, yn, yc, gm, l, hB, hnd, c0, c2, hmu, hyn, hov⟩ := HO.out.stray hlt
                    subst hB
                    have kd : decide ((q : Int) < (j : Int)) = true := decide_eq_true (by omega)
                    have kd' : decide (q < j) = true := decide_eq_true hlt
                    have kp : (q : Int) < (j : Int) := by omega
                    have i0 : (0 : Int) ≤ (q : Int) := by omega
                    have ei : IntKind.i64.wrap ((q : Int) + 1) = ((q + 1 : Nat) : Int) := by rw [IntKind.wrap_i64]; omega
                    have HV := Lib.hid (And.intro hmu hov)
                    clear hmu hov HO HI
                    go_wp2_with fail
                    refine (over_any HV.out.1 hyn).mono ?_
                    rintro _ w7 ⟨rfl, h7⟩
                    obtain ⟨c0', f0', h8⟩ := HV.out.2 _ h7
                    have H8 := Lib.hid h8
                    clear h7 h8 c0 c2
                    go_wp2_with fail
                    refine ⟨⟨q + 1, hlt, rfl, H8⟩, by show j - ((q : Int) + 1).toNat < j - ((q : Int)).toNat; omega⟩
                  · obtain rfl : q = j := by omega
                    have kd : decide ((q : Int) < (q : Int)) = false := decide_eq_false (by omega)
                    have kd' : decide (q < q) = false := decide_eq_false (by omega)
                    have HS := Lib.hid (show SA wo wr X E 0 0 from ⟨_, _, HO.out.sl, BD.new HNS.out⟩)
                    clear hlt hq HO HI
                    go_wp2_with fail
                    go_loopw [16, 17] (fun v16 v17 wx => ∃ i q : Nat, i ≤ n ∧ q ≤ 3 ∧ v17 = .int .i64 (i : Nat) ∧ v16 = .int .i64 (q : Nat) ∧ Hid (SA wo wx X E i q)) (fun v16 v17 wx => n - (intOf v17).toNat)
                    case atStart => exact ⟨0, 0, Nat.zero_le _, Nat.zero_le _, rfl, rfl, HS⟩
                    case round =>
                      obtain ⟨x, y, hx, hy, rfl, rfl, HI⟩ := hrel
                      obtain ⟨s, N, hsl, hbd⟩ := HI.out
                      by_cases hlt : x < n
                      · have hxl : x < al.length := by rw [HN.out.2.2]; exact hlt
                        obtain ⟨g, off, hD, hc0⟩ := rd_cell (f := AC.cells) (k := 4) (fun _ => rfl) (H.out.2.2.1.below hsl.b) hxl (by decide)
                        obtain ⟨⟨ak, ad, am, aA, an, ac, ax⟩, haj⟩ : ∃ a, al[x] = a := ⟨_, rfl⟩
                        rw [haj] at hc0
                        have ham : al[x] ∈ al := List.getElem_mem hxl
                        have c0 : wr.cell? ⟨g, off + x * 4, none⟩ = some (.int .i64 ak) := hc0 0 _ rfl
                        have c1 := hc0 1 _ rfl
                        have c2 := hc0 2 _ rfl
                        have c3 := hc0 3 _ rfl
                        have hok : I64 ak ∧ I64 ad ∧ I64 am ∧ Rd wo aA an (bys ax) ∧ an ≤ ac ∧ an ≤ 140737488351232 := by have := H.out.2.2.2.2.2 _ ham; rw [haj] at this; exact this
                        have hra : 0 < an → ∀ a, aA = some a → a.block < wo.heap.size := rd_block hok.2.2.2.1
                        subst hD
                        have kd : decide ((x : Int) < (n : Int)) = true := decide_eq_true (by omega)
                        have kd' : decide (x < n) = true := decide_eq_true hlt
                        have kp : (x : Int) < (n : Int) := by omega
                        have x0 : (0 : Int) ≤ (x : Int) := by omega
                        have ex : IntKind.i64.wrap ((x : Int) + 1) = ((x + 1 : Nat) : Int) := by rw [IntKind.wrap_i64]; omega
                        have ey : IntKind.i64.wrap ((y : Int) + 1) = ((y + 1 : Nat) : Int) := by rw [IntKind.wrap_i64]; omega
                        have HV := Lib.hid (And.intro hsl (And.intro hbd (And.intro hok (And.intro hra (show x ≤ 60 by omega)))))
                        have y1 : decide ((y : Int) > 3) = false := by simp; omega
                        have y2 : decide ((3 : Int) < (y : Int)) = false := by simp; omega
                        have y3 : decide (3 < y) = false := by simp; omega
                        clear hsl hbd hok hra haj hc0 ham HI
                        by_cases h5 : ak = 5
                        · have k5 : (ak == 5) = true := by simpa using h5
                          have HK5 := Lib.hid h5
                          by_cases hy3 : y = 3
                          · have HY3 := Lib.hid hy3
                            have z1 : decide (((y + 1 : Nat) : Int) > 3) = true := by simp; omega
                            have z2 : decide ((3 : Int) < ((y + 1 : Nat) : Int)) = true := by simp; omega
                            have z3 : decide (3 < y + 1) = true := by simp; omega
                            have z4 : decide ((3 : Int) < (y : Int) + 1) = true := by simp; omega
                            clear h5 hy3 y1 y2 y3
                            go_wp2_with fail
                            refine (awake_w _).mono ?_
                            rintro _ w6 ⟨rfl, hb6⟩
                            have HB6 := Lib.hid (below_base HV.out.1.b hb6 HV.out.1.b.size)
                            clear hb6
                            go_wp2_with fail
                            go_ret
                            exact ⟨rfl, HB6.out⟩
                          · have hy2 : y ≤ 2 := by omega
                            have z1 : decide (((y + 1 : Nat) : Int) > 3) = false := by simp; omega
                            have z2 : decide ((3 : Int) < ((y + 1 : Nat) : Int)) = false := by simp; omega
                            have z3 : decide (3 < y + 1) = false := by simp; omega
                            have z4 : decide ((3 : Int) < (y : Int) + 1) = false := by simp; omega
                            clear h5 hy3 y1 y2 y3
                            go_wp2_with fail
                            refine (does_any (kd := ak) HV.out.1 HV.out.2.1 HV.out.2.2.2.2 (by rw [if_pos HK5.out]; omega) HV.out.2.2.1.2.2.1 (HV.out.2.2.1.2.2.2.1.below HV.out.1.b) HV.out.2.2.2.1 HV.out.2.2.1.2.2.2.2.2).mono ?_
                            rintro _ w6 ⟨rfl, h6⟩
                            rw [if_pos HK5.out] at h6
                            obtain ⟨s', N', hs6, hb6⟩ := h6
                            have H6 := Lib.hid (And.intro hs6 hb6)
                            clear hs6 hb6 c0 c1 c2 c3
                            obtain ⟨Fx, Fr, hsc⟩ := H6.out.1
                            go_wp2_with fail
                            refine (alike_any hsc).mono ?_
                            clear hsc
                            rintro _ w7 ⟨rfl, hb7⟩
                            have H7 := Lib.hid (show SA wo w7 X E (x + 1) (y + 1) from ⟨_, _, H6.out.1.below hb7, H6.out.2⟩)
                            clear hb7
                            go_wp2_with fail
                            exact ⟨⟨x + 1, y + 1, hlt, by omega, rfl, rfl, H7⟩, by show n - ((x : Int) + 1).toNat < n - ((x : Int)).toNat; omega⟩
                        · have k5 : (ak == 5) = false := by simpa using h5
                          have HK5 := Lib.hid h5
                          clear h5
                          go_wp2_with fail
                          refine (does_any (kd := ak) HV.out.1 HV.out.2.1 HV.out.2.2.2.2 (by rw [if_neg HK5.out]; omega) HV.out.2.2.1.2.2.1 (HV.out.2.2.1.2.2.2.1.below HV.out.1.b) HV.out.2.2.2.1 HV.out.2.2.1.2.2.2.2.2).mono ?_
                          rintro _ w6 ⟨rfl, h6⟩
                          rw [if_neg HK5.out] at h6
                          obtain ⟨s', N', hs6, hb6⟩ := h6
                          have H6 := Lib.hid (And.intro hs6 hb6)
                          clear hs6 hb6 c0 c1 c2 c3
                          obtain ⟨Fx, Fr, hsc⟩ := H6.out.1
                          go_wp2_with fail
                          refine (alike_any hsc).mono ?_
                          clear hsc
                          rintro _ w7 ⟨rfl, hb7⟩
                          have H7 := Lib.hid (show SA wo w7 X E (x + 1) y from ⟨_, _, H6.out.1.below hb7, H6.out.2⟩)
                          clear hb7
                          go_wp2_with fail
                          exact ⟨⟨x + 1, y, hlt, hy, rfl, rfl, H7⟩, by show n - ((x : Int) + 1).toNat < n - ((x : Int)).toNat; omega⟩
                      · obtain rfl : x = n := by omega
                        have kd : decide ((x : Int) < (x : Int)) = false := decide_eq_false (by omega)
                        have kd' : decide (x < x) = false := decide_eq_false (by omega)
                        have HV := Lib.hid hsl
                        obtain ⟨Fx, Fr, hsc⟩ := hsl
                        have HSC := Lib.hid hsc
                        clear hsc hbd HI hlt hx
                        go_wp2_with fail
                        refine (alike_any HSC.out).mono ?_
                        rintro _ w7 ⟨rfl, hb7⟩
                        have H7 := Lib.hid (below_base HV.out.b hb7 HV.out.b.size)
                        clear hb7
                        go_wp2_with fail
                        refine (awake_w _).mono ?_
                        rintro _ w6 ⟨rfl, hb6⟩
                        have HB6 := Lib.hid (below_base H7.out hb6 H7.out.size)
                        clear hb6
                        go_wp2_with fail
                        go_ret
                        exact ⟨rfl, HB6.out⟩
end Go.Proofs.Ytknpghemogfenaa
