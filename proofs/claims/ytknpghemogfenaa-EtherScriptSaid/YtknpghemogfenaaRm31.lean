/- Chapter 31: rows of slices that begin within their block; the document's ether in memory. -/
import Derived.Test.YtknpghemogfenaaCq31
import Derived.Test.YtknpghemogfenaaLk
namespace Go.Proofs.Ytknpghemogfenaa
open Go.Conc Go.RowKit
set_option linter.unusedVariables false
theorem own_at0 {w : World} {base n c : Nat} {e : TypeId} {size : Nat} {A : Option Addr} {xs : List Value} (h : w.ownsRow base e size (.slice A n c) n xs) : At0 A := fun a ha => by
  rcases h.2 with ⟨h1, _⟩ | ⟨g, cap, cur, h1, _⟩
  · injection h1 with h1; rw [ha] at h1; cases h1
  · injection h1 with h1; rw [ha] at h1; injection h1 with h1; exact ⟨g, h1⟩
theorem own_lt {w : World} {base n c : Nat} {e : TypeId} {size : Nat} {A : Option Addr} {xs : List Value} (h : w.ownsRow base e size (.slice A n c) n xs) : ∀ a, A = some a → base ≤ a.block ∧ a.block < w.heap.size := fun a ha => by
  obtain ⟨⟨cs, h1⟩, h2⟩ := own_ty h (g := a.block) (by rw [ha]; rfl)
  exact ⟨h2, h1.lt⟩
theorem long31_all {nf : Nat} {sl : List SY} {al : List AC} (h : long31 nf sl al = false) : nf ≤ 60 ∧ sl.length ≤ 20 ∧ al.length ≤ 60 ∧ (∀ y ∈ sl, y.n ≤ 100 ∨ 70000 < y.n) ∧ ∀ a ∈ al, a.n ≤ 100 ∨ 70000 < a.n := by
  unfold long31 at h
  simp only [Bool.or_eq_false_iff, decide_eq_false_iff_not] at h
  obtain ⟨⟨h1, h2⟩, ⟨h3, h4⟩, h5⟩ := h
  refine ⟨by omega, by omega, by omega, fun a ha => ?_, fun a ha => ?_⟩
  · rw [List.take_of_length_le (by omega), List.any_eq_false] at h1
    have := h1 a ha
    simp only [big31, Bool.and_eq_true, decide_eq_true_eq, not_and] at this
    omega
  · rw [List.take_of_length_le (by omega), List.any_eq_false] at h2
    have := h2 a ha
    simp only [big31, Bool.and_eq_true, decide_eq_true_eq, not_and] at this
    omega
theorem Chg.cell' {S : Nat → Prop} {w w' : World} {p : Addr} {v : Value} (h : Chg S w w') (hc : w.cell? p = some v) (hp : ¬ S p.block) : w'.cell? p = some v := by
  have hl := World.block_lt_of_cell? _ _ hc
  have := h.2 p.block hl hp
  rw [← hc]
  unfold World.cell?
  rw [this]
theorem Rd.mul1 {w : World} {A : Option Addr} {n : Nat} {xs : List Value} (h : Rd w A n xs) : Rd w A (n * 1) xs := by rw [Nat.mul_one]; exact h
section
variable {P : Program} (w : World)
/-- append with room, to a slice that begins at o. -/
theorem run_append_roomO (t ty e : TypeId) (i : TypeInfo) (ht : P.underlying t = some (.slice e)) (hi : P.info? e = some i)
    (g o sLen sCap : Nat) (cur : Array Value) (hg : w.heap[g]? = some (.cells cur e (0, 0)))
    (a : Addr) (m c : Nat) (news : List Value) (hl : news.length = m * i.size) (hnews : ∀ j u, news[j]? = some u → w.cell? (a.add j) = some u) (h1 : ∀ u ∈ news, u.oneCell' = true)
    (hroom : sLen + m ≤ sCap) (hfit : o + sLen * i.size + news.length ≤ cur.size) :
    (Builtin.append_ #[t, t] ty #[.slice (some ⟨g, o, none⟩) sLen sCap, .slice (some a) m c]).run P w =
      .ok (.slice (some ⟨g, o, none⟩) (sLen + m) sCap) (w.setRow g (cur.toList.take (o + sLen * i.size) ++ news ++ cur.toList.drop (o + sLen * i.size + news.length)).toArray) := by
  have hf := run_firstCells_some (P := P) w i.size m a m c news hl hnews
  have hst := run_storeCells_at P g (o + sLen * i.size) e news 0 cur w hg (by simpa using hfit) h1
  simp only [Nat.add_zero] at hst
  simp [Builtin.append_, run_underlying ht, sizeOf, typeInfo, hi, Builtin.lenOf, hroom, hf, Addr.add_lit, hst]
end
/-- A slice of slices that begins anywhere in a block of the call's own. -/
def QRow (w : World) (base : Nat) (v : Value) (n : Nat) (vs : List Value) : Prop :=
  vs.length = n ∧ ((v = .slice none 0 0 ∧ n = 0) ∨ ∃ g o cap cur, v = .slice (some ⟨g, o, none⟩) n cap ∧ base ≤ g ∧ Bk w g 32 cur ∧ n ≤ cap ∧ cap ≤ maxLen ∧ o + cap ≤ cur.length ∧ (cur.drop o).take n = vs)
section
variable {w w' : World} {base n c : Nat} {v : Value} {A : Option Addr} {vs : List Value}
theorem QRow.nil (w : World) (base : Nat) : QRow w base (.slice none 0 0) 0 [] := ⟨rfl, .inl ⟨rfl, rfl⟩⟩
theorem QRow.of_own (h : w.ownsRow base 32 1 v n vs) : QRow w base v n vs := by
  refine ⟨by have := h.1; simpa using this, ?_⟩
  rcases h.2 with h2 | ⟨g, cap, cur, hv, hg, hh, hnc, hcm, hcs, ht⟩
  · exact .inl h2
  · exact .inr ⟨g, 0, cap, cur.toList, hv, hg, hh, hnc, hcm, by simp at hcs; simp; omega, by simpa using ht⟩
theorem QRow.ty (h : QRow w base v n vs) {g : Nat} (hg : v.ownBlock = some g) : Ty w g 32 ∧ base ≤ g := by
  rcases h.2 with ⟨rfl, _⟩ | ⟨g', o, cap, cur, rfl, hb, hh, _⟩
  · cases hg
  · injection hg with hg
    subst hg
    exact ⟨⟨cur, hh⟩, hb⟩
theorem QRow.chg {S : Nat → Prop} (h : QRow w base v n vs) (hc : Chg S w w') (hS : ∀ g, v.ownBlock = some g → ¬ S g) : QRow w' base v n vs := by
  refine ⟨h.1, ?_⟩
  rcases h.2 with h2 | ⟨g, o, cap, cur, rfl, hb, hh, r⟩
  · exact .inl h2
  · exact .inr ⟨g, o, cap, cur, rfl, hb, hc.bk hh (hS g rfl), r⟩
theorem QRow.slice (h : QRow w base v n vs) : ∃ A c, v = .slice A n c ∧ n ≤ c ∧ c ≤ maxLen := by
  rcases h.2 with ⟨rfl, rfl⟩ | ⟨g, o, cap, cur, rfl, hb, hh, hnc, hcm, _⟩
  · exact ⟨none, 0, rfl, Nat.le_refl _, by decide⟩
  · exact ⟨_, _, rfl, hnc, hcm⟩
theorem QRow.rd (h : QRow w base (.slice A n c) n vs) : Rd w A n vs := by
  rcases h.2 with ⟨hv, h0⟩ | ⟨g, o, cap, cur, hv, hb, hh, hnc, hcm, hcl, ht⟩
  · subst h0; exact ⟨h.1, fun h => absurd h (by omega)⟩
  · injection hv with e1 e2 e3
    subst e1
    exact Rd.of_bk hh (by omega) ht
/-- One more. -/
theorem run_append_q {P : Program} (t ty : TypeId) (i : TypeInfo) (z : Value) (ht : P.underlying t = some (.slice 32)) (hi : P.info? 32 = some i) (hz : i.zero = some z)
    (hsize : i.size = 1) (hby : i.bytes = 24) (hzs : z.cells.size = 1)
    (hq : QRow w base v n vs) (a : Addr) (c : Nat) (u : Value) (hu : w.cell? a = some u) (h1 : u.oneCell' = true) (hn : n ≤ 100000) (hbase : base ≤ w.heap.size) :
    ∃ v' w', (Builtin.append_ #[t, t] ty #[v, .slice (some a) 1 c]).run P w = .ok v' w' ∧ QRow w' base v' (n + 1) (vs ++ [u]) ∧ w.grownBy w' v.ownBlock ∧ (v'.ownBlock = v.ownBlock ∨ v'.ownBlock = some w.heap.size) := by
  have hnews : ∀ (j : Nat) x, ([u] : List Value)[j]? = some x → w.cell? (a.add j) = some x := fun j x hj => by
    cases j with
    | zero => simp at hj; subst hj; simpa [Addr.add] using hu
    | succ j => simp at hj
  have h1' : ∀ x ∈ ([u] : List Value), x.oneCell' = true := fun x hx => by rw [List.mem_singleton.1 hx]; exact h1
  rcases hq.2 with ⟨rfl, rfl⟩ | ⟨g, o, cap, cur, rfl, hb, hh, hnc, hcm, hcl, htk⟩
  · have hx : vs = [] := List.eq_nil_of_length_eq_zero hq.1
    subst hx
    obtain ⟨v', w', h2, h3, h4, h5, h6⟩ := run_append_own_at (P := P) w base t ty 32 i z 1 24 ht hi hz hsize hby hzs (by omega) (.slice none 0 0) 0 [] (World.ownsRow_nil w base _ _) a 1 c [u] rfl hnews h1' (by simp only [maxLen]; omega) (by omega) hbase
    exact ⟨v', w', h2, .of_own h3, h4, h6⟩
  · by_cases hroom : n + 1 ≤ cap
    · have hr := run_append_roomO (P := P) w t ty 32 i ht hi g o n cap cur.toArray hh a 1 c [u] (by rw [hsize]; rfl) hnews h1' hroom (by rw [hsize]; simp; omega)
      rw [hsize, Nat.mul_one] at hr
      refine ⟨_, _, hr, ⟨by simp [hq.1], .inr ⟨g, o, cap, _, rfl, hb, setRow_heap w g cur.toArray _ 32 _ hh, hroom, hcm, ?_, ?_⟩⟩, ⟨rfl, rfl, rfl, by simp, fun k _ hk => setRow_other w g k _ (fun e => hk (by simp [Value.ownBlock, e]))⟩, .inl rfl⟩
      · simp; omega
      · have hl : (cur.take (o + n)).length = o + n := by rw [List.length_take]; omega
        rw [List.append_assoc, List.drop_append_of_le_length (by rw [hl]; omega), List.drop_take, Nat.add_sub_cancel_left]
        have hl2 : ((cur.drop o).take n).length = n := by rw [htk]; exact hq.1
        rw [show n + 1 = ((cur.drop o).take n).length + 1 from by rw [hl2], List.take_length_add_append, htk]
        rfl
    · have holds : ∀ (j : Nat) x, vs[j]? = some x → w.cell? ((⟨g, o, none⟩ : Addr).add j) = some x := fun j x hj => by
        rw [Addr.add_lit, hh.cell]
        rw [← htk, List.getElem?_take] at hj
        split at hj
        · rw [List.getElem?_drop] at hj; exact hj
        · cases hj
      have hr := run_append_grow (P := P) w t ty 32 i z ht hi hz ⟨g, o, none⟩ n cap vs (by rw [hsize, hq.1, Nat.mul_one]) holds a 1 c [u] (by rw [hsize]; rfl) hnews (by omega) (by omega) (growslice_fits (by omega) (by rw [hby]; omega))
      have hge := grownCap_ge w (n + 1) cap 32
      have hcm' : grownCap w (n + 1) cap 32 ≤ maxLen := grownCap_le_maxLen w (n + 1) cap 32 (by simp only [maxLen]; omega)
      refine ⟨_, _, hr, ⟨by simp [hq.1], .inr ⟨w.heap.size, 0, _, (vs.toArray ++ [u].toArray ++ Builtin.zeroCells z.cells (grownCap w (n + 1) cap 32 - (n + 1))).toList, rfl, hbase, heap_alloc_new w.drew _, hge, hcm', ?_, ?_⟩⟩, ⟨rfl, rfl, rfl, by simp, fun k hk _ => Below.heap_alloc w.drew _ k hk⟩, .inr rfl⟩
      · simp only [Array.length_toList, Array.size_append, List.size_toArray, size_zeroCells, hzs, hq.1, List.length_singleton, Nat.mul_one]
        omega
      · simp only [List.drop_zero, Array.toList_append]
        have : (vs.toArray.toList ++ [u].toArray.toList).length = n + 1 := by simp [hq.1]
        rw [← this, List.take_left]
/-- As a step of a region that draws its order. -/
theorem step_append_q {P : Program} {ops : Array Oper} {o : Oper} {a : Act} {K : Act → World → Prop} {Q : Exit → Act → World → Prop} {E : Prop} (hgd : o.guard = none) (s x : Operand) (t : TypeId)
    (ho : o.op = .call { callee := .builtin .append, args := #[s, x], argTypes := #[t, t] }) (i : TypeInfo) (z : Value) (ht : P.underlying t = some (.slice 32)) (hi : P.info? 32 = some i) (hz : i.zero = some z)
    (hsize : i.size = 1) (hby : i.bytes = 24) (hzs : z.cells.size = 1) (hs : a.eval s = v) (hq : QRow w base v n vs) (ad : Addr) (c : Nat) (u : Value) (hx : a.eval x = .slice (some ad) 1 c) (hu : w.cell? ad = some u) (h1 : u.oneCell' = true) (hn : n ≤ 100000) (hbase : base ≤ w.heap.size)
    (h : ∀ v' w', QRow w' base v' (n + 1) (vs ++ [u]) → w.grownBy w' v.ownBlock → (v'.ownBlock = v.ownBlock ∨ v'.ownBlock = some w.heap.size) → K (a.put o.dst v') w') :
    if Region.wanted o (yielded ops a.tmps) = true then Oper.wp P o a w K Q else E := by
  have hw : Region.wanted o (yielded ops a.tmps) = true := by simp [Region.wanted, hgd]
  rw [if_pos hw]
  obtain ⟨v', w', hrun, h2, h3, h4⟩ := run_append_q (P := P) t o.type i z ht hi hz hsize hby hzs hq ad c u hu h1 hn hbase
  unfold Oper.wp execOp
  simp only [ho, resolve, invoke, builtin, Sem.run_bind, Sem.run_pure, Result.andThen_ok, List.map_toArray, List.map_cons, List.map_nil, hs, hx, hrun]
  exact h v' w' h2 h3 h4
/-- What is left behind the first one. -/
theorem QRow.tail {u : Value} (h : QRow w base (.slice A (n + 1) c) (n + 1) (u :: vs)) :
    ∃ g o, A = some ⟨g, o, none⟩ ∧ base ≤ g ∧ w.cell? ⟨g, o, none⟩ = some u ∧ n + 1 ≤ c ∧ c ≤ maxLen ∧ QRow w base (.slice (if c = 1 then some ⟨g, o, none⟩ else some ⟨g, o + 1, none⟩) n (c - 1)) n vs := by
  rcases h.2 with ⟨_, h0⟩ | ⟨g, o, cap, cur, hv, hb, hh, hnc, hcm, hcl, ht⟩
  · omega
  injection hv with e1 _ e3
  subst e1 e3
  have hl : o < cur.length := by omega
  have hd : cur.drop o = cur[o] :: cur.drop (o + 1) := List.drop_eq_getElem_cons hl
  rw [hd, List.take_succ_cons] at ht
  injection ht with t1 t2
  refine ⟨g, o, rfl, hb, by rw [hh.cell, List.getElem?_eq_getElem hl, t1], hnc, hcm, by have := h.1; simpa using this, .inr ?_⟩
  by_cases e : c = 1
  · rw [if_pos e]
    refine ⟨g, o, c - 1, cur, rfl, hb, hh, by omega, by omega, by omega, ?_⟩
    have h0 : n = 0 := by omega
    subst h0
    rw [← t2]; rfl
  · rw [if_neg e]
    exact ⟨g, o + 1, c - 1, cur, rfl, hb, hh, by omega, by omega, by omega, t2⟩
end
structure GX where
  d : Int
  a : Int
  b : Int
  A : Option Addr
  n : Nat
  c : Nat
  x : List UInt8
def GX.cells (g : GX) : List Value := [.int .i64 g.d, .int .i64 g.a, .int .i64 g.b, .slice g.A g.n g.c]
def gxs (l : List GX) : List Value := l.flatMap GX.cells
def GX.g (g : GX) : GR := ⟨g.a, g.b, g.d, g.x⟩
structure RMem where
  FA : Option Addr
  fc : Nat
  fates : List FT
  SA : Option Addr
  sc : Nat
  strays : List SY
  now : Int
  sent : Nat
  numbered : Int
  gone : Int
  LA : Option Addr
  lc : Nat
  l : List GX
  qA : Nat → Option Addr
  qc : Nat → Nat
  q : Nat → List BX
def RMem.cells (m : RMem) : List Value :=
  [.slice m.FA m.fates.length m.fc, .slice m.SA m.strays.length m.sc, .int .i64 m.now, .int .i64 (m.sent : Nat), .int .i64 m.numbered, .slice m.LA m.l.length m.lc, .slice (m.qA 0) (m.q 0).length (m.qc 0), .slice (m.qA 1) (m.q 1).length (m.qc 1), .int .i64 m.gone]
/-- Bytes of the ether's own. -/
def FX (w : World) (base : Nat) (F : Nat → Prop) (A : Option Addr) (n c : Nat) (x : List UInt8) : Prop := PX w base A n c x ∧ ∀ a, A = some a → F a.block
structure RF (w : World) (base : Nat) (FA : Option Addr) (fc : Nat) (fates : List FT) (SA : Option Addr) (sc : Nat) (strays : List SY) (F : Nat → Prop) : Prop where
  f : w.ownsRow base 53 4 (.slice FA fates.length fc) fates.length (fcs fates)
  s : w.ownsRow base 45 3 (.slice SA strays.length sc) strays.length (ycs strays)
  x : ∀ y ∈ strays, FX w base F y.A y.n y.c y.x
  FF : ∀ a, FA = some a → F a.block
  FS : ∀ a, SA = some a → F a.block
structure RL (w : World) (base : Nat) (LA : Option Addr) (lc : Nat) (l : List GX) (F : Nat → Prop) : Prop where
  ow : w.ownsRow base 92 4 (.slice LA l.length lc) l.length (gxs l)
  x : ∀ g ∈ l, FX w base F g.A g.n g.c g.x
  FL : ∀ a, LA = some a → F a.block
structure RQ (w : World) (base : Nat) (qA : Nat → Option Addr) (qc : Nat → Nat) (q : Nat → List BX) (F : Nat → Prop) : Prop where
  qr : ∀ k, k < 2 → QRow w base (.slice (qA k) (q k).length (qc k)) (q k).length ((q k).map BX.v)
  nd : ∀ a0 a1, qA 0 = some a0 → qA 1 = some a1 → a0.block ≠ a1.block
  x : ∀ k, k < 2 → ∀ b ∈ q k, FX w base F b.A b.n b.c b.x
  FQ : ∀ k, k < 2 → ∀ a, qA k = some a → F a.block
structure Rm (w : World) (base E : Nat) (m : RMem) (F : Nat → Prop) : Prop where
  e : Bk w E 81 m.cells
  f : RF w base m.FA m.fc m.fates m.SA m.sc m.strays F
  l : RL w base m.LA m.lc m.l F
  q : RQ w base m.qA m.qc m.q F
  FE : F E
  fb : ∀ k, F k → base ≤ k ∧ k < w.heap.size
  bs : base ≤ w.heap.size
section
variable {w w' w'' : World} {base E : Nat} {m : RMem} {F F' S T : Nat → Prop} {FA SA LA : Option Addr} {fc sc lc : Nat} {fates : List FT} {strays : List SY} {l : List GX} {qA : Nat → Option Addr} {qc : Nat → Nat} {q : Nat → List BX}
theorem FX.mono {A : Option Addr} {n c : Nat} {x : List UInt8} (h : FX w base F A n c x) (hF : ∀ k, F k → F' k) : FX w base F' A n c x := ⟨h.1, fun a ha => hF _ (h.2 a ha)⟩
theorem FX.chg {A : Option Addr} {n c : Nat} {x : List UInt8} (h : FX w base F A n c x) (hc : Chg S w w') (hS : ∀ k, F k → Ty w k 5 → ¬ S k) : FX w' base F A n c x :=
  ⟨h.1.chg hc fun a ha => hS _ (h.2 a ha) (own_ty h.1.1 (own_b1 ha)).1, h.2⟩
theorem RF.mono (h : RF w base FA fc fates SA sc strays F) (hF : ∀ k, F k → F' k) : RF w base FA fc fates SA sc strays F' :=
  ⟨h.f, h.s, fun y hy => (h.x y hy).mono hF, fun a ha => hF _ (h.FF a ha), fun a ha => hF _ (h.FS a ha)⟩
theorem RL.mono (h : RL w base LA lc l F) (hF : ∀ k, F k → F' k) : RL w base LA lc l F' :=
  ⟨h.ow, fun y hy => (h.x y hy).mono hF, fun a ha => hF _ (h.FL a ha)⟩
theorem RQ.mono (h : RQ w base qA qc q F) (hF : ∀ k, F k → F' k) : RQ w base qA qc q F' :=
  ⟨h.qr, h.nd, fun k hk y hy => (h.x k hk y hy).mono hF, fun k hk a ha => hF _ (h.FQ k hk a ha)⟩
theorem RF.chg (h : RF w base FA fc fates SA sc strays F) (hc : Chg S w w') (hS : ∀ k, F k → Ty w k 53 ∨ Ty w k 45 ∨ Ty w k 5 → ¬ S k) : RF w' base FA fc fates SA sc strays F :=
  ⟨hc.own h.f fun a ha => hS _ (h.FF a ha) (.inl (own_ty h.f (own_b1 ha)).1), hc.own h.s fun a ha => hS _ (h.FS a ha) (.inr (.inl (own_ty h.s (own_b1 ha)).1)), fun y hy => (h.x y hy).chg hc fun k hk ht => hS k hk (.inr (.inr ht)), h.FF, h.FS⟩
theorem RL.chg (h : RL w base LA lc l F) (hc : Chg S w w') (hS : ∀ k, F k → Ty w k 92 ∨ Ty w k 5 → ¬ S k) : RL w' base LA lc l F :=
  ⟨hc.own h.ow fun a ha => hS _ (h.FL a ha) (.inl (own_ty h.ow (own_b1 ha)).1), fun y hy => (h.x y hy).chg hc fun k hk ht => hS k hk (.inr ht), h.FL⟩
theorem RQ.rowTy (h : RQ w base qA qc q F) {k : Nat} (hk : k < 2) {a : Addr} (ha : qA k = some a) : Ty w a.block 32 ∧ base ≤ a.block := (h.qr k hk).ty (own_b1 ha)
theorem RQ.chg (h : RQ w base qA qc q F) (hc : Chg S w w') (hS : ∀ k, F k → Ty w k 32 ∨ Ty w k 5 → ¬ S k) : RQ w' base qA qc q F :=
  ⟨fun k hk => (h.qr k hk).chg hc fun g hg => by
      cases hA : qA k with
      | none => rw [hA] at hg; cases hg
      | some a => rw [hA] at hg; injection hg with hg; subst hg; exact hS _ (h.FQ k hk a hA) (.inl (h.rowTy hk hA).1),
    h.nd, fun k hk y hy => (h.x k hk y hy).chg hc fun k hk ht => hS k hk (.inr ht), h.FQ⟩
theorem Rm.ty (h : Rm w base E m F) : Ty w E 81 := ⟨_, h.e⟩
/-- What else changes leaves it as it was. -/
theorem Rm.other (h : Rm w base E m F) (hc : Chg S w w') (hS : ∀ k, F k → ¬ S k) : Rm w' base E m F :=
  ⟨hc.bk h.e (hS _ h.FE), h.f.chg hc fun k hk _ => hS k hk, h.l.chg hc fun k hk _ => hS k hk, h.q.chg hc fun k hk _ => hS k hk, h.FE, fun k hk => by have := h.fb k hk; have := hc.size; omega, Nat.le_trans h.bs hc.size⟩
theorem Rm.below (h : Rm w base E m F) (hb : Below w.heap.size w w') : Rm w' base E m F := h.other (Chg.of_below (S := fun _ => False) hb) fun _ _ x => x
/-- A change of its block alone. -/
theorem Rm.atE (h : Rm w base E m F) {m' : RMem} (i : Nat) (v : Value) (hm : m'.cells = m.cells.set i v) (h1 : m'.FA = m.FA ∧ m'.fc = m.fc ∧ m'.fates = m.fates ∧ m'.SA = m.SA ∧ m'.sc = m.sc ∧ m'.strays = m.strays) (h2 : m'.LA = m.LA ∧ m'.lc = m.lc ∧ m'.l = m.l) (h3 : m'.qA = m.qA ∧ m'.qc = m.qc ∧ m'.q = m.q) :
    Rm (w.setCell ⟨E, i, none⟩ v) base E m' F ∧ Chg F w (w.setCell ⟨E, i, none⟩ v) := by
  have hc : Chg (fun k => k = E) w (w.setCell ⟨E, i, none⟩ v) := (Chg.refl (fun k => k = E) w).set_ rfl i v
  have ne : ∀ {k : Nat} {t : TypeId}, Ty w k t → t ≠ 81 → ¬ k = E := fun ht hne e => ht.ne h.ty hne e
  refine ⟨⟨?_, ?_, ?_, ?_, h.FE, fun k hk => by have := h.fb k hk; have := hc.size; omega, Nat.le_trans h.bs hc.size⟩, hc.mono fun k _ e => e ▸ h.FE⟩
  · rw [hm]; exact h.e.set_ i v
  · obtain ⟨e1, e2, e3, e4, e5, e6⟩ := h1
    rw [e1, e2, e3, e4, e5, e6]
    exact h.f.chg hc fun k _ ht => by rcases ht with ht | ht | ht <;> exact ne ht (by decide)
  · obtain ⟨e1, e2, e3⟩ := h2
    rw [e1, e2, e3]
    exact h.l.chg hc fun k _ ht => by rcases ht with ht | ht <;> exact ne ht (by decide)
  · obtain ⟨e1, e2, e3⟩ := h3
    rw [e1, e2, e3]
    exact h.q.chg hc fun k _ ht => by rcases ht with ht | ht <;> exact ne ht (by decide)
/-- What is there is the ether's, or new. -/
def Grow (F : Nat → Prop) (w w' : World) (k : Nat) : Prop := F k ∨ (w.heap.size ≤ k ∧ k < w'.heap.size)
theorem Grow.le (k : Nat) (h : F k) : Grow F w w' k := .inl h
/-- Another list of what is under way. -/
theorem Rm.putL (h : Rm w base E m F) (hc : Chg T w w') (hT : ∀ k, T k → k < w.heap.size → k ∈ blk m.LA) {A' : Option Addr} {c' : Nat} {l' : List GX} (hl : RL w' base A' c' l' (Grow F w w')) :
    Rm (w'.setCell ⟨E, 5, none⟩ (.slice A' l'.length c')) base E { m with LA := A', lc := c', l := l' } (Grow F w w') ∧ Chg F w (w'.setCell ⟨E, 5, none⟩ (.slice A' l'.length c')) := by
  have hz := hc.size
  have hTy : ∀ {k : Nat} {t : TypeId}, Ty w k t → t ≠ 92 → ¬ T k := fun {k t} ht hne hk => by
    obtain ⟨cs, hb⟩ := ht
    obtain ⟨a, ha, e⟩ := mem_blk.1 (hT k hk hb.lt)
    subst e
    exact (own_ty h.l.ow (own_b1 ha)).1.ne ⟨cs, hb⟩ (Ne.symm hne) rfl
  have hE : Bk w' E 81 m.cells := hc.bk h.e (hTy h.ty (by decide))
  have hcE : Chg (fun k => k = E) w' (w'.setCell ⟨E, 5, none⟩ (.slice A' l'.length c')) := (Chg.refl (fun k => k = E) w').set_ rfl _ _
  have ne : ∀ {k : Nat} {t : TypeId}, Ty w' k t → t ≠ 81 → ¬ k = E := fun ht hne e => ht.ne ⟨_, hE⟩ hne e
  have hcT : Chg F w w' := hc.mono fun k hk ht => by
    obtain ⟨a, ha, e⟩ := mem_blk.1 (hT k ht hk)
    subst e
    exact h.l.FL a ha
  have hz' := hcE.size
  refine ⟨⟨hE.set_ 5 _, ?_, ?_, ?_, .inl h.FE, fun k hk => ?_, by have := h.bs; omega⟩, hcT.trans hcE fun k _ e => e ▸ h.FE⟩
  · exact ((h.f.chg hc fun k _ ht => by rcases ht with ht | ht | ht <;> exact hTy ht (by decide)).mono Grow.le).chg hcE fun k _ ht => by rcases ht with ht | ht | ht <;> exact ne ht (by decide)
  · exact hl.chg hcE fun k _ ht => by rcases ht with ht | ht <;> exact ne ht (by decide)
  · exact ((h.q.chg hc fun k _ ht => by rcases ht with ht | ht <;> exact hTy ht (by decide)).mono Grow.le).chg hcE fun k _ ht => by rcases ht with ht | ht <;> exact ne ht (by decide)
  · rcases hk with hk | hk
    · have := h.fb k hk; omega
    · have := h.bs; omega
/-- Another box. -/
theorem Rm.putQ (h : Rm w base E m F) {k : Nat} (hk : k < 2) (hc : Chg T w w') (hT : ∀ j, T j → j < w.heap.size → j ∈ blk (m.qA k)) {A' : Option Addr} {c' : Nat} {l' : List BX} (hq : QRow w' base (.slice A' l'.length c') l'.length (l'.map BX.v))
    (hat : ∀ a, A' = some a → a.block ∈ blk (m.qA k) ∨ (w.heap.size ≤ a.block)) (hx : ∀ b ∈ l', FX w' base (Grow F w w') b.A b.n b.c b.x) :
    Rm (w'.setCell ⟨E, 6 + k, none⟩ (.slice A' l'.length c')) base E { m with qA := upd m.qA k A', qc := upd m.qc k c', q := upd m.q k l' } (Grow F w w') ∧ Chg F w (w'.setCell ⟨E, 6 + k, none⟩ (.slice A' l'.length c')) := by
  have hz := hc.size
  have hTy : ∀ {j : Nat} {t : TypeId}, Ty w j t → t ≠ 32 → ¬ T j := fun {j t} ht hne hj => by
    obtain ⟨cs, hb⟩ := ht
    obtain ⟨a, ha, e⟩ := mem_blk.1 (hT j hj hb.lt)
    subst e
    exact (h.q.rowTy hk ha).1.ne ⟨cs, hb⟩ (Ne.symm hne) rfl
  have hE : Bk w' E 81 m.cells := hc.bk h.e (hTy h.ty (by decide))
  have hcE : Chg (fun j => j = E) w' (w'.setCell ⟨E, 6 + k, none⟩ (.slice A' l'.length c')) := (Chg.refl (fun j => j = E) w').set_ rfl _ _
  have ne : ∀ {j : Nat} {t : TypeId}, Ty w' j t → t ≠ 81 → ¬ j = E := fun ht hne e => ht.ne ⟨_, hE⟩ hne e
  have hcT : Chg F w w' := hc.mono fun j hj ht => by
    obtain ⟨a, ha, e⟩ := mem_blk.1 (hT j ht hj)
    subst e
    exact h.q.FQ k hk a ha
  have hz' := hcE.size
  have hother : ∀ j, j < 2 → j ≠ k → QRow w' base (.slice (m.qA j) (m.q j).length (m.qc j)) (m.q j).length ((m.q j).map BX.v) := fun j hj hjk => (h.q.qr j hj).chg hc fun g hg ht => by
    cases hA : m.qA j with
    | none => rw [hA] at hg; cases hg
    | some a =>
      rw [hA] at hg; injection hg with hg; subst hg
      obtain ⟨⟨cs, hb⟩, _⟩ := h.q.rowTy hj hA
      obtain ⟨a', ha', e'⟩ := mem_blk.1 (hT _ ht hb.lt)
      rcases (show (j = 0 ∧ k = 1) ∨ (j = 1 ∧ k = 0) by omega) with ⟨rfl, rfl⟩ | ⟨rfl, rfl⟩
      · exact h.q.nd a a' hA ha' e'.symm
      · exact h.q.nd a' a ha' hA e'
  have apart : ∀ j, j < 2 → j ≠ k → ∀ a a1, m.qA j = some a → A' = some a1 → a.block ≠ a1.block := fun j hj hjk a a1 ha ha1 e => by
    rcases hat a1 ha1 with h1 | h1
    · obtain ⟨a', ha', e'⟩ := mem_blk.1 h1
      rcases (show (j = 0 ∧ k = 1) ∨ (j = 1 ∧ k = 0) by omega) with ⟨rfl, rfl⟩ | ⟨rfl, rfl⟩
      · exact h.q.nd a a' ha ha' (e.trans e'.symm)
      · exact h.q.nd a' a ha' ha (e'.trans e.symm)
    · obtain ⟨⟨cs, h2⟩, _⟩ := h.q.rowTy hj ha
      have := h2.lt
      omega
  have hA'F : ∀ a, A' = some a → Grow F w w' a.block := fun a ha => by
    rcases hat a ha with h1 | h1
    · obtain ⟨a', ha', e'⟩ := mem_blk.1 h1
      rw [← e']; exact .inl (h.q.FQ k hk a' ha')
    · obtain ⟨⟨cs, hb⟩, _⟩ := hq.ty (own_b1 ha)
      exact .inr ⟨h1, hb.lt⟩
  have hQ : RQ w' base (upd m.qA k A') (upd m.qc k c') (upd m.q k l') (Grow F w w') := by
    refine ⟨fun j hj => ?_, ?_, fun j hj b hb => ?_, fun j hj a ha => ?_⟩
    · by_cases hjk : j = k
      · subst hjk; rw [upd_self, upd_self, upd_self]; exact hq
      · rw [upd_ne _ _ hjk, upd_ne _ _ hjk, upd_ne _ _ hjk]; exact hother j hj hjk
    · intro a0 a1 h0 h1
      rcases (show k = 0 ∨ k = 1 by omega) with rfl | rfl
      · rw [upd_self] at h0
        rw [upd_ne _ _ (by decide)] at h1
        exact fun e => apart 1 (by decide) (by decide) a1 a0 h1 h0 e.symm
      · rw [upd_self] at h1
        rw [upd_ne _ _ (by decide)] at h0
        exact apart 0 (by decide) (by decide) a0 a1 h0 h1
    · by_cases hjk : j = k
      · subst hjk; rw [upd_self] at hb; exact hx b hb
      · rw [upd_ne _ _ hjk] at hb
        exact ((h.q.x j hj b hb).chg hc fun i _ ht => hTy ht (by decide)).mono Grow.le
    · by_cases hjk : j = k
      · subst hjk; rw [upd_self] at ha; exact hA'F a ha
      · rw [upd_ne _ _ hjk] at ha; exact .inl (h.q.FQ j hj a ha)
  refine ⟨⟨?_, ?_, ?_, ?_, .inl h.FE, fun j hj => ?_, by have := h.bs; omega⟩, hcT.trans hcE fun j _ e => e ▸ h.FE⟩
  · have := hE.set_ (6 + k) (.slice A' l'.length c')
    rcases (show k = 0 ∨ k = 1 by omega) with rfl | rfl
    · exact this
    · exact this
  · exact ((h.f.chg hc fun k _ ht => by rcases ht with ht | ht | ht <;> exact hTy ht (by decide)).mono Grow.le).chg hcE fun k _ ht => by rcases ht with ht | ht | ht <;> exact ne ht (by decide)
  · exact ((h.l.chg hc fun k _ ht => by rcases ht with ht | ht <;> exact hTy ht (by decide)).mono Grow.le).chg hcE fun k _ ht => by rcases ht with ht | ht <;> exact ne ht (by decide)
  · exact hQ.chg hcE fun k _ ht => by rcases ht with ht | ht <;> exact ne ht (by decide)
  · rcases hj with hj | hj
    · have := h.fb j hj; omega
    · have := h.bs; omega
end
/-- What memory says. -/
structure AbR (m : RMem) (s : ES) : Prop where
  fates : s.fates = m.fates.drop m.sent
  strays : s.strays = m.strays.map SY.t
  now : s.now = m.now
  number : s.number = m.numbered
  lost : s.lost = m.gone
  sky : s.sky = m.l.map GX.g
  b0 : s.b0 = (m.q 0).map BX.x
  b1 : s.b1 = (m.q 1).map BX.x
/-- The document's ether in memory: at most N were sent. -/
def Rw (w : World) (base E : Nat) (s : ES) (N : Nat) (F : Nat → Prop) : Prop := ∃ m, Rm w base E m F ∧ AbR m s ∧ m.sent ≤ N
def RTo (base E : Nat) (s' : ES) (N : Nat) (F : Nat → Prop) (w w' : World) : Prop := ∃ F', Rw w' base E s' N F' ∧ (∀ k, F' k → F k ∨ w.heap.size ≤ k) ∧ Chg F w w'
theorem Rw.other {w w' : World} {base E N : Nat} {s : ES} {F S : Nat → Prop} (h : Rw w base E s N F) (hc : Chg S w w') (hS : ∀ k, F k → ¬ S k) : Rw w' base E s N F := by
  obtain ⟨m, h1, h2, h3⟩ := h
  exact ⟨m, h1.other hc hS, h2, h3⟩
theorem Rw.below {w w' : World} {base E N : Nat} {s : ES} {F : Nat → Prop} (h : Rw w base E s N F) (hb : Below w.heap.size w w') : Rw w' base E s N F := by
  obtain ⟨m, h1, h2, h3⟩ := h
  exact ⟨m, h1.below hb, h2, h3⟩
theorem Rw.fb {w : World} {base E N : Nat} {s : ES} {F : Nat → Prop} (h : Rw w base E s N F) : ∀ k, F k → base ≤ k ∧ k < w.heap.size := by obtain ⟨m, h1, _⟩ := h; exact h1.fb
theorem RTo.trans {w w' w'' : World} {base E N' : Nat} {s' : ES} {F F' : Nat → Prop} (h1 : ∀ k, F' k → F k ∨ w.heap.size ≤ k) (hc : Chg F w w') (h : RTo base E s' N' F' w' w'') : RTo base E s' N' F w w'' := by
  obtain ⟨F2, g1, g2, g3⟩ := h
  refine ⟨F2, g1, fun k hk => ?_, hc.trans g3 fun k hk hf => ?_⟩
  · rcases g2 k hk with e | e
    · exact h1 k e
    · have := hc.size; exact .inr (by omega)
  · rcases h1 k hf with e | e
    · exact e
    · omega
end Go.Proofs.Ytknpghemogfenaa
