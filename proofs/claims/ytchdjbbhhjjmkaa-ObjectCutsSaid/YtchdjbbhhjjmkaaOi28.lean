/- Chapter 28: parts, the iterator; what lies in Join's variables. -/
import Derived.RangeFuncWrites
import Derived.Test.YtchdjbbhhjjmkaaOs28
namespace Go.Proofs.Ytchdjbbhhjjmkaa
open Go.RowKit Go.Shelf
set_option linter.unusedVariables false
attribute [local go_sem] Oper.semAt_some
set_option maxRecDepth 100000 in
set_option maxHeartbeats 2000000 in
theorem parts_in (n : Nat) (w : World) (z s k d : Int) (At A : Option Addr) (nt ct l cc : Nat) :
    CallsIn Fence.wide n Try.prog 35 #[.agg #[.int .i64 z, .int .i64 s, .int .i64 k, .int .i64 d, .slice At nt ct], .slice A l cc] w fun e w' => e = .returned (.func (.func 51) #[] #[.pointer (some ⟨w.heap.size + 1, 0, none⟩), .pointer (some ⟨w.heap.size, 0, none⟩)]) ∧
      w' = (w.alloc (.cells #[.int .i64 z, .int .i64 s, .int .i64 k, .int .i64 d, .slice At nt ct] 24)).alloc (.cells #[.slice A l cc] 25) := by
  refine callsIn_of_wp Try.func35 rfl trivial ?_ rfl
  simp only [Try.ntmps35, List.size_toArray, List.length_cons, List.length_nil, Nat.reduceAdd, Nat.reduceSub, Array.replicate_succ, Array.replicate_zero, List.push_toArray, List.append_toArray, List.nil_append, List.cons_append]
  gi_wp2
  go_ret
  exact ⟨rfl, rfl⟩
/-- What the iterator reads. -/
structure PtF (w0 : World) (Bm Bl : Nat) (z s k d : Int) (At A : Option Addr) (nt ct l cc : Nat) (W : World) : Prop where
  m : Bk W Bm 24 [.int .i64 z, .int .i64 s, .int .i64 k, .int .i64 d, .slice At nt ct]
  b : Bk W Bl 25 [.slice A l cc]
  o : Below w0.heap.size w0 W
section
variable {Bm Bl : Nat} {z s k d : Int} {t : List Int} {At A : Option Addr} {nt ct l cc : Nat} {vs : List Value} {w0 W W' : World}
theorem PtF.below (h : PtF w0 Bm Bl z s k d At A nt ct l cc W) (hb : Below W.heap.size W W') : PtF w0 Bm Bl z s k d At A nt ct l cc W' :=
  ⟨h.m.belowS hb, h.b.belowS hb, below_base h.o hb h.o.size⟩
theorem PtF.putObj (h : PtF w0 Bm Bl z s k d At A nt ct l cc W) {i : Nat} {o : Obj} (o' : Obj) (hi : w0.heap.size ≤ i) (ho : W.heap[i]? = some o) (hc : o.isCells = false) : PtF w0 Bm Bl z s k d At A nt ct l cc (W.putObj i o') := by
  have hr : ∀ r, some i = some r → ∃ o : Obj, W.heap[r]? = some o ∧ o.isCells = false := fun r e => by cases e; exact ⟨o, ho, hc⟩
  obtain ⟨hch, hbk⟩ := chg_row (grownBy_putObj' W i o') hr
  exact ⟨hch.bk h.m (hbk h.m), hch.bk h.b (hbk h.b), h.o.grown (grownBy_putObj' W i o') h.o.size (fun k e => by cases e; exact hi)⟩
set_option maxRecDepth 100000 in
set_option maxHeartbeats 4000000 in
theorem parts1_in (n : Nat) (hn : 1 ≤ n) (y : Nat) (hm : MA w0 At nt ct ⟨z, s, k, d, t⟩) (hr : Rd w0 A l vs) (xss : List (List UInt8)) (hl : l ≤ 5864062014634) (hv : ∀ x, x < l → ∃ B c, vs[x]? = some (.slice B (xss.getD x []).length c))
    (J Jx : List Nat → World → Prop) (hJ : ∀ pre W W', J pre W → Below W.heap.size W W' → J pre W')
    (hY : ∀ pre x W, x < l → J pre W → pre.length < l → YieldAt Fence.wide (n - 1) Try.prog y #[vs.getD x (.slice none 0 0), .bool (((xss.getD x []).length : Int) == prS ⟨z, s, k, d, t⟩ (x : Int))] W fun e W' =>
      (e = .returned (.bool true) ∧ J (pre ++ [x]) W' ∧ (PtF w0 Bm Bl z s k d At A nt ct l cc W → PtF w0 Bm Bl z s k d At A nt ct l cc W')) ∨ (e = .returned (.bool false) ∧ Jx (pre ++ [x]) W'))
    (W : World) (hF : PtF w0 Bm Bl z s k d At A nt ct l cc W) (h0 : J [] W) :
    CallsIn Fence.wide n Try.prog 51 #[.func (.yield y) #[] #[], .pointer (some ⟨Bl, 0, none⟩), .pointer (some ⟨Bm, 0, none⟩)] W fun e W' => (∃ v, e = .returned v) ∧ (J (List.range l) W' ∨ ∃ pre, (∃ j, j < l ∧ pre = List.range (j + 1)) ∧ Jx pre W') := by
  have c1 := hF.b.cell 0
  have HV := Lib.hid hv
  have HY := Lib.hid hY
  have HJ := Lib.hid hJ
  have HM := Lib.hid (And.intro hm hr)
  have hl' : (l : Int) ≤ 5864062014634 := by omega
  clear hv hY hJ hl hm hr
  refine callsIn_of_wp Try.func51 rfl trivial ?_ rfl
  simp only [Try.ntmps51, List.size_toArray, List.length_cons, List.length_nil, Nat.reduceAdd, Nat.reduceSub, Array.replicate_succ, Array.replicate_zero, List.push_toArray, List.append_toArray, List.nil_append, List.cons_append]
  gi_wp2
  clear c1
  gi_loopw [11] (fun i wr => ∃ j : Nat, j ≤ l ∧ i = .int .i64 (j : Int) ∧ J (List.range j) wr ∧ PtF w0 Bm Bl z s k d At A nt ct l cc wr)
    (fun i _ => l - (intOf i).toNat)
  case atStart => exact ⟨0, Nat.zero_le _, rfl, h0, hF⟩
  case round =>
    obtain ⟨j, hj, rfl, hJs, hPF⟩ := hrel
    by_cases hlt : j < l
    · obtain ⟨a, off, rfl, ha, hcc⟩ := (HM.out.2.below hPF.o).form (by omega)
      obtain ⟨B, c, hv⟩ := HV.out j hlt
      have cx := hcc j _ hv
      have km : (j : Int) < (l : Int) := by omega
      obtain ⟨c0, c1, c2, c3, c4⟩ := cells5 hPF.m
      obtain ⟨L, hL⟩ : ∃ L, (xss.getD j []).length = L := ⟨_, rfl⟩
      rw [hL] at cx hv
      have HW := Lib.hid (And.intro hJs (And.intro hPF (And.intro hlt (And.intro hL (show vs.getD j (.slice none 0 0) = .slice B L c from by rw [List.getD_eq_getElem?_getD, hv]; rfl)))))
      have hR64 := Lib.hid (show R64 (j : Int) from by unfold R64; omega)
      clear hJs hPF hlt hcc ha hj hv hL
      gi_wp2_with (refine ⟨trivial, ?_⟩; gi_at_call 42; refine ((callsIn_wide).2 (part_any (HM.out.1.below HW.out.2.1.o) hR64.out)).mono ?_; rintro e w3 ⟨rfl, hb3⟩)
      obtain ⟨S, hS⟩ : ∃ S, prS ⟨z, s, k, d, t⟩ (j : Int) = S := ⟨_, rfl⟩
      obtain ⟨fn, tmps, assign, body, hy, hR⟩ := HY.out _ j w3 HW.out.2.2.1 (HJ.out _ _ _ HW.out.1 hb3) (by rw [List.length_range]; exact HW.out.2.2.1)
      rw [HW.out.2.2.2.1, HW.out.2.2.2.2, hS] at hy
      obtain ⟨q, hq⟩ : ∃ q, ((L : Int) == S) = q := ⟨_, rfl⟩
      rw [hq] at hy
      rw [hS]
      have HP := Lib.hid (HW.out.2.1.below hb3)
      clear hb3 hS c0 c1 c2 c3 c4
      gi_wp2
      rw [hq, hy]
      simp only [Oper.uponIn]
      refine ⟨fun _ => hn, hR.mono ?_⟩
      rintro e W3 (⟨rfl, hJ3, hk3⟩ | ⟨rfl, hJx3⟩)
      · have H3 := Lib.hid (And.intro hJ3 (hk3 HP.out))
        clear hJ3 hk3 hR hy
        gi_wp2
        refine ⟨⟨j + 1, by have := HW.out.2.2.1; omega, by go_num, by rw [List.range_succ]; exact H3.out.1, H3.out.2⟩, by have := HW.out.2.2.1; simp [intOf]; omega⟩
      · have H3 := Lib.hid hJx3
        clear hJx3 hR hy
        gi_wp2
        refine bodyPost_ret (results_none rfl _ _ _) rfl ?_
        exact ⟨⟨_, rfl⟩, .inr ⟨_, ⟨j, HW.out.2.2.1, rfl⟩, by rw [List.range_succ]; exact H3.out⟩⟩
    · obtain rfl : j = l := by omega
      have HB := Lib.hid hJs
      clear hlt hj hJs hPF
      gi_wp2
      go_end0
      exact ⟨⟨_, rfl⟩, .inl HB.out⟩
theorem parts_stops (n : Nat) (hn : 1 ≤ n) (hm : MA w0 At nt ct ⟨z, s, k, d, t⟩) (hr : Rd w0 A l vs) (xss : List (List UInt8)) (hl : l ≤ 5864062014634) (hv : ∀ x, x < l → ∃ B c, vs[x]? = some (.slice B (xss.getD x []).length c)) (w : World) (hF : PtF w0 Bm Bl z s k d At A nt ct l cc w) :
    SeqStopsK Fence.wide n Try.prog 51 #[.pointer (some ⟨Bl, 0, none⟩), .pointer (some ⟨Bm, 0, none⟩)] (fun x : Nat => #[vs.getD x (.slice none 0 0), .bool (((xss.getD x []).length : Int) == prS ⟨z, s, k, d, t⟩ (x : Int))])
      (fun W W' => PtF w0 Bm Bl z s k d At A nt ct l cc W → PtF w0 Bm Bl z s k d At A nt ct l cc W') (fun p => p = List.range l) (fun p => ∃ j, j < l ∧ p = List.range (j + 1)) l w := fun y J Jx W hW hJ _ hY h0 => by
  refine (parts1_in n hn y hm hr xss hl hv J Jx (fun pre W W' h hb => hJ pre W W' none h (grownBy_of_below hb) (fun r e => by cases e)) (fun pre x W _ => hY pre x W) W (hF.below hW) h0).mono ?_
  rintro e W' ⟨he, h | ⟨pre, hp, h⟩⟩
  · exact ⟨he, .inl ⟨_, rfl, h⟩⟩
  · exact ⟨he, .inr ⟨pre, hp, h⟩⟩
end
/-- An append inside a fence. -/
theorem wpListIn_append_rd {F : Fence} {n' : Nat} {P : Program} {w : World} {ops : Array Oper} {rest : List Oper} {o : Oper} {a : Act} {Q : Exit → Act → World → Prop} (hgd : o.guard = none) (s x : Operand) (t : TypeId)
    (ho : o.op = .call { callee := .builtin .append, args := #[s, x], argTypes := #[t, t] })
    (base : Nat) (e : TypeId) (i : TypeInfo) (z : Value) (size bytes : Nat) (ht : P.underlying t = some (.slice e)) (hi : P.info? e = some i) (hz : i.zero = some z)
    (hsize : i.size = size) (hby : i.bytes = bytes) (hzs : z.cells.size = size) (hsz : 0 < size)
    (v : Value) (n : Nat) (xs : List Value) (hs : a.eval s = v) (hown : w.ownsRow base e size v n xs)
    (A : Option Addr) (m c : Nat) (news : List Value) (hx : a.eval x = .slice A m c) (hr : Rd w A (m * size) news) (h1 : ∀ u ∈ news, u.oneCell' = true)
    (h63 : n + m ≤ maxLen) (hbytes : (n + m) * bytes ≤ 140737488355328) (hbase : base ≤ w.heap.size)
    (h : ∀ v' w', w'.ownsRow base e size v' (n + m) (xs ++ news) → w.grownBy w' v.ownBlock → (v'.ownBlock = v.ownBlock ∨ v'.ownBlock = some w.heap.size) → wpListIn F n' P ops Q rest (a.put o.dst v') w') :
    wpListIn F n' P ops Q (o :: rest) a w := by
  refine wpListIn_plain hgd fun K hK' => ?_
  obtain ⟨v', w', hrun, h2, h3, h4⟩ := run_append_rd (P := P) w base t o.type e i z size bytes ht hi hz hsize hby hzs hsz v n xs hown A m c news hr h1 h63 hbytes hbase
  unfold Oper.wpIn
  refine ⟨?_, ?_⟩
  · simp [Oper.about, ho, resolve, Target.leads, Sem.run_pure]
  · rw [Oper.semAt_plain F _ _ (by rw [ho]; intro c hc'; cases hc')]
    simp [execOp, ho, resolve, invoke, builtin, hs, hx, hrun, Result.andThen]
    exact hK' _ _ (h v' w' h2 h3 h4)
def flatP (xss : List (List UInt8)) (pre : List Nat) : List UInt8 := (pre.map fun i => xss.getD i []).flatten
theorem flatP_snoc (xss : List (List UInt8)) (pre : List Nat) (x : Nat) : flatP xss (pre ++ [x]) = flatP xss pre ++ xss.getD x [] := by simp [flatP]
theorem flatP_range (xss : List (List UInt8)) : ∀ k, k ≤ xss.length → flatP xss (List.range k) = (xss.take k).flatten
  | 0, _ => by simp [flatP]
  | k + 1, h => by rw [List.range_succ, flatP_snoc, flatP_range xss k (by omega), flat_take_succ (by omega)]
/-- What lies in Join's variables between two rounds. -/
structure JnI (w0 : World) (G1 G2 O Bm Bl : Nat) (z s k d : Int) (t : List Int) (At A : Option Addr) (nt ct l cc : Nat) (xss : List (List UInt8)) (pre : List Nat) (W : World) : Prop where
  r1 : Bk W G1 32 [.slice none 0 0]
  r2 : Bk W G2 33 [.int .i64 0]
  o : ∃ v, Bk W O 32 [v] ∧ W.ownsRow w0.heap.size 5 1 v (flatP xss pre).length (bys (flatP xss pre))
  fit : ∀ i ∈ pre, ((xss.getD i []).length : Int) = prS ⟨z, s, k, d, t⟩ (i : Int)
  bm : Bk W Bm 24 [.int .i64 z, .int .i64 s, .int .i64 k, .int .i64 d, .slice At nt ct]
  bl : Bk W Bl 25 [.slice A l cc]
  b : Below w0.heap.size w0 W
structure JnX (w0 : World) (G1 G2 : Nat) (z s k d : Int) (t : List Int) (xss : List (List UInt8)) (c : Code) (pre : List Nat) (W : World) : Prop where
  c : c = .ret
  p : ∃ ini x, pre = ini ++ [x] ∧ ¬ ((xss.getD x []).length : Int) = prS ⟨z, s, k, d, t⟩ (x : Int)
  r1 : Bk W G1 32 [.slice none 0 0]
  r2 : Bk W G2 33 [.int .i64 2]
  b : Below w0.heap.size w0 W
section
variable {w0 W W' : World} {G1 G2 O Bm Bl : Nat} {z s k d : Int} {t : List Int} {At A : Option Addr} {nt ct l cc : Nat} {xss : List (List UInt8)} {pre : List Nat} {vs : List Value}
theorem JnI.ptF (h : JnI w0 G1 G2 O Bm Bl z s k d t At A nt ct l cc xss pre W) : PtF w0 Bm Bl z s k d At A nt ct l cc W :=
  ⟨h.bm, h.bl, h.b⟩
theorem JnI.grown (h : JnI w0 G1 G2 O Bm Bl z s k d t At A nt ct l cc xss pre W) {row : Option Nat} (hg : W.grownBy W' row) (hr : ∀ r, row = some r → w0.heap.size ≤ r ∧ ∃ o : Obj, W.heap[r]? = some o ∧ o.isCells = false) : JnI w0 G1 G2 O Bm Bl z s k d t At A nt ct l cc xss pre W' := by
  have hr' := fun r e => (hr r e).2
  obtain ⟨hc, hb⟩ := chg_row hg hr'
  obtain ⟨v, hv1, hv2⟩ := h.o
  exact ⟨hc.bk h.r1 (hb h.r1), hc.bk h.r2 (hb h.r2), ⟨v, hc.bk hv1 (hb hv1), own_row hv2 hg hr'⟩, h.fit, hc.bk h.bm (hb h.bm), hc.bk h.bl (hb h.bl), h.b.grown hg h.b.size (fun k e => (hr k e).1)⟩
theorem JnX.grown {c : Code} (h : JnX w0 G1 G2 z s k d t xss c pre W) {row : Option Nat} (hg : W.grownBy W' row) (hr : ∀ r, row = some r → w0.heap.size ≤ r ∧ ∃ o : Obj, W.heap[r]? = some o ∧ o.isCells = false) : JnX w0 G1 G2 z s k d t xss c pre W' := by
  have hr' := fun r e => (hr r e).2
  obtain ⟨hc, hb⟩ := chg_row hg hr'
  exact ⟨h.c, h.p, hc.bk h.r1 (hb h.r1), hc.bk h.r2 (hb h.r2), h.b.grown hg h.b.size (fun k e => (hr k e).1)⟩
theorem JnI.stop (h : JnI w0 G1 G2 O Bm Bl z s k d t At A nt ct l cc xss pre W) {x : Nat} (hfit : ¬ ((xss.getD x []).length : Int) = prS ⟨z, s, k, d, t⟩ (x : Int)) (h1 : w0.heap.size ≤ G1) (h2 : w0.heap.size ≤ G2) (B : Nat) :
    KeepsFrom B W ((W.setCell ⟨G1, 0, none⟩ (.slice none 0 0)).setCell ⟨G2, 0, none⟩ (.int .i64 2)) ∧ JnX w0 G1 G2 z s k d t xss .ret (pre ++ [x]) ((W.setCell ⟨G1, 0, none⟩ (.slice none 0 0)).setCell ⟨G2, 0, none⟩ (.int .i64 2)) := by
  have hne := bk_ne h.r1 h.r2 (by decide)
  have hc1 : Chg (fun j => j = G1) W (W.setCell ⟨G1, 0, none⟩ (.slice none 0 0)) := (Chg.refl (fun j => j = G1) W).set_ (g := G1) (show (fun j => j = G1) G1 from rfl) _ _
  have b1 := h.r1.set_ 0 (.slice none 0 0)
  have b2 := hc1.bk h.r2 (fun e => hne e.symm)
  have hc2 : Chg (fun j => j = G2) (W.setCell ⟨G1, 0, none⟩ (.slice none 0 0)) ((W.setCell ⟨G1, 0, none⟩ (.slice none 0 0)).setCell ⟨G2, 0, none⟩ (.int .i64 2)) := (Chg.refl (fun j => j = G2) _).set_ (g := G2) (show (fun j => j = G2) G2 from rfl) _ _
  exact ⟨((KeepsOthers.setCell _ _ _).trans (KeepsOthers.setCell _ _ _)).from B, ⟨rfl, ⟨pre, x, rfl, hfit⟩, hc2.bk b1 hne, b2.set_ 0 (.int .i64 2), (h.b.setCell (p := ⟨G1, 0, none⟩) h1 _).setCell (p := ⟨G2, 0, none⟩) h2 _⟩⟩
theorem JnI.fin (h : JnI w0 G1 G2 O Bm Bl z s k d t At A nt ct l cc xss pre W) {v : Value} (hv1 : Bk W O 32 [v]) (hv2 : W.ownsRow w0.heap.size 5 1 v (flatP xss pre).length (bys (flatP xss pre))) (h1 : w0.heap.size ≤ G1) (h2 : w0.heap.size ≤ G2) :
    let W1 := (W.setCell ⟨G1, 0, none⟩ v).setCell ⟨G2, 0, none⟩ (.int .i64 0)
    KeepsOthers W W1 ∧ Bk W1 G1 32 [v] ∧ Bk W1 G2 33 [.int .i64 0] ∧ W1.ownsRow w0.heap.size 5 1 v (flatP xss pre).length (bys (flatP xss pre)) ∧ Below w0.heap.size w0 W1 := by
  have hne := bk_ne h.r1 h.r2 (by decide)
  have hc1 : Chg (fun j => j = G1) W (W.setCell ⟨G1, 0, none⟩ v) := (Chg.refl (fun j => j = G1) W).set_ (g := G1) (show (fun j => j = G1) G1 from rfl) _ _
  have b1 := h.r1.set_ 0 v
  have b2 := hc1.bk h.r2 (fun e => hne e.symm)
  have hc2 : Chg (fun j => j = G2) (W.setCell ⟨G1, 0, none⟩ v) ((W.setCell ⟨G1, 0, none⟩ v).setCell ⟨G2, 0, none⟩ (.int .i64 0)) := (Chg.refl (fun j => j = G2) _).set_ (g := G2) (show (fun j => j = G2) G2 from rfl) _ _
  obtain ⟨A6, c6, rfl, _⟩ := own_form hv2
  have o1 := hc1.own hv2 (fun a ha (e : a.block = G1) => bk_apart h.r1 hv2 (by decide) (by rw [ha, ← e]; rfl))
  have o2 := hc2.own o1 (fun a ha (e : a.block = G2) => bk_apart b2 o1 (by decide) (by rw [ha, ← e]; rfl))
  exact ⟨(KeepsOthers.setCell _ _ _).trans (KeepsOthers.setCell _ _ _), hc2.bk b1 hne, b2.set_ 0 (.int .i64 0), o2, (h.b.setCell (p := ⟨G1, 0, none⟩) h1 _).setCell (p := ⟨G2, 0, none⟩) h2 _⟩
/-- One more part. -/
theorem JnI.app (h : JnI w0 G1 G2 O Bm Bl z s k d t At A nt ct l cc xss pre W) {v v' : Value} {w6 : World} {x : Nat} (hv1 : Bk W O 32 [v]) (hv2 : W.ownsRow w0.heap.size 5 1 v (flatP xss pre).length (bys (flatP xss pre)))
    (hown : w6.ownsRow w0.heap.size 5 1 v' ((flatP xss pre).length + (xss.getD x []).length) (bys (flatP xss pre) ++ bys (xss.getD x []))) (hg : W.grownBy w6 v.ownBlock) (hfit : ((xss.getD x []).length : Int) = prS ⟨z, s, k, d, t⟩ (x : Int)) (hOG : O ≠ G1) (hO : w0.heap.size ≤ O) (B : Nat) :
    KeepsFrom B W (w6.setCell ⟨O, 0, none⟩ v') ∧ JnI w0 G1 G2 O Bm Bl z s k d t At A nt ct l cc xss (pre ++ [x]) (w6.setCell ⟨O, 0, none⟩ v') := by
  have hc : Chg (fun b => v.ownBlock = some b) W w6 := Chg.of_grown hg fun k e => e
  have hS : Chg (fun b => b = O) w6 (w6.setCell ⟨O, 0, none⟩ v') := (Chg.refl (fun b => b = O) w6).set_ (g := O) (show (fun b => b = O) O from rfl) _ _
  have nb : ∀ {g : Nat} {e : TypeId} {cs : List Value}, Bk W g e cs → e ≠ 5 → Bk w6 g e cs := fun hk hne => hc.bk hk (bk_apart hk hv2 hne)
  have o6 := nb hv1 (by decide)
  have m6 := nb h.bm (by decide)
  have l6 := nb h.bl (by decide)
  have r6 := nb h.r2 (by decide)
  refine ⟨((KeepsOthers.of_grownBy hg (own_cells hv2)).trans (KeepsOthers.setCell _ _ _)).from B, ?_⟩
  refine ⟨hS.bk (nb h.r1 (by decide)) (fun e => hOG e.symm), hS.bk r6 (fun e => bk_ne r6 o6 (by decide) e), ⟨v', o6.set_ 0 v', ?_⟩, fun i hi => ?_, hS.bk m6 (fun e => bk_ne m6 o6 (by decide) e), hS.bk l6 (fun e => bk_ne l6 o6 (by decide) e), ?_⟩
  · rw [flatP_snoc, List.length_append, bys_append]
    obtain ⟨A6, c6, rfl, _⟩ := own_form hown
    exact hS.own hown fun a ha (e : a.block = O) => bk_apart o6 hown (by decide) (by rw [ha, ← e]; rfl)
  · rcases List.mem_append.1 hi with e | e
    · exact h.fit i e
    · rw [List.mem_singleton] at e; subst e; exact hfit
  · refine hS.below (hc.below h.b (fun b _ e => (hv2.lt b e).1) h.b.size) (fun b _ e => by have e' : b = O := e; omega) ?_
    exact Nat.le_trans h.b.size hc.size
end
end Go.Proofs.Ytchdjbbhhjjmkaa
