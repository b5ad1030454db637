/- TopLeft: chance.fold. TopLeft: chance.in: its iterator. TopLeft: chance: in, row, Cloud, In, Free. TopLeft: chance: row and its iterator; Cloud, In, Free. -/
import Derived.Test.YtlhipaffhehcnaaGreatT26
import Derived.Deep.LoopGhost
namespace Go.Proofs.YtlhipaffhehcnaaGreat
open Go.RowKit Go.Shelf
set_option linter.unusedVariables false
attribute [local go_sem] Oper.semAt_some
/-- Adding up, looked at. -/
def accO (f : Nat → Option Q) : Nat → Option Q
  | 0 => some ⟨0, 1⟩
  | i + 1 => (accO f i).bind fun a => (f i).bind fun m => addO [a, m]
theorem accO_ok {f : Nat → Option Q} {i : Nat} {q : Q} (h : accO f i = some q) : q.ok = true := by
  cases i with
  | zero => injection h with h; rw [← h]; rfl
  | succ i =>
    unfold accO at h
    obtain ⟨a, _, h2⟩ := Option.bind_eq_some_iff.1 h
    obtain ⟨m, _, h4⟩ := Option.bind_eq_some_iff.1 h2
    exact addO_ok h4
/-- Where the last one comes to something, so does each. -/
theorem accO_pre {f : Nat → Option Q} {N : Nat} {q : Q} (h : accO f N = some q) : ∀ i, i ≤ N → ∃ a, accO f i = some a := by
  induction N generalizing q with
  | zero => intro i hi; obtain rfl : i = 0 := by omega
            exact ⟨_, h⟩
  | succ N ih =>
    intro i hi
    rcases Nat.lt_or_ge i (N + 1) with hlt | hge
    · unfold accO at h
      obtain ⟨a, h1, _⟩ := Option.bind_eq_some_iff.1 h
      exact ih h1 i (by omega)
    · obtain rfl : i = N + 1 := by omega
      exact ⟨q, h⟩
theorem accO_step {f : Nat → Option Q} {N : Nat} {q : Q} (h : accO f N = some q) {i : Nat} (hi : i < N) : ∃ a m b, accO f i = some a ∧ f i = some m ∧ addO [a, m] = some b ∧ accO f (i + 1) = some b := by
  obtain ⟨b, hb⟩ := accO_pre h (i + 1) (by omega)
  have hb' := hb
  unfold accO at hb
  obtain ⟨a, h1, h2⟩ := Option.bind_eq_some_iff.1 hb
  obtain ⟨m, h3, h4⟩ := Option.bind_eq_some_iff.1 h2
  exact ⟨a, m, b, h1, h3, h4, hb'⟩
/-- What is yielded: a fraction. -/
def OkQ (f : Nat → Option Q) (i : Nat) (x : Array Value) (W : World) : Prop := ∃ r q, x = #[R3.v r] ∧ f i = some q ∧ QV W r.v q
/-- A fraction is laid into a box. -/
def set3 (W : World) (g : Nat) (r : R3) : World := ((W.setCell ⟨g, 0, none⟩ (.bool r.s)).setCell ⟨g, 1, none⟩ (.slice r.A r.m r.c)).setCell ⟨g, 2, none⟩ (.slice r.B r.n r.d)
theorem chg_set3 (W : World) (g : Nat) (r : R3) : Chg (fun k => k = g) W (set3 W g r) :=
  (((Chg.refl (fun k => k = g) W).set_ (g := g) (show (fun k => k = g) g from rfl) 0 (.bool r.s)).set_ (g := g) (show (fun k => k = g) g from rfl) 1 (.slice r.A r.m r.c)).set_ (g := g) (show (fun k => k = g) g from rfl) 2 (.slice r.B r.n r.d)
theorem Bk.set3 {W : World} {g : Nat} {s : R3} (h : Bk W g 40 s.cells) (r : R3) : Bk (set3 W g r) g 40 r.cells := ((h.set_ 0 (.bool r.s)).set_ 1 (.slice r.A r.m r.c)).set_ 2 (.slice r.B r.n r.d)
theorem QV.set3 {W : World} {g : Nat} {s : R3} {v : Value} {q : Q} (hq : QV W v q) (h : Bk W g 40 s.cells) (r : R3) : QV (set3 W g r) v q := hq.chg h s.no_int (chg_set3 W g r)
theorem keepsFrom_set3 {B : Nat} {W W3 : World} {g : Nat} {s : R3} (hb : Below W.heap.size W W3) (h : Bk W3 g 40 s.cells) (r : R3) : KeepsFrom B W (set3 W3 g r) :=
  (keepsFrom_below hb).trans (keepsFrom_chg (chg_set3 W3 g r) (fun k o e _ hk => by subst e; unfold Bk at h; rw [h] at hk; injection hk with hk; subst hk; rfl))
theorem kq_set3 {B : Nat} {W W3 : World} {g : Nat} {s : R3} (hb : Below W.heap.size W W3) (h : Bk W3 g 40 s.cells) (r : R3) : Kq B (fun k => k = g) W (set3 W3 g r) :=
  (Kq.of_below B hb).left (Kq.of_chg B (chg_set3 W3 g r) (num_of_bk h (fun i x => s.no_int i _ x)))
/-- The boxes of fold. -/
structure FdI (S : Nat → Prop) (f : Nat → Option Q) (w : World) (i : Nat) (W : World) : Prop where
  to_ : ∃ r q, Bk W w.heap.size 40 (R3.cells r) ∧ accO f i = some q ∧ QV W r.v q
  by_ : Bk W (w.heap.size + 1) 70 [.func (.func 150) #[] #[]]
  out : Bk W (w.heap.size + 1 + 1) 40 R3.zero.cells
  chg : Chg S w W
  sz : w.heap.size + 3 ≤ W.heap.size
theorem FdI.kq {S T : Nat → Prop} {f : Nat → Option Q} {w W W' : World} {i B : Nat} (h : FdI S f w i W) (hB : w.heap.size ≤ B) (hk : Kq B T W W') (hT : ∀ k, T k → S k ∧ k < w.heap.size) : FdI S f w i W' := by
  obtain ⟨r, q, h1, h2, h3⟩ := h.to_
  exact ⟨⟨r, q, hk.bk h1 (fun e => by have := hT _ e; omega), h2, hk.qv h3⟩, hk.bk h.by_ (fun e => by have := hT _ e; omega), hk.bk h.out (fun e => by have := hT _ e; omega), hk.chg h.chg hB (fun k e => (hT k e).1), Nat.le_trans h.sz hk.size⟩
set_option maxRecDepth 100000 in
set_option maxHeartbeats 4000000 in
/-- chance.fold, of an iterator of fractions, adding up from 0. -/
theorem cfold_any {w : World} {gf : Nat} {lb : Array Value} {v0 : Value} {S : Nat → Prop} {f : Nat → Option Q} {N : Nat} {t : Q} (h0 : QV w v0 ⟨0, 1⟩) (ht : accO f N = some t) (eg : ∀ args w, (callFunc gf args).run Tryz.prog w = .ok (.enter gf args) w) (hS : ∀ k, S k → k < w.heap.size)
    (hit : ∀ W, Below w.heap.size w W → IterN Fence.wide 4 Tryz.prog gf lb W.heap.size S (fun k => k = w.heap.size) (OkQ f) N W) :
    Calls Tryz.prog 147 #[.func (.func gf) #[] lb, v0, .func (.func 150) #[] #[]] w fun e w' => ∃ v, e = .returned v ∧ QV w' v t ∧ Chg S w w' := by
  obtain ⟨r0, rfl⟩ := h0.r3
  refine (callsIn_wide (n := 5)).1 ?_
  have HH := Lib.hid (And.intro h0 (And.intro ht (And.intro hS hit)))
  obtain ⟨w1, hw1⟩ : ∃ w1, ((w.alloc (.cells #[.bool r0.s, .slice r0.A r0.m r0.c, .slice r0.B r0.n r0.d] 40)).alloc (.cells #[.func (.func 150) #[] #[]] 70)).alloc (.cells #[.bool false, .slice none 0 0, .slice none 0 0] 40) = w1 := ⟨_, rfl⟩
  have hb1 : Below w.heap.size w w1 := by rw [← hw1]; exact (((Below.refl _ _).alloc (Nat.le_refl _) _).alloc (by simp) _).alloc (by simp; omega) _
  have k0 : Bk w1 w.heap.size 40 r0.cells := by rw [← hw1]; exact ((Bk.newA w 40 #[.bool r0.s, .slice r0.A r0.m r0.c, .slice r0.B r0.n r0.d]).alloc _).alloc _
  have k1 : Bk w1 (w.heap.size + 1) 70 [.func (.func 150) #[] #[]] := by
    have := (Bk.newA (w.alloc (.cells #[.bool r0.s, .slice r0.A r0.m r0.c, .slice r0.B r0.n r0.d] 40)) 70 #[.func (.func 150) #[] #[]]).alloc (.cells #[.bool false, .slice none 0 0, .slice none 0 0] 40)
    rw [World.size_alloc] at this
    rw [← hw1]; exact this
  have k2 : Bk w1 (w.heap.size + 1 + 1) 40 R3.zero.cells := by
    have := Bk.newA ((w.alloc (.cells #[.bool r0.s, .slice r0.A r0.m r0.c, .slice r0.B r0.n r0.d] 40)).alloc (.cells #[.func (.func 150) #[] #[]] 70)) 40 #[.bool false, .slice none 0 0, .slice none 0 0]
    rw [World.size_alloc, World.size_alloc] at this
    rw [← hw1]; exact this
  have hs1 : w.heap.size + 3 = w1.heap.size := by rw [← hw1]; simp
  have HI := Lib.hid (show FdI S f w 0 w1 from ⟨⟨r0, ⟨0, 1⟩, k0, rfl, h0.below hb1⟩, k1, k2, Chg.of_below hb1, Nat.le_of_eq hs1⟩)
  have HB := Lib.hid (And.intro hb1 hs1)
  clear h0 ht hS hit hb1 k0 k1 k2 hs1
  unfold R3.v
  refine callsIn_of_wp_marks Tryz.func147 rfl trivial ?_ rfl
  simp only [Tryz.ntmps147, List.size_toArray, List.length_cons, List.length_nil, Nat.reduceAdd, Nat.reduceSub, Array.replicate_succ, Array.replicate_zero, List.push_toArray, List.append_toArray, List.nil_append, List.cons_append]
  gi_wp2
  refine range_st S (fun k => k = w.heap.size) rfl (by decide) (gf := gf) (lb := lb) rfl trivial eg (fun i W => FdI S f w i W) (OkQ f) N (fun _ _ => False) ?hps ?hI ?hI0 (fun _ _ _ h _ => h.elim) (fun _ _ _ h _ => h.elim) HI.out (HH.out.2.2.2 w1 HB.out.1)
    (fun i x a' W => ∃ gx r q, x = #[R3.v r] ∧ f i = some q ∧ QV W r.v q ∧ Bk W gx 40 r.cells ∧ w1.heap.size ≤ gx ∧ a' = { tmps := #[.func (.func gf) #[] lb, .agg #[.bool r0.s, .slice r0.A r0.m r0.c, .slice r0.B r0.n r0.d], .func (.func 150) #[] #[], undef, .pointer (some ⟨w.heap.size, 0, none⟩), .pointer (some ⟨w.heap.size + 1, 0, none⟩), .pointer (some ⟨w.heap.size + 1 + 1, 0, none⟩), .pointer (some ⟨gx, 0, none⟩), .func (.func gf) #[] lb, .agg #[.bool r.s, .slice r.A r.m r.c, .slice r.B r.n r.d], undef, undef, undef, undef, undef], defers := [] }) ?hAx ?hassign ?hbody ?hdone ?hstop
  case hps =>
    rintro i x W ⟨r, q, rfl, _, _⟩
    rfl
  case hI => exact fun i W W' h hk => h.kq (by have := HB.out; omega) hk (fun k hs => ⟨hs, HH.out.2.2.1 k hs⟩)
  case hI0 => exact fun i W W' h hk => h.kq (by have := HB.out; omega) hk (fun k hs => hs.elim)
  case hAx =>
    rintro i x a' W W' ⟨gx, r, q, h1, h2, h3, h4, h5, h6⟩ hk
    exact ⟨gx, r, q, h1, h2, hk.qv h3, hk.bk h4 (fun e => e), h5, h6⟩
  case hassign =>
    intro l i x W K hIW hok hK
    obtain ⟨r, q, rfl, hf, hq⟩ := hok
    have HK := Lib.hid hK
    have HX := Lib.hid (And.intro hIW (And.intro hf hq))
    clear hK hIW hf hq
    unfold R3.v
    gi_wp2
    have hbl : Below W.heap.size W (W.alloc (.cells #[.bool r.s, .slice r.A r.m r.c, .slice r.B r.n r.d] 40)) := (Below.refl _ _).alloc (Nat.le_refl _) _
    obtain ⟨r4, q4, k4, _, _⟩ := HX.out.1.to_
    refine HK.out _ _ (keepsFrom_below hbl) ((Kq.of_below _ hbl).widen (num_of_bk k4 (fun i x => r4.no_int i _ x))) (HX.out.1.kq (by have := HB.out; omega) (Kq.of_below w1.heap.size hbl) (fun k hs => hs.elim)) ⟨W.heap.size, r, q, rfl, HX.out.2.1, HX.out.2.2.below hbl, Bk.newA W 40 #[.bool r.s, .slice r.A r.m r.c, .slice r.B r.n r.d], ?_, rfl⟩
    have := HX.out.1.sz
    have := HB.out.2
    omega
  case hbody =>
    rintro l i x a' W hl hr hiN hIW ⟨gx, r, q, rfl, hf, hq, hgx, hgx2, rfl⟩
    obtain ⟨rt, qt, kt, hqt, hvt⟩ := hIW.to_
    obtain ⟨a, m, b, ha, hm, hab, hb⟩ := accO_step HH.out.2.1 hiN
    obtain rfl : qt = a := by rw [hqt] at ha; injection ha
    obtain rfl : q = m := by rw [hf] at hm; injection hm
    have HP := Lib.hid (cplus_any hvt hq hab)
    have HX := Lib.hid (And.intro hIW (And.intro kt (And.intro hb (And.intro hgx hgx2))))
    have c5 := hIW.by_.cell 0
    obtain ⟨t0, t1, t2, u0, u1, u2⟩ := cells_rat kt
    obtain ⟨x0, x1, x2, _, _, _⟩ := cells_rat hgx
    clear hIW kt hqt hvt ha hm hab hb hf hq hgx hgx2 hr
    gi_wp2_with (refine ⟨trivial, (CallsIn.inRound l ((callsIn_wide).2 HP.out)).mono ?_⟩; rintro e w3 ⟨v3, rfl, hv3, hb3⟩; obtain ⟨s3, rfl⟩ := hv3.r3; have k3 := HX.out.2.1.belowS hb3; have q3 := cells_rat k3; obtain ⟨_, _, _, u0, u1, u2⟩ := q3; have HV := Lib.hid (And.intro hv3 (And.intro hb3 k3)); clear hv3 hb3 k3; unfold R3.v)
    obtain ⟨hv3, hb3, k3⟩ := HV.out
    refine ⟨keepsFrom_set3 hb3 k3 s3, kq_set3 hb3 k3 s3, ⟨⟨s3, b, k3.set3 s3, HX.out.2.2.1, hv3.set3 k3 s3⟩, ?_, ?_, ?_, ?_⟩⟩
    · exact (chg_set3 w3 w.heap.size s3).bk (HX.out.1.by_.belowS hb3) (by omega)
    · exact (chg_set3 w3 w.heap.size s3).bk (HX.out.1.out.belowS hb3) (by omega)
    · exact ((HX.out.1.chg).trans (Chg.of_below (S := S) hb3) (fun _ _ h => h)).trans (chg_set3 w3 w.heap.size s3) (fun k hk e => by omega)
    · exact Nat.le_trans HX.out.1.sz (Nat.le_trans hb3.size (chg_set3 w3 w.heap.size s3).size)
  case hdone =>
    intro D W hD hIW hKD
    obtain ⟨rt, qt, kt, hqt, hvt⟩ := hIW.to_
    obtain rfl : qt = t := by have := HH.out.2.1; rw [hqt] at this; injection this
    obtain ⟨t0, t1, t2, _, _, _⟩ := cells_rat kt
    obtain ⟨_, _, _, u0, u1, u2⟩ := cells_rat hIW.out
    have HW := Lib.hid (And.intro hIW (And.intro hvt (And.intro hKD hD)))
    clear hIW kt hqt hvt hKD hD
    gi_wp2
    obtain ⟨hIW, hvt, hKD, hD⟩ := HW.out
    have hkd : (set3 W (w.heap.size + 1 + 1) rt).heap[D]? = some (.deferred (some [])) := by
      refine (((chg_set3 W (w.heap.size + 1 + 1) rt)).2 D (Array.getElem?_eq_some_iff.1 hKD).1 (fun e => ?_)).trans hKD
      have := HB.out.2
      omega
    have hkq : Kq w1.heap.size Nq (set3 W (w.heap.size + 1 + 1) rt) ((set3 W (w.heap.size + 1 + 1) rt).putObj D (.deferred none)) := Kq.put hD hkd rfl
    refine ⟨by simp, .inl ⟨_, _, rfl, run_takeDeferred hkd, ?_⟩⟩
    refine ⟨rt.v, ret_rat27 rfl rfl (hkq.bk (hIW.out.set3 rt) (fun e => e)), rt.v, rfl, hkq.qv (hvt.set3 hIW.out rt), ?_⟩
    refine hkq.chg (hIW.chg.trans (chg_set3 W (w.heap.size + 1 + 1) rt) (fun k hk e => by omega)) ?_ (fun k e => e.elim)
    have := HB.out.2
    omega
  case hstop => exact fun D c W _ h _ => h.elim
end Go.Proofs.YtlhipaffhehcnaaGreat
namespace Go.Proofs.YtlhipaffhehcnaaGreat
open Go.RowKit Go.Shelf
set_option linter.unusedVariables false
attribute [local go_sem] Oper.semAt_some
/-- What in's iterator reads. -/
structure InF (A : Option Addr) (n c : Nat) (t : List Nat) (k u j b4 b9 b5 b6 b7 : Nat) (W : World) : Prop where
  h4 : Bk W b4 22 [.slice A n c]
  h9 : Bk W b9 3 [.int .i64 (t.sum : Nat)]
  h5 : Bk W b5 3 [.int .i64 (k : Nat)]
  h6 : Bk W b6 3 [.int .i64 (u : Nat)]
  h7 : Bk W b7 3 [.int .i64 (j : Nat)]
  tb : Tb W A n t
section
variable {A : Option Addr} {n c : Nat} {t : List Nat} {k u j b4 b9 b5 b6 b7 : Nat} {W W' : World}
theorem InF.below (h : InF A n c t k u j b4 b9 b5 b6 b7 W) (hb : Below W.heap.size W W') : InF A n c t k u j b4 b9 b5 b6 b7 W' :=
  ⟨h.h4.belowS hb, h.h9.belowS hb, h.h5.belowS hb, h.h6.belowS hb, h.h7.belowS hb, h.tb.below hb⟩
theorem InF.allocd (h : InF A n c t k u j b4 b9 b5 b6 b7 W) (o : Obj) : InF A n c t k u j b4 b9 b5 b6 b7 (W.alloc o) := h.below ((Below.refl _ _).alloc (Nat.le_refl _) _)
theorem InF.allocD (h : InF A n c t k u j b4 b9 b5 b6 b7 W) (o : Obj) : InF A n c t k u j b4 b9 b5 b6 b7 (W.alloc o).drew := (h.allocd o).below (Below.refl _ _).drew
theorem InF.alloc_below {o : Obj} (h : InF A n c t k u j b4 b9 b5 b6 b7 W) (hb : Below (W.alloc o).heap.size (W.alloc o) W') : InF A n c t k u j b4 b9 b5 b6 b7 W' := (h.allocd o).below hb
theorem InF.kq {B n₀ : Nat} {T : Nat → Prop} (h : InF A n c t k u j b4 b9 b5 b6 b7 W) (hk : Kq B T W W') (hT : ∀ k, T k → n₀ ≤ k) (hb : b4 < n₀ ∧ b9 < n₀ ∧ b5 < n₀ ∧ b6 < n₀ ∧ b7 < n₀ ∧ (∀ a, A = some a → a.block < n₀)) : InF A n c t k u j b4 b9 b5 b6 b7 W' :=
  ⟨hk.bk h.h4 (fun e => by have := hT _ e; omega), hk.bk h.h9 (fun e => by have := hT _ e; omega), hk.bk h.h5 (fun e => by have := hT _ e; omega), hk.bk h.h6 (fun e => by have := hT _ e; omega), hk.bk h.h7 (fun e => by have := hT _ e; omega), hk.tb h.tb (fun a ha e => by have := hT _ e; have := hb.2.2.2.2.2 a ha; omega)⟩
theorem InF.four (h : InF A n c t k u j b4 b9 b5 b6 b7 W) : W.cell? ⟨b9, 0, none⟩ = some (.int .i64 (t.sum : Nat)) ∧ W.cell? ⟨b5, 0, none⟩ = some (.int .i64 (k : Nat)) ∧ W.cell? ⟨b6, 0, none⟩ = some (.int .i64 (u : Nat)) ∧ W.cell? ⟨b7, 0, none⟩ = some (.int .i64 (j : Nat)) := ⟨h.h9.cell 0, h.h5.cell 0, h.h6.cell 0, h.h7.cell 0⟩
end
theorem InF.four3 {A : Option Addr} {n c : Nat} {t : List Nat} {k u j b4 b9 b5 b6 b7 g : Nat} {W : World} {s : R3} (h : InF A n c t k u j b4 b9 b5 b6 b7 W) (hk : Bk W g 40 s.cells) (r : R3) : (((W.setCell ⟨g, 0, none⟩ (.bool r.s)).setCell ⟨g, 1, none⟩ (.slice r.A r.m r.c)).setCell ⟨g, 2, none⟩ (.slice r.B r.n r.d)).cell? ⟨b9, 0, none⟩ = some (.int .i64 (t.sum : Nat)) ∧ (((W.setCell ⟨g, 0, none⟩ (.bool r.s)).setCell ⟨g, 1, none⟩ (.slice r.A r.m r.c)).setCell ⟨g, 2, none⟩ (.slice r.B r.n r.d)).cell? ⟨b5, 0, none⟩ = some (.int .i64 (k : Nat)) ∧ (((W.setCell ⟨g, 0, none⟩ (.bool r.s)).setCell ⟨g, 1, none⟩ (.slice r.A r.m r.c)).setCell ⟨g, 2, none⟩ (.slice r.B r.n r.d)).cell? ⟨b6, 0, none⟩ = some (.int .i64 (u : Nat)) ∧ (((W.setCell ⟨g, 0, none⟩ (.bool r.s)).setCell ⟨g, 1, none⟩ (.slice r.A r.m r.c)).setCell ⟨g, 2, none⟩ (.slice r.B r.n r.d)).cell? ⟨b7, 0, none⟩ = some (.int .i64 (j : Nat)) := by
  have hc := chg_set3 W g r
  exact ⟨(hc.bk h.h9 (h.h9.ne_of_type hk (by decide))).cell 0, (hc.bk h.h5 (h.h5.ne_of_type hk (by decide))).cell 0, (hc.bk h.h6 (h.h6.ne_of_type hk (by decide))).cell 0, (hc.bk h.h7 (h.h7.ne_of_type hk (by decide))).cell 0⟩
section
variable {w0 W W' : World} {o : Obj}
theorem bl_next (h : Below w0.heap.size w0 W) (hb : Below W.heap.size W W') : Below w0.heap.size w0 W' := below_base h hb h.size
theorem bl_allocd (h : Below w0.heap.size w0 W) (o : Obj) : Below w0.heap.size w0 (W.alloc o) := h.alloc h.size _
theorem bl_alloc (h : Below w0.heap.size w0 W) (hb : Below (W.alloc o).heap.size (W.alloc o) W') : Below w0.heap.size w0 W' := bl_next (bl_allocd h o) hb
theorem bl_alloc2 {o2 : Obj} (h : Below w0.heap.size w0 W) (hb : Below ((W.alloc o).alloc o2).heap.size ((W.alloc o).alloc o2) W') : Below w0.heap.size w0 W' := bl_next (bl_allocd (bl_allocd h o) o2) hb
theorem bl_allocD (h : Below w0.heap.size w0 W) (hb : Below (W.alloc o).drew.heap.size (W.alloc o).drew W') : Below w0.heap.size w0 W' := bl_next ((bl_allocd h o).drew) hb
theorem bl_drew (h : Below w0.heap.size w0 W) (hb : Below W.drew.heap.size W.drew W') : Below w0.heap.size w0 W' := bl_next h.drew hb
theorem bl_set3 {g : Nat} (h : Below w0.heap.size w0 W) (hg : w0.heap.size ≤ g) (r : R3) : Below w0.heap.size w0 (set3 W g r) :=
  ((h.setCell (p := ⟨g, 0, none⟩) hg _).setCell (p := ⟨g, 1, none⟩) hg _).setCell (p := ⟨g, 2, none⟩) hg _
theorem zr_a (hl : Below w0.heap.size w0 W) (hb : Below ((W.alloc (.cells #[.bool false, .slice none 0 0, .slice none 0 0] 40)).alloc o).heap.size ((W.alloc (.cells #[.bool false, .slice none 0 0, .slice none 0 0] 40)).alloc o) W') : Bk W' W.heap.size 40 R3.zero.cells ∧ w0.heap.size ≤ W.heap.size := ⟨((Bk.newA W 40 #[.bool false, .slice none 0 0, .slice none 0 0]).alloc o).belowS hb, hl.size⟩
theorem zr_b (hl : Below w0.heap.size w0 W) (hb : Below ((W.alloc o).alloc (.cells #[.bool false, .slice none 0 0, .slice none 0 0] 40)).heap.size ((W.alloc o).alloc (.cells #[.bool false, .slice none 0 0, .slice none 0 0] 40)) W') : Bk W' (W.heap.size + 1) 40 R3.zero.cells ∧ w0.heap.size ≤ W.heap.size + 1 := ⟨(Bk.new2 W o 40 #[.bool false, .slice none 0 0, .slice none 0 0]).belowS hb, Nat.le_succ_of_le hl.size⟩
theorem zr_c {g : Nat} {t : TypeId} {cs : List Value} (hk : Bk W g t cs ∧ w0.heap.size ≤ g) (hb : Below (W.alloc o).heap.size (W.alloc o) W') : Bk W' g t cs ∧ w0.heap.size ≤ g := ⟨(hk.1.alloc o).belowS hb, hk.2⟩
theorem zr_d {g : Nat} {t : TypeId} {cs : List Value} (hk : Bk W g t cs ∧ w0.heap.size ≤ g) (hb : Below W.heap.size W W') : Bk W' g t cs ∧ w0.heap.size ≤ g := ⟨hk.1.belowS hb, hk.2⟩
theorem zr_1 (hl : Below w0.heap.size w0 W) (hb : Below (W.alloc (.cells #[.bool false, .slice none 0 0, .slice none 0 0] 40)).heap.size (W.alloc (.cells #[.bool false, .slice none 0 0, .slice none 0 0] 40)) W') : Bk W' W.heap.size 40 R3.zero.cells ∧ w0.heap.size ≤ W.heap.size := ⟨(Bk.newA W 40 #[.bool false, .slice none 0 0, .slice none 0 0]).belowS hb, hl.size⟩
theorem zr_D (hl : Below w0.heap.size w0 W) (hb : Below (W.alloc (.cells #[.bool false, .slice none 0 0, .slice none 0 0] 40)).drew.heap.size (W.alloc (.cells #[.bool false, .slice none 0 0, .slice none 0 0] 40)).drew W') : Bk W' W.heap.size 40 R3.zero.cells ∧ w0.heap.size ≤ W.heap.size := ⟨(Bk.newA W 40 #[.bool false, .slice none 0 0, .slice none 0 0]).belowS (below_undrew hb), hl.size⟩
end
/-- The terms that in adds up. -/
def inT (t : List Nat) (k u j i : Nat) : Option Q := mulO [qlow ((t.getD i 0 : Nat) : Int) t.sum, meetsQ k u j (i + 1)]
def inO (t : List Nat) (k u j : Nat) : Option Q := accO (inT t k u j) t.length
theorem QR.new2' {w : World} {r s : R3} {a b : Q} {G : Nat} (h1 : QV w r.v a) (h2 : QV w s.v b) (hG : G = w.heap.size) : QR (w.alloc (.cells #[.bool r.s, .slice r.A r.m r.c, .slice r.B r.n r.d, .bool s.s, .slice s.A s.m s.c, .slice s.B s.n s.d] 40)) (some ⟨G, 0, none⟩) 2 [a, b] := by
  subst hG
  exact QR.new2 h1 h2
theorem QV.allocd {w : World} {v : Value} {q : Q} (h : QV w v q) (o : Obj) : QV (w.alloc o) v q := h.below ((Below.refl _ _).alloc (Nat.le_refl _) _)
theorem QR.allocd {w : World} {A : Option Addr} {n : Nat} {qs : List Q} (h : QR w A n qs) (o : Obj) : QR (w.alloc o) A n qs := h.below ((Below.refl _ _).alloc (Nat.le_refl _) _)
set_option maxRecDepth 100000 in
set_option maxHeartbeats 4000000 in
/-- What in hands to fold. -/
theorem in1_iter {w : World} {B n₀ m : Nat} {T : Nat → Prop} {A : Option Addr} {n c : Nat} {t : List Nat} {k u j b4 b9 b5 b6 b7 : Nat} (hm : 2 ≤ m) (h : InF A n c t k u j b4 b9 b5 b6 b7 w) (hk : k ≤ 8) (hu : u ≤ k) (hj : j ≤ 8) (hnk : n ≤ k) (hs : 0 < t.sum)
    (hb : b4 < n₀ ∧ b9 < n₀ ∧ b5 < n₀ ∧ b6 < n₀ ∧ b7 < n₀ ∧ (∀ a, A = some a → a.block < n₀)) (hT : ∀ k, T k → n₀ ≤ k) (hall : ∀ i, i < n → ∃ q, inT t k u j i = some q) :
    IterN Fence.wide m Tryz.prog 148 #[.pointer (some ⟨b4, 0, none⟩), .pointer (some ⟨b9, 0, none⟩), .pointer (some ⟨b5, 0, none⟩), .pointer (some ⟨b6, 0, none⟩), .pointer (some ⟨b7, 0, none⟩)] B Nq T (OkQ (inT t k u j)) n w := by
  intro l J Jx W hkw hJ hJx hY h0
  have hW := h.kq hkw (fun k e => e.elim) hb
  have HH := Lib.hid (And.intro hJ (And.intro hJx (And.intro hY (And.intro hk (And.intro hu (And.intro hj (And.intro hnk (And.intro hs (And.intro hb (And.intro hT (And.intro hall (And.intro h.tb.2.1 h.tb.2.2.1))))))))))))
  have HW := Lib.hid (And.intro hW h0)
  have c4 := hW.h4.cell 0
  clear h hkw hJ hJx hY h0 hk hu hj hnk hs hb hT hall hW
  refine callsIn_of_wp Tryz.func148 rfl trivial ?_ rfl
  simp only [Tryz.ntmps148, List.size_toArray, List.length_cons, List.length_nil, Nat.reduceAdd, Nat.reduceSub, Array.replicate_succ, Array.replicate_zero, List.push_toArray, List.append_toArray, List.nil_append, List.cons_append]
  gi_wp2
  clear c4
  gi_loopw [13] (fun s wr => ∃ i : Nat, i ≤ n ∧ s = .int .i64 (i : Nat) ∧ InF A n c t k u j b4 b9 b5 b6 b7 wr ∧ J i wr) (fun s _ => n - (intOf s).toNat)
  case atStart => exact ⟨0, Nat.zero_le _, rfl, HW.out⟩
  case round =>
    obtain ⟨i, hi, rfl, hI, hJi⟩ := hrel
    have HI := Lib.hid (And.intro hI hJi)
    by_cases hlt : i < n
    · have hl := HH.out.2.2.2.2.2.2.2.2.2.2.2.1
      obtain ⟨b, off, rfl, _, hcc⟩ := hI.tb.form (by omega)
      have cx := hcc i (by omega)
      have hx := hI.tb.get hlt
      have hgd : t.getD i 0 = t[i]'(by omega) := by simp [List.getD_eq_getElem?_getD, show i < t.length by omega]
      have HX := Lib.hid (And.intro hgd hx)
      generalize (t[i]'(by omega)) = x at cx HX
      clear hI hJi hcc hx hgd hl
      gi_wp2
      refine wpIn_wide.2 ?_
      obtain ⟨m1, hm1⟩ := HH.out.2.2.2.2.2.2.2.2.2.2.1 i hlt
      have hm1' := hm1
      unfold inT at hm1'
      rw [HX.out.1] at hm1'
      have hs3 := sum3 (HI.out.1.tb.2.2.2) t.length
      rw [List.take_length] at hs3
      have hw1 : IntKind.i64.wrap ((i : Int) + 1) = ((i + 1 : Nat) : Int) := by rw [IntKind.wrap_i64]; have := HH.out.2.2.2.2.2.2.2.2.2.2.2.2; omega
      have HM := Lib.hid (And.intro hm1 (And.intro hm1' hs3))
      have H0 := Lib.hid HI.out.1
      have H1 := Lib.hid (HI.out.1.below (Below.refl _ _).drew)
      have HE := Lib.hid (Below.refl wr.heap.size wr)
      have hxn := HX.out.2
      clear hm1 hm1' hs3 cx
      go_cut [9] (fun s9 wx => ∃ G r, s9 = .pointer (some ⟨G, 0, none⟩) ∧ Bk wx G 40 (R3.cells r) ∧ QV wx r.v m1 ∧ Below wr.heap.size wr wx)
      case first =>
        have M1 := Lib.hid True.intro
        go_region_held3 (fun w' => w'.cell? ⟨b9, 0, none⟩ = some (.int .i64 (t.sum : Nat)) ∧ w'.cell? ⟨b5, 0, none⟩ = some (.int .i64 (k : Nat)) ∧ w'.cell? ⟨b6, 0, none⟩ = some (.int .i64 (u : Nat)) ∧ w'.cell? ⟨b7, 0, none⟩ = some (.int .i64 (j : Nat)))
          (first | with_reducible exact H4.out.four3 HK.out.1 _ | with_reducible exact (H4.out.allocd _).four | with_reducible exact H4.out.four | with_reducible exact ((H3.out.allocd _).allocd _).four | with_reducible exact (H3.out.allocd _).four | with_reducible exact H3.out.four | with_reducible exact (H2.out.allocd _).four | with_reducible exact H2.out.four | with_reducible exact (H0.out.allocD _).four | with_reducible exact H1.out.four)
          (first
          | (go_at_call 122; clear M1; refine (cpair_any (n := x) (d := t.sum) HH.out.2.2.2.2.2.2.2.1 (by omega) (by have := HM.out; have := HH.out.2.2.2.2.2.2.2.2.2.2.2; omega)).mono ?_; rintro e w2 ⟨v2, rfl, hv2, hb2⟩; (first | have H2 := Lib.hid (H1.out.below hb2) | have H2 := Lib.hid ((H0.out.allocD _).below hb2)); (first | have HK := Lib.hid (zr_D HE.out hb2) | skip); (first | have HE2 := Lib.hid (bl_drew HE.out hb2) | have HE2 := Lib.hid (bl_allocD HE.out hb2)); obtain ⟨r2, rfl⟩ := hv2.r3; have HV2 := Lib.hid hv2; clear hv2 hb2; unfold R3.v)
          | (go_at_call 149; refine (meets_any (k := k) (u := u) (j := j) (d := i + 1) HH.out.2.2.2.1 HH.out.2.2.2.2.1 HH.out.2.2.2.2.2.1 (by have := HH.out.2.2.2.2.2.2.1; omega)).mono ?_; rintro e w3 ⟨v3, rfl, hv3, hb3⟩; (first | have H3 := Lib.hid (H2.out.below hb3) | have H3 := Lib.hid (H2.out.alloc_below hb3)); (first | have HK := Lib.hid (zr_1 HE2.out hb3) | have HK := Lib.hid (zr_d HK.out hb3) | skip); (first | have HE3 := Lib.hid (bl_next HE2.out hb3) | have HE3 := Lib.hid (bl_alloc HE2.out hb3)); (first | have HV23 := Lib.hid (HV2.out.below hb3) | have HV23 := Lib.hid ((HV2.out.allocd _).below hb3)); obtain ⟨r3, rfl⟩ := hv3.r3; have HV3 := Lib.hid hv3; clear hv3 hb3; unfold R3.v)
          | (go_at_call 12; refine (mul_o (qs := [qlow ((x : Nat) : Int) t.sum, meetsQ k u j (i + 1)]) (by first | with_reducible exact QR.new2' HV23.out HV3.out rfl | with_reducible exact QR.new2' (HV23.out.allocd _) (HV3.out.allocd _) (by rw [World.size_alloc]) | with_reducible exact (QR.new2' HV23.out HV3.out rfl).allocd _) (by decide) (Nat.le_refl _) HM.out.2.1).mono ?_; rintro e w4 ⟨v4, rfl, hv4, hb4⟩; (first | have H4 := Lib.hid (H3.out.alloc_below hb4) | have H4 := Lib.hid ((H3.out.allocd _).alloc_below hb4)); (first | have HK := Lib.hid (zr_a HE3.out hb4) | have HK := Lib.hid (zr_b HE3.out hb4) | have HK := Lib.hid (zr_c HK.out hb4) | skip); (first | have HE4 := Lib.hid (bl_alloc2 HE3.out hb4) | have HE4 := Lib.hid (bl_alloc HE3.out hb4)); obtain ⟨r4, rfl⟩ := hv4.r3; have HV4 := Lib.hid hv4; (first | (have q := cells_rat HK.out.1; obtain ⟨q0, q1, q2, s0, s1, s2⟩ := q) | skip); unfold R3.v))
        all_goals (go_wp2_with fail; go_meet; first | exact ⟨_, r4, rfl, Bk.newA w4 40 #[.bool r4.s, .slice r4.A r4.m r4.c, .slice r4.B r4.n r4.d], HV4.out.allocd _, bl_allocd HE4.out _⟩ | exact ⟨_, r4, rfl, HK.out.1.set3 r4, HV4.out.set3 HK.out.1 r4, bl_set3 HE4.out HK.out.2 r4⟩)
      case rest =>
        obtain ⟨G, r, rfl, hk, hq, hbw⟩ := hcut
        obtain ⟨t0, t1, t2, _, _, _⟩ := cells_rat hk
        obtain ⟨fn, tmps, assign, body, hy, hR⟩ := HH.out.2.2.1 i #[r.v] wc hlt (HH.out.1 _ _ _ HI.out.2 (Kq.of_below _ hbw) (keepsFrom_below hbw)) ⟨r, m1, rfl, HM.out.1, hq⟩
        have HF := Lib.hid (H0.out.below hbw)
        clear hk hq hbw hxn
        gi_wp2
        unfold R3.v at hy
        rw [hy]
        simp only [Oper.uponIn]
        refine ⟨fun _ => by omega, hR.mono ?_⟩
        rintro e W3 ⟨hk3, (⟨rfl, hJ3⟩ | ⟨rfl, hJx3⟩)⟩
        · have H3 := Lib.hid (And.intro hJ3 (HF.out.kq hk3 HH.out.2.2.2.2.2.2.2.2.2.1 HH.out.2.2.2.2.2.2.2.2.1))
          clear hJ3 hk3 hR hy
          gi_wp2
          refine ⟨⟨i + 1, by omega, by go_num, H3.out.2, H3.out.1⟩, by simp [intOf]; omega⟩
        · have H3 := Lib.hid hJx3
          clear hJx3 hk3 hR hy
          gi_wp2
          refine bodyPost_ret (results_none rfl _ _ _) rfl ?_
          exact ⟨⟨_, rfl⟩, .inr H3.out⟩
    · obtain rfl : n = i := by omega
      have HB := Lib.hid hJi
      clear hlt hi hI hJi
      gi_wp2
      go_end0
      exact ⟨⟨_, rfl⟩, .inl HB.out⟩
end Go.Proofs.YtlhipaffhehcnaaGreat
namespace Go.Proofs.YtlhipaffhehcnaaGreat
open Go.RowKit Go.Shelf
set_option linter.unusedVariables false
theorem any_pos_len {t : List Nat} (h : 0 < t.sum) : 0 < t.length := by
  cases t with
  | nil => simp at h
  | cons a l => simp
theorem Chg.nq {w w' : World} (h : Chg Nq w w') : Below w.heap.size w w' := ⟨h.1.os, h.1.tape, h.1.output, h.1.size, fun k hk => h.2 k hk (fun q => q)⟩
set_option maxRecDepth 100000 in
set_option maxHeartbeats 4000000 in
/-- chance.in -/
theorem in_any {w : World} {A : Option Addr} {n c k u j : Nat} {t : List Nat} {q : Q} (h : Tb w A n t) (hk : k ≤ 8) (hu : u ≤ k) (hj : j ≤ 8) (ht : tOk t k = true) (hq : inO t k u j = some q) : Calls Tryz.prog 118 #[.slice A n c, .int .i64 (k : Nat), .int .i64 (u : Nat), .int .i64 (j : Nat)] w fun e w' => ∃ v, e = .returned v ∧ QV w' v q ∧ Below w.heap.size w w' := by
  have hmf : ∀ (fn : Fn) (first cap : Array Value) (w : World), (Instr.makeFunc fn first cap).run Tryz.prog w = .ok (.func fn first cap) w := fun _ _ _ _ => rfl
  obtain ⟨_, _, hnk⟩ := tOk_len ht
  have hl := h.2.1
  have hs := tOk_sum ht
  obtain ⟨g, hg⟩ : ∃ g, w.heap.size = g := ⟨_, rfl⟩
  obtain ⟨w1, hw1⟩ : ∃ w1, ((((w.alloc (.cells #[.slice A n c] 22)).alloc (.cells #[.int .i64 (k : Nat)] 3)).alloc (.cells #[.int .i64 (u : Nat)] 3)).alloc (.cells #[.int .i64 (j : Nat)] 3)).alloc (.cells #[.bool false, .slice none 0 0, .slice none 0 0] 40) = w1 := ⟨_, rfl⟩
  have hb1 : Below w.heap.size w w1 := by rw [← hw1]; exact bl_allocd (bl_allocd (bl_allocd (bl_allocd (bl_allocd (Below.refl _ _) _) _) _) _) _
  have k4 : Bk w1 g 22 [.slice A n c] := by rw [← hw1, ← hg]; exact ((((Bk.newA w 22 #[.slice A n c]).alloc _).alloc _).alloc _).alloc _
  have k5 : Bk w1 (g + 1) 3 [.int .i64 (k : Nat)] := by
    have := (((Bk.newA (w.alloc (.cells #[.slice A n c] 22)) 3 #[.int .i64 (k : Nat)]).alloc (.cells #[.int .i64 (u : Nat)] 3)).alloc (.cells #[.int .i64 (j : Nat)] 3)).alloc (.cells #[.bool false, .slice none 0 0, .slice none 0 0] 40)
    rw [World.size_alloc, hg] at this
    rw [← hw1]; exact this
  have k6 : Bk w1 (g + 1 + 1) 3 [.int .i64 (u : Nat)] := by
    have := ((Bk.newA ((w.alloc (.cells #[.slice A n c] 22)).alloc (.cells #[.int .i64 (k : Nat)] 3)) 3 #[.int .i64 (u : Nat)]).alloc (.cells #[.int .i64 (j : Nat)] 3)).alloc (.cells #[.bool false, .slice none 0 0, .slice none 0 0] 40)
    rw [World.size_alloc, World.size_alloc, hg] at this
    rw [← hw1]; exact this
  have k7 : Bk w1 (g + 1 + 1 + 1) 3 [.int .i64 (j : Nat)] := by
    have := (Bk.newA (((w.alloc (.cells #[.slice A n c] 22)).alloc (.cells #[.int .i64 (k : Nat)] 3)).alloc (.cells #[.int .i64 (u : Nat)] 3)) 3 #[.int .i64 (j : Nat)]).alloc (.cells #[.bool false, .slice none 0 0, .slice none 0 0] 40)
    rw [World.size_alloc, World.size_alloc, World.size_alloc, hg] at this
    rw [← hw1]; exact this
  have k8 : Bk w1 (g + 1 + 1 + 1 + 1) 40 R3.zero.cells := by
    have := Bk.newA ((((w.alloc (.cells #[.slice A n c] 22)).alloc (.cells #[.int .i64 (k : Nat)] 3)).alloc (.cells #[.int .i64 (u : Nat)] 3)).alloc (.cells #[.int .i64 (j : Nat)] 3)) 40 #[.bool false, .slice none 0 0, .slice none 0 0]
    rw [World.size_alloc, World.size_alloc, World.size_alloc, World.size_alloc, hg] at this
    rw [← hw1]; exact this
  have c4 := k4.cell 0
  have H1 := Lib.hid (And.intro hb1 (And.intro k4 (And.intro k5 (And.intro k6 (And.intro k7 (And.intro k8 hg))))))
  have HP := Lib.hid (And.intro h (And.intro hk (And.intro hu (And.intro hj (And.intro hnk (And.intro hl (And.intro hs hq)))))))
  clear h hk hu hj ht hq hnk hl hs hb1 k4 k5 k6 k7 k8
  go_enter Tryz.func118, Tryz.ntmps118
  go_wp2_with fail
  refine (solTotal_any (c := c) (HP.out.1.below H1.out.1)).mono ?_
  rintro e w2 ⟨rfl, hb2⟩
  have hb02 := bl_next H1.out.1 hb2
  obtain ⟨o, ho⟩ : ∃ o : Obj, o = .cells #[.int .i64 (t.sum : Nat)] 3 := ⟨_, rfl⟩
  have hb2a : Below w1.heap.size w1 (w2.alloc o) := bl_allocd hb2 o
  have hF : InF A n c t k u j g w2.heap.size (g + 1) (g + 1 + 1) (g + 1 + 1 + 1) (w2.alloc o) := ⟨H1.out.2.1.belowS hb2a, by rw [ho]; exact Bk.newA w2 3 #[.int .i64 (t.sum : Nat)], H1.out.2.2.1.belowS hb2a, H1.out.2.2.2.1.belowS hb2a, H1.out.2.2.2.2.1.belowS hb2a, HP.out.1.below (bl_next H1.out.1 hb2a)⟩
  have H2 := Lib.hid (And.intro hF (And.intro (H1.out.2.2.2.2.2.1.belowS hb2a) (And.intro (bl_allocd hb02 o) (show g + 4 < w2.heap.size from (H1.out.2.2.2.2.2.1.belowS hb2).lt))))
  clear hb2 hb02 hb2a hF c4
  go_wp2_with fail
  rw [← ho]
  clear ho
  refine (cpair_any (n := 0) (d := 1) (by decide) (by decide) (by decide)).mono ?_
  rintro e w3 ⟨v3, rfl, hv3, hb3⟩
  have hz : qlow ((0 : Nat) : Int) 1 = ⟨0, 1⟩ := by rfl
  rw [hz] at hv3
  have hs3 : (w2.alloc o).heap.size ≤ w3.heap.size := hb3.size
  rw [World.size_alloc] at hs3
  have hF3 := H2.out.1.below hb3
  have hbx : g < w3.heap.size ∧ w2.heap.size < w3.heap.size ∧ g + 1 < w3.heap.size ∧ g + 1 + 1 < w3.heap.size ∧ g + 1 + 1 + 1 < w3.heap.size ∧ (∀ a, A = some a → a.block < w3.heap.size) := by
    have := H2.out.2.2.2
    refine ⟨by omega, by omega, by omega, by omega, by omega, fun a ha => ?_⟩
    subst ha
    have hlw : a.block < w.heap.size := HP.out.1.1.lt (by have := HP.out.2.2.2.2.2.1; have h5 := any_pos_len HP.out.2.2.2.2.2.2.1; omega) a rfl
    have := H1.out.2.2.2.2.2.2
    omega
  have H3 := Lib.hid (And.intro (H2.out.2.1.belowS hb3) (bl_next H2.out.2.2.1 hb3))
  have HC := Lib.hid (cfold_any (w := w3) (gf := 148) (lb := #[.pointer (some ⟨g, 0, none⟩), .pointer (some ⟨w2.heap.size, 0, none⟩), .pointer (some ⟨g + 1, 0, none⟩), .pointer (some ⟨g + 1 + 1, 0, none⟩), .pointer (some ⟨g + 1 + 1 + 1, 0, none⟩)]) (S := Nq) (f := inT t k u j) (N := n) (t := q) hv3 (by have := HP.out.2.2.2.2.2.2.2; unfold inO at this; rw [HP.out.2.2.2.2.2.1] at this; exact this) (enters_of Tryz.func148 (by kernel_rfl) rfl) (fun k e => e.elim)
    (fun W hW => in1_iter (n₀ := w3.heap.size) (by decide) (hF3.below hW) HP.out.2.1 HP.out.2.2.1 HP.out.2.2.2.1 (by have := HP.out; omega) HP.out.2.2.2.2.2.2.1 hbx (fun k e => by omega) (fun i hi => by
      have := HP.out.2.2.2.2.2.2.2
      unfold inO at this
      rw [HP.out.2.2.2.2.2.1] at this
      obtain ⟨_, m, _, _, hm, _⟩ := accO_step this hi
      exact ⟨m, hm⟩)))
  clear hv3 hb3 hs3 hF3 hbx hz
  go_wp2_with fail
  refine HC.out.mono ?_
  rintro e w4 ⟨v4, rfl, hv4, hc4⟩
  obtain ⟨r, rfl⟩ := hv4.r3
  have k4 := H3.out.1.belowS hc4.nq
  obtain ⟨_, _, _, s0, s1, s2⟩ := cells_rat k4
  have HF := Lib.hid (fin_rat k4 hv4 (bl_next H3.out.2 hc4.nq) (by have := H1.out.2.2.2.2.2.2; omega))
  clear hv4 hc4 k4
  unfold R3.v
  go_wp2_with fail
  refine bodyPost_ret (ret_rat27 rfl rfl HF.out.1) rfl ?_
  exact ⟨_, rfl, HF.out.2⟩
end Go.Proofs.YtlhipaffhehcnaaGreat
namespace Go.Proofs.YtlhipaffhehcnaaGreat
open Go.RowKit Go.Shelf
set_option linter.unusedVariables false
attribute [local go_sem] Oper.semAt_some
/-- What row's iterator reads. -/
structure RwF (A : Option Addr) (n c : Nat) (t : List Nat) (k u bu bt bk : Nat) (W : World) : Prop where
  ht : Bk W bt 22 [.slice A n c]
  hk : Bk W bk 3 [.int .i64 (k : Nat)]
  hu : Bk W bu 3 [.int .i64 (u : Nat)]
  tb : Tb W A n t
section
variable {A : Option Addr} {n c : Nat} {t : List Nat} {k u bu bt bk : Nat} {W W' : World}
theorem RwF.below (h : RwF A n c t k u bu bt bk W) (hb : Below W.heap.size W W') : RwF A n c t k u bu bt bk W' :=
  ⟨h.ht.belowS hb, h.hk.belowS hb, h.hu.belowS hb, h.tb.below hb⟩
theorem RwF.kq {B : Nat} {T : Nat → Prop} (h : RwF A n c t k u bu bt bk W) (hk : Kq B T W W') (hT : ¬ T bu ∧ ¬ T bt ∧ ¬ T bk ∧ (∀ a, A = some a → ¬ T a.block)) : RwF A n c t k u bu bt bk W' :=
  ⟨hk.bk h.ht hT.2.1, hk.bk h.hk hT.2.2.1, hk.bk h.hu hT.1, hk.tb h.tb hT.2.2.2⟩
end
theorem no_u64_int (z : Int) : ∀ (i : Nat) (x : Int), ([.int .i64 z] : List Value)[i]? ≠ some (.int .u64 x) := by
  intro i x
  cases i <;> simp
theorem chg_set1 (W : World) (g : Nat) (v : Value) : Chg (fun k => k = g) W (W.setCell ⟨g, 0, none⟩ v) := (Chg.refl (fun k => k = g) W).set_ (g := g) (show (fun k => k = g) g from rfl) 0 v
set_option maxRecDepth 100000 in
set_option maxHeartbeats 4000000 in
/-- What row hands on. -/
theorem row1_iter {w : World} {B n₀ m : Nat} {T : Nat → Prop} {A : Option Addr} {n c : Nat} {t : List Nat} {k u j bj bu bt bk : Nat} (hm : 2 ≤ m) (h : RwF A n c t k u bu bt bk w) (hbj : Bk w bj 3 [.int .i64 (j : Nat)]) (hk : k ≤ 8) (hu : u ≤ k) (hj : j ≤ 8) (ht : tOk t k = true)
    (hb : bj < n₀ ∧ bu < n₀ ∧ bt < n₀ ∧ bk < n₀ ∧ (∀ a, A = some a → a.block < n₀)) (hne : bj ≠ bu ∧ bj ≠ bt ∧ bj ≠ bk ∧ (∀ a, A = some a → a.block ≠ bj)) (hT : ∀ k, T k → n₀ ≤ k) (hall : ∀ i, i < u + 1 - j → ∃ q, inO t k u (j + i) = some q) :
    IterN Fence.wide m Tryz.prog 163 #[.pointer (some ⟨bj, 0, none⟩), .pointer (some ⟨bu, 0, none⟩), .pointer (some ⟨bt, 0, none⟩), .pointer (some ⟨bk, 0, none⟩)] B (fun k => k = bj) T (OkQ (fun i => inO t k u (j + i))) (u + 1 - j) w := by
  intro l J Jx W hkw hJ hJx hY h0
  have hW := h.kq hkw ⟨fun e => e, fun e => e, fun e => e, fun _ _ e => e⟩
  have hWj := hkw.bk hbj (fun e => e)
  obtain ⟨N, hN⟩ : ∃ N, u + 1 - j = N := ⟨_, rfl⟩
  rw [hN] at hall hY ⊢
  have HH := Lib.hid (And.intro hJ (And.intro hJx (And.intro hY (And.intro hk (And.intro hu (And.intro hj (And.intro ht (And.intro hb (And.intro hT (And.intro hall (And.intro hne hN)))))))))))
  have HW := Lib.hid (And.intro hW (And.intro hWj h0))
  have hTb : ¬ T bu ∧ ¬ T bt ∧ ¬ T bk ∧ (∀ a, A = some a → ¬ T a.block) ∧ ¬ T bj :=
    ⟨fun e => by have := hT _ e; omega, fun e => by have := hT _ e; omega, fun e => by have := hT _ e; omega, fun a ha e => by have := hT _ e; have := hb.2.2.2.2 a ha; omega, fun e => by have := hT _ e; omega⟩
  have HTb := Lib.hid hTb
  clear h hkw hJ hJx hY h0 hk hu hj ht hb hT hall hW hWj hne hbj hN hTb
  refine callsIn_of_wp Tryz.func163 rfl trivial ?_ rfl
  simp only [Tryz.ntmps163, List.size_toArray, List.length_cons, List.length_nil, Nat.reduceAdd, Nat.reduceSub, Array.replicate_succ, Array.replicate_zero, List.push_toArray, List.append_toArray, List.nil_append, List.cons_append]
  gi_wp2
  refine wpIn_wide.2 ?_
  go_loopg [] (N + 1) (fun q wr => ∃ i : Nat, (q + i = N + 1 ∧ i ≤ N) ∧ RwF A n c t k u bu bt bk wr ∧ Bk wr bj 3 [.int .i64 ((j + i : Nat) : Int)] ∧ J i wr)
  case atStart => exact ⟨0, ⟨rfl, Nat.zero_le _⟩, HW.out.1, HW.out.2.1, HW.out.2.2⟩
  case round =>
    obtain ⟨i, hi, hF, hkj, hJi⟩ := hrel
    have cj := hkj.cell 0
    have fj := hkj.frozen 0
    have cu := hF.hu.cell 0
    have ct := hF.ht.cell 0
    have ck := hF.hk.cell 0
    have HI := Lib.hid (And.intro hF (And.intro hkj (And.intro hJi hi)))
    have hu8 := HH.out.2.2.2.2.1
    have hk8 := HH.out.2.2.2.1
    have hj8 := HH.out.2.2.2.2.2.1
    have hNu := HH.out.2.2.2.2.2.2.2.2.2.2.2
    by_cases hlt : i < N
    · have d1 : decide (((j + i : Nat) : Int) ≤ (u : Int)) = true := decide_eq_true (by omega)
      have d2 : decide (j + i ≤ u) = true := decide_eq_true (by omega)
      obtain ⟨q, hq⟩ := HH.out.2.2.2.2.2.2.2.2.2.1 i hlt
      have HC := Lib.hid (And.intro (in_any (c := c) (j := j + i) hF.tb hk8 hu8 (by omega) HH.out.2.2.2.2.2.2.1 hq) (And.intro hq hlt))
      have hji : ((j + i : Nat) : Int) ≤ 16 := by omega
      clear hi hF hkj hJi hu8 hk8 hj8 hNu hq hlt
      obtain ⟨x, hx⟩ : ∃ x, j + i = x := ⟨_, rfl⟩
      have HX := Lib.hid hx
      rw [hx] at cj d1 d2 HC hji
      clear hx
      refine (wpIn_wide (n := m)).1 ?_
      gi_wp2
      refine ⟨trivial, fun _ => by omega, ((callsIn_wide).2 HC.out.1).mono ?_⟩
      rintro e w2 ⟨v2, rfl, hv2, hb2⟩
      obtain ⟨r, rfl⟩ := hv2.r3
      obtain ⟨fn, tmps, assign, body, hy, hR⟩ := HH.out.2.2.1 i #[r.v] w2 HC.out.2.2 (HH.out.1 _ _ _ HI.out.2.2.1 ((Kq.of_below _ hb2).widen (num_of_bk HI.out.2.1 (no_u64_int _))) (keepsFrom_below hb2)) ⟨r, q, rfl, by have := HC.out.2.1; rw [← HX.out] at this; exact this, hv2⟩
      have HF2 := Lib.hid (And.intro (HI.out.1.below hb2) (HI.out.2.1.belowS hb2))
      clear hv2 hb2 cj fj cu ct ck
      gi_wp2
      refine ⟨fun _ => by omega, hR.mono ?_⟩
      rintro e W3 ⟨hk3, (⟨rfl, hJ3⟩ | ⟨rfl, hJx3⟩)⟩
      · have hj3 := hk3.bk HF2.out.2 HTb.out.2.2.2.2
        have H3 := Lib.hid (And.intro hJ3 (And.intro (HF2.out.1.kq hk3 ⟨HTb.out.1, HTb.out.2.1, HTb.out.2.2.1, HTb.out.2.2.2.1⟩) hj3))
        have cj := hj3.cell 0
        have fj := hj3.frozen 0
        rw [HX.out] at cj
        clear hJ3 hk3 hR hy hj3
        gi_wp2
        have hkj3 := H3.out.2.2
        go_roundg (gk - 1)
        case measure => have := HI.out.2.2.2; have := HC.out.2.2; omega
        case rel =>
          have hc := chg_set1 W3 bj (.int .i64 ((x : Int) + 1))
          refine ⟨i + 1, by have := HI.out.2.2.2; have := HC.out.2.2; omega, ?_, ?_, ?_⟩
          · have hk := Kq.of_chg B hc (num_of_bk hkj3 (no_u64_int _))
            exact H3.out.2.1.kq hk ⟨fun e => HH.out.2.2.2.2.2.2.2.2.2.2.1.1 e.symm, fun e => HH.out.2.2.2.2.2.2.2.2.2.2.1.2.1 e.symm, fun e => HH.out.2.2.2.2.2.2.2.2.2.2.1.2.2.1 e.symm, fun a ha e => HH.out.2.2.2.2.2.2.2.2.2.2.1.2.2.2 a ha e⟩
          · have := hkj3.set_ 0 (.int .i64 ((x : Int) + 1))
            rw [show ((j + (i + 1) : Nat) : Int) = (x : Int) + 1 from by rw [← HX.out]; omega]
            exact this
          · exact HH.out.1 _ _ _ H3.out.1 (Kq.of_chg B hc (num_of_bk hkj3 (no_u64_int _))) (keepsFrom_chg hc (fun k o e _ hk => by subst e; unfold Bk at hkj3; rw [hkj3] at hk; injection hk with hk; subst hk; rfl))
      · have H3 := Lib.hid hJx3
        clear hJx3 hk3 hR hy
        gi_wp2
        go_end0
        exact ⟨⟨_, rfl⟩, .inr H3.out⟩
    · have d1 : decide (((j + i : Nat) : Int) ≤ (u : Int)) = false := decide_eq_false (by omega)
      have d2 : decide (j + i ≤ u) = false := decide_eq_false (by omega)
      have HB := Lib.hid hJi
      have hiN : N = i := by omega
      clear hi hF hkj hJi hu8 hk8 hj8 hNu hlt
      obtain ⟨x, hx⟩ : ∃ x, j + i = x := ⟨_, rfl⟩
      rw [hx] at cj d1 d2
      have HX := Lib.hid (And.intro hx hiN)
      clear hx hiN
      refine (wpIn_wide (n := m)).1 ?_
      gi_wp2
      refine ⟨trivial, ?_⟩
      gi_wp2
      refine ⟨(fun f e => by cases e), ?_⟩
      gi_wp2
      go_end0
      exact ⟨⟨_, rfl⟩, .inl (by rw [HX.out.2]; exact HB.out)⟩
end Go.Proofs.YtlhipaffhehcnaaGreat
