/- TopLeft: ratio: fold, Add, Mul (printed by gen_Sb27.py). TopLeft: ratio: Sub, over, Div, Cmp. -/
import Derived.Test.YtlhipaffhehcnaaGreatT23
import Derived.Deep.LoopGhost
namespace Go.Proofs.YtlhipaffhehcnaaGreat
open Go.RowKit
set_option linter.unusedVariables false
/-- Folding with a look at each step. -/
def qfold (F : Q → Q → Q) : Q → List Q → Option Q
  | s, [] => some s
  | s, q :: l => if (F s q).ok then qfold F (F s q) l else none
def allOk (l : List Q) : Bool := l.all Q.ok
theorem allOk_get {l : List Q} (h : allOk l = true) {i : Nat} (hi : i < l.length) : l[i].ok = true := List.all_eq_true.1 h _ (List.getElem_mem hi)
/-- The boxes of fold. -/
structure FoS (w0 W : World) (g : Nat) (s o : R3) : Prop where
  a : Bk W g 40 s.cells
  o : Bk W (g + 1) 40 o.cells
  e : Bk W (g + 1 + 1) 25 [.int .i64 0]
  l : Below w0.heap.size w0 W
  g : g = w0.heap.size
theorem FoS.new (w : World) (s : R3) : FoS w (((w.alloc (.cells #[.bool s.s, .slice s.A s.m s.c, .slice s.B s.n s.d] 40)).alloc (.cells #[.bool false, .slice none 0 0, .slice none 0 0] 40)).alloc (.cells #[.int .i64 0] 25)) w.heap.size s R3.zero := by
  have h2 := (Bk.newA (w.alloc (.cells #[.bool s.s, .slice s.A s.m s.c, .slice s.B s.n s.d] 40)) 40 #[.bool false, .slice none 0 0, .slice none 0 0]).alloc (.cells #[.int .i64 0] 25)
  have h3 := Bk.newA ((w.alloc (.cells #[.bool s.s, .slice s.A s.m s.c, .slice s.B s.n s.d] 40)).alloc (.cells #[.bool false, .slice none 0 0, .slice none 0 0] 40)) 25 #[.int .i64 0]
  rw [World.size_alloc] at h2
  rw [World.size_alloc, World.size_alloc] at h3
  exact ⟨((Bk.newA w 40 #[.bool s.s, .slice s.A s.m s.c, .slice s.B s.n s.d]).alloc _).alloc _, h2, h3, (((Below.refl _ _).alloc (Nat.le_refl _) _).alloc (by simp) _).alloc (by simp; omega) _, rfl⟩
theorem FoS.below {w0 W W' : World} {g : Nat} {s o : R3} (h : FoS w0 W g s o) (hb : Below W.heap.size W W') : FoS w0 W' g s o :=
  ⟨h.a.belowS hb, h.o.belowS hb, h.e.belowS hb, below_base h.l hb h.l.size, h.g⟩
theorem FoS.allocd {w0 W : World} {g : Nat} {s o : R3} (h : FoS w0 W g s o) (x : Obj) : FoS w0 (W.alloc x) g s o := h.below ((Below.refl _ _).alloc (Nat.le_refl _) _)
/-- A fraction is laid down in the box for what is told. -/
theorem FoS.put {w0 W : World} {g : Nat} {s o : R3} {q : Q} (h : FoS w0 W g s o) (r : R3) (hq : QV W r.v q) : FoS w0 (((W.setCell ⟨g + 1, 0, none⟩ (.bool r.s)).setCell ⟨g + 1, 1, none⟩ (.slice r.A r.m r.c)).setCell ⟨g + 1, 2, none⟩ (.slice r.B r.n r.d)) g s r ∧ QV (((W.setCell ⟨g + 1, 0, none⟩ (.bool r.s)).setCell ⟨g + 1, 1, none⟩ (.slice r.A r.m r.c)).setCell ⟨g + 1, 2, none⟩ (.slice r.B r.n r.d)) r.v q := by
  have hG : w0.heap.size ≤ g + 1 := by have := h.g; omega
  have hch := (((Chg.refl (fun k => k = g + 1) W).set_ (g := g + 1) (show (fun k => k = g + 1) (g + 1) from rfl) 0 (.bool r.s)).set_ (g := g + 1) (show (fun k => k = g + 1) (g + 1) from rfl) 1 (.slice r.A r.m r.c)).set_ (g := g + 1) (show (fun k => k = g + 1) (g + 1) from rfl) 2 (.slice r.B r.n r.d)
  refine ⟨⟨hch.bk h.a (by omega), ?_, hch.bk h.e (by omega), ((h.l.setCell (p := ⟨g + 1, 0, none⟩) hG _).setCell (p := ⟨g + 1, 1, none⟩) hG _).setCell (p := ⟨g + 1, 2, none⟩) hG _, h.g⟩, hq.chg h.o o.no_int hch⟩
  exact ((h.o.set_ 0 (.bool r.s)).set_ 1 (.slice r.A r.m r.c)).set_ 2 (.slice r.B r.n r.d)
/-- The error is laid down anew. -/
theorem FoS.err {w0 W : World} {g : Nat} {s o : R3} (h : FoS w0 W g s o) : FoS w0 (W.setCell ⟨g + 1 + 1, 0, none⟩ (.int .i64 0)) g s o := by
  have hG : w0.heap.size ≤ g + 1 + 1 := by have := h.g; omega
  exact ⟨h.a.far (p := ⟨g + 1 + 1, 0, none⟩) (by show g ≠ g + 1 + 1; omega) _, h.o.far (p := ⟨g + 1 + 1, 0, none⟩) (by show g + 1 ≠ g + 1 + 1; omega) _, h.e.set_ 0 _, h.l.setCell (p := ⟨g + 1 + 1, 0, none⟩) hG _, h.g⟩
theorem FoS.errQ {w0 W : World} {g : Nat} {s o : R3} {v : Value} {q : Q} (h : FoS w0 W g s o) (hq : QV W v q) : QV (W.setCell ⟨g + 1 + 1, 0, none⟩ (.int .i64 0)) v q :=
  hq.chgP (S := fun k => k = g + 1 + 1) (fun k e => by subst e; exact ⟨_, _, h.e, fun i x => by cases i <;> simp⟩) ((Chg.refl (fun k => k = g + 1 + 1) W).set_ (g := g + 1 + 1) (show (fun k => k = g + 1 + 1) (g + 1 + 1) from rfl) 0 _)
/-- The deferred closure of fold, where all went well. -/
theorem fold1_any {w : World} {b0 b1 : Nat} (h0 : w.cell? ⟨b0, 0, none⟩ = some (.int .i64 0)) :
    CallsD Tryz.prog 55 #[.pointer (some ⟨b0, 0, none⟩), .pointer (some ⟨b1, 0, none⟩)] .returning w fun e u' w' => u' = .returning ∧ e = .returned (.tuple #[]) ∧ w' = w := by
  go_enter_d Tryz.func55, Tryz.ntmps55
  go_wp2
  go_end0
  exact ⟨rfl, rfl⟩
theorem results_fold {fn : Func} {p q : Tmp} (h : fn.results = #[.cell p 40, .cell q 25]) (tmps : Array Value) (w : World) (g : Nat) (r : R3) (hp : tmps.getD p undef = .pointer (some ⟨g, 0, none⟩)) (hq : tmps.getD q undef = .pointer (some ⟨g + 1, 0, none⟩)) (hk : Bk w g 40 r.cells) (hc : w.cell? ⟨g + 1, 0, none⟩ = some (.int .i64 0)) :
    (results fn tmps).run Tryz.prog w = .ok (.tuple #[r.v, .int .i64 0]) w := by
  have hp' : tmps[p]?.getD undef = .pointer (some ⟨g, 0, none⟩) := by simpa using hp
  have hq' : tmps[q]?.getD undef = .pointer (some ⟨g + 1, 0, none⟩) := by simpa using hq
  have c0 := hk.cell 0
  have c1 := hk.cell 1
  have c2 := hk.cell 2
  simp [R3.cells] at c0 c1 c2
  simp [results, h, hp', hq', asAddr, go_sem, hc, c0, c1, c2]
  rfl
set_option maxRecDepth 100000 in
set_option maxHeartbeats 4000000 in
/-- ratio.fold of sum -/
theorem fold_sum {w : World} {vs : Value} {s t : Q} {A : Option Addr} {n c : Nat} {qs : List Q} (hs : QV w vs s) (hs1 : s.ok = true) (hl : QR w A n qs) (hn : n ≤ 1000000) (hnc : n ≤ c) (hok : allOk qs = true) (hf : qfold qsum s qs = some t) : Calls Tryz.prog 24 #[vs, .func (.func 26) #[] #[], .slice A n c] w fun e w' => ∃ v, e = .returned (.tuple #[v, .int .i64 0]) ∧ QV w' v t ∧ Below w.heap.size w w' := by
  have hmf : ∀ (fn : Fn) (first cap : Array Value) (w : World), (Instr.makeFunc fn first cap).run Tryz.prog w = .ok (.func fn first cap) w := fun _ _ _ _ => rfl
  obtain ⟨s0, rfl⟩ := hs.r3
  have hlen := hl.len
  have hB := FoS.new w s0
  obtain ⟨w1, hw1⟩ : ∃ w1, ((w.alloc (.cells #[.bool s0.s, .slice s0.A s0.m s0.c, .slice s0.B s0.n s0.d] 40)).alloc (.cells #[.bool false, .slice none 0 0, .slice none 0 0] 40)).alloc (.cells #[.int .i64 0] 25) = w1 := ⟨_, rfl⟩
  rw [hw1] at hB
  obtain ⟨g, hg⟩ : ∃ g, w.heap.size = g := ⟨_, rfl⟩
  rw [hg] at hB
  have H1 := Lib.hid hB
  have HL := Lib.hid (And.intro hl (And.intro hlen (And.intro hok (And.intro hf (And.intro hs hs1)))))
  clear hB hl hlen hok hf hs hs1
  unfold R3.v
  go_enter_defers Tryz.func24, Tryz.ntmps24
  go_wp2_with fail
  go_loopw [15] (fun i wr => ∃ k : Nat, k ≤ n ∧ i = .int .i64 (k : Nat) ∧ FoS w wr g s0 R3.zero) (fun i _ => n - (intOf i).toNat)
  case atStart => exact ⟨0, Nat.zero_le _, rfl, H1.out⟩
  case round =>
    obtain ⟨k, hk, rfl, hF⟩ := hrel
    by_cases hlt : k < n
    · obtain ⟨b, off, rfl, hbl, hcc⟩ := (HL.out.1.below hF.l).form (by omega)
      obtain ⟨r, hr, c0, c1, c2⟩ := hcc k (by rw [HL.out.2.1]; exact hlt)
      have HF := Lib.hid hF
      have HR := Lib.hid (And.intro hr hcc)
      clear hF hr hcc
      go_wp2_with fail
      have hq1 := HF.out.allocd (.cells #[.bool r.s, .slice r.A r.m r.c, .slice r.B r.n r.d] 40)
      refine (check_q (HR.out.1.below ((Below.refl _ _).alloc (Nat.le_refl _) _)) (allOk_get HL.out.2.2.1 _)).mono ?_
      rintro e w2 ⟨rfl, hb2⟩
      have hF2 := hq1.below hb2
      have e0 := hF2.e.cell 0
      have e1 := hF2.e.frozen 0
      have HF2 := Lib.hid hF2
      clear hq1 hb2 hF2
      go_wp2_with fail
      go_roundw
      case rel => exact ⟨k + 1, by omega, by go_num, HF2.out.err⟩
      case measure => simp [intOf]; omega
    · obtain rfl : n = k := by omega
      have HF := Lib.hid hF
      have c0 := hF.a.cell 0
      have c1 := hF.a.cell 1
      have c2 := hF.a.cell 2
      simp [R3.cells] at c0 c1 c2
      obtain ⟨_, _, _, s0', s1', s2'⟩ := cells_rat hF.o
      clear hF
      go_wp2_with fail
      have hP := HF.out.put s0 (q := s) (HL.out.2.2.2.2.1.below HF.out.l)
      have HP := Lib.hid hP
      clear hP c0 c1 c2 s0' s1' s2' hlt hk
      go_loopw [27] (fun i wr => ∃ (k : Nat) (o : R3) (q : Q), k ≤ n ∧ i = .int .i64 (k : Nat) ∧ FoS w wr g s0 o ∧ QV wr o.v q ∧ q.ok = true ∧ qfold qsum q (qs.drop k) = some t) (fun i _ => n - (intOf i).toNat)
      case atStart => exact ⟨0, s0, s, Nat.zero_le _, rfl, HP.out.1, HP.out.2, HL.out.2.2.2.2.2, HL.out.2.2.2.1⟩
      case round =>
        obtain ⟨k, o, q, hk, rfl, hF, hqo, hqk, hfo⟩ := hrel
        have HO := Lib.hid (And.intro hF (And.intro hqo (And.intro hqk hfo)))
        by_cases hlt : k < n
        · obtain ⟨b, off, rfl, hbl, hcc⟩ := (HL.out.1.below hF.l).form (by omega)
          obtain ⟨r, hr, c0, c1, c2⟩ := hcc k (by rw [HL.out.2.1]; exact hlt)
          have HR := Lib.hid hr
          have hFa := hF.allocd (.cells #[.bool r.s, .slice r.A r.m r.c, .slice r.B r.n r.d] 40)
          have e0 := hFa.o.cell 0
          have e1 := hFa.o.cell 1
          have e2 := hFa.o.cell 2
          simp [R3.cells] at e0 e1 e2
          have hbb : Below wr.heap.size wr (wr.alloc (.cells #[.bool r.s, .slice r.A r.m r.c, .slice r.B r.n r.d] 40)) := (Below.refl _ _).alloc (Nat.le_refl _) _
          have HS := Lib.hid (sum_q (HO.out.2.1.below hbb) (HR.out.below hbb) HO.out.2.2.1 (allOk_get HL.out.2.2.1 (by rw [HL.out.2.1]; exact hlt)))
          have hqd : (qsum q (qs[k]'(by rw [HL.out.2.1]; exact hlt))).ok = true ∧ qfold qsum (qsum q (qs[k]'(by rw [HL.out.2.1]; exact hlt))) (qs.drop (k + 1)) = some t := by
            rw [List.drop_eq_getElem_cons (by rw [HL.out.2.1]; exact hlt)] at hfo
            unfold qfold at hfo
            split at hfo
            · rename_i h; exact ⟨h, hfo⟩
            · cases hfo
          have HQ := Lib.hid hqd
          have HF := Lib.hid hFa
          clear hF hr hcc hqo hqk hfo hFa hbb hqd
          go_wp2_with fail
          refine HS.out.mono ?_
          rintro e w2 ⟨v2, rfl, hv2, hb2⟩
          obtain ⟨r2, rfl⟩ := hv2.r3
          have hF2 := HF.out.below hb2
          obtain ⟨_, _, _, s0', s1', s2'⟩ := cells_rat hF2.o
          have hP := hF2.put r2 hv2
          have HP2 := Lib.hid hP
          unfold R3.v
          clear hP hv2 hb2 hF2
          go_wp2_with fail
          go_roundw
          case rel => exact ⟨k + 1, r2, _, by omega, by go_num, HP2.out.1, HP2.out.2, HQ.out.1, HQ.out.2⟩
          case measure => simp [intOf]; omega
        · obtain rfl : n = k := by omega
          have hqt : q = t := by
            rw [List.drop_eq_nil_of_le (by have := HL.out.2.1; omega)] at hfo
            injection hfo
          have HT := Lib.hid hqt
          have c0 := hF.o.cell 0
          have c1 := hF.o.cell 1
          have c2 := hF.o.cell 2
          simp [R3.cells] at c0 c1 c2
          obtain ⟨_, _, _, s0', s1', s2'⟩ := cells_rat hF.o
          have hP := hF.put o hqo
          have e0 := hP.1.e.cell 0
          have e1 := hP.1.e.frozen 0
          have HP := Lib.hid hP
          clear hF hqo hqk hfo hqt hlt hk hP
          go_wp2_with fail
          have hE := HP.out.1.err
          have j0 := hE.e.cell 0
          have hq2 := HP.out.1.errQ HP.out.2
          refine leaves_cons (f := 55) (args := #[.pointer (some ⟨g + 1 + 1, 0, none⟩), .pointer (some ⟨g + 1, 0, none⟩)]) (by simp) (by simp [go_sem]) ?_
          refine (fold1_any j0).mono ?_
          rintro e u' w4 ⟨rfl, rfl, rfl⟩
          refine ⟨_, results_fold rfl _ _ (g + 1) o rfl rfl hE.o (hE.e.cell 0), o.v, rfl, ?_, hE.l⟩
          rw [← HT.out]
          exact hq2
set_option maxRecDepth 100000 in
set_option maxHeartbeats 4000000 in
/-- ratio.fold of product -/
theorem fold_product {w : World} {vs : Value} {s t : Q} {A : Option Addr} {n c : Nat} {qs : List Q} (hs : QV w vs s) (hs1 : s.ok = true) (hl : QR w A n qs) (hn : n ≤ 1000000) (hnc : n ≤ c) (hok : allOk qs = true) (hf : qfold qprod s qs = some t) : Calls Tryz.prog 24 #[vs, .func (.func 27) #[] #[], .slice A n c] w fun e w' => ∃ v, e = .returned (.tuple #[v, .int .i64 0]) ∧ QV w' v t ∧ Below w.heap.size w w' := by
  have hmf : ∀ (fn : Fn) (first cap : Array Value) (w : World), (Instr.makeFunc fn first cap).run Tryz.prog w = .ok (.func fn first cap) w := fun _ _ _ _ => rfl
  obtain ⟨s0, rfl⟩ := hs.r3
  have hlen := hl.len
  have hB := FoS.new w s0
  obtain ⟨w1, hw1⟩ : ∃ w1, ((w.alloc (.cells #[.bool s0.s, .slice s0.A s0.m s0.c, .slice s0.B s0.n s0.d] 40)).alloc (.cells #[.bool false, .slice none 0 0, .slice none 0 0] 40)).alloc (.cells #[.int .i64 0] 25) = w1 := ⟨_, rfl⟩
  rw [hw1] at hB
  obtain ⟨g, hg⟩ : ∃ g, w.heap.size = g := ⟨_, rfl⟩
  rw [hg] at hB
  have H1 := Lib.hid hB
  have HL := Lib.hid (And.intro hl (And.intro hlen (And.intro hok (And.intro hf (And.intro hs hs1)))))
  clear hB hl hlen hok hf hs hs1
  unfold R3.v
  go_enter_defers Tryz.func24, Tryz.ntmps24
  go_wp2_with fail
  go_loopw [15] (fun i wr => ∃ k : Nat, k ≤ n ∧ i = .int .i64 (k : Nat) ∧ FoS w wr g s0 R3.zero) (fun i _ => n - (intOf i).toNat)
  case atStart => exact ⟨0, Nat.zero_le _, rfl, H1.out⟩
  case round =>
    obtain ⟨k, hk, rfl, hF⟩ := hrel
    by_cases hlt : k < n
    · obtain ⟨b, off, rfl, hbl, hcc⟩ := (HL.out.1.below hF.l).form (by omega)
      obtain ⟨r, hr, c0, c1, c2⟩ := hcc k (by rw [HL.out.2.1]; exact hlt)
      have HF := Lib.hid hF
      have HR := Lib.hid (And.intro hr hcc)
      clear hF hr hcc
      go_wp2_with fail
      have hq1 := HF.out.allocd (.cells #[.bool r.s, .slice r.A r.m r.c, .slice r.B r.n r.d] 40)
      refine (check_q (HR.out.1.below ((Below.refl _ _).alloc (Nat.le_refl _) _)) (allOk_get HL.out.2.2.1 _)).mono ?_
      rintro e w2 ⟨rfl, hb2⟩
      have hF2 := hq1.below hb2
      have e0 := hF2.e.cell 0
      have e1 := hF2.e.frozen 0
      have HF2 := Lib.hid hF2
      clear hq1 hb2 hF2
      go_wp2_with fail
      go_roundw
      case rel => exact ⟨k + 1, by omega, by go_num, HF2.out.err⟩
      case measure => simp [intOf]; omega
    · obtain rfl : n = k := by omega
      have HF := Lib.hid hF
      have c0 := hF.a.cell 0
      have c1 := hF.a.cell 1
      have c2 := hF.a.cell 2
      simp [R3.cells] at c0 c1 c2
      obtain ⟨_, _, _, s0', s1', s2'⟩ := cells_rat hF.o
      clear hF
      go_wp2_with fail
      have hP := HF.out.put s0 (q := s) (HL.out.2.2.2.2.1.below HF.out.l)
      have HP := Lib.hid hP
      clear hP c0 c1 c2 s0' s1' s2' hlt hk
      go_loopw [27] (fun i wr => ∃ (k : Nat) (o : R3) (q : Q), k ≤ n ∧ i = .int .i64 (k : Nat) ∧ FoS w wr g s0 o ∧ QV wr o.v q ∧ q.ok = true ∧ qfold qprod q (qs.drop k) = some t) (fun i _ => n - (intOf i).toNat)
      case atStart => exact ⟨0, s0, s, Nat.zero_le _, rfl, HP.out.1, HP.out.2, HL.out.2.2.2.2.2, HL.out.2.2.2.1⟩
      case round =>
        obtain ⟨k, o, q, hk, rfl, hF, hqo, hqk, hfo⟩ := hrel
        have HO := Lib.hid (And.intro hF (And.intro hqo (And.intro hqk hfo)))
        by_cases hlt : k < n
        · obtain ⟨b, off, rfl, hbl, hcc⟩ := (HL.out.1.below hF.l).form (by omega)
          obtain ⟨r, hr, c0, c1, c2⟩ := hcc k (by rw [HL.out.2.1]; exact hlt)
          have HR := Lib.hid hr
          have hFa := hF.allocd (.cells #[.bool r.s, .slice r.A r.m r.c, .slice r.B r.n r.d] 40)
          have e0 := hFa.o.cell 0
          have e1 := hFa.o.cell 1
          have e2 := hFa.o.cell 2
          simp [R3.cells] at e0 e1 e2
          have hbb : Below wr.heap.size wr (wr.alloc (.cells #[.bool r.s, .slice r.A r.m r.c, .slice r.B r.n r.d] 40)) := (Below.refl _ _).alloc (Nat.le_refl _) _
          have HS := Lib.hid (product_q (HO.out.2.1.below hbb) (HR.out.below hbb) HO.out.2.2.1 (allOk_get HL.out.2.2.1 (by rw [HL.out.2.1]; exact hlt)))
          have hqd : (qprod q (qs[k]'(by rw [HL.out.2.1]; exact hlt))).ok = true ∧ qfold qprod (qprod q (qs[k]'(by rw [HL.out.2.1]; exact hlt))) (qs.drop (k + 1)) = some t := by
            rw [List.drop_eq_getElem_cons (by rw [HL.out.2.1]; exact hlt)] at hfo
            unfold qfold at hfo
            split at hfo
            · rename_i h; exact ⟨h, hfo⟩
            · cases hfo
          have HQ := Lib.hid hqd
          have HF := Lib.hid hFa
          clear hF hr hcc hqo hqk hfo hFa hbb hqd
          go_wp2_with fail
          refine HS.out.mono ?_
          rintro e w2 ⟨v2, rfl, hv2, hb2⟩
          obtain ⟨r2, rfl⟩ := hv2.r3
          have hF2 := HF.out.below hb2
          obtain ⟨_, _, _, s0', s1', s2'⟩ := cells_rat hF2.o
          have hP := hF2.put r2 hv2
          have HP2 := Lib.hid hP
          unfold R3.v
          clear hP hv2 hb2 hF2
          go_wp2_with fail
          go_roundw
          case rel => exact ⟨k + 1, r2, _, by omega, by go_num, HP2.out.1, HP2.out.2, HQ.out.1, HQ.out.2⟩
          case measure => simp [intOf]; omega
        · obtain rfl : n = k := by omega
          have hqt : q = t := by
            rw [List.drop_eq_nil_of_le (by have := HL.out.2.1; omega)] at hfo
            injection hfo
          have HT := Lib.hid hqt
          have c0 := hF.o.cell 0
          have c1 := hF.o.cell 1
          have c2 := hF.o.cell 2
          simp [R3.cells] at c0 c1 c2
          obtain ⟨_, _, _, s0', s1', s2'⟩ := cells_rat hF.o
          have hP := hF.put o hqo
          have e0 := hP.1.e.cell 0
          have e1 := hP.1.e.frozen 0
          have HP := Lib.hid hP
          clear hF hqo hqk hfo hqt hlt hk hP
          go_wp2_with fail
          have hE := HP.out.1.err
          have j0 := hE.e.cell 0
          have hq2 := HP.out.1.errQ HP.out.2
          refine leaves_cons (f := 55) (args := #[.pointer (some ⟨g + 1 + 1, 0, none⟩), .pointer (some ⟨g + 1, 0, none⟩)]) (by simp) (by simp [go_sem]) ?_
          refine (fold1_any j0).mono ?_
          rintro e u' w4 ⟨rfl, rfl, rfl⟩
          refine ⟨_, results_fold rfl _ _ (g + 1) o rfl rfl hE.o (hE.e.cell 0), o.v, rfl, ?_, hE.l⟩
          rw [← HT.out]
          exact hq2
set_option maxRecDepth 100000 in
set_option maxHeartbeats 4000000 in
/-- ratio.Add -/
theorem add_q {w : World} {t : Q} {A : Option Addr} {n c : Nat} {qs : List Q} (hl : QR w A n qs) (hn : n ≤ 1000000) (hnc : n ≤ c) (hok : allOk qs = true) (hf : qfold qsum ⟨0, 1⟩ qs = some t) : Calls Tryz.prog 11 #[.slice A n c] w fun e w' => ∃ v, e = .returned (.tuple #[v, .int .i64 0]) ∧ QV w' v t ∧ Below w.heap.size w w' := by
  have hb0 : Below w.heap.size w (w.alloc (.cells #[.bool false, .slice none 0 0, .slice none 0 0] 40)) := (Below.refl _ _).alloc (Nat.le_refl _) _
  have k0 := Bk.newA w 40 #[.bool false, .slice none 0 0, .slice none 0 0]
  have H0 := Lib.hid (And.intro hb0 (And.intro k0 (And.intro hl (And.intro hok hf))))
  clear hb0 k0 hl hok hf
  go_enter Tryz.func11, Tryz.ntmps11
  go_wp2_with fail
  refine one_any.mono ?_
  rintro e w1 ⟨o, rfl, ho, hb1⟩
  obtain ⟨A1, m1, c1, rfl⟩ := ho.form
  have hb01 := below_base H0.out.1 hb1 H0.out.1.size
  have hq1 : QV w1 (.agg #[.bool false, .slice none 0 0, .slice A1 m1 c1]) ⟨0, 1⟩ := ⟨_, _, rfl, NV.nil _, ho⟩
  have H1 := Lib.hid (And.intro hb01 (And.intro (H0.out.2.1.belowS hb1) (fold_sum hq1 rfl (H0.out.2.2.1.below hb01) hn hnc H0.out.2.2.2.1 H0.out.2.2.2.2)))
  clear ho hb1 hb01 hq1
  go_wp2_with fail
  refine H1.out.2.2.mono ?_
  rintro e w2 ⟨v2, rfl, hv2, hb2⟩
  obtain ⟨r2, rfl⟩ := hv2.r3
  have k2 := H1.out.2.1.belowS hb2
  obtain ⟨_, _, _, s0, s1, s2⟩ := cells_rat k2
  have HF := Lib.hid (fin_rat k2 hv2 (below_base H1.out.1 hb2 H1.out.1.size) (Nat.le_refl _))
  clear k2 hv2 hb2
  unfold R3.v
  go_wp2_with fail
  refine bodyPost_ret (ret_rat2 rfl rfl HF.out.1) rfl ?_
  exact ⟨_, rfl, HF.out.2⟩
set_option maxRecDepth 100000 in
set_option maxHeartbeats 4000000 in
/-- ratio.Mul -/
theorem mul_q {w : World} {t : Q} {A : Option Addr} {n c : Nat} {qs : List Q} (hl : QR w A n qs) (hn : n ≤ 1000000) (hnc : n ≤ c) (hok : allOk qs = true) (hf : qfold qprod ⟨1, 1⟩ qs = some t) : Calls Tryz.prog 12 #[.slice A n c] w fun e w' => ∃ v, e = .returned (.tuple #[v, .int .i64 0]) ∧ QV w' v t ∧ Below w.heap.size w w' := by
  have hb0 : Below w.heap.size w (w.alloc (.cells #[.bool false, .slice none 0 0, .slice none 0 0] 40)) := (Below.refl _ _).alloc (Nat.le_refl _) _
  have k0 := Bk.newA w 40 #[.bool false, .slice none 0 0, .slice none 0 0]
  have H0 := Lib.hid (And.intro hb0 (And.intro k0 (And.intro hl (And.intro hok hf))))
  clear hb0 k0 hl hok hf
  go_enter Tryz.func12, Tryz.ntmps12
  go_wp2_with fail
  refine one_any.mono ?_
  rintro e w1 ⟨o, rfl, ho, hb1⟩
  obtain ⟨A1, m1, c1, rfl⟩ := ho.form
  have hb01 := below_base H0.out.1 hb1 H0.out.1.size
  have H1 := Lib.hid (And.intro hb01 (And.intro (H0.out.2.1.belowS hb1) ho))
  clear ho hb1 hb01
  go_wp2_with fail
  refine one_any.mono ?_
  rintro e w1b ⟨o, rfl, ho, hb1⟩
  obtain ⟨A2, m2, c2, rfl⟩ := ho.form
  have hb01 := below_base H1.out.1 hb1 H1.out.1.size
  have hq1 : QV w1b (.agg #[.bool false, .slice A1 m1 c1, .slice A2 m2 c2]) ⟨1, 1⟩ := ⟨_, _, rfl, H1.out.2.2.below hb1, ho⟩
  have H1 := Lib.hid (And.intro hb01 (And.intro (H1.out.2.1.belowS hb1) (fold_product hq1 rfl (H0.out.2.2.1.below hb01) hn hnc H0.out.2.2.2.1 H0.out.2.2.2.2)))
  clear ho hb1 hb01 hq1
  go_wp2_with fail
  refine H1.out.2.2.mono ?_
  rintro e w2 ⟨v2, rfl, hv2, hb2⟩
  obtain ⟨r2, rfl⟩ := hv2.r3
  have k2 := H1.out.2.1.belowS hb2
  obtain ⟨_, _, _, s0, s1, s2⟩ := cells_rat k2
  have HF := Lib.hid (fin_rat k2 hv2 (below_base H1.out.1 hb2 H1.out.1.size) (Nat.le_refl _))
  clear k2 hv2 hb2
  unfold R3.v
  go_wp2_with fail
  refine bodyPost_ret (ret_rat2 rfl rfl HF.out.1) rfl ?_
  exact ⟨_, rfl, HF.out.2⟩
end Go.Proofs.YtlhipaffhehcnaaGreat
namespace Go.Proofs.YtlhipaffhehcnaaGreat
open Go.RowKit
set_option linter.unusedVariables false
theorem RV.un {w : World} {r : R3} {q : Q} (h : QV w r.v q) : WV w (.agg #[.bool r.s, .slice r.A r.m r.c]) q.z ∧ NV w (.slice r.B r.n r.d) q.d := by
  obtain ⟨u, t, e, h1, h2⟩ := h
  unfold R3.v at e
  injection e with e
  have e1 := congrArg Array.toList e
  simp at e1
  obtain ⟨e1, rfl, rfl⟩ := e1
  exact ⟨⟨_, by rw [e1], h1⟩, h2⟩
theorem qneg_ok {q : Q} (h : q.ok = true) : (qneg q).ok = true := by
  have : (qneg q).ok = q.ok := by unfold qneg Q.ok; simp
  rw [this]; exact h
theorem BxS.fin {w0 W : World} {g : Nat} {x1 y1 z1 x2 y2 z2 : Value} {r : R3} {q : Q} (h : BxS w0 W g x1 y1 z1 x2 y2 z2) (hq : QV W r.v q) :
    Bk (((W.setCell ⟨g + 1 + 1, 0, none⟩ (.bool r.s)).setCell ⟨g + 1 + 1, 1, none⟩ (.slice r.A r.m r.c)).setCell ⟨g + 1 + 1, 2, none⟩ (.slice r.B r.n r.d)) (g + 1 + 1) 40 [.bool r.s, .slice r.A r.m r.c, .slice r.B r.n r.d] ∧ QV (((W.setCell ⟨g + 1 + 1, 0, none⟩ (.bool r.s)).setCell ⟨g + 1 + 1, 1, none⟩ (.slice r.A r.m r.c)).setCell ⟨g + 1 + 1, 2, none⟩ (.slice r.B r.n r.d)) r.v q ∧ Below w0.heap.size w0 (((W.setCell ⟨g + 1 + 1, 0, none⟩ (.bool r.s)).setCell ⟨g + 1 + 1, 1, none⟩ (.slice r.A r.m r.c)).setCell ⟨g + 1 + 1, 2, none⟩ (.slice r.B r.n r.d)) :=
  fin_rat h.r hq h.l (by have := h.g; omega)
set_option maxRecDepth 100000 in
set_option maxHeartbeats 4000000 in
/-- ratio.Sub -/
theorem sub_q {w : World} {va vb : Value} {a b : Q} (ha : QV w va a) (hb : QV w vb b) (h1 : a.ok = true) (h2 : b.ok = true) : Calls Tryz.prog 100 #[va, vb] w fun e w' => ∃ v, e = .returned (.tuple #[v, .int .i64 0]) ∧ QV w' v (qsum a (qneg b)) ∧ Below w.heap.size w w' := by
  obtain ⟨r, rfl⟩ := ha.r3
  obtain ⟨s, rfl⟩ := hb.r3
  have HQ := Lib.hid (And.intro ha (And.intro hb (And.intro h1 h2)))
  obtain ⟨w1, hw1⟩ : ∃ w1, ((w.alloc (.cells #[.bool r.s, .slice r.A r.m r.c, .slice r.B r.n r.d] 40)).alloc (.cells #[.bool s.s, .slice s.A s.m s.c, .slice s.B s.n s.d] 40)).alloc (.cells #[.bool false, .slice none 0 0, .slice none 0 0] 40) = w1 := ⟨_, rfl⟩
  have hB := BxS.new w (.bool r.s) (.slice r.A r.m r.c) (.slice r.B r.n r.d) (.bool s.s) (.slice s.A s.m s.c) (.slice s.B s.n s.d)
  rw [hw1] at hB
  obtain ⟨g, hg⟩ : ∃ g, w.heap.size = g := ⟨_, rfl⟩
  rw [hg] at hB
  have H1 := Lib.hid hB
  obtain ⟨c0, c1, c2, c3, c4, c5⟩ := hB.cellz
  clear ha hb h1 h2 hB
  unfold R3.v
  go_enter Tryz.func100, Tryz.ntmps100
  go_wp2_with fail
  refine (check_q (HQ.out.1.below H1.out.l) HQ.out.2.2.1).mono ?_
  rintro e w2 ⟨rfl, hb2⟩
  have hB := H1.out.below hb2
  have H2 := Lib.hid hB
  clear c0 c1 c2 c3 c4 c5 hb2
  obtain ⟨c0, c1, c2, c3, c4, c5⟩ := hB.cellz
  clear hB
  go_wp2_with fail
  refine (check_q (HQ.out.2.1.below H2.out.l) HQ.out.2.2.2).mono ?_
  rintro e w3 ⟨rfl, hb3⟩
  have hB := H2.out.below hb3
  have H3 := Lib.hid (hB.below (Below.refl _ _).drew)
  clear c0 c1 c2 c3 c4 c5 hb3
  obtain ⟨c0, c1, c2, c3, c4, c5⟩ := hB.cellz
  clear hB
  go_wp2_with fail
  clear c0 c1 c2 c3 c4 c5
  go_region_held3 (fun w' => w'.cell? ⟨g, 0, none⟩ = some (.bool r.s) ∧ w'.cell? ⟨g, 1, none⟩ = some (.slice r.A r.m r.c) ∧ w'.cell? ⟨g, 2, none⟩ = some (.slice r.B r.n r.d) ∧ w'.cell? ⟨g + 1, 0, none⟩ = some (.bool s.s) ∧ w'.cell? ⟨g + 1, 1, none⟩ = some (.slice s.A s.m s.c) ∧ w'.cell? ⟨g + 1, 2, none⟩ = some (.slice s.B s.n s.d))
    (first | exact H5.out.stored _ _ _ | with_reducible exact H5.out.cellz | with_reducible exact H4.out.cellz | with_reducible exact H3.out.cellz)
    (first
    | (go_at_call 138; refine (neg_any (z := b.z) (RV.un (HQ.out.2.1.below (by with_reducible exact H3.out.l))).1).mono ?_; rintro e w4 ⟨v4, rfl, hv4, hb4⟩; have H4 := Lib.hid (H3.out.below hb4); obtain ⟨b4, A4, m4, n4, rfl⟩ := hv4.form; have HV4 := Lib.hid hv4; clear hv4 hb4)
    | (go_at_call 26; refine (sum_q (a := a) (b := qneg b) (HQ.out.1.below (by with_reducible exact H4.out.l)) (rat_wv HV4.out (RV.un (HQ.out.2.1.below H4.out.l)).2) HQ.out.2.2.1 (qneg_ok HQ.out.2.2.2)).mono ?_; rintro e w5 ⟨v5, rfl, hv5, hb5⟩; have H5 := Lib.hid (H4.out.below hb5); obtain ⟨t, rfl⟩ := hv5.r3; have HV5 := Lib.hid hv5; have q := cells_rat H5.out.r; obtain ⟨r0, r1, r2, s0, s1, s2⟩ := q; unfold R3.v))
  go_wp2_with fail
  have HF := H5.out.fin HV5.out
  refine bodyPost_ret (ret_rat2 rfl rfl HF.1) rfl ?_
  exact ⟨_, rfl, HF.2⟩
/-- 1 over a fraction. -/
def qover (q : Q) : Q := ⟨if q.z < 0 then -(q.d : Int) else q.d, q.z.natAbs⟩
set_option maxRecDepth 100000 in
/-- ratio.over -/
theorem over_q {w : World} {v : Value} {q : Q} (h : QV w v q) (h0 : 0 < q.d) : Calls Tryz.prog 152 #[v] w fun e w' => ∃ v', e = .returned v' ∧ QV w' v' (qover q) ∧ Below w.heap.size w w' := by
  obtain ⟨r, rfl⟩ := h.r3
  have HQ := Lib.hid (And.intro h h0)
  have hB : Below w.heap.size w ((w.alloc (.cells #[.bool r.s, .slice r.A r.m r.c, .slice r.B r.n r.d] 40)).alloc (.cells #[.bool false, .slice none 0 0, .slice none 0 0] 40)) := ((Below.refl _ _).alloc (Nat.le_refl _) _).alloc (by simp) _
  clear h h0
  unfold R3.v
  go_enter Tryz.func152, Tryz.ntmps152
  go_wp2_with fail
  have hw2 : QV ((w.alloc (.cells #[.bool r.s, .slice r.A r.m r.c, .slice r.B r.n r.d] 40)).alloc (.cells #[.bool r.s, .slice r.B r.n r.d, .slice r.A r.m r.c] 40)) (.agg #[.bool r.s, .slice r.B r.n r.d, .slice r.A r.m r.c]) (qover q) ∧ Below w.heap.size w ((w.alloc (.cells #[.bool r.s, .slice r.A r.m r.c, .slice r.B r.n r.d] 40)).alloc (.cells #[.bool r.s, .slice r.B r.n r.d, .slice r.A r.m r.c] 40)) := by
    have hb : Below w.heap.size w ((w.alloc (.cells #[.bool r.s, .slice r.A r.m r.c, .slice r.B r.n r.d] 40)).alloc (.cells #[.bool r.s, .slice r.B r.n r.d, .slice r.A r.m r.c] 40)) := ((Below.refl _ _).alloc (Nat.le_refl _) _).alloc (by simp) _
    obtain ⟨h1, h2⟩ := RV.un (HQ.out.1.below hb)
    have h0 := HQ.out.2
    refine ⟨⟨_, _, by rw [h1.un.1]; congr 4; unfold qover; by_cases hz : q.z < 0 <;> simp [hz] <;> omega, ?_, h1.un.2⟩, hb⟩
    have e : (qover q).z.natAbs = q.d := by unfold qover; by_cases hz : q.z < 0 <;> simp [hz]
    rw [e]; exact h2
  refine bodyPost_ret (ret_rat27 rfl rfl (Bk.new2 w _ _ #[.bool r.s, .slice r.B r.n r.d, .slice r.A r.m r.c])) rfl ?_
  exact ⟨_, rfl, hw2⟩
theorem QV.m {w : World} {r : R3} {q : Q} (h : QV w r.v q) : r.m = ln q.z.natAbs ∧ r.n = ln q.d := by
  obtain ⟨h1, h2⟩ := RV.un h
  obtain ⟨A, c, e, _⟩ := h1.un.2
  obtain ⟨B, d, e2, _⟩ := h2
  injection e with e3 e4
  injection e2 with e5 e6
  exact ⟨e4, e6⟩
theorem qover_ok {q : Q} (h : q.ok = true) (hz : q.z ≠ 0) : (qover q).ok = true := by
  obtain ⟨h1, h2, h3, h4⟩ := Q.ok_iff h
  have e : (qover q).z.natAbs = q.d := by unfold qover; by_cases hz : q.z < 0 <;> simp [hz]
  have e2 : (qover q).d = q.z.natAbs := rfl
  unfold Q.ok
  rw [e, e2, Nat.gcd_comm, h2]
  simp only [Bool.and_eq_true, Nat.blt_eq]
  exact ⟨by omega, rfl, h4, h3⟩
set_option maxRecDepth 100000 in
set_option maxHeartbeats 4000000 in
/-- ratio.Div -/
theorem div_q {w : World} {va vb : Value} {a b : Q} (ha : QV w va a) (hb : QV w vb b) (h1 : a.ok = true) (h2 : b.ok = true) (hz : b.z ≠ 0) : Calls Tryz.prog 123 #[va, vb] w fun e w' => ∃ v, e = .returned (.tuple #[v, .int .i64 0]) ∧ QV w' v (qprod a (qover b)) ∧ Below w.heap.size w w' := by
  obtain ⟨r, rfl⟩ := ha.r3
  obtain ⟨s, rfl⟩ := hb.r3
  have hm : s.m = 1 := by rw [hb.m.1, ln_pos (by omega)]
  have HQ := Lib.hid (And.intro ha (And.intro hb (And.intro h1 (And.intro h2 hz))))
  obtain ⟨ss, sA, sm, sc, sB, sn, sd⟩ := s
  simp only at hm
  subst hm
  obtain ⟨w1, hw1⟩ : ∃ w1, ((w.alloc (.cells #[.bool r.s, .slice r.A r.m r.c, .slice r.B r.n r.d] 40)).alloc (.cells #[.bool ss, .slice sA 1 sc, .slice sB sn sd] 40)).alloc (.cells #[.bool false, .slice none 0 0, .slice none 0 0] 40) = w1 := ⟨_, rfl⟩
  have hB := BxS.new w (.bool r.s) (.slice r.A r.m r.c) (.slice r.B r.n r.d) (.bool ss) (.slice sA 1 sc) (.slice sB sn sd)
  rw [hw1] at hB
  obtain ⟨g, hg⟩ : ∃ g, w.heap.size = g := ⟨_, rfl⟩
  rw [hg] at hB
  have H1 := Lib.hid hB
  obtain ⟨c0, c1, c2, c3, c4, c5⟩ := hB.cellz
  clear ha hb h1 h2 hB hz
  unfold R3.v
  go_enter Tryz.func123, Tryz.ntmps123
  go_wp2_with fail
  refine (check_q (HQ.out.1.below H1.out.l) HQ.out.2.2.1).mono ?_
  rintro e w2 ⟨rfl, hb2⟩
  have hB := H1.out.below hb2
  have H2 := Lib.hid hB
  clear c0 c1 c2 c3 c4 c5 hb2
  obtain ⟨c0, c1, c2, c3, c4, c5⟩ := hB.cellz
  clear hB
  go_wp2_with fail
  refine (check_q (HQ.out.2.1.below H2.out.l) HQ.out.2.2.2.1).mono ?_
  rintro e w3 ⟨rfl, hb3⟩
  have hB := H2.out.below hb3
  have H3 := Lib.hid (hB.below (Below.refl _ _).drew)
  clear c0 c1 c2 c3 c4 c5 hb3
  obtain ⟨c0, c1, c2, c3, c4, c5⟩ := hB.cellz
  clear hB
  go_wp2_with fail
  clear c0 c1 c2 c3 c4 c5
  go_region_held3 (fun w' => w'.cell? ⟨g, 0, none⟩ = some (.bool r.s) ∧ w'.cell? ⟨g, 1, none⟩ = some (.slice r.A r.m r.c) ∧ w'.cell? ⟨g, 2, none⟩ = some (.slice r.B r.n r.d) ∧ w'.cell? ⟨g + 1, 0, none⟩ = some (.bool ss) ∧ w'.cell? ⟨g + 1, 1, none⟩ = some (.slice sA 1 sc) ∧ w'.cell? ⟨g + 1, 2, none⟩ = some (.slice sB sn sd))
    (first | exact H5.out.stored _ _ _ | with_reducible exact H5.out.cellz | with_reducible exact H4.out.cellz | with_reducible exact H3.out.cellz)
    (first
    | (go_at_call 152; refine (over_q (q := b) (HQ.out.2.1.below (by with_reducible exact H3.out.l)) (Q.ok_iff HQ.out.2.2.2.1).1).mono ?_; rintro e w4 ⟨v4, rfl, hv4, hb4⟩; have H4 := Lib.hid (H3.out.below hb4); obtain ⟨t4, rfl⟩ := hv4.r3; have HV4 := Lib.hid hv4; clear hv4 hb4; unfold R3.v)
    | (go_at_call 27; refine (product_q (a := a) (b := qover b) (HQ.out.1.below (by with_reducible exact H4.out.l)) HV4.out HQ.out.2.2.1 (qover_ok HQ.out.2.2.2.1 HQ.out.2.2.2.2)).mono ?_; rintro e w5 ⟨v5, rfl, hv5, hb5⟩; have H5 := Lib.hid (H4.out.below hb5); obtain ⟨t, rfl⟩ := hv5.r3; have HV5 := Lib.hid hv5; have q := cells_rat H5.out.r; obtain ⟨r0, r1, r2, s0, s1, s2⟩ := q; unfold R3.v))
  go_wp2_with fail
  have HF := H5.out.fin HV5.out
  refine bodyPost_ret (ret_rat2 rfl rfl HF.1) rfl ?_
  exact ⟨_, rfl, HF.2⟩
/-- How two fractions compare. -/
def qcmp (a b : Q) : Int := sgn (qsum a (qneg b)).z
set_option maxRecDepth 100000 in
set_option maxHeartbeats 4000000 in
/-- ratio.Cmp -/
theorem cmp_q {w : World} {va vb : Value} {a b : Q} (ha : QV w va a) (hb : QV w vb b) (h1 : a.ok = true) (h2 : b.ok = true) : Calls Tryz.prog 65 #[va, vb] w fun e w' => e = .returned (.tuple #[.int .i64 (qcmp a b), .int .i64 0]) ∧ Below w.heap.size w w' := by
  obtain ⟨r, rfl⟩ := ha.r3
  obtain ⟨s, rfl⟩ := hb.r3
  have hb1 : Below w.heap.size w ((w.alloc (.cells #[.bool r.s, .slice r.A r.m r.c, .slice r.B r.n r.d] 40)).alloc (.cells #[.bool s.s, .slice s.A s.m s.c, .slice s.B s.n s.d] 40)) := ((Below.refl _ _).alloc (Nat.le_refl _) _).alloc (by simp) _
  have HS := Lib.hid (And.intro (sub_q (ha.below hb1) (hb.below hb1) h1 h2) hb1)
  clear ha hb h1 h2 hb1
  unfold R3.v at *
  go_enter Tryz.func65, Tryz.ntmps65
  go_wp2_with fail
  refine HS.out.1.mono ?_
  rintro e w2 ⟨v2, rfl, hv2, hb2⟩
  obtain ⟨t, rfl⟩ := hv2.r3
  have hbb := (below_base HS.out.2 hb2 HS.out.2.size).alloc (below_base HS.out.2 hb2 HS.out.2.size).size (.cells #[.bool t.s, .slice t.A t.m t.c, .slice t.B t.n t.d] 40)
  have HV := Lib.hid (And.intro (RV.un (hv2.below ((Below.refl _ _).alloc (Nat.le_refl _) (.cells #[.bool t.s, .slice t.A t.m t.c, .slice t.B t.n t.d] 40)))).1 hbb)
  clear hv2 hb2 hbb
  unfold R3.v
  go_wp2_with fail
  refine (sign_any HV.out.1).mono ?_
  rintro e w3 ⟨rfl, hb3⟩
  have HB := Lib.hid (below_base HV.out.2 hb3 HV.out.2.size)
  clear hb3
  go_wp2_with fail
  go_ret2
  exact ⟨rfl, HB.out⟩
end Go.Proofs.YtlhipaffhehcnaaGreat
