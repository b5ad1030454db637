/- TopLeft: ripple.levels: the grids, level by level. -/
import Derived.Test.YtlhipaffhehcnaaGreatT32
import Derived.Test.YtlhipaffhehcnaaGreatT34
namespace Go.Proofs.YtlhipaffhehcnaaGreat
open Go.RowKit Go.Shelf
set_option linter.unusedVariables false
attribute [local go_sem] Oper.semAt_some
def levO (t : List Nat) (k n : Nat) : Nat → Option (List Q)
  | 0 => firstO t k n
  | i + 1 => (levO t k n i).bind fun g => nextO t k (k - i) n g
theorem levO_pre {t : List Nat} {k n N : Nat} {l : List Q} (h : levO t k n N = some l) : ∀ i, i ≤ N → ∃ a, levO t k n i = some a := by
  induction N generalizing l with
  | zero => intro i hi; obtain rfl : i = 0 := by omega
            exact ⟨_, h⟩
  | succ N ih =>
    intro i hi
    by_cases e : i = N + 1
    · subst e; exact ⟨_, h⟩
    · unfold levO at h
      obtain ⟨a, ha, _⟩ := Option.bind_eq_some_iff.1 h
      exact ih ha i (by omega)
theorem levO_step {t : List Nat} {k n N : Nat} {l : List Q} (h : levO t k n N = some l) {i : Nat} (hi : i < N) : ∃ a b, levO t k n i = some a ∧ nextO t k (k - i) n a = some b ∧ levO t k n (i + 1) = some b := by
  obtain ⟨b, hb⟩ := levO_pre h (i + 1) (by omega)
  have hb2 := hb
  unfold levO at hb2
  obtain ⟨a, ha, hm⟩ := Option.bind_eq_some_iff.1 hb2
  exact ⟨a, b, ha, hm, hb⟩
theorem nextO_len {t : List Nat} {k u n : Nat} {qs l : List Q} (h : nextO t k u n qs = some l) : l.length = (n + 1) * (n + 1) := by
  unfold nextO at h
  obtain ⟨fr, _, h⟩ := Option.bind_eq_some_iff.1 h
  rw [foldO_len (fun i a b h => nx3_len h) h, List.length_replicate]
theorem levO_len {t : List Nat} {k n : Nat} : ∀ {i : Nat} {l : List Q}, levO t k n i = some l → l.length = (n + 1) * (n + 1)
  | 0, l, h => by
    unfold levO firstO at h
    obtain ⟨p, _, h⟩ := Option.bind_eq_some_iff.1 h
    exact frO_len h
  | i + 1, l, h => by
    unfold levO at h
    obtain ⟨a, _, h⟩ := Option.bind_eq_some_iff.1 h
    exact nextO_len h
theorem gz_no (n : Int) (A : Option Addr) (m c : Nat) : ∀ (i : Nat) (x : Int), [(.int .i64 n : Value), .slice A m c][i]? ≠ some (.int .u64 x) := fun i x => by rcases i with _ | _ | i <;> simp
theorem RwF.kx {A : Option Addr} {n c : Nat} {t : List Nat} {k u bu bt bk : Nat} {W W' : World} {B : Nat} {T : Nat → Prop} (h : RwF A n c t k u bu bt bk W) (hk : Kx B T W W') (hT : ¬ T bu ∧ ¬ T bt ∧ ¬ T bk ∧ (∀ a, A = some a → ¬ T a.block)) : RwF A n c t k u bu bt bk W' := by
  obtain ⟨S, h1, k1⟩ := hk
  exact h.kq h1 ⟨fun e => hT.1 (k1 _ e), fun e => hT.2.1 (k1 _ e), fun e => hT.2.2.1 (k1 _ e), fun a ha e => hT.2.2.2 a ha (k1 _ e)⟩
set_option maxRecDepth 100000 in
/-- ripple.levels -/
theorem levels_any {w : World} {A : Option Addr} {nt c k n : Nat} {t : List Nat} (h : Tb w A nt t) : Calls Tryz.prog 19 #[.slice A nt c, .int .i64 (k : Nat), .int .i64 (n : Nat)] w fun e w' => e = .returned (.func (.func 44) #[] #[.pointer (some ⟨w.heap.size, 0, none⟩), .pointer (some ⟨w.heap.size + 1, 0, none⟩), .pointer (some ⟨w.heap.size + 1 + 1, 0, none⟩)]) ∧
      RwF A nt c t k n (w.heap.size + 1 + 1) w.heap.size (w.heap.size + 1) w' ∧ Below w.heap.size w w' := by
  have hmf : ∀ (fn : Fn) (first cap : Array Value) (w : World), (Instr.makeFunc fn first cap).run Tryz.prog w = .ok (.func fn first cap) w := fun _ _ _ _ => rfl
  obtain ⟨w1, hw1⟩ : ∃ w1, ((w.alloc (.cells #[.slice A nt c] 22)).alloc (.cells #[.int .i64 (k : Nat)] 3)).alloc (.cells #[.int .i64 (n : Nat)] 3) = w1 := ⟨_, rfl⟩
  have hb1 : Below w.heap.size w w1 := by rw [← hw1]; exact bl_allocd (bl_allocd (bl_allocd (Below.refl _ _) _) _) _
  have k4 : Bk w1 w.heap.size 22 [.slice A nt c] := by rw [← hw1]; exact ((Bk.newA w 22 #[.slice A nt c]).alloc _).alloc _
  have k5 : Bk w1 (w.heap.size + 1) 3 [.int .i64 (k : Nat)] := by
    have := (Bk.newA (w.alloc (.cells #[.slice A nt c] 22)) 3 #[.int .i64 (k : Nat)]).alloc (.cells #[.int .i64 (n : Nat)] 3)
    rw [World.size_alloc] at this
    rw [← hw1]; exact this
  have k6 : Bk w1 (w.heap.size + 1 + 1) 3 [.int .i64 (n : Nat)] := by
    have := Bk.newA ((w.alloc (.cells #[.slice A nt c] 22)).alloc (.cells #[.int .i64 (k : Nat)] 3)) 3 #[.int .i64 (n : Nat)]
    rw [World.size_alloc, World.size_alloc] at this
    rw [← hw1]; exact this
  have HF := Lib.hid (And.intro (show RwF A nt c t k n (w.heap.size + 1 + 1) w.heap.size (w.heap.size + 1) w1 from ⟨k4, k5, k6, h.below hb1⟩) hb1)
  clear h hb1 k4 k5 k6
  go_enter Tryz.func19, Tryz.ntmps19
  go_wp2_with fail
  go_ret
  exact ⟨rfl, HF.out⟩
/-- What levels yields. -/
def OkL (B : Nat) (t : List Nat) (k n L i : Nat) (x : Array Value) (W : World) : Prop := ∃ G qs, x = #[.int .i64 ((k - i : Nat) : Int), gridV n G L] ∧ levO t k n i = some qs ∧ GB W G [] qs ∧ B ≤ G
/-- levels, so far. -/
structure LvS (B : Nat) (A : Option Addr) (nt c : Nat) (t : List Nat) (k n L b0 b1 b2 bx i : Nat) (wr : World) : Prop where
  f : RwF A nt c t k n b2 b0 b1 wr
  b : ∃ G qs, Bk wr bx 60 [.int .i64 (n : Nat), .slice (some ⟨G, 0, none⟩) L L] ∧ levO t k n i = some qs ∧ GB wr G [] qs ∧ B ≤ G
  x : B ≤ bx ∧ bx ≠ b0 ∧ bx ≠ b1 ∧ bx ≠ b2 ∧ ∀ a, A = some a → a.block ≠ bx
set_option maxRecDepth 100000 in
set_option maxHeartbeats 4000000 in
/-- What levels hands on. -/
theorem levels_iter {w : World} {B m : Nat} {T : Nat → Prop} {A : Option Addr} {nt c : Nat} {t : List Nat} {k n L b0 b1 b2 : Nat} {qk : List Q} (hm : 2 ≤ m) (h : RwF A nt c t k n b2 b0 b1 w) (hk : k ≤ 8) (hk1 : 1 ≤ k) (ht : tOk t k = true) (hn : n ≤ 8) (hL : (n + 1) * (n + 1) = L) (hB : B ≤ w.heap.size)
    (hlt : b0 < w.heap.size ∧ b1 < w.heap.size ∧ b2 < w.heap.size ∧ ∀ a, A = some a → a.block < w.heap.size) (hT : ∀ g, T g → g < B ∧ g ≠ b0 ∧ g ≠ b1 ∧ g ≠ b2 ∧ ∀ a, A = some a → a.block ≠ g) (hq : levO t k n k = some qk) :
    IterY Fence.wide m Tryz.prog 44 #[.pointer (some ⟨b0, 0, none⟩), .pointer (some ⟨b1, 0, none⟩), .pointer (some ⟨b2, 0, none⟩)] B (fun g => B ≤ g) T (OkL B t k n L) (k + 1) w := by
  intro l J Jx W hkw hJ hJx hY h0
  have hW := h.kq hkw ⟨fun e => e, fun e => e, fun e => e, fun _ _ e => e⟩
  have hWB := hkw.size
  have HH := Lib.hid (And.intro hJ (And.intro hJx (And.intro hY (And.intro hk (And.intro hk1 (And.intro ht (And.intro hn (And.intro hL (And.intro hT hq)))))))))
  have HW := Lib.hid (And.intro hW (And.intro h0 (And.intro hWB (And.intro hB hlt))))
  have HTb := Lib.hid (show ¬ T b2 ∧ ¬ T b0 ∧ ¬ T b1 ∧ (∀ a, A = some a → ¬ T a.block) from ⟨fun e => (hT _ e).2.2.2.1 rfl, fun e => (hT _ e).2.1 rfl, fun e => (hT _ e).2.2.1 rfl, fun a ha e => (hT _ e).2.2.2.2 a ha rfl⟩)
  have c0 := hW.ht.cell 0
  have c1 := hW.hk.cell 0
  have c2 := hW.hu.cell 0
  have hk8 : (k : Int) ≤ 8 := by omega
  clear h hkw hJ hJx hY h0 hk hk1 ht hn hL hT hq hW hB hlt hWB
  refine callsIn_of_wp Tryz.func44 rfl trivial ?_ rfl
  simp only [Tryz.ntmps44, List.size_toArray, List.length_cons, List.length_nil, Nat.reduceAdd, Nat.reduceSub, Array.replicate_succ, Array.replicate_zero, List.push_toArray, List.append_toArray, List.nil_append, List.cons_append]
  refine wpIn_wide.2 ?_
  go_wp2_with fail
  obtain ⟨q0, hq0⟩ := levO_pre HH.out.2.2.2.2.2.2.2.2.2 0 (Nat.zero_le _)
  refine (first_any (qs := q0) HW.out.1.tb HH.out.2.2.2.1 HH.out.2.2.2.2.1 HH.out.2.2.2.2.2.1 HH.out.2.2.2.2.2.2.1 HH.out.2.2.2.2.2.2.2.1 hq0).mono ?_
  rintro e w1 ⟨G, rfl, hgb, hG, hb1⟩
  obtain ⟨o, ho⟩ : ∃ o : Obj, o = .cells #[.int .i64 (n : Nat), .slice (some ⟨G, 0, none⟩) L L] 60 := ⟨_, rfl⟩
  obtain ⟨bx, hbx⟩ : ∃ bx, w1.heap.size = bx := ⟨_, rfl⟩
  obtain ⟨w2, hw2⟩ : ∃ w2, w1.alloc o = w2 := ⟨_, rfl⟩
  have hb2 : Below w1.heap.size w1 w2 := by rw [← hw2]; exact bl_allocd (Below.refl _ _) _
  have kx : Bk w2 bx 60 [.int .i64 (n : Nat), .slice (some ⟨G, 0, none⟩) L L] := by rw [← hw2, ← hbx, ho]; exact Bk.newA w1 60 #[.int .i64 (n : Nat), .slice (some ⟨G, 0, none⟩) L L]
  have hbw := bl_next hb1 hb2
  have hz1 := hb1.size
  have H2 := Lib.hid (And.intro (show LvS B A nt c t k n L b0 b1 b2 bx 0 w2 from ⟨HW.out.1.below hbw, ⟨G, q0, kx, hq0, hgb.below hb2, by have := HW.out.2.2.1; have := HW.out.2.2.2.1; omega⟩, by
    obtain ⟨_, _, e1, e2, e3, e4, e5, e6⟩ := HW.out
    exact ⟨by omega, by omega, by omega, by omega, fun a ha => by have := e6 a ha; omega⟩⟩) (HH.out.1 _ _ _ HW.out.2.1 (Kx.none (Kq.of_below _ hbw)) (keepsFrom_below hbw)))
  have c1' : (w1.alloc (.cells #[.int .i64 (n : Nat), .slice (some ⟨G, 0, none⟩) L L] 60)).cell? ⟨b1, 0, none⟩ = some (.int .i64 (k : Nat)) := by rw [← ho, hw2]; exact (HW.out.1.below hbw).hk.cell 0
  clear hgb hG hb1 hq0 hb2 kx hbw hz1 c0 c1 c2
  unfold gridV
  go_wp2_with fail
  rw [← ho, hw2]
  clear ho hbx hw2 c1'
  go_loopg [6] (k + 2) (fun q s wr => ∃ i : Nat, (q + i = k + 2 ∧ i ≤ k) ∧ s = .int .i64 ((k - i : Nat) : Int) ∧ LvS B A nt c t k n L b0 b1 b2 bx i wr ∧ J i wr)
  case atStart => exact ⟨0, ⟨rfl, Nat.zero_le _⟩, rfl, H2.out.1, H2.out.2⟩
  case round =>
    obtain ⟨i, hi, rfl, hS, hJi⟩ := hrel
    obtain ⟨G1, q1, kb, hl1, hg1, hB1⟩ := hS.b
    obtain ⟨x0, x1, _, _⟩ := cells2 kb
    obtain ⟨u, hu⟩ : ∃ u, k - i = u := ⟨_, rfl⟩
    obtain ⟨fn, tmps, assign, body, hy, hR⟩ := HH.out.2.2.1 i #[.int .i64 ((k - i : Nat) : Int), gridV n G1 L] wr (by omega) hJi ⟨G1, q1, rfl, hl1, hg1, hB1⟩
    have HI := Lib.hid (And.intro hS (And.intro kb (And.intro hl1 (And.intro hg1 (And.intro hB1 (And.intro hi hu))))))
    rw [hu] at hy ⊢
    have huI : (u : Int) ≤ 8 := by omega
    unfold gridV at hy
    clear hS kb hl1 hg1 hB1 hi hJi hu
    refine (wpIn_wide (n := m)).1 ?_
    gi_wp2
    refine ⟨fun _ => by omega, hR.mono ?_⟩
    rintro e W3 ⟨hk3, (⟨rfl, hJ3⟩ | ⟨rfl, hJx3⟩)⟩
    · have hS3 : LvS B A nt c t k n L b0 b1 b2 bx i W3 := ⟨HI.out.1.f.kx hk3 HTb.out, ⟨G1, q1, hk3.bk HI.out.2.1 (fun e => by have := (HH.out.2.2.2.2.2.2.2.2.1 _ e).1; have := HI.out.1.x.1; omega), HI.out.2.2.1, HI.out.2.2.2.1.kx hk3 (fun e => by have := (HH.out.2.2.2.2.2.2.2.2.1 _ e).1; have := HI.out.2.2.2.2.1; omega), HI.out.2.2.2.2.1⟩, HI.out.1.x⟩
      have kb3 := hk3.bk HI.out.2.1 (fun e => by have := (HH.out.2.2.2.2.2.2.2.2.1 _ e).1; have := HI.out.1.x.1; omega)
      have hg3 := HI.out.2.2.2.1.kx hk3 (fun e => by have := (HH.out.2.2.2.2.2.2.2.2.1 _ e).1; have := HI.out.2.2.2.2.1; omega)
      have H3 := Lib.hid (And.intro hS3 (And.intro hJ3 (And.intro kb3 hg3)))
      obtain ⟨x0, x1, s0, s1⟩ := cells2 kb3
      have d0 := hS3.f.ht.cell 0
      have d1 := hS3.f.hk.cell 0
      clear hS3 hJ3 hk3 hR hy kb3 hg3
      by_cases hu0 : 0 < u
      · have e1 : decide ((u : Int) > 0) = true := decide_eq_true (by omega)
        have e2 : decide ((0 : Int) < (u : Int)) = true := decide_eq_true (by omega)
        have e3 : decide (0 < u) = true := decide_eq_true hu0
        obtain ⟨qa, qb, n1, n2, n3⟩ := levO_step HH.out.2.2.2.2.2.2.2.2.2 (i := i) (by have := HI.out.2.2.2.2.2.2; omega)
        obtain rfl := Option.some.inj (HI.out.2.2.1.symm.trans n1)
        rw [HI.out.2.2.2.2.2.2] at n2
        have HN := Lib.hid (And.intro n2 (And.intro n3 hu0))
        clear n1 n2 n3 hu0
        gi_wp2
        have HX := Lib.hid (next_any (A := A) (nt := nt) (cp := c) (k := k) (u := u) (n := n) (G := G1) (L := L) (t := t) (w := W3) H3.out.1.f.tb HH.out.2.2.2.1 (by have := HI.out.2.2.2.2.2.2; omega) HN.out.2.2 HH.out.2.2.2.2.2.1 HH.out.2.2.2.2.2.2.1 HH.out.2.2.2.2.2.2.2.1 H3.out.2.2.2 ((levO_len HI.out.2.2.1).trans HH.out.2.2.2.2.2.2.2.1) HN.out.1)
        unfold gridV at HX
        refine ⟨trivial, fun _ => by omega, ((callsIn_wide).2 HX.out).mono ?_⟩
        rintro e W4 ⟨G4, rfl, hg4, hG4, hb4⟩
        have kb4 := H3.out.2.2.1.belowS hb4
        obtain ⟨_, _, s0, s1⟩ := cells2 kb4
        have hz4 := hb4.size
        have HX4 := Lib.hid (And.intro kb4 (And.intro hg4 (And.intro hG4 hb4)))
        have hwu : IntKind.i64.wrap ((u : Int) - 1) = ((u - 1 : Nat) : Int) := by rw [IntKind.wrap_i64]; have := HN.out.2.2; omega
        have hwu2 : wrap64 ((u : Int) - 1) = ((u - 1 : Nat) : Int) := by unfold wrap64; have := HN.out.2.2; omega
        clear x0 x1 hg4 hG4 hb4 d0 d1 HX hz4 kb4
        gi_wp2
        go_roundg (gk - 1)
        case measure => have := HI.out.2.2.2.2.2; omega
        case rel =>
          have hu' := HI.out.2.2.2.2.2.2
          have hi' := HI.out.2.2.2.2.2.1
          have hu0 := HN.out.2.2
          have hx := HI.out.1.x
          obtain ⟨kb4, hg4, hG4, hb4⟩ := HX4.out
          have hc := chg_set2 W4 bx (.int .i64 (n : Nat)) (.slice (some ⟨G4, 0, none⟩) L L)
          have hkq := Kq.of_chg B hc (num_of_bk kb4 (gz_no _ _ _ _))
          have hne : G4 ≠ bx := by have := H3.out.2.2.1.lt; omega
          have hsz := HI.out.1
          refine ⟨i + 1, by omega, by first | (rw [show k - (i + 1) = u - 1 from by omega]; done) | (congr 1; omega), ⟨(H3.out.1.f.below hb4).kq hkq ⟨fun e => hx.2.2.2.1 e.symm, fun e => hx.2.1 e.symm, fun e => hx.2.2.1 e.symm, fun a ha e => hx.2.2.2.2 a ha e⟩, ⟨G4, qb, (kb4.set_ 0 (.int .i64 (n : Nat))).set_ 1 (.slice (some ⟨G4, 0, none⟩) L L), HN.out.2.1, hg4.kq hkq hne, ?_⟩, hx⟩, ?_⟩
          · have h1 := H3.out.2.2.1.lt
            omega
          · exact HH.out.1 _ _ _ (HH.out.1 _ _ _ H3.out.2.1 (Kx.none (Kq.of_below _ hb4)) (keepsFrom_below hb4)) (hkq.x (fun k e => by omega)) (keepsFrom_chg hc (fun k o e _ ho => by subst e; exact bk_cells kb4 ho))
      · have hki : u = 0 := by omega
        subst hki
        have hik : i = k := by have := HI.out.2.2.2.2.2; omega
        have HB := Lib.hid (And.intro H3.out.2.1 hik)
        clear hik hu0
        gi_wp2
        go_end0
        exact ⟨⟨_, rfl⟩, .inl (by rw [← HB.out.2]; exact HB.out.1)⟩
    · have H3 := Lib.hid hJx3
      clear hJx3 hk3 hR hy x0 x1
      gi_wp2
      go_end0
      exact ⟨⟨_, rfl⟩, .inr H3.out⟩
end Go.Proofs.YtlhipaffhehcnaaGreat
