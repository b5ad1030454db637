/- TopLeft: chance: row, Cloud, In, Free. TopLeft: chance: In, Free. TopLeft: ripple: whole, some, refuses; grids: made, at. TopLeft: ripple: grids: made, at. TopLeft: ripple: at, places. -/
import Derived.Test.YtlhipaffhehcnaaGreatT27
namespace Go.Proofs.YtlhipaffhehcnaaGreat
open Go.RowKit Go.Shelf
set_option linter.unusedVariables false
set_option maxRecDepth 100000 in
/-- chance.row -/
theorem row_any {w : World} {A : Option Addr} {n c k u j : Nat} {t : List Nat} (h : Tb w A n t) : Calls Tryz.prog 151 #[.slice A n c, .int .i64 (k : Nat), .int .i64 (u : Nat), .int .i64 (j : Nat)] w fun e w' => e = .returned (.func (.func 163) #[] #[.pointer (some ⟨w.heap.size + 1 + 1 + 1, 0, none⟩), .pointer (some ⟨w.heap.size + 1 + 1, 0, none⟩), .pointer (some ⟨w.heap.size, 0, none⟩), .pointer (some ⟨w.heap.size + 1, 0, none⟩)]) ∧
      RwF A n c t k u (w.heap.size + 1 + 1) w.heap.size (w.heap.size + 1) w' ∧ Bk w' (w.heap.size + 1 + 1 + 1) 3 [.int .i64 (j : Nat)] ∧ Below w.heap.size w w' := by
  have hmf : ∀ (fn : Fn) (first cap : Array Value) (w : World), (Instr.makeFunc fn first cap).run Tryz.prog w = .ok (.func fn first cap) w := fun _ _ _ _ => rfl
  obtain ⟨w1, hw1⟩ : ∃ w1, (((w.alloc (.cells #[.slice A n c] 22)).alloc (.cells #[.int .i64 (k : Nat)] 3)).alloc (.cells #[.int .i64 (u : Nat)] 3)).alloc (.cells #[.int .i64 (j : Nat)] 3) = w1 := ⟨_, rfl⟩
  have hb1 : Below w.heap.size w w1 := by rw [← hw1]; exact bl_allocd (bl_allocd (bl_allocd (bl_allocd (Below.refl _ _) _) _) _) _
  have k4 : Bk w1 w.heap.size 22 [.slice A n c] := by rw [← hw1]; exact (((Bk.newA w 22 #[.slice A n c]).alloc _).alloc _).alloc _
  have k5 : Bk w1 (w.heap.size + 1) 3 [.int .i64 (k : Nat)] := by
    have := ((Bk.newA (w.alloc (.cells #[.slice A n c] 22)) 3 #[.int .i64 (k : Nat)]).alloc (.cells #[.int .i64 (u : Nat)] 3)).alloc (.cells #[.int .i64 (j : Nat)] 3)
    rw [World.size_alloc] at this
    rw [← hw1]; exact this
  have k6 : Bk w1 (w.heap.size + 1 + 1) 3 [.int .i64 (u : Nat)] := by
    have := (Bk.newA ((w.alloc (.cells #[.slice A n c] 22)).alloc (.cells #[.int .i64 (k : Nat)] 3)) 3 #[.int .i64 (u : Nat)]).alloc (.cells #[.int .i64 (j : Nat)] 3)
    rw [World.size_alloc, World.size_alloc] at this
    rw [← hw1]; exact this
  have k7 : Bk w1 (w.heap.size + 1 + 1 + 1) 3 [.int .i64 (j : Nat)] := by
    have := Bk.newA (((w.alloc (.cells #[.slice A n c] 22)).alloc (.cells #[.int .i64 (k : Nat)] 3)).alloc (.cells #[.int .i64 (u : Nat)] 3)) 3 #[.int .i64 (j : Nat)]
    rw [World.size_alloc, World.size_alloc, World.size_alloc] at this
    rw [← hw1]; exact this
  have HF := Lib.hid (And.intro (show RwF A n c t k u (w.heap.size + 1 + 1) w.heap.size (w.heap.size + 1) w1 from ⟨k4, k5, k6, h.below hb1⟩) (And.intro k7 hb1))
  clear h hb1 k4 k5 k6 k7
  go_enter Tryz.func151, Tryz.ntmps151
  go_wp2_with fail
  go_ret
  exact ⟨rfl, HF.out⟩
def cloudO (t : List Nat) (k u : Nat) : Option Q := accO (fun i => inO t k u (2 + i)) (u + 1 - 2)
theorem Chg.only {w w' : World} {g B : Nat} (h : Chg (fun k => k = g) w w') {a : World} (hb : Below B a w) (hg : B ≤ g) (hB : B ≤ w.heap.size) : Below B a w' := h.below hb (fun k _ e => by omega) hB
set_option maxRecDepth 100000 in
set_option maxHeartbeats 4000000 in
/-- chance.Cloud -/
theorem cloud_any {w : World} {A : Option Addr} {n c k u : Nat} {t : List Nat} {q : Q} (h : Tb w A n t) (hk : k ≤ 8) (hu : u ≤ k) (ht : tOk t k = true) (hq : cloudO t k u = some q) : Calls Tryz.prog 121 #[.slice A n c, .int .i64 (k : Nat), .int .i64 (u : Nat)] w fun e w' => ∃ v, e = .returned (.tuple #[v, .int .i64 0]) ∧ QV w' v q ∧ Below w.heap.size w w' := by
  obtain ⟨_, _, hnk⟩ := tOk_len ht
  have hl := h.2.1
  have hs := tOk_sum ht
  obtain ⟨g, hg⟩ : ∃ g, w.heap.size = g := ⟨_, rfl⟩
  have hb0 : Below w.heap.size w (w.alloc (.cells #[.bool false, .slice none 0 0, .slice none 0 0] 40)) := bl_allocd (Below.refl _ _) _
  have k0 := Bk.newA w 40 #[.bool false, .slice none 0 0, .slice none 0 0]
  have HP := Lib.hid (And.intro h (And.intro hk (And.intro hu (And.intro ht (And.intro hq (And.intro hnk (And.intro hl hs)))))))
  have H0 := Lib.hid (And.intro hb0 k0)
  clear h hk hu ht hq hnk hl hs hb0 k0
  go_enter Tryz.func121, Tryz.ntmps121
  go_wp2_with fail
  refine (crefuses_any (HP.out.1.below H0.out.1) HP.out.2.1 HP.out.2.2.1 HP.out.2.2.2.1).mono ?_
  rintro e w1 ⟨rfl, rfl⟩
  obtain ⟨W, hW⟩ : ∃ W, w.alloc (.cells #[.bool false, .slice none 0 0, .slice none 0 0] 40) = W := ⟨_, rfl⟩
  rw [hW] at H0
  have hWs : W.heap.size = g + 1 := by rw [← hW, World.size_alloc, hg]
  have HS := Lib.hid (And.intro hWs hg)
  rw [hg] at H0
  clear hWs
  go_wp2_with fail
  refine (row_any (k := k) (u := u) (j := 2) (c := c) (HP.out.1.below (by have := H0.out.1; rw [← hg] at this; exact this))).mono ?_
  rintro e w2 ⟨rfl, hF2, hj2, hb2⟩
  have hb02 : Below w.heap.size w w2 := bl_next (by have := H0.out.1; rw [← hg] at this; exact this) hb2
  have H2 := Lib.hid (And.intro hF2 (And.intro hj2 (And.intro hb02 (And.intro (H0.out.2.belowS hb2) hj2.lt))))
  obtain ⟨x, hx⟩ : ∃ x, W.heap.size = x := ⟨_, rfl⟩
  have HX := Lib.hid hx
  rw [hx] at H2 ⊢
  clear hF2 hj2 hb02 hb2 hx
  go_wp2_with fail
  refine (cpair_any (n := 0) (d := 1) (by decide) (by decide) (by decide)).mono ?_
  rintro e w3 ⟨v3, rfl, hv3, hb3⟩
  rw [show qlow ((0 : Nat) : Int) 1 = ⟨0, 1⟩ from by rfl] at hv3
  have hF3 := H2.out.1.below hb3
  have hj3 := H2.out.2.1.belowS hb3
  have hs3 := hb3.size
  have hbx : x + 1 + 1 + 1 < w3.heap.size ∧ x + 1 + 1 < w3.heap.size ∧ x < w3.heap.size ∧ x + 1 < w3.heap.size ∧ (∀ a, A = some a → a.block < x) := by
    have := H2.out.2.2.2.2
    refine ⟨by omega, by omega, by omega, by omega, fun a ha => ?_⟩
    subst ha
    have hlw : a.block < w.heap.size := HP.out.1.1.lt (by have := HP.out.2.2.2.2.2.2.1; have h5 := any_pos_len HP.out.2.2.2.2.2.2.2; omega) a rfl
    have := HS.out
    have := HX.out
    omega
  have H3 := Lib.hid (And.intro (H2.out.2.2.2.1.belowS hb3) (And.intro (bl_next H2.out.2.2.1 hb3) (And.intro hbx.1 hbx.2.2.2.2)))
  have HC := Lib.hid (cfold_any (w := w3) (gf := 163) (lb := #[.pointer (some ⟨x + 1 + 1 + 1, 0, none⟩), .pointer (some ⟨x + 1 + 1, 0, none⟩), .pointer (some ⟨x, 0, none⟩), .pointer (some ⟨x + 1, 0, none⟩)]) (S := fun k => k = x + 1 + 1 + 1) (f := fun i => inO t k u (2 + i)) (N := u + 1 - 2) (t := q) hv3 HP.out.2.2.2.2.1 (enters_of Tryz.func163 (by kernel_rfl) rfl) (fun k e => by omega)
    (fun W hW => row1_iter (n₀ := w3.heap.size) (by decide) (hF3.below hW) (hj3.belowS hW) HP.out.2.1 HP.out.2.2.1 (by decide) HP.out.2.2.2.1 ⟨hbx.1, hbx.2.1, hbx.2.2.1, hbx.2.2.2.1, fun a ha => by have := hbx.2.2.2.2 a ha; omega⟩ ⟨by omega, by omega, by omega, fun a ha => by have := hbx.2.2.2.2 a ha; omega⟩ (fun k e => by omega) (fun i hi => by
      have := HP.out.2.2.2.2.1
      unfold cloudO at this
      obtain ⟨_, m, _, _, hm, _⟩ := accO_step this hi
      exact ⟨m, hm⟩)))
  clear hv3 hb3 hs3 hF3 hbx hj3
  go_wp2_with fail
  refine HC.out.mono ?_
  rintro e w4 ⟨v4, rfl, hv4, hc4⟩
  obtain ⟨r, rfl⟩ := hv4.r3
  have k4 := hc4.bk H3.out.1 (by have := HS.out; have := HX.out; omega)
  obtain ⟨_, _, _, s0, s1, s2⟩ := cells_rat k4
  have HF := Lib.hid (fin_rat k4 hv4 (hc4.only H3.out.2.1 (by have := HS.out; have := HX.out; omega) H3.out.2.1.size) (by have := HS.out; omega))
  clear hv4 hc4 k4
  unfold R3.v
  go_wp2_with fail
  refine bodyPost_ret (ret_rat2 rfl rfl HF.out.1) rfl ?_
  exact ⟨_, rfl, HF.out.2⟩
end Go.Proofs.YtlhipaffhehcnaaGreat
namespace Go.Proofs.YtlhipaffhehcnaaGreat
open Go.RowKit Go.Shelf
set_option linter.unusedVariables false
set_option maxRecDepth 100000 in
set_option maxHeartbeats 4000000 in
/-- chance.In -/
theorem cIn_any {w : World} {A : Option Addr} {n c k u j : Nat} {t : List Nat} {q : Q} (h : Tb w A n t) (hk : k ≤ 8) (hu : u ≤ k) (hj : j ≤ u) (ht : tOk t k = true) (hq : inO t k u j = some q) : Calls Tryz.prog 83 #[.slice A n c, .int .i64 (k : Nat), .int .i64 (u : Nat), .int .i64 (j : Nat)] w fun e w' => ∃ v, e = .returned (.tuple #[v, .int .i64 0]) ∧ QV w' v q ∧ Below w.heap.size w w' := by
  have d1 : decide ((j : Int) < 0) = false := decide_eq_false (by omega)
  have d2 : decide ((j : Int) > (u : Int)) = false := decide_eq_false (by omega)
  have d2' : decide ((u : Int) < (j : Int)) = false := decide_eq_false (by omega)
  have d2'' : decide (u < j) = false := decide_eq_false (by omega)
  have hb0 : Below w.heap.size w (w.alloc (.cells #[.bool false, .slice none 0 0, .slice none 0 0] 40)) := bl_allocd (Below.refl _ _) _
  have k0 := Bk.newA w 40 #[.bool false, .slice none 0 0, .slice none 0 0]
  have HC := Lib.hid (crefuses_any (c := c) (h.below hb0) hk hu ht)
  have HI := Lib.hid (in_any (c := c) (h.below hb0) hk hu (show j ≤ 8 by omega) ht hq)
  have H0 := Lib.hid (And.intro hb0 k0)
  clear h hk hu hj ht hq hb0 k0
  go_enter Tryz.func83, Tryz.ntmps83
  go_wp2_with fail
  refine HC.out.mono ?_
  rintro e w1 ⟨rfl, rfl⟩
  go_wp2_with fail
  refine HI.out.mono ?_
  rintro e w2 ⟨v2, rfl, hv2, hb2⟩
  obtain ⟨r, rfl⟩ := hv2.r3
  have k2 := H0.out.2.belowS hb2
  obtain ⟨_, _, _, s0, s1, s2⟩ := cells_rat k2
  have HF := Lib.hid (fin_rat k2 hv2 (bl_next H0.out.1 hb2) (Nat.le_refl _))
  clear hv2 hb2 k2
  unfold R3.v
  go_wp2_with fail
  refine bodyPost_ret (ret_rat2 rfl rfl HF.out.1) rfl ?_
  exact ⟨_, rfl, HF.out.2⟩
def divO (a b : Q) : Option Q := if a.ok && b.ok && (qprod a (qover b)).ok then some (qprod a (qover b)) else none
theorem divO_ok {a b q : Q} (h : divO a b = some q) : a.ok = true ∧ b.ok = true ∧ q = qprod a (qover b) ∧ q.ok = true := by
  unfold divO at h
  split at h
  · rename_i hc
    simp only [Bool.and_eq_true] at hc
    injection h with h
    exact ⟨hc.1.1, hc.1.2, h.symm, h ▸ hc.2⟩
  · cases h
def freeO (t : List Nat) (k u : Nat) : Option Q := (cloudO t k u).bind fun all => if all.z = 0 then some all else (inO t k u 2).bind fun i2 => (mulO [qlow ((2 : Nat) : Int) u, i2]).bind fun two => divO two all
theorem freeO_ok {t : List Nat} {k u : Nat} {q : Q} (h : freeO t k u = some q) : q.ok = true := by
  unfold freeO at h
  obtain ⟨all, h1, h2⟩ := Option.bind_eq_some_iff.1 h
  split at h2
  · injection h2 with h2; rw [← h2]; exact accO_ok h1
  · obtain ⟨i2, _, h3⟩ := Option.bind_eq_some_iff.1 h2
    obtain ⟨two, _, h4⟩ := Option.bind_eq_some_iff.1 h3
    exact (divO_ok h4).2.2.2
theorem sgn_zero {z : Int} (h : z = 0) : sgn z = 0 := by subst h; rfl
theorem sgn_ne {z : Int} (h : z ≠ 0) : sgn z ≠ 0 := by
  unfold sgn
  by_cases h1 : z < 0 <;> simp [h1, h]
set_option maxRecDepth 100000 in
set_option maxHeartbeats 4000000 in
/-- chance.Free -/
theorem free_any {w : World} {A : Option Addr} {n c k u : Nat} {t : List Nat} {q : Q} (h : Tb w A n t) (hk : k ≤ 8) (hu : u ≤ k) (hu1 : 1 ≤ u) (ht : tOk t k = true) (hq : freeO t k u = some q) : Calls Tryz.prog 86 #[.slice A n c, .int .i64 (k : Nat), .int .i64 (u : Nat)] w fun e w' => ∃ v, e = .returned (.tuple #[v, .int .i64 0]) ∧ QV w' v q ∧ Below w.heap.size w w' := by
  have hqq := hq
  unfold freeO at hqq
  obtain ⟨all, hall, hrest⟩ := Option.bind_eq_some_iff.1 hqq
  have d1 : ((u : Int) == 0) = false := by simp; omega
  have hb0 : Below w.heap.size w (w.alloc (.cells #[.bool false, .slice none 0 0, .slice none 0 0] 40)) := bl_allocd (Below.refl _ _) _
  have k0 := Bk.newA w 40 #[.bool false, .slice none 0 0, .slice none 0 0]
  have HC := Lib.hid (cloud_any (c := c) (h.below hb0) hk hu ht hall)
  have HP := Lib.hid (And.intro h (And.intro hk (And.intro hu (And.intro ht (And.intro hall hu1)))))
  have H0 := Lib.hid (And.intro hb0 k0)
  have HR := Lib.hid hrest
  clear h hk hu hu1 ht hq hqq hall hrest hb0 k0
  go_enter Tryz.func86, Tryz.ntmps86
  go_wp2_with fail
  refine HC.out.mono ?_
  rintro e w1 ⟨v1, rfl, hv1, hb1⟩
  obtain ⟨r, rfl⟩ := hv1.r3
  obtain ⟨o, ho⟩ : ∃ o : Obj, o = .cells #[.bool r.s, .slice r.A r.m r.c, .slice r.B r.n r.d] 40 := ⟨_, rfl⟩
  have hba : Below w1.heap.size w1 (w1.alloc o) := bl_allocd (Below.refl _ _) o
  have kx : Bk (w1.alloc o) w1.heap.size 40 r.cells := by rw [ho]; exact Bk.newA w1 40 #[.bool r.s, .slice r.A r.m r.c, .slice r.B r.n r.d]
  obtain ⟨x0, x1, x2, _, _, _⟩ := cells_rat kx
  have H1 := Lib.hid (And.intro (hv1.below hba) (And.intro (bl_next (bl_next H0.out.1 hb1) hba) (And.intro ((H0.out.2.belowS hb1).alloc o) kx)))
  clear hv1 hb1 hba
  unfold R3.v
  rw [ho] at x0 x1 x2
  go_wp2_with fail
  rw [← ho]
  have HS := Lib.hid (sign_any (RV.un H1.out.1).1)
  by_cases hz : all.z = 0
  · rw [sgn_zero hz] at HS
    have hqa : all = q := by have := HR.out; rw [if_pos hz] at this; injection this
    refine HS.out.mono ?_
    rintro e w2 ⟨rfl, hb2⟩
    have k2 := H1.out.2.2.2.belowS hb2
    obtain ⟨y0, y1, y2, _, _, _⟩ := cells_rat k2
    have kr := H1.out.2.2.1.belowS hb2
    obtain ⟨_, _, _, s0, s1, s2⟩ := cells_rat kr
    have HF := Lib.hid (fin_rat kr (H1.out.1.below hb2) (bl_next H1.out.2.1 hb2) (Nat.le_refl _))
    have HQ := Lib.hid hqa
    clear hb2 k2 kr x0 x1 x2 hqa hz
    go_wp2_with fail
    refine bodyPost_ret (ret_rat2 rfl rfl HF.out.1) rfl ?_
    exact ⟨_, rfl, by rw [← HQ.out]; exact HF.out.2.1, HF.out.2.2⟩
  · obtain ⟨z, hzz⟩ : ∃ z, sgn all.z = z := ⟨_, rfl⟩
    have hz0 : (z == 0) = false := by rw [← hzz]; simpa using sgn_ne hz
    rw [hzz] at HS
    have hrr := HR.out
    rw [if_neg hz] at hrr
    obtain ⟨i2, hi2, hr2⟩ := Option.bind_eq_some_iff.1 hrr
    obtain ⟨two, htwo, hdiv⟩ := Option.bind_eq_some_iff.1 hr2
    have HV := Lib.hid (And.intro hi2 (And.intro htwo (And.intro hdiv hz)))
    clear hrr hi2 hr2 htwo hdiv hz hzz x0 x1 x2
    refine HS.out.mono ?_
    rintro e w2 ⟨rfl, hb2⟩
    have H2 := Lib.hid (And.intro (H1.out.1.below hb2) (And.intro (bl_next H1.out.2.1 hb2) (And.intro (H1.out.2.2.1.belowS hb2) (H1.out.2.2.2.belowS hb2))))
    clear hb2
    go_wp2_with fail
    refine (cpair_any (n := 2) (d := u) HP.out.2.2.2.2.2 (by decide) (by have := HP.out.2.1; have := HP.out.2.2.1; omega)).mono ?_
    rintro e w3 ⟨v3, rfl, hv3, hb3⟩
    obtain ⟨r3, rfl⟩ := hv3.r3
    have H3 := Lib.hid (And.intro hv3 (And.intro (H2.out.1.below hb3) (And.intro (bl_next H2.out.2.1 hb3) (And.intro (H2.out.2.2.1.belowS hb3) (H2.out.2.2.2.belowS hb3)))))
    clear hv3 hb3
    unfold R3.v
    go_wp2_with fail
    refine (in_any (c := c) (j := 2) (HP.out.1.below H3.out.2.2.1) HP.out.2.1 HP.out.2.2.1 (by decide) HP.out.2.2.2.1 HV.out.1).mono ?_
    rintro e w4 ⟨v4, rfl, hv4, hb4⟩
    obtain ⟨r4, rfl⟩ := hv4.r3
    have hqr := QR.new2 (H3.out.1.below hb4) hv4
    have hal : Below w4.heap.size w4 (w4.alloc (.cells #[.bool r3.s, .slice r3.A r3.m r3.c, .slice r3.B r3.n r3.d, .bool r4.s, .slice r4.A r4.m r4.c, .slice r4.B r4.n r4.d] 40)) := bl_allocd (Below.refl _ _) _
    have H4 := Lib.hid (And.intro hqr (And.intro ((H3.out.2.1.below hb4).below hal) (And.intro (bl_next (bl_next H3.out.2.2.1 hb4) hal) (And.intro ((H3.out.2.2.2.1.belowS hb4).belowS hal) ((H3.out.2.2.2.2.belowS hb4).belowS hal)))))
    clear hv4 hb4 hqr hal
    unfold R3.v
    go_wp2_with fail
    refine (mul_o H4.out.1 (by decide) (Nat.le_refl _) HV.out.2.1).mono ?_
    rintro e w5 ⟨v5, rfl, hv5, hb5⟩
    obtain ⟨r5, rfl⟩ := hv5.r3
    have hal : Below w5.heap.size w5 (w5.alloc (.cells #[.bool r5.s, .slice r5.A r5.m r5.c, .slice r5.B r5.n r5.d] 40)) := bl_allocd (Below.refl _ _) _
    have k5 := ((H4.out.2.2.2.2.belowS hb5).belowS hal)
    have H5 := Lib.hid (And.intro (hv5.below hal) (And.intro ((H4.out.2.1.below hb5).below hal) (And.intro (bl_next (bl_next H4.out.2.2.1 hb5) hal) ((H4.out.2.2.2.1.belowS hb5).belowS hal))))
    obtain ⟨y0, y1, y2, _, _, _⟩ := cells_rat k5
    clear hv5 hb5 hal k5
    unfold R3.v
    go_wp2_with fail
    obtain ⟨o1, o2, oe, _⟩ := divO_ok HV.out.2.2.1
    refine (div_q H5.out.1 H5.out.2.1 o1 o2 HV.out.2.2.2).mono ?_
    rintro e w6 ⟨v6, rfl, hv6, hb6⟩
    rw [← oe] at hv6
    obtain ⟨r6, rfl⟩ := hv6.r3
    have kr := H5.out.2.2.2.belowS hb6
    obtain ⟨_, _, _, s0, s1, s2⟩ := cells_rat kr
    have HF := Lib.hid (fin_rat kr hv6 (bl_next H5.out.2.2.1 hb6) (Nat.le_refl _))
    clear hv6 hb6 kr o1 o2 oe y0 y1 y2
    unfold R3.v
    go_wp2_with fail
    refine bodyPost_ret (ret_rat2 rfl rfl HF.out.1) rfl ?_
    exact ⟨_, rfl, HF.out.2⟩
end Go.Proofs.YtlhipaffhehcnaaGreat
namespace Go.Proofs.YtlhipaffhehcnaaGreat
open Go.RowKit Go.Shelf
set_option linter.unusedVariables false
set_option maxRecDepth 100000 in
/-- ripple.whole -/
theorem whole_any {w : World} {n : Nat} (h1 : n < 4294967296) : Calls Tryz.prog 20 #[.int .i64 (n : Nat)] w fun e w' => ∃ v, e = .returned v ∧ QV w' v (qlow (n : Int) 1) ∧ Below w.heap.size w w' := by
  have hb0 : Below w.heap.size w (w.alloc (.cells #[.bool false, .slice none 0 0, .slice none 0 0] 40)) := bl_allocd (Below.refl _ _) _
  have k0 := Bk.newA w 40 #[.bool false, .slice none 0 0, .slice none 0 0]
  have H0 := Lib.hid (And.intro hb0 (And.intro k0 h1))
  clear hb0 k0 h1
  go_enter Tryz.func20, Tryz.ntmps20
  go_wp2_with fail
  refine (pair_q (d := 1) (by decide) H0.out.2.2 (by decide)).mono ?_
  rintro e w1 ⟨v, rfl, hv, hb1⟩
  obtain ⟨r, rfl⟩ := hv.r3
  have hb2 := bl_next H0.out.1 hb1
  have hbA := hb2.alloc hb2.size (.cells #[.bool r.s, .slice r.A r.m r.c, .slice r.B r.n r.d] 40)
  have kA := (H0.out.2.1.belowS hb1).alloc (.cells #[.bool r.s, .slice r.A r.m r.c, .slice r.B r.n r.d] 40)
  obtain ⟨_, _, _, s0, s1, s2⟩ := cells_rat kA
  have HF := Lib.hid (fin_rat kA (hv.below ((Below.refl _ _).alloc (Nat.le_refl _) _)) hbA (Nat.le_refl _))
  clear hv hb1 hb2 hbA kA
  unfold R3.v
  go_wp2_with fail
  refine bodyPost_ret (ret_rat27 rfl rfl HF.out.1) rfl ?_
  exact ⟨_, rfl, HF.out.2⟩
set_option maxRecDepth 100000 in
/-- ripple.some -/
theorem some_any {w : World} {v : Value} {q : Q} (h : QV w v q) : Calls Tryz.prog 87 #[v] w fun e w' => e = .returned (.bool (sgn q.z != 0)) ∧ Below w.heap.size w w' := by
  obtain ⟨r, rfl⟩ := h.r3
  have hb1 : Below w.heap.size w (w.alloc (.cells #[.bool r.s, .slice r.A r.m r.c, .slice r.B r.n r.d] 40)) := bl_allocd (Below.refl _ _) _
  have HS := Lib.hid (And.intro (sign_any (RV.un (h.below hb1)).1) hb1)
  obtain ⟨z, hz⟩ : ∃ z, sgn q.z = z := ⟨_, rfl⟩
  rw [hz] at HS ⊢
  clear h hb1 hz
  unfold R3.v
  go_enter Tryz.func87, Tryz.ntmps87
  go_wp2_with fail
  refine HS.out.1.mono ?_
  rintro e w2 ⟨rfl, hb2⟩
  have HB := Lib.hid (bl_next HS.out.2 hb2)
  clear hb2
  go_wp2_with fail
  go_ret
  exact ⟨rfl, HB.out⟩
set_option maxRecDepth 100000 in
/-- ripple.refuses, of what is fine -/
theorem rrefuses_any {w : World} {A : Option Addr} {n c k u : Nat} {t : List Nat} (h : Tb w A n t) (hk : k ≤ 8) (hu : u ≤ 4096) (ht : tOk t k = true) : Calls Tryz.prog 18 #[.slice A n c, .int .i64 (k : Nat), .int .i64 (u : Nat)] w fun e w' => e = .returned (.int .i64 0) ∧ w = w' := by
  obtain ⟨h1, _, _⟩ := tOk_len ht
  have HC := Lib.hid (solCheck_any (c := c) h (show k ≤ 65536 by omega))
  rw [chkN_yes ht] at HC
  have d1 : decide ((k : Int) < 1) = false := decide_eq_false (by omega)
  have d2 : decide ((k : Int) > 1024) = false := decide_eq_false (by omega)
  have d2' : decide (1024 < (k : Int)) = false := decide_eq_false (by omega)
  have d3 : decide ((u : Int) < 0) = false := decide_eq_false (by omega)
  have d4 : decide ((u : Int) > 4096) = false := decide_eq_false (by omega)
  have d4' : decide (4096 < (u : Int)) = false := decide_eq_false (by omega)
  clear h hk hu ht h1
  go_enter Tryz.func18, Tryz.ntmps18
  go_wp2_with fail
  refine HC.out.mono ?_
  rintro e w1 ⟨rfl, rfl⟩
  go_wp2_with fail
  go_ret
  exact ⟨rfl, rfl⟩
/-- A fraction is laid into a row of fractions. -/
def s3 (W : World) (g o : Nat) (r : R3) : World := ((W.setCell ⟨g, o, none⟩ (.bool r.s)).setCell ⟨g, o + 1, none⟩ (.slice r.A r.m r.c)).setCell ⟨g, o + 2, none⟩ (.slice r.B r.n r.d)
theorem chg_s3 (W : World) (g o : Nat) (r : R3) : Chg (fun k => k = g) W (s3 W g o r) :=
  (((Chg.refl (fun k => k = g) W).set_ (g := g) (show (fun k => k = g) g from rfl) o (.bool r.s)).set_ (g := g) (show (fun k => k = g) g from rfl) (o + 1) (.slice r.A r.m r.c)).set_ (g := g) (show (fun k => k = g) g from rfl) (o + 2) (.slice r.B r.n r.d)
theorem r3s_set : ∀ (rs : List R3) (tl : List Value) (i : Nat) (r : R3), i < rs.length → (((r3s rs ++ tl).set (i * 3) (.bool r.s)).set (i * 3 + 1) (.slice r.A r.m r.c)).set (i * 3 + 2) (.slice r.B r.n r.d) = r3s (rs.set i r) ++ tl
  | [], _, _, _, h => absurd h (Nat.not_lt_zero _)
  | e :: l, tl, 0, r, _ => by
    show ((((e.cells ++ r3s l) ++ tl).set (0 * 3) _).set (0 * 3 + 1) _).set (0 * 3 + 2) _ = (r.cells ++ r3s l) ++ tl
    unfold R3.cells
    simp
  | e :: l, tl, i + 1, r, h => by
    have ih := r3s_set l tl i r (Nat.lt_of_succ_lt_succ h)
    show ((((e.cells ++ r3s l) ++ tl).set ((i + 1) * 3) _).set ((i + 1) * 3 + 1) _).set ((i + 1) * 3 + 2) _ = (e.cells ++ r3s (l.set i r)) ++ tl
    unfold R3.cells
    rw [show (i + 1) * 3 = i * 3 + 1 + 1 + 1 from by omega]
    simp only [List.cons_append, List.nil_append, List.set_cons_succ]
    rw [ih]
/-- A block whose first cells are fractions. -/
def GB (W : World) (g : Nat) (tl : List Value) (qs : List Q) : Prop := ∃ rs : List R3, Bk W g 40 (r3s rs ++ tl) ∧ All3 W rs qs
theorem GB.below {W W' : World} {g : Nat} {tl : List Value} {qs : List Q} (h : GB W g tl qs) (hb : Below W.heap.size W W') : GB W' g tl qs := by
  obtain ⟨rs, h1, h2⟩ := h
  exact ⟨rs, h1.belowS hb, h2.below hb⟩
theorem GB.kq {W W' : World} {B g : Nat} {T : Nat → Prop} {tl : List Value} {qs : List Q} (h : GB W g tl qs) (hk : Kq B T W W') (hT : ¬ T g) : GB W' g tl qs := by
  obtain ⟨rs, h1, h2⟩ := h
  exact ⟨rs, hk.bk h1 hT, hk.all3 h2⟩
theorem GB.lt {W : World} {g : Nat} {tl : List Value} {qs : List Q} (h : GB W g tl qs) : g < W.heap.size := by
  obtain ⟨rs, h1, _⟩ := h
  exact h1.lt
theorem bool_no (l : List R3) (tl : List Value) (ht : ∀ (i : Nat) (x : Int), tl[i]? ≠ some (.int .u64 x)) : ∀ (i : Nat) (x : Int), (r3s l ++ tl)[i]? ≠ some (.int .u64 x) := by
  intro i x
  rcases Nat.lt_or_ge i (r3s l).length with h | h
  · rw [List.getElem?_append_left h]; exact r3s_no_int l i _ x
  · rw [List.getElem?_append_right h]; exact ht _ _
theorem GB.num {W : World} {g : Nat} {tl : List Value} {qs : List Q} (h : GB W g tl qs) (ht : ∀ (i : Nat) (x : Int), tl[i]? ≠ some (.int .u64 x)) : ∀ (k : Nat) (c : Array Value) (t : TypeId) (z : Nat × Nat), k = g → W.heap[k]? = some (.cells c t z) → ∀ (i : Nat) (x : Int), c[i]? ≠ some (.int .u64 x) := by
  obtain ⟨rs, h1, _⟩ := h
  exact num_of_bk h1 (bool_no rs tl ht)
theorem GB.form {W : World} {g : Nat} {tl : List Value} {qs : List Q} (h : GB W g tl qs) {i : Nat} (hi : i < qs.length) : ∃ r : R3, QV W r.v qs[i] ∧ W.cell? ⟨g, i * 3, none⟩ = some (.bool r.s) ∧ W.cell? ⟨g, i * 3 + 1, none⟩ = some (.slice r.A r.m r.c) ∧ W.cell? ⟨g, i * 3 + 2, none⟩ = some (.slice r.B r.n r.d) ∧ W.frozen? ⟨g, i * 3, none⟩ = false ∧ W.frozen? ⟨g, i * 3 + 1, none⟩ = false ∧ W.frozen? ⟨g, i * 3 + 2, none⟩ = false := by
  obtain ⟨rs, h1, h2⟩ := h
  have hl := h2.len
  refine ⟨rs[i]'(by omega), h2.get _ _, ?_, ?_, ?_, h1.frozen _, h1.frozen _, h1.frozen _⟩
  all_goals rw [h1.cell, List.getElem?_append_left (by rw [r3s_len]; omega), Nat.mul_comm i 3]
  · exact r3s_get (r := 0) (by omega) (by omega)
  · exact r3s_get (r := 1) (by omega) (by omega)
  · exact r3s_get (r := 2) (by omega) (by omega)
theorem All3.set {W : World} : ∀ {l : List R3} {qs : List Q} (h : All3 W l qs) (i : Nat) {r : R3} {q : Q} (hq : QV W r.v q), All3 W (l.set i r) (qs.set i q)
  | [], [], _, _, _, _, _ => trivial
  | r :: l, q :: qs, h, 0, _, _, hq => ⟨hq, h.2⟩
  | r :: l, q :: qs, h, i + 1, _, _, hq => ⟨h.1, All3.set h.2 i hq⟩
  | [], _ :: _, h, _, _, _, _ => h.elim
  | _ :: _, [], h, _, _, _, _ => h.elim
theorem GB.put {W : World} {g : Nat} {tl : List Value} {qs : List Q} (h : GB W g tl qs) (ht : ∀ (i : Nat) (x : Int), tl[i]? ≠ some (.int .u64 x)) {i : Nat} (hi : i < qs.length) {r : R3} {q : Q} (hq : QV W r.v q) : GB (s3 W g (i * 3) r) g tl (qs.set i q) ∧ ∀ B, Kq B (fun k => k = g) W (s3 W g (i * 3) r) := by
  have hk : ∀ B, Kq B (fun k => k = g) W (s3 W g (i * 3) r) := fun B => Kq.of_chg B (chg_s3 W g (i * 3) r) (h.num ht)
  obtain ⟨rs, h1, h2⟩ := h
  refine ⟨⟨rs.set i r, ?_, ((hk 0).all3 h2).set i ((hk 0).qv hq)⟩, hk⟩
  have hl := h2.len
  have := ((h1.set_ (i * 3) (.bool r.s)).set_ (i * 3 + 1) (.slice r.A r.m r.c)).set_ (i * 3 + 2) (.slice r.B r.n r.d)
  rw [r3s_set rs tl i r (by omega)] at this
  exact this
end Go.Proofs.YtlhipaffhehcnaaGreat
namespace Go.Proofs.YtlhipaffhehcnaaGreat
open Go.RowKit Go.Shelf
set_option linter.unusedVariables false
theorem rat_info : (Tryz.prog.info? 40).map (fun i => (i.zero, i.size, i.bytes)) = some (some (.agg #[.bool false, .slice none 0 0, .slice none 0 0]), 3, 56) := by kernel_rfl
theorem r3s_rep : ∀ (n : Nat) (r : R3) (i : Nat), i < n * 3 → (r3s (List.replicate n r))[i]? = r.cells[i % 3]? := by
  intro n r i hi
  have e : i = 3 * (i / 3) + i % 3 := by omega
  have h1 : i / 3 < (List.replicate n r).length := by rw [List.length_replicate]; omega
  have h2 := r3s_get (l := List.replicate n r) (r := i % 3) h1 (by omega)
  rw [← e] at h2
  rw [h2, List.getElem_replicate]
theorem zeros_r3s (n : Nat) : (madeCells (Value.cells (.agg #[.bool false, .slice none 0 0, .slice none 0 0])) (n * 3)).toList = r3s (List.replicate n R3.zero) := by
  apply List.ext_getElem?
  intro i
  rcases Nat.lt_or_ge i (n * 3) with h | h
  · rw [r3s_rep n _ i h]
    have h3 : i % 3 < 3 := Nat.mod_lt _ (by decide)
    have : (madeCells (Value.cells (.agg #[.bool false, .slice none 0 0, .slice none 0 0])) (n * 3)).toList[i]? = some ((Value.cells (.agg #[.bool false, .slice none 0 0, .slice none 0 0]))[i % 3]!) := by
      simp [madeCells, h, Value.cells]
    rw [this]
    rcases (by omega : i % 3 = 0 ∨ i % 3 = 1 ∨ i % 3 = 2) with e | e | e <;> rw [e] <;> rfl
  · rw [List.getElem?_eq_none (by simp [madeCells]; omega), List.getElem?_eq_none (by rw [r3s_len, List.length_replicate]; omega)]
theorem all3_zero (w : World) : ∀ n, All3 w (List.replicate n R3.zero) (List.replicate n ⟨0, 0⟩)
  | 0 => trivial
  | n + 1 => ⟨⟨_, _, rfl, NV.nil _, NV.nil _⟩, all3_zero w n⟩
/-- What make lays down. -/
theorem gb_made {w : World} {base g n : Nat} (h : w.ownsRow base 40 3 (.slice (some ⟨g, 0, none⟩) n n) n (r3s (List.replicate n R3.zero))) (hn : 0 < n) : GB w g [] (List.replicate n ⟨0, 0⟩) ∧ base ≤ g := by
  rcases h.2 with ⟨h0, _⟩ | ⟨g', cap, cur, hv, hb, hh, h3, h4, h5, h6⟩
  · cases h0
  · injection hv with e1 e2 e3
    injection e1 with e1
    injection e1 with e1 _ _
    subst e1
    subst e3
    refine ⟨⟨List.replicate n R3.zero, ?_, all3_zero w n⟩, hb⟩
    rw [List.append_nil, ← h6, List.take_of_length_le (by rw [Array.length_toList]; omega)]
    exact hh
/-- A grid's value. -/
def gridV (n G L : Nat) : Value := .agg #[.int .i64 (n : Nat), .slice (some ⟨G, 0, none⟩) L L]
theorem ret_grid {fn : Func} {p : Tmp} {tmps : Array Value} {w : World} {g : Nat} {b u : Value} (h : fn.results = #[.cell p 60]) (hp : tmps.getD p undef = .pointer (some ⟨g, 0, none⟩)) (hb : Bk w g 60 [b, u]) : (results fn tmps).run Tryz.prog w = .ok (.agg #[b, u]) w :=
  results_cell_row h tmps w g 60 #[b, u] (0, 0) _ hp hb Tryz.underlying60 rfl (by kernel_rfl)
theorem cells2 {w : World} {g : Nat} {t : TypeId} {x y : Value} (h : Bk w g t [x, y]) : w.cell? ⟨g, 0, none⟩ = some x ∧ w.cell? ⟨g, 1, none⟩ = some y ∧ w.frozen? ⟨g, 0, none⟩ = false ∧ w.frozen? ⟨g, 1, none⟩ = false := ⟨h.cell 0, h.cell 1, h.frozen 0, h.frozen 1⟩
/-- made, so far. -/
structure MdS (w W : World) (n L g g5 G : Nat) (r : R3) (q : Q) (i : Nat) : Prop where
  k0 : Bk W g 40 r.cells
  k1 : Bk W (g + 1) 60 [.int .i64 0, .slice none 0 0]
  kb : Bk W g5 60 [.int .i64 (n : Nat), .slice (some ⟨G, 0, none⟩) L L]
  gb : GB W G [] (List.replicate i q ++ List.replicate (L - i) ⟨0, 0⟩)
  l : Below w.heap.size w W
  q : QV W r.v q
set_option maxRecDepth 100000 in
set_option maxHeartbeats 4000000 in
/-- ripple.made -/
theorem made_any {w : World} {v : Value} {q : Q} {n L : Nat} (h : QV w v q) (hn : n ≤ 8) (hL : (n + 1) * (n + 1) = L) : Calls Tryz.prog 82 #[.int .i64 (n : Nat), v] w fun e w' => ∃ G, e = .returned (gridV n G L) ∧ GB w' G [] (List.replicate L q) ∧ w.heap.size ≤ G ∧ Below w.heap.size w w' := by
  obtain ⟨r, rfl⟩ := h.r3
  have hL81 : L ≤ 81 := by rw [← hL]; exact Nat.mul_le_mul (n₁ := n + 1) (m₁ := n + 1) (n₂ := 9) (m₂ := 9) (by omega) (by omega)
  have hL1 : 0 < L := by rw [← hL]; exact Nat.mul_pos (by omega) (by omega)
  have hw : IntKind.i64.wrap (((n : Int) + 1) * ((n : Int) + 1)) = (L : Int) := by
    rw [show ((n : Int) + 1) * ((n : Int) + 1) = ((L : Nat) : Int) from by rw [← hL]; simp, IntKind.wrap_i64]; omega
  have hm : ((n : Int) + 1) * ((n : Int) + 1) = (L : Int) := by rw [← hL]; simp
  obtain ⟨i0, hi0, hz0, hz1, hz2⟩ := info_parts27 rat_info
  obtain ⟨g, hg⟩ : ∃ g, w.heap.size = g := ⟨_, rfl⟩
  obtain ⟨w1, hw1⟩ : ∃ w1, (w.alloc (.cells #[.bool r.s, .slice r.A r.m r.c, .slice r.B r.n r.d] 40)).alloc (.cells #[.int .i64 0, .slice none 0 0] 60) = w1 := ⟨_, rfl⟩
  have hb1 : Below w.heap.size w w1 := by rw [← hw1]; exact bl_allocd (bl_allocd (Below.refl _ _) _) _
  have k0 : Bk w1 g 40 r.cells := by rw [← hw1, ← hg]; exact (Bk.newA w 40 #[.bool r.s, .slice r.A r.m r.c, .slice r.B r.n r.d]).alloc _
  have k1 : Bk w1 (g + 1) 60 [.int .i64 0, .slice none 0 0] := by rw [← hw1, ← hg]; exact Bk.new2 w _ 60 #[.int .i64 0, .slice none 0 0]
  have hs1 : w1.heap.size = g + 2 := by rw [← hw1, ← hg]; simp
  have HP := Lib.hid (And.intro (h.below hb1) (And.intro hL81 (And.intro hL1 (And.intro hg (And.intro k0 (And.intro k1 (And.intro hb1 hs1)))))))
  have hnI : (n : Int) ≤ 8 := by omega
  have hLI : (L : Int) ≤ 81 := by omega
  clear h hn hL hL1 hb1 k0 k1 hs1
  unfold R3.v
  go_enter Tryz.func82, Tryz.ntmps82
  go_wp2_with (at_make; refine wpList_make_full _ rfl _ _ 30 rfl w1.heap.size 40 i0 (.agg #[.bool false, .slice none 0 0, .slice none 0 0]) 3 Tryz.underlying30 hi0 hz0 hz1 .i64 .i64 _ _ L rfl rfl rfl rfl (by rw [hz2]; omega) (by simp only [maxLen]; omega) (Nat.le_refl _) ?_; intro w2 hown hgw; rw [zeros_r3s] at hown; have H2 := Lib.hid (And.intro (gb_made hown HP.out.2.2.1) (below_of_grownN hgw)); clear hown hgw)
  obtain ⟨G, hG⟩ : ∃ G, w1.heap.size = G := ⟨_, rfl⟩
  obtain ⟨g5, hg5⟩ : ∃ g5, w2.heap.size = g5 := ⟨_, rfl⟩
  have HG := Lib.hid (And.intro hG (And.intro hg5 H2.out.1.1.lt))
  have H2b := Lib.hid H2.out.2
  rw [hG] at H2 ⊢
  rw [hg5]
  clear hG hg5
  go_loopw [18] (fun s wr => ∃ i : Nat, i ≤ L ∧ s = .int .i64 (i : Nat) ∧ MdS w wr n L g g5 G r q i) (fun s _ => L - (intOf s).toNat)
  case atStart =>
    refine ⟨0, Nat.zero_le _, rfl, ?_⟩
    have hbl : Below w2.heap.size w2 (w2.alloc (.cells #[.int .i64 (n : Nat), .slice (some ⟨G, 0, none⟩) L L] 60)) := bl_allocd (Below.refl _ _) _
    refine ⟨(HP.out.2.2.2.2.1.belowS H2b.out).alloc _, (HP.out.2.2.2.2.2.1.belowS H2b.out).alloc _, ?_, ?_, bl_allocd (bl_next HP.out.2.2.2.2.2.2.1 H2b.out) _, (HP.out.1.below H2b.out).allocd _⟩
    · have := Bk.newA w2 60 #[.int .i64 (n : Nat), .slice (some ⟨G, 0, none⟩) L L]
      rw [HG.out.2.1] at this
      exact this
    · have := H2.out.1.1.below hbl
      simpa using this
  case round =>
    obtain ⟨i, hi, rfl, hM⟩ := hrel
    have HM := Lib.hid hM
    by_cases hlt : i < L
    · obtain ⟨x, hx, c0, c1, c2, f0, f1, f2⟩ := hM.gb.form (i := i) (by simp; omega)
      obtain ⟨e0, e1, e2, _, _, _⟩ := cells_rat hM.k0
      have d1 := hM.kb.cell 1
      simp at d1
      clear hM hx
      go_wp2_with fail
      go_roundw
      case rel =>
        refine ⟨i + 1, by omega, by go_num, ?_⟩
        obtain ⟨hgb, hk⟩ := HM.out.gb.put (fun i x => by simp) (i := i) (by simp; omega) HM.out.q
        have hG2 := HP.out.2.2.2.2.2.2.2
        have hG3 := HG.out
        have hgg := HP.out.2.2.2.1
        have hl := HM.out.l
        refine ⟨(hk 0).bk HM.out.k0 (by omega), (hk 0).bk HM.out.k1 (by omega), (hk 0).bk HM.out.kb (by omega), ?_, (hk w.heap.size).below hl (Nat.le_refl _) (Nat.le_refl _) (fun k e => by omega), (hk 0).qv HM.out.q⟩
        rw [List.set_append_right _ _ (by simp), List.length_replicate, Nat.sub_self, show L - i = (L - (i + 1)) + 1 from by omega, List.replicate_succ, List.set_cons_zero] at hgb
        rw [List.replicate_succ', List.append_assoc]
        exact hgb
      case measure => simp [intOf]; omega
    · obtain rfl : L = i := by omega
      obtain ⟨e0, e1, _, _⟩ := cells2 hM.kb
      obtain ⟨_, _, s0, s1⟩ := cells2 hM.k1
      clear hM
      go_wp2_with fail
      have hc := (Chg.refl (fun k => k = g + 1) wr).set_ (g := g + 1) (show (fun k => k = g + 1) (g + 1) from rfl) 0 (.int .i64 (n : Nat))
      have hc2 := hc.set_ (g := g + 1) (show (fun k => k = g + 1) (g + 1) from rfl) 1 (.slice (some ⟨G, 0, none⟩) L L)
      have hk := Kq.of_chg w.heap.size hc2 (num_of_bk HM.out.k1 (fun i x => by rcases i with _ | _ | i <;> simp))
      have hG2 := HP.out.2.2.2.2.2.2.2
      have hG3 := HG.out
      have hgg := HP.out.2.2.2.1
      refine bodyPost_ret (ret_grid rfl rfl ((HM.out.k1.set_ 0 (.int .i64 (n : Nat))).set_ 1 (.slice (some ⟨G, 0, none⟩) L L))) rfl ?_
      refine ⟨G, rfl, ?_, by omega, hk.below HM.out.l (Nat.le_refl _) (Nat.le_refl _) (fun k e => by omega)⟩
      have := HM.out.gb
      rw [Nat.sub_self, List.replicate_zero, List.append_nil] at this
      exact this.kq hk (by omega)
end Go.Proofs.YtlhipaffhehcnaaGreat
namespace Go.Proofs.YtlhipaffhehcnaaGreat
open Go.RowKit Go.Shelf
set_option linter.unusedVariables false
attribute [local go_sem] Oper.semAt_some
set_option maxRecDepth 100000 in
/-- grid.at -/
theorem at_any {w : World} {n G L i k : Nat} (hn : n ≤ 8) (hL : (n + 1) * (n + 1) = L) (hi : i * (n + 1) + k < L) : Calls Tryz.prog 85 #[gridV n G L, .int .i64 (i : Nat), .int .i64 (k : Nat)] w fun e w' => e = .returned (.pointer (some ⟨G, (i * (n + 1) + k) * 3, none⟩)) ∧ Below w.heap.size w w' := by
  have hL81 : L ≤ 81 := by rw [← hL]; exact Nat.mul_le_mul (n₁ := n + 1) (m₁ := n + 1) (n₂ := 9) (m₂ := 9) (by omega) (by omega)
  obtain ⟨j, hj⟩ : ∃ j, i * (n + 1) + k = j := ⟨_, rfl⟩
  have hp : i * (n + 1) ≤ j := by omega
  obtain ⟨p, hpe⟩ : ∃ p, i * (n + 1) = p := ⟨_, rfl⟩
  rw [hj] at hi ⊢
  have hw1 : IntKind.i64.wrap ((i : Int) * ((n : Int) + 1)) = (p : Int) := by
    have e : (i : Int) * ((n : Int) + 1) = ((p : Nat) : Int) := by rw [← hpe]; simp
    rw [e, IntKind.wrap_i64]; omega
  have hm1 : (i : Int) * ((n : Int) + 1) = (p : Int) := by rw [← hpe]; simp
  have hw2 : IntKind.i64.wrap ((p : Int) + (k : Int)) = (j : Int) := by rw [IntKind.wrap_i64]; omega
  have hm2 : (p : Int) + (k : Int) = (j : Int) := by omega
  have hnI : (n : Int) ≤ 8 := by omega
  have hj0 : (0 : Int) ≤ (j : Int) := by omega
  have hjL : (j : Int) < (L : Int) := by omega
  have HB := Lib.hid (show Below w.heap.size w (w.alloc (.cells #[.int .i64 (n : Nat), .slice (some ⟨G, 0, none⟩) L L] 60)) from bl_allocd (Below.refl _ _) _)
  have hjn : j < L := hi
  clear hL hi hp hj hpe hn
  unfold gridV
  go_enter Tryz.func85, Tryz.ntmps85
  go_wp2_with fail
  go_ret
  exact ⟨by simp, HB.out⟩
set_option maxRecDepth 100000 in
/-- grid.places -/
theorem places_any {w : World} {v u : Value} : Calls Tryz.prog 21 #[.agg #[v, u]] w fun e w' => e = .returned (.func (.func 47) #[] #[.pointer (some ⟨w.heap.size, 0, none⟩)]) ∧ w' = w.alloc (.cells #[v, u] 60) := by
  have hmf : ∀ (fn : Fn) (first cap : Array Value) (w : World), (Instr.makeFunc fn first cap).run Tryz.prog w = .ok (.func fn first cap) w := fun _ _ _ _ => rfl
  go_enter Tryz.func21, Tryz.ntmps21
  go_wp2_with fail
  go_ret
  exact ⟨rfl, rfl⟩
/-- What places yields. -/
def OkP (n : Nat) (qs : List Q) (i : Nat) (x : Array Value) (W : World) : Prop := ∃ r q, x = #[.agg #[.int .i64 ((i / (n + 1) : Nat) : Int), .int .i64 ((i % (n + 1) : Nat) : Int)], R3.v r] ∧ qs[i]? = some q ∧ QV W r.v q
end Go.Proofs.YtlhipaffhehcnaaGreat
