/- CrcLinear: its walk. -/
import Derived.Test.YtgcahbdoemjmmaaI09
import Derived.Test.YtgcahbdoemjmmaaQ09
import Derived.Deep.RegionHeld3
import Derived.BigRegion
namespace Go.Proofs.Ytgcahbdoemjmmaa
open Go.RowKit
set_option linter.unusedVariables false
theorem xu8 (x y : UInt8) : bits .xor .u8 (x.toNat : Int) (y.toNat : Int) = ((x ^^^ y).toNat : Int) := by
  have := u8_xor_nat x.toNat y.toNat x.toNat_lt y.toNat_lt
  rw [UInt8.toNat_xor]; exact this
theorem xu8n (x y z : UInt8) : bits .xor .u8 ((x.toNat ^^^ y.toNat : Nat) : Int) (z.toNat : Int) = ((x ^^^ y ^^^ z).toNat : Int) := by
  rw [← UInt8.toNat_xor]; exact xu8 _ _
theorem xor2_take_succ {x y : List UInt8} {k : Nat} (kx : k < x.length) (ky : k < y.length) : xor2 (x.take (k + 1)) (y.take (k + 1)) = xor2 (x.take k) (y.take k) ++ [x[k] ^^^ y[k]] := by
  unfold xor2
  rw [List.take_succ_eq_append_getElem kx, List.take_succ_eq_append_getElem ky, List.zipWith_append (by simp; omega)]
  rfl
theorem xo_take_succ {x y z : List UInt8} {k : Nat} (kx : k < x.length) (ky : k < y.length) (kz : k < z.length) :
    xor2 (xor2 (x.take (k + 1)) (y.take (k + 1))) (z.take (k + 1)) = xor2 (xor2 (x.take k) (y.take k)) (z.take k) ++ [(x[k] ^^^ y[k]) ^^^ z[k]] := by
  rw [xor2_take_succ kx ky]
  unfold xor2
  rw [List.take_succ_eq_append_getElem kz, List.zipWith_append (by simp; omega)]
  rfl
def LinS (w : World) (A4 A1 A2 A3 : Option Addr) (k : Nat) (u x y z : List UInt8) (w' : World) : Prop :=
  Rd w' A4 k (bys u) ∧ Rd w' A1 k (bys x) ∧ Rd w' A2 k (bys y) ∧ Rd w' A3 k (bys z) ∧ Below w.heap.size w w'
theorem LinS.below {w w1 w2 : World} {A4 A1 A2 A3 : Option Addr} {k : Nat} {u x y z : List UInt8} (h : LinS w A4 A1 A2 A3 k u x y z w1) (hb : Below w1.heap.size w1 w2) : LinS w A4 A1 A2 A3 k u x y z w2 :=
  ⟨h.1.below hb, h.2.1.below hb, h.2.2.1.below hb, h.2.2.2.1.below hb, below_base h.2.2.2.2 hb h.2.2.2.2.size⟩
theorem LinS.drewN {w w1 : World} {A4 A1 A2 A3 : Option Addr} {k : Nat} {u x y z : List UInt8} (h : LinS w A4 A1 A2 A3 k u x y z w1) (q : Nat) : LinS w A4 A1 A2 A3 k u x y z (w1.drewN q) :=
  ⟨h.1.drewN q, h.2.1.drewN q, h.2.2.1.drewN q, h.2.2.2.1.drewN q, below_dN h.2.2.2.2 q⟩
theorem run_min3 {P : Program} (w : World) (ts : Array TypeId) (t : TypeId) (k : IntKind) (x y z n : Int) (h : min (min x y) z = n) : (Builtin.min_ ts t #[.int k x, .int k y, .int k z]).run P w = .ok (.int k n) w := by
  subst h
  have e : ∀ u v : Int, (if v < u then v else u) = min u v := fun u v => by split <;> omega
  simp [Builtin.min_, Builtin.min2, e]
set_option maxRecDepth 100000 in
set_option maxHeartbeats 4000000 in
/-- artesianlaw09.CrcLinear -/
theorem linear_walk {w : World} {A1 A2 A3 : Option Addr} {n1 n2 n3 c1 c2 c3 : Nat} {a b c : List UInt8} (h1 : Rd w A1 n1 (bys a) ∧ n1 ≤ c1 ∧ n1 ≤ 140737488351232) (h2 : Rd w A2 n2 (bys b) ∧ n2 ≤ c2 ∧ n2 ≤ 140737488351232) (h3 : Rd w A3 n3 (bys c) ∧ n3 ≤ c3 ∧ n3 ≤ 140737488351232) :
    Calls Try.prog 7 #[.slice A1 n1 c1, .slice A2 n2 c2, .slice A3 n3 c3] w fun e w' => e = .returned (.bool true) ∧ Below w.heap.size w w' := by
  obtain ⟨r1, hc1, hn1⟩ := h1
  obtain ⟨r2, hc2, hn2⟩ := h2
  obtain ⟨r3, hc3, hn3⟩ := h3
  have HR := Lib.hid (And.intro r1 (And.intro r2 r3))
  clear r1 r2 r3
  go_enter Try.func7, Try.ntmps7
  go_wp2_with fail
  refine awake_any.mono ?_
  rintro e w1 ⟨rfl, hb1⟩
  have H1 := Lib.hid (And.intro (HR.out.1.below hb1) (And.intro (HR.out.2.1.below hb1) (And.intro (HR.out.2.2.below hb1) hb1)))
  have hs1 := hb1.size
  clear hb1
  obtain ⟨n, hn⟩ : ∃ n : Nat, n = min (min n1 n2) n3 := ⟨_, rfl⟩
  have hmin : min (min (n1 : Int) (n2 : Int)) (n3 : Int) = (n : Int) := by omega
  have l1 : n ≤ n1 := by omega
  have l2 : n ≤ n2 := by omega
  have l3 : n ≤ n3 := by omega
  have hmr := fun ts t => run_min3 (P := Try.prog) w1 ts t .i64 n1 n2 n3 n hmin
  clear hn hmin
  go_upto_region 3 with fail
  by_cases hgt : (n : Int) > 2000
  · go_wp2_with fail
    go_ret
    exact ⟨rfl, H1.out.2.2.2⟩
  have hd : (n : Int) ≤ 2000 := by omega
  have hn2000 : n ≤ 2000 := by omega
  clear hgt
  have i1 : (n : Int) ≤ (n1 : Int) := by omega
  have i2 : (n : Int) ≤ (n2 : Int) := by omega
  have i3 : (n : Int) ≤ (n3 : Int) := by omega
  have n0 : (0 : Int) ≤ (n : Int) := by omega
  obtain ⟨x, hx⟩ : ∃ x, x = a.take n := ⟨_, rfl⟩
  obtain ⟨y, hy⟩ : ∃ y, y = b.take n := ⟨_, rfl⟩
  obtain ⟨z, hz⟩ : ∃ z, z = c.take n := ⟨_, rfl⟩
  have hla : a.length = n1 := by have := HR.out.1.1; simpa [bys_length] using this
  have hlb : b.length = n2 := by have := HR.out.2.1.1; simpa [bys_length] using this
  have hlc : c.length = n3 := by have := HR.out.2.2.1; simpa [bys_length] using this
  have hlx : x.length = n := by rw [hx, List.length_take]; omega
  have hly : y.length = n := by rw [hy, List.length_take]; omega
  have hlz : z.length = n := by rw [hz, List.length_take]; omega
  have HX := Lib.hid (And.intro hlx (And.intro hly hlz))
  have T1 : Hid (Rd w1 A1 n (bys x) ∧ Rd w1 A2 n (bys y) ∧ Rd w1 A3 n (bys z)) := Lib.hid ⟨by have := H1.out.1.take_ l1; rwa [bys_take, ← hx] at this, by have := H1.out.2.1.take_ l2; rwa [bys_take, ← hy] at this, by have := H1.out.2.2.1.take_ l3; rwa [bys_take, ← hz] at this⟩
  clear hla hlb hlc hlx hly hlz hx hy hz
  go_wp2_with fail
  refine (copy_any T1.out.1 (by omega)).mono ?_
  rintro e w2 ⟨v4, rfl, ho4, hb2⟩
  obtain ⟨A4, c4, rfl, hc4, _, _, _⟩ := own_form ho4
  obtain ⟨g, hm, hg, _, hup⟩ := Mut.of_own ho4
  have HM := Lib.hid (And.intro hm (And.intro hg hb2))
  have HP := Lib.hid hup
  clear ho4 hm hb2 hg hup
  go_wp2_with fail
  go_loopw [10] (fun i wr => ∃ k : Nat, k ≤ n ∧ i = .int .i64 k ∧ Hid (Upd w2 wr g 0 (bys (xor2 (xor2 (x.take k) (y.take k)) (z.take k))))) (fun i wr => n - (intOf i).toNat)
  case atStart => exact ⟨0, by omega, rfl, Lib.hid (by rw [List.take_zero]; exact Upd.none_ (Below.refl _ _))⟩
  case round =>
    obtain ⟨k, hk, rfl, HU⟩ := hrel
    have HBw := Lib.hid (HU.out.below HM.out.2.2 HM.out.2.2.size HM.out.2.1)
    by_cases hlt : k < n
    · have kx : k < x.length := by rw [HX.out.1]; exact hlt
      have ky : k < y.length := by rw [HX.out.2.1]; exact hlt
      have kz : k < z.length := by rw [HX.out.2.2]; exact hlt
      obtain ⟨rfl, t', cur, hbk, hfit, hcx⟩ := HM.out.1.2 (by omega)
      obtain ⟨b2, o2, rfl, _, hcy⟩ := (T1.out.2.1.below HBw.out).form (by omega)
      obtain ⟨b3, o3, rfl, _, hcz⟩ := (T1.out.2.2.below HBw.out).form (by omega)
      have cy := hcy k _ (bys_get y k ky)
      have cz := hcz k _ (bys_get z k kz)
      have hkl : (bys (xor2 (xor2 (x.take k) (y.take k)) (z.take k))).length = k := by simp [bys, xor2]; omega
      have hfk : 0 + (bys (xor2 (xor2 (x.take k) (y.take k)) (z.take k))).length ≤ cur.length := by omega
      have hbi := HU.out.2 _ _ hbk hfk
      have cx := hbi.cell (0 + k)
      rw [spl_getElem? hfk, if_neg (by omega), ← List.getElem?_drop, ← List.getElem?_take_of_lt (j := n) (by omega), hcx, bys_get x k kx, Nat.zero_add] at cx
      have fx := hbi.frozen k
      have HS := Lib.hid (xo_take_succ kx ky kz)
      have HK := Lib.hid hkl
      have q1 := xu8 x[k] y[k]
      have q2 := xu8 (x[k] ^^^ y[k]) z[k]
      have k0 : (0 : Int) ≤ (k : Int) := by omega
      have km : (k : Int) < (n : Int) := by omega
      have kd : decide ((k : Int) < (n : Int)) = true := by simpa using hlt
      clear hkl hbi hbk hcx hcy hcz hfk hfit
      go_upto_region 9 with fail
      go_region
      go_wp2_with fail
      refine ⟨⟨k + 1, by omega, by go_num, Lib.hid ?_⟩, by simp [intOf]; omega⟩
      rw [HS.out, bys_append]
      refine HU.out.append ?_
      rw [HK.out, Nat.zero_add, xu8n]
      exact (Upd.cell _ _ _ _).drew
    · obtain rfl : k = n := by omega
      have ho5 := HP.out wr _ (by simp [bys, xor2, HX.out.1, HX.out.2.1, HX.out.2.2]) HU.out
      rw [List.take_of_length_le (by rw [HX.out.1]; exact Nat.le_refl _), List.take_of_length_le (by rw [HX.out.2.1]; exact Nat.le_refl _), List.take_of_length_le (by rw [HX.out.2.2]; exact Nat.le_refl _)] at ho5
      have HF := Lib.hid (And.intro (Rd.of_own ho5) (And.intro (T1.out.1.below HBw.out) (And.intro (T1.out.2.1.below HBw.out) (And.intro (T1.out.2.2.below HBw.out) (below_base H1.out.2.2.2 HBw.out hs1)))))
      have HQ := Lib.hid (sum_linear (HX.out.1.trans HX.out.2.1.symm) (HX.out.1.trans HX.out.2.2.symm))
      clear ho5
      have kd : decide ((k : Int) < (k : Int)) = false := by simp
      have j1 : (k : Int) ≤ (c1 : Int) := by omega
      have j2 : (k : Int) ≤ (c2 : Int) := by omega
      have j3 : (k : Int) ≤ (c3 : Int) := by omega
      obtain ⟨p, hp⟩ : ∃ p, p = crcSum tableL x := ⟨_, rfl⟩
      obtain ⟨q, hq⟩ : ∃ q, q = crcSum tableL y := ⟨_, rfl⟩
      obtain ⟨r, hr⟩ : ∃ r, r = crcSum tableL z := ⟨_, rfl⟩
      have lp : p < 4294967296 := by rw [hp]; exact crcSum_lt tableL_lt x
      have lq : q < 4294967296 := by rw [hq]; exact crcSum_lt tableL_lt y
      have lr : r < 4294967296 := by rw [hr]; exact crcSum_lt tableL_lt z
      have e1 := u32_xor p q lp lq
      have e2 := u32_xor (p ^^^ q) r (xor_lt (k := 32) lp lq) lr
      have HE := Lib.hid (And.intro hp (And.intro hq hr))
      have hQ := HQ.out
      rw [← hp, ← hq, ← hr] at hQ
      have HQ2 := Lib.hid hQ
      clear hp hq hr lp lq lr hQ
      go_wp2_with fail
      have HG : Hid (LinS w A4 A1 A2 A3 k (xor2 (xor2 x y) z) x y z wr) := Lib.hid HF.out
      go_region_held3 (fun w' => LinS w A4 A1 A2 A3 k (xor2 (xor2 x y) z) x y z w')
        (first | exact S1.out | exact HG.out | exact HG.out.drewN 1)
        ((first
          | (go_at_call 12; refine (crcSum_any (b := xor2 (xor2 x y) z) (.inl ⟨rfl, rfl⟩) (by first | exact S1.out.1 | exact HG.out.1 | exact (HG.out.drewN 1).1) (by omega)).mono ?_; rintro e w' ⟨rfl, hbs⟩; have S1 := Lib.hid (LinS.below (by first | exact S1.out | exact HG.out | exact HG.out.drewN 1) hbs); rw [HQ2.out])
          | (go_at_call 12; refine (crcSum_any (b := x) (.inl ⟨rfl, rfl⟩) (by first | exact S1.out.2.1 | exact HG.out.2.1 | exact (HG.out.drewN 1).2.1) (by omega)).mono ?_; rintro e w' ⟨rfl, hbs⟩; have S1 := Lib.hid (LinS.below (by first | exact S1.out | exact HG.out | exact HG.out.drewN 1) hbs); rw [← HE.out.1])
          | (go_at_call 12; refine (crcSum_any (b := y) (.inl ⟨rfl, rfl⟩) (by first | exact S1.out.2.2.1 | exact HG.out.2.2.1 | exact (HG.out.drewN 1).2.2.1) (by omega)).mono ?_; rintro e w' ⟨rfl, hbs⟩; have S1 := Lib.hid (LinS.below (by first | exact S1.out | exact HG.out | exact HG.out.drewN 1) hbs); rw [← HE.out.2.1])
          | (go_at_call 12; refine (crcSum_any (b := z) (.inl ⟨rfl, rfl⟩) (by first | exact S1.out.2.2.2.1 | exact HG.out.2.2.2.1 | exact (HG.out.drewN 1).2.2.2.1) (by omega)).mono ?_; rintro e w' ⟨rfl, hbs⟩; have S1 := Lib.hid (LinS.below (by first | exact S1.out | exact HG.out | exact HG.out.drewN 1) hbs); rw [← HE.out.2.2])))
      go_wp2_with fail
      go_ret
      exact ⟨by simp, S1.out.2.2.2.2⟩
end Go.Proofs.Ytgcahbdoemjmmaa
