/- TopLeft: times: line, School, halves, Mul, Grow. TopLeft: quot: Part, Div, Gcd. -/
import Derived.Test.YtlhipaffhehcnaaGreatT19
import Derived.Laws.EntriesVeiled
namespace Go.Proofs.YtlhipaffhehcnaaGreat
open Go.RowKit
set_option linter.unusedVariables false
theorem made_u64 (n : Nat) : madeCells (Value.int .u64 0).cells (n * 1) = (List.replicate n (.int .u64 0)).toArray := by
  apply Array.ext
  · simp [madeCells]
  · intro i h1 h2
    simp [madeCells, Value.cells, Nat.mod_one]
theorem run_make_u64 (m : Nat) (hm : m ≤ 1000000) (w : World) : (Instr.makeSlice 36 (.int .i64 (m : Int)) (.int .i64 (m : Int))).run Tryz.prog w = .ok (.slice (some ⟨w.heap.size, 0, none⟩) m m) (w.alloc (.cells (List.replicate m (.int .u64 0)).toArray 102)) := by
  obtain ⟨i0, hi0, hz0, hz1, hz2⟩ := info_parts27 u64_info
  have := run_make (P := Tryz.prog) w 36 102 i0 (.int .u64 0) Tryz.underlying36 hi0 hz0 .i64 .i64 m m (by omega) (by omega) (by rw [hz2]; omega) (by omega)
  rw [hz1] at this
  simp only [Int.toNat_natCast] at this
  rw [made_u64] at this
  exact this
set_option maxRecDepth 100000 in
/-- times.line, of no digit. -/
theorem line_zero {w : World} {O A : Option Addr} {L c d : Nat} (x : Nat) : Calls Tryz.prog 126 #[.slice O L c, .slice A 0 d, .int .u64 (x : Nat)] w fun e w' => e = .returned (.tuple #[]) ∧ w = w' := by
  go_enter Tryz.func126, Tryz.ntmps126
  go_wp2_with fail
  go_loopg [6, 15] 1 (fun q u v wr => q = 1 ∧ u = .int .u64 0 ∧ v = .int .i64 0 ∧ wr = w)
  case atStart => exact ⟨rfl, rfl, rfl, rfl⟩
  case round =>
    obtain ⟨rfl, rfl, rfl, rfl⟩ := hrel
    go_wp2_with fail
    go_loopg [6, 12] 1 (fun q u v wr' => q = 1 ∧ u = .int .u64 0 ∧ v = .int .i64 0 ∧ wr' = wr)
    case atStart => exact ⟨rfl, rfl, rfl, rfl⟩
    case round =>
      obtain ⟨rfl, rfl, rfl, rfl⟩ := hrel
      go_wp2_with fail
      go_end0
      exact ⟨rfl, rfl⟩
set_option maxRecDepth 100000 in
/-- times.line, of one digit onto noughts. -/
theorem line_one {w : World} {g L c d : Nat} {A : Option Addr} {x y : Nat} {tl : List Value} (hx : x < 4294967296) (hy : y < 4294967296) (hxy : x * y < 9223372036854775808) (hO : Bk w g 102 (.int .u64 0 :: tl)) (hL : 0 < L) (hLc : L ≤ c) (hA : Rd w A 1 [.int .u64 (y : Int)]) :
    Calls Tryz.prog 126 #[.slice (some ⟨g, 0, none⟩) L c, .slice A 1 d, .int .u64 (x : Nat)] w fun e w' => e = .returned (.tuple #[]) ∧ Bk w' g 102 (.int .u64 ((x * y : Nat) : Int) :: tl) ∧ Chg (fun k => k = g) w w' := by
  obtain ⟨ab, ao, rfl, hab, hac⟩ := hA.form (by omega)
  have ca : w.cell? ⟨ab, ao, none⟩ = some (.int .u64 (y : Int)) := hac 0 _ rfl
  have c0 := hO.cell 0
  have f0 := hO.frozen 0
  have HM := Lib.hid (fun w => mul64_any (w := w) hx hy)
  have hadd1 := fun w => add64_run (x := ((x * y : Nat) : Int)) (y := 0) (by omega) (by omega) (by omega) w
  have hadd2 := fun w => add64_run (x := 0) (y := ((x * y : Nat) : Int)) (by omega) (by omega) (by omega) w
  rw [Int.add_zero] at hadd1
  rw [Int.zero_add] at hadd2
  have HO := Lib.hid (hO.set_ 0 (.int .u64 ((x * y : Nat) : Int)))
  have hL' : (0 : Int) < (L : Int) := by omega
  have hLc' : (L : Int) ≤ (c : Int) := by omega
  generalize x * y = p at HM hadd1 hadd2 HO ⊢
  clear hx hy hxy hO hL hLc hA hab hac
  go_enter Tryz.func126, Tryz.ntmps126
  go_wp2_with fail
  go_loopw [6, 15] (fun u v wr => u = .int .u64 0 ∧ ((v = .int .i64 0 ∧ wr = w) ∨ (v = .int .i64 1 ∧ Bk wr g 102 (.int .u64 (p : Int) :: tl) ∧ Chg (fun k => k = g) w wr))) (fun u v _ => 1 - (intOf v).toNat)
  case atStart => exact ⟨rfl, .inl ⟨rfl, rfl⟩⟩
  case round =>
    obtain ⟨rfl, ⟨rfl, rfl⟩ | ⟨rfl, hO, hch⟩⟩ := hrel
    · go_wp2_with fail
      refine (HM.out _).mono ?_
      rintro e w3 ⟨rfl, rfl⟩
      go_wp2_with fail
      exact ⟨⟨rfl, .inr ⟨rfl, HO.out, (Chg.refl (fun k => k = g) wr).set_ (g := g) (show (fun k => k = g) g from rfl) 0 _⟩⟩, by decide⟩
    · have HE := Lib.hid (And.intro hO hch)
      clear hO hch ca c0 f0
      go_wp2_with fail
      go_loopg [6, 12] 1 (fun q u v wr' => q = 1 ∧ u = .int .u64 0 ∧ v = .int .i64 1 ∧ wr' = wr)
      case atStart => exact ⟨rfl, rfl, rfl, rfl⟩
      case round =>
        obtain ⟨rfl, rfl, rfl, rfl⟩ := hrel
        go_wp2_with fail
        go_end0
        exact ⟨rfl, HE.out⟩
set_option maxRecDepth 100000 in
/-- times.School -/
theorem school_any {w : World} {va vb : Value} {a b : Nat} (ha : NV w va a) (hb : NV w vb b) (ha2 : a < 4294967296) (hb2 : b < 4294967296) (hab : a * b < 9223372036854775808) : Calls Tryz.prog 92 #[va, vb] w fun e w' => ∃ v, e = .returned v ∧ NV w' v (a * b) ∧ Below w.heap.size w w' := by
  obtain ⟨A, c, rfl, hA1, hA2⟩ := ha
  obtain ⟨B, d, rfl, hB1, hB2⟩ := hb
  have T1 := Lib.hid (trim_any (NV.raw hA2) hA1 (by have := ln_le a; omega))
  have T2 := Lib.hid (fun (w' : World) (h : Below w.heap.size w w') => trim_any (NV.raw (hB2.below h)) hB1 (by have := ln_le b; omega))
  have HB := Lib.hid (And.intro ha2 (And.intro hb2 hab))
  clear hA1 hA2 hB1 hB2 ha2 hb2 hab
  obtain ⟨x, hx⟩ : ∃ x, ln a = x := ⟨_, rfl⟩
  obtain ⟨z, hz⟩ : ∃ z, ln b = z := ⟨_, rfl⟩
  rw [hx] at T1 ⊢
  rw [hz] at T2 ⊢
  go_enter Tryz.func92, Tryz.ntmps92
  go_wp2_with fail
  refine T1.out.mono ?_
  rintro e w1 ⟨va, rfl, ⟨A', c', rfl, hA1, hA2⟩, hb1⟩
  rw [hx]
  have H1 := Lib.hid (And.intro hA1 (And.intro hA2 hb1))
  clear hA1 hA2 hb1
  go_wp2_with fail
  refine (T2.out _ H1.out.2.2).mono ?_
  rintro e w2 ⟨vb, rfl, ⟨B', d', rfl, hB1, hB2⟩, hb2⟩
  rw [hz]
  have hmk := run_make_u64 (x + z + 1) (by have := ln_le a; have := ln_le b; omega)
  have hw1 : IntKind.i64.wrap ((x : Int) + (z : Int)) = ((x + z : Nat) : Int) := by have := ln_le a; have := ln_le b; rw [IntKind.wrap_i64]; omega
  have hw2 : IntKind.i64.wrap (((x + z : Nat) : Int) + 1) = ((x + z + 1 : Nat) : Int) := by have := ln_le a; have := ln_le b; rw [IntKind.wrap_i64]; omega
  have hb12 := below_base H1.out.2.2 hb2 H1.out.2.2.size
  obtain ⟨M, hM⟩ : ∃ M, x + z + 1 = M := ⟨_, rfl⟩
  obtain ⟨xz, hxz⟩ : ∃ xz, x + z = xz := ⟨_, rfl⟩
  rw [hM] at hmk hw2
  rw [hxz] at hw1 hw2
  have hO3 : Bk (w2.alloc (.cells (Array.replicate M (.int .u64 0)) 102)) w2.heap.size 102 (rows 0 M) := by
    have := Bk.newA w2 102 (Array.replicate M (.int .u64 0))
    rw [show (Array.replicate M (Value.int .u64 0)).toList = rows 0 M from by rw [← hM]; simp [rows, List.replicate_succ]] at this
    exact this
  have hb3 : Below w2.heap.size w2 (w2.alloc (.cells (Array.replicate M (.int .u64 0)) 102)) := (Below.refl _ _).alloc (Nat.le_refl _) _
  have HM := Lib.hid (And.intro hx (And.intro hz hM))
  have H2 := Lib.hid (And.intro (H1.out.2.1.below hb2) (And.intro hB2 hb12))
  have H3 := Lib.hid (And.intro hb3 hO3)
  obtain ⟨g, hg⟩ : ∃ g, w2.heap.size = g := ⟨_, rfl⟩
  have hmk2 := hmk w2
  rw [hg] at hmk2 H3
  have HG := Lib.hid hg
  have hM3 : (M : Int) ≤ 3 := by have := ln_le a; have := ln_le b; omega
  have hz1 : (z : Int) ≤ 1 := by have := ln_le b; omega
  clear hB1 hB2 hb2 hb12 hb3 hO3 hM hx hz hxz hmk hg
  go_wp2_with fail
  generalize w2.alloc (.cells (Array.replicate M (.int .u64 0)) 102) = w3 at H3 ⊢
  go_loopw [6, 7, 21] (fun _ _ v wr => ∃ j : Nat, v = .int .i64 j ∧ j ≤ z ∧ Bk wr g 102 (rows (if j = 0 then 0 else a * b) M) ∧ Below g w2 wr) (fun _ _ v _ => 1 - (intOf v).toNat)
  case atStart => exact ⟨0, rfl, Nat.zero_le _, H3.out.2, H3.out.1⟩
  case round =>
    obtain ⟨j, rfl, hj, hO, hb⟩ := hrel
    by_cases hlt : j < z
    · have hz1 := ln_le b
      have e1 := HM.out.2.1
      have hz' : z = 1 := by omega
      subst hz'
      obtain rfl : j = 0 := by omega
      have hb0 : 0 < b := by
        rcases Nat.eq_zero_or_pos b with e | e
        · rw [e, ln_zero] at e1; omega
        · exact e
      have hB := H2.out.2.1.below (by rw [HG.out]; exact hb)
      rw [e1, dg_pos hb0] at hB
      obtain ⟨bb, bo, rfl, hbb, hbc⟩ := hB.form (by omega)
      have cb : wr.cell? ⟨bb, bo, none⟩ = some (.int .u64 (b : Int)) := hbc 0 _ rfl
      rw [if_pos rfl] at hO
      have hMp : 0 < M := by have := HM.out.2.2; omega
      have hMp' : (0 : Int) ≤ (M : Int) := by omega
      have HE := Lib.hid (And.intro hO (And.intro hb hMp))
      clear hO hb hB hMp hbc hbb hj hlt e1 hb0 hz1
      rcases Nat.eq_zero_or_pos a with h0 | h0
      · have hx0 : x = 0 := by have := HM.out.1; rw [h0, ln_zero] at this; omega
        subst hx0
        have HA := Lib.hid h0
        clear h0
        go_wp2_with fail
        refine (line_zero (x := b)).mono ?_
        rintro e w4 ⟨rfl, rfl⟩
        go_wp2_with fail
        refine ⟨⟨_, _, _, _, _, _, _, _, _, _, _, _, _, _, ⟨1, rfl, Nat.le_refl _, ?_, HE.out.2.1⟩, rfl⟩, by show 1 - (1 : Int).toNat < 1 - (0 : Int).toNat; decide⟩
        rw [if_neg (by decide), HA.out, Nat.zero_mul]
        exact HE.out.1
      · have hx0 : x = 1 := by have := HM.out.1; rw [ln_pos h0] at this; omega
        subst hx0
        have HA := Lib.hid h0
        clear h0
        go_wp2_with fail
        obtain ⟨m, hm⟩ : ∃ m, M = m + 1 := ⟨M - 1, by have := HE.out.2.2; omega⟩
        have hO := HE.out.1
        rw [hm] at hO
        have hA := H2.out.1.below (by rw [HG.out]; exact HE.out.2.1)
        rw [ln_pos HA.out, dg_pos HA.out] at hA
        refine (line_one (c := M) (d := c') (x := b) (y := a) (tl := List.replicate m (.int .u64 0)) HB.out.2.1 HB.out.1 (by rw [Nat.mul_comm]; exact HB.out.2.2) hO HE.out.2.2 (Nat.le_refl _) hA).mono ?_
        rintro e w4 ⟨rfl, hO4, hch⟩
        have hb4 := hch.below HE.out.2.1 (fun k _ e => by rw [e]; exact Nat.le_refl _) (by rw [← HG.out]; exact HE.out.2.1.size)
        have H4 := Lib.hid (And.intro hO4 (And.intro hb4 hm))
        clear hO4 hb4 hch hm hO hA
        go_wp2_with fail
        refine ⟨⟨_, _, _, _, _, _, _, _, _, _, _, _, _, _, ⟨1, rfl, Nat.le_refl _, ?_, H4.out.2.1⟩, rfl⟩, by show 1 - (1 : Int).toNat < 1 - (0 : Int).toNat; decide⟩
        rw [if_neg (by decide), H4.out.2.2, Nat.mul_comm]
        exact H4.out.1
    · obtain rfl : j = z := by omega
      have d1 : decide ((j : Int) < (j : Int)) = false := decide_eq_false (by omega)
      have d2 : decide (j < j) = false := decide_eq_false (by omega)
      have hraw : RawV wr (some ⟨g, 0, none⟩) M (a * b) := by
        have hv : (if j = 0 then 0 else a * b) = a * b := by
          split
          · rename_i e
            have := HM.out.2.1
            have hb0 : b = 0 := by
              rcases Nat.eq_zero_or_pos b with q | q
              · exact q
              · rw [ln_pos q] at this; omega
            rw [hb0, Nat.mul_zero]
          · rfl
        rw [hv] at hO
        refine ⟨Rd.of_bk hO ?_ ?_, fun e => by have := HM.out.2.2; omega⟩
        · rw [rows_len]; omega
        · rw [List.drop_zero]; exact List.take_of_length_le (by rw [rows_len]; exact Nat.le_refl _)
      have HR := Lib.hid (And.intro (trim_any (c := M) hraw (Nat.le_refl _) (by omega)) hb)
      clear hraw hO hb hj hlt
      go_wp2_with fail
      refine HR.out.1.mono ?_
      rintro e w4 ⟨v, rfl, hv, hb4⟩
      have H4 := Lib.hid (And.intro hv (below_base (below_base H2.out.2.2 (by rw [HG.out]; exact HR.out.2) H2.out.2.2.size) hb4 (Nat.le_trans H2.out.2.2.size HR.out.2.size)))
      clear hv hb4
      go_wp2_with fail
      go_ret
      exact ⟨v, rfl, H4.out⟩
set_option maxRecDepth 100000 in
/-- The closure of times.halves. -/
theorem halves1_any {w : World} {va vb p : Value} {a b g : Nat} (ha : NV w va a) (hb : NV w vb b) (ha2 : a < 4294967296) (hb2 : b < 4294967296) (hab : a * b < 9223372036854775808) (hg : Bk w g 3 [.int .i64 32]) : Calls Tryz.prog 130 #[va, vb, .pointer (some ⟨g, 0, none⟩), p] w fun e w' => ∃ v, e = .returned v ∧ NV w' v (a * b) ∧ Below w.heap.size w w' := by
  obtain ⟨A, c, rfl, hA1, hA2⟩ := ha
  obtain ⟨B, d, rfl, hB1, hB2⟩ := hb
  have T1 := Lib.hid (trim_any (NV.raw hA2) hA1 (by have := ln_le a; omega))
  have T2 := Lib.hid (fun (w' : World) (h : Below w.heap.size w w') => trim_any (NV.raw (hB2.below h)) hB1 (by have := ln_le b; omega))
  have HB := Lib.hid (And.intro ha2 (And.intro hb2 (And.intro hab hg)))
  clear hA1 hA2 hB1 hB2 ha2 hb2 hab hg
  obtain ⟨x, hx⟩ : ∃ x, ln a = x := ⟨_, rfl⟩
  obtain ⟨z, hz⟩ : ∃ z, ln b = z := ⟨_, rfl⟩
  have HX := Lib.hid (And.intro hx hz)
  rw [hx] at T1 ⊢
  rw [hz] at T2 ⊢
  clear hx hz
  go_enter Tryz.func130, Tryz.ntmps130
  go_wp2_with fail
  refine T1.out.mono ?_
  rintro e w1 ⟨va, rfl, h1, hb1⟩
  have H1 := Lib.hid (And.intro h1 hb1)
  obtain ⟨A', c', rfl, _⟩ := h1
  clear hb1
  go_wp2_with fail
  refine (T2.out _ H1.out.2).mono ?_
  rintro e w2 ⟨vb, rfl, h2, hb2⟩
  have hb12 := below_base H1.out.2 hb2 H1.out.2.size
  have H2 := Lib.hid (And.intro (H1.out.1.below hb2) (And.intro h2 hb12))
  obtain ⟨B', d', rfl, _⟩ := h2
  have cg := (HB.out.2.2.2.below hb12 HB.out.2.2.2.lt).cell 0
  have HS := Lib.hid (school_any H2.out.1 H2.out.2.1 HB.out.1 HB.out.2.1 HB.out.2.2.1)
  clear hb2 hb12
  rw [HX.out.1, HX.out.2] at HS ⊢
  obtain ⟨k, hmn', hk1⟩ : ∃ k : Int, (∀ (w : World) (ts : Array TypeId) (t : TypeId), (Builtin.min_ ts t #[.int .i64 (x : Int), .int .i64 (z : Int)]).run Tryz.prog w = .ok (.int .i64 k) w) ∧ k ≤ 1 :=
    ⟨if (z : Int) < (x : Int) then (z : Int) else (x : Int), fun w ts t => by rw [run_min_int2], by have := ln_le a; have := ln_le b; have := HX.out.1; have := HX.out.2; split <;> omega⟩
  have dk : decide (k < max (32 : Int) 4) = true := decide_eq_true (by omega)
  clear hk1
  go_wp2_with fail
  refine HS.out.mono ?_
  rintro e w3 ⟨v, rfl, h3, hb3⟩
  have H3 := Lib.hid (And.intro h3 (below_base H2.out.2.2 hb3 H2.out.2.2.size))
  clear h3 hb3
  go_wp2_with fail
  go_ret
  exact ⟨v, rfl, H3.out⟩
set_option maxRecDepth 100000 in
/-- times.halves, the least digits as Mul hands them. -/
theorem halves_any {w : World} {va vb : Value} {a b : Nat} (ha : NV w va a) (hb : NV w vb b) (ha2 : a < 4294967296) (hb2 : b < 4294967296) (hab : a * b < 9223372036854775808) : Calls Tryz.prog 98 #[va, vb, .int .i64 32] w fun e w' => ∃ v, e = .returned v ∧ NV w' v (a * b) ∧ Below w.heap.size w w' := by
  have HB := Lib.hid (And.intro ha (And.intro hb (And.intro ha2 (And.intro hb2 hab))))
  obtain ⟨A, c, rfl, _⟩ := ha
  obtain ⟨B, d, rfl, _⟩ := hb
  clear ha2 hb2 hab
  generalize ln a = x at HB ⊢
  generalize ln b = z at HB ⊢
  obtain ⟨w1, hw1⟩ : ∃ w1, (w.alloc (.cells #[.int .i64 32] 3)).alloc (.cells #[.nilFunc] 110) = w1 := ⟨_, rfl⟩
  have k0 : Bk w1 w.heap.size 3 [.int .i64 32] := by rw [← hw1]; exact (Bk.newA w 3 #[.int .i64 32]).alloc _
  have k1 : Bk w1 (w.heap.size + 1) 110 [.nilFunc] := by
    have := Bk.newA (w.alloc (.cells #[.int .i64 32] 3)) 110 #[.nilFunc]
    rw [World.size_alloc] at this
    rw [← hw1]; exact this
  have hb1 : Below w.heap.size w w1 := by rw [← hw1]; exact ((Below.refl _ _).alloc (Nat.le_refl _) _).alloc (by simp) _
  have c1 : w1.cell? ⟨w.heap.size + 1, 0, none⟩ = some .nilFunc := k1.cell 0
  have f1 : w1.frozen? ⟨w.heap.size + 1, 0, none⟩ = false := k1.frozen 0
  obtain ⟨u, hu⟩ : ∃ u, Value.func (.func 130) #[] #[.pointer (some ⟨w.heap.size, 0, none⟩), .pointer (some ⟨w.heap.size + 1, 0, none⟩)] = u := ⟨_, rfl⟩
  have k2 := k1.set_ 0 u
  have k3 : Bk (w1.setCell ⟨w.heap.size + 1, 0, none⟩ u) w.heap.size 3 [.int .i64 32] := k0.far (by simp) u
  have hb2 := hb1.setCell (p := ⟨w.heap.size + 1, 0, none⟩) (by show w.heap.size ≤ w.heap.size + 1; omega) u
  have c2 : (w1.setCell ⟨w.heap.size + 1, 0, none⟩ u).cell? ⟨w.heap.size + 1, 0, none⟩ = some u := k2.cell 0
  rw [← hu] at c2 k3 hb2
  have H2 := Lib.hid (And.intro k3 hb2)
  clear k0 k1 hb1 hu k2 k3 hb2
  go_enter Tryz.func98, Tryz.ntmps98
  go_wp2_with fail
  refine (halves1_any (HB.out.1.below H2.out.2) (HB.out.2.1.below H2.out.2) HB.out.2.2.1 HB.out.2.2.2.1 HB.out.2.2.2.2 H2.out.1).mono ?_
  rintro e w3 ⟨v, rfl, h3, hb3⟩
  have H3 := Lib.hid (And.intro h3 (below_base H2.out.2 hb3 H2.out.2.size))
  clear h3 hb3
  go_wp2_with fail
  go_ret
  exact ⟨v, rfl, H3.out⟩
set_option maxRecDepth 100000 in
/-- times.Mul -/
theorem tMul_any {w : World} {va vb : Value} {a b : Nat} (ha : NV w va a) (hb : NV w vb b) (ha2 : a < 4294967296) (hb2 : b < 4294967296) (hab : a * b < 9223372036854775808) : Calls Tryz.prog 61 #[va, vb] w fun e w' => ∃ v, e = .returned v ∧ NV w' v (a * b) ∧ Below w.heap.size w w' := by
  have HS := Lib.hid (halves_any ha hb ha2 hb2 hab)
  obtain ⟨A, c, rfl, _⟩ := ha
  obtain ⟨B, d, rfl, _⟩ := hb
  clear ha2 hb2 hab
  go_enter Tryz.func61, Tryz.ntmps61
  go_wp2_with fail
  refine HS.out.mono ?_
  rintro e w3 ⟨v, rfl, h3⟩
  have H3 := Lib.hid h3
  clear h3
  go_wp2_with fail
  go_ret
  exact ⟨v, rfl, H3.out⟩
set_option maxRecDepth 100000 in
/-- times.Grow, by a digit that is not 0. -/
theorem grow_any {w : World} {va : Value} {a x : Nat} (ha : NV w va a) (ha2 : a < 4294967296) (hx0 : 0 < x) (hx : x < 4294967296) (hax : a * x < 9223372036854775808) : Calls Tryz.prog 52 #[va, .int .u64 (x : Nat)] w fun e w' => ∃ v, e = .returned v ∧ NV w' v (a * x) ∧ Below w.heap.size w w' := by
  have hb1 : Below w.heap.size w (w.alloc (.cells #[.int .u64 (x : Int)] 102)) := (Below.refl _ _).alloc (Nat.le_refl _) _
  have hX : NV (w.alloc (.cells #[.int .u64 (x : Int)] 102)) (.slice (some ⟨w.heap.size, 0, none⟩) 1 1) x := by
    refine ⟨_, _, by rw [ln_pos hx0], by rw [ln_pos hx0]; exact Nat.le_refl _, ?_⟩
    rw [ln_pos hx0, dg_pos hx0]
    exact Rd.one _ _ _
  have HS := Lib.hid (And.intro (school_any (ha.below hb1) hX ha2 hx hax) hb1)
  obtain ⟨A, c, rfl, _⟩ := ha
  clear ha2 hx0 hx hax hX hb1
  go_enter Tryz.func52, Tryz.ntmps52
  go_wp2_with fail
  refine HS.out.1.mono ?_
  rintro e w3 ⟨v, rfl, h3, hb3⟩
  have H3 := Lib.hid (And.intro h3 (below_base HS.out.2 hb3 HS.out.2.size))
  clear h3 hb3
  go_wp2_with fail
  go_ret
  exact ⟨v, rfl, H3.out⟩
end Go.Proofs.YtlhipaffhehcnaaGreat
namespace Go.Proofs.YtlhipaffhehcnaaGreat
open Go.RowKit
set_option linter.unusedVariables false
set_option maxRecDepth 100000 in
/-- quot.Part -/
theorem part_any {w : World} {va : Value} {a x : Nat} (ha : NV w va a) (ha2 : a < 9223372036854775808) (hx0 : 0 < x) (hx : x < 9223372036854775808) : Calls Tryz.prog 88 #[va, .int .u64 (x : Nat)] w fun e w' => ∃ v, e = .returned (.tuple #[v, .int .u64 ((a % x : Nat) : Int), .int .i64 0]) ∧ NV w' v (a / x) ∧ Below w.heap.size w w' := by
  obtain ⟨A, c, rfl, hA1, hA2⟩ := ha
  have dx : ((x : Int) == 0) = false := by simp; omega
  have HX := Lib.hid (And.intro hx0 hx)
  rcases Nat.eq_zero_or_pos a with h0 | h0
  · subst h0
    rw [ln_zero]
    have hraw : RawV (w.alloc (.cells #[] 102)) (some ⟨w.heap.size, 0, none⟩) 0 0 := ⟨⟨rfl, fun h => absurd h (by omega)⟩, fun _ => rfl⟩
    have HT := Lib.hid (trim_any (c := 0) hraw (Nat.le_refl _) (by omega))
    have HB := Lib.hid ((Below.refl w.heap.size w).alloc (Nat.le_refl _) (.cells #[] 102))
    have hmk := run_make_u64 0 (by omega) w
    rw [show (List.replicate 0 (Value.int .u64 0)).toArray = #[] from rfl] at hmk
    have hmk' : (Instr.makeSlice 36 (.int .i64 0) (.int .i64 0)).run Tryz.prog w = .ok (.slice (some ⟨w.heap.size, 0, none⟩) 0 0) (w.alloc (.cells #[] 102)) := hmk
    clear hA1 hA2 hraw hmk hx0 hx
    go_enter Tryz.func88, Tryz.ntmps88
    go_wp2_with fail
    go_loopg [8, 9] 1 (fun q u v wr => q = 1 ∧ u = .int .u64 0 ∧ v = .int .i64 (-1) ∧ wr = w.alloc (.cells #[] 102))
    case atStart => exact ⟨rfl, rfl, rfl, rfl⟩
    case round =>
      obtain ⟨rfl, rfl, rfl, rfl⟩ := hrel
      go_wp2_with fail
      refine HT.out.mono ?_
      rintro e w2 ⟨v, rfl, hv, hb⟩
      have H2 := Lib.hid (And.intro hv (below_base HB.out hb HB.out.size))
      clear hv hb
      go_wp2_with fail
      go_ret3
      exact ⟨v, by rw [Nat.zero_mod]; rfl, by rw [Nat.zero_div]; exact H2.out.1, H2.out.2⟩
  · rw [ln_pos h0] at hA1 hA2 ⊢
    rw [dg_pos h0] at hA2
    obtain ⟨ab, ao, rfl, hab, hac⟩ := hA2.form (by omega)
    have ca0 : w.cell? ⟨ab, ao, none⟩ = some (.int .u64 (a : Int)) := hac 0 _ rfl
    obtain ⟨w1, hw1⟩ : ∃ w1, w.alloc (.cells #[.int .u64 0] 102) = w1 := ⟨_, rfl⟩
    have hmk := run_make_u64 1 (by omega) w
    rw [show (List.replicate 1 (Value.int .u64 0)).toArray = #[.int .u64 0] from rfl, hw1] at hmk
    have hmk' : (Instr.makeSlice 36 (.int .i64 1) (.int .i64 1)).run Tryz.prog w = .ok (.slice (some ⟨w.heap.size, 0, none⟩) 1 1) w1 := hmk
    have hb1 : Below w.heap.size w w1 := by rw [← hw1]; exact (Below.refl w.heap.size w).alloc (Nat.le_refl _) _
    have k1 : Bk w1 w.heap.size 102 [.int .u64 0] := by rw [← hw1]; exact Bk.newA w 102 #[.int .u64 0]
    have ca : w1.cell? ⟨ab, ao, none⟩ = some (.int .u64 (a : Int)) := cell_below2 hb1 hab ca0
    have HA := Lib.hid (And.intro hb1 (And.intro k1 (And.intro h0 ha2)))
    have hc : (1 : Int) ≤ (c : Int) := by omega
    clear hA1 hA2 hab hac ca0 hw1 hmk hb1 k1 h0 ha2 hx0 hx
    go_enter Tryz.func88, Tryz.ntmps88
    go_wp2_with fail
    go_loopw [8, 9] (fun u v wr => (u = .int .u64 0 ∧ v = .int .i64 0 ∧ wr = w1) ∨ (u = .int .u64 ((a % x : Nat) : Int) ∧ v = .int .i64 (-1) ∧ Bk wr w.heap.size 102 [.int .u64 ((a / x : Nat) : Int)] ∧ Below w.heap.size w wr)) (fun u v _ => ((intOf v) + 1).toNat)
    case atStart => exact .inl ⟨rfl, rfl, rfl⟩
    case round =>
      rcases hrel with ⟨rfl, rfl, rfl⟩ | ⟨rfl, rfl, hk, hb⟩
      · go_wp2_with fail
        refine (div64_any (w := wr) (x := a) (y := x) HX.out.1 HA.out.2.2.2 HX.out.2).mono ?_
        rintro e w3 ⟨rfl, hb3⟩
        have k3 := HA.out.2.1.belowS hb3
        have c3 : w3.cell? ⟨w.heap.size, 0, none⟩ = some (.int .u64 0) := k3.cell 0
        have f3 : w3.frozen? ⟨w.heap.size, 0, none⟩ = false := k3.frozen 0
        have HE := Lib.hid (And.intro (k3.set_ 0 (.int .u64 ((a / x : Nat) : Int))) ((below_base HA.out.1 hb3 HA.out.1.size).setCell (p := ⟨w.heap.size, 0, none⟩) (Nat.le_refl _) (.int .u64 ((a / x : Nat) : Int))))
        obtain ⟨qq, hqq⟩ : ∃ qq, ((a / x : Nat) : Int) = qq := ⟨_, rfl⟩
        obtain ⟨rr, hrr⟩ : ∃ rr, ((a % x : Nat) : Int) = rr := ⟨_, rfl⟩
        have HQ := Lib.hid (And.intro hqq hrr)
        rw [hqq] at HE ⊢
        rw [hrr]
        clear hqq hrr
        clear hb3 k3
        go_wp2_with fail
        exact ⟨.inr ⟨by rw [HQ.out.2], rfl, by rw [HQ.out.1]; exact HE.out⟩, by decide⟩
      · have hraw : RawV wr (some ⟨w.heap.size, 0, none⟩) 1 (a / x) := ⟨Rd.of_bk hk (by simp) rfl, fun e => by omega⟩
        have HT := Lib.hid (And.intro (trim_any (c := 1) hraw (Nat.le_refl _) (by omega)) hb)
        obtain ⟨rr, hrr⟩ : ∃ rr, ((a % x : Nat) : Int) = rr := ⟨_, rfl⟩
        have HR := Lib.hid hrr
        rw [hrr]
        clear hraw hk hb hrr
        go_wp2_with fail
        refine HT.out.1.mono ?_
        rintro e w2 ⟨v, rfl, hv, hb⟩
        have H2 := Lib.hid (And.intro hv (below_base HT.out.2 hb HT.out.2.size))
        clear hv hb
        go_wp2_with fail
        go_ret3
        exact ⟨v, by rw [HR.out]; rfl, H2.out⟩
set_option maxRecDepth 100000 in
/-- quot.Div, by a number that is not 0. -/
theorem qDiv_any {w : World} {va vb : Value} {a b : Nat} (ha : NV w va a) (hb : NV w vb b) (ha2 : a < 9223372036854775808) (hb0 : 0 < b) (hb2 : b < 9223372036854775808) : Calls Tryz.prog 99 #[va, vb] w fun e w' => ∃ v u, e = .returned (.tuple #[v, u, .int .i64 0]) ∧ NV w' v (a / b) ∧ NV w' u (a % b) ∧ Below w.heap.size w w' := by
  obtain ⟨A, c, rfl, hA1, hA2⟩ := ha
  obtain ⟨B, d, rfl, hB1, hB2⟩ := hb
  have T1 := Lib.hid (trim_any (NV.raw hA2) hA1 (by have := ln_le a; omega))
  have T2 := Lib.hid (fun (w' : World) (h : Below w.heap.size w w') => trim_any (NV.raw (hB2.below h)) hB1 (by have := ln_le b; omega))
  have HB := Lib.hid (And.intro ha2 (And.intro hb0 hb2))
  clear hA1 hA2 hB1 hB2
  obtain ⟨x, hx⟩ : ∃ x, ln a = x := ⟨_, rfl⟩
  have HX := Lib.hid hx
  rw [hx] at T1 ⊢
  rw [ln_pos hb0] at T2 ⊢
  clear hx ha2 hb0 hb2
  go_enter Tryz.func99, Tryz.ntmps99
  go_wp2_with fail
  refine T1.out.mono ?_
  rintro e w1 ⟨va, rfl, h1, hb1⟩
  have H1 := Lib.hid (And.intro h1 hb1)
  obtain ⟨A', c', rfl, _⟩ := h1
  clear hb1
  go_wp2_with fail
  refine (T2.out _ H1.out.2).mono ?_
  rintro e w2 ⟨vb, rfl, h2, hb2⟩
  have hb12 := below_base H1.out.2 hb2 H1.out.2.size
  have H2 := Lib.hid (And.intro (H1.out.1.below hb2) (And.intro h2 hb12))
  obtain ⟨B', d', rfl, hd1, hd2⟩ := h2
  have HC := Lib.hid (lCmp_any H2.out.1 H2.out.2.1)
  rw [HX.out] at HC ⊢
  rw [ln_pos HB.out.2.1] at HC hd1 hd2 ⊢
  rw [dg_pos HB.out.2.1] at hd2
  have HD := Lib.hid (And.intro hd1 hd2)
  clear hb2 hb12 hd1 hd2
  go_wp2_with fail
  refine HC.out.mono ?_
  rintro e w3 ⟨rfl, hb3⟩
  have hb13 := below_base H2.out.2.2 hb3 H2.out.2.2.size
  have H3 := Lib.hid (And.intro (H2.out.1.below hb3) hb13)
  by_cases hlt : a < b
  · have HE := Lib.hid (show cmpN a b = -1 from if_pos hlt)
    have HL := Lib.hid hlt
    rw [HE.out]
    clear hb3 hb13 hlt
    go_wp2_with fail
    go_ret3
    refine ⟨_, _, rfl, ?_, ?_, H3.out.2⟩
    · rw [Nat.div_eq_of_lt HL.out]; exact NV.nil _
    · rw [Nat.mod_eq_of_lt HL.out]; have := H3.out.1; rw [HX.out] at this; exact this
  · obtain ⟨k, hk, hk0⟩ : ∃ k : Int, cmpN a b = k ∧ 0 ≤ k := ⟨_, rfl, by unfold cmpN; rw [if_neg hlt]; split <;> decide⟩
    have dk : decide (k < 0) = false := decide_eq_false (by omega)
    rw [hk]
    obtain ⟨bb, bo, rfl, hbb, hbc⟩ := (HD.out.2.below hb3).form (by omega)
    have cb : w3.cell? ⟨bb, bo, none⟩ = some (.int .u64 (b : Int)) := hbc 0 _ rfl
    have hd' : (1 : Int) ≤ (d' : Int) := by have := HD.out.1; omega
    have HP := Lib.hid (part_any H3.out.1 HB.out.1 HB.out.2.1 HB.out.2.2)
    rw [HX.out] at HP
    clear hb3 hb13 hlt hk hk0 hbb hbc
    go_wp2_with fail
    refine HP.out.mono ?_
    rintro e w4 ⟨v, rfl, hv, hb4⟩
    have H4 := Lib.hid (And.intro hv (below_base H3.out.2 hb4 H3.out.2.size))
    have HO := Lib.hid (limbsOf_any (w := w4) (a % b))
    generalize ((a % b : Nat) : Int) = r at HO ⊢
    clear hv hb4
    go_wp2_with fail
    refine HO.out.mono ?_
    rintro e w5 ⟨u, rfl, hu, hb5⟩
    have H5 := Lib.hid (And.intro (H4.out.1.below hb5) (And.intro hu (below_base H4.out.2 hb5 H4.out.2.size)))
    clear hu hb5
    go_wp2_with fail
    go_ret3
    exact ⟨v, u, rfl, H5.out⟩
set_option maxRecDepth 100000 in
/-- quot.Gcd -/
theorem gcd_any {w : World} {va vb : Value} {a b : Nat} (ha : NV w va a) (hb : NV w vb b) (ha2 : a < 9223372036854775808) (hb2 : b < 9223372036854775808) : Calls Tryz.prog 62 #[va, vb] w fun e w' => ∃ v, e = .returned v ∧ NV w' v (Nat.gcd a b) ∧ Below w.heap.size w w' := by
  obtain ⟨A, c, rfl, hA1, hA2⟩ := ha
  obtain ⟨B, d, rfl, hB1, hB2⟩ := hb
  have T1 := Lib.hid (trim_any (NV.raw hA2) hA1 (by have := ln_le a; omega))
  have T2 := Lib.hid (fun (w' : World) (h : Below w.heap.size w w') => trim_any (NV.raw (hB2.below h)) hB1 (by have := ln_le b; omega))
  have HB := Lib.hid (And.intro ha2 hb2)
  clear hA1 hA2 hB1 hB2
  generalize ln a = x at T1 ⊢
  generalize ln b = z at T2 ⊢
  clear ha2 hb2
  go_enter Tryz.func62, Tryz.ntmps62
  go_wp2_with fail
  refine T1.out.mono ?_
  rintro e w1 ⟨va, rfl, h1, hb1⟩
  have H1 := Lib.hid (And.intro h1 hb1)
  clear h1 hb1
  go_wp2_with fail
  refine (T2.out _ H1.out.2).mono ?_
  rintro e w2 ⟨vb, rfl, h2, hb2⟩
  have H2 := Lib.hid (And.intro (H1.out.1.below hb2) (And.intro h2 (below_base H1.out.2 hb2 H1.out.2.size)))
  clear h2 hb2
  go_wp2_with fail
  go_loopg [0, 1, 5, 6, 7] (b + 1) (fun q u v _ _ _ wr => ∃ m n : Nat, q = n + 1 ∧ NV wr u m ∧ NV wr v n ∧ Nat.gcd m n = Nat.gcd a b ∧ m < 9223372036854775808 ∧ n < 9223372036854775808 ∧ Below w.heap.size w wr)
  case atStart => exact ⟨a, b, rfl, H2.out.1, H2.out.2.1, rfl, HB.out.1, HB.out.2, H2.out.2.2⟩
  case round =>
    obtain ⟨m, n, hq, hm, hn, hg, hm2, hn2, hb⟩ := hrel
    obtain ⟨A1, c1, rfl, hm1, _⟩ := id hm
    obtain ⟨B1, d1, rfl, hn1, _⟩ := id hn
    rcases Nat.eq_zero_or_pos n with h0 | h0
    · subst h0
      have HE := Lib.hid (And.intro hm (And.intro hg hb))
      rw [ln_zero]
      clear hm hg hb hn hm2 hn2 hm1 hn1
      obtain ⟨y, hy⟩ : ∃ y, ln m = y := ⟨_, rfl⟩
      rw [hy] at HE ⊢
      clear hy
      go_wp2_with fail
      go_ret
      exact ⟨_, rfl, by rw [← HE.out.2.1, Nat.gcd_zero_right]; exact HE.out.1, HE.out.2.2⟩
    · have HD := Lib.hid (qDiv_any hm hn hm2 h0 hn2)
      have HE := Lib.hid (And.intro hq (And.intro hn (And.intro hg (And.intro hn2 (And.intro hb h0)))))
      rw [ln_pos h0] at HD HE ⊢
      obtain ⟨y, hy⟩ : ∃ y, ln m = y := ⟨_, rfl⟩
      rw [hy] at HD ⊢
      clear hm hg hb hn hm2 hn2 hm1 hn1 hq hy h0
      go_wp2_with fail
      refine HD.out.mono ?_
      rintro e w4 ⟨v, u, rfl, hv, hu, hb4⟩
      have H4 := Lib.hid (And.intro hu hb4)
      clear hv hu hb4
      go_wp2_with fail
      go_roundg (m % n + 1)
      case measure => have := HE.out.1; have := Nat.mod_lt m HE.out.2.2.2.2.2; omega
      case rel => exact ⟨n, m % n, rfl, HE.out.2.1.below H4.out.2, H4.out.1, by rw [← HE.out.2.2.1, Nat.gcd_comm n (m % n), ← Nat.gcd_rec, Nat.gcd_comm], HE.out.2.2.2.1, Nat.lt_trans (Nat.mod_lt m HE.out.2.2.2.2.2) HE.out.2.2.2.1, below_base HE.out.2.2.2.2.1 H4.out.2 HE.out.2.2.2.2.1.size⟩
end Go.Proofs.YtlhipaffhehcnaaGreat
