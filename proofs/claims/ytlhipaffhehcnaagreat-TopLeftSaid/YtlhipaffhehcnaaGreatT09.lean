/- xors: Into, Pad; the document's Xor (as in chapter 8). -/
import Derived.Test.YtlhipaffhehcnaaGreatT04
import Derived.Test.YtlhipaffhehcnaaGreatT02
namespace Go.Proofs.YtlhipaffhehcnaaGreat
open Go.RowKit
set_option linter.unusedVariables false
set_option linter.unusedVariables false
theorem run_array_at {P : Program} {arr e : TypeId} {n : Nat} (ha : P.underlying arr = some (.array n e)) (a : Addr) (len cap : Nat) (hl : n ≤ len) (w : World) : (Instr.arrayAt arr (.slice (some a) len cap)).run P w = .ok (.pointer (some a)) w := by
  simp [Instr.arrayAt, run_underlying ha]
  omega
/-- What stands in both arrays behind 'x, y := [8]byte(a[:8]), [8]byte(b[:8])'. -/
def TwoArr (w w' : World) (s4 s5 : Value) (xs ys : List UInt8) : Prop :=
  ∃ gx gy, s4 = .pointer (some ⟨gx, 0, none⟩) ∧ s5 = .pointer (some ⟨gy, 0, none⟩) ∧ gx ≠ gy ∧ w.heap.size ≤ gx ∧ w.heap.size ≤ gy ∧ Bk w' gx 199 (bys xs) ∧ Bk w' gy 199 (bys ys) ∧ Below w.heap.size w w'
theorem bys8 (l : List UInt8) (h : l.length = 8) : bys l = [.int .u8 l[0].toNat, .int .u8 l[1].toNat, .int .u8 l[2].toNat, .int .u8 l[3].toNat, .int .u8 l[4].toNat, .int .u8 l[5].toNat, .int .u8 l[6].toNat, .int .u8 l[7].toNat] := by
  match l, h with
  | [a, b, c, d, e, f, g, i], _ => rfl
theorem cells8 {w : World} {b o : Nat} {l : List UInt8} (h8 : l.length = 8) (hc : ∀ (j : Nat) u, (bys l)[j]? = some u → w.cell? ⟨b, o + j, none⟩ = some u) :
    w.cell? ⟨b, o, none⟩ = some (.int .u8 l[0].toNat) ∧ w.cell? ⟨b, o + 1, none⟩ = some (.int .u8 l[1].toNat) ∧ w.cell? ⟨b, o + 2, none⟩ = some (.int .u8 l[2].toNat) ∧ w.cell? ⟨b, o + 3, none⟩ = some (.int .u8 l[3].toNat) ∧
    w.cell? ⟨b, o + 4, none⟩ = some (.int .u8 l[4].toNat) ∧ w.cell? ⟨b, o + 5, none⟩ = some (.int .u8 l[5].toNat) ∧ w.cell? ⟨b, o + 6, none⟩ = some (.int .u8 l[6].toNat) ∧ w.cell? ⟨b, o + 7, none⟩ = some (.int .u8 l[7].toNat) := by
  rw [bys8 l h8] at hc
  exact ⟨hc 0 _ rfl, hc 1 _ rfl, hc 2 _ rfl, hc 3 _ rfl, hc 4 _ rfl, hc 5 _ rfl, hc 6 _ rfl, hc 7 _ rfl⟩
/-- The first array behind k rounds of the inner loop. -/
def mixed (X Y : List UInt8) (k : Nat) : List UInt8 := xorL (X.take k) (Y.take k) ++ X.drop k
theorem mixed_zero (X Y : List UInt8) : mixed X Y 0 = X := by simp [mixed, xorL_nil]
theorem mixed_all {X Y : List UInt8} {k : Nat} (h : X.length = k) (h' : Y.length = k) : mixed X Y k = xorL X Y := by
  subst h; simp [mixed, h', List.take_of_length_le]
theorem mixed_get {X Y : List UInt8} {k : Nat} (h : k < X.length) (h' : X.length = Y.length) : (mixed X Y k)[k]? = some X[k] := by
  have e : (xorL (X.take k) (Y.take k)).length = k := by simp [xorL]; omega
  unfold mixed
  rw [List.getElem?_append_right (by omega), e, Nat.sub_self, List.getElem?_drop, Nat.add_zero, List.getElem?_eq_getElem h]
theorem mixed_succ {X Y : List UInt8} {k : Nat} (h : k < X.length) (h' : X.length = Y.length) : (mixed X Y k).set k (X[k] ^^^ Y[k]) = mixed X Y (k + 1) := by
  have e : (xorL (X.take k) (Y.take k)).length = k := by simp [xorL]; omega
  unfold mixed
  rw [List.set_append_right _ _ (by omega), e, xorL_take_succ h (by omega), List.append_assoc]
  congr 1
  rw [Nat.sub_self, List.drop_eq_getElem_cons h]
  rfl
theorem mixed_length {X Y : List UInt8} {k : Nat} (h' : X.length = Y.length) (hk : k ≤ X.length) : (mixed X Y k).length = X.length := by simp [mixed, xorL]; omega
theorem bys_set (l : List UInt8) (k : Nat) (x : UInt8) : (bys l).set k (.int .u8 (x.toNat : Int)) = bys (l.set k x) := by simp [bys, List.map_set]
theorem bys_at {l : List UInt8} {k : Nat} {x : UInt8} (h : l[k]? = some x) : (bys l)[k]? = some (.int .u8 (x.toNat : Int)) := by simp [bys, h]
theorem xor_u8 (x y : UInt8) : bits .xor .u8 (x.toNat : Int) (y.toNat : Int) = ((x ^^^ y).toNat : Int) := by
  rw [u8_xor_nat _ _ x.toNat_lt y.toNat_lt, UInt8.toNat_xor]
/-- What 's[k:]' is: its address hangs on whether anything is left of the capacity. -/
theorem run_cut {P : Program} {t e : TypeId} {i : TypeInfo} (ht : P.underlying t = some (.slice e)) (hi : P.info? e = some i) (h1 : i.size = 1) (A : Option Addr) (n c k : Nat) (ki : Int) (hki : ki = k) (kk : IntKind) (hk : k ≤ n) (hc : n ≤ c) :
    ∃ A', (∀ w, (Instr.slice t (.slice A n c) (some (.int kk ki)) none none).run P w = .ok (.slice A' (n - k) (c - k)) w) ∧ (k < n → A' = A.map (fun a => a.add k)) := by
  refine ⟨if c = k then A else A.map (·.add (k * 1)), fun w => ?_, fun h => by rw [if_neg (by omega), Nat.mul_one]⟩
  subst hki
  have b2 : (0 : Int) ≤ (k : Int) ∧ (k : Int) ≤ (n : Int) := by omega
  have hb : (Instr.sliceBound (.int kk (k : Int)) n .sliceB).run P w = .ok k w := by
    rw [run_sliceBound _ kk k n .sliceB b2.1 b2.2]; simp
  simp [Instr.slice, Instr.sliceBounds, run_underlying ht, sizeOf, typeInfo, hi, h1, hb]
theorem map_add {g off k : Nat} : (some (⟨g, off, none⟩ : Addr)).map (fun a => a.add k) = (some (⟨g, off, none⟩ : Addr)).map (fun a => ⟨a.block, a.off + k, none⟩) := by
  simp [Addr.add]
set_option maxHeartbeats 4000000 in
theorem add_any {w : World} {g off n c c' : Nat} {A A' : Option Addr} {xs ys : List UInt8} (hm : Mut w A n g off (bys xs)) (hy : Rd w A' n (bys ys)) (hne : 0 < n → ∀ a, A' = some a → a.block ≠ g) (hn : n ≤ 140737488351232) (hc : n ≤ c) (hc' : n ≤ c') :
    Calls Tryz.prog 108 #[.slice A n c, .slice A' n c'] w fun e w' => e = .returned (.tuple #[]) ∧ Upd w w' g off (bys (xorL xs ys)) := by
  have sap := fun (a : Addr) (l cc : Nat) => run_array_at (P := Tryz.prog) Tryz.underlying199 a l cc
  have HL : Hid (xs.length = n ∧ ys.length = n) := ⟨by have := hm.1; simpa [bys_length] using this, by have := hy.1; simpa [bys_length] using this⟩
  go_enter Tryz.func108, Tryz.ntmps108
  go_wp2
  go_loopw [0, 1] (fun a b wr => ∃ p m Aa ca Ab cb, Hid (p + m = n) ∧ a = .slice Aa m ca ∧ b = .slice Ab m cb ∧ m ≤ ca ∧ m ≤ cb ∧ Mut wr Aa m g (off + p) (bys (xs.drop p)) ∧
      Rd wr Ab m (bys (ys.drop p)) ∧ (0 < m → ∀ q, Ab = some q → q.block ≠ g) ∧ Upd w wr g off (bys (xorL (xs.take p) (ys.take p)))) (fun a b wr => match a with | .slice _ l _ => l | _ => 0)
  case atStart => exact ⟨0, n, A, c, A', c', by unfold Hid; omega, rfl, rfl, hc, hc', by simpa using hm, by simpa using hy, hne, by rw [List.take_zero, List.take_zero, xorL_nil]; exact Upd.none_ (Below.refl _ _)⟩
  case round =>
    obtain ⟨p, m, Aa, ca, Ab, cb, HP, rfl, rfl, hca, hcb, hmp, hyp, hnep, hu⟩ := hrel
    by_cases h8 : 8 ≤ m
    · obtain ⟨X, hX⟩ : ∃ X, X = (xs.drop p).take 8 := ⟨_, rfl⟩
      obtain ⟨Y, hY⟩ : ∃ Y, Y = (ys.drop p).take 8 := ⟨_, rfl⟩
      have HX : Hid (X.length = 8 ∧ Y.length = 8) := by
        have := HL.out; have := HP.out
        subst hX; subst hY
        constructor <;> (simp; omega)
      have hmx := hmp.take_ h8
      have hyy := hyp.take_ h8
      rw [bys_take, ← hX] at hmx
      rw [bys_take, ← hY] at hyy
      have HXY := Lib.hid (And.intro hX hY)
      clear hX hY
      obtain ⟨eA, t, cur, hbk, hfit, hcx⟩ := hmx.2 (by omega)
      obtain ⟨b, ob, rfl, hblt, hcy⟩ := hyy.form (by omega)
      obtain ⟨_, _, eA', hglt, hcx'⟩ := hmx.rd.form (by omega)
      rw [eA] at eA'; cases eA'
      subst eA
      obtain ⟨x0, x1, x2, x3, x4, x5, x6, x7⟩ := cells8 HX.out.1 hcx'
      obtain ⟨y0, y1, y2, y3, y4, y5, y6, y7⟩ := cells8 HX.out.2 hcy
      have hbg : b ≠ g := hnep (by omega) _ rfl
      clear hnep
      have h8m : (8 : Int) ≤ (m : Int) := by omega
      have h8a : (8 : Int) ≤ (ca : Int) := by omega
      have h8b : (8 : Int) ≤ (cb : Int) := by omega
      have HC := Lib.hid hcx
      clear hcx hcx' hcy
      go_upto_region 1 with fail
      go_cut [4, 5] (fun s4 s5 wx => TwoArr wr wx s4 s5 X Y)
      case first =>
        have b8x := bys8 X HX.out.1
        have b8y := bys8 Y HX.out.2
        have HB := Lib.hid (And.intro b8x b8y)
        clear b8x b8y
        go_region
        all_goals go_wp2_with fail
        all_goals go_meet
        · refine ⟨wr.heap.size, wr.heap.size + 1, rfl, rfl, by omega, by omega, by omega, ?_, ?_, (((Below.refl _ _).alloc (Nat.le_refl _) _).alloc (by simp) _).drew⟩
          · rw [HB.out.1]; exact (Bk.newA wr _ _).alloc _
          · rw [HB.out.2]; exact Bk.new2 _ _ _ _
        · refine ⟨wr.heap.size + 1, wr.heap.size, rfl, rfl, by omega, by omega, by omega, ?_, ?_, (((Below.refl _ _).alloc (Nat.le_refl _) _).alloc (by simp) _).drew⟩
          · rw [HB.out.1]; exact Bk.new2 _ _ _ _
          · rw [HB.out.2]; exact (Bk.newA wr _ _).alloc _
      case rest =>
        obtain ⟨gx, gy, rfl, rfl, hxy, hgx, hgy, hbx, hby, hbel⟩ := hcut
        obtain ⟨w0, rfl⟩ : ∃ w0 : World, w0 = wr := ⟨_, rfl⟩
        go_wp2
        go_loopw [19] (fun i wi => ∃ k : Nat, k ≤ 8 ∧ i = .int .i64 k ∧ Bk wi gx 199 (bys (mixed X Y k)) ∧ Bk wi gy 199 (bys Y) ∧ Below w0.heap.size w0 wi) (fun i wi => 8 - (intOf i).toNat)
        case atStart => exact ⟨0, by omega, rfl, by rw [mixed_zero]; exact hbx, hby, hbel⟩
        case round =>
          clear hbx hby hbel
          obtain ⟨k, hk, rfl, hbx, hby, hbel⟩ := hrel
          by_cases hlt : k < 8
          · have hkX : k < X.length := by have := HX.out; omega
            have hkY : k < Y.length := by have := HX.out; omega
            have hXY : X.length = Y.length := by have := HX.out; omega
            have cx := hbx.cell k
            rw [bys_at (mixed_get hkX hXY)] at cx
            have cy := hby.cell k
            rw [bys_get Y k hkY] at cy
            have fx := hbx.frozen k
            have HS := Lib.hid (mixed_succ hkX hXY)
            have lx := byte_lt X[k]
            have ly := byte_lt Y[k]
            have k0 : (0 : Int) ≤ (k : Int) := by omega
            have k8 : (k : Int) < 8 := by omega
            go_wp2
            go_region
            go_wp2
            rw [xor_u8]
            refine ⟨⟨k + 1, by omega, by go_num, ?_, (hby.far (p := ⟨gx, k, none⟩) (by simpa using hxy.symm) _).drew, (hbel.setCell (p := ⟨gx, k, none⟩) hgx _).drew⟩, by simp [intOf]; omega⟩
            have := (hbx.set_ k (.int .u8 ((X[k] ^^^ Y[k]).toNat : Int))).drew
            rw [bys_set, HS.out] at this
            exact this
          · obtain rfl : k = 8 := by omega
            clear x0 x1 x2 x3 x4 x5 x6 x7 y0 y1 y2 y3 y4 y5 y6 y7
            have hm8 : Mut wr (some ⟨g, off + p, none⟩) m g (off + p) (bys (xs.drop p)) := hmp.below hbel
            have hmix : mixed X Y 8 = xorL X Y := mixed_all HX.out.1 HX.out.2
            have hr8 : Rd wr (some ⟨gx, 0, none⟩) 8 (bys (xorL X Y)) := by
              rw [← hmix]
              exact Rd.of_bk hbx (by rw [bys_length, mixed_length (by have := HX.out; omega) (by have := HX.out; omega)]; have := HX.out; omega) (by rw [List.drop_zero, List.take_of_length_le (by rw [bys_length, mixed_length (by have := HX.out; omega) (by have := HX.out; omega)]; have := HX.out; omega)])
            clear hmix
            go_wp2_with (with_reducible refine wpList_copy_upd rfl (.tmp 31) (.tmp 32) _ _ rfl 5 Tryz.underlying83 u8_size (some ⟨g, off + p, none⟩) (some ⟨gx, 0, none⟩) m ca 8 8 rfl rfl g (off + p) (bys (xs.drop p)) (bys (xorL X Y)) hm8 hr8 (bys_one _) ?_; intro w8 hu8)
            obtain ⟨i0, hi0, hz0, hz1, hz2⟩ := info_parts u8_info
            obtain ⟨A1, hA1, fA1⟩ := run_cut Tryz.underlying83 hi0 hz1 (some ⟨g, off + p, none⟩) m ca 8 8 rfl .i64 h8 hca
            obtain ⟨A2, hA2, fA2⟩ := run_cut Tryz.underlying83 hi0 hz1 (some ⟨b, ob, none⟩) m cb 8 8 rfl .i64 h8 hcb
            rw [map_add] at fA1 fA2
            have hl8 : ((bys (xorL X Y)).take m).length = 8 := by
              have := HX.out; simp [bys, xorL]; omega
            have hl8' : (bys (xorL X Y)).take m = bys (xorL X Y) := List.take_of_length_le (by have := HX.out; simp [bys, xorL]; omega)
            have hmut : Mut w8 A1 (m - 8) g (off + (p + 8)) (bys (xs.drop (p + 8))) := by
              have := ((hm8.drop_ h8 fA1).apart hu8 (.inl (by rw [hl8]; omega)) (fun h0 t cs hcs => by
                obtain ⟨_, t', cur', hb', hl', _⟩ := hm8.2 (by omega)
                have := hcs.inj hb'; subst this; rw [hl8]; omega))
              rw [bys_drop, List.drop_drop] at this
              rw [← Nat.add_assoc]; exact this
            have hrd : Rd w8 A2 (m - 8) (bys (ys.drop (p + 8))) := by
              have := ((hyp.below hbel).cut_at h8 fA2).grown hu8.1 (fun h0 a ha => by rw [fA2 (by omega)] at ha; cases ha; exact hbg)
              rw [bys_drop, List.drop_drop] at this
              exact this
            have hupd : Upd w w8 g off (bys (xorL (xs.take (p + 8)) (ys.take (p + 8)))) := by
              have e1 : xorL (xs.take (p + 8)) (ys.take (p + 8)) = xorL (xs.take p) (ys.take p) ++ xorL X Y := by
                rw [HXY.out.1, HXY.out.2, List.take_add, List.take_add]
                unfold xorL
                rw [List.zipWith_append (by have := HL.out; simp; omega)]
              have e2 : (bys (xorL (xs.take p) (ys.take p))).length = p := by
                have := HL.out; have := HP.out; simp [bys, xorL]; omega
              rw [e1, bys_append]
              refine (hu.then_below hbel).append ?_
              rw [e2, ← hl8']; exact hu8
            have hnep' : 0 < m - 8 → ∀ q, A2 = some q → q.block ≠ g := fun h0 q hq => by rw [fA2 (by omega)] at hq; cases hq; exact hbg
            have HH := Lib.hid (And.intro hmut (And.intro hrd (And.intro hupd hnep')))
            clear hmut hrd hupd hnep' hl8 hl8' hu8 fA1 fA2 hm8 hr8 hmx hyy hbx hby hbel hyp hmp hu
            go_wp2_with fail
            go_quiet (fail)
            go_wp2
            refine ⟨⟨p + 8, m - 8, A1, ca - 8, A2, cb - 8, ?_, rfl, rfl, by omega, by omega, HH.out.1, HH.out.2.1, HH.out.2.2.2, HH.out.2.2.1.drewN _⟩, ?_⟩
            · have := HP.out; unfold Hid; omega
            · show m - 8 < m
              omega
    · obtain ⟨X, hX⟩ : ∃ X, X = xs.drop p := ⟨_, rfl⟩
      obtain ⟨Y, hY⟩ : ∃ Y, Y = ys.drop p := ⟨_, rfl⟩
      have HX : Hid (X.length = m ∧ Y.length = m) := by
        have := HL.out; have := HP.out
        subst hX; subst hY
        constructor <;> (simp; omega)
      rw [← hX] at hmp
      rw [← hY] at hyp
      have HXY := Lib.hid (And.intro hX hY)
      clear hX hY
      obtain ⟨w0, rfl⟩ : ∃ w0 : World, w0 = wr := ⟨_, rfl⟩
      go_wp2
      go_loopw [40] (fun i wi => ∃ k : Nat, k ≤ m ∧ i = .int .i64 k ∧ Upd w0 wi g (off + p) (bys (xorL (X.take k) (Y.take k)))) (fun i wi => m - (intOf i).toNat)
      case atStart => exact ⟨0, by omega, rfl, by rw [List.take_zero, List.take_zero, xorL_nil]; exact Upd.none_ (Below.refl _ _)⟩
      case round =>
        obtain ⟨k, hk, rfl, hui⟩ := hrel
        by_cases hlt : k < m
        · have hkX : k < X.length := by have := HX.out; omega
          have hkY : k < Y.length := by have := HX.out; omega
          have hXY : X.length = Y.length := by have := HX.out; omega
          obtain ⟨rfl, t, cur, hbk, hfit, hcx⟩ := hmp.2 (by omega)
          have hbg := hnep (by omega)
          obtain ⟨b, ob, rfl, hblt, hcy⟩ := hyp.form (by omega)
          have hbg := hbg _ rfl
          clear hnep
          have hkl : (bys (xorL (X.take k) (Y.take k))).length = k := by simp [bys, xorL]; omega
          have hfk : off + p + (bys (xorL (X.take k) (Y.take k))).length ≤ cur.length := by omega
          have hbi := hui.2 _ _ hbk hfk
          have cx := hbi.cell (off + p + k)
          rw [spl_getElem? hfk, if_neg (by omega), ← List.getElem?_drop, ← List.getElem?_take_of_lt (j := m) (by omega), hcx, bys_get X k hkX] at cx
          have cy : wr.cell? ⟨b, ob + k, none⟩ = some (.int .u8 (Y[k].toNat : Int)) := (World.cell?_of_block (w := w0) (a := ⟨b, ob + k, none⟩) (hui.1.block b hblt (fun e => hbg (by cases e; rfl)))).trans (hcy k _ (bys_get Y k hkY))
          have fx := hbi.frozen (off + p + k)
          have HS := Lib.hid (xorL_take_succ hkX hkY)
          have lx := byte_lt X[k]
          have ly := byte_lt Y[k]
          have k0 : (0 : Int) ≤ (k : Int) := by omega
          have km : (k : Int) < (m : Int) := by omega
          have HB := Lib.hid (And.intro hui (And.intro hkl hfk))
          clear hui hkl hbi hbk hcx hcy hmp hyp hm hy hu hfk hXY
          go_wp2
          go_region
          go_wp2
          rw [xor_u8]
          refine ⟨⟨k + 1, by omega, by go_num, ?_⟩, by simp [intOf]; omega⟩
          rw [HS.out, bys_append]
          refine Upd.drew (HB.out.1.append ?_)
          rw [HB.out.2.1]
          exact Upd.cell _ _ _ _
        · obtain rfl : k = m := by omega
          clear hmp hyp hm hy
          go_wp2
          go_end0
          refine ⟨rfl, ?_⟩
          have e1 : xorL xs ys = xorL (xs.take p) (ys.take p) ++ xorL (X.take k) (Y.take k) := by
            have hx : X.take k = X := List.take_of_length_le (by have := HX.out; omega)
            have hy : Y.take k = Y := List.take_of_length_le (by have := HX.out; omega)
            rw [hx, hy, HXY.out.1, HXY.out.2]
            unfold xorL
            rw [← List.zipWith_append (by have := HL.out; simp; omega), List.take_append_drop, List.take_append_drop]
          have e2 : (bys (xorL (xs.take p) (ys.take p))).length = p := by
            have := HL.out; have := HP.out; simp [bys, xorL]; omega
          rw [e1, bys_append]
          refine hu.append ?_
          rw [e2]; exact hui
/-- xors.Into: other lengths; the same. -/
theorem into_no {w : World} {n c n' c' : Nat} {A A' : Option Addr} (hne : n ≠ n') :
    Calls Tryz.prog 74 #[.slice A n c, .slice A' n' c'] w fun e w' => e = .returned (.int .i64 2) ∧ w = w' := by
  have hd : ((n : Int) != (n' : Int)) = true := by simp; omega
  go_enter Tryz.func74, Tryz.ntmps74
  go_wp2
  go_ret
  exact ⟨rfl, rfl⟩
theorem into_any {w : World} {g off n c c' : Nat} {A A' : Option Addr} {xs ys : List UInt8} (hm : Mut w A n g off (bys xs)) (hy : Rd w A' n (bys ys)) (hne : 0 < n → ∀ a, A' = some a → a.block ≠ g) (hn : n ≤ 140737488351232) (hc : n ≤ c) (hc' : n ≤ c') :
    Calls Tryz.prog 74 #[.slice A n c, .slice A' n c'] w fun e w' => e = .returned (.int .i64 0) ∧ Upd w w' g off (bys (xorL xs ys)) := by
  have H := Lib.hid (add_any hm hy hne hn hc hc')
  clear hm hy hne
  go_enter Tryz.func74, Tryz.ntmps74
  go_wp2_with fail
  refine H.out.mono ?_
  rintro e w1 ⟨rfl, hu⟩
  have HU := Lib.hid hu
  clear hu
  go_wp2
  go_ret
  exact ⟨rfl, HU.out⟩
/-- What is told: bytes in new memory, or none, and an error's number. -/
def Told (w : World) (V : List UInt8) (E : Int) (e : Ending) (w' : World) : Prop :=
  ∃ v, e = .returned (.tuple #[v, .int .i64 E]) ∧ w'.ownsRow w.heap.size 5 1 v V.length (bys V) ∧ Below w.heap.size w w'
/-- xors.Xor -/
theorem xor_any {w : World} {n c n' c' : Nat} {A A' : Option Addr} {xs ys : List UInt8} (hx : Rd w A n (bys xs)) (hy : Rd w A' n' (bys ys)) (hn : n ≤ 140737488351232) (hc' : n' ≤ c') :
    Calls Tryz.prog 36 #[.slice A n c, .slice A' n' c'] w (Told w (xorV xs ys) (xorE xs ys)) := by
  have hlx : xs.length = n := by have := hx.1; simpa [bys_length] using this
  have hly : ys.length = n' := by have := hy.1; simpa [bys_length] using this
  have HL := Lib.hid (And.intro hlx hly)
  clear hlx hly
  go_enter Tryz.func36, Tryz.ntmps36
  go_wp2_with fail
  refine (clone_any hx hn).mono ?_
  rintro e w1 ⟨v, rfl, hown, hb⟩
  obtain ⟨A1, c1, rfl, hc1, _, _, _⟩ := own_form hown
  by_cases hne : n = n'
  · subst hne
    obtain ⟨g, hm, hg, hgl, hup⟩ := Mut.of_own hown
    have hy1 := hy.below hb
    have H := Lib.hid (into_any hm hy1 (fun h0 a ha => by
      have := hy.lt h0 a ha; omega) hn hc1 hc')
    clear hm hy1 hx hy hown
    go_wp2_with fail
    refine H.out.mono ?_
    rintro e w2 ⟨rfl, hu⟩
    have hown2 := hup w2 _ (by rw [bys_length, xorL_length _ _ (by have := HL.out; omega)]; exact HL.out.1) hu
    have hb2 := hu.below hb hb.size hg
    clear hu hup
    go_wp2
    go_ret2
    refine ⟨_, ret_told (show (0 : Int) = xorE xs ys from by unfold xorE; rw [if_pos (by have := HL.out; omega)]), ?_, hb2⟩
    rw [show xorV xs ys = xorL xs ys from by unfold xorV; rw [if_pos (by have := HL.out; omega)], xorL_length _ _ (by have := HL.out; omega), HL.out.1]
    exact hown2
  · go_wp2_with fail
    refine (into_no hne).mono ?_
    rintro e w2 ⟨rfl, rfl⟩
    go_wp2
    go_ret2
    refine ⟨_, ret_told (show (2 : Int) = xorE xs ys from by unfold xorE; rw [if_neg (by have := HL.out; omega)]), ?_, hb⟩
    rw [show xorV xs ys = [] from by unfold xorV; rw [if_neg (by have := HL.out; omega)]]
    exact World.ownsRow_nil _ _ _ _
end Go.Proofs.YtlhipaffhehcnaaGreat
