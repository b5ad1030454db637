/- Package crc, and the document's answer for it: what each function comes to. -/
import Derived.Test.YtpfamjgdfcnieaaKit
import Derived.Test.YtpfamjgdfcnieaaP09
namespace Go.Proofs.Ytpfamjgdfcnieaa
open Go.RowKit
set_option linter.unusedVariables false
theorem tab_info : (Try.prog.info? 88).map (·.zero) = some (some (.agg (Array.replicate 256 (.int .u32 0)))) := by kernel_rfl
theorem tab_size : (Try.prog.info? 88).map (·.size) = some 256 := by kernel_rfl
theorem u32_xor (x y : Nat) (hx : x < 4294967296) (hy : y < 4294967296) : bits .xor .u32 (x : Int) (y : Int) = ((x ^^^ y : Nat) : Int) := u32_xor_nat x y hx hy
set_option maxRecDepth 100000 in
/-- artesianref09.shifted -/
theorem shifted_any {w : World} (x : Nat) (hx : x < 4294967296) (k : Nat) (hk : k ≤ 100) :
    Calls Try.prog 64 #[.int .u32 (x : Int), .int .i64 (k : Int)] w fun e w' => e = .returned (.int .u32 ((shN k x : Nat) : Int)) ∧ w = w' := by
  go_enter Try.func64, Try.ntmps64
  go_wp2
  go_loop [0, 5] (fun y i => ∃ j : Nat, j ≤ k ∧ i = .int .i64 j ∧ y = .int .u32 ((shN j x : Nat) : Int)) (fun y i => k - (intOf i).toNat)
  case atStart => exact ⟨0, by omega, rfl, rfl⟩
  case round =>
    obtain ⟨j, hj, rfl, rfl⟩ := hrel
    have hlt := shN_lt j x hx
    have hsucc : shN (j + 1) x = sh1 (shN j x) := rfl
    obtain ⟨y, hy⟩ : ∃ y, y = shN j x := ⟨_, rfl⟩
    rw [← hy] at hlt hsucc ⊢
    have HY := Lib.hid (And.intro hy (And.intro hsucc hlt))
    clear hy hsucc
    by_cases h : j < k
    · have h0 : (0 : Int) ≤ (y : Int) := by omega
      have hi : (y : Int) < 4294967296 := by omega
      clear hlt hx
      by_cases hodd : y % 2 = 1
      · have hd : ((y : Int) % 2 == 1) = true := by simp; omega
        have HO := Lib.hid hodd
        clear hodd
        go_wp2
        refine ⟨⟨j + 1, by omega, by go_num, ?_⟩, by simp [intOf]; omega⟩
        have := u32_xor (y / 2) 3988292384 (by have := HY.out.2.2; omega) (by omega)
        rw [HY.out.2.1, show ((y : Int) / 2) = ((y / 2 : Nat) : Int) from by omega, show (3988292384 : Int) = ((3988292384 : Nat) : Int) from rfl, this]
        unfold sh1
        rw [HO.out]
      · have hd : ((y : Int) % 2 == 1) = false := by simp; omega
        have HO := Lib.hid hodd
        clear hodd
        go_wp2
        refine ⟨⟨j + 1, by omega, by go_num, ?_⟩, by simp [intOf]; omega⟩
        rw [HY.out.2.1]
        unfold sh1
        rw [show y % 2 = 0 from by have := HO.out; omega]
        simp
    · obtain rfl : j = k := by omega
      clear hlt hx
      go_wp2
      go_ret
      exact ⟨ret_int (by rw [HY.out.1]), rfl⟩
/-- The table so far. -/
def tabTo (k : Nat) : List Nat := (List.range k).map (shN 8) ++ List.replicate (256 - k) 0
theorem tabTo_succ {k : Nat} (h : k < 256) : (tabTo k).set k (shN 8 k) = tabTo (k + 1) := by
  unfold tabTo
  rw [List.set_append_right _ _ (by simp), List.length_map, List.length_range, Nat.sub_self]
  obtain ⟨m, hm⟩ : ∃ m, 256 - k = m + 1 := ⟨255 - k, by omega⟩
  rw [hm, List.replicate_succ, List.set_cons_zero, List.range_succ, List.map_append, List.append_assoc, show 256 - (k + 1) = m from by omega]
  rfl
theorem tabTo_length {k : Nat} (h : k ≤ 256) : (tabTo k).length = 256 := by simp [tabTo]; omega
theorem tabTo_all : tabTo 256 = tableL := by simp [tabTo, tableL]
theorem zeros_n (n : Nat) : Array.replicate n (Value.int .u32 0) = (u32s (List.replicate n 0)).toArray := by simp [u32s]
theorem zeros_u32 : (Array.replicate 256 (Value.int .u32 0)) = (u32s (tabTo 0)).toArray := zeros_n 256
set_option maxRecDepth 100000 in
/-- crc.Table -/
theorem crcTable_any {w : World} :
    Calls Try.prog 65 #[] w fun e w' => e = .returned (.agg (u32s tableL).toArray) ∧ Below w.heap.size w w' := by
  have hz := tab_info
  rw [zeros_u32] at hz
  have HZ := Lib.hid hz
  clear hz
  go_enter Try.func65, Try.ntmps65
  go_upto_region 1 with (with_reducible refine wpList_alloc_abs _ rfl 88 rfl (u32s (tabTo 0)) HZ.out ?_; intro w1 hb1 hl1 hs1)
  have H1 := Lib.hid (And.intro hb1 hl1)
  clear hb1 hl1
  go_wp2_with fail
  go_loopw [3] (fun i wr => ∃ k : Nat, k ≤ 256 ∧ i = .int .i64 k ∧ Hid (Bk wr w.heap.size 88 (u32s (tabTo k)) ∧ Below w.heap.size w wr)) (fun i wr => 256 - (intOf i).toNat)
  case atStart => exact ⟨0, by omega, rfl, H1⟩
  case round =>
    obtain ⟨k, hk, rfl, HB⟩ := hrel
    by_cases hlt : k < 256
    · have k0 : (0 : Int) ≤ (k : Int) := by omega
      have k1 : (k : Int) < 256 := by omega
      obtain ⟨wo, rfl⟩ : ∃ wo : World, wo = wr := ⟨_, rfl⟩
      go_wp2_with fail
      go_loop [2, 8] (fun y i => ∃ j : Nat, j ≤ 8 ∧ i = .int .i64 j ∧ y = .int .u32 ((shN j k : Nat) : Int)) (fun y i => 8 - (intOf i).toNat)
      case atStart => exact ⟨0, by omega, rfl, rfl⟩
      case round =>
        obtain ⟨j, hj, rfl, rfl⟩ := hrel
        have hlt8 := shN_lt j k (by omega)
        have hsucc : shN (j + 1) k = sh1 (shN j k) := rfl
        obtain ⟨y, hy⟩ : ∃ y, y = shN j k := ⟨_, rfl⟩
        rw [← hy] at hlt8 hsucc ⊢
        have HY := Lib.hid (And.intro hy (And.intro hsucc hlt8))
        clear hy hsucc
        by_cases h : j < 8
        · have h0 : (0 : Int) ≤ (y : Int) := by omega
          have hi : (y : Int) < 4294967296 := by omega
          have hj8 : (j : Int) < 8 := by omega
          clear hlt8
          by_cases hodd : y % 2 = 1
          · have hd : bits .and .u32 (y : Int) 1 = 1 := by
              have := u32_and_nat y 1 (by omega) (by omega)
              rw [show (1 : Int) = ((1 : Nat) : Int) from rfl, this, Nat.and_one_is_mod, hodd]
            have HO := Lib.hid hodd
            clear hodd
            go_wp2_with fail
            refine ⟨⟨j + 1, by omega, by go_num, ?_⟩, by simp [intOf]; omega⟩
            have := u32_xor (y / 2) 3988292384 (by have := HY.out.2.2; omega) (by omega)
            rw [HY.out.2.1, show ((y : Int) / 2) = ((y / 2 : Nat) : Int) from by omega, show (3988292384 : Int) = ((3988292384 : Nat) : Int) from rfl, this]
            unfold sh1
            rw [HO.out]
          · have hd : bits .and .u32 (y : Int) 1 = 0 := by
              have := u32_and_nat y 1 (by omega) (by omega)
              rw [show (1 : Int) = ((1 : Nat) : Int) from rfl, this, Nat.and_one_is_mod]
              omega
            have HO := Lib.hid hodd
            clear hodd
            go_wp2_with fail
            refine ⟨⟨j + 1, by omega, by go_num, ?_⟩, by simp [intOf]; omega⟩
            have := u32_xor (y / 2) 0 (by have := HY.out.2.2; omega) (by omega)
            rw [HY.out.2.1, show ((y : Int) / 2) = ((y / 2 : Nat) : Int) from by omega, show (0 : Int) = ((0 : Nat) : Int) from rfl, this]
            unfold sh1
            rw [show y % 2 = 0 from by have := HO.out; omega]
        · obtain rfl : j = 8 := by omega
          have cx := HB.out.1.cell k
          have hx : (tabTo k)[k]? = some 0 := by
            unfold tabTo
            rw [List.getElem?_append_right (by simp), List.length_map, List.length_range, Nat.sub_self, List.getElem?_replicate, if_pos (by omega)]
          rw [u32s_get hx] at cx
          have fx := HB.out.1.frozen k
          clear hlt8 hx
          go_wp2_with fail
          refine ⟨⟨k + 1, by omega, by go_num, ?_, HB.out.2.setCell (Nat.le_refl _) _⟩, by simp [intOf]; omega⟩
          have := HB.out.1.set_ k (.int .u32 ((shN 8 k : Nat) : Int))
          rw [u32s_set, tabTo_succ hlt, ← HY.out.1] at this
          exact this
    · obtain rfl : k = 256 := by omega
      go_wp2_with (first
        | (with_reducible refine wpList_load_bk rfl 88 (.tmp 0) rfl w.heap.size rfl _ _ _ HB.out.1 Try.underlying88 rfl 256 tab_size (by rw [u32s_length, tabTo_length (by omega)]) ?_)
        | (with_reducible refine wpList_store_bk rfl 88 (.tmp 0) (.tmp 21) rfl w.heap.size (u32s (tabTo 256)) rfl rfl _ _ HB.out.1 256 tab_size (by rw [u32s_length, tabTo_length (by omega)]) (by rw [u32s_length, tabTo_length (by omega)]) (u32s_one _) ?_; intro w5 hb5 hu5))
      exact bodyPost_ret (v := .agg (u32s (tabTo 256)).toArray) (results_cell_row rfl _ _ w.heap.size _ _ (0, 0) _ rfl hb5 Try.underlying88 rfl (by rw [tab_size]; simp [u32s_length, tabTo_length])) rfl ⟨by rw [tabTo_all], hu5.below HB.out.2 HB.out.2.size (Nat.le_refl _)⟩
/-- A table: none (nil), or a variable with 256 numbers. -/
def Tab (w : World) (p : Option Addr) (t : List Nat) : Prop :=
  (p = none ∧ t = tableL) ∨ ∃ g T, p = some ⟨g, 0, none⟩ ∧ Bk w g T (u32s t) ∧ t.length = 256 ∧ ∀ n ∈ t, n < 4294967296
theorem Tab.below {w w' : World} {p : Option Addr} {t : List Nat} (h : Tab w p t) (hb : Below w.heap.size w w') : Tab w' p t := by
  rcases h with h | ⟨g, T, h1, h2, h3⟩
  · exact .inl h
  · exact .inr ⟨g, T, h1, h2.belowS hb, h3⟩
theorem Tab.len {w : World} {p : Option Addr} {t : List Nat} (h : Tab w p t) : t.length = 256 ∧ ∀ n ∈ t, n < 4294967296 := by
  rcases h with ⟨_, rfl⟩ | ⟨g, T, _, _, h3⟩
  · exact ⟨tableL_length, tableL_lt⟩
  · exact h3
def FirstPost (w : World) (t : List Nat) (e : Ending) (w' : World) : Prop :=
  ∃ g T, e = .returned (.pointer (some ⟨g, 0, none⟩)) ∧ Bk w' g T (u32s t) ∧ Below w.heap.size w w'
set_option maxRecDepth 100000 in
/-- crc.first, of one pointer. -/
theorem first_any {w : World} {p : Option Addr} {t : List Nat} {L : Option Addr} (ht : Tab w p t) (hL : Rd w L 1 [.pointer p]) :
    Calls Try.prog 63 #[.slice L 1 1] w (FirstPost w t) := by
  obtain ⟨b, off, rfl, _, hc⟩ := hL.form (by omega)
  have hc0 : w.cell? ⟨b, off, none⟩ = some (.pointer p) := by simpa using hc 0 _ rfl
  clear hc hL
  have HL := ht.len
  rcases ht with ⟨rfl, rfl⟩ | ⟨g, T, rfl, hb, _⟩
  · have hz := tab_info
    rw [zeros_u32] at hz
    have HZ := Lib.hid hz
    clear hz
    go_enter Try.func63, Try.ntmps63
    go_wp2_with fail
    refine wp_loop_rounds 2 ?_
    rw [rounds_succ]
    go_wp2_with fail
    rw [rounds_succ]
    go_wp2_with fail
    refine (crcTable_any).mono ?_
    rintro e w1 ⟨rfl, hb1⟩
    have H1 := Lib.hid hb1
    clear hb1
    go_upto_region 8 with (first
      | (with_reducible refine wpList_alloc_abs _ rfl 88 rfl (u32s (tabTo 0)) HZ.out ?_; intro w2 hb2 hl2 hs2; have H2 := Lib.hid (And.intro hb2 (below_base H1.out hl2 H1.out.size)); clear hb2 hl2)
      | (with_reducible refine wpList_store_bk rfl 88 (.tmp 5) (.tmp 16) rfl w1.heap.size (u32s tableL) rfl rfl _ _ H2.out.1 256 tab_size (by rw [u32s_length, tabTo_length (by omega)]) (by rw [u32s_length, tableL_length]) (u32s_one _) ?_; intro w3 hb3 hu3; have H3 := Lib.hid (And.intro hb3 (hu3.below H2.out.2 H2.out.2.size H1.out.size)); clear hb3 hu3))
    go_wp2_with fail
    go_ret
    exact ⟨_, _, rfl, H3.out.1, H3.out.2⟩
  · have HB := Lib.hid hb
    clear hb
    go_enter Try.func63, Try.ntmps63
    go_wp2_with fail
    refine wp_loop_rounds 1 ?_
    rw [rounds_succ]
    go_wp2_with fail
    go_ret
    exact ⟨_, _, rfl, HB.out, Below.refl _ _⟩
theorem u8_of (x : Nat) (c : UInt8) : bits .xor .u8 ((x : Int) % 256) (c.toNat : Int) = ((x % 256 ^^^ c.toNat : Nat) : Int) := by
  have := u8_xor_nat (x % 256) c.toNat (by omega) c.toNat_lt
  rw [← this]; rfl
/-- The complement of a number of 32 bits. -/
theorem wpList_not_u32 {P : Program} (w : World) {ops : Array Oper} {rest : List Oper} {o : Oper} {a : Act} {Q : Exit → Act → World → Prop} (hg : o.guard = none) (T : TypeId) (x : Operand) (ho : o.op = .unOp .xor T x)
    (n : Nat) (hn : n < 4294967296) (hx : a.eval x = .int .u32 (n : Int)) (h : wpList P ops Q rest (a.put o.dst (.int .u32 ((4294967295 ^^^ n : Nat) : Int))) w) : wpList P ops Q (o :: rest) a w := by
  refine wpList_plain hg fun K hK => ?_
  have e : (Op.unary .xor (.int .u32 (n : Int))).run P w = .ok (.int .u32 ((4294967295 ^^^ n : Nat) : Int)) w := by
    have hb := u32_xor_nat 4294967295 n (by omega) hn
    rw [← hb]
    rfl
  unfold Oper.wp
  simp only [execOp, ho, hx, Sem.run_bind, e, Result.andThen_ok, Sem.run_pure]
  exact hK _ _ h
set_option maxRecDepth 100000 in
/-- crc.Sum -/
theorem crcSum_any {w : World} {p : Option Addr} {t : List Nat} {A : Option Addr} {n c : Nat} {b : List UInt8} (ht : Tab w p t) (h : Rd w A n (bys b)) (hn : n ≤ 140737488351232) :
    Calls Try.prog 57 #[.pointer p, .slice A n c] w fun e w' => e = .returned (.int .u32 ((crcSum t b : Nat) : Int)) ∧ Below w.heap.size w w' := by
  have hl : b.length = n := by have := h.1; simpa [bys_length] using this
  have HL := Lib.hid (And.intro hl ht.len)
  have HT := Lib.hid (And.intro ht h)
  clear hl ht h
  go_enter Try.func57, Try.ntmps57
  go_wp2_with fail
  refine (first_any (HT.out.1.below ((Below.refl _ _).alloc (Nat.le_refl _) _)) (by exact Rd.lit _ _ _ _ rfl _ rfl _ rfl)).mono ?_
  rintro e w1 ⟨g, T, rfl, hbk, hb1⟩
  have hb := below_base ((Below.refl _ _).alloc (Nat.le_refl _) _) hb1 (by simp)
  have HB := Lib.hid (And.intro hbk hb)
  clear hbk hb hb1
  go_wp2_with fail
  go_loop [5, 13] (fun x i => ∃ k : Nat, k ≤ n ∧ i = .int .i64 k ∧ x = .int .u32 ((crcReg t (b.take k) : Nat) : Int)) (fun x i => n - (intOf i).toNat)
  case atStart => exact ⟨0, by omega, rfl, rfl⟩
  case round =>
    obtain ⟨k, hk, rfl, rfl⟩ := hrel
    have hxl : crcReg t (b.take k) < 4294967296 := reg_lt t HL.out.2.2 _ _ (by omega)
    obtain ⟨x, hx⟩ : ∃ x, x = crcReg t (b.take k) := ⟨_, rfl⟩
    rw [← hx] at hxl ⊢
    by_cases hlt : k < n
    · have hkb : k < b.length := by rw [HL.out.1]; exact hlt
      have hsucc : crcReg t (b.take (k + 1)) = crcStep t x b[k] := by unfold crcReg; rw [fold_take_succ _ _ hkb, hx]; rfl
      obtain ⟨bb, off, rfl, hbl, hcc⟩ := HT.out.2.form (by omega)
      have hc1 := (HB.out.2.cell (p := ⟨bb, off + k, none⟩) hbl).trans (hcc k _ (bys_get b k hkb))
      have hidx := idx_lt x b[k]
      obtain ⟨j, hj⟩ : ∃ j, j = x % 256 ^^^ b[k].toNat := ⟨_, rfl⟩
      rw [← hj] at hidx
      obtain ⟨y, hy⟩ : ∃ y, t[j]? = some y := ⟨t[j]'(by rw [HL.out.2.1]; exact hidx), List.getElem?_eq_getElem _⟩
      have hc2 := HB.out.1.cell j
      rw [u32s_get hy] at hc2
      have hyl : y < 4294967296 := HL.out.2.2 y (List.mem_of_getElem? hy)
      have hbits := u8_of x b[k]
      rw [← hj] at hbits
      have HS := Lib.hid (And.intro hsucc (And.intro hx (And.intro hj hy)))
      have x0 : (0 : Int) ≤ (x : Int) := by omega
      have x1 : (x : Int) < 4294967296 := by omega
      have j0 : (0 : Int) ≤ (j : Int) := by omega
      have j1 : (j : Int) < 256 := by omega
      have b1 : (b[k].toNat : Int) < 256 := by have := b[k].toNat_lt; omega
      have kn : (k : Int) < (n : Int) := by omega
      have kd : decide (k < n) = true := by simpa using hlt
      clear hsucc hx hj hy hcc hidx hxl hyl
      go_wp2_with fail
      refine ⟨⟨k + 1, by omega, by go_num, ?_⟩, by simp [intOf]; omega⟩
      rw [HS.out.1]
      unfold crcStep
      rw [← HS.out.2.2.1, List.getD_eq_getElem?_getD, HS.out.2.2.2, Option.getD_some]
      have hyl := HL.out.2.2 y (List.mem_of_getElem? HS.out.2.2.2)
      have := u32_xor (x / 256) y (by omega) hyl
      rw [show ((x : Int) / 256) = ((x / 256 : Nat) : Int) from by omega, this]
    · obtain rfl : k = n := by omega
      have x0 : (0 : Int) ≤ (x : Int) := by omega
      have x1 : (x : Int) < 4294967296 := by omega
      have hx' : x = crcReg t b := by rw [hx, List.take_of_length_le (by rw [HL.out.1]; exact Nat.le_refl _)]
      have HX := Lib.hid (And.intro hx' hxl)
      have kd : decide (k < k) = false := by simp
      clear hx hxl hx'
      go_wp2_with (with_reducible refine wpList_not_u32 _ rfl _ (.tmp 29) rfl x HX.out.2 rfl ?_)
      go_ret
      exact ⟨ret_int (by unfold crcSum; rw [← HX.out.1]), HB.out.2⟩
end Go.Proofs.Ytpfamjgdfcnieaa
