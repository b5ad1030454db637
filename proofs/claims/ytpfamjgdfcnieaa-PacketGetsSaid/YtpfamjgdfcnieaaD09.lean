/- Sum by definition; what is sealed, and opened. -/
import Derived.Test.YtpfamjgdfcnieaaC09
namespace Go.Proofs.Ytpfamjgdfcnieaa
open Go.RowKit
set_option linter.unusedVariables false
set_option maxRecDepth 100000 in
/-- artesianref09.Sum -/
theorem refSum_any {w : World} {p : Option Addr} {t : List Nat} {A : Option Addr} {n c : Nat} {b : List UInt8} (ht : Tab w p t) (h : Rd w A n (bys b)) (hn : n ≤ 140737488351232) :
    Calls Try.prog 58 #[.pointer p, .slice A n c] w fun e w' => e = .returned (.int .u32 ((crcSum t b : Nat) : Int)) ∧ w = w' := by
  have hl : b.length = n := by have := h.1; simpa [bys_length] using this
  have HL := Lib.hid (And.intro hl ht.len)
  have HT := Lib.hid (And.intro ht h)
  clear hl ht h
  go_enter Try.func58, Try.ntmps58
  go_wp2_with fail
  go_loop [5, 6] (fun x i => ∃ k : Nat, k ≤ n ∧ i = .int .i64 k ∧ x = .int .u32 ((crcReg t (b.take k) : Nat) : Int)) (fun x i => n - (intOf i).toNat)
  case atStart => exact ⟨0, by omega, rfl, rfl⟩
  case round =>
    obtain ⟨k, hk, rfl, rfl⟩ := hrel
    have hxl : crcReg t (b.take k) < 4294967296 := reg_lt t HL.out.2.2 _ _ (by omega)
    obtain ⟨x, hx⟩ : ∃ x, x = crcReg t (b.take k) := ⟨_, rfl⟩
    rw [← hx] at hxl ⊢
    by_cases hlt : k < n
    · have hkb : k < b.length := by rw [HL.out.1]; exact hlt
      have hsucc : crcReg t (b.take (k + 1)) = crcStep t x b[k] := by unfold crcReg; rw [fold_take_succ _ _ hkb, hx]; rfl
      obtain ⟨bb, off, rfl, hbl, hcc⟩ := HT.out.2.form (by omega)
      have hc1 := hcc k _ (bys_get b k hkb)
      have hidx := idx_lt x b[k]
      obtain ⟨j, hj⟩ : ∃ j, j = x % 256 ^^^ b[k].toNat := ⟨_, rfl⟩
      rw [← hj] at hidx
      obtain ⟨y, hy⟩ : ∃ y, t[j]? = some y := ⟨t[j]'(by rw [HL.out.2.1]; exact hidx), List.getElem?_eq_getElem _⟩
      have hyl : y < 4294967296 := HL.out.2.2 y (List.mem_of_getElem? hy)
      have hbits := u8_of x b[k]
      rw [← hj] at hbits
      have hfin := u32_xor (x / 256) y (by omega) hyl
      have HS := Lib.hid (And.intro hsucc (And.intro hx (And.intro hj (And.intro hy hfin))))
      have HT' := Lib.hid HT.out.1
      have x0 : (0 : Int) ≤ (x : Int) := by omega
      have x1 : (x : Int) < 4294967296 := by omega
      have j0 : (0 : Int) ≤ (j : Int) := by omega
      have j1 : (j : Int) < 256 := by omega
      have b1 : (b[k].toNat : Int) < 256 := by have := b[k].toNat_lt; omega
      have kn : (k : Int) < (n : Int) := by omega
      have kd : decide (k < n) = true := by simpa using hlt
      have HI := Lib.hid hidx
      clear hsucc hx hj hy hcc hidx hxl hyl hfin
      have fin : ∀ z : Int, z = bits .xor .u32 ((x : Int) / 256) (y : Int) → Value.int .u32 z = .int .u32 ((crcReg t (b.take (k + 1)) : Nat) : Int) := by
        intro z hz
        rw [hz, show ((x : Int) / 256) = ((x / 256 : Nat) : Int) from by omega, HS.out.2.2.2.2, HS.out.1]
        unfold crcStep
        rw [← HS.out.2.2.1, List.getD_eq_getElem?_getD, HS.out.2.2.2.1, Option.getD_some]
      have FIN := Lib.hid fin
      clear fin
      rcases HT'.out with ⟨rfl, ht⟩ | ⟨g, T, rfl, hb, _⟩
      · have hyj : y = shN 8 j := by
          have := HS.out.2.2.2.1
          rw [ht, tableL_get j HI.out] at this
          exact (Option.some.inj this).symm
        have HY := Lib.hid hyj
        clear hyj ht
        go_wp2_with (go_at_call 64; refine (shifted_any j (by omega) 8 (by omega)).mono ?_; rintro e w' ⟨rfl, rfl⟩)
        exact ⟨⟨k + 1, by omega, by go_num, FIN.out _ (by rw [HY.out])⟩, by simp [intOf]; omega⟩
      · have hc2 := hb.cell j
        rw [u32s_get HS.out.2.2.2.1] at hc2
        have HB := Lib.hid hb
        clear hb
        go_wp2_with (go_at_call 64; refine (shifted_any j (by omega) 8 (by omega)).mono ?_; rintro e w' ⟨rfl, rfl⟩)
        exact ⟨⟨k + 1, by omega, by go_num, FIN.out _ rfl⟩, by simp [intOf]; omega⟩
    · obtain rfl : k = n := by omega
      have x0 : (0 : Int) ≤ (x : Int) := by omega
      have x1 : (x : Int) < 4294967296 := by omega
      have hx' : x = crcReg t b := by rw [hx, List.take_of_length_le (by rw [HL.out.1]; exact Nat.le_refl _)]
      have HX := Lib.hid (And.intro hx' hxl)
      have kd : decide (k < k) = false := by simp
      clear hx hxl hx'
      go_wp2_with (with_reducible refine wpList_not_u32 _ rfl _ (.tmp 36) rfl x HX.out.2 rfl ?_)
      go_ret
      exact ⟨ret_int (by unfold crcSum; rw [← HX.out.1]), rfl⟩
/-- slices.Clip -/
theorem clip_any {w : World} {A : Option Addr} {n c : Nat} (hc : n ≤ c) :
    Calls Try.prog 47 #[.slice A n c] w fun e w' => e = .returned (.slice A n n) ∧ w = w' := by
  have h1 : (n : Int) ≤ (c : Int) := by omega
  have h0 : (0 : Int) ≤ (n : Int) := by omega
  go_enter Try.func47, Try.ntmps47
  go_wp2_with fail
  go_ret
  exact ⟨rfl, rfl⟩
theorem le4_length (s : Nat) : (le4 s).length = 4 := rfl
theorem seal_length (t : List Nat) (b : List UInt8) : (crcSeal t b).length = b.length + 4 := by simp [crcSeal, le4]
theorem crcSum_lt {t : List Nat} (ht : ∀ n ∈ t, n < 4294967296) (b : List UInt8) : crcSum t b < 4294967296 := by
  unfold crcSum crcReg
  exact xor_lt (k := 32) (by omega) (reg_lt t ht b _ (by omega))
def SealPost (w : World) (s : List UInt8) (n : Nat) (e : Ending) (w' : World) : Prop :=
  ∃ A c g, e = .returned (.slice A n c) ∧ n ≤ c ∧ Mut w' A n g 0 (bys s) ∧ w.heap.size ≤ g ∧ Below w.heap.size w w'
theorem seal_step {w wr w3 : World} {v v' : Value} {b : List UInt8} {s n k : Nat} {z : Int} {o : Obj} {T : TypeId}
    (hz : z = ((((le4 s).getD k 0).toNat : Nat) : Int)) (hk : k < 4)
    (ho : wr.ownsRow w.heap.size T 1 v (n + k) (bys (b ++ (le4 s).take k))) (hb : Below w.heap.size w wr)
    (ho3 : w3.ownsRow w.heap.size T 1 v' (n + k + 1) (bys (b ++ (le4 s).take k) ++ [.int .u8 z])) (hg : (wr.alloc o).grownBy w3 v.ownBlock) :
    w3.ownsRow w.heap.size T 1 v' (n + (k + 1)) (bys (b ++ (le4 s).take (k + 1))) ∧ Below w.heap.size w w3 := by
  refine ⟨?_, (hb.alloc hb.size _).grown hg (by simp; have := hb.size; omega) (fun j hj => (ho.lt j hj).1)⟩
  have e : bys (b ++ (le4 s).take k) ++ [Value.int .u8 z] = bys (b ++ (le4 s).take (k + 1)) := by
    rw [List.take_succ_eq_append_getElem (by rw [le4_length]; exact hk), ← List.append_assoc, bys_append (b ++ _)]
    congr 1
    rw [hz, List.getD_eq_getElem?_getD, List.getElem?_eq_getElem (by rw [le4_length]; exact hk), Option.getD_some]
    rfl
  rw [← e]
  exact ho3
theorem u8_nat (m : Nat) : (UInt8.ofNat m).toNat = m % 256 := by simp
set_option maxRecDepth 100000 in
/-- crc.Seal -/
theorem crcSeal_any {w : World} {p : Option Addr} {t : List Nat} {A : Option Addr} {n c : Nat} {b : List UInt8} (ht : Tab w p t) (h : Rd w A n (bys b)) (hn : n ≤ 35184372088832) :
    Calls Try.prog 33 #[.pointer p, .slice A n c] w (SealPost w (crcSeal t b) (n + 4)) := by
  have HL := Lib.hid ht.len
  have HT := Lib.hid (And.intro ht h)
  clear ht h
  obtain ⟨i0, hi0, hz0, hz1, hz2⟩ := info_parts u8_info
  go_enter Try.func33, Try.ntmps33
  go_wp2_with fail
  refine (clone_any HT.out.2 (by omega)).mono ?_
  rintro e w1 ⟨v1, rfl, ho1, hb1⟩
  have H1 := Lib.hid (And.intro ho1 hb1)
  clear ho1 hb1
  go_wp2_with fail
  refine (crcSum_any (HT.out.1.below H1.out.2) (HT.out.2.below H1.out.2) (by omega)).mono ?_
  rintro e w2 ⟨rfl, hb2⟩
  have hs1 := H1.out.2.size
  have H2 := Lib.hid (And.intro (own_below H1.out.1 hb2) (below_base H1.out.2 hb2 hs1))
  have hs2 := hb2.size
  clear hb2
  have hsl := crcSum_lt HL.out.2 b
  obtain ⟨s, hs⟩ : ∃ s, s = crcSum t b := ⟨_, rfl⟩
  rw [← hs] at hsl ⊢
  have HS := Lib.hid (And.intro hs hsl)
  have s0 : (0 : Int) ≤ (s : Int) := by omega
  have s1 : (s : Int) < 4294967296 := by omega
  clear hs hsl
  go_wp2_with fail
  go_loopw [5, 13] (fun v i wr => ∃ k : Nat, k ≤ 4 ∧ i = .int .i64 k ∧ Hid (wr.ownsRow w.heap.size 5 1 v (n + k) (bys (b ++ (le4 s).take k)) ∧ Below w.heap.size w wr)) (fun v i wr => 4 - (intOf i).toNat)
  case atStart => exact ⟨0, by omega, rfl, by rw [List.take_zero, List.append_nil]; exact H2⟩
  case round =>
    obtain ⟨k, hk, rfl, HB⟩ := hrel
    by_cases hlt : k < 4
    · have k4 : k = 0 ∨ k = 1 ∨ k = 2 ∨ k = 3 := by omega
      have hsz := HB.out.2.size
      clear hlt
      rcases k4 with rfl | rfl | rfl | rfl
      all_goals go_wp2_with (at_builtin; refine wpList_append_rd _ rfl (.tmp 16) (.tmp 22) _ rfl w.heap.size 5 i0 _ 1 1 Try.underlying22 hi0 hz0 hz1 hz2 rfl (by omega) u5 _ _ rfl (HB.out.1.alloc _) _ 1 1 _ rfl (Rd.one _ _ _) (by intro u hu; simp at hu; subst hu; rfl) (by simp only [maxLen]; omega) (by omega) (by simp; omega) ?_; intro v1' w3 hown3 hg3 hat3)
      · refine ⟨⟨0 + 1, by omega, by go_num, Lib.hid (seal_step (by unfold le4; rw [List.getD_cons_zero, u8_nat]; omega) (by omega) HB.out.1 HB.out.2 hown3 hg3)⟩, by simp [intOf]⟩
      · refine ⟨⟨1 + 1, by omega, by go_num, Lib.hid (seal_step (by unfold le4; rw [List.getD_cons_succ, List.getD_cons_zero, u8_nat]; omega) (by omega) HB.out.1 HB.out.2 hown3 hg3)⟩, by simp [intOf]⟩
      · refine ⟨⟨2 + 1, by omega, by go_num, Lib.hid (seal_step (by unfold le4; rw [List.getD_cons_succ, List.getD_cons_succ, List.getD_cons_zero, u8_nat]; omega) (by omega) HB.out.1 HB.out.2 hown3 hg3)⟩, by simp [intOf]⟩
      · refine ⟨⟨3 + 1, by omega, by go_num, Lib.hid (seal_step (by unfold le4; rw [List.getD_cons_succ, List.getD_cons_succ, List.getD_cons_succ, List.getD_cons_zero, u8_nat]; omega) (by omega) HB.out.1 HB.out.2 hown3 hg3)⟩, by simp [intOf]⟩
    · obtain rfl : k = 4 := by omega
      obtain ⟨A', c', e', hnc, hcm, hl, _⟩ := own_form HB.out.1
      subst e'
      have hnc' := hnc
      clear hl hcm hlt
      go_wp2_with fail
      refine (clip_any hnc').mono ?_
      rintro e w' ⟨rfl, rfl⟩
      go_wp2_with fail
      go_ret
      obtain ⟨g, hm, hg, _⟩ := Mut.of_own HB.out.1
      refine ⟨A', n + 4, g, rfl, Nat.le_refl _, ?_, hg, HB.out.2⟩
      rw [show crcSeal t b = b ++ (le4 s).take 4 from by unfold crcSeal; rw [← HS.out.1]; rfl]
      exact hm
end Go.Proofs.Ytpfamjgdfcnieaa
