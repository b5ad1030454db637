/- xors: Into, Pad; the document's Xor (as in chapter 8). -/
import Derived.Test.YtchdjbbhhjjmkaaKit
import Derived.Test.YtchdjbbhhjjmkaaP08
namespace Go.Proofs.Ytchdjbbhhjjmkaa
open Go.RowKit
set_option linter.unusedVariables false
set_option linter.unusedVariables false
theorem run_array_at {P : Program} {arr e : TypeId} {n : Nat} (ha : P.underlying arr = some (.array n e)) (a : Addr) (len cap : Nat) (hl : n ≤ len) (w : World) : (Instr.arrayAt arr (.slice (some a) len cap)).run P w = .ok (.pointer (some a)) w := by
  simp [Instr.arrayAt, run_underlying ha]
  omega
/-- What stands in both arrays behind 'x, y := [8]byte(a[:8]), [8]byte(b[:8])'. -/
theorem bys8 (l : List UInt8) (h : l.length = 8) : bys l = [.int .u8 l[0].toNat, .int .u8 l[1].toNat, .int .u8 l[2].toNat, .int .u8 l[3].toNat, .int .u8 l[4].toNat, .int .u8 l[5].toNat, .int .u8 l[6].toNat, .int .u8 l[7].toNat] := by
  match l, h with
  | [a, b, c, d, e, f, g, i], _ => rfl
theorem cells8 {w : World} {b o : Nat} {l : List UInt8} (h8 : l.length = 8) (hc : ∀ (j : Nat) u, (bys l)[j]? = some u → w.cell? ⟨b, o + j, none⟩ = some u) :
    w.cell? ⟨b, o, none⟩ = some (.int .u8 l[0].toNat) ∧ w.cell? ⟨b, o + 1, none⟩ = some (.int .u8 l[1].toNat) ∧ w.cell? ⟨b, o + 2, none⟩ = some (.int .u8 l[2].toNat) ∧ w.cell? ⟨b, o + 3, none⟩ = some (.int .u8 l[3].toNat) ∧
    w.cell? ⟨b, o + 4, none⟩ = some (.int .u8 l[4].toNat) ∧ w.cell? ⟨b, o + 5, none⟩ = some (.int .u8 l[5].toNat) ∧ w.cell? ⟨b, o + 6, none⟩ = some (.int .u8 l[6].toNat) ∧ w.cell? ⟨b, o + 7, none⟩ = some (.int .u8 l[7].toNat) := by
  rw [bys8 l h8] at hc
  exact ⟨hc 0 _ rfl, hc 1 _ rfl, hc 2 _ rfl, hc 3 _ rfl, hc 4 _ rfl, hc 5 _ rfl, hc 6 _ rfl, hc 7 _ rfl⟩
/-- The first array behind k rounds of the inner loop. -/
def mixed (X Y : List UInt8) (k : Nat) : List UInt8 := xorL (X.take k) (Y.take k) ++ X.drop k
theorem mixed_zero (X Y : List UInt8) : mixed X Y 0 = X := by simp [mixed, xorL_nil]
theorem mixed_all {X Y : List UInt8} {k : Nat} (h : X.length = k) (h' : Y.length = k) : mixed X Y k = xorL X Y := by
  subst h; simp [mixed, h', List.take_of_length_le]
theorem mixed_get {X Y : List UInt8} {k : Nat} (h : k < X.length) (h' : X.length = Y.length) : (mixed X Y k)[k]? = some X[k] := by
  have e : (xorL (X.take k) (Y.take k)).length = k := by simp [xorL]; omega
  unfold mixed
  rw [List.getElem?_append_right (by omega), e, Nat.sub_self, List.getElem?_drop, Nat.add_zero, List.getElem?_eq_getElem h]
theorem mixed_succ {X Y : List UInt8} {k : Nat} (h : k < X.length) (h' : X.length = Y.length) : (mixed X Y k).set k (X[k] ^^^ Y[k]) = mixed X Y (k + 1) := by
  have e : (xorL (X.take k) (Y.take k)).length = k := by simp [xorL]; omega
  unfold mixed
  rw [List.set_append_right _ _ (by omega), e, xorL_take_succ h (by omega), List.append_assoc]
  congr 1
  rw [Nat.sub_self, List.drop_eq_getElem_cons h]
  rfl
theorem mixed_length {X Y : List UInt8} {k : Nat} (h' : X.length = Y.length) (hk : k ≤ X.length) : (mixed X Y k).length = X.length := by simp [mixed, xorL]; omega
theorem bys_set (l : List UInt8) (k : Nat) (x : UInt8) : (bys l).set k (.int .u8 (x.toNat : Int)) = bys (l.set k x) := by simp [bys, List.map_set]
theorem bys_at {l : List UInt8} {k : Nat} {x : UInt8} (h : l[k]? = some x) : (bys l)[k]? = some (.int .u8 (x.toNat : Int)) := by simp [bys, h]
theorem xor_u8 (x y : UInt8) : bits .xor .u8 (x.toNat : Int) (y.toNat : Int) = ((x ^^^ y).toNat : Int) := by
  rw [u8_xor_nat _ _ x.toNat_lt y.toNat_lt, UInt8.toNat_xor]
/-- What 's[k:]' is: its address hangs on whether anything is left of the capacity. -/
theorem run_cut {P : Program} {t e : TypeId} {i : TypeInfo} (ht : P.underlying t = some (.slice e)) (hi : P.info? e = some i) (h1 : i.size = 1) (A : Option Addr) (n c k : Nat) (ki : Int) (hki : ki = k) (kk : IntKind) (hk : k ≤ n) (hc : n ≤ c) :
    ∃ A', (∀ w, (Instr.slice t (.slice A n c) (some (.int kk ki)) none none).run P w = .ok (.slice A' (n - k) (c - k)) w) ∧ (k < n → A' = A.map (fun a => a.add k)) := by
  refine ⟨if c = k then A else A.map (·.add (k * 1)), fun w => ?_, fun h => by rw [if_neg (by omega), Nat.mul_one]⟩
  subst hki
  have b2 : (0 : Int) ≤ (k : Int) ∧ (k : Int) ≤ (n : Int) := by omega
  have hb : (Instr.sliceBound (.int kk (k : Int)) n .sliceB).run P w = .ok k w := by
    rw [run_sliceBound _ kk k n .sliceB b2.1 b2.2]; simp
  simp [Instr.slice, Instr.sliceBounds, run_underlying ht, sizeOf, typeInfo, hi, h1, hb]
theorem map_add {g off k : Nat} : (some (⟨g, off, none⟩ : Addr)).map (fun a => a.add k) = (some (⟨g, off, none⟩ : Addr)).map (fun a => ⟨a.block, a.off + k, none⟩) := by
  simp [Addr.add]
/-- xors.sized -/
theorem sized_any {w : World} (n : Int) :
    Calls Try.prog 68 #[.int .i64 n] w fun e w' => e = .returned (.bool (decide (0 ≤ n ∧ n ≤ 65535))) ∧ w = w' := by
  by_cases h : 0 ≤ n
  · go_enter Try.func68, Try.ntmps68
    go_wp2
    go_ret
    exact ⟨ret_bool (by simp [h]), rfl⟩
  · have hd : decide (0 ≤ n) = false := by simpa using h
    go_enter Try.func68, Try.ntmps68
    go_wp2
    go_ret
    exact ⟨ret_bool (by simp), rfl⟩
/-- What is told: bytes in new memory, or none, and an error's number. -/
def Told (w : World) (V : List UInt8) (E : Int) (e : Ending) (w' : World) : Prop :=
  ∃ v, e = .returned (.tuple #[v, .int .i64 E]) ∧ w'.ownsRow w.heap.size 5 1 v V.length (bys V) ∧ Below w.heap.size w w'
theorem zeros_bys (N : Nat) : (madeCells (Value.int .u8 0).cells (N * 1)).toList = bys (List.replicate N 0) := by
  rw [Nat.mul_one]; show (madeCells #[.int .u8 0] N).toList = _
  rw [toList_madeCells_one]; simp [bys]
/-- bytes cut, or with noughts behind them -/
def evenL (b : List UInt8) (n : Nat) : List UInt8 := b.take n ++ List.replicate (n - b.length) 0
theorem evenL_length (b : List UInt8) (n : Nat) : (evenL b n).length = n := by simp [evenL]; omega
theorem spl_even (b : List UInt8) (n : Nat) : spl (bys (List.replicate n 0)) 0 ((bys b).take n) = bys (evenL b n) := by
  simp [spl, evenL, bys_take, bys_drop, bys_append]
  congr 2
  rw [bys_length]; simp; omega
/-- make, then copy: 'even' of the statements, and Pad. -/
theorem made_copied {w w1 w2 : World} {n g : Nat} {b : List UInt8} (hown : w1.ownsRow w.heap.size 5 1 (.slice (some ⟨w.heap.size, 0, none⟩) n n) n (bys (List.replicate n 0))) (hb : Below w.heap.size w w1)
    (hu : Upd w1 w2 w.heap.size 0 ((bys b).take n)) : w2.ownsRow w.heap.size 5 1 (.slice (some ⟨w.heap.size, 0, none⟩) n n) n (bys (evenL b n)) ∧ Below w.heap.size w w2 := by
  refine ⟨?_, hu.below hb hb.size (Nat.le_refl _)⟩
  rcases hown.2 with ⟨h, _⟩ | ⟨g, cap, cur, hv, hg, hh, hnc, hcm, hcs, ht⟩
  · cases h
  · injection hv with hA _ hcap
    cases hA
    subst hcap
    have hb : Bk w1 w.heap.size 5 cur.toList := hh
    have hcur : cur.toList = bys (List.replicate n 0) := by
      rw [← ht]; exact (List.take_of_length_le (by simp; omega)).symm
    rw [hcur] at hb
    have h2 := hu.2 _ _ hb (by simp [bys]; omega)
    rw [spl_even] at h2
    exact ⟨by simp [bys, evenL_length], .inr ⟨_, n, _, rfl, Nat.le_refl _, h2, Nat.le_refl _, hcm, by simp [bys, evenL_length], by simp [bys, evenL_length, List.take_of_length_le]⟩⟩
theorem mut_made {w w1 : World} {n : Nat} {xs : List Value} (hown : w1.ownsRow w.heap.size 5 1 (.slice (some ⟨w.heap.size, 0, none⟩) n n) n xs) : Mut w1 (some ⟨w.heap.size, 0, none⟩) n w.heap.size 0 xs := by
  obtain ⟨A', c', e', _, _, hl, hf⟩ := own_form hown
  injection e' with e1 _ e3
  subst e1; subst e3
  refine ⟨hl, fun h0 => ?_⟩
  obtain ⟨g, cur, hA, hg, hlt, hb, hcl, ht⟩ := hf h0
  cases hA
  exact ⟨rfl, _, cur, hb, by omega, by simpa using ht⟩
theorem pad_any {w : World} {A : Option Addr} {m c : Nat} {l : List UInt8} (h : Rd w A m (bys l)) (hm : m ≤ 140737488351232) (n : Int) :
    Calls Try.prog 64 #[.slice A m c, .int .i64 n] w (Told w (padV l n) (padE l n)) := by
  have hl : l.length = m := by have := h.1; simpa [bys_length] using this
  have HL := Lib.hid hl
  clear hl
  by_cases hs : 0 ≤ n ∧ n ≤ 65535
  · obtain ⟨N, rfl⟩ := Int.eq_ofNat_of_zero_le hs.1
    have hN : N ≤ 65535 := by omega
    have hd : decide (0 ≤ (N : Int) ∧ (N : Int) ≤ 65535) = true := by simpa using hs
    obtain ⟨i0, hi0, hz0, hz1, hz2⟩ := info_parts u8_info
    have HH := Lib.hid h
    clear h
    by_cases hlt : N < m
    · go_enter Try.func64, Try.ntmps64
      go_wp2_with (go_at_call 68; refine (sized_any _).mono ?_; rw [hd]; rintro e w' ⟨rfl, rfl⟩)
      go_ret2
      refine ⟨_, ret_told (show (4 : Int) = padE l N from by unfold padE; rw [if_pos hs, if_neg (by have := HL.out; omega)]), ?_, Below.refl _ _⟩
      rw [show padV l N = [] from by unfold padV; rw [if_pos hs, if_neg (by have := HL.out; omega)]]
      exact World.ownsRow_nil _ _ _ _
    · go_enter Try.func64, Try.ntmps64
      go_wp2_with (first
        | (go_at_call 68; refine (sized_any _).mono ?_; rw [hd]; rintro e w' ⟨rfl, rfl⟩)
        | (at_make; refine wpList_make_full _ rfl _ _ 32 rfl w.heap.size 5 i0 (.int .u8 0) 1 Try.underlying32 hi0 hz0 hz1 .i64 .i64 _ _ N rfl rfl rfl rfl (by rw [hz2]; omega) (by simp only [maxLen]; omega) (Nat.le_refl _) ?_; intro w1 hown hg; rw [zeros_bys] at hown; have HB := Lib.hid (And.intro hown (below_of_grownN hg)); clear hown hg)
        | (with_reducible refine wpList_copy_upd rfl (.tmp 18) (.tmp 19) _ _ rfl 5 Try.underlying32 u8_size (some ⟨w.heap.size, 0, none⟩) A N N m c rfl rfl w.heap.size 0 (bys (List.replicate N 0)) (bys l) (mut_made HB.out.1) (HH.out.below HB.out.2) (bys_one _) ?_; intro w8 hu8; have HU := Lib.hid hu8; clear hu8))
      go_ret2
      have hd := made_copied (g := 0) HB.out.1 HB.out.2 HU.out
      refine ⟨_, ret_told (show (0 : Int) = padE l N from by unfold padE; rw [if_pos hs, if_pos (by have := HL.out; omega)]), ?_, hd.2⟩
      have e : padV l N = evenL l N := by
        unfold padV evenL
        rw [if_pos hs, if_pos (by have := HL.out; omega), List.take_of_length_le (by have := HL.out; omega)]
        rfl
      rw [e, evenL_length]
      exact hd.1
  · have hd : decide (0 ≤ n ∧ n ≤ 65535) = false := by simpa using hs
    go_enter Try.func64, Try.ntmps64
    go_wp2_with (go_at_call 68; refine (sized_any _).mono ?_; rw [hd]; rintro e w' ⟨rfl, rfl⟩)
    go_ret2
    refine ⟨_, ret_told (show (3 : Int) = padE l n from by unfold padE; rw [if_neg hs]), ?_, Below.refl _ _⟩
    rw [show padV l n = [] from by unfold padV; rw [if_neg hs]]
    exact World.ownsRow_nil _ _ _ _

end Go.Proofs.Ytchdjbbhhjjmkaa
