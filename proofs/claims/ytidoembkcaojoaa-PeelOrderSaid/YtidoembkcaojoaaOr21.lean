/- Chapter 21: PeelOrder, plain: orders; two decoders of the same packets; adds of what is there. -/
import Derived.Test.YtidoembkcaojoaaPr21
namespace Go.Proofs.Ytidoembkcaojoaa
open Go.RowKit
set_option linter.unusedVariables false
def swI (l : List Int) (i j : Nat) : List Int := (l.set i (gi l j)).set j (gi l i)
theorem swI_perm {l : List Int} {i j : Nat} (hi : i < l.length) (hj : j < l.length) : (swI l i j).Perm l := by
  unfold swI; rw [gi_get hi, gi_get hj]; exact List.set_set_perm hi hj
theorem idsTo_len (M : Nat) : (idsTo M).length = M := by simp [idsTo]
theorem mem_idsTo {M : Nat} {x : Int} : x ∈ idsTo M ↔ 0 ≤ x ∧ x < M := by
  unfold idsTo
  simp only [List.mem_map, List.mem_range]
  constructor
  · rintro ⟨i, h, rfl⟩
    have e : ((fun i : Nat => (i : Int)) i) = (i : Int) := rfl
    omega
  · rintro ⟨h1, h2⟩
    exact ⟨x.toNat, by omega, by show ((x.toNat : Nat) : Int) = x; omega⟩
theorem idsTo_nodup : ∀ M, (idsTo M).Nodup
  | 0 => List.Pairwise.nil
  | M + 1 => by
    rw [idsTo_succ]
    refine List.nodup_append.2 ⟨idsTo_nodup M, by simp, fun a ha b hb e => ?_⟩
    rw [List.mem_singleton.1 hb] at e
    exact not_idsTo M (e ▸ ha)
/-- An order of M numbers. -/
def Od (M : Nat) (os : List Int) : Prop := os.Perm (idsTo M)
theorem Od.len {M : Nat} {os : List Int} (h : Od M os) : os.length = M := by rw [List.Perm.length_eq h, idsTo_len]
theorem Od.swap {M : Nat} {os : List Int} (h : Od M os) {i j : Nat} (hi : i < M) (hj : j < M) : Od M (swI os i j) := (swI_perm (by rw [h.len]; exact hi) (by rw [h.len]; exact hj)).trans h
theorem Od.rng {M : Nat} {os : List Int} (h : Od M os) {j : Nat} (hj : j < M) : ∃ n : Nat, gi os j = n ∧ n < M := by
  have h1 : gi os j ∈ os := gi_mem (by rw [h.len]; exact hj)
  have := mem_idsTo.1 ((List.Perm.mem_iff h).1 h1)
  exact ⟨(gi os j).toNat, by omega, by omega⟩
theorem Od.fresh {M : Nat} {os : List Int} (h : Od M os) {j : Nat} (hj : j < M) : ¬ gi os j ∈ os.take j := by
  have hjl : j < os.length := by rw [h.len]; exact hj
  have hn : os.Nodup := (List.Perm.nodup_iff h).2 (idsTo_nodup M)
  rw [gi_get hjl]
  intro hm
  have hn' : (os.take (j + 1)).Nodup := hn.sublist (List.take_sublist _ _)
  rw [List.take_succ_eq_append_getElem hjl] at hn'
  exact (List.nodup_append.1 hn').2.2 _ hm _ (List.mem_singleton.2 rfl) rfl
def ordS (sets : List (List Int)) (os : List Int) : List (List Int) := os.map fun n => sets.getD n.toNat []
theorem Od.sets {M : Nat} {os : List Int} (h : Od M os) {sets : List (List Int)} (hM : sets.length = M) (s : List Int) : s ∈ ordS sets os ↔ s ∈ sets := by
  unfold ordS
  rw [List.mem_map]
  constructor
  · rintro ⟨n, hn, rfl⟩
    have := mem_idsTo.1 ((List.Perm.mem_iff h).1 hn)
    exact getD_mem (by omega)
  · intro hs
    obtain ⟨i, hi, rfl⟩ := List.mem_iff_getElem.1 hs
    refine ⟨(i : Int), (List.Perm.mem_iff h).2 (mem_idsTo.2 (by omega)), ?_⟩
    show sets.getD (i : Int).toNat [] = sets[i]
    rw [Int.toNat_natCast, List.getD_eq_getElem?_getD, List.getElem?_eq_getElem hi]; rfl
theorem StK.mem {k : Nat} {C : List Bool} {a b : List (List Int)} (h : StK k C a) (hm : ∀ s, s ∈ b → s ∈ a) : StK k C b := ⟨h.1, fun s hs => h.2 s (hm s hs)⟩
/-- Of the same packets the same becomes known. -/
theorem same_kn {k : Nat} {blk : List (List UInt8)} {dx dy : DS} (hx : TI k blk dx) (hy : TI k blk dy) (hm : ∀ s, s ∈ dy.sets ↔ s ∈ dx.sets) : dy.kn = dx.kn :=
  closure_eq hx.ok hx.st hx.ls (by rw [hx.kk, ← hy.kk]; exact (hy.st.stk hy.ok).mem fun s h => (hm s).2 h) fun C' hC => hy.ls C' (by rw [hy.kk, ← hx.kk]; exact hC.mem fun s h => (hm s).1 h)
theorem TI.syR {k : Nat} {blk : List (List UInt8)} {d : DS} (h : TI k blk d) (i : Int) : syR d i = if 0 ≤ i ∧ i < k then (if knw d.kn i then (xv blk i, 0) else ([], 10)) else ([], 3) := by
  unfold Proofs.Ytidoembkcaojoaa.syR
  rw [h.kk]
  split
  · rename_i hi
    split
    · rename_i hk
      rw [h.so.2 i hi.1 (by rw [h.kk]; exact hi.2) hk]
    · rfl
  · rfl
theorem same_sy {k : Nat} {blk : List (List UInt8)} {dx dy : DS} (hx : TI k blk dx) (hy : TI k blk dy) (hm : dy.kn = dx.kn) (i : Int) : syR dy i = syR dx i := by rw [hx.syR, hy.syR, hm]
/-- The state at the head of a round. -/
structure RO (w0 wr : World) (Dx Dy k : Nat) (blk : List (List UInt8)) (sets : List (List Int)) (os : List Int) (j : Nat) (dx dy : DS) : Prop where
  l2 : L2 w0 wr Dx dx Dy dy fun _ => False
  tx : TI k blk dx
  ty : TI k blk dy
  sx : dx.sets = sets.take j
  ix : dx.ids = idsTo j
  sy : dy.sets = ordS sets (os.take j)
  iy : dy.ids = os.take j
theorem ordS_succ {sets : List (List Int)} {os : List Int} {j n : Nat} {S : List Int} (hj : j < os.length) (hn : gi os j = (n : Int)) (hS : sets.getD n [] = S) : ordS sets (os.take j) ++ [S] = ordS sets (os.take (j + 1)) := by
  rw [List.take_succ_eq_append_getElem hj, ← gi_get hj, hn]
  unfold ordS
  rw [List.map_append]
  show _ ++ [S] = _ ++ [sets.getD (n : Int).toNat []]
  rw [Int.toNat_natCast, hS]
theorem take_gi {os : List Int} {j n : Nat} (hj : j < os.length) (hn : gi os j = (n : Int)) : os.take j ++ [(n : Int)] = os.take (j + 1) := by
  rw [List.take_succ_eq_append_getElem hj, ← gi_get hj, hn]
theorem TI.again {k : Nat} {blk : List (List UInt8)} {d : DS} (h : TI k blk d) (hb : BlkOk k blk) {id : Int} {set : List Int} (hi : 0 ≤ id ∧ id ≤ 4294967295) (hs : Sset k set) (hf : id ∈ d.ids) : d.err id set (sumB blk set) = 11 := by
  unfold DS.err
  rw [if_neg (by omega), if_neg, if_pos hf]
  rw [h.kk, h.ss]
  have h1 : setB k set = true := hs
  have h2 : (sumB blk set).length = 2 := sumZ_len hb _ _ rfl fun x hx => hs.inr x hx
  rw [h1, h2]; simp
set_option maxRecDepth 100000 in
set_option maxHeartbeats 1600000 in
/-- A packet that is there is not added. -/
theorem l2_again {w0 wr w4 : World} {Dx Dy k : Nat} {blk : List (List UInt8)} {dx dy : DS} (h : L2 w0 wr Dx dx Dy dy fun _ => False) (ti : TI k blk dy) (hb : BlkOk k blk) {S : List Int} (hS : Sset k S) {id : Nat} (hid : (id : Int) ∈ dy.ids) (h25 : dy.sets.length ≤ 25) (hi25 : id ≤ 25) (hb4 : Below wr.heap.size wr w4) {B V : Option Addr} {c cv L : Nat} (hL : S.length = L) (hr : Rd w0 B L (nums S)) (ho : w4.ownsRow wr.heap.size 5 1 (.slice V 2 cv) 2 (bys (sumB blk S))) (hk12 : k ≤ 12) :
    Calls Try.prog 25 #[.pointer (some ⟨Dy, 0, none⟩), .int .i64 (id : Nat), .slice B L c, .slice V 2 cv, .int .i64 11, .slice none 0 0] w4 fun e w' => e = .returned (.bool true) ∧ L2 w0 w' Dx dx Dy dy fun _ => False := by
  have he := ti.again hb (id := (id : Int)) (by omega) hS hid
  have hlen := hS.len
  have hb0 := h.lp.1
  have hadd := l2_add (cA := c) (cB := cv) h.symm hb4 (by omega) (hr.below (below_base hb0 hb4 hb0.size)) (by omega) (Rd.of_own ho) (by decide) (wf_small (j := id) (by omega)) (fun h0 a ha => .inl (hr.lt h0 a ha)) (fun h0 a ha => .inr (.inl (own_lt ho a ha).1))
  rw [dadd_bad (by rw [he]; decide), he] at hadd
  have H := Lib.hid hadd
  clear hadd h ti hb hS hid hb4 hr ho he hb0
  go_enter Try.func25, Try.ntmps25
  go_wp2_with fail
  refine H.out.mono ?_
  rintro e w2 ⟨v, rfl, p1, p2, p3, p4⟩
  obtain ⟨V2, c2, rfl⟩ := own_sl p2
  have hq := sameInts_any (ys := []) (c := c2) (c' := 0) (Rd.of_own p2) (Rd.nil w2 none) (by decide)
  rw [show (([] : List Int) == []) = true from rfl] at hq
  have HQ := Lib.hid hq
  have HP := Lib.hid (p1.symm.held (Hd' := fun _ => False) fun b e => e.elim)
  clear p1 p2 p3 p4 hq
  go_wp2_with fail
  refine HQ.out.mono ?_
  rintro e w3 ⟨rfl, hb3⟩
  have HB := Lib.hid hb3
  clear hb3
  go_wp2_with fail
  go_ret
  exact ⟨rfl, HP.out.below HB.out⟩
end Go.Proofs.Ytidoembkcaojoaa
