/- Words for memory that all texts of this seat share: a block that is known whole, a slice that reads as a list, a slice that is written in place. Nothing of the program is named here. -/
import Derived.WalkKit
import Derived.ProofKit
import Derived.OpenShut
import Derived.ShutString
import Derived.ChangeOld
import Derived.Below
import Derived.WalkSpells
import Derived.Lib.Hide
import Derived.Deep.AppendLies
import Derived.Deep.Draws
import Derived.Laws.BytesArg
import Derived.Maps.AppendAt
import Derived.BigQuiet
import Derived.Deep.QuietTactic
import Derived.Deep.RegionWith
import Derived.Deep.LoopGhost
import Derived.Outline
import Derived.Laws.CopyOwn
import Derived.Deep.DeepCutAuto
import Derived.RegionTactic
import Derived.BigRegion
import Derived.Lib.SliceRun
import Derived.Laws.BitsAllLaws
import Derived.Lib.AppendZeros
import Derived.Lib.AppendZerosOnto
import Derived.StillTailTactics
import Derived.Deep.RegionLaw
import Derived.Deep.RegionHeld3
import Derived.Deep.DrawnRows
namespace Go.Proofs.YtlhipaffhehcnaaGreat
open Go.RowKit
set_option linter.unusedVariables false
/-- Block g is just these cells, of this element type, none frozen. -/
def Bk (w : World) (g : Nat) (t : TypeId) (cs : List Value) : Prop := w.heap[g]? = some (.cells cs.toArray t (0, 0))
section
variable {w w' : World} {g : Nat} {t : TypeId} {cs : List Value}
theorem Bk.lt (h : Bk w g t cs) : g < w.heap.size := by
  rcases Nat.lt_or_ge g w.heap.size with hlt | hge
  · exact hlt
  · unfold Bk at h; rw [Array.getElem?_eq_none hge] at h; cases h
theorem Bk.cell (h : Bk w g t cs) (i : Nat) : w.cell? ⟨g, i, none⟩ = cs[i]? := by
  rw [cell_of_row w g i cs.toArray t (0, 0) h]; simp
theorem Bk.frozen (h : Bk w g t cs) (i : Nat) : w.frozen? ⟨g, i, none⟩ = false := frozen_of_row w g i _ t h
theorem Bk.new (w : World) (t : TypeId) (cs : List Value) : Bk (w.alloc (.cells cs.toArray t)) w.heap.size t cs := heap_alloc_new w _
theorem Bk.newA (w : World) (t : TypeId) (cs : Array Value) : Bk (w.alloc (.cells cs t)) w.heap.size t cs.toList := heap_alloc_new w _
theorem Bk.new2 (w : World) (o : Obj) (t : TypeId) (cs : Array Value) : Bk ((w.alloc o).alloc (.cells cs t)) (w.heap.size + 1) t cs.toList := by
  have := Bk.newA (w.alloc o) t cs
  rw [World.size_alloc] at this
  exact this
theorem Bk.drew (h : Bk w g t cs) : Bk w.drew g t cs := h
theorem Bk.drewN (h : Bk w g t cs) (n : Nat) : Bk (w.drewN n) g t cs := h
theorem Bk.alloc (h : Bk w g t cs) (o : Obj) : Bk (w.alloc o) g t cs := (Below.heap_alloc w o g h.lt).trans h
theorem Bk.set_ (h : Bk w g t cs) (i : Nat) (u : Value) : Bk (w.setCell ⟨g, i, none⟩ u) g t (cs.set i u) := by
  unfold Bk at h ⊢
  simp [World.setCell, Array.getElem?_modify, h]
theorem Bk.far (h : Bk w g t cs) {p : Addr} (hp : g ≠ p.block) (u : Value) : Bk (w.setCell p u) g t cs := (Below.heap_setCell w p u g hp).trans h
theorem Bk.below {B : Nat} (h : Bk w g t cs) (hb : Below B w w') (hg : g < B) : Bk w' g t cs := (hb.block g hg).trans h
theorem Bk.belowS (h : Bk w g t cs) (hb : Below w.heap.size w w') : Bk w' g t cs := h.below hb h.lt
theorem Bk.grown {row : Option Nat} (h : Bk w g t cs) (hb : w.grownBy w' row) (hg : some g ≠ row) : Bk w' g t cs := (hb.block g h.lt hg).trans h
theorem Bk.inj {t' : TypeId} {cs' : List Value} (h : Bk w g t cs) (h' : Bk w g t' cs') : cs = cs' := by
  unfold Bk at h h'
  rw [h] at h'
  injection h' with h'
  injection h' with h1 _ _
  exact List.toArray_inj h1
end
/-- The slice A, of n places, reads as xs. -/
def Rd (w : World) (A : Option Addr) (n : Nat) (xs : List Value) : Prop :=
  xs.length = n ∧ (0 < n → ∃ b off, A = some ⟨b, off, none⟩ ∧ ∀ (j : Nat) u, xs[j]? = some u → w.cell? ⟨b, off + j, none⟩ = some u)
section
variable {w w' : World} {A : Option Addr} {n : Nat} {xs : List Value}
theorem Rd.len (h : Rd w A n xs) : xs.length = n := h.1
theorem Rd.nil (w : World) (A : Option Addr) : Rd w A 0 [] := ⟨rfl, fun h => absurd h (by omega)⟩
theorem Rd.form (h : Rd w A n xs) (hn : 0 < n) : ∃ b off, A = some ⟨b, off, none⟩ ∧ b < w.heap.size ∧ (∀ (j : Nat) u, xs[j]? = some u → w.cell? ⟨b, off + j, none⟩ = some u) := by
  obtain ⟨b, off, e, hc⟩ := h.2 hn
  refine ⟨b, off, e, ?_, hc⟩
  have hl : 0 < xs.length := by rw [h.1]; exact hn
  exact World.block_lt_of_cell? w _ (hc 0 xs[0] (List.getElem?_eq_getElem hl))
theorem Rd.lt (h : Rd w A n xs) (hn : 0 < n) : ∀ a, A = some a → a.block < w.heap.size := by
  intro a ha
  obtain ⟨b, off, e, hb, _⟩ := h.form hn
  rw [e] at ha; cases ha; exact hb
theorem Rd.keep (h : Rd w A n xs) (hk : ∀ p : Addr, A.map (·.block) = some p.block → p.block < w.heap.size → w'.cell? p = w.cell? p) : Rd w' A n xs :=
  ⟨h.1, fun hn => by
    obtain ⟨b, off, rfl, hb, hc⟩ := h.form hn
    exact ⟨b, off, rfl, fun j u hu => (hk ⟨b, off + j, none⟩ rfl hb).trans (hc j u hu)⟩⟩
theorem Rd.below (h : Rd w A n xs) (hb : Below w.heap.size w w') : Rd w' A n xs := h.keep fun _ _ hp => hb.cell hp
theorem Rd.drewN (h : Rd w A n xs) (k : Nat) : Rd (w.drewN k) A n xs := h
theorem Rd.drew (h : Rd w A n xs) : Rd w.drew A n xs := h
theorem Rd.alloc (h : Rd w A n xs) (o : Obj) : Rd (w.alloc o) A n xs := h.keep fun p _ hp => World.cell?_alloc_lt w o p hp
theorem Rd.grown (h : Rd w A n xs) {g : Nat} (hg : w.grownBy w' (some g)) (hne : 0 < n → ∀ a, A = some a → a.block ≠ g) : Rd w' A n xs := by
  rcases Nat.eq_zero_or_pos n with h0 | h0
  · subst h0; exact ⟨h.1, fun h => absurd h (by omega)⟩
  · refine h.keep fun p hp hlt => World.cell?_of_block (hg.block p.block hlt (fun e => ?_))
    obtain ⟨b, off, rfl, _⟩ := h.form h0
    exact hne h0 _ rfl (by simpa using (by simpa using hp : b = p.block).trans (by simpa using e))
theorem Rd.of_bk {g off : Nat} {t : TypeId} {cs : List Value} (h : Bk w g t cs) (hl : off + n ≤ cs.length) (hx : (cs.drop off).take n = xs) : Rd w (some ⟨g, off, none⟩) n xs := by
  subst hx
  refine ⟨by simp; omega, fun _ => ⟨g, off, rfl, fun j u hu => ?_⟩⟩
  rw [h.cell]
  rw [List.getElem?_take] at hu
  split at hu
  · rw [← hu, List.getElem?_drop]
  · cases hu
theorem Rd.of_own {base : Nat} {e : TypeId} {c : Nat} (h : w.ownsRow base e 1 (.slice A n c) n xs) : Rd w A n xs := by
  refine ⟨by simpa using h.1, fun hn => ?_⟩
  rcases h.2 with ⟨_, rfl⟩ | ⟨g, cap, cur, hv, _, hh, hnc, _, hcs, ht⟩
  · omega
  · injection hv with hA _ _
    subst hA
    refine ⟨g, 0, rfl, fun j u hu => ?_⟩
    rw [cell_of_row w g (0 + j) cur e (0, 0) hh, ← hu, ← ht, List.getElem?_take]
    have hj : j < xs.length := (List.getElem?_eq_some_iff.1 hu).1
    rw [h.1] at hj
    rw [if_pos hj]; simp
theorem Rd.cells {a : Addr} (h : Rd w (some a) n xs) : ∀ (j : Nat) u, xs[j]? = some u → w.cell? (a.add j) = some u := by
  intro j u hu
  have hj : j < xs.length := (List.getElem?_eq_some_iff.1 hu).1
  obtain ⟨b, off, e, _, hc⟩ := h.form (by have := h.1; omega)
  cases e
  rw [Addr.add_lit]
  exact hc j u hu
theorem Rd.cut_at (h : Rd w A n xs) {k : Nat} (hk : k ≤ n) {A' : Option Addr} (hA : k < n → A' = A.map (fun a => ⟨a.block, a.off + k, none⟩)) : Rd w A' (n - k) (xs.drop k) := by
  refine ⟨by rw [List.length_drop, h.1], fun hn => ?_⟩
  obtain ⟨b, off, rfl, _, hc⟩ := h.form (by omega)
  refine ⟨b, off + k, by rw [hA (by omega)]; rfl, fun j u hu => ?_⟩
  rw [Nat.add_assoc]
  exact hc (k + j) u (by rw [← hu, List.getElem?_drop])
theorem Rd.take_ (h : Rd w A n xs) {k : Nat} (hk : k ≤ n) : Rd w A k (xs.take k) := by
  refine ⟨by rw [List.length_take, h.1]; omega, fun hn => ?_⟩
  obtain ⟨b, off, rfl, _, hc⟩ := h.form (by omega)
  refine ⟨b, off, rfl, fun j u hu => hc j u ?_⟩
  rw [List.getElem?_take] at hu
  split at hu
  · exact hu
  · cases hu
end
/-- What a slice of the call's own is: of n > 0 places it has a block, from base on, at its beginning. -/
theorem own_form {w : World} {base : Nat} {e : TypeId} {v : Value} {n : Nat} {xs : List Value} (h : w.ownsRow base e 1 v n xs) :
    ∃ A c, v = .slice A n c ∧ n ≤ c ∧ c ≤ maxLen ∧ xs.length = n ∧ (0 < n → ∃ g cur, A = some ⟨g, 0, none⟩ ∧ base ≤ g ∧ g < w.heap.size ∧ Bk w g e cur ∧ cur.length = c ∧ cur.take n = xs) := by
  have hl := h.1
  rcases h.2 with ⟨rfl, rfl⟩ | ⟨g, cap, cur, rfl, hb, hh, hnc, hcm, hcs, ht⟩
  · exact ⟨none, 0, rfl, Nat.le_refl _, by simp [maxLen], by simpa using hl, fun h => absurd h (by omega)⟩
  · refine ⟨_, cap, rfl, hnc, hcm, by simpa using hl, fun _ => ⟨g, cur.toList, rfl, hb, (Array.getElem?_eq_some_iff.1 hh).1, hh, by simpa using hcs, by simpa using ht⟩⟩
theorem own_below {w w' : World} {base : Nat} {e : TypeId} {size : Nat} {v : Value} {n : Nat} {xs : List Value} (h : w.ownsRow base e size v n xs) (hb : Below w.heap.size w w') : w'.ownsRow base e size v n xs := by
  refine ⟨h.1, ?_⟩
  rcases h.2 with h2 | ⟨g, cap, cur, hv, hg, hh, r⟩
  · exact .inl h2
  · exact .inr ⟨g, cap, cur, hv, hg, (hb.block g (Array.getElem?_eq_some_iff.1 hh).1).trans hh, r⟩
theorem own_ge {w : World} {base : Nat} {e : TypeId} {size n c : Nat} {A : Option Addr} {xs : List Value} (h : w.ownsRow base e size (.slice A n c) n xs) : ∀ a, A = some a → base ≤ a.block ∧ a.block < w.heap.size := by
  intro a ha; subst ha; exact h.lt a.block rfl
theorem own_mono {w : World} {base base' : Nat} {e : TypeId} {size : Nat} {v : Value} {n : Nat} {xs : List Value} (h : w.ownsRow base e size v n xs) (hb : base' ≤ base) : w.ownsRow base' e size v n xs := by
  refine ⟨h.1, ?_⟩
  rcases h.2 with h2 | ⟨g, cap, cur, hv, hg, r⟩
  · exact .inl h2
  · exact .inr ⟨g, cap, cur, hv, by omega, r⟩
/-- A list whose places from off on are others. -/
def spl (cs : List Value) (off : Nat) (new : List Value) : List Value := cs.take off ++ new ++ cs.drop (off + new.length)
theorem spl_nil (cs : List Value) (off : Nat) : spl cs off [] = cs := by simp [spl]
theorem spl_length {cs new : List Value} {off : Nat} (h : off + new.length ≤ cs.length) : (spl cs off new).length = cs.length := by
  simp [spl]; omega
theorem spl_same {cs new : List Value} {off : Nat} (h : off + new.length ≤ cs.length) : ((spl cs off new).drop off).take new.length = new := by
  have h1 : (cs.take off).length = off := by simp; omega
  unfold spl
  rw [List.append_assoc, List.drop_append_of_le_length (by omega), List.drop_of_length_le (by omega)]
  simp
theorem spl_getElem? {cs new : List Value} {off : Nat} (h : off + new.length ≤ cs.length) (i : Nat) : (spl cs off new)[i]? = if off ≤ i ∧ i < off + new.length then new[i - off]? else cs[i]? := by
  have h1 : (cs.take off).length = off := by simp; omega
  unfold spl
  by_cases c1 : i < off
  · rw [List.append_assoc, List.getElem?_append_left (by omega), if_neg (by omega), List.getElem?_take, if_pos c1]
  · by_cases c2 : i < off + new.length
    · rw [if_pos (by omega), List.getElem?_append_left (by simp; omega), List.getElem?_append_right (by omega), h1]
    · rw [if_neg (by omega), List.getElem?_append_right (by simp; omega), List.getElem?_drop]
      congr 1
      simp; omega
theorem set_spl {cs : List Value} {off k : Nat} {new : List Value} {v : Value} (hk : k = new.length) (hl : off + k < cs.length) : (spl cs off new).set (off + k) v = spl cs off (new ++ [v]) := by
  subst hk
  apply List.ext_getElem?
  intro i
  rw [List.getElem?_set, spl_getElem? (by omega), spl_length (by omega), spl_getElem? (by simp; omega)]
  by_cases c : off + new.length = i
  · subst c
    simp [hl]
  · rw [if_neg c]
    by_cases c2 : off ≤ i ∧ i < off + new.length
    · rw [if_pos c2, if_pos (by simp; omega), List.getElem?_append_left (by omega)]
    · rw [if_neg c2, if_neg (by simp; omega)]
/-- From w to w' the cells of block g from off on have become others; new blocks may have come; nothing else has turned. -/
def Upd (w w' : World) (g off : Nat) (new : List Value) : Prop :=
  w.grownBy w' (some g) ∧ ∀ t cs, Bk w g t cs → off + new.length ≤ cs.length → Bk w' g t (spl cs off new)
theorem Upd.none_ {w w' : World} {g off : Nat} (h : Below w.heap.size w w') : Upd w w' g off [] :=
  ⟨⟨h.os, h.tape, h.output, h.size, fun k hk _ => h.block k hk⟩, fun t cs hc _ => by rw [spl_nil]; exact hc.belowS h⟩
theorem grownBy_of_below {w w' : World} {row : Option Nat} (h : Below w.heap.size w w') : w.grownBy w' row := ⟨h.os, h.tape, h.output, h.size, fun k hk _ => h.block k hk⟩
theorem below_of_grownN {w w' : World} (h : w.grownBy w' none) : Below w.heap.size w w' := ⟨h.os, h.tape, h.output, h.size, fun k hk => h.block k hk (by simp)⟩
theorem grownBy_trans {w w1 w2 : World} {row : Option Nat} (h : w.grownBy w1 row) (h' : w1.grownBy w2 row) : w.grownBy w2 row :=
  ⟨h'.os.trans h.os, h'.tape.trans h.tape, h'.output.trans h.output, Nat.le_trans h.size h'.size, fun k hk hne => (h'.block k (Nat.lt_of_lt_of_le hk h.size) hne).trans (h.block k hk hne)⟩
theorem Upd.below {w w' : World} {g off B : Nat} {new : List Value} {a : World} (h : Upd w w' g off new) (hb : Below B a w) (hB : B ≤ w.heap.size) (hg : B ≤ g) : Below B a w' :=
  hb.grown h.1 hB (fun k hk => by cases hk; exact hg)
theorem below_undrew {B : Nat} {w w' : World} (h : Below B w.drew w') : Below B w w' := ⟨h.os, h.tape, h.output, h.size, h.block⟩
theorem below_undrewN {B k : Nat} {w w' : World} (h : Below B (w.drewN k) w') : Below B w w' := ⟨h.os, h.tape, h.output, h.size, h.block⟩
theorem below_dN {B : Nat} {a w : World} (h : Below B a w) (n : Nat) : Below B a (w.drewN n) := h.trans ⟨rfl, rfl, rfl, Nat.le_refl _, fun _ _ => rfl⟩
theorem below_base {B : Nat} {a w w' : World} (h : Below B a w) (h' : Below w.heap.size w w') (hB : B ≤ w.heap.size) : Below B a w' := h.trans (h'.mono hB)
/-- Bytes as cells; whole numbers as cells. -/
def bys (l : List UInt8) : List Value := l.map fun c => .int .u8 (c.toNat : Int)
def nums (l : List Int) : List Value := l.map fun n => .int .i64 n
theorem bys_length (l : List UInt8) : (bys l).length = l.length := by simp [bys]
theorem bys_append (a b : List UInt8) : bys (a ++ b) = bys a ++ bys b := by simp [bys]
theorem bys_take (a : List UInt8) (n : Nat) : (bys a).take n = bys (a.take n) := by simp [bys, List.map_take]
theorem bys_drop (a : List UInt8) (n : Nat) : (bys a).drop n = bys (a.drop n) := by simp [bys, List.map_drop]
theorem bys_get (l : List UInt8) (j : Nat) (h : j < l.length) : (bys l)[j]? = some (.int .u8 (l[j].toNat : Int)) := by simp [bys, h]
theorem bys_one (l : List UInt8) : ∀ u ∈ bys l, u.oneCell' = true := by
  intro u hu; obtain ⟨_, _, rfl⟩ := List.mem_map.1 hu; rfl
theorem nums_length (l : List Int) : (nums l).length = l.length := by simp [nums]
theorem nums_get (l : List Int) (j : Nat) (h : j < l.length) : (nums l)[j]? = some (.int .i64 l[j]) := by simp [nums, h]
theorem nums_one (l : List Int) : ∀ u ∈ nums l, u.oneCell' = true := by
  intro u hu; obtain ⟨_, _, rfl⟩ := List.mem_map.1 hu; rfl
/-- A slice of bytes as a text. -/
theorem run_bytes_text {P : Program} {w : World} {A : Option Addr} {n c : Nat} {l : List UInt8} (h : Rd w A n (bys l)) (src e dst : TypeId) (hs : P.underlying src = some (.slice e)) (he : P.underlying e = some (.int .u8)) (hd : P.underlying dst = some .string) :
    (convert src dst (.slice A n c)).run P w = .ok (.string ⟨l.toArray⟩) w := by
  have hl : l.length = n := by rw [← h.1, bys_length]
  rw [run_convert_bytes_string w src dst e _ n c hs he hd]
  cases A with
  | none =>
    have h0 : n = 0 := by
      rcases Nat.eq_zero_or_pos n with h0 | h0
      · exact h0
      · obtain ⟨b, off, e, _⟩ := h.form h0; cases e
    subst h0
    have : l = [] := List.eq_nil_of_length_eq_zero hl
    subst this
    simp [Conv.bytesToString]
    rfl
  | some a =>
    have hc := run_loadCells_list (P := P) w a (bys l) h.cells
    rw [bys_length, hl] at hc
    have e : bys l = (l.map fun c => (c.toNat : Int)).map (Value.int .u8) := by simp [bys]
    rw [e] at hc
    rw [run_bytesToString w a n c _ hc, foldl_push_bytes]
    congr 2
    simp [ByteArray.empty, ByteArray.emptyWithCapacity, Function.comp_def]
    rfl
section
variable {P : Program} (w : World)
/-- append onto a slice of the call's own, from whatever source. -/
theorem run_append_rd (base : Nat) (t ty e : TypeId) (i : TypeInfo) (z : Value) (size bytes : Nat) (ht : P.underlying t = some (.slice e)) (hi : P.info? e = some i) (hz : i.zero = some z)
    (hsize : i.size = size) (hby : i.bytes = bytes) (hzs : z.cells.size = size) (hsz : 0 < size)
    (v : Value) (n : Nat) (xs : List Value) (hown : w.ownsRow base e size v n xs)
    (A : Option Addr) (m c : Nat) (news : List Value) (hr : Rd w A (m * size) news) (h1 : ∀ u ∈ news, u.oneCell' = true)
    (h63 : n + m ≤ maxLen) (hbytes : (n + m) * bytes ≤ 140737488355328) (hbase : base ≤ w.heap.size) :
    ∃ v' w', (Builtin.append_ #[t, t] ty #[v, .slice A m c]).run P w = .ok v' w' ∧ w'.ownsRow base e size v' (n + m) (xs ++ news) ∧ w.grownBy w' v.ownBlock ∧
      (v'.ownBlock = v.ownBlock ∨ v'.ownBlock = some w.heap.size) := by
  cases A with
  | none =>
    have hm : m = 0 := by
      rcases Nat.eq_zero_or_pos m with h0 | h0
      · exact h0
      · obtain ⟨b, off, e, _⟩ := hr.form (Nat.mul_pos h0 hsz); cases e
    subst hm
    have hn : news = [] := List.eq_nil_of_length_eq_zero (by simpa using hr.1)
    subst hn
    refine ⟨v, w, ?_, by simpa using hown, World.grownBy.refl w _, .inl rfl⟩
    rcases hown.2 with ⟨rfl, rfl⟩ | ⟨g, cap, cur, rfl, _, _, hnc, _⟩
    · simp [Builtin.append_, run_underlying ht, sizeOf, typeInfo, hi, Builtin.lenOf, Builtin.firstCells]
    · simp [Builtin.append_, run_underlying ht, sizeOf, typeInfo, hi, Builtin.lenOf, Builtin.firstCells, hnc, storeCells]
  | some ad =>
    obtain ⟨v', w', hrun, h2, h3, _, h5⟩ := run_append_own_at (P := P) w base t ty e i z size bytes ht hi hz hsize hby hzs hsz v n xs hown ad m c news hr.1 hr.cells h1 h63 hbytes hbase
    exact ⟨v', w', hrun, h2, h3, h5⟩
theorem wp_append_rd {o : Oper} {a : Act} {K : Act → World → Prop} {Q : Exit → Act → World → Prop} (s x : Operand) (t : TypeId)
    (ho : o.op = .call { callee := .builtin .append, args := #[s, x], argTypes := #[t, t] })
    (base : Nat) (e : TypeId) (i : TypeInfo) (z : Value) (size bytes : Nat) (ht : P.underlying t = some (.slice e)) (hi : P.info? e = some i) (hz : i.zero = some z)
    (hsize : i.size = size) (hby : i.bytes = bytes) (hzs : z.cells.size = size) (hsz : 0 < size)
    (v : Value) (n : Nat) (xs : List Value) (hs : a.eval s = v) (hown : w.ownsRow base e size v n xs)
    (A : Option Addr) (m c : Nat) (news : List Value) (hx : a.eval x = .slice A m c) (hr : Rd w A (m * size) news) (h1 : ∀ u ∈ news, u.oneCell' = true)
    (h63 : n + m ≤ maxLen) (hbytes : (n + m) * bytes ≤ 140737488355328) (hbase : base ≤ w.heap.size)
    (h : ∀ v' w', w'.ownsRow base e size v' (n + m) (xs ++ news) → w.grownBy w' v.ownBlock → (v'.ownBlock = v.ownBlock ∨ v'.ownBlock = some w.heap.size) → K (a.put o.dst v') w') : o.wp P a w K Q := by
  obtain ⟨v', w', hrun, h2, h3, h4⟩ := run_append_rd (P := P) w base t o.type e i z size bytes ht hi hz hsize hby hzs hsz v n xs hown A m c news hr h1 h63 hbytes hbase
  unfold Oper.wp execOp
  simp only [ho, resolve, invoke, builtin, Sem.run_bind, Sem.run_pure, Result.andThen_ok, List.map_toArray, List.map_cons, List.map_nil, hs, hx, hrun]
  exact h v' w' h2 h3 h4
theorem wpList_append_rd {ops : Array Oper} {rest : List Oper} {o : Oper} {a : Act} {Q : Exit → Act → World → Prop} (hgd : o.guard = none) (s x : Operand) (t : TypeId)
    (ho : o.op = .call { callee := .builtin .append, args := #[s, x], argTypes := #[t, t] })
    (base : Nat) (e : TypeId) (i : TypeInfo) (z : Value) (size bytes : Nat) (ht : P.underlying t = some (.slice e)) (hi : P.info? e = some i) (hz : i.zero = some z)
    (hsize : i.size = size) (hby : i.bytes = bytes) (hzs : z.cells.size = size) (hsz : 0 < size)
    (v : Value) (n : Nat) (xs : List Value) (hs : a.eval s = v) (hown : w.ownsRow base e size v n xs)
    (A : Option Addr) (m c : Nat) (news : List Value) (hx : a.eval x = .slice A m c) (hr : Rd w A (m * size) news) (h1 : ∀ u ∈ news, u.oneCell' = true)
    (h63 : n + m ≤ maxLen) (hbytes : (n + m) * bytes ≤ 140737488355328) (hbase : base ≤ w.heap.size)
    (h : ∀ v' w', w'.ownsRow base e size v' (n + m) (xs ++ news) → w.grownBy w' v.ownBlock → (v'.ownBlock = v.ownBlock ∨ v'.ownBlock = some w.heap.size) → wpList P ops Q rest (a.put o.dst v') w') : wpList P ops Q (o :: rest) a w :=
  wpList_plain hgd fun _ hK => wp_append_rd w s x t ho base e i z size bytes ht hi hz hsize hby hzs hsz v n xs hs hown A m c news hx hr h1 h63 hbytes hbase fun v' w' h2 h3 h4 => hK _ _ (h v' w' h2 h3 h4)
end
theorem step_append_rd {P : Program} {ops : Array Oper} {o : Oper} {a : Act} {w : World} {K : Act → World → Prop} {Q : Exit → Act → World → Prop} {E : Prop} (hgd : o.guard = none) (s x : Operand) (t : TypeId)
    (ho : o.op = .call { callee := .builtin .append, args := #[s, x], argTypes := #[t, t] })
    (base : Nat) (e : TypeId) (i : TypeInfo) (z : Value) (size bytes : Nat) (ht : P.underlying t = some (.slice e)) (hi : P.info? e = some i) (hz : i.zero = some z)
    (hsize : i.size = size) (hby : i.bytes = bytes) (hzs : z.cells.size = size) (hsz : 0 < size)
    (v : Value) (n : Nat) (xs : List Value) (hs : a.eval s = v) (hown : w.ownsRow base e size v n xs)
    (A : Option Addr) (m c : Nat) (news : List Value) (hx : a.eval x = .slice A m c) (hr : Rd w A (m * size) news) (h1 : ∀ u ∈ news, u.oneCell' = true)
    (h63 : n + m ≤ maxLen) (hbytes : (n + m) * bytes ≤ 140737488355328) (hbase : base ≤ w.heap.size)
    (h : ∀ v' w', w'.ownsRow base e size v' (n + m) (xs ++ news) → w.grownBy w' v.ownBlock → (v'.ownBlock = v.ownBlock ∨ v'.ownBlock = some w.heap.size) → K (a.put o.dst v') w') :
    if Region.wanted o (yielded ops a.tmps) = true then Oper.wp P o a w K Q else E := by
  have hw : Region.wanted o (yielded ops a.tmps) = true := by simp [Region.wanted, hgd]
  rw [if_pos hw]
  exact wp_append_rd w s x t ho base e i z size bytes ht hi hz hsize hby hzs hsz v n xs hs hown A m c news hx hr h1 h63 hbytes hbase h
theorem Rd.one (w : World) (t : TypeId) (u : Value) : Rd (w.alloc (.cells #[u] t)) (some ⟨w.heap.size, 0, none⟩) 1 [u] :=
  Rd.of_bk (Bk.newA w t #[u]) (by simp) (by simp)
theorem zeroCells_one (z : Value) (k : Nat) (hz : z.cells = #[z]) : (Builtin.zeroCells z.cells k).toList = List.replicate k z := by
  rw [hz]
  apply List.ext_getElem
  · simp [Builtin.zeroCells]
  · intro i h1 h2
    simp [Builtin.zeroCells, Nat.mod_one]
/-- A new row that is all spare room, or none at all: 'T{}', 'make(T, 0, 0)'. -/
theorem own_new0 (w : World) (e : TypeId) (base : Nat) (hb : base ≤ w.heap.size) : (w.alloc (.cells #[] e)).ownsRow base e 1 (.slice (some ⟨w.heap.size, 0, none⟩) 0 0) 0 [] :=
  World.ownsRow_made w #[] 0 hb (by simp [maxLen]) (by simp)
/-- The slice A of n places lies at (g, off), may be written, and reads as xs. -/
def Mut (w : World) (A : Option Addr) (n g off : Nat) (xs : List Value) : Prop :=
  xs.length = n ∧ (0 < n → A = some ⟨g, off, none⟩ ∧ ∃ t cur, Bk w g t cur ∧ off + n ≤ cur.length ∧ (cur.drop off).take n = xs)
section
variable {w w' : World} {A : Option Addr} {n g off : Nat} {xs : List Value}
theorem Mut.rd (h : Mut w A n g off xs) : Rd w A n xs := by
  rcases Nat.eq_zero_or_pos n with h0 | h0
  · exact ⟨h.1, fun h => absurd h (by omega)⟩
  · obtain ⟨rfl, t, cur, hb, hl, hx⟩ := h.2 h0
    exact Rd.of_bk hb hl hx
theorem Mut.keep (h : Mut w A n g off xs) (hk : ∀ t cs, Bk w g t cs → Bk w' g t cs) : Mut w' A n g off xs :=
  ⟨h.1, fun h0 => by
    obtain ⟨e, t, cur, hb, r⟩ := h.2 h0
    exact ⟨e, t, cur, hk _ _ hb, r⟩⟩
theorem Mut.below (h : Mut w A n g off xs) (hb : Below w.heap.size w w') : Mut w' A n g off xs := h.keep fun _ _ h => h.belowS hb
theorem Mut.drewN (h : Mut w A n g off xs) (k : Nat) : Mut (w.drewN k) A n g off xs := h
theorem Mut.alloc (h : Mut w A n g off xs) (o : Obj) : Mut (w.alloc o) A n g off xs := h.keep fun _ _ h => h.alloc o
theorem Mut.grown (h : Mut w A n g off xs) {row : Option Nat} (hg : w.grownBy w' row) (hne : some g ≠ row) : Mut w' A n g off xs := h.keep fun _ _ h => h.grown hg hne
theorem Mut.upd (h : Mut w A n g off xs) {new : List Value} (hu : Upd w w' g off new) (hl : new.length = n) : Mut w' A n g off new :=
  ⟨hl, fun h0 => by
    obtain ⟨e, t, cur, hb, hl', _⟩ := h.2 h0
    subst hl
    exact ⟨e, t, _, hu.2 _ _ hb hl', by rw [spl_length hl']; exact hl', spl_same hl'⟩⟩
theorem Mut.take_ (h : Mut w A n g off xs) {k : Nat} (hk : k ≤ n) : Mut w A k g off (xs.take k) :=
  ⟨by rw [List.length_take, h.1]; omega, fun h0 => by
    obtain ⟨e, t, cur, hb, hl, hx⟩ := h.2 (by omega)
    refine ⟨e, t, cur, hb, by omega, ?_⟩
    rw [← hx, List.take_take]; congr 1; omega⟩
theorem Mut.drop_ (h : Mut w A n g off xs) {k : Nat} (hk : k ≤ n) {A' : Option Addr} (hA : k < n → A' = A.map (fun a => ⟨a.block, a.off + k, none⟩)) : Mut w A' (n - k) g (off + k) (xs.drop k) :=
  ⟨by rw [List.length_drop, h.1], fun h0 => by
    obtain ⟨e, t, cur, hb, hl, hx⟩ := h.2 (by omega)
    refine ⟨by rw [hA (by omega), e]; rfl, t, cur, hb, by omega, ?_⟩
    rw [← hx, List.drop_take, List.drop_drop]⟩
theorem spl_apart {cs new : List Value} {off o n : Nat} (h : off + new.length ≤ cs.length) (ha : off + new.length ≤ o ∨ o + n ≤ off) : ((spl cs off new).drop o).take n = (cs.drop o).take n := by
  apply List.ext_getElem?
  intro i
  rw [List.getElem?_take, List.getElem?_take]
  by_cases hi : i < n
  · rw [if_pos hi, if_pos hi, List.getElem?_drop, List.getElem?_drop, spl_getElem? h, if_neg (by omega)]
  · rw [if_neg hi, if_neg hi]
/-- A slice apart from the places that have become others is as it was. -/
theorem Mut.apart (h : Mut w A n g off xs) {o : Nat} {new : List Value} (hu : Upd w w' g o new) (ha : o + new.length ≤ off ∨ off + n ≤ o) (hf : 0 < n → ∀ t cs, Bk w g t cs → o + new.length ≤ cs.length) : Mut w' A n g off xs :=
  ⟨h.1, fun h0 => by
    obtain ⟨e, t, cur, hb, hl, hx⟩ := h.2 h0
    have hf' := hf h0 t cur hb
    exact ⟨e, t, _, hu.2 _ _ hb hf', by rw [spl_length hf']; exact hl, by rw [spl_apart hf' ha]; exact hx⟩⟩
theorem spl_spl {cs a b : List Value} {off : Nat} (h : off + a.length + b.length ≤ cs.length) : spl (spl cs off a) (off + a.length) b = spl cs off (a ++ b) := by
  apply List.ext_getElem?
  intro i
  rw [spl_getElem? (by rw [spl_length (by omega)]; exact h), spl_getElem? (by omega), spl_getElem? (by simp; omega)]
  simp only [List.length_append]
  by_cases c1 : off ≤ i ∧ i < off + a.length
  · rw [if_neg (by omega), if_pos c1, if_pos (by omega), List.getElem?_append_left (by omega)]
  · by_cases c2 : off + a.length ≤ i ∧ i < off + a.length + b.length
    · rw [if_pos c2, if_pos (by omega), List.getElem?_append_right (by omega)]
      congr 1; omega
    · rw [if_neg c2, if_neg c1, if_neg (by omega)]
theorem Upd.append {w0 w1 w2 : World} {g off : Nat} {a b : List Value} (h : Upd w0 w1 g off a) (h' : Upd w1 w2 g (off + a.length) b) : Upd w0 w2 g off (a ++ b) :=
  ⟨grownBy_trans h.1 h'.1, fun t cs hb hf => by
    rw [List.length_append] at hf
    have := h'.2 _ _ (h.2 _ _ hb (by omega)) (by rw [spl_length (by omega)]; omega)
    rw [spl_spl (by omega)] at this
    exact this⟩
theorem Upd.then_below {w0 w1 w2 : World} {g off : Nat} {a : List Value} (h : Upd w0 w1 g off a) (h' : Below w1.heap.size w1 w2) : Upd w0 w2 g off a :=
  ⟨grownBy_trans h.1 (grownBy_of_below h'), fun t cs hb hf => (h.2 _ _ hb hf).belowS h'⟩
theorem Upd.drewN {w0 w1 : World} {g off : Nat} {a : List Value} (h : Upd w0 w1 g off a) (k : Nat) : Upd w0 (w1.drewN k) g off a :=
  ⟨⟨h.1.os, h.1.tape, h.1.output, h.1.size, h.1.block⟩, h.2⟩
theorem Upd.drew {w0 w1 : World} {g off : Nat} {a : List Value} (h : Upd w0 w1 g off a) : Upd w0 w1.drew g off a := h.drewN 1
/-- One cell that is written. -/
theorem Upd.cell (w : World) (g o : Nat) (u : Value) : Upd w (w.setCell ⟨g, o, none⟩ u) g o [u] :=
  ⟨⟨rfl, rfl, rfl, by simp, fun k _ hk => Below.heap_setCell _ _ _ _ (fun e => hk (by rw [e]))⟩, fun t cs hb hf => by
    have := hb.set_ o u
    have e := set_spl (cs := cs) (off := o) (k := 0) (new := []) (v := u) rfl (by simp at hf; omega)
    simp only [Nat.add_zero, spl_nil, List.nil_append] at e
    rw [e] at this
    exact this⟩
theorem Mut.of_own {base : Nat} {e : TypeId} {c : Nat} (h : w.ownsRow base e 1 (.slice A n c) n xs) :
    ∃ g, Mut w A n g 0 xs ∧ base ≤ g ∧ (0 < n → g < w.heap.size) ∧ ∀ w' new, new.length = n → Upd w w' g 0 new → w'.ownsRow base e 1 (.slice A n c) n new := by
  obtain ⟨A', c', e', hnc, hcm, hl, hf⟩ := own_form h
  injection e' with e1 e2 e3
  subst e1; subst e3
  rcases Nat.eq_zero_or_pos n with h0 | h0
  · subst h0
    refine ⟨base, ⟨hl, fun h => absurd h (by omega)⟩, Nat.le_refl _, fun h => absurd h (by omega), fun w' new hn hu => ?_⟩
    have hx : xs = [] := List.eq_nil_of_length_eq_zero hl
    have hn' : new = [] := List.eq_nil_of_length_eq_zero hn
    subst hx; subst hn'
    refine ⟨by simp, ?_⟩
    rcases h.2 with h2 | ⟨g, cap, cur, hv, hg, hh, r1, r2, r3, r4⟩
    · exact .inl h2
    · have hb : Bk w g e cur.toList := hh
      rcases Nat.lt_or_ge g base with hlt | hge
      · omega
      · by_cases hgb : g = base
        · subst hgb
          have := hu.2 _ _ hb (by simp)
          rw [spl_nil] at this
          exact .inr ⟨g, cap, cur, hv, hg, this, r1, r2, r3, r4⟩
        · exact .inr ⟨g, cap, cur, hv, hg, hb.grown hu.1 (by simpa using hgb), r1, r2, r3, r4⟩
  · obtain ⟨g, cur, hA, hg, hlt, hb, hcl, ht⟩ := hf h0
    refine ⟨g, ⟨hl, fun _ => ⟨hA, e, cur, hb, by omega, by simpa using ht⟩⟩, hg, fun _ => hlt, fun w' new hn hu => ?_⟩
    subst hn
    have hb' := hu.2 _ _ hb (by omega)
    refine ⟨by simp, .inr ⟨g, c, (spl cur 0 new).toArray, by rw [hA], hg, hb', hnc, hcm, ?_, ?_⟩⟩
    · simp only [List.size_toArray]; rw [spl_length (by omega)]; omega
    · have := spl_same (cs := cur) (new := new) (off := 0) (by omega)
      simpa using this
end
theorem ret_bool {a b : Bool} (h : a = b) : Ending.returned (.bool a) = .returned (.bool b) := by rw [h]
theorem ret_int {k : IntKind} {a b : Int} (h : a = b) : Ending.returned (.int k a) = .returned (.int k b) := by rw [h]
theorem ret_told {v : Value} {k : IntKind} {a b : Int} (h : a = b) : Ending.returned (.tuple #[v, .int k a]) = .returned (.tuple #[v, .int k b]) := by rw [h]
/-- A list of slices of bytes reads as lists of bytes. -/
def Rows_ (w : World) (vs : List Value) (xss : List (List UInt8)) : Prop :=
  vs.length = xss.length ∧ ∀ (i : Nat) x, xss[i]? = some x → ∃ A c, vs[i]? = some (.slice A x.length c) ∧ x.length ≤ c ∧ x.length ≤ 9223372036854775807 ∧ Rd w A x.length (bys x)
theorem Rows_.below {w w' : World} {vs : List Value} {xss : List (List UInt8)} (h : Rows_ w vs xss) (hb : Below w.heap.size w w') : Rows_ w' vs xss :=
  ⟨h.1, fun i x hx => by
    obtain ⟨A, c, h1, h2, h4, h3⟩ := h.2 i x hx
    exact ⟨A, c, h1, h2, h4, h3.below hb⟩⟩
theorem Rows_.at_ {w : World} {vs : List Value} {xss : List (List UInt8)} (h : Rows_ w vs xss) {k : Nat} (hk : k < xss.length) : ∃ A c, vs[k]? = some (.slice A xss[k].length c) ∧ xss[k].length ≤ c ∧ xss[k].length ≤ 9223372036854775807 ∧ Rd w A xss[k].length (bys xss[k]) :=
  h.2 k _ (List.getElem?_eq_getElem hk)
theorem Rows_.nil (w : World) : Rows_ w [] [] := ⟨rfl, fun i x h => by simp at h⟩
theorem Rows_.cons {w : World} {vs : List Value} {xss : List (List UInt8)} {A : Option Addr} {n c : Nat} {x : List UInt8} (hr : Rd w A n (bys x)) (hc : n ≤ c) (hn : n ≤ 9223372036854775807) (h : Rows_ w vs xss) : Rows_ w (.slice A n c :: vs) (x :: xss) := by
  have hl : x.length = n := by have := hr.1; simpa [bys_length] using this
  subst hl
  refine ⟨by simp [h.1], fun i y hy => ?_⟩
  cases i with
  | zero => simp at hy; subst hy; exact ⟨A, c, rfl, hc, hn, hr⟩
  | succ i => exact h.2 i y (by simpa using hy)
theorem Rd.lit (w : World) (t : TypeId) (cs : Array Value) (k : Nat) (hk : k = w.heap.size) (n : Nat) (hn : n = cs.size) (xs : List Value) (hx : xs = cs.toList) : Rd (w.alloc (.cells cs t)) (some ⟨k, 0, none⟩) n xs := by
  subst hk; subst hn; subst hx
  exact Rd.of_bk (Bk.newA w t cs) (by simp) (by rw [List.drop_zero]; exact List.take_of_length_le (by simp))
/-- .. and of each slice that has an address, p holds of it. -/
def RowsP (p : Addr → Prop) (w : World) (vs : List Value) (xss : List (List UInt8)) : Prop :=
  vs.length = xss.length ∧ ∀ (i : Nat) x, xss[i]? = some x → ∃ A c, vs[i]? = some (.slice A x.length c) ∧ x.length ≤ c ∧ x.length ≤ 9223372036854775807 ∧ Rd w A x.length (bys x) ∧ ∀ a, A = some a → p a
theorem Rd.grownO {w w' : World} {A : Option Addr} {n : Nat} {xs : List Value} (h : Rd w A n xs) {row : Option Nat} (hg : w.grownBy w' row) (hne : ∀ a, A = some a → some a.block ≠ row) : Rd w' A n xs := by
  refine h.keep fun p hp hlt => World.cell?_of_block (hg.block p.block hlt ?_)
  cases A with
  | none => simp at hp
  | some a => simp at hp; rw [← hp]; exact hne a rfl
section
variable {p q : Addr → Prop} {w w' : World} {vs : List Value} {xss : List (List UInt8)}
theorem RowsP.rows (h : RowsP p w vs xss) : Rows_ w vs xss :=
  ⟨h.1, fun i x hx => by
    obtain ⟨A, c, h1, h2, h3, h4, _⟩ := h.2 i x hx
    exact ⟨A, c, h1, h2, h3, h4⟩⟩
theorem RowsP.nil (p : Addr → Prop) (w : World) : RowsP p w [] [] := ⟨rfl, fun i x h => by simp at h⟩
theorem RowsP.below (h : RowsP p w vs xss) (hb : Below w.heap.size w w') : RowsP p w' vs xss :=
  ⟨h.1, fun i x hx => by
    obtain ⟨A, c, h1, h2, h3, h4, h5⟩ := h.2 i x hx
    exact ⟨A, c, h1, h2, h3, h4.below hb, h5⟩⟩
theorem RowsP.imp (h : RowsP p w vs xss) (hpq : ∀ a, p a → q a) : RowsP q w vs xss :=
  ⟨h.1, fun i x hx => by
    obtain ⟨A, c, h1, h2, h3, h4, h5⟩ := h.2 i x hx
    exact ⟨A, c, h1, h2, h3, h4, fun a ha => hpq a (h5 a ha)⟩⟩
theorem RowsP.grown (h : RowsP p w vs xss) {row : Option Nat} (hg : w.grownBy w' row) (hne : ∀ a, p a → some a.block ≠ row) : RowsP p w' vs xss :=
  ⟨h.1, fun i x hx => by
    obtain ⟨A, c, h1, h2, h3, h4, h5⟩ := h.2 i x hx
    exact ⟨A, c, h1, h2, h3, h4.grownO hg (fun a ha => hne a (h5 a ha)), h5⟩⟩
theorem RowsP.snoc (h : RowsP p w vs xss) {A : Option Addr} {n c : Nat} {x : List UInt8} (hr : Rd w A n (bys x)) (hc : n ≤ c) (hn : n ≤ 9223372036854775807) (hp : ∀ a, A = some a → p a) : RowsP p w (vs ++ [.slice A n c]) (xss ++ [x]) := by
  have hl : x.length = n := by have := hr.1; simpa [bys_length] using this
  subst hl
  refine ⟨by simp [h.1], fun i y hy => ?_⟩
  rcases Nat.lt_or_ge i xss.length with hi | hi
  · rw [List.getElem?_append_left hi] at hy
    obtain ⟨A', c', h1, h2⟩ := h.2 i y hy
    exact ⟨A', c', by rw [List.getElem?_append_left (by rw [h.1]; exact hi)]; exact h1, h2⟩
  · rw [List.getElem?_append_right hi] at hy
    have h0 : i - xss.length = 0 := by
      have := (List.getElem?_eq_some_iff.1 hy).1; simp at this; omega
    rw [h0] at hy; simp at hy; subst hy
    refine ⟨A, c, ?_, hc, hn, hr, hp⟩
    rw [List.getElem?_append_right (by rw [h.1]; exact hi), h.1, h0]; rfl
theorem RowsP.cons (h : RowsP p w vs xss) {A : Option Addr} {n c : Nat} {x : List UInt8} (hr : Rd w A n (bys x)) (hc : n ≤ c) (hn : n ≤ 9223372036854775807) (hp : ∀ a, A = some a → p a) : RowsP p w (.slice A n c :: vs) (x :: xss) := by
  have hl : x.length = n := by have := hr.1; simpa [bys_length] using this
  subst hl
  refine ⟨by simp [h.1], fun i y hy => ?_⟩
  cases i with
  | zero => simp at hy; subst hy; exact ⟨A, c, rfl, hc, hn, hr, hp⟩
  | succ i => exact h.2 i y (by simpa using hy)
end
/-- Several slices, each with what it reads as, in the order in which they came. -/
def Rds (w : World) (l : List (Option Addr × Nat × List Value)) : Prop := ∀ x ∈ l, Rd w x.1 x.2.1 x.2.2
section
variable {w w' : World} {l : List (Option Addr × Nat × List Value)} {A : Option Addr} {n : Nat} {xs : List Value}
theorem Rds.nil (w : World) : Rds w [] := fun x h => by simp at h
theorem Rds.get (h : Rds w l) (i : Nat) (e : l[i]? = some (A, n, xs)) : Rd w A n xs := h _ (List.mem_of_getElem? e)
theorem Rds.below (h : Rds w l) (hb : Below w.heap.size w w') : Rds w' l := fun x hx => (h x hx).below hb
theorem Rds.alloc (h : Rds w l) (o : Obj) : Rds (w.alloc o) l := fun x hx => (h x hx).alloc o
theorem Rds.snoc (h : Rds w l) (hr : Rd w A n xs) : Rds w (l ++ [(A, n, xs)]) := by
  intro x hx
  rcases List.mem_append.1 hx with hx | hx
  · exact h x hx
  · simp at hx; subst hx; exact hr
theorem Rds.step (h : Rds w l) (hb : Below w.heap.size w w') (hr : Rd w' A n xs) : Rds w' (l ++ [(A, n, xs)]) := (h.below hb).snoc hr
end
/-- Cells that are one cell each. -/
theorem slice_one {A : Option Addr} {n c : Nat} : ∀ u ∈ [Value.slice A n c], u.oneCell' = true := by intro u hu; simp at hu; subst hu; rfl
section
variable {P : Program} {w : World}
/-- copy into a slice that may be written: just those places have become others. -/
theorem wp_copy_upd {o : Oper} {a : Act} {K : Act → World → Prop} {Q : Exit → Act → World → Prop} (d s : Operand) (dT sT : TypeId)
    (ho : o.op = .call { callee := .builtin .copy, args := #[d, s], argTypes := #[dT, sT] }) (elem : TypeId) (hu : P.underlying dT = some (.slice elem)) (hsz : (P.info? elem).map (·.size) = some 1)
    (dp sp : Option Addr) (dLen dCap sLen sCap : Nat) (hd : a.eval d = .slice dp dLen dCap) (hs : a.eval s = .slice sp sLen sCap)
    (g off : Nat) (old xs : List Value) (hm : Mut w dp dLen g off old) (hr : Rd w sp sLen xs) (h1 : ∀ v ∈ xs, v.oneCell' = true)
    (h : ∀ w', Upd w w' g off (xs.take dLen) → K (a.put o.dst (goInt (xs.take dLen).length)) w') : o.wp P a w K Q := by
  have hlen : (xs.take dLen).length = Nat.min sLen dLen := by rw [List.length_take, hr.1]; exact Nat.min_comm _ _
  by_cases h0 : (xs.take dLen).length = 0
  · have hrun := run_copy_none (P := P) w dT sT o.type elem dp sp dLen dCap sLen sCap hu hsz (by omega)
    unfold Oper.wp
    simp [execOp, ho, resolve, invoke, builtin, hd, hs, hrun, Result.andThen]
    have hn : xs.take dLen = [] := List.eq_nil_of_length_eq_zero h0
    have := h w (by rw [hn]; exact Upd.none_ (Below.refl _ _))
    rw [h0] at this
    exact this
  · have hp : 0 < sLen := by have : Nat.min sLen dLen ≤ sLen := Nat.min_le_left _ _; omega
    have hq : 0 < dLen := by have : Nat.min sLen dLen ≤ dLen := Nat.min_le_right _ _; omega
    obtain ⟨b, so, rfl, _, _⟩ := hr.form hp
    obtain ⟨rfl, t, cur, hb, hfit, _⟩ := hm.2 hq
    have hle : (xs.take dLen).length ≤ dLen := by simp; omega
    have hrun := run_copy_row (P := P) w dT sT o.type elem g off dLen dCap ⟨b, so, none⟩ sLen sCap cur.toArray t (xs.take dLen) hu hsz hb hlen
      (fun j v hj => hr.cells j v (by
        rw [List.getElem?_take] at hj
        split at hj
        · exact hj
        · cases hj)) (by simp only [List.size_toArray]; omega) (fun v hv => h1 v (List.mem_of_mem_take hv))
    unfold Oper.wp
    simp only [execOp, ho, resolve, invoke, builtin, Sem.run_bind, Sem.run_pure, Result.andThen_ok, List.map_toArray, List.map_cons, List.map_nil, hd, hs, hrun]
    refine h _ ⟨⟨rfl, rfl, rfl, by simp, fun k hk hne => setRow_other w g k _ (fun e => hne (by rw [e]))⟩, fun t' cs hcs _ => ?_⟩
    have e1 := hb.inj hcs
    subst e1
    have := setRow_heap w g cur.toArray (cur.toArray.toList.take off ++ xs.take dLen ++ cur.toArray.toList.drop (off + (xs.take dLen).length)).toArray t (0, 0) hb
    have et : t = t' := by
      unfold Bk at hb hcs; rw [hb] at hcs; injection hcs with hcs; injection hcs
    subst et
    exact this
theorem wpList_copy_upd {ops : Array Oper} {rest : List Oper} {o : Oper} {a : Act} {Q : Exit → Act → World → Prop} (hgd : o.guard = none) (d s : Operand) (dT sT : TypeId)
    (ho : o.op = .call { callee := .builtin .copy, args := #[d, s], argTypes := #[dT, sT] }) (elem : TypeId) (hu : P.underlying dT = some (.slice elem)) (hsz : (P.info? elem).map (·.size) = some 1)
    (dp sp : Option Addr) (dLen dCap sLen sCap : Nat) (hd : a.eval d = .slice dp dLen dCap) (hs : a.eval s = .slice sp sLen sCap)
    (g off : Nat) (old xs : List Value) (hm : Mut w dp dLen g off old) (hr : Rd w sp sLen xs) (h1 : ∀ v ∈ xs, v.oneCell' = true)
    (h : ∀ w', Upd w w' g off (xs.take dLen) → wpList P ops Q rest (a.put o.dst (goInt (xs.take dLen).length)) w') : wpList P ops Q (o :: rest) a w :=
  wpList_plain hgd fun _ hK => wp_copy_upd d s dT sT ho elem hu hsz dp sp dLen dCap sLen sCap hd hs g off old xs hm hr h1 fun w' hw' => hK _ _ (h w' hw')
end
end Go.Proofs.YtlhipaffhehcnaaGreat
