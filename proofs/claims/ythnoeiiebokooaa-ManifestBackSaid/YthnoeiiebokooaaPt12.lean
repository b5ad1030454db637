/- Chapter 12: what is put; a writer beside other blocks; widths. -/
import Derived.Test.YthnoeiiebokooaaMe12
namespace Go.Proofs.Ythnoeiiebokooaa
open Go.RowKit
set_option linter.unusedVariables false
def TdB (w : World) (V : List UInt8) (E : Int) (e : Ending) (w' : World) : Prop :=
  ∃ v, e = .returned (.tuple #[v, .int .i64 E]) ∧ w'.ownsRow w.heap.size 5 1 v V.length (bys V) ∧ Below w.heap.size w w'
/-- A return of a manifest that lies in a block. -/
theorem ret_mf {R : Ending → World → Prop} {fn : Func} {p : Tmp} (h : fn.results = #[.cell p 27]) {a : Act} {w : World} {g : Nat} {t : TypeId} {v0 v1 v2 v3 v4 : Value} (hp : a.tmps.getD p undef = .pointer (some ⟨g, 0, none⟩)) (hd : a.defers = [])
    (hg : Bk w g t [v0, v1, v2, v3, v4]) (hR : R (.returned (.agg #[v0, v1, v2, v3, v4])) w) : bodyPost Try.prog fn R .ret a w :=
  bodyPost_ret (results_cell_row h _ _ g t #[v0, v1, v2, v3, v4] (0, 0) _ hp hg Try.underlying27 rfl (by kernel_rfl)) hd hR
theorem ret_five {R : Ending → World → Prop} {fn : Func} {p : Tmp} (h : fn.results = #[.cell p 50]) {a : Act} {w : World} {g : Nat} {t : TypeId} {v0 v1 v2 v3 v4 : Value} (hp : a.tmps.getD p undef = .pointer (some ⟨g, 0, none⟩)) (hd : a.defers = [])
    (hg : Bk w g t [v0, v1, v2, v3, v4]) (hR : R (.returned (.agg #[v0, v1, v2, v3, v4])) w) : bodyPost Try.prog fn R .ret a w :=
  bodyPost_ret (results_cell_row h _ _ g t #[v0, v1, v2, v3, v4] (0, 0) _ hp hg Try.underlying50 rfl (by kernel_rfl)) hd hR
set_option maxRecDepth 100000 in
set_option maxHeartbeats 1600000 in
theorem widths_any {w : World} : Calls Try.prog 30 #[] w fun e w' => e = .returned (.agg #[.int .i64 4, .int .i64 2, .int .i64 4, .int .i64 8, .int .i64 2]) ∧ Below w.heap.size w w' := by
  have hz := Bk.newA w 50 #[.int .i64 0, .int .i64 0, .int .i64 0, .int .i64 0, .int .i64 0]
  have hb := (Below.refl w.heap.size w).alloc (Nat.le_refl _) (.cells #[.int .i64 0, .int .i64 0, .int .i64 0, .int .i64 0, .int .i64 0] 50)
  have H := Lib.hid (And.intro hz hb)
  have f0 := hz.frozen 0
  have f1 := hz.frozen 1
  have f2 := hz.frozen 2
  have f3 := hz.frozen 3
  have f4 := hz.frozen 4
  obtain ⟨c0, c1, c2, c3, c4⟩ := cells5 hz
  clear hz hb
  go_enter Try.func30, Try.ntmps30
  go_wp2
  exact ret_five rfl rfl rfl (Bk.newA w 50 #[.int .i64 4, .int .i64 2, .int .i64 4, .int .i64 8, .int .i64 2]) ⟨rfl, (Below.refl _ _).alloc (Nat.le_refl _) _⟩
/-- A number that fits is put. -/
theorem put_ok {M : Int} {b : List UInt8} {wd : Nat} {n : Int} (hw : wid (wd : Int) = true) (h0 : 0 ≤ n) (h1 : n < 2 ^ (8 * wd)) (hM : (b.length : Int) + wd ≤ M) : (⟨M, b, 0⟩ : WS).put (wd : Int) n = ⟨M, b ++ bebs wd n, 0⟩ := by
  unfold WS.put
  rw [if_neg (by simp), if_neg (by rw [hw]; simp), if_neg]
  · unfold WS.lay
    rw [Int.toNat_natCast, bebs_length, if_neg (by simp only; omega)]
  · rintro (h | h)
    · omega
    · rw [Int.toNat_natCast, Int.ediv_eq_zero_of_lt h0 h1] at h
      omega
/-- The fields ahead of the weights. -/
def fw (i : Nat) : Nat := [4, 2, 4, 8, 2].getD i 0
def fn (m : MF) (i : Nat) : Int := [m.z, m.s, m.k, m.d, (m.t.length : Int)].getD i 0
def mfH (m : MF) (i : Nat) : List UInt8 := ((List.range i).map fun j => bebs (fw j) (fn m j)).flatten
def tbB (l : List Int) : List UInt8 := (l.map fun x => bebs 4 x).flatten
def mfP (m : MF) : List UInt8 := mfH m 5 ++ tbB m.t
def ptV (m : MF) : List UInt8 := if mfB m then mfP m else []
theorem mfH_succ (m : MF) (i : Nat) : mfH m (i + 1) = mfH m i ++ bebs (fw i) (fn m i) := by
  unfold mfH
  rw [List.range_succ, List.map_append, List.flatten_append]; simp
theorem mfH_len (m : MF) {i : Nat} (h : i ≤ 5) : (mfH m i).length + fw i ≤ 20 := by
  rcases (show i = 0 ∨ i = 1 ∨ i = 2 ∨ i = 3 ∨ i = 4 ∨ i = 5 from by omega) with rfl | rfl | rfl | rfl | rfl | rfl <;> simp [mfH, List.range_succ, bebs_length, fw]
theorem mfH_five (m : MF) : (mfH m 5).length = 20 := by simp [mfH, List.range_succ, bebs_length, fw]
theorem tbB_snoc (l : List Int) (x : Int) : tbB (l ++ [x]) = tbB l ++ bebs 4 x := by simp [tbB]
theorem tbB_len (l : List Int) : (tbB l).length = 4 * l.length := by
  induction l with
  | nil => rfl
  | cons x l ih => unfold tbB at *; simp only [List.map_cons, List.flatten_cons, List.length_append, bebs_length, List.length_cons, ih]; omega
theorem tbB_take_succ {l : List Int} {k : Nat} (hk : k < l.length) : tbB (l.take (k + 1)) = tbB (l.take k) ++ bebs 4 l[k] := by
  rw [List.take_succ_eq_append_getElem hk, tbB_snoc]
theorem fld_fit {m : MF} (h : mfB m = true) (hd : R64 m.d) {i : Nat} (hi : i < 5) : wid (fw i : Int) = true ∧ 0 ≤ fn m i ∧ fn m i < 2 ^ (8 * fw i) := by
  obtain ⟨h1, h2, h3, h4, h5, _⟩ := mfB_iff.1 h
  have := hd.2
  rcases (show i = 0 ∨ i = 1 ∨ i = 2 ∨ i = 3 ∨ i = 4 from by omega) with rfl | rfl | rfl | rfl | rfl
  · exact ⟨rfl, h1.1, by show m.z < 2 ^ 32; omega⟩
  · exact ⟨rfl, by show 0 ≤ m.s; omega, by show m.s < 2 ^ 16; omega⟩
  · exact ⟨rfl, by show 0 ≤ m.k; omega, by show m.k < 2 ^ 32; omega⟩
  · exact ⟨rfl, h4, by show m.d < 2 ^ 64; omega⟩
  · exact ⟨rfl, by show 0 ≤ (m.t.length : Int); omega, by show (m.t.length : Int) < 2 ^ 16; omega⟩
theorem wt_fit {m : MF} (h : mfB m = true) {k : Nat} (hk : k < m.t.length) : 0 ≤ m.t[k] ∧ m.t[k] < 2 ^ (8 * 4) := by
  have h7 := (mfB_iff.1 h).2.2.2.2.2.2
  unfold tabB wtB at h7
  rw [Bool.and_eq_true, List.all_eq_true] at h7
  have := win_iff.1 (h7.1 _ (List.getElem_mem hk))
  exact ⟨this.1, by omega⟩
theorem put_fld {m : MF} (h : mfB m = true) (hd : R64 m.d) {i : Nat} (hi : i < 5) {M : Int} (hM : 20 ≤ M) : (⟨M, mfH m i, 0⟩ : WS).put (fw i : Int) (fn m i) = ⟨M, mfH m (i + 1), 0⟩ := by
  obtain ⟨a, b, c⟩ := fld_fit h hd hi
  have := mfH_len m (show i ≤ 5 by omega)
  rw [put_ok a b c (by omega), mfH_succ]
theorem put_wt {m : MF} (h : mfB m = true) {k : Nat} (hk : k < m.t.length) : (⟨20 + 4 * (m.t.length : Int), mfH m 5 ++ tbB (m.t.take k), 0⟩ : WS).put 4 m.t[k] = ⟨20 + 4 * (m.t.length : Int), mfH m 5 ++ tbB (m.t.take (k + 1)), 0⟩ := by
  obtain ⟨b, c⟩ := wt_fit h hk
  have := put_ok (M := 20 + 4 * (m.t.length : Int)) (b := mfH m 5 ++ tbB (m.t.take k)) (wd := 4) rfl b c (by
    rw [List.length_append, mfH_five, tbB_len, List.length_take]; omega)
  rw [tbB_take_succ hk, ← List.append_assoc]
  exact this
/-- A writer, beside older memory. -/
def WrS (w0 w : World) (P : Nat) (A : Option Addr) (c : Nat) (s : WS) : Prop := Wo w w0.heap.size P A c s ∧ w0.heap.size ≤ P ∧ Below w0.heap.size w0 w
/-- .. and one more block, which it does not touch. -/
def WrK (w0 w : World) (P : Nat) (A : Option Addr) (c : Nat) (s : WS) (L : Nat) (T : TypeId) (cs : List Value) : Prop := WrS w0 w P A c s ∧ Bk w L T cs ∧ ¬ Wset P A L
theorem wset_new {w : World} {base P c : Nat} {A : Option Addr} {s : WS} (h : Wo w base P A c s) {k : Nat} (hk : w.heap.size ≤ k) : ¬ Wset P A k := by
  rintro (e | ⟨a, ha, e⟩)
  · have := h.1.lt; omega
  · have := (own_ge h.2.1 a ha).2; omega
theorem wset_step {w : World} {P k : Nat} {A A' : Option Addr} (h : ¬ Wset P A k) (hk : k < w.heap.size) (hA : ∀ a, A' = some a → (∃ b, A = some b ∧ a.block = b.block) ∨ w.heap.size ≤ a.block) : ¬ Wset P A' k := by
  rintro (e | ⟨a, ha, e⟩)
  · exact h (.inl e)
  · rcases hA a ha with ⟨b, hb, e2⟩ | e2
    · exact h (.inr ⟨b, hb, by omega⟩)
    · omega
theorem WrS.below {w0 w w' : World} {P c : Nat} {A : Option Addr} {s : WS} (h : WrS w0 w P A c s) (hb : Below w.heap.size w w') : WrS w0 w' P A c s := ⟨h.1.below hb, h.2.1, below_base h.2.2 hb h.2.2.size⟩
theorem WrK.below {w0 w w' : World} {P c L : Nat} {A : Option Addr} {s : WS} {T : TypeId} {cs : List Value} (h : WrK w0 w P A c s L T cs) (hb : Below w.heap.size w w') : WrK w0 w' P A c s L T cs := ⟨h.1.below hb, h.2.1.belowS hb, h.2.2⟩
theorem WrS.step {w0 w w' : World} {P c : Nat} {A : Option Addr} {s s' : WS} {x : Int} {e : Ending} (h : WrS w0 w P A c s) (hl : LyPost w w0.heap.size P A x s' e w') : e = .returned (.int .i64 x) ∧ ∃ A' c', WrS w0 w' P A' c' s' ∧ (∀ k, k < w.heap.size → ¬ Wset P A k → ¬ Wset P A' k) ∧ Chg (Wset P A) w w' := by
  obtain ⟨he, A', c', l1, l2, l3⟩ := hl
  refine ⟨he, A', c', ⟨l1, h.2.1, l3.below h.2.2 (fun k _ hk => ?_) h.2.2.size⟩, fun k hk hn => wset_step hn hk l2, l3⟩
  rcases hk with e | ⟨a, ha, e⟩
  · have := h.2.1; omega
  · have := (own_ge h.1.2.1 a ha).1; omega
theorem WrK.step {w0 w w' : World} {P c L : Nat} {A : Option Addr} {s s' : WS} {x : Int} {e : Ending} {T : TypeId} {cs : List Value} (h : WrK w0 w P A c s L T cs) (hl : LyPost w w0.heap.size P A x s' e w') : e = .returned (.int .i64 x) ∧ ∃ A' c', WrK w0 w' P A' c' s' L T cs := by
  obtain ⟨he, A', c', h1, h2, h3⟩ := h.1.step hl
  exact ⟨he, A', c', h1, h3.bk h.2.1 h.2.2, h2 L h.2.1.lt h.2.2⟩
end Go.Proofs.Ythnoeiiebokooaa
