/- Chapter 12: what Get comes to; its memory. -/
import Derived.Test.YthnoeiiebokooaaRq12
namespace Go.Proofs.Ythnoeiiebokooaa
open Go.RowKit
set_option linter.unusedVariables false
theorem take_len_le (s : RS) (n : Int) (may : Bool) : ((s.take n may).1.length : Int) ≤ max n 0 := by
  rcases s.take_len n may with h | ⟨_, h0, h1, _⟩
  · rw [h]; simp; omega
  · rw [h1]; omega
theorem get_range (s : RS) {wide : Nat} (hw : wide ≤ 8) : 0 ≤ (s.get wide).1 ∧ (s.get wide).1 ≤ 9223372036854775807 ∧ (s.get wide).1 < 256 ^ wide := by
  have hl := take_len_le s wide (wid wide)
  have hb := be_lt _ (s.take wide (wid wide)).1 rfl
  have hp : (256 : Nat) ^ (s.take wide (wid wide)).1.length ≤ 256 ^ wide := Nat.pow_le_pow_right (by omega) (by omega)
  have h0 : (0 : Int) < 256 ^ wide := Int.pow_pos (by omega)
  have h3 : ((be (s.take wide (wid wide)).1 : Nat) : Int) < ((256 ^ wide : Nat) : Int) := by omega
  rw [Int.natCast_pow] at h3
  unfold RS.get
  split
  · exact ⟨by omega, by omega, h0⟩
  · exact ⟨by simp only; omega, by simp only; omega, h3⟩
/-- The states ahead of the weights, and the numbers. -/
def gS (b : List UInt8) : Nat → RS
  | 0 => ⟨b, 0, 0, 0⟩
  | i + 1 => ((gS b i).get (fw i : Int)).2
def gV (b : List UInt8) (i : Nat) : Int := ((gS b i).get (fw i : Int)).1
def tS (s : RS) : Nat → RS
  | 0 => s
  | j + 1 => ((tS s j).get 4).2
def tV (s : RS) (j : Nat) : List Int := (List.range j).map fun i => ((tS s i).get 4).1
theorem tV_succ (s : RS) (j : Nat) : tV s (j + 1) = tV s j ++ [((tS s j).get 4).1] := by simp [tV, List.range_succ]
theorem tV_len (s : RS) (j : Nat) : (tV s j).length = j := by simp [tV]
def gQ (b : List UInt8) : Nat := (min (gV b 4) (gS b 5).rest).toNat
def pgM (b : List UInt8) : MF := ⟨gV b 0, gV b 1, gV b 2, gV b 3, tV (gS b 5) (gQ b)⟩
def pgB (b : List UInt8) : Bool := decide ((gQ b : Int) = gV b 4) && (decide ((tS (gS b 5) (gQ b)).fin = (0, 0)) && mfB (pgM b))
theorem fw_le (i : Nat) : fw i ≤ 8 := by
  unfold fw
  rcases (show i = 0 ∨ i = 1 ∨ i = 2 ∨ i = 3 ∨ i = 4 ∨ 5 ≤ i from by omega) with rfl | rfl | rfl | rfl | rfl | h
  all_goals first | decide | (rw [List.getD_eq_getElem?_getD, List.getElem?_eq_none (by simpa using h)]; decide)
theorem gV_range (b : List UInt8) (i : Nat) : R64 (gV b i) ∧ 0 ≤ gV b i := by
  have := get_range (gS b i) (fw_le i)
  unfold gV R64; omega
theorem gV_four (b : List UInt8) : gV b 4 < 65536 := by
  have := (get_range (gS b 4) (fw_le 4)).2.2
  exact this
theorem tV_range (s : RS) (j : Nat) : ∀ x ∈ tV s j, R64 x := by
  intro x hx
  unfold tV at hx
  obtain ⟨i, _, rfl⟩ := List.mem_map.1 hx
  have := get_range (tS s i) (show 4 ≤ 8 by omega)
  unfold R64
  have h4 : ((4 : Nat) : Int) = 4 := rfl
  rw [h4] at this
  omega
/-- Get's memory: the reader, the block of the five. -/
def GL (wa wr : World) (P : Nat) (B : Option Addr) (d : Nat) (s : RS) (L : Nat) (cs : List Value) : Prop :=
  Ro wr P B d s ∧ Bk wr L 50 cs ∧ wa.heap.size ≤ P ∧ L ≠ P ∧ (∀ a, B = some a → a.block ≠ L) ∧ Below wa.heap.size wa wr ∧ wa.heap.size ≤ L
section
variable {wa w w' : World} {P d L : Nat} {B : Option Addr} {s : RS} {cs : List Value}
theorem GL.below (h : GL wa w P B d s L cs) (hb : Below w.heap.size w w') : GL wa w' P B d s L cs :=
  ⟨h.1.below hb, h.2.1.belowS hb, h.2.2.1, h.2.2.2.1, h.2.2.2.2.1, below_base h.2.2.2.2.2.1 hb h.2.2.2.2.2.1.size, h.2.2.2.2.2.2⟩
theorem GL.get {r : Int × RS} {e : Ending} (h : GL wa w P B d s L cs) (hg : GtPost w P B d r e w') : e = .returned (.int .i64 r.1) ∧ GL wa w' P B d r.2 L cs ∧ Chg (fun k => k = P) w w' :=
  ⟨hg.1, ⟨hg.2.1, hg.2.2.bk h.2.1 h.2.2.2.1, h.2.2.1, h.2.2.2.1, h.2.2.2.2.1, hg.2.2.below h.2.2.2.2.2.1 (fun k _ e => by subst e; exact h.2.2.1) h.2.2.2.2.2.1.size, h.2.2.2.2.2.2⟩, hg.2.2⟩
theorem GL.set (h : GL wa w P B d s L cs) (i : Nat) (u : Value) : GL wa (w.setCell ⟨L, i, none⟩ u) P B d s L (cs.set i u) := by
  have hc : Chg (fun k => k = L) w (w.setCell ⟨L, i, none⟩ u) := (Chg.refl (fun k => k = L) w).set_ (show L = L from rfl) _ _
  exact ⟨h.1.chg hc (fun e => h.2.2.2.1 e.symm) h.2.2.2.2.1, h.2.1.set_ i u, h.2.2.1, h.2.2.2.1, h.2.2.2.2.1, hc.below h.2.2.2.2.2.1 (fun k _ e => by subst e; exact h.2.2.2.2.2.2) h.2.2.2.2.2.1.size, h.2.2.2.2.2.2⟩
end
/-- .. and the manifest. -/
def GT (wa wr : World) (P : Nat) (B : Option Addr) (d : Nat) (s : RS) (L : Nat) (cs : List Value) (G b1 : Nat) (v0 v1 v2 v3 : Int) (A : Option Addr) (q c : Nat) (l : List Int) : Prop :=
  GL wa wr P B d s L cs ∧ Bk wr G 27 [.int .i64 v0, .int .i64 v1, .int .i64 v2, .int .i64 v3, .slice A q c] ∧ wr.ownsRow b1 3 1 (.slice A q c) q (nums l) ∧ (G < b1 ∧ P < b1 ∧ L < b1 ∧ (∀ a, B = some a → a.block < b1) ∧ b1 ≤ wr.heap.size) ∧ G ≠ P ∧ G ≠ L ∧ (∀ a, B = some a → a.block ≠ G) ∧ wa.heap.size ≤ G
section
variable {wa w w' : World} {P d L G b1 q c : Nat} {A B : Option Addr} {s : RS} {cs : List Value} {v0 v1 v2 v3 : Int} {l : List Int}
theorem GT.below (h : GT wa w P B d s L cs G b1 v0 v1 v2 v3 A q c l) (hb : Below w.heap.size w w') : GT wa w' P B d s L cs G b1 v0 v1 v2 v3 A q c l :=
  ⟨h.1.below hb, h.2.1.belowS hb, own_below h.2.2.1 hb, ⟨h.2.2.2.1.1, h.2.2.2.1.2.1, h.2.2.2.1.2.2.1, h.2.2.2.1.2.2.2.1, Nat.le_trans h.2.2.2.1.2.2.2.2 hb.size⟩, h.2.2.2.2⟩
theorem GT.get {r : Int × RS} {e : Ending} (h : GT wa w P B d s L cs G b1 v0 v1 v2 v3 A q c l) (hg : GtPost w P B d r e w') : e = .returned (.int .i64 r.1) ∧ GT wa w' P B d r.2 L cs G b1 v0 v1 v2 v3 A q c l := by
  obtain ⟨he, h1, hc⟩ := h.1.get hg
  exact ⟨he, h1, hc.bk h.2.1 h.2.2.2.2.1, hc.own h.2.2.1 (fun a ha e => by have := (own_ge h.2.2.1 a ha).1; have := h.2.2.2.1.2.1; omega), ⟨h.2.2.2.1.1, h.2.2.2.1.2.1, h.2.2.2.1.2.2.1, h.2.2.2.1.2.2.2.1, Nat.le_trans h.2.2.2.1.2.2.2.2 hc.size⟩, h.2.2.2.2⟩
theorem GT.app {o : Obj} {w1 : World} {A1 : Option Addr} {c1 : Nat} {x : Int} (h : GT wa w P B d s L cs G b1 v0 v1 v2 v3 A q c l) (hg : (w.alloc o).grownBy w1 (Value.slice A q c).ownBlock) (ho : w1.ownsRow b1 3 1 (.slice A1 (q + 1) c1) (q + 1) (nums (l ++ [x]))) :
    Bk w1 G 27 [.int .i64 v0, .int .i64 v1, .int .i64 v2, .int .i64 v3, .slice A q c] ∧ GT wa (w1.setCell ⟨G, 4, none⟩ (.slice A1 (q + 1) c1)) P B d s L cs G b1 v0 v1 v2 v3 A1 (q + 1) c1 (l ++ [x]) := by
  have hc : Chg (fun k => b1 ≤ k) w w1 := (Chg.of_below (S := fun k => b1 ≤ k) ((Below.refl _ _).alloc (Nat.le_refl _) o)).trans (Chg.of_grown (S := fun k => b1 ≤ k) hg fun k hk => by
    rw [own_block] at hk
    cases A with
    | none => cases hk
    | some a => have := (own_ge h.2.2.1 a rfl).1; have hk' : a.block = k := by simpa using hk
                omega) fun _ _ z => z
  have hk := hc.bk h.2.1 (by have := h.2.2.2.1.1; omega)
  have hs : Chg (fun k => k = G) w1 (w1.setCell ⟨G, 4, none⟩ (.slice A1 (q + 1) c1)) := (Chg.refl (fun k => k = G) w1).set_ (show G = G from rfl) _ _
  obtain ⟨g1, g2, g3, g4, g5, g6, g7⟩ := h.1
  obtain ⟨j1, j2, j3, j4, j5⟩ := h.2.2.2.1
  obtain ⟨k1, k2, k3, k4⟩ := h.2.2.2.2
  refine ⟨hk, ⟨(g1.chg hc (by omega) (fun a ha z => by have := j4 a ha; omega)).chg hs (fun e => k1 e.symm) k3, hs.bk (hc.bk g2 (by omega)) (fun e => k2 e.symm), g3, g4, g5, hs.below (hc.below g6 (fun k _ z => by have := g6.size; omega) g6.size) (fun k _ e => by subst e; exact k4) (Nat.le_trans g6.size hc.size), g7⟩, hk.set_ 4 _, hs.own ho (fun a ha e => by have := (own_ge ho a ha).1; omega), ⟨j1, j2, j3, j4, Nat.le_trans j5 (Nat.le_trans hc.size hs.size)⟩, k1, k2, k3, k4⟩
end
/-- A return of a manifest that lies in a block, and a number. -/
theorem ret_mfE {R : Ending → World → Prop} {fn : Func} {p q : Tmp} (h : fn.results = #[.cell p 27, .tmp q]) {a : Act} {w : World} {g : Nat} {t : TypeId} {v0 v1 v2 v3 v4 v5 : Value} (hp : a.tmps.getD p undef = .pointer (some ⟨g, 0, none⟩)) (hq : a.tmps.getD q undef = v5) (hd : a.defers = [])
    (hg : Bk w g t [v0, v1, v2, v3, v4]) (hR : R (.returned (.tuple #[.agg #[v0, v1, v2, v3, v4], v5])) w) : bodyPost Try.prog fn R .ret a w := by
  have hp' : a.tmps[p]?.getD undef = .pointer (some ⟨g, 0, none⟩) := by simpa using hp
  have hq' : a.tmps[q]?.getD undef = v5 := by simpa using hq
  refine bodyPost_ret (v := .tuple #[.agg #[v0, v1, v2, v3, v4], v5]) ?_ hd hR
  have hl := run_loadVar_row (ty := 27) w g t #[v0, v1, v2, v3, v4] (0, 0) _ hg Try.underlying27 rfl (by kernel_rfl)
  simp only [results, h, hp, hq, asAddr, List.mapM_toArray, List.mapM_cons, List.mapM_nil, Sem.run_bind, Sem.run_pure]
  simp [hl]
end Go.Proofs.Ythnoeiiebokooaa
