/- Chapter 20: New. -/
import Derived.Test.YtidoembkcaojoaaGo20
namespace Go.Proofs.Ytidoembkcaojoaa
open Go.RowKit
set_option linter.unusedVariables false
theorem bool_info : (Try.prog.info? 4).map (fun i => (i.zero, i.size, i.bytes)) = some (some (.bool false), 1, 1) := by kernel_rfl
theorem ints_info : (Try.prog.info? 23).map (fun i => (i.zero, i.size, i.bytes)) = some (some (.slice none 0 0), 1, 24) := by kernel_rfl
theorem made_one {z : Value} (hz : z.cells = #[z]) (m : Nat) : madeCells z.cells (m * 1) = (List.replicate m z).toArray := by
  rw [hz]
  apply Array.ext
  · simp [madeCells]
  · intro i h1 h2
    simp [madeCells, Nat.mod_one]
theorem run_make_bools (m : Nat) (hm : m ≤ 1000000) (w : World) : (Instr.makeSlice 84 (.int .i64 (m : Int)) (.int .i64 (m : Int))).run Try.prog w = .ok (.slice (some ⟨w.heap.size, 0, none⟩) m m) (w.alloc (.cells (List.replicate m (.bool false)).toArray 4)) := by
  obtain ⟨i0, hi0, hz0, hz1, hz2⟩ := info_parts bool_info
  have := run_make (P := Try.prog) w 84 4 i0 (.bool false) Try.underlying84 hi0 hz0 .i64 .i64 m m (by omega) (by omega) (by rw [hz2]; omega) (by omega)
  rw [hz1] at this
  simp only [Int.toNat_natCast] at this
  rw [made_one rfl] at this
  exact this
theorem run_make_rows (m : Nat) (hm : m ≤ 1000000) (w : World) : (Instr.makeSlice 31 (.int .i64 (m : Int)) (.int .i64 (m : Int))).run Try.prog w = .ok (.slice (some ⟨w.heap.size, 0, none⟩) m m) (w.alloc (.cells (List.replicate m (.slice none 0 0)).toArray 23)) := by
  obtain ⟨i0, hi0, hz0, hz1, hz2⟩ := info_parts ints_info
  have := run_make (P := Try.prog) w 31 23 i0 (.slice none 0 0) Try.underlying31 hi0 hz0 .i64 .i64 m m (by omega) (by omega) (by rw [hz2]; omega) (by omega)
  rw [hz1] at this
  simp only [Int.toNat_natCast] at this
  rw [made_one rfl] at this
  exact this
theorem bkA0 (w : World) (cs : List Value) (t : TypeId) (o1 o2 : Obj) : Bk (((w.alloc (.cells cs.toArray t)).alloc o1).alloc o2).drew w.heap.size t cs := ((Bk.new w t cs).alloc o1).alloc o2
theorem bkA1 (w : World) (cs : List Value) (t : TypeId) (o0 o2 : Obj) : Bk (((w.alloc o0).alloc (.cells cs.toArray t)).alloc o2).drew (w.heap.size + 1) t cs := by
  have := (Bk.new (w.alloc o0) t cs).alloc o2
  rw [World.size_alloc] at this
  exact this
theorem bkA2 (w : World) (cs : List Value) (t : TypeId) (o0 o1 : Obj) : Bk (((w.alloc o0).alloc o1).alloc (.cells cs.toArray t)).drew (w.heap.size + 1 + 1) t cs := by
  have := Bk.new ((w.alloc o0).alloc o1) t cs
  rw [World.size_alloc, World.size_alloc] at this
  exact this
theorem belA3 (w : World) (o0 o1 o2 : Obj) : Below w.heap.size w (((w.alloc o0).alloc o1).alloc o2).drew :=
  ((((Below.refl _ _).alloc (Nat.le_refl _) o0).alloc (by rw [World.size_alloc]; omega) o1).alloc (by rw [World.size_alloc, World.size_alloc]; omega) o2).drew
def gm0 (k : Nat) (most : Int) : GM := ⟨List.replicate k false, fun _ => [], [], most, k, 0⟩
def gl0 (KB WB : Nat) : GL := ⟨KB, WB, fun _ => none, fun _ => 0, none, 0, fun _ => none, fun _ => 0⟩
def tg0 (G KB WB : Nat) (b : Nat) : Option Nat := if b = G then some 0 else if b = KB then some 1 else if b = WB then some 2 else none
theorem gm_new {w0 w : World} {G KB WB k : Nat} {most : Int} (hG : Bk w G 93 [.slice (some ⟨KB, 0, none⟩) k k, .slice (some ⟨WB, 0, none⟩) k k, .slice none 0 0, .int .i64 most, .int .i64 k, .int .i64 0])
    (hK : Bk w KB 4 (List.replicate k (.bool false))) (hW : Bk w WB 23 (List.replicate k (.slice none 0 0))) (h1 : G ≠ KB) (h2 : G ≠ WB) (h3 : KB ≠ WB) (b1 : w0.heap.size ≤ G) (b2 : w0.heap.size ≤ KB) (b3 : w0.heap.size ≤ WB) (hm : most ≠ 0) (hk : k ≤ 65536) :
    Gm w w0.heap.size G (tg0 G KB WB) (gl0 KB WB) (gm0 k most) := by
  have hl : (gm0 k most).known.length = k := by simp [gm0]
  have hGl := hG.lt
  have hKl := hK.lt
  have hWl := hW.lt
  refine ⟨?_, ?_, ?_, fun i hi => World.ownsRow_nil _ _ _ _, World.ownsRow_nil _ _ _ _, fun p hp => absurd hp (Nat.not_lt_zero _), ?_, ?_, ?_, fun a e => (by cases e), fun p a hp => absurd hp (Nat.not_lt_zero _), fun i a _ e => (by cases e), ?_, by omega, hm, by rw [hl]; exact hk, Nat.zero_le _, fun i => Nat.zero_le _⟩
  · rw [hl]; exact hG
  · show Bk w KB 4 ((List.replicate k false).map .bool)
    rw [List.map_replicate]; exact hK
  · rw [hl]
    have : (List.range k).map (wcell (gl0 KB WB) (gm0 k most)) = List.replicate k (.slice none 0 0) := by
      rw [List.eq_replicate_iff]
      refine ⟨by simp, fun x hx => ?_⟩
      obtain ⟨i, _, rfl⟩ := List.mem_map.1 hx
      rfl
    rw [this]; exact hW
  · unfold tg0; rw [if_pos rfl]
  · unfold tg0 gl0; rw [if_neg (fun e => h1 e.symm), if_pos rfl]
  · unfold tg0 gl0; rw [if_neg (fun e => h2 e.symm), if_neg (fun e => h3 e.symm), if_pos rfl]
  · intro b hb
    unfold tg0 at hb
    by_cases e1 : b = G
    · subst e1; omega
    · by_cases e2 : b = KB
      · subst e2; omega
      · by_cases e3 : b = WB
        · subst e3; omega
        · rw [if_neg e1, if_neg e2, if_neg e3] at hb; exact absurd rfl hb
def bad (k most : Int) : Prop := k < 1 ∨ 65536 < k ∨ most < 1 ∨ 1048576 < most
instance (k most : Int) : Decidable (bad k most) := by unfold bad; infer_instance
def NgPost (w : World) (k most : Int) (e : Ending) (w' : World) : Prop :=
  if bad k most then e = .returned (.tuple #[.pointer none, .int .i64 3]) ∧ w' = w
  else ∃ G KB WB, e = .returned (.tuple #[.pointer (some ⟨G, 0, none⟩), .int .i64 0]) ∧ Gm w' w.heap.size G (tg0 G KB WB) (gl0 KB WB) (gm0 k.toNat most) ∧ Below w.heap.size w w'
set_option maxRecDepth 100000 in
set_option maxHeartbeats 1600000 in
/-- New -/
theorem new_any {w : World} (k most : Int) : Calls Try.prog 37 #[.int .i64 k, .int .i64 most] w (NgPost w k most) := by
  by_cases hb : bad k most
  · have HB := Lib.hid (show NgPost w k most (.returned (.tuple #[.pointer none, .int .i64 3])) w from by unfold NgPost; rw [if_pos hb]; exact ⟨rfl, rfl⟩)
    by_cases h1 : k < 1
    · have d1 : decide (k < 1) = true := by simpa using h1
      clear hb h1
      go_enter Try.func37, Try.ntmps37
      go_wp2
      go_ret2
      exact HB.out
    · have d1 : decide (k < 1) = false := by simpa using h1
      by_cases h2 : 65536 < k
      · have d2 : decide (k > 65536) = true := by simpa using h2
        have d3 : decide (65536 < k) = true := by simpa using h2
        clear hb h1 h2
        go_enter Try.func37, Try.ntmps37
        go_wp2
        go_ret2
        exact HB.out
      · have d2 : decide (k > 65536) = false := by simpa using h2
        have d3 : decide (65536 < k) = false := by simpa using h2
        by_cases h3 : most < 1
        · have d4 : decide (most < 1) = true := by simpa using h3
          clear hb h1 h2 h3
          go_enter Try.func37, Try.ntmps37
          go_wp2
          go_ret2
          exact HB.out
        · have d4 : decide (most < 1) = false := by simpa using h3
          have d5 : decide (most > 1048576) = true := by unfold bad at hb; simp; omega
          have d6 : decide (1048576 < most) = true := by unfold bad at hb; simp; omega
          clear hb h1 h2 h3
          go_enter Try.func37, Try.ntmps37
          go_wp2
          go_ret2
          exact HB.out
  · have hb' := hb
    unfold bad at hb'
    obtain ⟨n, rfl⟩ : ∃ n : Nat, k = n := ⟨k.toNat, by omega⟩
    have d1 : decide ((n : Int) < 1) = false := by simp; omega
    have d1' : decide (n < 1) = false := by simp; omega
    have d2 : decide ((n : Int) > 65536) = false := by simp; omega
    have d3 : decide ((65536 : Int) < (n : Int)) = false := by simp; omega
    have d3' : decide (65536 < n) = false := by simp; omega
    have d4 : decide (most < 1) = false := by simp; omega
    have d5 : decide (most > 1048576) = false := by simp; omega
    have d6 : decide (1048576 < most) = false := by simp; omega
    have hmk1 := run_make_bools n (by omega)
    have hmk2 := run_make_rows n (by omega)
    have HB := Lib.hid (And.intro hb (show n ≤ 65536 ∧ most ≠ 0 from by omega))
    clear hb hb'
    generalize hZ1 : List.replicate n (Value.bool false) = Z1 at hmk1
    generalize hZ2 : List.replicate n (Value.slice none 0 0) = Z2 at hmk2
    have HZ := Lib.hid (And.intro hZ1 hZ2)
    clear hZ1 hZ2
    go_enter Try.func37, Try.ntmps37
    go_wp2_with fail
    go_region
    all_goals go_wp2_with fail
    all_goals go_ret2
    all_goals unfold NgPost
    all_goals rw [if_neg HB.out.1, Int.toNat_natCast]
    all_goals first
      | exact ⟨w.heap.size + 1 + 1, w.heap.size, w.heap.size + 1, rfl, gm_new (bkA2 w _ _ _ _) (by rw [HZ.out.1]; exact bkA0 w _ _ _ _) (by rw [HZ.out.2]; exact bkA1 w _ _ _ _) (by omega) (by omega) (by omega) (by omega) (by omega) (by omega) HB.out.2.2 HB.out.2.1, belA3 w _ _ _⟩
      | exact ⟨w.heap.size + 1 + 1, w.heap.size + 1, w.heap.size, rfl, gm_new (bkA2 w _ _ _ _) (by rw [HZ.out.1]; exact bkA1 w _ _ _ _) (by rw [HZ.out.2]; exact bkA0 w _ _ _ _) (by omega) (by omega) (by omega) (by omega) (by omega) (by omega) HB.out.2.2 HB.out.2.1, belA3 w _ _ _⟩
end Go.Proofs.Ytidoembkcaojoaa
