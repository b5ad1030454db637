/- artesiankit.LentBytes, KeptBytes. -/
import Derived.Test.YtidoembkcaojoaaKit
import Derived.BigRegion
namespace Go.Proofs.Ytidoembkcaojoaa
open Go.RowKit
set_option linter.unusedVariables false
def spare : List UInt8 := [201, 202, 203, 204]
def LentPost (w : World) (b : List UInt8) (n : Nat) (e : Ending) (w' : World) : Prop :=
  ∃ A c, e = .returned (.slice A n c) ∧ n + 4 ≤ c ∧ w'.ownsRow w.heap.size 5 1 (.slice A (n + 4) c) (n + 4) (bys (b ++ spare)) ∧ Below w.heap.size w w'
/-- artesiankit.LentBytes -/
theorem lent_any {w : World} {A : Option Addr} {n c : Nat} {b : List UInt8} (h : Rd w A n (bys b)) (hn : n ≤ 140737488351232) :
    Calls Try.prog 28 #[.slice A n c] w (LentPost w b n) := by
  have HR := Lib.hid h
  clear h
  obtain ⟨i0, hi0, hz0, hz1, hz2⟩ := info_parts u8_info
  go_enter Try.func28, Try.ntmps28
  go_upto_region 2 with (at_builtin; refine wpList_append_rd _ rfl (.tmp 4) (.tmp 5) _ rfl w.heap.size 5 i0 _ 1 1 Try.underlying22 hi0 hz0 hz1 hz2 rfl (by omega) _ 0 [] rfl (own_new0 w _ _ (Nat.le_refl _)) A n c (bys b) rfl (by simpa using HR.out.alloc _) (bys_one b) (by simp only [maxLen]; omega) (by omega) (by simp) ?_; intro v1 w1 hown1 hg1 hat1)
  have hb1 := ((Below.refl w.heap.size w).alloc (Nat.le_refl _) _).grown hg1 (by simp) (fun k hk => ((own_new0 w 5 _ (Nat.le_refl _)).lt k hk).1)
  have H1 := Lib.hid (And.intro (show w1.ownsRow w.heap.size 5 1 v1 n (bys b) by simpa using hown1) hb1)
  have hs1 := hb1.size
  clear hown1 hb1 hg1 hat1
  go_upto_region 3 with (at_builtin; refine wpList_append_rd _ rfl (.tmp 7) (.tmp 8) _ rfl w.heap.size 5 i0 _ 1 1 Try.underlying22 hi0 hz0 hz1 hz2 rfl (by omega) v1 n _ rfl (H1.out.1.alloc _) _ 4 4 (bys spare) rfl (by exact Rd.lit _ _ _ _ rfl _ rfl _ rfl) (bys_one _) (by simp only [maxLen]; omega) (by omega) (by simp; omega) ?_; intro v2 w2 hown2 hg2 hat2)
  have hb2 := (H1.out.2.alloc hs1 _).grown hg2 (by simp; omega) (fun j hj => (H1.out.1.lt j hj).1)
  rw [← bys_append] at hown2
  clear hg2 hat2
  obtain ⟨A2, c2, rfl, hc2, _, hl2, _⟩ := own_form hown2
  have H2 := Lib.hid (And.intro hown2 hb2)
  clear hown2 hb2 hl2
  have n0 : (0 : Int) ≤ (n : Int) := by omega
  have n1 : (n : Int) ≤ (c2 : Int) := by omega
  go_wp2_with fail
  go_ret
  exact ⟨A2, c2, rfl, hc2, H2.out.1, H2.out.2⟩
set_option maxRecDepth 100000 in
set_option maxHeartbeats 8000000 in
theorem kept_any {w : World} {A A' : Option Addr} {n c c' : Nat} {b : List UInt8} (h : Rd w A (n + 4) (bys (b ++ spare))) (h' : Rd w A' n (bys b)) (hn : n ≤ 140737488351232) (hc : n + 4 ≤ c) :
    Calls Try.prog 30 #[.slice A n c, .slice A' n c'] w fun e w' => e = .returned (.bool true) ∧ Below w.heap.size w w' := by
  have hl : b.length = n := by have := h'.1; simpa [bys_length] using this
  obtain ⟨g, off, rfl, _, _⟩ := h.form (by omega)
  have hT : Rd w (some ⟨g, off, none⟩) n (bys b) := by
    have := h.take_ (k := n) (by omega)
    rw [bys_take, List.take_append_of_le_length (by omega), List.take_of_length_le (by omega)] at this
    exact this
  have hS : Rd w (some ⟨g, off + n, none⟩) 4 (bys spare) := by
    have := h.cut_at (k := n) (by omega) (A' := some ⟨g, off + n, none⟩) (by intro _; rfl)
    rw [show n + 4 - n = 4 from by omega, show (bys (b ++ spare)).drop n = bys spare from by rw [bys_append, List.drop_left' (by rw [bys_length, hl])]] at this
    exact this
  have n0 : (0 : Int) ≤ (n : Int) := by omega
  have n1 : (n : Int) ≤ (c : Int) := by omega
  have n4 : (n : Int) + 4 ≤ (c : Int) := by omega
  have n5 : (n : Int) ≤ 140737488351232 := by omega
  have t1 := run_bytes_text (P := Try.prog) (c := c) hT 22 5 9 Try.underlying22 Try.underlying5 Try.underlying9
  have t2 := run_bytes_text (P := Try.prog) (c := c') h' 22 5 9 Try.underlying22 Try.underlying5 Try.underlying9
  have t3 := run_bytes_text (P := Try.prog) (c := c - n) hS 22 5 9 Try.underlying22 Try.underlying5 Try.underlying9
  have d1 := run_bytes_text (P := Try.prog) (c := c) (w := w.drew) (hT.drewN 1) 22 5 9 Try.underlying22 Try.underlying5 Try.underlying9
  have d2 := run_bytes_text (P := Try.prog) (c := c') (w := w.drew) (h'.drewN 1) 22 5 9 Try.underlying22 Try.underlying5 Try.underlying9
  have d3 := run_bytes_text (P := Try.prog) (c := c - n) (w := w.drew) (hS.drewN 1) 22 5 9 Try.underlying22 Try.underlying5 Try.underlying9
  obtain ⟨w2, hw2⟩ : ∃ w2 : World, w2 = (w.alloc (.cells #[.int .u8 201, .int .u8 202, .int .u8 203, .int .u8 204] 5)).drew := ⟨_, rfl⟩
  have hT2 : Rd w2 (some ⟨g, off, none⟩) n (bys b) := by rw [hw2]; exact (hT.alloc _).drewN 1
  have h2' : Rd w2 A' n (bys b) := by rw [hw2]; exact (h'.alloc _).drewN 1
  have hS2 : Rd w2 (some ⟨g, off + n, none⟩) 4 (bys spare) := by rw [hw2]; exact (hS.alloc _).drewN 1
  have hL2 : Rd w2 (some ⟨w.heap.size, 0, none⟩) 4 (bys spare) := by rw [hw2]; exact (Rd.lit _ _ _ _ rfl _ rfl _ rfl).drewN 1
  have e1 := run_bytes_text (P := Try.prog) (c := c) hT2 22 5 9 Try.underlying22 Try.underlying5 Try.underlying9
  have e2 := run_bytes_text (P := Try.prog) (c := c') h2' 22 5 9 Try.underlying22 Try.underlying5 Try.underlying9
  have e3 := run_bytes_text (P := Try.prog) (c := c - n) hS2 22 5 9 Try.underlying22 Try.underlying5 Try.underlying9
  have e4 := run_bytes_text (P := Try.prog) (c := 4) hL2 22 5 9 Try.underlying22 Try.underlying5 Try.underlying9
  rw [hw2] at e1 e2 e3 e4
  clear hT2 h2' hS2 hL2 hw2
  go_enter Try.func30, Try.ntmps30
  go_upto_region 2 with fail
  clear h h' hT hS
  go_region
  go_wp2_with fail
  go_ret
  exact ⟨rfl, below_dN ((Below.refl _ _).alloc (Nat.le_refl _) _) 1⟩
end Go.Proofs.Ytidoembkcaojoaa
