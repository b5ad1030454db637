/- What is lent; the law's own table; what is opened, told. -/
import Derived.Test.YtpfamjgdfcnieaaF09
namespace Go.Proofs.Ytpfamjgdfcnieaa
open Go.RowKit
set_option linter.unusedVariables false
def spare : List UInt8 := [201, 202, 203, 204]
def LentPost (w : World) (b : List UInt8) (n : Nat) (e : Ending) (w' : World) : Prop :=
  ∃ A c, e = .returned (.slice A n c) ∧ n + 4 ≤ c ∧ w'.ownsRow w.heap.size 5 1 (.slice A (n + 4) c) (n + 4) (bys (b ++ spare)) ∧ Below w.heap.size w w'
/-- artesiankit.LentBytes -/
theorem lent_any {w : World} {A : Option Addr} {n c : Nat} {b : List UInt8} (h : Rd w A n (bys b)) (hn : n ≤ 35184372088832) :
    Calls Try.prog 10 #[.slice A n c] w (LentPost w b n) := by
  have HR := Lib.hid h
  clear h
  obtain ⟨i0, hi0, hz0, hz1, hz2⟩ := info_parts u8_info
  go_enter Try.func10, Try.ntmps10
  go_upto_region 2 with (at_builtin; refine wpList_append_rd _ rfl (.tmp 4) (.tmp 5) _ rfl w.heap.size 5 i0 _ 1 1 Try.underlying22 hi0 hz0 hz1 hz2 rfl (by omega) _ 0 [] rfl (own_new0 w _ _ (Nat.le_refl _)) A n c (bys b) rfl (by simpa using HR.out.alloc _) (bys_one b) (by simp only [maxLen]; omega) (by omega) (by simp) ?_; intro v1 w1 hown1 hg1 hat1)
  have hb1 := ((Below.refl w.heap.size w).alloc (Nat.le_refl _) _).grown hg1 (by simp) (fun k hk => ((own_new0 w 5 _ (Nat.le_refl _)).lt k hk).1)
  have H1 := Lib.hid (And.intro (show w1.ownsRow w.heap.size 5 1 v1 n (bys b) by simpa using hown1) hb1)
  have hs1 := hb1.size
  clear hown1 hb1 hg1 hat1
  go_upto_region 3 with (at_builtin; refine wpList_append_rd _ rfl (.tmp 7) (.tmp 8) _ rfl w.heap.size 5 i0 _ 1 1 Try.underlying22 hi0 hz0 hz1 hz2 rfl (by omega) v1 n _ rfl (H1.out.1.alloc _) _ 4 4 (bys spare) rfl (by exact Rd.lit _ _ _ _ rfl _ rfl _ rfl) (bys_one _) (by simp only [maxLen]; omega) (by omega) (by simp; omega) ?_; intro v2 w2 hown2 hg2 hat2)
  have hb2 := (H1.out.2.alloc hs1 _).grown hg2 (by simp; omega) (fun j hj => (H1.out.1.lt j hj).1)
  rw [← bys_append] at hown2
  clear hg2 hat2
  obtain ⟨A2, c2, rfl, hc2, _, hl2, _⟩ := own_form hown2
  have H2 := Lib.hid (And.intro hown2 hb2)
  clear hown2 hb2 hl2
  have n0 : (0 : Int) ≤ (n : Int) := by omega
  have n1 : (n : Int) ≤ (c2 : Int) := by omega
  go_wp2_with fail
  go_ret
  exact ⟨A2, c2, rfl, hc2, H2.out.1, H2.out.2⟩
end Go.Proofs.Ytpfamjgdfcnieaa
