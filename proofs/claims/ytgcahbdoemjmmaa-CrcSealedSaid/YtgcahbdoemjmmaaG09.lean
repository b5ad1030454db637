/- What is lent; the law's own table; what is opened, told. -/
import Derived.Test.YtgcahbdoemjmmaaF09
namespace Go.Proofs.Ytgcahbdoemjmmaa
open Go.RowKit
set_option linter.unusedVariables false
def spare : List UInt8 := [201, 202, 203, 204]
def LentPost (w : World) (b : List UInt8) (n : Nat) (e : Ending) (w' : World) : Prop :=
  ∃ A c, e = .returned (.slice A n c) ∧ n + 4 ≤ c ∧ w'.ownsRow w.heap.size 5 1 (.slice A (n + 4) c) (n + 4) (bys (b ++ spare)) ∧ Below w.heap.size w w'
/-- artesiankit.LentBytes -/
theorem lent_any {w : World} {A : Option Addr} {n c : Nat} {b : List UInt8} (h : Rd w A n (bys b)) (hn : n ≤ 35184372088832) :
    Calls Try.prog 10 #[.slice A n c] w (LentPost w b n) := by
  have HR := Lib.hid h
  clear h
  obtain ⟨i0, hi0, hz0, hz1, hz2⟩ := info_parts u8_info
  go_enter Try.func10, Try.ntmps10
  go_upto_region 2 with (at_builtin; refine wpList_append_rd _ rfl (.tmp 4) (.tmp 5) _ rfl w.heap.size 5 i0 _ 1 1 Try.underlying22 hi0 hz0 hz1 hz2 rfl (by omega) _ 0 [] rfl (own_new0 w _ _ (Nat.le_refl _)) A n c (bys b) rfl (by simpa using HR.out.alloc _) (bys_one b) (by simp only [maxLen]; omega) (by omega) (by simp) ?_; intro v1 w1 hown1 hg1 hat1)
  have hb1 := ((Below.refl w.heap.size w).alloc (Nat.le_refl _) _).grown hg1 (by simp) (fun k hk => ((own_new0 w 5 _ (Nat.le_refl _)).lt k hk).1)
  have H1 := Lib.hid (And.intro (show w1.ownsRow w.heap.size 5 1 v1 n (bys b) by simpa using hown1) hb1)
  have hs1 := hb1.size
  clear hown1 hb1 hg1 hat1
  go_upto_region 3 with (at_builtin; refine wpList_append_rd _ rfl (.tmp 7) (.tmp 8) _ rfl w.heap.size 5 i0 _ 1 1 Try.underlying22 hi0 hz0 hz1 hz2 rfl (by omega) v1 n _ rfl (H1.out.1.alloc _) _ 4 4 (bys spare) rfl (by exact Rd.lit _ _ _ _ rfl _ rfl _ rfl) (bys_one _) (by simp only [maxLen]; omega) (by omega) (by simp; omega) ?_; intro v2 w2 hown2 hg2 hat2)
  have hb2 := (H1.out.2.alloc hs1 _).grown hg2 (by simp; omega) (fun j hj => (H1.out.1.lt j hj).1)
  rw [← bys_append] at hown2
  clear hg2 hat2
  obtain ⟨A2, c2, rfl, hc2, _, hl2, _⟩ := own_form hown2
  have H2 := Lib.hid (And.intro hown2 hb2)
  clear hown2 hb2 hl2
  have n0 : (0 : Int) ≤ (n : Int) := by omega
  have n1 : (n : Int) ≤ (c2 : Int) := by omega
  go_wp2_with fail
  go_ret
  exact ⟨A2, c2, rfl, hc2, H2.out.1, H2.out.2⟩
set_option maxRecDepth 100000 in
/-- artesianlaw09.opened -/
theorem opened_any {w : World} {A A' : Option Addr} {n c n' c' : Nat} {b l : List UInt8} {E : Int} (h : Rd w A n (bys b)) (h' : Rd w A' n' (bys l)) (hn : n ≤ 17592186044416) (hc : n ≤ c) :
    Calls Try.prog 22 #[.slice A n c, .int .i64 E, .slice A' n' c'] w fun e w' => e = .returned (.bool (decide (openE tableL b = E) && (openB tableL b == l))) ∧ Below w.heap.size w w' := by
  have HR := Lib.hid (And.intro h h')
  clear h h'
  go_enter Try.func22, Try.ntmps22
  go_wp2_with fail
  refine (crcOpen_any (Or.inl ⟨rfl, rfl⟩) HR.out.1 hn hc).mono ?_
  rintro e w1 ⟨A1, n1, c1, g1, rfl, hc1, hm1, hg1, hb1⟩
  have H1 := Lib.hid (And.intro (And.intro hm1.rd (HR.out.2.below hb1)) hb1)
  clear hm1 hb1
  obtain ⟨x, hx⟩ : ∃ x, x = openE tableL b := ⟨_, rfl⟩
  rw [← hx]
  have HX := Lib.hid hx
  clear hx
  by_cases hE : x = E
  · subst hE
    go_wp2_with fail
    refine (same_any H1.out.1.1 H1.out.1.2).mono ?_
    rintro e w2 ⟨rfl, rfl⟩
    go_wp2_with fail
    go_ret
    exact ⟨by rw [← HX.out]; simp, H1.out.2⟩
  · have hd : (x == E) = false := by simpa using hE
    go_wp2_with fail
    go_ret
    exact ⟨by rw [← HX.out]; simp [hE], H1.out.2⟩
def lawTab (mine : Bool) (which odd : Int) : List Nat := if mine then tableL.set (which % 256).toNat odd.toNat else tableL
theorem u32_wf {x : Int} (h : (Lit.int .u32 x).wf = true) : 0 ≤ x ∧ x < 4294967296 := by
  have h2 : (-0 ≤ x && x ≤ 4294967295) = true := h
  simp at h2
  omega
set_option maxRecDepth 100000 in
/-- artesianlaw09.table -/
theorem lawTab_any {w : World} (mine : Bool) (which odd : Int) (hw : (Lit.int .i64 which).wf = true) (ho : (Lit.int .u32 odd).wf = true) :
    Calls Try.prog 9 #[.bool mine, .int .i64 which, .int .u32 odd] w fun e w' => ∃ p, e = .returned (.pointer p) ∧ Tab w' p (lawTab mine which odd) ∧ Below w.heap.size w w' := by
  cases mine with
  | false =>
    clear hw ho
    go_enter Try.func9, Try.ntmps9
    go_wp2_with fail
    go_ret
    exact ⟨none, rfl, .inl ⟨rfl, rfl⟩, Below.refl _ _⟩
  | true =>
    obtain ⟨o0, o1⟩ := u32_wf ho
    have hz := tab_info
    rw [zeros_u32] at hz
    have HZ := Lib.hid hz
    have HW := Lib.hid hw
    clear hz hw ho
    go_enter Try.func9, Try.ntmps9
    go_wp2_with fail
    refine refTable_any.mono ?_
    rintro e w1 ⟨rfl, hb1⟩
    have H1 := Lib.hid hb1
    clear hb1
    go_upto_region 4 with (first
      | (with_reducible refine wpList_alloc_abs _ rfl 31 rfl (u32s (tabTo 0)) HZ.out ?_; intro w2 hb2 hl2 hs2; have H2 := Lib.hid (And.intro hb2 (below_base H1.out hl2 H1.out.size)); clear hb2 hl2)
      | (with_reducible refine wpList_store_bk rfl 31 (.tmp 7) (.tmp 10) rfl w1.heap.size (u32s tableL) rfl rfl _ _ H2.out.1 256 tab_size (by rw [u32s_length, tabTo_length (by omega)]) (by rw [u32s_length, tableL_length]) (u32s_one _) ?_; intro w3 hb3 hu3; have H3 := Lib.hid (And.intro hb3 (hu3.below H2.out.2 H2.out.2.size H1.out.size)); clear hb3 hu3))
    go_wp2_with fail
    refine (pick_any which 256 HW.out (by omega) (by omega)).mono ?_
    rintro e w4 ⟨rfl, rfl⟩
    have m0 : 0 ≤ which % 256 := Int.emod_nonneg _ (by omega)
    have m1 : which % 256 < 256 := Int.emod_lt_of_pos _ (by omega)
    obtain ⟨j, hj⟩ : ∃ j : Nat, (j : Int) = which % 256 := ⟨(which % 256).toNat, by omega⟩
    rw [← hj] at m0 m1 ⊢
    have HJ := Lib.hid hj
    clear hj
    have hjl : j < 256 := by omega
    have cx := H3.out.1.cell j
    rw [u32s_get (tableL_get j hjl)] at cx
    have fx := H3.out.1.frozen j
    go_wp2_with fail
    go_ret
    have hset := H3.out.1.set_ j (.int .u32 odd)
    rw [show odd = ((odd.toNat : Nat) : Int) from by omega, u32s_set] at hset
    refine ⟨_, rfl, .inr ⟨w1.heap.size, 31, rfl, ?_, ?_, ?_⟩, H3.out.2.setCell H1.out.size _⟩
    · unfold lawTab
      rw [← HJ.out, if_pos rfl, Int.toNat_natCast]
      rw [show ((odd.toNat : Nat) : Int) = odd from by omega] at hset
      exact hset
    · unfold lawTab; rw [if_pos rfl, List.length_set]; exact tableL_length
    · intro x hx
      unfold lawTab at hx
      rw [if_pos rfl] at hx
      rcases List.mem_or_eq_of_mem_set hx with h | h
      · exact tableL_lt x h
      · omega
end Go.Proofs.Ytgcahbdoemjmmaa
