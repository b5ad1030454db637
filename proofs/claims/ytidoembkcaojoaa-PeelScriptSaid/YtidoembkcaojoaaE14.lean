/- Small functions of chapter 14: what each comes to. -/
import Derived.Test.YtidoembkcaojoaaB14
import Derived.Test.YtidoembkcaojoaaQ14
namespace Go.Proofs.Ytidoembkcaojoaa
open Go.RowKit
set_option linter.unusedVariables false
theorem eq_of_gi {xs ys : List Int} (hl : xs.length = ys.length) (h : ∀ j, j < xs.length → gi xs j = gi ys j) : xs = ys := by
  refine List.ext_getElem hl fun i h1 h2 => ?_
  have := h i h1
  rwa [gi_get h1, gi_get h2] at this
set_option maxRecDepth 100000 in
/-- artesiankit.SameInts -/
theorem sameInts_any {w : World} {A A' : Option Addr} {n n' c c' : Nat} {xs ys : List Int} (h : Rd w A n (nums xs)) (h' : Rd w A' n' (nums ys)) (hn : n ≤ 140737488351232) :
    Calls Try.prog 16 #[.slice A n c, .slice A' n' c'] w fun e w' => e = .returned (.bool (xs == ys)) ∧ Below w.heap.size w w' := by
  have hx : xs.length = n := by have := h.1; simpa [nums_length] using this
  have hy : ys.length = n' := by have := h'.1; simpa [nums_length] using this
  by_cases hne : n = n'
  · subst hne
    have HX := Lib.hid (And.intro hx (And.intro hy hn))
    have HR := Lib.hid (And.intro h h')
    have hn' : (n : Int) ≤ 140737488351232 := by omega
    clear hx hy h h' hn
    go_enter Try.func16, Try.ntmps16
    go_wp2
    go_loopw [5] (fun i wr => ∃ (k : Nat), k ≤ n ∧ i = .int .i64 k ∧ (∀ j, j < k → gi xs j = gi ys j) ∧ Rd wr A n (nums xs) ∧ Rd wr A' n (nums ys) ∧ Below w.heap.size w wr) (fun i wr => n - (intOf i).toNat)
    case atStart => exact ⟨0, by omega, rfl, fun j hj => by omega, HR.out.1, HR.out.2, Below.refl _ _⟩
    case round =>
      obtain ⟨k, hk, rfl, hall, hr, hr', hb⟩ := hrel
      clear HR
      have HM := Lib.hid (And.intro hall (And.intro hr (And.intro hr' hb)))
      clear hall hb
      by_cases hlt : k < n
      · obtain ⟨b, off, rfl, hbl, hc⟩ := hr.form (by omega)
        obtain ⟨b', off', rfl, hbl', hc'⟩ := hr'.form (by omega)
        have cx := hc k _ (nums_gi (by have := HX.out.1; omega))
        have cy := hc' k _ (nums_gi (by have := HX.out.2.1; omega))
        have km : (k : Int) < (n : Int) := by omega
        have HL := Lib.hid hlt
        clear hc hc' hbl hbl' hr hr' hlt hk
        by_cases he : gi xs k = gi ys k
        · have hd : (gi xs k != gi ys k) = false := by simp [he]
          have HE := Lib.hid he
          clear he
          go_wp2_with fail
          go_quiet (fail)
          go_wp2
          refine ⟨⟨k + 1, by have := HL.out; omega, by go_num, fun j hj => ?_, HM.out.2.1.drewN _, HM.out.2.2.1.drewN _, below_dN HM.out.2.2.2 _⟩, by have := HL.out; simp [intOf]; omega⟩
          rcases (show j < k ∨ j = k from by omega) with x | x
          · exact HM.out.1 j x
          · subst x; exact HE.out
        · have hd : (gi xs k != gi ys k) = true := by simpa using he
          have HE := Lib.hid he
          clear he
          go_wp2_with fail
          go_quiet (fail)
          go_wp2
          go_ret
          refine ⟨ret_bool ?_, below_dN HM.out.2.2.2 _⟩
          symm
          rw [beq_eq_false_iff_ne]
          intro e
          exact HE.out (by rw [e])
      · obtain rfl : k = n := by omega
        clear hr hr' hlt hk
        go_wp2
        go_ret
        refine ⟨ret_bool ?_, HM.out.2.2.2⟩
        symm
        rw [beq_iff_eq]
        exact eq_of_gi (by rw [HX.out.1, HX.out.2.1]) fun j hj => HM.out.1 j (by have := HX.out.1; omega)
  · have hd : ((n : Int) != (n' : Int)) = true := by simp; omega
    have HE := Lib.hid (And.intro hx (And.intro hy hne))
    clear hx hy hne h h'
    go_enter Try.func16, Try.ntmps16
    go_wp2
    go_ret
    refine ⟨ret_bool ?_, Below.refl _ _⟩
    symm
    rw [beq_eq_false_iff_ne]
    intro e
    have := HE.out
    rw [e] at this
    omega
/-- artesiankit.CopyInts -/
theorem copyInts_any {w : World} {A : Option Addr} {n c : Nat} {l : List Int} (h : Rd w A n (nums l)) (hn : n ≤ 17592186043904) :
    Calls Try.prog 27 #[.slice A n c] w fun e w' => ∃ v, e = .returned v ∧ w'.ownsRow w.heap.size 3 1 v n (nums l) ∧ Below w.heap.size w w' := by
  obtain ⟨i0, hi0, hz0, hz1, hz2⟩ := info_parts u3_info
  go_enter Try.func27, Try.ntmps27
  go_wp2_with (at_builtin; refine wpList_append_rd _ rfl (.tmp 3) (.tmp 4) _ rfl w.heap.size 3 i0 _ 1 8 Try.underlying23 hi0 hz0 hz1 hz2 rfl (by omega) _ 0 [] rfl (own_new0 w _ _ (Nat.le_refl _)) A n c (nums l) rfl (by simpa using h.alloc _) (nums_one l) (by simp only [maxLen]; omega) (by omega) (by simp) ?_; intro v1 w1 hown1 hg1 hat1)
  go_ret
  refine ⟨v1, rfl, by simpa using hown1, ((Below.refl _ _).alloc (Nat.le_refl _) _).grown hg1 (by simp) (fun k hk => ((own_new0 w 3 _ (Nat.le_refl _)).lt k hk).1)⟩
/-- artesiankit.OverInts -/
theorem overInts_any {w : World} {g n c : Nat} {A : Option Addr} {l : List Int} {tl : List Value} (hA : 0 < n → A = some ⟨g, 0, none⟩) (hb : Bk w g 3 (nums l ++ tl)) (hl : l.length = n) (hn : n ≤ 1000000) :
    Calls Try.prog 32 #[.slice A n c] w fun e w' => e = .returned (.tuple #[]) ∧ Chg (fun k => k = g) w w' := by
  have HL := Lib.hid hl
  have hn' : (n : Int) ≤ 1000000 := by omega
  clear hl hn
  go_enter Try.func32, Try.ntmps32
  go_wp2
  go_loopw [2] (fun i wi => ∃ (k : Nat) (m : List Int), k ≤ n ∧ i = .int .i64 k ∧ m.length = n ∧ Bk wi g 3 (nums m ++ tl) ∧ Chg (fun k => k = g) w wi) (fun i wi => n - (intOf i).toNat)
  case atStart => exact ⟨0, l, by omega, rfl, HL.out, hb, Chg.refl _ _⟩
  case round =>
    clear hb
    obtain ⟨k, m, hk, rfl, hml, hbm, hch⟩ := hrel
    by_cases hlt : k < n
    · obtain rfl := hA (by omega)
      have hkm : k < m.length := by omega
      have cx := hbm.cell k
      rw [cell_left hkm] at cx
      have fx := hbm.frozen k
      have km : (k : Int) < (n : Int) := by omega
      have HM := Lib.hid (And.intro hml (And.intro hbm (And.intro hch (And.intro hkm hlt))))
      clear hml hbm hch hkm hlt hk
      go_wp2
      refine ⟨⟨k + 1, m.set k (-77), by have := HM.out.2.2.2.2; omega, by go_num, by rw [List.length_set]; exact HM.out.1, ?_, HM.out.2.2.1.set_ rfl _ _⟩, by have := HM.out.2.2.2.2; simp [intOf]; omega⟩
      rw [← set_left _ _ _ HM.out.2.2.2.1]
      exact HM.out.2.1.set_ k _
    · obtain rfl : k = n := by omega
      clear hlt hk hA
      have HM := Lib.hid (And.intro hml (And.intro hbm hch))
      clear hml hbm hch
      go_wp2
      go_end0
      exact ⟨rfl, HM.out.2.2⟩
end Go.Proofs.Ytidoembkcaojoaa
