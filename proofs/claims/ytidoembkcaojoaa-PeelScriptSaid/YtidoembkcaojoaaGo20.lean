/- Chapter 20: Of, set, less. -/
import Derived.Test.YtidoembkcaojoaaGm20
namespace Go.Proofs.Ytidoembkcaojoaa
open Go.RowKit
set_option linter.unusedVariables false
def ofL (s : GM) (x : Int) : List Int := if 0 ≤ x ∧ x < s.known.length then s.waits x.toNat else []
def ofE (s : GM) (x : Int) : Int := if 0 ≤ x ∧ x < s.known.length then 0 else 3
/-- New numbers, and an error. -/
def LsPost (w : World) (l : List Int) (x : Int) (e : Ending) (w' : World) : Prop :=
  ∃ v, e = .returned (.tuple #[v, .int .i64 x]) ∧ w'.ownsRow w.heap.size 3 1 v l.length (nums l) ∧ Below w.heap.size w w'
theorem wt_cell {w : World} {base G : Nat} {tag : Nat → Option Nat} {L : GL} {s : GM} (h : Gm w base G tag L s) {i : Nat} (hi : i < s.known.length) : w.cell? ⟨L.WB, i, none⟩ = some (wcell L s i) := by
  rw [h.wt.cell i, List.getElem?_map, List.getElem?_range hi]; rfl
/-- Of -/
theorem of_any {w : World} {base G : Nat} {tag : Nat → Option Nat} {L : GL} {s : GM} (h : Gm w base G tag L s) (x : Int) :
    Calls Try.prog 64 #[.pointer (some ⟨G, 0, none⟩), .int .i64 x] w (LsPost w (ofL s x) (ofE s x)) := by
  have H := Lib.hid h
  have c0 := h.g.cell 0
  have c1 := h.g.cell 1
  have hkz := h.kz
  obtain ⟨k, hk⟩ : ∃ k, s.known.length = k := ⟨_, rfl⟩
  rw [hk] at c0 c1 hkz
  have HK := Lib.hid hk
  clear h hk
  by_cases hx : 0 ≤ x ∧ x < k
  · obtain ⟨i, rfl⟩ : ∃ i : Nat, x = i := ⟨x.toNat, by omega⟩
    have hi : i < k := by omega
    have d1 : decide ((i : Int) < 0) = false := by simp
    have d2 : decide ((i : Int) ≥ (k : Int)) = false := by simp; omega
    have d3 : decide ((k : Int) ≤ (i : Int)) = false := by simp; omega
    have d4 : decide (k ≤ i) = false := by simp; omega
    have ik : (i : Int) < (k : Int) := by omega
    have cw := wt_cell H.out (i := i) (by rw [HK.out]; exact hi)
    unfold wcell at cw
    have HP := Lib.hid (And.intro (show ofL s i = s.waits i from by unfold ofL; rw [HK.out, if_pos hx, Int.toNat_natCast]) (And.intro (show ofE s i = 0 from by unfold ofE; rw [HK.out, if_pos hx]) hi))
    clear hx hi
    go_enter Try.func64, Try.ntmps64
    go_wp2_with fail
    refine (none_made H.out).mono ?_
    rintro e w1 ⟨rfl, rfl⟩
    go_wp2_with fail
    refine (cloneI_any (Rd.of_own (H.out.wo i (by rw [HK.out]; exact HP.out.2.2))) (by have := H.out.wz i; omega)).mono ?_
    rintro e w2 ⟨v, rfl, hown, hb⟩
    have H2 := Lib.hid (And.intro hown hb)
    clear hown hb
    go_wp2
    go_ret2
    exact ⟨v, by rw [HP.out.2.1]; rfl, by rw [HP.out.1]; exact H2.out.1, H2.out.2⟩
  · have HP := Lib.hid (And.intro (show ofL s x = [] from by unfold ofL; rw [HK.out, if_neg hx]) (show ofE s x = 3 from by unfold ofE; rw [HK.out, if_neg hx]))
    by_cases h0 : x < 0
    · have d1 : decide (x < 0) = true := by simpa using h0
      clear hx h0
      go_enter Try.func64, Try.ntmps64
      go_wp2_with fail
      refine (none_made H.out).mono ?_
      rintro e w1 ⟨rfl, rfl⟩
      go_wp2
      go_ret2
      exact ⟨_, by rw [HP.out.2]; rfl, by rw [HP.out.1]; exact World.ownsRow_nil _ _ _ _, Below.refl _ _⟩
    · have d1 : decide (x < 0) = false := by simpa using h0
      have d2 : decide (x ≥ (k : Int)) = true := by simp; omega
      have d3 : decide ((k : Int) ≤ x) = true := by simp; omega
      clear hx h0
      go_enter Try.func64, Try.ntmps64
      go_wp2_with fail
      refine (none_made H.out).mono ?_
      rintro e w1 ⟨rfl, rfl⟩
      go_wp2
      go_ret2
      exact ⟨_, by rw [HP.out.2]; rfl, by rw [HP.out.1]; exact World.ownsRow_nil _ _ _ _, Below.refl _ _⟩
/-- Sets of symbols. -/
def okS (k : Int) : Int → List Int → Bool
  | _, [] => true
  | last, x :: l => if x ≤ last ∨ k ≤ x then false else okS k x l
def setB (k : Int) (l : List Int) : Bool := okS k (-1) l && decide (0 < l.length)
set_option maxRecDepth 100000 in
set_option maxHeartbeats 1600000 in
/-- set -/
theorem set_any {w : World} {base G : Nat} {tag : Nat → Option Nat} {L : GL} {s : GM} (h : Gm w base G tag L s) {A : Option Addr} {n c : Nat} {l : List Int} (hr : Rd w A n (nums l)) (hn : n ≤ 1000000) :
    Calls Try.prog 57 #[.pointer (some ⟨G, 0, none⟩), .slice A n c] w fun e w' => e = .returned (.bool (setB s.known.length l)) ∧ w = w' := by
  have hl : l.length = n := by have := hr.1; simpa [nums_length] using this
  have c0 := h.g.cell 0
  obtain ⟨k, hk⟩ : ∃ k, s.known.length = k := ⟨_, rfl⟩
  rw [hk] at c0 ⊢
  have HR := Lib.hid (And.intro hr hl)
  clear h hr hl hk
  go_enter Try.func57, Try.ntmps57
  go_wp2
  go_loopw [5, 10] (fun v i wr => ∃ (j : Nat) (last : Int), j ≤ n ∧ i = .int .i64 j ∧ v = .int .i64 last ∧ okS k last (l.drop j) = okS k (-1) l ∧ wr = w) (fun v i wr => n - (intOf i).toNat)
  case atStart => exact ⟨0, -1, by omega, rfl, rfl, rfl, rfl⟩
  case round =>
    obtain ⟨j, last, hj, rfl, rfl, ho, rfl⟩ := hrel
    by_cases hlt : j < n
    · obtain ⟨b, off, rfl, hbl, hcc⟩ := HR.out.1.form (by omega)
      have hjl : j < l.length := by rw [HR.out.2]; exact hlt
      have cx := hcc j _ (nums_gi hjl)
      rw [List.drop_eq_getElem_cons hjl, ← gi_get hjl] at ho
      have km : (j : Int) < (n : Int) := by omega
      have HJ := Lib.hid (And.intro ho hlt)
      clear hcc hbl ho hlt
      generalize gi l j = x at cx HJ
      by_cases h1 : x ≤ last
      · have d1 : decide (x ≤ last) = true := by simpa using h1
        have HB := Lib.hid (show setB k l = false from by unfold setB; rw [← HJ.out.1]; unfold okS; rw [if_pos (.inl h1)]; rfl)
        clear h1
        go_wp2
        go_ret
        exact ⟨ret_bool (by rw [HB.out]), rfl⟩
      · have d1 : decide (x ≤ last) = false := by simpa using h1
        by_cases h2 : (k : Int) ≤ x
        · have d2 : decide (x ≥ (k : Int)) = true := by simpa using h2
          have d3 : decide ((k : Int) ≤ x) = true := by simpa using h2
          have HB := Lib.hid (show setB k l = false from by unfold setB; rw [← HJ.out.1]; unfold okS; rw [if_pos (.inr h2)]; rfl)
          clear h1 h2
          go_wp2
          go_ret
          exact ⟨ret_bool (by rw [HB.out]), rfl⟩
        · have d2 : decide (x ≥ (k : Int)) = false := by simpa using h2
          have d3 : decide ((k : Int) ≤ x) = false := by simpa using h2
          have HB := Lib.hid (show okS k x (l.drop (j + 1)) = okS k (-1) l from by
            rw [← HJ.out.1]
            show _ = if x ≤ last ∨ (k : Int) ≤ x then false else okS k x (l.drop (j + 1))
            rw [if_neg (by omega)])
          clear h1 h2
          go_wp2
          exact ⟨⟨j + 1, x, by have := HJ.out.2; omega, by go_num, rfl, HB.out, trivial⟩, by have := HJ.out.2; simp [intOf]; omega⟩
    · obtain rfl : j = n := by omega
      have hb : okS k (-1) l = true := by rw [← ho, List.drop_eq_nil_of_le (by rw [HR.out.2]; exact Nat.le_refl _)]; rfl
      have HB := Lib.hid (show setB k l = decide (0 < j) from by unfold setB; rw [hb, HR.out.2]; rfl)
      clear hlt hj ho hb
      go_wp2
      go_ret
      exact ⟨ret_bool (by rw [HB.out]), rfl⟩
/-- less -/
theorem less_any {w : World} {b o : Nat} {m x y : Int} (c1 : w.cell? ⟨b, o + 1, none⟩ = some (.int .i64 m)) (c2 : w.cell? ⟨b, o + 2, none⟩ = some (.int .i64 x)) (f1 : w.frozen? ⟨b, o + 1, none⟩ = false) (f2 : w.frozen? ⟨b, o + 2, none⟩ = false) (hm : 1 ≤ m ∧ m ≤ 1000000) :
    Calls Try.prog 70 #[.pointer (some ⟨b, o, none⟩), .int .i64 y] w fun e w' => e = .returned (.bool (m - 1 == 1)) ∧ w' = (w.setCell ⟨b, o + 1, none⟩ (.int .i64 (m - 1))).setCell ⟨b, o + 2, none⟩ (.int .i64 (bits .xor .i64 x y)) := by
  have hw : IntKind.i64.wrap (m - 1) = m - 1 := by rw [IntKind.wrap_i64]; omega
  go_enter Try.func70, Try.ntmps70
  go_wp2
  go_ret
  exact ⟨rfl, rfl⟩
end Go.Proofs.Ytidoembkcaojoaa
