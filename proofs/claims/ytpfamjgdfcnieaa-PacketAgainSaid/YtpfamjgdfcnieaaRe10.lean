/- octet's readers: End, NewReader; readers that nobody made. -/
import Derived.Test.YtpfamjgdfcnieaaRd10
import Derived.Laws.Rows
namespace Go.Proofs.Ytpfamjgdfcnieaa
open Go.RowKit
set_option linter.unusedVariables false
theorem ret_fault {R : Ending → World → Prop} {fn : Func} {p : Tmp} (h : fn.results = #[.cell p 67]) {a : Act} {w : World} {g : Nat} {x y : Int} (hp : a.tmps.getD p undef = .pointer (some ⟨g, 0, none⟩)) (hd : a.defers = [])
    (hg : Bk w g 67 [.int .i64 x, .int .i64 y]) (hR : R (.returned (.agg #[.int .i64 x, .int .i64 y])) w) : bodyPost Try.prog fn R .ret a w :=
  bodyPost_ret (results_cell_row h _ _ g 67 #[.int .i64 x, .int .i64 y] (0, 0) _ hp hg Try.underlying67 rfl (by kernel_rfl)) hd hR
theorem agg2 {a b c d : Int} (h : (a, b) = (c, d)) : Ending.returned (.agg #[.int .i64 c, .int .i64 d]) = .returned (.agg #[.int .i64 a, .int .i64 b]) := by cases h; rfl
theorem agg2p {p : Int × Int} {c d : Int} (h : p = (c, d)) : Ending.returned (.agg #[.int .i64 c, .int .i64 d]) = .returned (.agg #[.int .i64 p.1, .int .i64 p.2]) := by subst h; rfl
set_option maxRecDepth 100000 in
set_option maxHeartbeats 2000000 in
/-- (*Reader).End -/
theorem endR_any {w : World} {P : Nat} {A : Option Addr} {c : Nat} {s : RS} (h : Ro w P A c s) :
    Calls Try.prog 46 #[.pointer (some ⟨P, 0, none⟩)] w fun e w' => e = .returned (.agg #[.int .i64 s.fin.1, .int .i64 s.fin.2]) ∧ Below w.heap.size w w' := by
  have hb := (Below.refl w.heap.size w).alloc (Nat.le_refl _) (.cells #[.int .i64 0, .int .i64 0] 67)
  have hn := Bk.newA w 67 #[.int .i64 0, .int .i64 0]
  have H := Lib.hid (And.intro (h.below hb) (And.intro hb hn))
  have c0 := (h.below hb).1.cell 0
  have c2 := (h.below hb).1.cell 2
  have c3 := (h.below hb).1.cell 3
  have c4 := (h.below hb).1.cell 4
  have g0 := hn.cell 0
  have g1 := hn.cell 1
  have e0 := hn.frozen 0
  have e1 := hn.frozen 1
  have hP := h.2.2.1
  have hL := h.2.2.2.2.1
  have hne : P ≠ w.heap.size := by have := h.1.lt; omega
  clear h hn hb
  by_cases he : s.e = 0
  · rw [he] at c3
    obtain ⟨L, hLL⟩ : ∃ L, s.l.length = L := ⟨_, rfl⟩
    obtain ⟨p, hp⟩ : ∃ p, s.p = p := ⟨_, rfl⟩
    rw [hLL] at c0 hP hL
    rw [hp] at c2 hP
    by_cases hlt : p < L
    · have HF := Lib.hid (show s.fin = (4, (p : Int)) from by unfold RS.fin; rw [if_pos ⟨he, by omega⟩, hp])
      have km : (p : Int) < (L : Int) := by omega
      clear hLL hp he hlt
      go_enter Try.func46, Try.ntmps46
      go_wp2_with fail
      refine (noneR_made H.out.1).mono ?_
      rintro e w1 ⟨rfl, rfl⟩
      go_wp2_with fail
      go_quiet (fail)
      go_wp2
      refine ret_fault rfl rfl rfl (((H.out.2.2.drewN nq).set_ 0 (.int .i64 4)).set_ 1 (.int .i64 p)) ⟨agg2p HF.out, ?_⟩
      exact ((below_dN H.out.2.1 nq).setCell (Nat.le_refl _) _).setCell (Nat.le_refl _) _
    · have HF := Lib.hid (show s.fin = (0, s.f) from by unfold RS.fin; rw [if_neg (fun h => hlt (by have := h.2; omega)), he])
      have km : decide ((p : Int) < (L : Int)) = false := by simp; omega
      have kn : decide (p < L) = false := by simpa using hlt
      clear hLL hp he hlt
      go_enter Try.func46, Try.ntmps46
      go_wp2_with fail
      refine (noneR_made H.out.1).mono ?_
      rintro e w1 ⟨rfl, rfl⟩
      go_wp2_with fail
      go_quiet (fail)
      go_wp2
      refine ret_fault rfl rfl rfl (((H.out.2.2.drewN nq).set_ 0 (.int .i64 0)).set_ 1 (.int .i64 s.f)) ⟨agg2p HF.out, ?_⟩
      exact ((below_dN H.out.2.1 nq).setCell (Nat.le_refl _) _).setCell (Nat.le_refl _) _
  · have d1 : (s.e == 0) = false := by simpa using he
    have HF := Lib.hid (show s.fin = (s.e, s.f) from by unfold RS.fin; rw [if_neg (fun h => he h.1)])
    clear he
    go_enter Try.func46, Try.ntmps46
    go_wp2_with fail
    refine (noneR_made H.out.1).mono ?_
    rintro e w1 ⟨rfl, rfl⟩
    go_wp2_with fail
    go_quiet (fail)
    go_wp2
    refine ret_fault rfl rfl rfl (((H.out.2.2.drewN nq).set_ 0 (.int .i64 s.e)).set_ 1 (.int .i64 s.f)) ⟨agg2p HF.out, ?_⟩
    exact ((below_dN H.out.2.1 nq).setCell (Nat.le_refl _) _).setCell (Nat.le_refl _) _
/-- NewReader -/
theorem newR_any {w : World} {A : Option Addr} {n c : Nat} {l : List UInt8} (h : Rd w A n (bys l)) (hn : n ≤ 140737488351232) :
    Calls Try.prog 41 #[.slice A n c] w fun e w' => ∃ P B d, e = .returned (.pointer (some ⟨P, 0, none⟩)) ∧ Ro w' P B d ⟨l, 0, 0, 0⟩ ∧ Below w.heap.size w w' ∧ w.heap.size ≤ P ∧ (∀ a, B = some a → w.heap.size ≤ a.block ∧ a.block < w'.heap.size) := by
  have H := Lib.hid (And.intro h hn)
  have hl : l.length = n := by have := h.1; simpa [bys_length] using this
  clear h hn
  go_enter Try.func41, Try.ntmps41
  go_wp2_with fail
  refine (clone_any H.out.1 H.out.2).mono ?_
  rintro e w1 ⟨v, rfl, hown, hb⟩
  obtain ⟨B, d, rfl, hd, hd2, _, hB⟩ := own_form hown
  have hrd := Rd.of_own hown
  have hge := own_ge hown
  have HN := Lib.hid (And.intro hd (And.intro hd2 (And.intro hrd (And.intro hge (And.intro hb hl)))))
  clear hown hb hd hd2 hB hrd hge hl
  go_wp2
  go_ret
  obtain ⟨hd, hd2, hrd, hge, hb, hl⟩ := HN.out
  have hsz := hb.size
  refine ⟨w1.heap.size, B, d, rfl, ⟨?_, ?_, ?_⟩, hb.alloc hsz _, hsz, fun a ha => ⟨(hge a ha).1, by have := (hge a ha).2; rw [World.size_alloc]; omega⟩⟩
  · show Bk _ _ _ [.slice B l.length d, _, _, _, _]
    rw [hl]
    exact Bk.newA _ _ _
  · show Rd _ B l.length (bys l)
    rw [hl]
    exact hrd.alloc _
  · exact ⟨Nat.zero_le _, by show l.length ≤ d; omega, by show l.length ≤ _; rw [hl]; exact H.out.2, fun a ha => by have := (hge a ha).2; omega⟩
end Go.Proofs.Ytpfamjgdfcnieaa
