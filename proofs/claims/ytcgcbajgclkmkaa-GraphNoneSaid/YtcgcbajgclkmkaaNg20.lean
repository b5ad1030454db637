/- GraphNone: its walk. -/
import Derived.Test.YtcgcbajgclkmkaaDe20
namespace Go.Proofs.Ytcgcbajgclkmkaa
open Go.RowKit
set_option linter.unusedVariables false
def NoG (w : World) (p : Option Addr) : Prop := p = none ∨ ∃ P, p = some ⟨P, 0, none⟩ ∧ Bk w P 53 [.slice none 0 0, .slice none 0 0, .slice none 0 0, .int .i64 0, .int .i64 0, .int .i64 0]
theorem NoG.below {w w' : World} {p : Option Addr} (h : NoG w p) (hb : Below w.heap.size w w') : NoG w' p := by
  rcases h with e | ⟨P, e, hk⟩
  · exact .inl e
  · exact .inr ⟨P, e, hk.belowS hb⟩
theorem none_no {w : World} {p : Option Addr} (h : NoG w p) : Calls Try.prog 30 #[.pointer p] w fun e w' => e = .returned (.bool true) ∧ w = w' := by
  rcases h with rfl | ⟨P, rfl, hk⟩
  · go_enter Try.func30, Try.ntmps30
    go_wp2
    go_ret
    exact ⟨rfl, rfl⟩
  · have c1 := hk.cell 3
    clear hk
    go_enter Try.func30, Try.ntmps30
    go_wp2
    go_ret
    exact ⟨rfl, rfl⟩
set_option maxRecDepth 100000 in
theorem add_no {w : World} {p : Option Addr} (h : NoG w p) (v : Value) : Calls Try.prog 24 #[.pointer p, v] w fun e w' => e = .returned (.tuple #[.int .i64 0, .int .i64 0, .int .i64 1]) ∧ w = w' := by
  have H := Lib.hid h
  clear h
  go_enter Try.func24, Try.ntmps24
  go_wp2_with fail
  refine (none_no H.out).mono ?_
  rintro e w1 ⟨rfl, rfl⟩
  go_wp2
  go_ret3
  exact ⟨rfl, rfl⟩
set_option maxRecDepth 100000 in
theorem take_no {w : World} {p : Option Addr} (h : NoG w p) (x : Int) : Calls Try.prog 19 #[.pointer p, .int .i64 x] w fun e w' => e = .returned (.tuple #[.slice none 0 0, .int .i64 1]) ∧ w = w' := by
  have H := Lib.hid h
  clear h
  go_enter Try.func19, Try.ntmps19
  go_wp2_with fail
  refine (none_no H.out).mono ?_
  rintro e w1 ⟨rfl, rfl⟩
  go_wp2
  go_ret2
  exact ⟨rfl, rfl⟩
set_option maxRecDepth 100000 in
theorem of_no {w : World} {p : Option Addr} (h : NoG w p) (x : Int) : Calls Try.prog 26 #[.pointer p, .int .i64 x] w fun e w' => e = .returned (.tuple #[.slice none 0 0, .int .i64 1]) ∧ w = w' := by
  have H := Lib.hid h
  clear h
  go_enter Try.func26, Try.ntmps26
  go_wp2_with fail
  refine (none_no H.out).mono ?_
  rintro e w1 ⟨rfl, rfl⟩
  go_wp2
  go_ret2
  exact ⟨rfl, rfl⟩
set_option maxRecDepth 100000 in
theorem rest_no {w : World} {p : Option Addr} (h : NoG w p) (x : Int) : Calls Try.prog 25 #[.pointer p, .int .i64 x] w fun e w' => e = .returned (.tuple #[.slice none 0 0, .int .i64 1]) ∧ Below w.heap.size w w' := by
  have hb1 := (Below.refl w.heap.size w).alloc (Nat.le_refl _) (.cells #[.pointer p] 22)
  have H := Lib.hid (And.intro (h.below hb1) hb1)
  clear h hb1
  go_enter Try.func25, Try.ntmps25
  go_wp2_with fail
  refine (none_no H.out.1).mono ?_
  rintro e w1 ⟨rfl, rfl⟩
  go_wp2
  go_ret2
  exact ⟨rfl, H.out.2⟩
theorem unknown_no {w : World} {p : Option Addr} (h : NoG w p) : Calls Try.prog 12 #[.pointer p] w fun e w' => e = .returned (.int .i64 0) ∧ w = w' := by
  have H := Lib.hid h
  clear h
  go_enter Try.func12, Try.ntmps12
  go_wp2_with fail
  refine (none_no H.out).mono ?_
  rintro e w1 ⟨rfl, rfl⟩
  go_wp2
  go_ret
  exact ⟨rfl, rfl⟩
theorem packets_no {w : World} {p : Option Addr} (h : NoG w p) : Calls Try.prog 27 #[.pointer p] w fun e w' => e = .returned (.int .i64 0) ∧ w = w' := by
  have H := Lib.hid h
  clear h
  go_enter Try.func27, Try.ntmps27
  go_wp2_with fail
  refine (none_no H.out).mono ?_
  rintro e w1 ⟨rfl, rfl⟩
  go_wp2
  go_ret
  exact ⟨rfl, rfl⟩
theorem edges_no {w : World} {p : Option Addr} (h : NoG w p) : Calls Try.prog 11 #[.pointer p] w fun e w' => e = .returned (.int .i64 0) ∧ w = w' := by
  have H := Lib.hid h
  clear h
  go_enter Try.func11, Try.ntmps11
  go_wp2_with fail
  refine (none_no H.out).mono ?_
  rintro e w1 ⟨rfl, rfl⟩
  go_wp2
  go_ret
  exact ⟨rfl, rfl⟩
/-- What GraphNone's loop goes through. -/
def NgS (w0 w : World) (g0 ga : Nat) (P : Option Addr) (takes : Bool) (sym : Int) (B : Option Addr) (m c : Nat) : Prop :=
  Bk w g0 48 [.bool takes, .int .i64 sym, .slice B m c] ∧ Bk w ga 22 [.pointer none, .pointer P] ∧ NoG w P ∧ Below w0.heap.size w0 w
theorem NgS.below {w0 w w' : World} {g0 ga m c : Nat} {P B : Option Addr} {sym : Int} {takes : Bool} (h : NgS w0 w g0 ga P takes sym B m c) (hb : Below w.heap.size w w') : NgS w0 w' g0 ga P takes sym B m c :=
  ⟨h.1.belowS hb, h.2.1.belowS hb, h.2.2.1.below hb, below_base h.2.2.2 hb h.2.2.2.size⟩
set_option maxRecDepth 100000 in
set_option maxHeartbeats 4000000 in
/-- artesianlaw20.GraphNone -/
theorem graphNone_walk {w : World} {B : Option Addr} {m c : Nat} {it : De} (h : Rd w B m (nums it.set) ∧ m ≤ c ∧ m ≤ 17592186043904 ∧ I64 it.sym) :
    Calls Try.prog 6 #[.agg #[.bool it.takes, .int .i64 it.sym, .slice B m c]] w fun e w' => e = .returned (.bool true) ∧ Below w.heap.size w w' := by
  obtain ⟨hr, hc, hm, hI1⟩ := h
  have hb1 := (Below.refl w.heap.size w).alloc (Nat.le_refl _) (.cells #[.bool it.takes, .int .i64 it.sym, .slice B m c] 48)
  have hk1 := Bk.newA w 48 #[.bool it.takes, .int .i64 it.sym, .slice B m c]
  have hb2 := (Below.refl _ _).alloc (Nat.le_refl (w.alloc (.cells #[.bool it.takes, .int .i64 it.sym, .slice B m c] 48)).heap.size) (.cells #[.bool it.takes, .int .i64 it.sym, .slice B m c] 48)
  have hk2 := Bk.newA (w.alloc (.cells #[.bool it.takes, .int .i64 it.sym, .slice B m c] 48)) 48 #[.bool it.takes, .int .i64 it.sym, .slice B m c]
  have hr2 := (hr.below hb1).below hb2
  have h1 : Des ((w.alloc (.cells #[.bool it.takes, .int .i64 it.sym, .slice B m c] 48)).alloc (.cells #[.bool it.takes, .int .i64 it.sym, .slice B m c] 48)) (some ⟨w.heap.size + 1, 0, none⟩) 1 [it] := by
    rw [World.size_alloc] at hk2
    refine ⟨rfl, fun _ => ⟨w.heap.size + 1, 0, rfl, by rw [World.size_alloc, World.size_alloc]; omega, fun i hi => ?_⟩⟩
    obtain rfl : i = 0 := by simpa using hi
    exact ⟨hk2.cell 0, hk2.cell 1, B, m, c, hk2.cell 2, hr2, hc, hm, hI1⟩
  have H1 := Lib.hid (And.intro h1 (And.intro (hk1.belowS hb2) (below_base hb1 hb2 hb1.size)))
  have c0 := hk1.cell 0
  have c1 := hk1.cell 1
  have c2 := hk1.cell 2
  clear hr hc hm hI1 hb1 hk1 hb2 hk2 hr2 h1
  go_enter Try.func6, Try.ntmps6
  go_wp2_with fail
  refine (long_any H1.out.1 (by omega)).mono ?_
  rintro e w1 ⟨rfl, hw⟩
  subst w1
  generalize hw2 : (w.alloc (.cells #[.bool it.takes, .int .i64 it.sym, .slice B m c] 48)).alloc (.cells #[.bool it.takes, .int .i64 it.sym, .slice B m c] 48) = w2 at H1 ⊢
  clear hw2 c0 c1 c2
  cases hlv : longV [it] with
  | true =>
    clear hlv
    go_wp2_with fail
    refine awake_any.mono ?_
    rintro e w5 ⟨rfl, hb5⟩
    have H5 := Lib.hid (below_base H1.out.2.2 hb5 H1.out.2.2.size)
    clear hb5
    go_wp2
    go_ret
    exact ⟨rfl, H5.out⟩
  | false =>
    clear hlv
    have hst : ∃ w3, w3 = (w2.alloc (.cells #[.slice none 0 0, .slice none 0 0, .slice none 0 0, .int .i64 0, .int .i64 0, .int .i64 0] 53)).alloc (.cells #[.pointer none, .pointer (some ⟨w2.heap.size, 0, none⟩)] 22) ∧
        NgS w w3 w.heap.size (w2.heap.size + 1) (some ⟨w2.heap.size, 0, none⟩) it.takes it.sym B m c := by
      refine ⟨_, rfl, ?_⟩
      have hb : Below w2.heap.size w2 ((w2.alloc (.cells #[.slice none 0 0, .slice none 0 0, .slice none 0 0, .int .i64 0, .int .i64 0, .int .i64 0] 53)).alloc (.cells #[.pointer none, .pointer (some ⟨w2.heap.size, 0, none⟩)] 22)) := ((Below.refl _ _).alloc (Nat.le_refl _) _).alloc (by rw [World.size_alloc]; omega) _
      have k1 := (Bk.newA w2 53 #[.slice none 0 0, .slice none 0 0, .slice none 0 0, .int .i64 0, .int .i64 0, .int .i64 0]).alloc (.cells #[.pointer none, .pointer (some ⟨w2.heap.size, 0, none⟩)] 22)
      have k2 := Bk.newA (w2.alloc (.cells #[.slice none 0 0, .slice none 0 0, .slice none 0 0, .int .i64 0, .int .i64 0, .int .i64 0] 53)) 22 #[.pointer none, .pointer (some ⟨w2.heap.size, 0, none⟩)]
      rw [World.size_alloc] at k2
      exact ⟨H1.out.2.1.belowS hb, k2, .inr ⟨_, rfl, k1⟩, below_base H1.out.2.2 hb H1.out.2.2.size⟩
    obtain ⟨w3, hw3, hn⟩ := hst
    have H3 := Lib.hid hn
    clear hn
    go_wp2
    rw [← hw3]
    generalize w2.heap.size + 1 = ga at *
    generalize w2.heap.size = P at *
    obtain ⟨g0, hg0⟩ : ∃ g, g = w.heap.size := ⟨_, rfl⟩
    rw [← hg0] at H3 ⊢
    clear hw3 H1 hg0
    go_loopw [4] (fun i wr => ∃ k : Nat, k ≤ 2 ∧ i = .int .i64 k ∧ NgS w wr g0 ga (some ⟨P, 0, none⟩) it.takes it.sym B m c) (fun i wr => 2 - (intOf i).toNat)
    case atStart => exact ⟨0, by omega, rfl, H3.out⟩
    case round =>
      obtain ⟨k, hk, rfl, hn⟩ := hrel
      clear H3
      have H3 := Lib.hid hn
      clear hn
      by_cases hlt : k < 2
      · have km : (k : Int) < 2 := by omega
        obtain ⟨p, cw, hp⟩ : ∃ p, wr.cell? ⟨ga, k, none⟩ = some (.pointer p) ∧ NoG wr p := by
          match k, hlt with
          | 0, _ => exact ⟨none, H3.out.2.1.cell 0, .inl rfl⟩
          | 1, _ => exact ⟨_, H3.out.2.1.cell 1, H3.out.2.2.1⟩
        have c1 := H3.out.1.cell 1
        have c2 := H3.out.1.cell 2
        have hlk := Lib.hid hlt
        have HP := Lib.hid hp
        clear hp hlt
        go_wp2_with fail
        refine (add_no HP.out _).mono ?_
        rintro e w5 ⟨rfl, rfl⟩
        go_wp2_with fail
        refine (take_no HP.out _).mono ?_
        rintro e w5 ⟨rfl, rfl⟩
        go_wp2_with fail
        refine (rest_no HP.out _).mono ?_
        rintro e w5 ⟨rfl, hb5⟩
        have H5 := Lib.hid (And.intro (H3.out.below hb5) (HP.out.below hb5))
        have d1 := H5.out.1.1.cell 1
        clear hb5 c1 c2 cw
        go_wp2_with fail
        refine (of_no H5.out.2 _).mono ?_
        rintro e w6 ⟨rfl, rfl⟩
        go_wp2_with fail
        refine (unknown_no H5.out.2).mono ?_
        rintro e w6 ⟨rfl, rfl⟩
        go_wp2_with fail
        refine (packets_no H5.out.2).mono ?_
        rintro e w6 ⟨rfl, rfl⟩
        go_wp2_with fail
        refine (edges_no H5.out.2).mono ?_
        rintro e w6 ⟨rfl, rfl⟩
        go_wp2
        exact ⟨⟨k + 1, by have := hlk.out; omega, by go_num, H5.out.1⟩, by have := hlk.out; simp [intOf]; omega⟩
      · obtain rfl : k = 2 := by omega
        clear hlt hk
        go_wp2_with fail
        refine awake_any.mono ?_
        rintro e w5 ⟨rfl, hb5⟩
        have H5 := Lib.hid (H3.out.below hb5).2.2.2
        clear hb5
        go_wp2
        go_ret
        exact ⟨rfl, H5.out⟩
end Go.Proofs.Ytcgcbajgclkmkaa
