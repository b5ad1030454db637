/- Chapter 28: five, cuts, turns, awake, ObjectKnown. -/
import Derived.Test.YtchdjbbhhjjmkaaOl28
import Derived.Test.YtchdjbbhhjjmkaaOp28
import Derived.Test.YtchdjbbhhjjmkaaOt28
namespace Go.Proofs.Ytchdjbbhhjjmkaa
open Go.RowKit
set_option linter.unusedVariables false
def fiveM : MF := ⟨5, 2, 2, 0, [1]⟩
def data5 : List UInt8 := [1, 2, 3, 4, 5]
theorem five_any {w : World} : Calls Try.prog 30 #[] w fun e w' => ∃ A', e = .returned (.agg #[.int .i64 5, .int .i64 2, .int .i64 2, .int .i64 0, .slice A' 1 1]) ∧ MA w' A' 1 1 fiveM ∧ Below w.heap.size w w' := by
  go_enter Try.func30, Try.ntmps30
  go_wp2_with fail
  have hz := (Bk.newA w 24 #[.int .i64 5, .int .i64 2, .int .i64 2, .int .i64 0, .slice (some ⟨w.heap.size + 1, 0, none⟩) 1 1]).alloc (.cells #[.int .i64 1] 3)
  have hr : Rd ((w.alloc (.cells #[.int .i64 5, .int .i64 2, .int .i64 2, .int .i64 0, .slice (some ⟨w.heap.size + 1, 0, none⟩) 1 1] 24)).alloc (.cells #[.int .i64 1] 3)) (some ⟨w.heap.size + 1, 0, none⟩) 1 (nums [1]) := Rd.lit _ _ _ _ (by rw [World.size_alloc]) 1 rfl _ rfl
  refine ret_mf rfl rfl rfl hz ⟨some ⟨w.heap.size + 1, 0, none⟩, rfl, ⟨hr, Nat.le_refl _, by omega, rfl, ?_⟩, ((Below.refl _ _).alloc (Nat.le_refl _) _).alloc (by rw [World.size_alloc]; exact Nat.le_succ _) _⟩
  refine ⟨by constructor <;> decide, by constructor <;> decide, by constructor <;> decide, by constructor <;> decide, fun x hx => ?_⟩
  have : x = 1 := by
    have hx' : x ∈ [(1 : Int)] := hx
    simpa using hx'
  subst this
  constructor <;> decide
theorem ToldL.syms {w w' : World} {V : List (List UInt8)} {v : Value} {vs : List Value} (ho : w'.ownsRow w.heap.size 32 1 v V.length vs) (hr : ORows w' w.heap.size vs V) : ∃ A c, v = .slice A V.length c ∧ V.length ≤ c ∧ Syms w' A V.length V := by
  obtain ⟨A, c, rfl, hc, _⟩ := own_form ho
  exact ⟨A, c, rfl, hc, vs, Rd.of_own ho, hr.rows⟩
theorem cuts_any {w : World} {A : Option Addr} {n c : Nat} {want : List (List UInt8)} (h : Syms w A n want) {b err : Int} (hb : R64 b) :
    Calls Try.prog 31 #[.int .i64 b, .slice A n c, .int .i64 err] w fun e w' => e = .returned (.bool (syE fiveM data5 b == err && syV fiveM data5 b == want)) ∧ Below w.heap.size w w' := by
  have H := Lib.hid h
  have H0 := Lib.hid (Below.refl w.heap.size w)
  clear h
  obtain ⟨x, hx⟩ : ∃ x, syE fiveM data5 b = x := ⟨_, rfl⟩
  have HX := Lib.hid hx
  rw [hx]
  clear hx
  have hlen : (syV fiveM data5 b).length ≤ 5864062014634 := by
    unfold syV
    split
    · rw [cutL_len]; decide
    · exact Nat.zero_le _
  have HL := Lib.hid hlen
  clear hlen
  cases hq : (x == err) with
  | true =>
    go_enter Try.func31, Try.ntmps31
    go_wp2_with fail
    refine five_any.mono ?_
    rintro e w1 ⟨A1, rfl, hm, hb1⟩
    have H1 := Lib.hid (And.intro hm hb1)
    clear hm hb1
    go_wp2_with fail
    refine (symbols_any (m := fiveM) (data := data5) (H1.out.1.below ((Below.refl _ _).alloc (Nat.le_refl _) _)) (by repeat (first | exact Rd.lit _ _ _ _ (by simp) _ rfl _ rfl | refine Rd.alloc ?_ _)) (by decide) (by decide) hb).mono ?_
    rintro e w2 ⟨v, vs, rfl, ho, hr, hb2⟩
    rw [HX.out]
    obtain ⟨Av, cv, rfl, hcv, hs⟩ := ToldL.syms ho hr
    have B1 := below_base H1.out.2 (below_base ((Below.refl w1.heap.size w1).alloc (Nat.le_refl _) _) hb2 (by rw [World.size_alloc]; exact Nat.le_succ _)) H1.out.2.size
    have H2 := Lib.hid (And.intro hs (And.intro (H.out.below B1) B1))
    clear ho hr hb2 hs hcv B1
    go_wp2_with fail
    refine (sameSymbols_any H2.out.1 H2.out.2.1 HL.out).mono ?_
    rintro e w3 ⟨rfl, hb3⟩
    have H3 := Lib.hid (below_base H2.out.2.2 hb3 H2.out.2.2.size)
    clear hb3
    go_wp2
    go_ret
    exact ⟨ret_bool (by simp), H3.out⟩
  | false =>
    go_enter Try.func31, Try.ntmps31
    go_wp2_with fail
    refine five_any.mono ?_
    rintro e w1 ⟨A1, rfl, hm, hb1⟩
    have H1 := Lib.hid (And.intro hm hb1)
    clear hm hb1
    go_wp2_with fail
    refine (symbols_any (m := fiveM) (data := data5) (H1.out.1.below ((Below.refl _ _).alloc (Nat.le_refl _) _)) (by repeat (first | exact Rd.lit _ _ _ _ (by simp) _ rfl _ rfl | refine Rd.alloc ?_ _)) (by decide) (by decide) hb).mono ?_
    rintro e w2 ⟨v, vs, rfl, ho, hr, hb2⟩
    rw [HX.out]
    obtain ⟨Av, cv, rfl, hcv, hs⟩ := ToldL.syms ho hr
    have B1 := below_base H1.out.2 (below_base ((Below.refl w1.heap.size w1).alloc (Nat.le_refl _) _) hb2 (by rw [World.size_alloc]; exact Nat.le_succ _)) H1.out.2.size
    have H2 := Lib.hid B1
    clear ho hr hb2 hs hcv B1
    go_wp2
    go_ret
    exact ⟨ret_bool (by simp), H2.out⟩
theorem turns_any {w : World} {A : Option Addr} {n c : Nat} {l : List Bool} (h : Rd w A n (bools l)) (hn : n ≤ 140737488351232) {last want : Int} (hl : R64 last) (is : Bool) :
    Calls Try.prog 32 #[.int .i64 last, .int .i64 want, .bool is, .slice A n c] w fun e w' => e = .returned (.bool (((tnA l last : Nat) : Int) == want && tnB l last == is)) ∧ w = w' := by
  have H := Lib.hid (turn_any (c := c) h hn last hl)
  clear h hn hl
  obtain ⟨x, hx⟩ : ∃ x : Int, ((tnA l last : Nat) : Int) = x := ⟨_, rfl⟩
  obtain ⟨y, hy⟩ : ∃ y, tnB l last = y := ⟨_, rfl⟩
  rw [hx, hy] at H ⊢
  clear hx hy
  cases hq : (x == want) with
  | true =>
    go_enter Try.func32, Try.ntmps32
    go_wp2_with fail
    refine H.out.mono ?_
    rintro e w1 ⟨rfl, rfl⟩
    go_wp2
    go_ret
    exact ⟨ret_bool (by simp), rfl⟩
  | false =>
    go_enter Try.func32, Try.ntmps32
    go_wp2_with fail
    refine H.out.mono ?_
    rintro e w1 ⟨rfl, rfl⟩
    go_wp2
    go_ret
    exact ⟨ret_bool (by simp), rfl⟩
theorem cuts_yes {w : World} {A : Option Addr} {n c : Nat} (want : List (List UInt8)) (h : Syms w A n want) {b err : Int} (hb : R64 b) (e1 : (syE fiveM data5 b == err && syV fiveM data5 b == want) = true) :
    Calls Try.prog 31 #[.int .i64 b, .slice A n c, .int .i64 err] w fun e w' => e = .returned (.bool true) ∧ Below w.heap.size w w' :=
  (cuts_any h hb).mono fun e w' ⟨h1, h2⟩ => ⟨by rw [h1, e1], h2⟩
theorem turns_yes {w : World} {A : Option Addr} {n c : Nat} (l : List Bool) (h : Rd w A n (bools l)) (hn : n ≤ 140737488351232) {last want : Int} (hl : R64 last) {is : Bool} (e1 : (((tnA l last : Nat) : Int) == want && tnB l last == is) = true) :
    Calls Try.prog 32 #[.int .i64 last, .int .i64 want, .bool is, .slice A n c] w fun e w' => e = .returned (.bool true) ∧ w = w' :=
  (turns_any h hn hl is).mono fun e w' ⟨h1, h2⟩ => ⟨by rw [h1, e1], h2⟩
theorem same_is {w : World} {A A' : Option Addr} {n n' c c' : Nat} {l l' : List UInt8} (h : Rd w A n (bys l)) (h' : Rd w A' n' (bys l')) (e1 : (l == l') = true) :
    Calls Try.prog 18 #[.slice A n c, .slice A' n' c'] w fun e w' => e = .returned (.bool true) ∧ w = w' :=
  (same_any h h').mono fun e w' ⟨h1, h2⟩ => ⟨by rw [h1, e1], h2⟩
set_option maxRecDepth 100000 in
set_option maxHeartbeats 3200000 in
theorem awake_any {w : World} : Calls Try.prog 11 #[] w fun e w' => e = .returned (.bool true) ∧ Below w.heap.size w w' := by
  have H0 := Lib.hid (Below.refl w.heap.size w)
  go_enter Try.func11, Try.ntmps11
  go_wp2_with fail
  refine five_any.mono ?_
  rintro e w1 ⟨A1, rfl, hm1, hb1⟩
  have b_ : Below w.heap.size w w1 := below_base (by repeat (first | exact (H0).out | refine Below.alloc ?_ (by have := (H0).out.size; (try simp only [World.size_alloc]); omega) _)) hb1 (by have := (H0).out.size; (try simp only [World.size_alloc]); omega)
  have H1 := Lib.hid b_
  clear b_
  have M1 := Lib.hid hm1
  clear hm1 hb1
  go_wp2_with fail
  refine (ojoin_any (m := fiveM) (xss := [[1, 2, 3, 4], [5]]) (M1.out.below ((((Below.refl _ _).alloc (Nat.le_refl _) _).alloc (by simp only [World.size_alloc]; omega) _).alloc (by simp only [World.size_alloc]; omega) _)) ⟨_, (by repeat (first | exact Rd.lit _ _ _ _ (by simp) _ rfl _ rfl | refine Rd.alloc ?_ _)), Rows_.cons (by repeat (first | exact Rd.lit _ _ _ _ (by simp) _ rfl _ rfl | refine Rd.alloc ?_ _)) (by decide) (by decide) (Rows_.cons (by repeat (first | exact Rd.lit _ _ _ _ (by simp) _ rfl _ rfl | refine Rd.alloc ?_ _)) (by decide) (by decide) (Rows_.nil _))⟩ (by decide) (by decide)).mono ?_
  rintro e w2 ⟨v, rfl, ho, hb2⟩
  have b_ : Below w.heap.size w w2 := below_base (by repeat (first | exact (H1).out | refine Below.alloc ?_ (by have := (H1).out.size; (try simp only [World.size_alloc]); omega) _)) hb2 (by have := (H1).out.size; (try simp only [World.size_alloc]); omega)
  have H2 := Lib.hid b_
  clear b_
  rw [show jyV fiveM [[1, 2, 3, 4], [5]] = [1, 2, 3, 4, 5] from by decide] at ho
  rw [show jyE fiveM [[1, 2, 3, 4], [5]] = 0 from by decide]
  obtain ⟨Av, cv, rfl, _⟩ := own_form ho
  have T2 := Lib.hid (Rd.of_own ho)
  clear hb2 ho
  go_wp2_with fail
  refine (cuts_yes [[1, 2], [3, 4]] ⟨_, (by repeat (first | exact Rd.lit _ _ _ _ (by simp) _ rfl _ rfl | refine Rd.alloc ?_ _)), Rows_.cons (by repeat (first | exact Rd.lit _ _ _ _ (by simp) _ rfl _ rfl | refine Rd.alloc ?_ _)) (by decide) (by decide) (Rows_.cons (by repeat (first | exact Rd.lit _ _ _ _ (by simp) _ rfl _ rfl | refine Rd.alloc ?_ _)) (by decide) (by decide) (Rows_.nil _))⟩ (by constructor <;> decide) (by decide)).mono ?_
  rintro e w3 ⟨rfl, hb3⟩
  have T3 := Lib.hid ((((T2.out.alloc _).alloc _).alloc _).below hb3)
  have b_ : Below w.heap.size w w3 := below_base (by repeat (first | exact (H2).out | refine Below.alloc ?_ (by have := (H2).out.size; (try simp only [World.size_alloc]); omega) _)) hb3 (by have := (H2).out.size; (try simp only [World.size_alloc]); omega)
  have H3 := Lib.hid b_
  clear b_
  clear hb3
  go_wp2_with fail
  refine (cuts_yes [[5, 0], [0, 0]] ⟨_, (by repeat (first | exact Rd.lit _ _ _ _ (by simp) _ rfl _ rfl | refine Rd.alloc ?_ _)), Rows_.cons (by repeat (first | exact Rd.lit _ _ _ _ (by simp) _ rfl _ rfl | refine Rd.alloc ?_ _)) (by decide) (by decide) (Rows_.cons (by repeat (first | exact Rd.lit _ _ _ _ (by simp) _ rfl _ rfl | refine Rd.alloc ?_ _)) (by decide) (by decide) (Rows_.nil _))⟩ (by constructor <;> decide) (by decide)).mono ?_
  rintro e w4 ⟨rfl, hb4⟩
  have T4 := Lib.hid ((((T3.out.alloc _).alloc _).alloc _).below hb4)
  have b_ : Below w.heap.size w w4 := below_base (by repeat (first | exact (H3).out | refine Below.alloc ?_ (by have := (H3).out.size; (try simp only [World.size_alloc]); omega) _)) hb4 (by have := (H3).out.size; (try simp only [World.size_alloc]); omega)
  have H4 := Lib.hid b_
  clear b_
  clear hb4
  go_wp2_with fail
  refine (same_is (l' := [1, 2, 3, 4, 5]) (T4.out.alloc _) (by repeat (first | exact Rd.lit _ _ _ _ (by simp) _ rfl _ rfl | refine Rd.alloc ?_ _)) (by decide)).mono ?_
  rintro e w5 ⟨rfl, rfl⟩
  go_wp2_with fail
  refine (turns_yes [false, true, false] (by repeat (first | exact Rd.lit _ _ _ _ (by simp) _ rfl _ rfl | refine Rd.alloc ?_ _)) (by decide) (by constructor <;> decide) (by decide)).mono ?_
  rintro e w6 ⟨rfl, rfl⟩
  go_wp2
  go_ret
  exact ⟨rfl, (H4.out.alloc (by have := H4.out.size; exact this) _).alloc (by have := H4.out.size; rw [World.size_alloc]; omega) _⟩
/-- The chapter's manifest in a block. -/
def FM (w w' : World) (G : Nat) (A : Option Addr) : Prop := Bk w' G 24 [.int .i64 5, .int .i64 2, .int .i64 2, .int .i64 0, .slice A 1 1] ∧ MA w' A 1 1 fiveM ∧ Below w.heap.size w w'
theorem FM.below {w w' w'' : World} {G : Nat} {A : Option Addr} (h : FM w w' G A) (hb : Below w'.heap.size w' w'') : FM w w'' G A := ⟨h.1.belowS hb, h.2.1.below hb, below_base h.2.2 hb h.2.2.size⟩
set_option maxRecDepth 100000 in
set_option maxHeartbeats 3200000 in
theorem objectKnown_any {w : World} : Calls Try.prog 6 #[] w fun e w' => e = .returned (.bool true) ∧ Below w.heap.size w w' := by
  go_enter Try.func6, Try.ntmps6
  go_wp2_with fail
  refine five_any.mono ?_
  rintro e w1 ⟨A1, rfl, hm1, hb1⟩
  obtain ⟨w2, hw2⟩ : ∃ w2, w2 = w1.alloc (.cells #[.int .i64 5, .int .i64 2, .int .i64 2, .int .i64 0, .slice A1 1 1] 24) := ⟨_, rfl⟩
  have F2 : FM w w2 w1.heap.size A1 := by
    have hb : Below w1.heap.size w1 w2 := by rw [hw2]; exact (Below.refl _ _).alloc (Nat.le_refl _) _
    exact ⟨by rw [hw2]; exact Bk.newA w1 _ _, hm1.below hb, below_base hb1 hb hb1.size⟩
  have H2 := Lib.hid F2
  obtain ⟨c0, c1, c2, c3, c4⟩ := cells5 F2.1
  have R2 := Lib.hid (Below.refl w2.heap.size w2)
  have hs2 : w2.heap.size = w1.heap.size + 1 := by rw [hw2, World.size_alloc]
  generalize hG : w1.heap.size = G at F2 H2 c0 c1 c2 c3 c4 hs2
  clear F2 hm1 hb1
  go_wp2_with fail
  rw [← hw2]
  refine (symbols_any (m := fiveM) (data := [1, 2]) (H2.out.2.1.below ((Below.refl _ _).alloc (Nat.le_refl _) _)) (Rd.lit _ _ _ _ (by rw [hs2]) 2 rfl _ rfl) (by decide) (by decide) (b := 0) (by constructor <;> decide)).mono ?_
  clear hw2 hG hs2 c0 c1 c2 c3 c4
  rintro e w3 ⟨v3, vs3, rfl, ho3, _, hb3⟩
  obtain ⟨Av3, cv3, rfl, _⟩ := own_form ho3
  have H3 := Lib.hid (H2.out.below (below_base ((Below.refl _ _).alloc (Nat.le_refl _) _) hb3 (by rw [World.size_alloc]; omega)))
  have R3 := Lib.hid (Below.refl w3.heap.size w3)
  obtain ⟨c0, c1, c2, c3, c4⟩ := cells5 H3.out.1
  rw [show syE fiveM [1, 2] 0 = 2 from by decide]
  clear hb3 ho3
  go_wp2_with fail
  refine (opart_any (m := fiveM) (xss := [[5, 0], [0, 0]]) (H3.out.2.1.below ((((Below.refl _ _).alloc (Nat.le_refl _) _).alloc (by simp only [World.size_alloc]; omega) _).alloc (by simp only [World.size_alloc]; omega) _)) ⟨_, (by repeat (first | exact Rd.lit _ _ _ _ (by simp) _ rfl _ rfl | refine Rd.alloc ?_ _)), Rows_.cons (by repeat (first | exact Rd.lit _ _ _ _ (by simp) _ rfl _ rfl | refine Rd.alloc ?_ _)) (by decide) (by decide) (Rows_.cons (by repeat (first | exact Rd.lit _ _ _ _ (by simp) _ rfl _ rfl | refine Rd.alloc ?_ _)) (by decide) (by decide) (Rows_.nil _))⟩ (by decide) (b := 1) (by constructor <;> decide)).mono ?_
  rintro e w4 ⟨v4, rfl, ho4, hb4⟩
  have H4 := Lib.hid (H3.out.below (below_base (by repeat (first | exact (R3).out | refine Below.alloc ?_ (by have := (R3).out.size; (try simp only [World.size_alloc]); omega) _)) hb4 (by have := (R3).out.size; (try simp only [World.size_alloc]); omega)))
  have R4 := Lib.hid (Below.refl w4.heap.size w4)
  rw [show ptE fiveM 1 [[5, 0], [0, 0]] = 0 from by decide]
  rw [show ptV fiveM 1 [[5, 0], [0, 0]] = [5] from by decide] at ho4
  obtain ⟨Av4, cv4, rfl, _⟩ := own_form ho4
  have T4 := Lib.hid (Rd.of_own ho4)
  clear hb4 ho4 c0 c1 c2 c3 c4
  obtain ⟨c0, c1, c2, c3, c4⟩ := cells5 H4.out.1
  go_wp2_with fail
  refine (opart_any (m := fiveM) (xss := [[5, 0]]) (H4.out.2.1.below (((Below.refl _ _).alloc (Nat.le_refl _) _).alloc (by simp only [World.size_alloc]; omega) _)) ⟨_, (by repeat (first | exact Rd.lit _ _ _ _ (by simp) _ rfl _ rfl | refine Rd.alloc ?_ _)), Rows_.cons (by repeat (first | exact Rd.lit _ _ _ _ (by simp) _ rfl _ rfl | refine Rd.alloc ?_ _)) (by decide) (by decide) (Rows_.nil _)⟩ (by decide) (b := 1) (by constructor <;> decide)).mono ?_
  rintro e w5 ⟨v5, rfl, ho5, hb5⟩
  have H5 := Lib.hid (H4.out.below (below_base (by repeat (first | exact (R4).out | refine Below.alloc ?_ (by have := (R4).out.size; (try simp only [World.size_alloc]); omega) _)) hb5 (by have := (R4).out.size; (try simp only [World.size_alloc]); omega)))
  have T5 := Lib.hid (T4.out.below (below_base (by repeat (first | exact (R4).out | refine Below.alloc ?_ (by have := (R4).out.size; (try simp only [World.size_alloc]); omega) _)) hb5 (by have := (R4).out.size; (try simp only [World.size_alloc]); omega)))
  have R5 := Lib.hid (Below.refl w5.heap.size w5)
  rw [show ptE fiveM 1 [[5, 0]] = 2 from by decide]
  obtain ⟨Av5, cv5, rfl, _⟩ := own_form ho5
  clear hb5 ho5 c0 c1 c2 c3 c4
  obtain ⟨c0, c1, c2, c3, c4⟩ := cells5 H5.out.1
  go_wp2_with fail
  refine (ojoin_any (m := fiveM) (xss := [[1, 2, 3, 4]]) (H5.out.2.1.below (((Below.refl _ _).alloc (Nat.le_refl _) _).alloc (by simp only [World.size_alloc]; omega) _)) ⟨_, (by repeat (first | exact Rd.lit _ _ _ _ (by simp) _ rfl _ rfl | refine Rd.alloc ?_ _)), Rows_.cons (by repeat (first | exact Rd.lit _ _ _ _ (by simp) _ rfl _ rfl | refine Rd.alloc ?_ _)) (by decide) (by decide) (Rows_.nil _)⟩ (by decide) (by decide)).mono ?_
  rintro e w6 ⟨v6, rfl, ho6, hb6⟩
  have H6 := Lib.hid (H5.out.below (below_base (by repeat (first | exact (R5).out | refine Below.alloc ?_ (by have := (R5).out.size; (try simp only [World.size_alloc]); omega) _)) hb6 (by have := (R5).out.size; (try simp only [World.size_alloc]); omega)))
  have T6 := Lib.hid (T5.out.below (below_base (by repeat (first | exact (R5).out | refine Below.alloc ?_ (by have := (R5).out.size; (try simp only [World.size_alloc]); omega) _)) hb6 (by have := (R5).out.size; (try simp only [World.size_alloc]); omega)))
  have R6 := Lib.hid (Below.refl w6.heap.size w6)
  rw [show jyE fiveM [[1, 2, 3, 4]] = 2 from by decide]
  obtain ⟨Av6, cv6, rfl, _⟩ := own_form ho6
  clear hb6 ho6 c0 c1 c2 c3 c4
  go_wp2_with fail
  refine (cuts_yes [] ⟨[], Rd.nil _ _, Rows_.nil _⟩ (b := 2) (by constructor <;> decide) (by decide)).mono ?_
  rintro e w7 ⟨rfl, hb7⟩
  have H7 := Lib.hid (H6.out.below (below_base (by repeat (first | exact (R6).out | refine Below.alloc ?_ (by have := (R6).out.size; (try simp only [World.size_alloc]); omega) _)) hb7 (by have := (R6).out.size; (try simp only [World.size_alloc]); omega))).2.2
  have T7 := Lib.hid (T6.out.below (below_base (by repeat (first | exact (R6).out | refine Below.alloc ?_ (by have := (R6).out.size; (try simp only [World.size_alloc]); omega) _)) hb7 (by have := (R6).out.size; (try simp only [World.size_alloc]); omega)))
  clear hb7
  go_wp2_with fail
  refine (same_is (l' := [5]) (T7.out.alloc _) (by repeat (first | exact Rd.lit _ _ _ _ (by simp) _ rfl _ rfl | refine Rd.alloc ?_ _)) (by decide)).mono ?_
  rintro e w8 ⟨rfl, rfl⟩
  go_wp2_with fail
  refine awake_any.mono ?_
  rintro e w9 ⟨rfl, hb9⟩
  have H9 := Lib.hid (show Below w.heap.size w w9 from below_base (by repeat (first | exact (H7).out | refine Below.alloc ?_ (by have := (H7).out.size; (try simp only [World.size_alloc]); omega) _)) hb9 (by have := (H7).out.size; (try simp only [World.size_alloc]); omega))
  clear hb9
  go_wp2_with fail
  refine (turns_yes [false, false, false] (by repeat (first | exact Rd.lit _ _ _ _ (by simp) _ rfl _ rfl | refine Rd.alloc ?_ _)) (by decide) (by constructor <;> decide) (by decide)).mono ?_
  rintro e w10 ⟨rfl, rfl⟩
  go_wp2_with fail
  refine (turns_yes [false, true, true] (by repeat (first | exact Rd.lit _ _ _ _ (by simp) _ rfl _ rfl | refine Rd.alloc ?_ _)) (by decide) (by constructor <;> decide) (by decide)).mono ?_
  rintro e w10 ⟨rfl, rfl⟩
  go_wp2_with fail
  refine (turns_yes [true, true] (by repeat (first | exact Rd.lit _ _ _ _ (by simp) _ rfl _ rfl | refine Rd.alloc ?_ _)) (by decide) (by constructor <;> decide) (by decide)).mono ?_
  rintro e w10 ⟨rfl, rfl⟩
  go_wp2_with fail
  refine (turns_yes [false, false] (by repeat (first | exact Rd.lit _ _ _ _ (by simp) _ rfl _ rfl | refine Rd.alloc ?_ _)) (by decide) (by constructor <;> decide) (by decide)).mono ?_
  rintro e w10 ⟨rfl, rfl⟩
  go_wp2
  go_ret
  exact ⟨rfl, (((H9.out.alloc H9.out.size _).alloc (by have := H9.out.size; simp only [World.size_alloc]; omega) _).alloc (by have := H9.out.size; simp only [World.size_alloc]; omega) _).alloc (by have := H9.out.size; simp only [World.size_alloc]; omega) _⟩
theorem objectKnown_walk (w : World) : Calls Try.prog 6 #[] w fun e w' => e = .returned (.bool true) ∧ Below w.heap.size w w' := objectKnown_any
end Go.Proofs.Ytchdjbbhhjjmkaa
