/- Aliases side by side; some of the chapter's examples. -/
import Derived.Test.YtfcoeonabppjiaaR14
import Derived.Test.YtfcoeonabppjiaaAl14
namespace Go.Proofs.Ytfcoeonabppjiaa
open Go.RowKit
set_option linter.unusedVariables false
/-- What is told of no table. -/
def NoPost (w : World) (e : Ending) (w' : World) : Prop :=
  e = .returned (.tuple #[.agg #[.int .i64 0, .slice none 0 0, .slice none 0 0], .int .i64 13]) ∧ Below w.heap.size w w'
/-- alias.Make, of no table. -/
theorem make_no {w : World} {A : Option Addr} {n c : Nat} {t : List Int} (h : Rd w A n (nums t)) (hn : n ≤ 140737488351232) (hok : tabOk t = false) :
    Calls Try.prog 11 #[.slice A n c] w (NoPost w) := by
  have HR := Lib.hid (And.intro h (And.intro hn hok))
  clear h hn hok
  go_enter Try.func11, Try.ntmps11
  go_wp2_with fail
  refine (total_any (HR.out.1.below ((Below.refl _ _).alloc (Nat.le_refl _) _)) HR.out.2.1).mono ?_
  rintro e w' ⟨rfl, rfl⟩
  rw [HR.out.2.2, cond_false]
  go_wp2
  refine bodyPost_ret (v := .tuple #[.agg #[.int .i64 0, .slice none 0 0, .slice none 0 0], .int .i64 13]) (by simp [results, Try.results11, go_sem]) rfl ?_
  exact ⟨rfl, (Below.refl _ _).alloc (Nat.le_refl _) _⟩
/-- artesianref14.Make, of no table. -/
theorem refMake_no {w : World} {A : Option Addr} {n c : Nat} {t : List Int} (h : Rd w A n (nums t)) (hn : n ≤ 140737488351232) (hok : tabOk t = false) :
    Calls Try.prog 12 #[.slice A n c] w (NoPost w) := by
  have HR := Lib.hid (And.intro h (And.intro hn hok))
  clear h hn hok
  go_enter Try.func12, Try.ntmps12
  go_wp2_with fail
  refine (table_any (HR.out.1.below ((Below.refl _ _).alloc (Nat.le_refl _) _)) HR.out.2.1).mono ?_
  rintro e w' ⟨rfl, rfl⟩
  rw [HR.out.2.2]
  go_wp2
  refine bodyPost_ret (v := .tuple #[.agg #[.int .i64 0, .slice none 0 0, .slice none 0 0], .int .i64 13]) (by simp [results, Try.results12, go_sem]) rfl ?_
  exact ⟨rfl, (Below.refl _ _).alloc (Nat.le_refl _) _⟩
set_option maxHeartbeats 1000000 in
/-- artesiankit.SameAlias -/
theorem sameAlias_any {w : World} {v v' : Value} {T T' : Int} {xs xs' ys ys' : List Int} (h : Al w v T xs ys) (h' : Al w v' T' xs' ys') :
    Calls Try.prog 13 #[v, v'] w fun e w' => e = .returned (.bool (T == T' && (xs == xs' && ys == ys'))) ∧ Below w.heap.size w w' := by
  obtain ⟨A, n, c, B, m, d, rfl, h1, h2, h3, h4⟩ := h
  obtain ⟨A', n', c', B', m', d', rfl, k1, k2, k3, k4⟩ := h'
  have HR := Lib.hid (And.intro h1 (And.intro h2 (And.intro h3 (And.intro h4 (And.intro k1 (And.intro k2 (And.intro k3 k4)))))))
  clear h1 h2 h3 h4 k1 k2 k3 k4
  go_enter Try.func13, Try.ntmps13
  by_cases hT : T = T'
  · subst hT
    have B0 := (Bk.newA w 26 #[.int .i64 T, .slice A n c, .slice B m d]).alloc (.cells #[.int .i64 T, .slice A' n' c', .slice B' m' d'] 26)
    have B1 := Bk.new2 w (.cells #[.int .i64 T, .slice A n c, .slice B m d] 26) 26 #[.int .i64 T, .slice A' n' c', .slice B' m' d']
    have hb0 : Below w.heap.size w ((w.alloc (.cells #[.int .i64 T, .slice A n c, .slice B m d] 26)).alloc (.cells #[.int .i64 T, .slice A' n' c', .slice B' m' d'] 26)) :=
      ((Below.refl _ _).alloc (Nat.le_refl _) _).alloc (by rw [World.size_alloc]; omega) _
    have HB := Lib.hid (And.intro B0 (And.intro B1 hb0))
    clear B0 B1 hb0
    go_wp2_with fail
    refine (sameInts_any (HR.out.1.below HB.out.2.2) (HR.out.2.2.2.2.1.below HB.out.2.2) HR.out.2.2.1).mono ?_
    rintro e w1 ⟨rfl, hb1⟩
    have c0 := (HB.out.1.belowS hb1).cell 2
    have c1 := (HB.out.2.1.belowS hb1).cell 2
    have hb2 := below_base HB.out.2.2 hb1 HB.out.2.2.size
    have H1 := Lib.hid hb2
    obtain ⟨x, hx⟩ : ∃ x, x = (xs == xs') := ⟨_, rfl⟩
    rw [← hx]
    have HX := Lib.hid hx
    clear hx hb1 hb2
    cases x with
    | false =>
      go_wp2
      go_ret
      exact ⟨ret_bool (by rw [← HX.out]; simp), H1.out⟩
    | true =>
      go_wp2_with fail
      refine (sameInts_any (HR.out.2.1.below H1.out) (HR.out.2.2.2.2.2.1.below H1.out) HR.out.2.2.2.1).mono ?_
      rintro e w2 ⟨rfl, hb3⟩
      have hb4 := below_base H1.out hb3 H1.out.size
      go_wp2
      go_ret
      exact ⟨ret_bool (by rw [← HX.out]; simp), hb4⟩
  · have hd : (T == T') = false := by simpa using hT
    have HT := Lib.hid hT
    clear hT
    go_wp2
    go_ret
    exact ⟨ret_bool (by rw [show (T == T') = false from by simpa using HT.out]; rfl), ((Below.refl _ _).alloc (Nat.le_refl _) _).alloc (by rw [World.size_alloc]; omega) _⟩
theorem aStep_inv {T : Int} {m : Nat} {s : AS} (h : AInv T m s) (hT : 0 < T) : AInv T m (aStep T s) := by
  by_cases hb : bel s.rest s.done T < m
  · exact h.upd hT hb
  · unfold aStep; rw [if_neg (by rw [h.lr]; exact hb)]; exact h
theorem aIter_inv {T : Int} {m : Nat} {s : AS} (h : AInv T m s) (hT : 0 < T) : ∀ k, AInv T m (aIter T k s)
  | 0 => h
  | k + 1 => aStep_inv (aIter_inv h hT k) hT
theorem tab_pos {t : List Int} (h : tabOk t = true) : 0 < t.sum := by
  obtain ⟨hl, hm, hs⟩ := (tabOk_iff t).1 h
  exact sum_pos hm hs
theorem mk_inv {t : List Int} (h : tabOk t = true) : AInv t.sum t.length (mk t) := aIter_inv (a0_inv h) (tab_pos h) _
theorem al_of {w : World} {t : List Int} {C O : Nat} (hok : tabOk t = true) (hc : Bk w C 3 (nums (mk t).cut)) (ho : Bk w O 3 (nums (mk t).other)) :
    Al w (.agg #[.int .i64 t.sum, .slice (some ⟨C, 0, none⟩) t.length t.length, .slice (some ⟨O, 0, none⟩) t.length t.length]) t.sum (mk t).cut (mk t).other := by
  have hl := ((tabOk_iff t).1 hok).1
  exact ⟨_, _, _, _, _, _, rfl, Rd.full hc (by rw [nums_length, (mk_inv hok).lc]), Rd.full ho (by rw [nums_length, (mk_inv hok).lo]), by omega, by omega⟩
/-- artesianlaw14.makes, where it is so. -/
theorem makes_true {w : World} {A B D : Option Addr} {n c m d q g : Nat} {T : Int} {t : List Int} (hx : Rd w A n (nums (mk t).cut)) (hy : Rd w B m (nums (mk t).other)) (ht : Rd w D q (nums t)) (hT : T = t.sum) (hok : tabOk t = true) (hn : n ≤ 140737488351232) (hm : m ≤ 140737488351232) (hq : q ≤ 65536) :
    Calls Try.prog 25 #[.int .i64 T, .slice A n c, .slice B m d, .slice D q g] w fun e w' => e = .returned (.bool true) ∧ Below w.heap.size w w' := by
  have hlq : t.length = q := by have := ht.1; simpa [nums_length] using this
  have HR := Lib.hid (And.intro hx (And.intro hy (And.intro hT (And.intro hn (And.intro hm hlq)))))
  have HM := Lib.hid (make_ok (c := g) ht hq hok)
  have HK := Lib.hid hok
  clear hx hy ht hT hok hn hm hq hlq
  go_enter Try.func25, Try.ntmps25
  go_wp2_with fail
  refine HM.out.mono ?_
  rintro e w1 ⟨C, O, rfl, hc, ho, h1, h2, h3, hb⟩
  have hal : Al w1 (.agg #[.int .i64 t.sum, .slice (some ⟨C, 0, none⟩) t.length t.length, .slice (some ⟨O, 0, none⟩) t.length t.length]) t.sum (mk t).cut (mk t).other := al_of HK.out hc ho
  have HA := Lib.hid (And.intro hal hb)
  clear hal hb hc ho h1 h2 h3
  have hb2 := (HA.out.2.alloc HA.out.2.size (.cells #[.int .i64 t.sum, .slice (some ⟨C, 0, none⟩) t.length t.length, .slice (some ⟨O, 0, none⟩) t.length t.length] 26))
  have ha2 := HA.out.1.below ((Below.refl w1.heap.size w1).alloc (Nat.le_refl _) (.cells #[.int .i64 t.sum, .slice (some ⟨C, 0, none⟩) t.length t.length, .slice (some ⟨O, 0, none⟩) t.length t.length] 26))
  have HB := Lib.hid (And.intro hb2 ha2)
  clear hb2 ha2
  go_wp2_with fail
  refine (sameAlias_any (T' := T) HB.out.2 ⟨A, n, c, B, m, d, rfl, HR.out.1.below HB.out.1, HR.out.2.1.below HB.out.1, HR.out.2.2.2.1, HR.out.2.2.2.2.1⟩).mono ?_
  rintro e w2 ⟨rfl, hb3⟩
  have hb4 := below_base HB.out.1 hb3 HB.out.1.size
  go_wp2
  go_ret
  exact ⟨ret_bool (by rw [HR.out.2.2.1]; simp), hb4⟩
theorem lit3 (w : World) (x y z : List Int) (tx ty tz : TypeId) :
    Rd (((w.alloc (.cells (nums x).toArray tx)).alloc (.cells (nums y).toArray ty)).alloc (.cells (nums z).toArray tz)) (some ⟨w.heap.size, 0, none⟩) x.length (nums x) ∧
    Rd (((w.alloc (.cells (nums x).toArray tx)).alloc (.cells (nums y).toArray ty)).alloc (.cells (nums z).toArray tz)) (some ⟨w.heap.size + 1, 0, none⟩) y.length (nums y) ∧
    Rd (((w.alloc (.cells (nums x).toArray tx)).alloc (.cells (nums y).toArray ty)).alloc (.cells (nums z).toArray tz)) (some ⟨w.heap.size + 1 + 1, 0, none⟩) z.length (nums z) ∧
    Below w.heap.size w (((w.alloc (.cells (nums x).toArray tx)).alloc (.cells (nums y).toArray ty)).alloc (.cells (nums z).toArray tz)) :=
  ⟨Rd.full (Bk.at0 w (nums x) tx _ _) (nums_length _), Rd.full (Bk.at1 w (nums y) ty _ _) (nums_length _), Rd.full (Bk.at2 w (nums z) tz _ _) (nums_length _), ((((Below.refl _ _).alloc (Nat.le_refl _) _).alloc (by rw [World.size_alloc]; omega) _).alloc (by rw [World.size_alloc, World.size_alloc]; omega) _)⟩
/-- artesianlaw14.awake -/
theorem awake_any {w : World} : Calls Try.prog 9 #[] w fun e w' => e = .returned (.bool true) ∧ Below w.heap.size w w' := by
  obtain ⟨a1, a2, a3, a4⟩ := lit3 w [2, 4] [1, 1] [1, 3] 3 3 3
  have H0 := Lib.hid (And.intro a1 (And.intro a2 (And.intro a3 a4)))
  clear a1 a2 a3 a4
  go_enter Try.func9, Try.ntmps9
  go_wp2_with fail
  refine (makes_true (t := [1, 3]) H0.out.1 H0.out.2.1 H0.out.2.2.1 rfl rfl (by decide) (by decide) (by decide)).mono ?_
  rintro e w1 ⟨rfl, hb1⟩
  have hB1 := below_base H0.out.2.2.2 hb1 H0.out.2.2.2.size
  clear hb1 H0
  obtain ⟨a1, a2, a3, a4⟩ := lit3 w1 [0, 5] [1, 1] [0, 5] 3 3 3
  have H0 := Lib.hid (And.intro a1 (And.intro a2 (And.intro a3 a4)))
  have HB := Lib.hid hB1
  clear a1 a2 a3 a4 hB1
  go_wp2_with fail
  refine (makes_true (t := [0, 5]) H0.out.1 H0.out.2.1 H0.out.2.2.1 rfl rfl (by decide) (by decide) (by decide)).mono ?_
  rintro e w2 ⟨rfl, hb1⟩
  have hB1 := below_base HB.out (below_base H0.out.2.2.2 hb1 H0.out.2.2.2.size) HB.out.size
  clear hb1 H0
  obtain ⟨a1, a2, a3, a4⟩ := lit3 w2 [4, 4] [0, 1] [2, 2] 3 3 3
  have H0 := Lib.hid (And.intro a1 (And.intro a2 (And.intro a3 a4)))
  have HB := Lib.hid hB1
  clear a1 a2 a3 a4 hB1
  go_wp2_with fail
  refine (makes_true (t := [2, 2]) H0.out.1 H0.out.2.1 H0.out.2.2.1 rfl rfl (by decide) (by decide) (by decide)).mono ?_
  rintro e w3 ⟨rfl, hb1⟩
  have hB1 := below_base HB.out (below_base H0.out.2.2.2 hb1 H0.out.2.2.2.size) HB.out.size
  go_wp2
  go_ret
  exact ⟨rfl, hB1⟩
end Go.Proofs.Ytfcoeonabppjiaa
