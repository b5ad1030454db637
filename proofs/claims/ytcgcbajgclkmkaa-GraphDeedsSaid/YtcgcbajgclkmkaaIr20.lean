/- Chapter 20: lists of sets among the arguments; LongSets, has, made. -/
import Derived.Test.YtcgcbajgclkmkaaOpen
import Derived.Test.YtcgcbajgclkmkaaKn20
import Derived.Test.YtcgcbajgclkmkaaKit
namespace Go.Proofs.Ytcgcbajgclkmkaa
open Go.ChangeShapes Go.WideShapes Go.ChangeAt Go.RowKit
set_option linter.unusedVariables false
/-- Rows of numbers, as values. -/
def IRd (w : World) (vs : List Value) (xss : List (List Int)) : Prop :=
  vs.length = xss.length ∧ ∀ (i : Nat) x, xss[i]? = some x → ∃ B c, vs[i]? = some (.slice B x.length c) ∧ Rd w B x.length (nums x) ∧ x.length ≤ 17592186043904
theorem IRd.below {w w' : World} {vs : List Value} {xss : List (List Int)} (h : IRd w vs xss) (hb : Below w.heap.size w w') : IRd w' vs xss :=
  ⟨h.1, fun i x hx => by obtain ⟨B, c, h1, h2, h3⟩ := h.2 i x hx; exact ⟨B, c, h1, h2.below hb, h3⟩⟩
theorem IRd.nil (w : World) : IRd w [] [] := ⟨rfl, fun i x h => by simp at h⟩
theorem IRd.cons {w : World} {vs : List Value} {xss : List (List Int)} {B : Option Addr} {n c : Nat} {x : List Int} (h : IRd w vs xss) (hr : Rd w B n (nums x)) (hn : n ≤ 17592186043904) : IRd w (.slice B n c :: vs) (x :: xss) := by
  have hl : x.length = n := by have := hr.1; simpa [nums_length] using this
  subst hl
  refine ⟨by simp [h.1], fun i y hy => ?_⟩
  cases i with
  | zero => simp at hy; subst hy; exact ⟨B, c, rfl, hr, hn⟩
  | succ i => simpa using h.2 i y (by simpa using hy)
theorem IRd.snoc {w : World} {vs : List Value} {xss : List (List Int)} {B : Option Addr} {c : Nat} {x : List Int} (h : IRd w vs xss) (hr : Rd w B x.length (nums x)) (hn : x.length ≤ 17592186043904) : IRd w (vs ++ [.slice B x.length c]) (xss ++ [x]) := by
  refine ⟨by simp [h.1], fun i y hy => ?_⟩
  rcases Nat.lt_or_ge i xss.length with e | e
  · rw [List.getElem?_append_left e] at hy
    obtain ⟨B', c', h1, h2⟩ := h.2 i y hy
    exact ⟨B', c', by rw [List.getElem?_append_left (by rw [h.1]; exact e)]; exact h1, h2⟩
  · rw [List.getElem?_append_right e] at hy
    have hi : i - xss.length = 0 := by have := (List.getElem?_eq_some_iff.1 hy).1; simp at this; omega
    rw [hi] at hy
    simp at hy; subst hy
    exact ⟨B, c, by rw [List.getElem?_append_right (by rw [h.1]; exact e), h.1, hi]; rfl, hr, hn⟩
section
variable {H : Type} {enc : TypeId × Value → H} {P : Program} {W : World} {spare : Nat → Bool} {held : Bool} {base : Nat}
theorem arg_introws {r : Reach} {b0 : Nat} {t e q : TypeId} {v : Value} {d : DataW H} {p : List MemPlace} (ht : P.underlying t = some (.slice e)) (he : P.underlying e = some (.slice q)) (hq : P.underlying q = some (.int .i64)) (ce : P.cellsOf e = 1) (cq : P.cellsOf q = 1) (be : P.bytesOf e = 24) (bq : P.bytesOf q = 8)
    (hv : Value.okWide P W r b0 t v) (h : DataW.Trod enc P W base spare held t v d p) (hs : Sized P t d) :
    ∃ (A : Option Addr) (len cap : Nat) (xss : List (List Int)), v = .slice A len cap ∧ (∃ vs, Rd W A len vs ∧ IRd W vs xss) ∧ len ≤ cap ∧ len ≤ 5864062014634 := by
  obtain ⟨a0, len0, cap0, rfl⟩ := okWide_slice ht hv
  obtain ⟨fuel, hf⟩ := h
  obtain ⟨A, len, cap, vs, D, e1, hr, hl, hm, hD, hel, hs'⟩ := plain_slice1 ht ce hf
  have hsz := hs' hs
  have h1 := hsz.1
  rw [be, reach_le] at h1
  have : ∀ (us : List Value) (ds : List (DataW H)), us.length = ds.length → (∀ (i : Nat) u, us[i]? = some u → ∃ x q m, ds[i]? = some x ∧ DataW.trod enc P W base spare held m e [u] = some (x, q)) → (∀ x ∈ ds, Sized P e x) → ∃ xss, IRd W us xss := by
    intro us
    induction us with
    | nil => intro ds _ _ _; exact ⟨[], IRd.nil _⟩
    | cons u us ih =>
      intro ds hlen hu hS
      cases ds with
      | nil => simp at hlen
      | cons d0 ds =>
        obtain ⟨xss, hR⟩ := ih ds (by simpa using hlen) (fun i u hi => by simpa using hu (i + 1) u (by simpa using hi)) (fun x hx => hS x (List.mem_cons_of_mem _ hx))
        obtain ⟨x, q', m, hx, htr⟩ := hu 0 u rfl
        simp at hx; subst hx
        obtain ⟨A1, l1, c1, xs, rfl, hr1, hl1, hm1, _, hs1⟩ := plain_ints he hq cq htr
        have hx1 := hs1 (hS _ (List.mem_cons_self ..))
        rw [bq, reach_le] at hx1
        exact ⟨xs :: xss, IRd.cons hR hr1 (by omega)⟩
  obtain ⟨xss, hR⟩ := this vs D (by rw [hr.1, hD]) hel hsz.2
  exact ⟨A, len, cap, xss, e1, ⟨vs, hr, hR⟩, hl, by omega⟩
end
/-- Rows of numbers, as an argument. -/
def IRs (w : World) (A : Option Addr) (n : Nat) (xss : List (List Int)) : Prop := ∃ vs, Rd w A n vs ∧ IRd w vs xss
theorem IRs.len {w : World} {A : Option Addr} {n : Nat} {xss : List (List Int)} (h : IRs w A n xss) : xss.length = n := by
  obtain ⟨vs, h1, h2⟩ := h; rw [← h2.1, h1.1]
theorem IRs.below {w w' : World} {A : Option Addr} {n : Nat} {xss : List (List Int)} (h : IRs w A n xss) (hb : Below w.heap.size w w') : IRs w' A n xss := by
  obtain ⟨vs, h1, h2⟩ := h; exact ⟨vs, h1.below hb, h2.below hb⟩
theorem IRs.at_ {w : World} {A : Option Addr} {n : Nat} {xss : List (List Int)} (h : IRs w A n xss) {i : Nat} (hi : i < n) : ∃ a off B c x, A = some ⟨a, off, none⟩ ∧ xss[i]? = some x ∧ w.cell? ⟨a, off + i, none⟩ = some (.slice B x.length c) ∧ Rd w B x.length (nums x) ∧ x.length ≤ 17592186043904 := by
  have hl := h.len
  obtain ⟨vs, h1, h2⟩ := h
  obtain ⟨a, off, e, _, hc⟩ := h1.form (by omega)
  obtain ⟨B, c, h3, h4, h5⟩ := h2.2 i xss[i] (List.getElem?_eq_getElem (by omega))
  exact ⟨a, off, B, c, xss[i], e, List.getElem?_eq_getElem _, hc i _ h3, h4, h5⟩
def bigR (x : List Int) : Bool := decide (30 < x.length)
def longR (xss : List (List Int)) : Bool := (xss.take 41).any bigR || decide (40 < xss.length)
theorem longR_no {xss : List (List Int)} (h : longR xss = false) : xss.length ≤ 40 ∧ ∀ x ∈ xss, x.length ≤ 30 := by
  unfold longR at h
  rw [Bool.or_eq_false_iff] at h
  have h1 : xss.length ≤ 40 := by have := h.2; simpa using this
  refine ⟨h1, fun it hi => ?_⟩
  have h2 := h.1
  rw [List.take_of_length_le (by omega)] at h2
  have h3 := List.any_eq_false.1 h2 it hi
  unfold bigR at h3
  simpa using h3
set_option maxRecDepth 100000 in
set_option maxHeartbeats 2000000 in
/-- LongSets -/
theorem longSets_any {w : World} {A : Option Addr} {n c : Nat} {xss : List (List Int)} (h : IRs w A n xss) (hn : n ≤ 5864062014634) :
    Calls Try.prog 17 #[.slice A n c] w fun e w' => e = .returned (.bool (longR xss)) ∧ w = w' := by
  have H := Lib.hid (And.intro h h.len)
  clear h
  go_enter Try.func17, Try.ntmps17
  go_wp2
  go_loopw [3] (fun i wr => ∃ k : Nat, k ≤ n ∧ k ≤ 41 ∧ i = .int .i64 k ∧ (xss.take k).any bigR = false ∧ wr = w) (fun i wr => n - (intOf i).toNat)
  case atStart => exact ⟨0, by omega, by omega, rfl, by simp, rfl⟩
  case round =>
    obtain ⟨k, hk, hk41, rfl, hany, rfl⟩ := hrel
    have HA := Lib.hid hany
    clear hany
    by_cases hlt : k < n
    · have km : (k : Int) < (n : Int) := by omega
      by_cases h41 : k < 41
      · have kq : (k : Int) < 41 := by omega
        obtain ⟨a, off, B, cc, x, rfl, hx, c3, hrd, hm⟩ := H.out.1.at_ hlt
        have hkl : k < xss.length := by rw [H.out.2]; exact hlt
        have hxe : xss[k] = x := by rw [List.getElem?_eq_getElem hkl] at hx; injection hx
        obtain ⟨m, hml⟩ : ∃ m, x.length = m := ⟨_, rfl⟩
        rw [hml] at c3 hm
        have hbk : bigR xss[k] = decide (30 < m) := by rw [hxe]; unfold bigR; rw [hml]
        have HK := Lib.hid (And.intro hkl (And.intro hlt (And.intro h41 hbk)))
        by_cases hbig : 30 < m
        · have d1 : decide ((m : Int) > 30) = true := by simp; omega
          have d2 : decide ((30 : Int) < (m : Int)) = true := by simp; omega
          have d3 : decide (30 < m) = true := by simpa using hbig
          have HL := Lib.hid (show longR xss = true from by
            unfold longR
            rw [Bool.or_eq_true, List.any_eq_true]
            refine .inl ⟨xss[k], ?_, by rw [hbk]; simpa using hbig⟩
            rw [List.mem_take_iff_getElem]
            exact ⟨k, by omega, rfl⟩)
          clear hlt h41 hx hrd hm hml hbig hxe hbk
          go_wp2
          go_ret
          exact ⟨ret_bool (by rw [HL.out]), rfl⟩
        · have d1 : decide ((m : Int) > 30) = false := by simp; omega
          have d2 : decide ((30 : Int) < (m : Int)) = false := by simp; omega
          have d3 : decide (30 < m) = false := by simpa using hbig
          have HL := Lib.hid hbig
          clear hlt h41 hx hrd hm hml hbig hxe hbk
          go_wp2
          exact ⟨⟨k + 1, by have := HK.out; omega, by have := HK.out; omega, by go_num, by rw [List.take_succ_eq_append_getElem HK.out.1, List.any_append, HA.out, List.any_cons, HK.out.2.2.2]; simp; have := HL.out; omega, trivial⟩, by have := HK.out; simp [intOf]; omega⟩
      · obtain rfl : k = 41 := by omega
        have HL := Lib.hid (show longR xss = true from by unfold longR; rw [H.out.2]; simp; right; omega)
        have d1 : decide ((n : Int) > 40) = true := by simp; omega
        have d2 : decide ((40 : Int) < (n : Int)) = true := by simp; omega
        have d3 : decide (40 < n) = true := by simp; omega
        go_wp2
        go_ret
        exact ⟨ret_bool (by rw [HL.out]), rfl⟩
    · obtain rfl : k = n := by omega
      have HL := Lib.hid (show longR xss = decide (40 < k) from by unfold longR; have := HA.out; rw [List.take_of_length_le (by rw [H.out.2]; exact Nat.le_refl _)] at this; rw [List.take_of_length_le (by rw [H.out.2]; omega), this, H.out.2]; rfl)
      clear hlt hk
      go_wp2
      go_ret
      exact ⟨ret_bool (by rw [HL.out]; exact (decide_eq_decide.2 (by omega))), rfl⟩
/-- has -/
theorem has_any {w : World} {A : Option Addr} {n c : Nat} {l : List Int} (x : Int) (h : Rd w A n (nums l)) (hn : n ≤ 1000000000) :
    Calls Try.prog 28 #[.slice A n c, .int .i64 x] w fun e w' => e = .returned (.bool (decide (x ∈ l))) ∧ w = w' := by
  have hl : l.length = n := by have := h.1; simpa [nums_length] using this
  have H := Lib.hid (And.intro h hl)
  have hn' : (n : Int) ≤ 1000000000 := by omega
  clear h hl
  go_enter Try.func28, Try.ntmps28
  go_wp2
  go_loopw [5] (fun i wr => ∃ k : Nat, k ≤ n ∧ i = .int .i64 k ∧ (∀ j, j < k → gi l j ≠ x) ∧ wr = w) (fun i wr => n - (intOf i).toNat)
  case atStart => exact ⟨0, by omega, rfl, fun j hj => by omega, rfl⟩
  case round =>
    obtain ⟨k, hk, rfl, hall, rfl⟩ := hrel
    have HA := Lib.hid hall
    clear hall
    by_cases hlt : k < n
    · obtain ⟨a, off, rfl, hbl, hc⟩ := H.out.1.form (by omega)
      have hkl : k < l.length := by rw [H.out.2]; exact hlt
      have cx := hc k _ (nums_gi hkl)
      have km : (k : Int) < (n : Int) := by omega
      have HL := Lib.hid (And.intro hlt hkl)
      clear hc hbl hk hlt hkl
      by_cases he : gi l k = x
      · have hd : (gi l k == x) = true := by simpa using he
        have HE := Lib.hid he
        clear he
        go_wp2
        go_ret
        exact ⟨ret_bool (by symm; rw [decide_eq_true_iff, ← HE.out]; exact gi_mem HL.out.2), rfl⟩
      · have hd : (gi l k == x) = false := by simpa using he
        have HE := Lib.hid he
        clear he
        go_wp2
        refine ⟨⟨k + 1, by have := HL.out; omega, by go_num, fun j hj => ?_, trivial⟩, by have := HL.out; simp [intOf]; omega⟩
        rcases (show j < k ∨ j = k from by omega) with y | y
        · exact HA.out j y
        · subst y; exact HE.out
    · obtain rfl : k = n := by omega
      clear hlt hk
      go_wp2
      go_ret
      refine ⟨ret_bool ?_, rfl⟩
      symm
      rw [decide_eq_false_iff_not]
      intro hm
      obtain ⟨j, hj, e⟩ := mem_gi hm
      exact HA.out j (by rw [← H.out.2]; exact hj) e.symm
end Go.Proofs.Ytcgcbajgclkmkaa
