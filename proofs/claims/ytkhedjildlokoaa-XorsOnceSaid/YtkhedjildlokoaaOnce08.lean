/- XorsOnce: a sum of some hangs on no order; what is added twice is away. -/
import Derived.Test.YtkhedjildlokoaaPadded08
namespace Go.Proofs.Ytkhedjildlokoaa
open Go.RowKit
set_option linter.unusedVariables false

/-! The plain law. -/
theorem foldl_xorL (n : Nat) : ∀ (l : List (List UInt8)) (a : List UInt8), a.length = n → l.all (·.length == n) = true → l.foldl xorL a = xorL a (sumL n l)
  | [], a, ha, _ => by rw [sumL, List.foldl_nil, List.foldl_nil, xorL_zero a n ha]
  | x :: l, a, ha, h => by
    simp only [List.all_cons, Bool.and_eq_true, beq_iff_eq] at h
    have h1 := foldl_xorL n l (xorL a x) (by rw [xorL_length _ _ (by omega)]; exact ha) h.2
    have h2 := foldl_xorL n l (xorL (List.replicate n 0) x) (by rw [xorL_length _ _ (by simp; omega)]; simp) h.2
    rw [List.foldl_cons, h1, xorL_assoc]
    congr 1
    show _ = List.foldl xorL (List.replicate n 0) (x :: l)
    rw [List.foldl_cons, h2, xorL_comm (List.replicate n 0) x, xorL_zero x n h.1]
theorem xorL_right_comm (a b c : List UInt8) : xorL (xorL a b) c = xorL (xorL a c) b := by
  rw [xorL_assoc, xorL_comm b c, ← xorL_assoc]
theorem sumL_perm {n : Nat} {l l' : List (List UInt8)} (h : l.Perm l') : sumL n l = sumL n l' := by
  unfold sumL
  exact List.Perm.foldl_eq' h (fun x _ y _ z => xorL_right_comm z x y) _
theorem sumL_twice {n : Nat} {l : List (List UInt8)} (h : l.all (·.length == n) = true) : sumL n (l ++ l) = List.replicate n 0 := by
  have : sumL n (l ++ l) = l.foldl xorL (sumL n l) := by unfold sumL; rw [List.foldl_append]
  rw [this, foldl_xorL n l _ (sumL_length h) h, xorL_self, sumL_length h]
def twi (es : List (List UInt8)) : Nat → List (List UInt8)
  | 0 => []
  | k + 1 => twi es k ++ [es.getD k [], es.getD (es.length - 1 - k) []]
theorem twi_perm (es : List (List UInt8)) : ∀ k, k ≤ es.length → (twi es k).Perm (es.take k ++ es.reverse.take k)
  | 0, _ => by simp [twi]
  | k + 1, hk => by
    have ih := twi_perm es k (by omega)
    have e1 : es.take (k + 1) = es.take k ++ [es.getD k []] := by
      rw [List.take_succ_eq_append_getElem (by omega)]; simp [List.getD, List.getElem?_eq_getElem (show k < es.length by omega)]
    have e2 : es.reverse.take (k + 1) = es.reverse.take k ++ [es.getD (es.length - 1 - k) []] := by
      rw [List.take_succ_eq_append_getElem (by simp; omega), List.getElem_reverse]
      simp [List.getD, List.getElem?_eq_getElem (show es.length - 1 - k < es.length by omega)]
    rw [e1, e2]
    unfold twi
    refine (ih.append_right _).trans ?_
    generalize es.take k = a
    generalize es.reverse.take k = b
    generalize es.getD k [] = x
    generalize es.getD (es.length - 1 - k) [] = y
    have : (a ++ b ++ [x, y]).Perm (a ++ [x] ++ (b ++ [y])) := by
      rw [List.append_assoc, List.append_assoc]
      refine List.Perm.append_left a ?_
      have h := (List.perm_append_comm (l₁ := b) (l₂ := [x])).append_right [y]
      rw [List.append_assoc, List.append_assoc] at h
      exact h
    exact this
theorem twi_all (es : List (List UInt8)) : (twi es es.length).Perm (es ++ es) := by
  have h := twi_perm es es.length (Nat.le_refl _)
  rw [List.take_length] at h
  have e : es.reverse.take es.length = es.reverse := List.take_of_length_le (by simp)
  rw [e] at h
  exact h.trans (List.Perm.append_left es (List.reverse_perm es))
theorem twi_length (es : List (List UInt8)) : ∀ k, (twi es k).length = 2 * k
  | 0 => rfl
  | k + 1 => by rw [twi, List.length_append, twi_length es k]; simp; omega
theorem all_perm {n : Nat} {l l' : List (List UInt8)} (h : l.Perm l') (ha : l'.all (·.length == n) = true) : l.all (·.length == n) = true := by
  rw [List.all_eq_true] at ha ⊢
  exact fun x hx => ha x (h.mem_iff.1 hx)
theorem allE_of {n : Nat} {l : List (List UInt8)} (hn : n ≤ 65535) (h : l.all (·.length == n) = true) : allE n l = 0 := by
  unfold allE
  rw [if_pos (by omega)]
  show (if l.all (·.length == n) = true then (0 : Int) else 2) = 0
  rw [h]; rfl
theorem allV_of {n : Nat} {l : List (List UInt8)} (hn : n ≤ 65535) (h : l.all (·.length == n) = true) : allV n l = sumL n l := by
  unfold allV
  rw [if_pos (by omega)]
  show (if l.all (·.length == n) = true then sumL n l else []) = sumL n l
  rw [h]; rfl

/-! What the loop keeps. -/
/-- A row lies in a block of bytes, another one than the sum's. -/
def InB (gs : Nat) (w : World) (a : Addr) : Prop := (∃ cs, Bk w a.block 5 cs) ∧ a.block ≠ gs
theorem Bk.typ {w : World} {g : Nat} {t t' : TypeId} {cs cs' : List Value} (h : Bk w g t cs) (h' : Bk w g t' cs') : t = t' := by
  unfold Bk at h h'
  rw [h] at h'
  injection h' with h'
  injection h' with _ h2 _
theorem own_bk {w : World} {base : Nat} {e : TypeId} {n c : Nat} {A : Option Addr} {xs : List Value} (h : w.ownsRow base e 1 (.slice A n c) n xs) : ∀ a, A = some a → ∃ cs, Bk w a.block e cs := by
  intro a ha
  subst ha
  rcases h.2 with ⟨h2, _⟩ | ⟨g, cap, cur, hv, hg, hh, _⟩
  · cases h2
  · cases hv; exact ⟨cur.toList, hh⟩
theorem own_bkV {w : World} {base : Nat} {e : TypeId} {n : Nat} {v : Value} {xs : List Value} (h : w.ownsRow base e 1 v n xs) {j : Nat} (hj : v.ownBlock = some j) : ∃ cs, Bk w j e cs := by
  rcases h.2 with ⟨rfl, _⟩ | ⟨g, cap, cur, rfl, hg, hh, _⟩
  · simp [Value.ownBlock] at hj
  · simp [Value.ownBlock] at hj; subst hj; exact ⟨cur.toList, hh⟩
/-- An append onto a list of rows leaves each block of bytes as it is. -/
theorem grown_ne {w : World} {base n : Nat} {v : Value} {xs : List Value} (h : w.ownsRow base 23 1 v n xs) {g : Nat} {cs : List Value} (hb : Bk w g 5 cs) : some g ≠ v.ownBlock := by
  intro e
  obtain ⟨cs', hb'⟩ := own_bkV h e.symm
  exact absurd (hb.typ hb') (by decide)
theorem InB.below {gs : Nat} {w w' : World} {a : Addr} (h : InB gs w a) (hb : Below w.heap.size w w') : InB gs w' a := by
  obtain ⟨⟨cs, h1⟩, h2⟩ := h
  exact ⟨⟨cs, h1.belowS hb⟩, h2⟩
theorem InB.grown {gs : Nat} {w w' : World} {a : Addr} {base n : Nat} {v : Value} {xs : List Value} (h : InB gs w a) (ho : w.ownsRow base 23 1 v n xs) (hg : w.grownBy w' v.ownBlock) : InB gs w' a := by
  obtain ⟨⟨cs, h1⟩, h2⟩ := h
  exact ⟨⟨cs, h1.grown hg (grown_ne ho h1)⟩, h2⟩
theorem InB.upd {gs : Nat} {w w' : World} {a : Addr} (h : InB gs w a) (hg : w.grownBy w' (some gs)) : InB gs w' a := by
  obtain ⟨⟨cs, h1⟩, h2⟩ := h
  exact ⟨⟨cs, h1.grown hg (by simpa using h2)⟩, h2⟩
/-- A list of rows, of the call's own. -/
def Lst (B gs : Nat) (v : Value) (xss : List (List UInt8)) (w : World) : Prop := ∃ vs, w.ownsRow B 23 1 v xss.length vs ∧ RowsP (InB gs w) w vs xss
theorem Lst.below {B gs : Nat} {v : Value} {xss : List (List UInt8)} {w w' : World} (h : Lst B gs v xss w) (hb : Below w.heap.size w w') : Lst B gs v xss w' := by
  obtain ⟨vs, h1, h2⟩ := h
  exact ⟨vs, own_below h1 hb, (h2.below hb).imp fun a ha => ha.below hb⟩
theorem Lst.upd {B gs : Nat} {v : Value} {xss : List (List UInt8)} {w w' : World} (h : Lst B gs v xss w) (hs : ∃ cs, Bk w gs 5 cs) (hg : w.grownBy w' (some gs)) : Lst B gs v xss w' := by
  obtain ⟨vs, h1, h2⟩ := h
  obtain ⟨cs, hs⟩ := hs
  refine ⟨vs, h1.kept hg ?_, (h2.grown hg fun a ha => by simpa using ha.2).imp fun a ha => ha.upd hg⟩
  exact .inr (fun e => grown_ne h1 hs e.symm)
/-- Another list than the one that is appended to. -/
theorem Lst.other {B gs base n : Nat} {v u : Value} {xss : List (List UInt8)} {xs : List Value} {w w' : World} (h : Lst B gs v xss w) (ho : w.ownsRow base 23 1 u n xs) (hg : w.grownBy w' u.ownBlock) (hne : ∀ j, v.ownBlock = some j → u.ownBlock ≠ some j) : Lst B gs v xss w' := by
  obtain ⟨vs, h1, h2⟩ := h
  refine ⟨vs, h1.kept hg ?_, (h2.grown hg fun a ha => ?_).imp fun a ha => ha.grown ho hg⟩
  · cases hv : v.ownBlock with
    | none => exact .inl rfl
    | some j => exact .inr (fun e => hne j hv e.symm)
  · obtain ⟨⟨cs, hb⟩, _⟩ := ha
    exact grown_ne ho hb
/-- What is appended to. -/
theorem Lst.append {B gs : Nat} {v v' : Value} {xss yss : List (List UInt8)} {us : List Value} {w w' : World} {vs : List Value} (ho : w.ownsRow B 23 1 v xss.length vs) (hR : RowsP (InB gs w) w vs xss) (hu : RowsP (InB gs w) w us yss)
    (ho' : w'.ownsRow B 23 1 v' (xss.length + yss.length) (vs ++ us)) (hg : w.grownBy w' v.ownBlock) : Lst B gs v' (xss ++ yss) w' := by
  refine ⟨vs ++ us, by rw [List.length_append]; exact ho', ?_⟩
  have h1 := (hR.grown hg fun a ha => by obtain ⟨⟨cs, hb⟩, _⟩ := ha; exact grown_ne ho hb).imp fun a ha => ha.grown ho hg
  have h2 := (hu.grown hg fun a ha => by obtain ⟨⟨cs, hb⟩, _⟩ := ha; exact grown_ne ho hb).imp fun a ha => ha.grown ho hg
  refine ⟨by rw [List.length_append, List.length_append, h1.1, h2.1], fun i x hx => ?_⟩
  rcases Nat.lt_or_ge i xss.length with hi | hi
  · rw [List.getElem?_append_left hi] at hx
    rw [List.getElem?_append_left (by rw [h1.1]; exact hi)]
    exact h1.2 i x hx
  · rw [List.getElem?_append_right hi] at hx
    rw [List.getElem?_append_right (by rw [h1.1]; exact hi), h1.1]
    exact h2.2 _ x hx

/-! The walk. -/
def Apart (v u : Value) : Prop := ∀ j, v.ownBlock = some j → u.ownBlock ≠ some j
structure St (B gs n : Nat) (L5 L6 L7 : List (List UInt8)) (acc : List UInt8) (v5 v6 v7 : Value) (w : World) : Prop where
  a5 : Lst B gs v5 L5 w
  a6 : Lst B gs v6 L6 w
  a7 : Lst B gs v7 L7 w
  sum : Mut w (some ⟨gs, 0, none⟩) n gs 0 (bys acc)
  there : ∃ cs, Bk w gs 5 cs
  n56 : Apart v5 v6
  n57 : Apart v5 v7
  n67 : Apart v6 v7
section
variable {B gs n : Nat} {L5 L6 L7 ys yss : List (List UInt8)} {acc acc' : List UInt8} {v5 v6 v7 v' : Value} {w w' : World} {us vs rs : List Value}
theorem Lst.lt {v : Value} {l : List (List UInt8)} (h : Lst B gs v l w) : ∀ j, v.ownBlock = some j → j < w.heap.size := by
  obtain ⟨vs, h1, _⟩ := h
  exact fun j hj => (h1.lt j hj).2
theorem Apart.symm {v u : Value} (h : Apart v u) : Apart u v := fun j hj e => h j e hj
theorem Apart.fresh {v v' u : Value} {H : Nat} (h : Apart v u) (hat : v'.ownBlock = v.ownBlock ∨ v'.ownBlock = some H) (hu : ∀ j, u.ownBlock = some j → j < H) : Apart v' u := by
  intro j hj e
  rcases hat with h' | h'
  · exact h j (h' ▸ hj) e
  · rw [h'] at hj; cases hj; exact absurd (hu _ e) (Nat.lt_irrefl _)
theorem St.below (S : St B gs n L5 L6 L7 acc v5 v6 v7 w) (hb : Below w.heap.size w w') : St B gs n L5 L6 L7 acc v5 v6 v7 w' := by
  obtain ⟨cs, hcs⟩ := S.there
  exact ⟨S.a5.below hb, S.a6.below hb, S.a7.below hb, S.sum.below hb, ⟨cs, hcs.belowS hb⟩, S.n56, S.n57, S.n67⟩
theorem rowsP_below (h : RowsP (InB gs w) w rs yss) (hb : Below w.heap.size w w') : RowsP (InB gs w') w' rs yss := (h.below hb).imp fun a ha => ha.below hb
theorem rowsP_grown {base m : Nat} {v : Value} {xs : List Value} (h : RowsP (InB gs w) w rs yss) (ho : w.ownsRow base 23 1 v m xs) (hg : w.grownBy w' v.ownBlock) : RowsP (InB gs w') w' rs yss :=
  (h.grown hg fun a ha => by obtain ⟨⟨cs, hb⟩, _⟩ := ha; exact grown_ne ho hb).imp fun a ha => ha.grown ho hg
theorem mut_grown {base m : Nat} {v : Value} {xs l : List Value} {A : Option Addr} (h : Mut w A n gs 0 l) (hs : ∃ cs, Bk w gs 5 cs) (ho : w.ownsRow base 23 1 v m xs) (hg : w.grownBy w' v.ownBlock) : Mut w' A n gs 0 l ∧ ∃ cs, Bk w' gs 5 cs := by
  obtain ⟨cs, hcs⟩ := hs
  exact ⟨h.grown hg (grown_ne ho hcs), cs, hcs.grown hg (grown_ne ho hcs)⟩
theorem St.app5 (S : St B gs n L5 L6 L7 acc v5 v6 v7 w) (ho : w.ownsRow B 23 1 v5 L5.length vs) (hR : RowsP (InB gs w) w vs L5) (hu : RowsP (InB gs w) w us ys)
    (ho' : w'.ownsRow B 23 1 v' (L5.length + ys.length) (vs ++ us)) (hg : w.grownBy w' v5.ownBlock) (hat : v'.ownBlock = v5.ownBlock ∨ v'.ownBlock = some w.heap.size) : St B gs n (L5 ++ ys) L6 L7 acc v' v6 v7 w' := by
  have hm := mut_grown S.sum S.there ho hg
  exact ⟨Lst.append ho hR hu ho' hg, S.a6.other ho hg S.n56.symm, S.a7.other ho hg S.n57.symm, hm.1, hm.2, S.n56.fresh hat S.a6.lt, S.n57.fresh hat S.a7.lt, S.n67⟩
theorem St.app7 (S : St B gs n L5 L6 L7 acc v5 v6 v7 w) (ho : w.ownsRow B 23 1 v7 L7.length vs) (hR : RowsP (InB gs w) w vs L7) (hu : RowsP (InB gs w) w us ys)
    (ho' : w'.ownsRow B 23 1 v' (L7.length + ys.length) (vs ++ us)) (hg : w.grownBy w' v7.ownBlock) (hat : v'.ownBlock = v7.ownBlock ∨ v'.ownBlock = some w.heap.size) : St B gs n L5 L6 (L7 ++ ys) acc v5 v6 v' w' := by
  have hm := mut_grown S.sum S.there ho hg
  exact ⟨S.a5.other ho hg S.n57, S.a6.other ho hg S.n67, Lst.append ho hR hu ho' hg, hm.1, hm.2, S.n56, (S.n57.symm.fresh hat S.a5.lt).symm, (S.n67.symm.fresh hat S.a6.lt).symm⟩
/-- 'turned': a new list, of one, to which the elder one is appended. -/
theorem St.app6 (S : St B gs n L5 L6 L7 acc v5 v6 v7 w) {bx : Value} (hbx : w.ownsRow B 23 1 bx ys.length us) (hu : RowsP (InB gs w) w us ys)
    (h5 : Apart bx v5) (h6 : Apart bx v6) (h7 : Apart bx v7) (hv : RowsP (InB gs w) w vs L6)
    (ho' : w'.ownsRow B 23 1 v' (ys.length + L6.length) (us ++ vs)) (hg : w.grownBy w' bx.ownBlock) (hat : v'.ownBlock = bx.ownBlock ∨ v'.ownBlock = some w.heap.size) : St B gs n L5 (ys ++ L6) L7 acc v5 v' v7 w' := by
  have hm := mut_grown S.sum S.there hbx hg
  exact ⟨S.a5.other hbx hg h5.symm, Lst.append hbx hu hv ho' hg, S.a7.other hbx hg h7.symm, hm.1, hm.2, (h5.fresh hat S.a5.lt).symm, S.n57, h7.fresh hat S.a7.lt⟩
theorem St.add (S : St B gs n L5 L6 L7 acc v5 v6 v7 w) (hu : Upd w w' gs 0 (bys acc')) (hl : acc'.length = n) : St B gs n L5 L6 L7 acc' v5 v6 v7 w' := by
  obtain ⟨cs, hcs⟩ := S.there
  refine ⟨S.a5.upd ⟨cs, hcs⟩ hu.1, S.a6.upd ⟨cs, hcs⟩ hu.1, S.a7.upd ⟨cs, hcs⟩ hu.1, S.sum.upd hu (by rw [bys_length]; exact hl), ?_, S.n56, S.n57, S.n67⟩
  rcases Nat.eq_zero_or_pos n with h0 | h0
  · have : acc' = [] := List.eq_nil_of_length_eq_zero (by omega)
    subst this
    exact ⟨_, hu.2 _ _ hcs (by simp [bys])⟩
  · obtain ⟨_, t, cur, hb, hf, _⟩ := S.sum.2 h0
    have ht := hcs.typ hb
    subst ht
    exact ⟨_, hu.2 _ _ hb (by rw [bys_length]; omega)⟩
end
theorem rowsP_one {p : Addr → Prop} {w : World} {A : Option Addr} {n c : Nat} {x : List UInt8} (hr : Rd w A n (bys x)) (hc : n ≤ c) (hn : n ≤ 100) (hp : ∀ a, A = some a → p a) : RowsP p w [.slice A n c] [x] :=
  (RowsP.nil p w).cons hr hc (by omega) hp
theorem Apart.of_new {v : Value} {H : Nat} {A : Option Addr} {n c : Nat} (hu : ∀ j, v.ownBlock = some j → j < H) : Apart (.slice (some ⟨H, 0, none⟩) n c) v := by
  intro j hj e
  simp [Value.ownBlock] at hj
  have := hu j e; omega
theorem own_box {w : World} {B : Nat} (hB : B ≤ w.heap.size) (sx : Value) : (w.alloc (.cells #[sx] 23)).ownsRow B 23 1 (.slice (some ⟨w.heap.size, 0, none⟩) 1 1) 1 [sx] :=
  ⟨rfl, .inr ⟨w.heap.size, 1, #[sx], rfl, hB, heap_alloc_new w _, Nat.le_refl _, by simp [maxLen], rfl, rfl⟩⟩

theorem mut_ge {w : World} {A : Option Addr} {n g off : Nat} {xs : List Value} (h : Mut w A n g off xs) (hA : A = some ⟨g, off, none⟩) : Rd w (some ⟨g, off, none⟩) n xs := hA ▸ h.rd
set_option maxRecDepth 100000 in
set_option maxHeartbeats 4000000 in
theorem once_walk {w : World} {L : Option Addr} {m c : Nat} {vs : List Value} {xss : List (List UInt8)} (hL : Rd w L m vs) (hR : Rows_ w vs xss) (hc : m ≤ c) (hm : m ≤ 5864062014634) :
    Calls Try.prog 7 #[.slice L m c] w fun e w' => e = .returned (.bool true) ∧ Below w.heap.size w w' := by
  have HM : Hid (m = xss.length) := by have := hL.1; have := hR.1; unfold Hid; omega
  have HL := Lib.hid (And.intro hL hR)
  clear hL hR
  obtain ⟨i0, hi0, hz0, hz1, hz2⟩ := info_parts u8_info
  obtain ⟨i1, hi1, hy0, hy1, hy2⟩ := info_parts row_info
  go_enter Try.func7, Try.ntmps7
  go_wp2_with fail
  refine (known_any _).mono ?_
  rintro e w1 ⟨rfl, hb1⟩
  have H1 := Lib.hid hb1
  clear hb1
  by_cases h0 : m = 0
  · subst h0
    go_wp2
    go_ret
    exact ⟨rfl, H1.out⟩
  have hd0 : ((m : Int) == 0) = false := by simp; omega
  have hdd : decide ((m : Int) = 0) = false := by simp; omega
  by_cases h20 : 20 < m
  · have hd : decide ((20 : Int) < (m : Int)) = true := by simp; omega
    go_wp2
    go_ret
    exact ⟨rfl, H1.out⟩
  have hd : decide ((20 : Int) < (m : Int)) = false := by simp; omega
  obtain ⟨A0, c0, ev0, hc0, hll0, hrd0⟩ := HL.out.2.at_ (k := 0) (by rw [← HM.out]; omega)
  obtain ⟨b, off, rfl, hbl, hcc⟩ := HL.out.1.form (by omega)
  have hc1 := (H1.out.cell (p := ⟨b, off, none⟩) hbl).trans (by simpa using hcc 0 _ ev0)
  have m0 : (0 : Int) < (m : Int) := by omega
  have HCC := Lib.hid hcc
  clear hcc ev0
  obtain ⟨n, hn⟩ : ∃ n, n = (xss[0]'(by rw [← HM.out]; omega)).length := ⟨_, rfl⟩
  rw [← hn] at hc1 hrd0 hc0
  have HN := Lib.hid hn
  clear hn
  by_cases h100 : 100 < n
  · have hd1 : decide ((100 : Int) < (n : Int)) = true := by simp; omega
    go_wp2
    go_ret
    exact ⟨rfl, H1.out⟩
  have hd1 : decide ((100 : Int) < (n : Int)) = false := by simp; omega
  have hs1 := H1.out.size
  go_wp2_with (at_make; refine wpList_make_full _ rfl _ _ 23 rfl w.heap.size 5 i0 (.int .u8 0) 1 Try.underlying23 hi0 hz0 hz1 .i64 .i64 _ _ n rfl rfl rfl rfl (by rw [hz2]; omega) (by simp only [maxLen]; omega) (by omega) ?_; intro w2 hown hg; rw [zeros_bys] at hown; have HB := Lib.hid (And.intro hown (below_of_grownN hg)); clear hown hg)
  obtain ⟨es, hes⟩ : ∃ es, es = xss.map (evenL · n) := ⟨_, rfl⟩
  have hel : es.length = m := by rw [hes, List.length_map, ← HM.out]
  have heall : es.all (·.length == n) = true := by
    rw [List.all_eq_true]; intro x hx; rw [hes] at hx; obtain ⟨y, _, rfl⟩ := List.mem_map.1 hx
    simp [evenL_length]
  have heget : ∀ (i : Nat) (h : i < es.length) (h' : i < xss.length), es[i] = evenL xss[i] n := by intro i h h'; simp [hes]
  have HE := Lib.hid (And.intro hel (And.intro heall heget))
  clear hel heall heget hes
  have hb2 : Below w.heap.size w w2 := below_base H1.out HB.out.2 hs1
  have hgs2 : w1.heap.size < w2.heap.size := by
    obtain ⟨cs, h⟩ := own_bk HB.out.1 _ rfl
    exact h.lt
  have hst : St w.heap.size w1.heap.size n (es.take 0) (es.take 0).reverse (twi es 0) (sumL n (es.take 0)) (.slice none 0 0) (.slice none 0 0) (.slice none 0 0) w2 := by
    have hl : Lst w.heap.size w1.heap.size (.slice none 0 0) [] w2 := ⟨[], World.ownsRow_nil _ _ _ _, RowsP.nil _ _⟩
    have ha : Apart (.slice none 0 0) (.slice none 0 0) := fun j hj => by simp [Value.ownBlock] at hj
    refine ⟨by simpa using hl, by simpa using hl, hl, ?_, own_bk HB.out.1 _ rfl, ha, ha, ha⟩
    have hf := own_form HB.out.1
    obtain ⟨A', c', e', _, _, hlen, hff⟩ := hf
    injection e' with e1 _ e3
    subst e1; subst e3
    refine ⟨by simp [sumL, bys], fun hn0 => ?_⟩
    obtain ⟨g, cur, hA, _, _, hbk, hcl, ht⟩ := hff hn0
    cases hA
    exact ⟨rfl, _, cur, hbk, by omega, by simpa [sumL] using ht⟩
  have HST := Lib.hid hst
  clear hst
  go_loopw [5, 6, 7, 9] (fun v5 v6 v7 i wr => ∃ k : Nat, k ≤ m ∧ i = .int .i64 k ∧ Hid (St w.heap.size w1.heap.size n (es.take k) (es.take k).reverse (twi es k) (sumL n (es.take k)) v5 v6 v7 wr) ∧ Below w.heap.size w wr ∧ w1.heap.size < wr.heap.size) (fun v5 v6 v7 i wr => m - (intOf i).toNat)
  case atStart => exact ⟨0, by omega, rfl, HST, hb2, hgs2⟩
  case round =>
    clear hb2 hgs2 HST
    obtain ⟨k, hk, rfl, HS, hb, hgs⟩ := hrel
    by_cases hlt : k < m
    · have hkx : k < xss.length := by rw [← HM.out]; exact hlt
      have hke : k < es.length := by rw [HE.out.1]; exact hlt
      have hjx : m - 1 - k < xss.length := by rw [← HM.out]; omega
      have hje : m - 1 - k < es.length := by rw [HE.out.1]; omega
      obtain ⟨A1, c1, ev, hcr, hll, hrd⟩ := HL.out.2.at_ hkx
      have hc' := (hb.cell (p := ⟨b, off + k, none⟩) hbl).trans (HCC.out k _ ev)
      have HB1 := Lib.hid (hrd.below hb)
      obtain ⟨A2, c2, ev2, hcr2, hll2, hrd2⟩ := HL.out.2.at_ hjx
      have HC2 := Lib.hid (And.intro (HCC.out (m - 1 - k) _ ev2) hrd2)
      clear ev hrd ev2 hrd2
      obtain ⟨vs5, ho5, hR5⟩ := HS.out.a5
      have e5 : (es.take k).length = k := by rw [List.length_take]; omega
      obtain ⟨vs6, ho6, hR6⟩ := HS.out.a6
      rw [List.length_reverse, e5] at ho6
      obtain ⟨A6, c6, rfl, hc6, _, _, _⟩ := own_form ho6
      rw [e5] at ho5
      have HO := Lib.hid (And.intro ho5 hR5)
      clear ho5 hR5 ho6 hR6
      have HK := Lib.hid e5
      clear e5
      go_wp2_with fail
      refine (even_any HB1.out n (by omega)).mono ?_
      rintro e w3 ⟨v10, rfl, ho10, hb3⟩
      obtain ⟨Ax, cx, rfl, hcx, _, _, _⟩ := own_form ho10
      rw [← HE.out.2.2 k hke hkx] at ho10
      have S3 := HS.out.below hb3
      have row3 : RowsP (InB w1.heap.size w3) w3 [.slice Ax n cx] [es[k]] := rowsP_one (Rd.of_own ho10) hcx (by omega) (fun a ha => ⟨own_bk ho10 a ha, by have := own_ge ho10 a ha; omega⟩)
      have hown5 := own_below HO.out.1 hb3
      have hrow5 := rowsP_below HO.out.2 hb3
      have b3 := below_base hb hb3 hb.size
      have hs3 := hb3.size
      have hs := hb.size
      have H3 := Lib.hid (And.intro S3 (And.intro row3 (And.intro hown5 (And.intro hrow5 b3))))
      clear S3 row3 hown5 hrow5 b3 hb3 ho10
      go_upto_region 12 with (at_builtin; refine wpList_append_rd _ rfl (.tmp 46) (.tmp 48) _ rfl w.heap.size 23 i1 _ 1 24 Try.underlying22 hi1 hy0 hy1 hy2 rfl (by omega) u5 k vs5 rfl (H3.out.2.2.1.alloc _) _ 1 1 [.slice Ax n cx] rfl (by exact Rd.lit _ _ _ _ rfl _ rfl _ rfl) slice_one (by simp only [maxLen]; omega) (by omega) (by simp; omega) ?_; intro v5' w4 ho5' hg5 hat5)
      have bA : Below w3.heap.size w3 (w3.alloc (.cells #[.slice Ax n cx] 23)) := (Below.refl _ _).alloc (Nat.le_refl _) _
      have S5 := (H3.out.1.below bA).app5 (by rw [HK.out]; exact H3.out.2.2.1.alloc _) (rowsP_below H3.out.2.2.2.1 bA) (rowsP_below H3.out.2.1 bA) (by rw [HK.out]; exact ho5') hg5 hat5
      have row5 := rowsP_grown (rowsP_below H3.out.2.1 bA) (H3.out.2.2.1.alloc _) hg5
      have b5 := (H3.out.2.2.2.2.alloc (by omega) _).grown hg5 (by simp; omega) (fun j hj => (H3.out.2.2.1.lt j hj).1)
      obtain ⟨vs6', ho6, hR6⟩ := S5.a6
      rw [List.length_reverse, HK.out] at ho6
      have hs4 : w3.heap.size + 1 ≤ w4.heap.size := by have := hg5.size; simpa using this
      have H5 := Lib.hid (And.intro S5 (And.intro row5 (And.intro ho6 (And.intro hR6 b5))))
      clear S5 row5 ho6 hR6 b5 hg5 hat5 ho5' bA H3 HO HS
      go_upto_region 13 with (at_builtin; refine wpList_append_rd _ rfl (.tmp 51) (.tmp 52) _ rfl w.heap.size 23 i1 _ 1 24 Try.underlying22 hi1 hy0 hy1 hy2 rfl (by omega) _ 1 [.slice Ax n cx] rfl (by exact own_box (by omega) _) A6 k c6 vs6' rfl (by rw [Nat.mul_one]; exact (Rd.of_own H5.out.2.2.1).alloc _) (fun u hu => by
        obtain ⟨i, hi, rfl⟩ := List.getElem_of_mem hu
        obtain ⟨A', c', e', _⟩ := H5.out.2.2.2.1.2 i _ (List.getElem?_eq_getElem (by rw [← H5.out.2.2.2.1.1]; exact hi))
        rw [List.getElem?_eq_getElem hi] at e'
        rw [Option.some.inj e']; rfl) (by simp only [maxLen]; omega) (by omega) (by simp; omega) ?_; intro v6' w5 ho6' hg6 hat6)
      have bA : Below w4.heap.size w4 (w4.alloc (.cells #[.slice Ax n cx] 23)) := (Below.refl _ _).alloc (Nat.le_refl _) _
      have hbx := own_box (w := w4) (B := w.heap.size) (by omega) (.slice Ax n cx)
      have S6 := (H5.out.1.below bA).app6 (ys := [es[k]]) hbx (rowsP_below H5.out.2.1 bA) (Apart.of_new (A := none) H5.out.1.a5.lt) (Apart.of_new (A := none) H5.out.1.a6.lt) (Apart.of_new (A := none) H5.out.1.a7.lt) (rowsP_below H5.out.2.2.2.1 bA) (by rw [List.length_reverse, HK.out]; exact ho6') hg6 hat6
      have row6 := rowsP_grown (rowsP_below H5.out.2.1 bA) hbx hg6
      have b6 := (H5.out.2.2.2.2.alloc (by omega) _).grown hg6 (by simp; omega) (fun j hj => (hbx.lt j hj).1)
      have hs5 : w4.heap.size + 1 ≤ w5.heap.size := by have := hg6.size; simpa using this
      have hc2' := (b6.cell (p := ⟨b, off + (m - 1 - k), none⟩) hbl).trans HC2.out.1
      have HB2 := Lib.hid (HC2.out.2.below b6)
      have H6 := Lib.hid (And.intro S6 (And.intro row6 b6))
      clear S6 row6 b6 hbx bA hg6 hat6 ho6' H5
      have q0 : (0 : Int) ≤ (m : Int) - 1 - (k : Int) := by omega
      have q1 : (m : Int) - 1 - (k : Int) < (m : Int) := by omega
      go_wp2_with fail
      refine (even_any HB2.out n (by omega)).mono ?_
      rintro e w6 ⟨v65, rfl, ho65, hb6⟩
      obtain ⟨Ay, cy, rfl, hcy, _, _, _⟩ := own_form ho65
      rw [← HE.out.2.2 (m - 1 - k) hje hjx] at ho65
      have S7 := H6.out.1.below hb6
      have rowx := rowsP_below H6.out.2.1 hb6
      have rowy : RowsP (InB w1.heap.size w6) w6 [.slice Ay n cy] [es[m - 1 - k]] := rowsP_one (Rd.of_own ho65) hcy (by omega) (fun a ha => ⟨own_bk ho65 a ha, by have := own_ge ho65 a ha; omega⟩)
      have rowxy : RowsP (InB w1.heap.size w6) w6 [.slice Ax n cx, .slice Ay n cy] [es[k], es[m - 1 - k]] := by
        obtain ⟨A', c', e', h1, h2, h3, h4⟩ := rowx.2 0 _ rfl
        have e' := Option.some.inj e'
        injection e' with e1 e2 e3
        subst e1; subst e3
        rw [← e2] at h1 h2 h3
        exact rowy.cons h3 h1 h2 h4
      have b7 := below_base H6.out.2.2 hb6 H6.out.2.2.size
      have hs6 := hb6.size
      obtain ⟨vs7, ho7, hR7⟩ := S7.a7
      rw [twi_length] at ho7
      have H7 := Lib.hid (And.intro S7 (And.intro rowx (And.intro rowxy (And.intro ho7 (And.intro hR7 b7)))))
      clear S7 rowx rowy rowxy ho7 hR7 b7 hb6 ho65 H6
      go_upto_region 14 with (at_builtin; refine wpList_append_rd _ rfl (.tmp 54) (.tmp 66) _ rfl w.heap.size 23 i1 _ 1 24 Try.underlying22 hi1 hy0 hy1 hy2 rfl (by omega) u7 (2 * k) vs7 rfl (H7.out.2.2.2.1.alloc _) _ 2 2 [.slice Ax n cx, .slice Ay n cy] rfl (by exact Rd.lit _ _ _ _ rfl _ rfl _ rfl) (by intro u hu; simp at hu; rcases hu with rfl | rfl <;> rfl) (by simp only [maxLen]; omega) (by omega) (by simp; omega) ?_; intro v7' w7 ho7' hg7 hat7)
      have bA : Below w6.heap.size w6 (w6.alloc (.cells #[.slice Ax n cx, .slice Ay n cy] 23)) := (Below.refl _ _).alloc (Nat.le_refl _) _
      have S8 := (H7.out.1.below bA).app7 (by rw [twi_length]; exact H7.out.2.2.2.1.alloc _) (rowsP_below H7.out.2.2.2.2.1 bA) (rowsP_below H7.out.2.2.1 bA) (by rw [twi_length]; exact ho7') hg7 hat7
      have row8 := rowsP_grown (rowsP_below H7.out.2.1 bA) (H7.out.2.2.2.1.alloc _) hg7
      have b8 := (H7.out.2.2.2.2.2.alloc (by omega) _).grown hg7 (by simp; omega) (fun j hj => (H7.out.2.2.2.1.lt j hj).1)
      have hs7 : w6.heap.size + 1 ≤ w7.heap.size := by have := hg7.size; simpa using this
      have hxr : Rd w7 Ax n (bys es[k]) ∧ ∀ a, Ax = some a → a.block ≠ w1.heap.size := by
        obtain ⟨A', c', e', h1, h2, h3, h4⟩ := row8.2 0 _ rfl
        have e' := Option.some.inj e'
        injection e' with e1 e2 e3
        subst e1; subst e3
        rw [← e2] at h3
        exact ⟨h3, fun a ha => (h4 a ha).2⟩
      have hkl : es[k].length = n := by
        have := List.all_eq_true.1 HE.out.2.1 _ (List.getElem_mem hke); simpa using this
      have hsl : (sumL n (es.take k)).length = n := sumL_length (by
        rw [List.all_eq_true]; intro x hx; exact List.all_eq_true.1 HE.out.2.1 x (List.mem_of_mem_take hx))
      have hsucc := sumL_take_succ (n := n) hke
      have H8 := Lib.hid (And.intro S8 (And.intro b8 (And.intro hxr (And.intro hkl (And.intro hsl hsucc)))))
      clear S8 row8 b8 hxr hkl hsl hsucc bA hg7 hat7 ho7' H7
      go_wp2_with fail
      refine (into_any H8.out.1.sum H8.out.2.2.1.1 (fun _ a ha => H8.out.2.2.1.2 a ha) (by omega) (Nat.le_refl _) hcx).mono ?_
      rintro e w8 ⟨rfl, hu8⟩
      have S9 := H8.out.1.add hu8 (by rw [xorL_length _ _ (by rw [H8.out.2.2.2.2.1, H8.out.2.2.2.1]), H8.out.2.2.2.2.1])
      have b9 := hu8.below H8.out.2.1 H8.out.2.1.size hs1
      have hs8 := hu8.1.size
      rw [← H8.out.2.2.2.2.2] at S9
      have H9 := Lib.hid (And.intro S9 b9)
      clear S9 b9 hu8
      go_wp2_with fail
      refine ⟨⟨k + 1, by omega, by go_num, ?_, H9.out.2, by omega⟩, by simp [intOf]; omega⟩
      have e1 : es.take (k + 1) = es.take k ++ [es[k]] := List.take_succ_eq_append_getElem hke
      have e2 : (es.take (k + 1)).reverse = [es[k]] ++ (es.take k).reverse := by rw [e1, List.reverse_append]; rfl
      have e3 : twi es (k + 1) = twi es k ++ [es[k], es[m - 1 - k]] := by
        rw [twi, HE.out.1]
        simp [List.getD, List.getElem?_eq_getElem hke, List.getElem?_eq_getElem hje]
      have := H9.out.1
      unfold Hid
      rw [e2, e3]
      rw [← e1] at this
      exact this
    · obtain rfl : k = m := by omega
      have et : es.take k = es := List.take_of_length_le (by rw [HE.out.1]; exact Nat.le_refl _)
      have S := HS.out
      rw [et] at S
      obtain ⟨vs5, ho5, hR5⟩ := S.a5
      obtain ⟨vs6, ho6, hR6⟩ := S.a6
      obtain ⟨vs7, ho7, hR7⟩ := S.a7
      rw [HE.out.1] at ho5
      rw [List.length_reverse, HE.out.1] at ho6
      rw [twi_length] at ho7
      obtain ⟨A5, c5, rfl, hc5, _, _, _⟩ := own_form ho5
      obtain ⟨A6, c6, rfl, hc6, _, _, _⟩ := own_form ho6
      obtain ⟨A7, c7, rfl, hc7, _, _, _⟩ := own_form ho7
      have hperm6 : es.reverse.Perm es := List.reverse_perm es
      have hperm7 : (twi es k).Perm (es ++ es) := by have := twi_all es; rw [HE.out.1] at this; exact this
      have hall2 : (es ++ es).all (·.length == n) = true := by rw [List.all_append, HE.out.2.1]; rfl
      have hs := hb.size
      have G := Lib.hid (And.intro (Rd.of_own ho5) (And.intro hR5.rows (And.intro (Rd.of_own ho6) (And.intro hR6.rows (And.intro (Rd.of_own ho7) (And.intro hR7.rows (And.intro S.sum hb)))))))
      have P := Lib.hid (And.intro (allV_of (n := n) (by omega) HE.out.2.1) (And.intro (allE_of (n := n) (by omega) HE.out.2.1) (And.intro ((allV_of (n := n) (by omega) (all_perm hperm6 HE.out.2.1)).trans (sumL_perm hperm6)) (And.intro (allE_of (n := n) (by omega) (all_perm hperm6 HE.out.2.1))
        (And.intro ((allV_of (n := n) (by omega) (all_perm hperm7 hall2)).trans ((sumL_perm hperm7).trans (sumL_twice HE.out.2.1))) (allE_of (n := n) (by omega) (all_perm hperm7 hall2)))))))
      clear hb HS S hR5 hR6 hR7 ho5 ho6 ho7 et hperm6 hperm7 hall2
      go_wp2_with fail
      refine (sums_any (want := sumL n es) G.out.1 G.out.2.1 (by omega) G.out.2.2.2.2.2.2.1.rd P.out.2.1).mono ?_
      rintro e w10 ⟨rfl, hb10⟩
      have eq1 : (allV n es == sumL n es) = true := by rw [P.out.1]; simp
      rw [eq1]
      clear eq1
      have HB10 := Lib.hid hb10
      have hs10 := hb10.size
      clear hb10
      go_wp2_with fail
      refine (sums_any (want := sumL n es) (G.out.2.2.1.below HB10.out) (G.out.2.2.2.1.below HB10.out) (by omega) (G.out.2.2.2.2.2.2.1.rd.below HB10.out) P.out.2.2.2.1).mono ?_
      rintro e w11 ⟨rfl, hb11⟩
      have eq1 : (allV n es.reverse == sumL n es) = true := by rw [P.out.2.2.1]; simp
      rw [eq1]
      clear eq1
      have HB11 := Lib.hid (below_base HB10.out hb11 hs10)
      have hs11 := hb11.size
      clear hb11
      go_wp2_with (at_make; refine wpList_make_g _ (by rfl) _ _ 23 rfl w11.heap.size 5 i0 (.int .u8 0) 1 Try.underlying23 hi0 hz0 hz1 .i64 .i64 _ _ n rfl rfl rfl rfl (by rw [hz2]; omega) (by simp only [maxLen]; omega) (Nat.le_refl _) ?_; intro w12 hown hg; rw [zeros_bys] at hown; have HB12 := Lib.hid (And.intro hown (below_of_grownN hg)); clear hown hg)
      have HBC := Lib.hid (below_base HB11.out HB12.out.2 HB11.out.size)
      have hs12 := HB12.out.2.size
      refine (sums_any (want := List.replicate n 0) (G.out.2.2.2.2.1.below HBC.out) (G.out.2.2.2.2.2.1.below HBC.out) (by omega) (Rd.of_own HB12.out.1) P.out.2.2.2.2.2).mono ?_
      rintro e w13 ⟨rfl, hb13⟩
      have eq1 : (allV n (twi es k) == List.replicate n 0) = true := by rw [P.out.2.2.2.2.1]; simp
      rw [eq1]
      clear eq1
      have HB13 := Lib.hid (below_base (below_base G.out.2.2.2.2.2.2.2 HBC.out hs) hb13 (by omega))
      clear hb13
      go_wp2
      go_ret
      exact ⟨rfl, HB13.out⟩
theorem once_stmt {w : World} {L : Option Addr} {m c : Nat} {vs : List Value} {xss : List (List UInt8)} (h1 : Rd w L m vs ∧ Rows_ w vs xss ∧ m ≤ c ∧ m ≤ 5864062014634 ∧ ∀ x ∈ xss, x.length ≤ 140737488351232) :
    Calls Try.prog 7 #[.slice L m c] w fun e w' => e = .returned (.bool true) ∧ Below w.heap.size w w' :=
  once_walk h1.1 h1.2.1 h1.2.2.1 h1.2.2.2.1
end Go.Proofs.Ytkhedjildlokoaa
