/- Lists of bytes: SameSymbols, CopySymbols, OverSymbols, LongSymbols of artesiankit. -/
import Derived.Test.YtchdjbbhhjjmkaaXr
import Derived.Test.YtchdjbbhhjjmkaaE14
namespace Go.Proofs.Ytchdjbbhhjjmkaa
open Go.RowKit
set_option linter.unusedVariables false
/-- A list of lists of bytes in memory. -/
def Syms (w : World) (A : Option Addr) (n : Nat) (xss : List (List UInt8)) : Prop := ∃ vs, Rd w A n vs ∧ Rows_ w vs xss
section
variable {w w' : World} {A : Option Addr} {n : Nat} {xss : List (List UInt8)}
theorem Syms.len (h : Syms w A n xss) : xss.length = n := by obtain ⟨vs, h1, h2⟩ := h; rw [← h2.1, h1.1]
theorem Syms.below (h : Syms w A n xss) (hb : Below w.heap.size w w') : Syms w' A n xss := by obtain ⟨vs, h1, h2⟩ := h; exact ⟨vs, h1.below hb, h2.below hb⟩
theorem Syms.at_ (h : Syms w A n xss) {i : Nat} (hi : i < n) : ∃ a off B c, A = some ⟨a, off, none⟩ ∧ a < w.heap.size ∧ w.cell? ⟨a, off + i, none⟩ = some (.slice B (xss.getD i []).length c) ∧ Rd w B (xss.getD i []).length (bys (xss.getD i [])) ∧ (xss.getD i []).length ≤ c ∧ (xss.getD i []).length ≤ 9223372036854775807 := by
  have hl := h.len
  obtain ⟨vs, h1, h2⟩ := h
  obtain ⟨a, off, e, ha, hc⟩ := h1.form (by omega)
  have hx : xss[i]? = some (xss.getD i []) := by rw [List.getD_eq_getElem?_getD, List.getElem?_eq_getElem (by omega)]; rfl
  obtain ⟨B, c, h3, h4, h6, h5⟩ := h2.2 i _ hx
  exact ⟨a, off, B, c, e, ha, hc i _ h3, h5, h4, h6⟩
end
/-- Lists of bytes, each in memory of its own. -/
def ORows (w : World) (base : Nat) (vs : List Value) (xss : List (List UInt8)) : Prop :=
  vs.length = xss.length ∧ (∀ (i : Nat) x, xss[i]? = some x → ∃ A c, vs[i]? = some (.slice A x.length c) ∧ w.ownsRow base 5 1 (.slice A x.length c) x.length (bys x)) ∧
    ∀ (i j : Nat) u v b, i < j → vs[i]? = some u → vs[j]? = some v → u.ownBlock = some b → v.ownBlock ≠ some b
section
variable {w w' : World} {base : Nat} {vs : List Value} {xss : List (List UInt8)}
theorem ORows.nil (w : World) (base : Nat) : ORows w base [] [] := ⟨rfl, fun i x h => by simp at h, fun i j u v b _ h => by simp at h⟩
theorem ORows.below (h : ORows w base vs xss) (hb : Below w.heap.size w w') : ORows w' base vs xss :=
  ⟨h.1, fun i x hx => by obtain ⟨A, c, h1, h2⟩ := h.2.1 i x hx; exact ⟨A, c, h1, own_below h2 hb⟩, h.2.2⟩
theorem ORows.rows (h : ORows w base vs xss) : Rows_ w vs xss :=
  ⟨h.1, fun i x hx => by
    obtain ⟨A, c, h1, h2⟩ := h.2.1 i x hx
    obtain ⟨A', c', e, h3, h4, _⟩ := own_form h2
    injection e with e1 e2 e3
    subst e1; subst e3
    exact ⟨A, c, h1, h3, by simp only [maxLen] at h4; omega, Rd.of_own h2⟩⟩
theorem ORows.chg (h : ORows w base vs xss) {S : Nat → Prop} (hc : Chg S w w') (hS : ∀ b, base ≤ b → b < w.heap.size → ¬ S b) : ORows w' base vs xss :=
  ⟨h.1, fun i x hx => by
    obtain ⟨A, c, h1, h2⟩ := h.2.1 i x hx
    exact ⟨A, c, h1, hc.own h2 fun a ha e => hS _ (own_ge h2 a ha).1 (own_ge h2 a ha).2 e⟩, h.2.2⟩
theorem ownB {A : Option Addr} {n c b : Nat} (h : (Value.slice A n c).ownBlock = some b) : ∃ a, A = some a ∧ a.block = b := by
  rcases A with _ | a
  · cases h
  · injection h with h; exact ⟨a, rfl, h⟩
theorem ORows.snoc (h : ORows w base vs xss) {A : Option Addr} {c : Nat} {x : List UInt8} {B : Nat} (hr : w.ownsRow B 5 1 (.slice A x.length c) x.length (bys x)) (hb : base ≤ B) (hB : ∀ (i : Nat) v b, vs[i]? = some v → v.ownBlock = some b → b < B) : ORows w base (vs ++ [.slice A x.length c]) (xss ++ [x]) := by
  refine ⟨by simp [h.1], fun i y hy => ?_, fun i j u v b hij hu hv e1 e2 => ?_⟩
  · rcases Nat.lt_or_ge i xss.length with e | e
    · rw [List.getElem?_append_left e] at hy
      obtain ⟨A', c', h1, h2⟩ := h.2.1 i y hy
      exact ⟨A', c', by rw [List.getElem?_append_left (by rw [h.1]; exact e)]; exact h1, h2⟩
    · rw [List.getElem?_append_right e] at hy
      have h0 : i - xss.length = 0 := by have := (List.getElem?_eq_some_iff.1 hy).1; simp at this; omega
      rw [h0] at hy; simp at hy; subst hy
      exact ⟨A, c, by rw [List.getElem?_append_right (by rw [h.1]; exact e), h.1, h0]; rfl, own_mono hr hb⟩
  · rcases Nat.lt_or_ge j vs.length with e | e
    · rw [List.getElem?_append_left e] at hv
      rw [List.getElem?_append_left (by omega)] at hu
      exact h.2.2 i j u v b hij hu hv e1 e2
    · have hj : j = vs.length := by have := (List.getElem?_eq_some_iff.1 hv).1; simp at this; omega
      subst hj
      rw [List.getElem?_append_left hij] at hu
      rw [List.getElem?_append_right (Nat.le_refl _), Nat.sub_self] at hv
      simp at hv; subst hv
      have h1 := hB i u b hu e1
      obtain ⟨a, ha, ha'⟩ := ownB e2
      have h2 := (own_ge hr a ha).1
      omega
theorem ORows.blk (h : ORows w base vs xss) : ∀ (i : Nat) v b, vs[i]? = some v → v.ownBlock = some b → base ≤ b ∧ b < w.heap.size := fun i v b hv e => by
  have hi : i < xss.length := by rw [← h.1]; exact (List.getElem?_eq_some_iff.1 hv).1
  obtain ⟨A, c, h1, h2⟩ := h.2.1 i _ (List.getElem?_eq_getElem hi)
  rw [hv] at h1; injection h1 with h1; subst h1
  obtain ⟨a, ha, ha'⟩ := ownB e
  rw [← ha']; exact own_ge h2 a ha
end
/-- Rows of two types lie in two blocks. -/
theorem own_apart {w : World} {base base' size size' n n' c c' : Nat} {e e' : TypeId} {A A' : Option Addr} {xs xs' : List Value} (h : w.ownsRow base e size (.slice A n c) n xs) (h' : w.ownsRow base' e' size' (.slice A' n' c') n' xs') (hne : e ≠ e') : ∀ a, A' = some a → ¬ ((Value.slice A n c).ownBlock = some a.block) := by
  intro a ha e1
  obtain ⟨a', ha', hb'⟩ := ownB e1
  rcases h.2 with ⟨hv, _⟩ | ⟨g, cap, cur, hv, _, hh, _⟩
  · injection hv with hv; rw [hv] at ha'; cases ha'
  · rcases h'.2 with ⟨hv', _⟩ | ⟨g', cap', cur', hv', _, hh', _⟩
    · injection hv' with hv'; rw [hv'] at ha; cases ha
    · injection hv with hv _ _; injection hv' with hv' _ _
      rw [hv] at ha'; rw [hv'] at ha
      injection ha' with ha'; injection ha with ha
      subst ha'; subst ha
      have e2 : g = g' := hb'
      subst e2
      rw [hh] at hh'
      injection hh' with hh'; injection hh' with _ hh'
      exact hne hh'
theorem ints2_info : (Try.prog.info? 32).map (fun i => (i.zero, i.size, i.bytes)) = some (some (.slice none 0 0), 1, 24) := by kernel_rfl
def longS (many bytes : Nat) (xss : List (List UInt8)) : Bool := (xss.take many).any (fun x => decide (bytes < x.length)) || decide (many < xss.length)
theorem longS_no {many bytes : Nat} {xss : List (List UInt8)} (h : longS many bytes xss = false) : xss.length ≤ many ∧ ∀ x ∈ xss, x.length ≤ bytes := by
  unfold longS at h
  rw [Bool.or_eq_false_iff] at h
  have h1 : xss.length ≤ many := by have := h.2; simpa using this
  refine ⟨h1, fun it hi => ?_⟩
  have h2 := h.1
  rw [List.take_of_length_le h1] at h2
  have h3 := List.any_eq_false.1 h2 it hi
  simpa using h3
theorem getD_at {xss : List (List UInt8)} {k : Nat} (h : k < xss.length) : xss.getD k [] = xss[k] := by rw [List.getD_eq_getElem?_getD, List.getElem?_eq_getElem h]; rfl
set_option maxRecDepth 100000 in
set_option maxHeartbeats 1600000 in
/-- LongSymbols -/
theorem longSymbols_any {w : World} {A : Option Addr} {n c many bytes : Nat} {xss : List (List UInt8)} (h : Syms w A n xss) (hn : n ≤ 5864062014634) (hm : many ≤ 10000) (hb : bytes ≤ 10000) (hx : ∀ x ∈ xss, x.length ≤ 140737488351232) :
    Calls Try.prog 10 #[.slice A n c, .int .i64 (many : Int), .int .i64 (bytes : Int)] w fun e w' => e = .returned (.bool (longS many bytes xss)) ∧ w = w' := by
  have H := Lib.hid (And.intro h (And.intro h.len hx))
  have hn' : (n : Int) ≤ 5864062014634 := by omega
  clear h hx hn
  go_enter Try.func10, Try.ntmps10
  go_wp2
  go_loopw [7] (fun i wr => ∃ k : Nat, k ≤ n ∧ k ≤ many ∧ i = .int .i64 k ∧ (xss.take k).any (fun x => decide (bytes < x.length)) = false ∧ wr = w) (fun i wr => n - (intOf i).toNat)
  case atStart => exact ⟨0, by omega, by omega, rfl, by simp, rfl⟩
  case round =>
    obtain ⟨k, hk, hk41, rfl, hany, rfl⟩ := hrel
    have HA := Lib.hid hany
    clear hany
    by_cases hlt : k < n
    · have km : (k : Int) < (n : Int) := by omega
      by_cases h41 : k < many
      · have kq : (k : Int) < (many : Int) := by omega
        obtain ⟨a, off, B, cc, rfl, _, c3, hrd, _, hm9⟩ := H.out.1.at_ hlt
        have hkl : k < xss.length := by rw [H.out.2.1]; exact hlt
        have hxe := getD_at hkl
        have hbt := H.out.2.2 _ (List.getElem_mem hkl)
        obtain ⟨m, hml⟩ : ∃ m, (xss.getD k []).length = m := ⟨_, rfl⟩
        rw [hml] at c3 hm9
        rw [← hxe, hml] at hbt
        have HK := Lib.hid (And.intro hkl (And.intro hlt (And.intro h41 (show decide (bytes < xss[k].length) = decide (bytes < m) by rw [← hxe, hml]))))
        by_cases hbig : bytes < m
        · have d1 : decide ((m : Int) > (bytes : Int)) = true := by simp; omega
          have d2 : decide ((bytes : Int) < (m : Int)) = true := by simp; omega
          have d3 : decide (bytes < m) = true := by simpa using hbig
          have HL := Lib.hid (show longS many bytes xss = true from by
            unfold longS
            rw [Bool.or_eq_true, List.any_eq_true]
            refine .inl ⟨xss[k], ?_, by rw [HK.out.2.2.2]; exact d3⟩
            rw [List.mem_take_iff_getElem]
            exact ⟨k, by omega, rfl⟩)
          clear hlt h41 hrd hbig hxe hml
          go_wp2
          go_ret
          exact ⟨ret_bool (by rw [HL.out]), rfl⟩
        · have d1 : decide ((m : Int) > (bytes : Int)) = false := by simp; omega
          have d2 : decide ((bytes : Int) < (m : Int)) = false := by simp; omega
          have d3 : decide (bytes < m) = false := by simpa using hbig
          have HL := Lib.hid d3
          clear hlt h41 hrd hbig hxe hml
          go_wp2
          exact ⟨⟨k + 1, by have := HK.out.2.1; omega, by have := HK.out.2.2.1; omega, by go_num, by rw [List.take_succ_eq_append_getElem HK.out.1, List.any_append, HA.out]; simp only [List.any_cons, List.any_nil, Bool.or_false, Bool.false_or]; rw [HK.out.2.2.2, HL.out], trivial⟩, by have := HK.out.2.1; simp [intOf]; omega⟩
      · obtain rfl : k = many := by omega
        have HL := Lib.hid (show longS k bytes xss = true from by unfold longS; rw [H.out.2.1]; simp; right; omega)
        have d1 : decide ((n : Int) > (k : Int)) = true := by simp; omega
        have d2 : decide ((k : Int) < (n : Int)) = true := by simp; omega
        have d3 : decide (k < n) = true := by simp; omega
        go_wp2
        go_ret
        exact ⟨ret_bool (by rw [HL.out]), rfl⟩
    · obtain rfl : k = n := by omega
      have HL := Lib.hid (show longS many bytes xss = decide (many < k) from by unfold longS; have := HA.out; rw [List.take_of_length_le (by rw [H.out.2.1]; exact Nat.le_refl _)] at this; rw [List.take_of_length_le (by rw [H.out.2.1]; omega), this, H.out.2.1]; rfl)
      clear hlt hk
      go_wp2
      go_ret
      exact ⟨ret_bool (by rw [HL.out]), rfl⟩
set_option maxRecDepth 100000 in
set_option maxHeartbeats 1600000 in
/-- SameSymbols -/
theorem sameSymbols_any {w : World} {A A' : Option Addr} {n n' c c' : Nat} {xss yss : List (List UInt8)} (h : Syms w A n xss) (h' : Syms w A' n' yss) (hn : n ≤ 5864062014634) :
    Calls Try.prog 21 #[.slice A n c, .slice A' n' c'] w fun e w' => e = .returned (.bool (xss == yss)) ∧ Below w.heap.size w w' := by
  have H := Lib.hid (And.intro h (And.intro h' (And.intro h.len h'.len)))
  have hn' : (n : Int) ≤ 5864062014634 := by omega
  clear h h' hn
  by_cases hne : n = n'
  · subst hne
    have hd : ((n : Int) != (n : Int)) = false := by simp
    go_enter Try.func21, Try.ntmps21
    go_wp2
    go_loopw [5] (fun i wr => ∃ k : Nat, k ≤ n ∧ i = .int .i64 k ∧ xss.take k = yss.take k ∧ Below w.heap.size w wr) (fun i wr => n - (intOf i).toNat)
    case atStart => exact ⟨0, by omega, rfl, rfl, Below.refl _ _⟩
    case round =>
      obtain ⟨k, hk, rfl, ht, hb⟩ := hrel
      by_cases hlt : k < n
      · have km : (k : Int) < (n : Int) := by omega
        obtain ⟨a, off, B, cc, rfl, ha, c1, hr1, _, _⟩ := H.out.1.at_ hlt
        obtain ⟨a', off', B', cc', rfl, ha', c2, hr2, _, _⟩ := H.out.2.1.at_ hlt
        have c1 := (hb.cell (p := ⟨a, off + k, none⟩) ha).trans c1
        have c2 := (hb.cell (p := ⟨a', off' + k, none⟩) ha').trans c2
        have hx : k < xss.length := by rw [H.out.2.2.1]; exact hlt
        have hy : k < yss.length := by rw [H.out.2.2.2]; exact hlt
        have HQ := Lib.hid (same_any (c := cc) (c' := cc') ((hr1.below hb).drew) ((hr2.below hb).drew))
        have HT := Lib.hid (show ∀ b : Bool, (xss.getD k [] == yss.getD k []) = b → (b = true → xss.take (k + 1) = yss.take (k + 1)) ∧ (b = false → (xss == yss) = false) from fun b e => by
          rw [getD_at hx, getD_at hy] at e
          constructor
          · intro hb; subst hb
            rw [List.take_succ_eq_append_getElem hx, List.take_succ_eq_append_getElem hy, ht, eq_of_beq e]
          · intro hb; subst hb
            rw [beq_eq_false_iff_ne] at e ⊢
            intro e2; subst e2; exact e rfl)
        obtain ⟨q, hq⟩ : ∃ q, (xss.getD k [] == yss.getD k []) = q := ⟨_, rfl⟩
        have HT := Lib.hid (HT.out q hq)
        rw [hq] at HQ
        generalize (xss.getD k []).length = m1 at c1 HQ
        generalize (yss.getD k []).length = m2 at c2 HQ
        have HB := Lib.hid (And.intro hb hlt)
        clear hr1 hr2 hx hy hq hb hlt ht ha ha' hk
        go_wp2_with fail
        go_still_tail 8, (by kernel_rfl)
        change wpList _ _ _ _ _ wr.drew
        go_wp2_with fail
        refine HQ.out.mono ?_
        rintro e w8 ⟨rfl, rfl⟩
        cases q with
        | true =>
          go_wp2
          exact ⟨⟨k + 1, by have := HB.out.2; omega, by go_num, HT.out.1 (by simp), HB.out.1.drew⟩, by have := HB.out.2; simp [intOf]; omega⟩
        | false =>
          go_wp2
          go_ret
          exact ⟨ret_bool (by rw [HT.out.2 (by simp)]), HB.out.1.drew⟩
      · obtain rfl : k = n := by omega
        have HT := Lib.hid (And.intro (show (xss == yss) = true from by
          rw [List.take_of_length_le (by rw [H.out.2.2.1]; exact Nat.le_refl _), List.take_of_length_le (by rw [H.out.2.2.2]; exact Nat.le_refl _)] at ht
          rw [ht]; simp) hb)
        clear hlt hk ht hb
        go_wp2
        go_ret
        exact ⟨ret_bool (by rw [HT.out.1]), HT.out.2⟩
  · have hd : ((n : Int) != (n' : Int)) = true := by simp; omega
    have HT := Lib.hid (show (xss == yss) = false from by
      rw [beq_eq_false_iff_ne]
      intro e; subst e
      have := H.out.2.2.1; have := H.out.2.2.2; omega)
    clear hne
    go_enter Try.func21, Try.ntmps21
    go_wp2
    go_ret
    exact ⟨ret_bool (by rw [HT.out]), Below.refl _ _⟩
set_option maxRecDepth 100000 in
set_option maxHeartbeats 1600000 in
/-- CopySymbols -/
theorem copySymbols_any {w : World} {A : Option Addr} {n c : Nat} {xss : List (List UInt8)} (h : Syms w A n xss) (hn : n ≤ 100000) (hx : ∀ x ∈ xss, x.length ≤ 140737488351232) :
    Calls Try.prog 13 #[.slice A n c] w fun e w' => ∃ v vs, e = .returned v ∧ w'.ownsRow w.heap.size 32 1 v n vs ∧ ORows w' w.heap.size vs xss ∧ Below w.heap.size w w' := by
  have H := Lib.hid (And.intro h (And.intro h.len hx))
  have hn' : (n : Int) ≤ 100000 := by omega
  obtain ⟨i0, hi0, hz0, hz1, hz2⟩ := info_parts ints2_info
  clear h hx
  go_enter Try.func13, Try.ntmps13
  go_wp2
  go_loopw [3, 4] (fun v i wr => ∃ (k : Nat) (vs : List Value), k ≤ n ∧ i = .int .i64 k ∧ wr.ownsRow w.heap.size 32 1 v k vs ∧ ORows wr w.heap.size vs (xss.take k) ∧ Below w.heap.size w wr) (fun v i wr => n - (intOf i).toNat)
  case atStart => exact ⟨0, [], by omega, rfl, World.ownsRow_nil _ _ _ _, ORows.nil _ _, Below.refl _ _⟩
  case round =>
    obtain ⟨k, vs, hk, rfl, how, hor, hb⟩ := hrel
    by_cases hlt : k < n
    · have km : (k : Int) < (n : Int) := by omega
      obtain ⟨a, off, B, cc, rfl, ha, c1, hr1, _, _⟩ := H.out.1.at_ hlt
      have c1 := (hb.cell (p := ⟨a, off + k, none⟩) ha).trans c1
      have hkl : k < xss.length := by rw [H.out.2.1]; exact hlt
      have hbt := H.out.2.2 _ (List.getElem_mem hkl)
      have hge := getD_at hkl
      have HT := Lib.hid (show xss.take (k + 1) = xss.take k ++ [xss.getD k []] from by rw [hge, List.take_succ_eq_append_getElem hkl])
      rw [← hge] at hbt
      have HQ := Lib.hid (copy_any (c := cc) (hr1.below hb) hbt)
      obtain ⟨x, hx⟩ : ∃ x, xss.getD k [] = x := ⟨_, rfl⟩
      rw [hx] at c1 HQ HT hbt
      obtain ⟨m, hm⟩ : ∃ m, x.length = m := ⟨_, rfl⟩
      rw [hm] at c1 HQ
      have HW := Lib.hid (And.intro how (And.intro hor (And.intro hb (And.intro hlt hm))))
      clear how hor hb hlt ha hr1 hkl hbt hge hx hm hk
      go_wp2_with fail
      refine HQ.out.mono ?_
      rintro e w4 ⟨v4, rfl, ho4, hb4⟩
      have how4 := own_below HW.out.1 hb4
      have hor4 := HW.out.2.1.below hb4
      have hb04 := below_base HW.out.2.2.1 hb4 HW.out.2.2.1.size
      obtain ⟨A4, c4, rfl, _⟩ := own_form ho4
      obtain ⟨Av, cv, rfl, _⟩ := own_form how4
      have H4 := Lib.hid (And.intro how4 (And.intro hor4 (And.intro hb04 ho4)))
      clear ho4 hb4 how4 hor4 hb04 c1
      go_wp2_with (at_builtin; refine wpList_append_rd _ rfl (.tmp 11) (.tmp 17) _ rfl w.heap.size 32 i0 _ 1 24 Try.underlying25 hi0 hz0 hz1 hz2 rfl (by omega) _ k vs rfl (own_below H4.out.1 ((Below.refl _ _).alloc (Nat.le_refl _) _)) (some ⟨w4.heap.size, 0, none⟩) 1 1 [.slice A4 m c4] rfl (Rd.lit _ _ _ _ rfl 1 rfl _ rfl) slice_one (by simp only [maxLen]; omega) (by omega) (by have := H4.out.2.2.1.size; rw [World.size_alloc]; omega) ?_; intro v6 w6 hown6 hg6 hat6)
      have hc6 : Chg (fun b => (Value.slice Av k cv).ownBlock = some b) w4 w6 := ((Chg.refl _ w4).alloc _).trans (Chg.of_grown hg6 (S := fun b => (Value.slice Av k cv).ownBlock = some b) fun k e => e) fun _ _ x => x
      have hb6 := hc6.below H4.out.2.2.1 (fun b _ e => (H4.out.1.lt b e).1) H4.out.2.2.1.size
      have hor6 : ORows w6 w.heap.size (vs ++ [.slice A4 m c4]) (xss.take (k + 1)) := by
        rw [HT.out]
        have hm := HW.out.2.2.2.2
        subst hm
        refine ORows.snoc (B := wr.heap.size) ?_ ?_ HW.out.2.2.1.size ?_
        · refine ⟨H4.out.2.1.1, fun i y hy => ?_, H4.out.2.1.2.2⟩
          obtain ⟨A', c', h1, h2⟩ := H4.out.2.1.2.1 i y hy
          refine ⟨A', c', h1, hc6.own h2 fun b hb e => ?_⟩
          exact own_apart H4.out.1 h2 (by decide) b hb e
        · exact hc6.own H4.out.2.2.2 fun b hb e => own_apart H4.out.1 H4.out.2.2.2 (by decide) b hb e
        · intro i v b hv e
          exact (HW.out.2.1.blk i v b hv e).2
      exact ⟨⟨k + 1, _, by have := HW.out.2.2.2.1; omega, by go_num, hown6, hor6, hb6⟩, by have := HW.out.2.2.2.1; simp [intOf]; omega⟩
    · obtain rfl : k = n := by omega
      have htk : xss.take k = xss := List.take_of_length_le (by rw [H.out.2.1]; exact Nat.le_refl _)
      rw [htk] at hor
      have HW := Lib.hid (And.intro how (And.intro hor hb))
      clear how hor hb hlt hk htk
      go_wp2
      go_ret
      exact ⟨_, vs, rfl, HW.out.1, HW.out.2.1, HW.out.2.2⟩
end Go.Proofs.Ytchdjbbhhjjmkaa
