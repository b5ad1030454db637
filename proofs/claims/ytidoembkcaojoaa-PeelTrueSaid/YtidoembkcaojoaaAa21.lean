/- Chapter 21: a packet is added: memory; what is refused. -/
import Derived.Test.YtidoembkcaojoaaPk21
namespace Go.Proofs.Ytidoembkcaojoaa
open Go.RowKit Go.Maps
set_option linter.unusedVariables false
theorem int_law : Keyed Try.prog 3 := int_keyed Try.underlying3
theorem zero_unit (w : World) : (zeroValue 76).run Try.prog w = .ok (.agg #[]) w := by kernel_rfl
theorem has_idD (ids : List Int) (id : Int) : Maps.has (idD ids) (Lit.int .i64 id) = decide (id ∈ ids) := by
  unfold idD
  rw [has_setOf _ _ _ (fun x hx => by
    obtain ⟨i, _, rfl⟩ := List.mem_map.1 hx
    trivial)]
  rw [Bool.eq_iff_iff, List.any_eq_true, decide_eq_true_eq]
  constructor
  · rintro ⟨x, hx, hk⟩
    obtain ⟨i, hi, rfl⟩ := List.mem_map.1 hx
    have : i = id := by simpa [Lit.sameKey] using hk
    rw [← this]; exact hi
  · intro h
    exact ⟨_, List.mem_map.2 ⟨id, h, rfl⟩, by simp [Lit.sameKey]⟩
theorem idD_snoc (ids : List Int) (id : Int) : idD (ids ++ [id]) = (idD ids).put (Lit.int .i64 id) (.agg []) := by
  unfold idD
  rw [List.map_append]
  exact setOf_snoc _ _ _
theorem RipX.rest {d : DS} (h : Stable d) : RipX d [] [] := ⟨fun e he => absurd he (by simp), fun p hp _ x hx => absurd hx (h p hp x)⟩
/-- What Add is handed. -/
structure AArgs (w : World) (base D : Nat) (m : DM) (F : Nat → Prop) (d : DS) (A : Option Addr) (n : Nat) (set : List Int) (B : Option Addr) (nb : Nat) (pay : List UInt8) (id : Int) : Prop where
  dp : Dp w base D m (d.dc []) F
  ok : d.ok
  rs : Rd w A n (nums set)
  rp : Rd w B nb (bys pay)
  nn : n ≤ 1000000
  nb : nb ≤ 140737488351232
  ds : d.sets.length < 1000
  wf : (Lit.int .i64 id).wf = true
set_option maxRecDepth 100000 in
set_option maxHeartbeats 3200000 in
theorem padd_bad {w : World} {base D : Nat} {m : DM} {F : Nat → Prop} {d : DS} {A B : Option Addr} {n nb cA cB : Nat} {set : List Int} {pay : List UInt8} {id : Int} (h : AArgs w base D m F d A n set B nb pay id) (he : d.err id set pay ≠ 0) :
    Calls Try.prog 14 #[.pointer (some ⟨D, 0, none⟩), .int .i64 id, .slice A n cA, .slice B nb cB] w fun e w' => e = .returned (.tuple #[.slice none 0 0, .int .i64 (d.err id set pay)]) ∧ Below w.heap.size w w' := by
  have hpl : pay.length = nb := by have := h.rp.1; simpa [bys_length] using this
  have c2 := h.dp.c2
  obtain ⟨bt, hbt⟩ : ∃ b, Maps.has (idD d.ids) (Lit.int .i64 id) = b := ⟨_, rfl⟩
  have hkey : keyOf Try.prog 3 (.int .i64 id) = some (Lit.int .i64 id) := keyOf_int_mk Try.underlying3 h.wf
  have c1 : (w.alloc (.cells #[] 76)).cell? ⟨D, 1, none⟩ = some (.int .i64 (d.s : Nat)) := (h.dp.below ((Below.refl _ _).alloc (Nat.le_refl _) _)).c1
  have H := Lib.hid (And.intro h (And.intro he (And.intro hbt hpl)))
  clear h he hbt hpl
  obtain ⟨s, hs⟩ : ∃ s, d.s = s := ⟨_, rfl⟩
  rw [hs] at c1
  have HS := Lib.hid hs
  have HB0 := Lib.hid (show Below w.heap.size w (w.alloc (.cells #[] 76)) from (Below.refl _ _).alloc (Nat.le_refl _) _)
  clear hs
  by_cases h1 : id < 0
  · have d1 : decide (id < 0) = true := decide_eq_true h1
    have HE := Lib.hid (show d.err id set pay = 3 from by unfold DS.err; rw [if_pos (.inl h1)])
    clear h1
    go_enter Try.func14, Try.ntmps14
    go_wp2_with fail
    refine (dnone_made H.out.1.dp.c0).mono ?_
    rintro e w1 ⟨rfl, rfl⟩
    go_wp2_with (at_lookup; refine wpList_lookup_own_unit _ rfl _ _ 63 rfl 3 76 int_law Try.underlying63 (zero_unit _) m.M m.mn (idD d.ids) rfl H.out.1.dp.mp _ (Lit.int .i64 id) rfl hkey ?_; rw [H.out.2.2.1])
    go_ret2
    exact ⟨by rw [HE.out]; rfl, HB0.out⟩
  · have d1 : decide (id < 0) = false := decide_eq_false h1
    by_cases h2 : 4294967295 < id
    · have d2 : decide (id > 4294967295) = true := decide_eq_true h2
      have d3 : decide (4294967295 < id) = true := decide_eq_true h2
      have HE := Lib.hid (show d.err id set pay = 3 from by unfold DS.err; rw [if_pos (.inr h2)])
      clear h1 h2
      go_enter Try.func14, Try.ntmps14
      go_wp2_with fail
      refine (dnone_made H.out.1.dp.c0).mono ?_
      rintro e w1 ⟨rfl, rfl⟩
      go_wp2_with (at_lookup; refine wpList_lookup_own_unit _ rfl _ _ 63 rfl 3 76 int_law Try.underlying63 (zero_unit _) m.M m.mn (idD d.ids) rfl H.out.1.dp.mp _ (Lit.int .i64 id) rfl hkey ?_; rw [H.out.2.2.1])
      go_ret2
      exact ⟨by rw [HE.out]; rfl, HB0.out⟩
    · have d2 : decide (id > 4294967295) = false := decide_eq_false h2
      have d3 : decide (4294967295 < id) = false := decide_eq_false h2
      have H1 := Lib.hid (show ¬ (id < 0 ∨ 4294967295 < id) from by omega)
      clear h1 h2
      go_enter Try.func14, Try.ntmps14
      go_wp2_with fail
      refine (dnone_made H.out.1.dp.c0).mono ?_
      rintro e w1 ⟨rfl, rfl⟩
      go_wp2_with (at_lookup; refine wpList_lookup_own_unit _ rfl _ _ 63 rfl 3 76 int_law Try.underlying63 (zero_unit _) m.M m.mn (idD d.ids) rfl H.out.1.dp.mp _ (Lit.int .i64 id) rfl hkey ?_; rw [H.out.2.2.1])
      have hset := isSet_any (cc := cA) (H.out.1.dp.below HB0.out) (H.out.1.rs.below HB0.out) H.out.1.nn (by have := H.out.1.ok.k1; show d.k ≤ _; omega)
      obtain ⟨sb, hsb⟩ : ∃ b, setB d.k set = b := ⟨_, rfl⟩
      have hset' : Calls Try.prog 39 #[.pointer (some ⟨D, 0, none⟩), .slice A n cA] (w.alloc (.cells #[] 76)) fun e w' => e = .returned (.bool sb) ∧ (w.alloc (.cells #[] 76)) = w' := by rw [← hsb]; exact hset
      have HT := Lib.hid (And.intro hset' hsb)
      clear hset hset' hsb
      refine HT.out.1.mono ?_
      rintro e wx ⟨rfl, rfl⟩
      cases sb
      · have HE := Lib.hid (show d.err id set pay = 2 from by unfold DS.err; rw [if_neg H1.out, if_pos (.inl HT.out.2)])
        clear HT
        go_wp2_with fail
        go_ret2
        exact ⟨by rw [HE.out]; rfl, HB0.out⟩
      · by_cases h3 : nb = s
        · subst h3
          have hb0 : (id < 0 ∨ 4294967295 < id) = False := eq_false H1.out
          have d4 : decide (nb ≠ nb) = false := decide_eq_false (by omega)
          have d5 : ((nb : Int) != (nb : Int)) = false := by simp
          have HE1 := Lib.hid (show ¬ (setB d.k set = false ∨ pay.length ≠ d.s) from by rw [HT.out.2, H.out.2.2.2, HS.out]; simp)
          cases bt
          · have HN := Lib.hid (show d.err id set pay = 9 ∧ d.most ≤ d.sets.length from by
              have he := H.out.2.1
              have hi : ¬ id ∈ d.ids := by have := H.out.2.2.1; rw [has_idD] at this; exact of_decide_eq_false this
              unfold DS.err at he ⊢
              rw [if_neg H1.out, if_neg HE1.out, if_neg hi] at he ⊢
              by_cases hf : d.most ≤ d.sets.length
              · rw [if_pos hf]; exact ⟨rfl, hf⟩
              · rw [if_neg hf] at he; exact absurd rfl he)
            have c0 := (H.out.1.dp.below HB0.out).c0
            have c6 := (H.out.1.dp.below HB0.out).c6
            obtain ⟨mo, hmo⟩ : ∃ mo, (d.dc []).most = mo := ⟨_, rfl⟩
            obtain ⟨N, hN⟩ : ∃ N, d.sets.length = N := ⟨_, rfl⟩
            rw [hmo] at c6
            have HM := Lib.hid (And.intro hmo hN)
            have hfull : mo ≤ (N : Int) := by rw [← hmo, ← hN]; exact HN.out.2
            have d6 : decide ((N : Int) ≥ mo) = true := decide_eq_true hfull
            have d7 : decide (mo ≤ (N : Int)) = true := decide_eq_true hfull
            clear hmo hN hfull HT hb0
            go_wp2_with fail
            go_quiet ((go_at_call 40; refine Calls.quiet_of_same (v := .int .i64 (N : Nat)) ((packets_gr (H.out.1.dp.below (below_dN HB0.out _)).gr).mono ?_); rintro e w' ⟨rfl, rfl⟩; exact ⟨by rw [← HM.out.2]; rfl, rfl⟩))
            go_wp2_with fail
            go_ret2
            exact ⟨by rw [HN.out.1]; rfl, below_dN HB0.out _⟩
          · have HE := Lib.hid (show d.err id set pay = 11 from by
              have hi : id ∈ d.ids := by have := H.out.2.2.1; rw [has_idD] at this; exact of_decide_eq_true this
              unfold DS.err; rw [if_neg H1.out, if_neg HE1.out, if_pos hi])
            clear HT hb0
            go_wp2_with fail
            go_ret2
            exact ⟨by rw [HE.out]; rfl, HB0.out⟩
        · have d4 : decide (nb ≠ s) = true := decide_eq_true h3
          have d5 : ((nb : Int) != (s : Int)) = true := by simp; omega
          have d6 : ((nb : Int) == (s : Int)) = false := by simp; omega
          have HE := Lib.hid (show d.err id set pay = 2 from by unfold DS.err; rw [if_neg H1.out, if_pos (.inr (by rw [H.out.2.2.2, HS.out]; exact h3))])
          clear HT h3
          go_wp2_with fail
          go_ret2
          exact ⟨by rw [HE.out]; rfl, HB0.out⟩
end Go.Proofs.Ytidoembkcaojoaa
