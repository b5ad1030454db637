/- The document's graph: its memory; Set, in, rest, Unknown. -/
import Derived.Test.YtcgcbajgclkmkaaOn20
import Derived.Test.YtcgcbajgclkmkaaDe20
namespace Go.Proofs.Ytcgcbajgclkmkaa
open Go.RowKit
set_option linter.unusedVariables false
/-- The document's graph: which blocks it has (0: its parts, 1: marks, 2: the list of sets, 3: sets), and what is in them. -/
structure RG (w : World) (base W KB : Nat) (A : Option Addr) (pc : Nat) (vs : List Value) (R : Nat → Option Nat) (kn : List Bool) (S : List (List Int)) (most : Int) : Prop where
  g : Bk w W 65 [.slice (some ⟨KB, 0, none⟩) kn.length kn.length, .int .i64 most, .slice A S.length pc]
  kb : Bk w KB 4 (bools kn)
  so : w.ownsRow base 32 1 (.slice A S.length pc) S.length vs
  rd : IRd w vs S
  rt : ∀ (i : Nat) B n c, vs[i]? = some (.slice (some B) n c) → R B.block = some 3
  tW : R W = some 0
  tK : R KB = some 1
  tA : ∀ a, A = some a → R a.block = some 2
  lt : ∀ b, R b ≠ none → base ≤ b ∧ b < w.heap.size
  bs : base ≤ w.heap.size
  ss : Ssets kn.length S
  kz : kn.length ≤ 65536
  sz : S.length ≤ 100000
  sm : (S.length : Int) ≤ most
section
variable {w w' : World} {base W KB : Nat} {A : Option Addr} {pc : Nat} {vs : List Value} {R : Nat → Option Nat} {kn : List Bool} {S : List (List Int)} {most : Int}
theorem RG.below (h : RG w base W KB A pc vs R kn S most) (hb : Below w.heap.size w w') : RG w' base W KB A pc vs R kn S most :=
  { h with
    g := h.g.belowS hb, kb := h.kb.belowS hb, so := own_below h.so hb, rd := h.rd.below hb
    lt := fun b e => ⟨(h.lt b e).1, Nat.lt_of_lt_of_le (h.lt b e).2 hb.size⟩, bs := Nat.le_trans h.bs hb.size }
/-- Blocks of others change. -/
theorem RG.chg (h : RG w base W KB A pc vs R kn S most) {X : Nat → Prop} (hc : Chg X w w') (hX : ∀ b, R b ≠ none → ¬ X b) : RG w' base W KB A pc vs R kn S most :=
  { h with
    g := hc.bk h.g (hX _ (by rw [h.tW]; simp)), kb := hc.bk h.kb (hX _ (by rw [h.tK]; simp))
    so := hc.own h.so fun a ha => hX _ (by rw [h.tA a ha]; simp)
    rd := ⟨h.rd.1, fun i x hx => by
      obtain ⟨B, c, h1, h2, h3⟩ := h.rd.2 i x hx
      exact ⟨B, c, h1, hc.rd h2 (fun a ha => hX _ (by subst ha; rw [h.rt i a _ _ h1]; simp)), h3⟩⟩
    lt := fun b e => ⟨(h.lt b e).1, Nat.lt_of_lt_of_le (h.lt b e).2 hc.size⟩, bs := Nat.le_trans h.bs hc.size }
theorem RG.row (h : RG w base W KB A pc vs R kn S most) {p : Nat} (hp : p < S.length) : ∃ a off B c', A = some ⟨a, off, none⟩ ∧ w.cell? ⟨a, off + p, none⟩ = some (.slice B (S.getD p []).length c') ∧ Rd w B (S.getD p []).length (nums (S.getD p [])) := by
  obtain ⟨a, off, B, c', l, h1, h2, h3, h4, _⟩ := IRs.at_ (w := w) (A := A) (n := S.length) (xss := S) ⟨vs, Rd.of_own h.so, h.rd⟩ hp
  have e : S.getD p [] = l := by rw [List.getD_eq_getElem?_getD, h2]; rfl
  rw [e]
  exact ⟨a, off, B, c', h1, h3, h4⟩
theorem RG.newTag (h : RG w base W KB A pc vs R kn S most) {b : Nat} (hb : w.heap.size ≤ b) : R b = none := by
  cases e : R b with
  | none => rfl
  | some u => have := (h.lt b (by rw [e]; simp)).2; omega
end
set_option maxRecDepth 100000 in
set_option maxHeartbeats 1600000 in
/-- in -/
theorem in_any {w : World} {A : Option Addr} {n c : Nat} {l : List Int} (x : Int) (h : Rd w A n (nums l)) (hn : n ≤ 1000000000) :
    Calls Try.prog 47 #[.slice A n c, .int .i64 x] w fun e w' => e = .returned (.bool (decide (x ∈ l))) ∧ w = w' := by
  have hl : l.length = n := by have := h.1; simpa [nums_length] using this
  have H := Lib.hid (And.intro h hl)
  have hn' : (n : Int) ≤ 1000000000 := by omega
  clear h hl
  go_enter Try.func47, Try.ntmps47
  go_wp2
  go_loopw [5] (fun i wr => ∃ k : Nat, k ≤ n ∧ i = .int .i64 k ∧ (∀ j, j < k → gi l j ≠ x) ∧ wr = w) (fun i wr => n - (intOf i).toNat)
  case atStart => exact ⟨0, by omega, rfl, fun j hj => by omega, rfl⟩
  case round =>
    obtain ⟨k, hk, rfl, hall, rfl⟩ := hrel
    have HA := Lib.hid hall
    clear hall
    by_cases hlt : k < n
    · obtain ⟨a, off, rfl, hbl, hc⟩ := H.out.1.form (by omega)
      have hkl : k < l.length := by rw [H.out.2]; exact hlt
      have cx := hc k _ (nums_gi hkl)
      have km : (k : Int) < (n : Int) := by omega
      have HL := Lib.hid (And.intro hlt hkl)
      clear hc hbl hk hlt hkl
      by_cases he : gi l k = x
      · have hd : (gi l k == x) = true := by simpa using he
        have HE := Lib.hid he
        clear he
        go_wp2
        go_ret
        exact ⟨ret_bool (by symm; rw [decide_eq_true_iff, ← HE.out]; exact gi_mem HL.out.2), rfl⟩
      · have hd : (gi l k == x) = false := by simpa using he
        have HE := Lib.hid he
        clear he
        go_wp2
        refine ⟨⟨k + 1, by have := HL.out; omega, by go_num, fun j hj => ?_, trivial⟩, by have := HL.out; simp [intOf]; omega⟩
        rcases (show j < k ∨ j = k from by omega) with y | y
        · exact HA.out j y
        · subst y; exact HE.out
    · obtain rfl : k = n := by omega
      clear hlt hk
      go_wp2
      go_ret
      refine ⟨ret_bool ?_, rfl⟩
      symm
      rw [decide_eq_false_iff_not]
      intro hm
      obtain ⟨j, hj, e⟩ := mem_gi hm
      exact HA.out j (by rw [← H.out.2]; exact hj) e.symm
set_option maxRecDepth 100000 in
set_option maxHeartbeats 1600000 in
/-- rest -/
theorem rrest_any {w : World} {base W KB : Nat} {A : Option Addr} {pc : Nat} {vs : List Value} {R : Nat → Option Nat} {kn : List Bool} {S : List (List Int)} {most : Int} (h : RG w base W KB A pc vs R kn S most) {B : Option Addr} {n c : Nat} {l : List Int} (hr : Rd w B n (nums l)) (hn : n ≤ 100000) (hin : ∀ x ∈ l, 0 ≤ x ∧ x < kn.length) :
    Calls Try.prog 45 #[.pointer (some ⟨W, 0, none⟩), .slice B n c] w fun e w' => ∃ v, e = .returned v ∧ w'.ownsRow w.heap.size 3 1 v (rst kn l).length (nums (rst kn l)) ∧ Below w.heap.size w w' := by
  have hl : l.length = n := by have := hr.1; simpa [nums_length] using this
  obtain ⟨K, hK⟩ : ∃ K, kn.length = K := ⟨_, rfl⟩
  have hKz := h.kz
  have H := Lib.hid (And.intro h (And.intro hr (And.intro hl (And.intro hin hK))))
  have hg := h.g
  rw [hK] at hg hKz
  have HG := Lib.hid hg
  have hn' : (n : Int) ≤ 100000 := by omega
  clear h hr hl hin hK hg
  go_enter Try.func45, Try.ntmps45
  go_wp2
  go_loopw [5, 6] (fun v i wr => ∃ j : Nat, j ≤ n ∧ i = .int .i64 j ∧ wr.ownsRow w.heap.size 3 1 v (rst kn (l.take j)).length (nums (rst kn (l.take j))) ∧ Below w.heap.size w wr) (fun v i wr => n - (intOf i).toNat)
  case atStart => exact ⟨0, by omega, rfl, World.ownsRow_nil _ _ _ _, Below.refl _ _⟩
  case round =>
    obtain ⟨j, hj, rfl, how, hbw⟩ := hrel
    by_cases hlt : j < n
    · have hjl : j < l.length := by rw [H.out.2.2.1]; exact hlt
      have hin := H.out.2.2.2.1 _ (gi_mem hjl)
      rw [H.out.2.2.2.2] at hin
      have HF := rst_take_succ kn l hjl
      obtain ⟨y, hy⟩ : ∃ y : Nat, gi l j = y := ⟨(gi l j).toNat, by omega⟩
      have hyk : y < K := by omega
      obtain ⟨b2, off2, rfl, hb2, hcc⟩ := (H.out.2.1.below hbw).form (by omega)
      have cx := hcc j _ (nums_gi hjl)
      rw [hy] at cx HF
      have ct := (H.out.1.kb.belowS hbw).cell y
      rw [bools_at (by rw [H.out.2.2.2.2]; exact hyk)] at ct
      have cg := (HG.out.belowS hbw).cell 0
      have kj : (j : Int) < (n : Int) := by omega
      have ky : (y : Int) < (K : Int) := by omega
      have hrl : (rst kn (l.take j)).length ≤ 100000 := Nat.le_trans (List.length_filter_le _ _) (by rw [List.length_take]; omega)
      obtain ⟨F, hR⟩ : ∃ R, rst kn (l.take j) = R := ⟨_, rfl⟩
      rw [hR] at how HF hrl
      obtain ⟨r, hr⟩ : ∃ r, F.length = r := ⟨_, rfl⟩
      rw [hr] at how hrl
      have HW := Lib.hid (And.intro how (And.intro hbw (And.intro hlt hr)))
      have CX := Lib.hid (And.intro cx hlt)
      clear how hin hy hyk hjl hR hr hj hbw hlt hcc hb2
      cases hk : knw kn (y : Int) with
      | true =>
        rw [hk] at ct HF
        rw [if_pos rfl, List.append_nil] at HF
        have HF := Lib.hid HF
        clear hk
        go_wp2_with fail
        go_quiet (fail)
        go_wp2
        exact ⟨⟨j + 1, by have := HW.out.2.2.1; omega, by go_num, by rw [HF.out, HW.out.2.2.2]; exact own_below HW.out.1 (below_dN (Below.refl _ _) _), below_dN HW.out.2.1 _⟩, by have := HW.out.2.2.1; simp [intOf]; omega⟩
      | false =>
        rw [hk] at ct HF
        rw [if_neg (by simp)] at HF
        have HF := Lib.hid HF
        obtain ⟨i0, hi0, hz0, hz1, hz2⟩ := info_parts u3_info
        obtain ⟨Aw, cw, rfl, hvw⟩ := own_slice HW.out.1
        clear hk hvw
        go_wp2_with fail
        go_quiet (fail)
        have HD := Lib.hid (And.intro (own_below HW.out.1 (below_dN (Below.refl wr.heap.size wr) nq)) (below_dN HW.out.2.1 nq))
        have cx7 : (wr.drewN nq).cell? ⟨b2, off2 + j, none⟩ = some (.int .i64 (y : Int)) := cx
        clear cx ct cg
        generalize wr.drewN nq = w7 at HD cx7 ⊢
        go_wp2_with (at_builtin; refine wpList_append_rd _ rfl (.tmp 24) (.tmp 29) _ rfl w.heap.size 3 i0 _ 1 8 Try.underlying32 hi0 hz0 hz1 hz2 rfl (by omega) _ r (nums F) rfl (own_below HD.out.1 ((Below.refl _ _).alloc (Nat.le_refl _) _)) (some ⟨w7.heap.size, 0, none⟩) 1 1 (nums [(y : Int)]) rfl (Rd.lit _ _ _ _ rfl 1 rfl _ rfl) (nums_one _) (by simp only [maxLen]; omega) (by omega) (by have := HD.out.2.size; rw [World.size_alloc]; omega) ?_; intro v1 w3 hown1 hg1 hat1; rw [← nums_append] at hown1)
        have hc : Chg (fun b => (Value.slice Aw r cw).ownBlock = some b) w7 w3 := ((Chg.refl _ w7).alloc _).trans (Chg.of_grown hg1 (S := fun b => (Value.slice Aw r cw).ownBlock = some b) fun k e => e) fun _ _ x => x
        exact ⟨⟨j + 1, by have := HW.out.2.2.1; omega, by go_num, by rw [HF.out, List.length_append, HW.out.2.2.2]; exact hown1, hc.below HD.out.2 (fun b _ e => (HW.out.1.lt b e).1) HD.out.2.size⟩, by have := HW.out.2.2.1; simp [intOf]; omega⟩
    · obtain rfl : j = n := by omega
      have htk : l.take j = l := List.take_of_length_le (by rw [H.out.2.2.1]; exact Nat.le_refl _)
      rw [htk] at how
      have HW := Lib.hid (And.intro how hbw)
      clear how hbw htk hlt hj
      go_wp2
      go_ret
      exact ⟨_, rfl, HW.out.1, HW.out.2⟩
set_option maxRecDepth 100000 in
set_option maxHeartbeats 1600000 in
/-- Unknown -/
theorem runknown_any {w : World} {base W KB : Nat} {A : Option Addr} {pc : Nat} {vs : List Value} {R : Nat → Option Nat} {kn : List Bool} {S : List (List Int)} {most : Int} (h : RG w base W KB A pc vs R kn S most) :
    Calls Try.prog 39 #[.pointer (some ⟨W, 0, none⟩)] w fun e w' => e = .returned (.int .i64 (unk kn : Nat)) ∧ w = w' := by
  have hg := h.g.cell 0
  have hKz := h.kz
  obtain ⟨K, hK⟩ : ∃ K, kn.length = K := ⟨_, rfl⟩
  have H := Lib.hid (And.intro h.kb hK)
  rw [hK] at hg hKz
  clear h hK
  go_enter Try.func39, Try.ntmps39
  go_wp2
  go_loopw [3, 4] (fun v i wr => ∃ j : Nat, j ≤ K ∧ i = .int .i64 j ∧ v = .int .i64 (unk (kn.take j) : Nat) ∧ wr = w) (fun v i wr => K - (intOf i).toNat)
  case atStart => exact ⟨0, by omega, rfl, rfl, rfl⟩
  case round =>
    obtain ⟨j, hj, rfl, rfl, rfl⟩ := hrel
    by_cases hlt : j < K
    · have ct := H.out.1.cell j
      have hjl : j < kn.length := by rw [H.out.2]; exact hlt
      rw [bools_at hjl] at ct
      have hs : unk (kn.take (j + 1)) = unk (kn.take j) + (if knw kn (j : Int) then 0 else 1) := by
        unfold unk
        rw [List.take_succ_eq_append_getElem hjl, List.filter_append, List.length_append]
        have : knw kn (j : Int) = kn[j] := by
          have := knw_at hjl
          rw [List.getElem?_eq_getElem hjl] at this
          injection this with this; exact this.symm
        rw [this]
        cases kn[j] <;> rfl
      have hu : unk (kn.take j) ≤ 65536 := Nat.le_trans (unk_le _) (by rw [List.length_take]; omega)
      obtain ⟨u, hu'⟩ : ∃ u, unk (kn.take j) = u := ⟨_, rfl⟩
      rw [hu'] at hs hu ⊢
      have km : (j : Int) < (K : Int) := by omega
      have HJ := Lib.hid (And.intro hlt hs)
      clear hs hu' hlt hj hjl
      cases hk : knw kn (j : Int) with
      | true =>
        rw [hk] at ct HJ
        clear hk
        go_wp2
        exact ⟨⟨j + 1, by have := HJ.out.1; omega, by go_num, by rw [HJ.out.2]; rfl, trivial⟩, by have := HJ.out.1; simp [intOf]; omega⟩
      | false =>
        rw [hk] at ct HJ
        clear hk
        have hw : IntKind.i64.wrap ((u : Int) + 1) = ((u + 1 : Nat) : Int) := by rw [IntKind.wrap_i64]; omega
        go_wp2
        exact ⟨⟨j + 1, by have := HJ.out.1; omega, by go_num, by rw [HJ.out.2]; rfl, trivial⟩, by have := HJ.out.1; simp [intOf]; omega⟩
    · obtain rfl : j = K := by omega
      have htk : kn.take j = kn := List.take_of_length_le (by rw [H.out.2]; exact Nat.le_refl _)
      rw [htk]
      clear hlt hj htk
      go_wp2
      go_ret
      exact ⟨rfl, rfl⟩
end Go.Proofs.Ytcgcbajgclkmkaa
