/- Chapter 20: made. -/
import Derived.Test.YtcgcbajgclkmkaaIr20
namespace Go.Proofs.Ytcgcbajgclkmkaa
open Go.RowKit
set_option linter.unusedVariables false
def k0s (k : Nat) : List Bool := List.replicate k false
theorem rst_k0 (k : Nat) (l : List Int) : rst (k0s k) l = l := by
  unfold rst
  rw [List.filter_eq_self]
  intro x _
  unfold knw k0s
  rw [List.getD_eq_getElem?_getD, List.getElem?_replicate]
  split <;> rfl
def okSets (k : Nat) (xss : List (List Int)) : List (List Int) := xss.filter fun l => setB k l
theorem okSets_take {k : Nat} {xss : List (List Int)} {j : Nat} {x : List Int} (h : xss[j]? = some x) : okSets k (xss.take (j + 1)) = okSets k (xss.take j) ++ (if setB k x then [x] else []) := by
  have hj : j < xss.length := (List.getElem?_eq_some_iff.1 h).1
  unfold okSets
  rw [List.take_succ_eq_append_getElem hj, List.filter_append]
  congr 1
  have e : xss[j] = x := by rw [List.getElem?_eq_getElem hj] at h; injection h
  rw [e]
  cases c : setB (k : Int) x <;> simp [c]
theorem okSets_len (k : Nat) (xss : List (List Int)) : (okSets k xss).length ≤ xss.length := List.length_filter_le _ _
/-- What made keeps. -/
structure MdR (w0 : World) (G : Nat) (kn : List Bool) (S : List (List Int)) (v : Value) (vs : List Value) (w : World) (tag : Nat → Option Nat) (L : GL) : Prop where
  gr : Gr w w0.heap.size G tag L kn S 100
  own : w.ownsRow w0.heap.size 32 1 v S.length vs
  rd : IRd w0 vs S
  far : ∀ b, v.ownBlock = some b → tag b = none
  b : Below w0.heap.size w0 w
section
variable {w0 w w' : World} {G : Nat} {kn : List Bool} {S : List (List Int)} {v : Value} {vs : List Value} {tag : Nat → Option Nat} {L : GL}
theorem MdR.below (h : MdR w0 G kn S v vs w tag L) (hb : Below w.heap.size w w') : MdR w0 G kn S v vs w' tag L :=
  ⟨h.gr.below hb, own_below h.own hb, h.rd, h.far, below_base h.b hb h.b.size⟩
theorem MdR.changed {kn' : List Bool} {tag' : Nat → Option Nat} {L' : GL} (h : MdR w0 G kn S v vs w tag L) (hg : Gr w' w0.heap.size G tag' L' kn' S 100) (hc : Chg (fun b => tag b ≠ none) w w') (ht : ∀ b, b < w.heap.size → tag' b = tag b) : MdR w0 G kn' S v vs w' tag' L' :=
  ⟨hg, own_chgv h.own hc fun b hb e => e (h.far b hb), h.rd, fun b hb => (ht b (h.own.lt b hb).2).trans (h.far b hb), h.gr.chgB h.b hc⟩
theorem MdR.old (h : MdR w0 G kn S v vs w tag L) {b : Nat} (hb : b < w0.heap.size) : tag b = none := by
  cases e : tag b with
  | none => rfl
  | some u => have := (h.gr.gm.lt b (by rw [e]; simp)).1; omega
/-- Another block than the graph's changes. -/
theorem MdR.other (h : MdR w0 G kn S v vs w tag L) {T : Nat → Prop} (hc : Chg T w w') (hT : ∀ b, T b → tag b = none ∧ w0.heap.size ≤ b ∧ v.ownBlock ≠ some b) : MdR w0 G kn S v vs w' tag L :=
  ⟨h.gr.other hc fun b hb e => hb (hT b e).1, own_chgv h.own hc fun b hb e => (hT b e).2.2 hb, h.rd, h.far, hc.below h.b (fun b _ e => (hT b e).2.1) h.b.size⟩
end
def MdPost (w : World) (k : Nat) (xss : List (List Int)) (e : Ending) (w' : World) : Prop :=
  ∃ G v vs tag L, e = .returned (.tuple #[.pointer (some ⟨G, 0, none⟩), v]) ∧ MdR w G (k0s k) (okSets k xss) v vs w' tag L
set_option maxRecDepth 100000 in
set_option maxHeartbeats 4000000 in
theorem made_any {w : World} {k n c : Nat} {A : Option Addr} {xss : List (List Int)} (h : IRs w A n xss) (hk : 1 ≤ k ∧ k ≤ 20) (hn : n ≤ 40) (hx : ∀ x ∈ xss, x.length ≤ 30) :
    Calls Try.prog 18 #[.int .i64 (k : Int), .slice A n c] w (MdPost w k xss) := by
  have H := Lib.hid (And.intro h (And.intro h.len (And.intro hk (And.intro hn hx))))
  have hnn : (n : Int) ≤ 40 := by omega
  obtain ⟨i0, hi0, hz0, hz1, hz2⟩ := info_parts ints_info
  clear h hk hn hx
  go_enter Try.func18, Try.ntmps18
  go_wp2_with fail
  refine (new_gr (k : Int) 100).mono ?_
  intro e w1 h1
  unfold NgrPost at h1
  rw [if_neg (by unfold bad; have := H.out.2.2.1; omega), Int.toNat_natCast] at h1
  obtain ⟨G, tag, L, rfl, hg, hb1⟩ := h1
  have H1 : Hid (MdR w G (k0s k) (okSets k (xss.take 0)) (.slice none 0 0) [] w1 tag L) := Lib.hid ⟨hg, World.ownsRow_nil _ _ _ _, IRd.nil _, fun b hb => (by cases hb), hb1⟩
  clear hg hb1
  go_wp2
  go_loopw [8, 9] (fun v i wr => ∃ (j : Nat) (vs : List Value) (tag' : Nat → Option Nat) (L' : GL), j ≤ n ∧ i = .int .i64 j ∧ MdR w G (k0s k) (okSets k (xss.take j)) v vs wr tag' L') (fun v i wr => n - (intOf i).toNat)
  case atStart => exact ⟨0, [], tag, L, by omega, rfl, H1.out⟩
  case round =>
    obtain ⟨j, vs, tag', L', hj, rfl, hM⟩ := hrel
    clear H1
    by_cases hlt : j < n
    · obtain ⟨a, off, B', cc, x', rfl, hxj, cx0, hrd', hxl⟩ := H.out.1.at_ hlt
      have hjl : j < xss.length := by rw [H.out.2.1]; exact hlt
      have hxm : x' ∈ xss := List.mem_of_getElem? hxj
      have hx30 := H.out.2.2.2.2 x' hxm
      have cx := (hM.b.cell (p := ⟨a, off + j, none⟩) (World.block_lt_of_cell? _ _ cx0)).trans cx0
      have hrd := hrd'.below hM.b
      have hSl : (okSets k (xss.take j)).length ≤ 40 := by
        have h1 := okSets_len k (xss.take j)
        have h2 : (xss.take j).length ≤ j := by rw [List.length_take]; exact Nat.min_le_left _ _
        omega
      have hadd := add_gr (c := cc) hM.gr hrd (by omega) (fun h0 a ha => hM.old (hrd'.lt h0 a ha)) (by omega)
      obtain ⟨m, hm⟩ : ∃ m, x'.length = m := ⟨_, rfl⟩
      obtain ⟨S, hS⟩ : ∃ S, okSets k (xss.take j) = S := ⟨_, rfl⟩
      rw [hS] at hSl hM hadd
      have HT := Lib.hid (okSets_take (k := k) hxj)
      rw [hS] at HT
      rw [hm] at cx cx0 hadd
      have km : (j : Int) < (n : Int) := by omega
      have HJ := Lib.hid (And.intro hlt (And.intro hM (And.intro hrd' (And.intro hm (And.intro hxl hSl)))))
      have HC := Lib.hid cx0
      have HA := Lib.hid hadd
      have hk0 : (k0s k).length = k := List.length_replicate
      have HK := Lib.hid hk0
      have hm30 : m ≤ 30 := by omega
      clear hlt hxj hxm hx30 cx0 hrd hrd' hjl hxl hSl hadd hM hS hj hk0
      cases hb : setB (k : Int) x' with
      | false =>
        have e1 : adR (k0s k) S 100 x' = (0, 0, 2) := by unfold adR; rw [HK.out, if_pos hb]
        have e2 : adS (k0s k) S 100 x' = S := by unfold adS; rw [HK.out, if_pos hb]
        have HE := Lib.hid (And.intro e1 e2)
        rw [hb, if_neg (by simp), List.append_nil] at HT
        clear e1 e2 hb
        go_wp2_with fail
        refine HA.out.mono ?_
        rintro e w5 ⟨rfl, tag5, L5, g5, c5, t5⟩
        rw [HE.out.2] at g5
        rw [HE.out.1]
        have H5 := Lib.hid (HJ.out.2.1.changed g5 c5 t5)
        clear g5 c5 t5
        go_wp2
        exact ⟨⟨j + 1, vs, tag5, L5, by have := HJ.out.1; omega, by go_num, by rw [HT.out]; exact H5.out⟩, by have := HJ.out.1; simp [intOf]; omega⟩
      | true =>
        have e1 : adR (k0s k) S 100 x' = ((S.length : Int), (m : Int), 0) := by
          unfold adR
          rw [HK.out, if_neg (by rw [hb]; simp), if_neg (by have := HJ.out.2.2.2.2.2; omega), rst_k0, HJ.out.2.2.2.1]
        have e2 : adS (k0s k) S 100 x' = S ++ [x'] := by unfold adS; rw [HK.out, if_neg (by rw [hb]; simp), if_neg (by have := HJ.out.2.2.2.2.2; omega)]
        have HE := Lib.hid (And.intro e1 e2)
        rw [hb, if_pos rfl] at HT
        clear e1 e2 hb
        obtain ⟨r, hr⟩ : ∃ r, S.length = r := ⟨_, rfl⟩
        go_wp2_with fail
        refine HA.out.mono ?_
        rintro e w5 ⟨rfl, tag5, L5, g5, c5, t5⟩
        rw [HE.out.2] at g5
        rw [HE.out.1, hr]
        have hb5 := HJ.out.2.1.gr.chgB HJ.out.2.1.b c5
        have cx5 := (hb5.cell (p := ⟨a, off + j, none⟩) (World.block_lt_of_cell? _ _ HC.out)).trans HC.out
        have ho5 := own_chgv HJ.out.2.1.own c5 fun b hb e => e (HJ.out.2.1.far b hb)
        rw [hr] at ho5
        have h5 : ∀ b, u8.ownBlock = some b → tag5 b = none := fun b hb => (t5 b (HJ.out.2.1.own.lt b hb).2).trans (HJ.out.2.1.far b hb)
        have hr40 : r ≤ 40 := by rw [← hr]; exact HJ.out.2.2.2.2.2
        have H5 := Lib.hid (And.intro g5 (And.intro hb5 (And.intro ho5 (And.intro h5 hr))))
        obtain ⟨Av, cv, rfl, hvv⟩ := own_slice ho5
        clear g5 c5 t5 hb5 ho5 h5 hr cx
        go_wp2_with (at_builtin; refine wpList_append_rd _ rfl (.tmp 55) (.tmp 60) _ rfl w.heap.size 32 i0 _ 1 24 Try.underlying31 hi0 hz0 hz1 hz2 rfl (by omega) _ r vs rfl (own_below H5.out.2.2.1 ((Below.refl _ _).alloc (Nat.le_refl _) _)) (some ⟨w5.heap.size, 0, none⟩) 1 1 [.slice B' m cc] rfl (Rd.lit _ _ _ _ rfl 1 rfl _ rfl) slice_one (by simp only [maxLen]; omega) (by omega) (by have := H5.out.2.1.size; rw [World.size_alloc]; omega) ?_; intro v6 w6 hown6 hg6 hat6)
        have hT : Chg (fun b => (Value.slice Av r cv).ownBlock = some b) w5 w6 := ((Chg.refl _ w5).alloc _).trans (Chg.of_grown hg6 (S := fun b => (Value.slice Av r cv).ownBlock = some b) fun k e => e) fun _ _ x => x
        have hM6 : MdR w G (k0s k) (okSets k (xss.take (j + 1))) v6 (vs ++ [.slice B' m cc]) w6 tag5 L5 := by
          rw [HT.out]
          refine ⟨H5.out.1.other hT fun b hb e => hb (H5.out.2.2.2.1 b e), by rw [List.length_append, H5.out.2.2.2.2]; exact hown6, by rw [← HJ.out.2.2.2.1]; exact HJ.out.2.1.rd.snoc HJ.out.2.2.1 HJ.out.2.2.2.2.1, fun b hb => ?_, hT.below H5.out.2.1 (fun b _ e => (H5.out.2.2.1.lt b e).1) H5.out.2.1.size⟩
          rcases hat6 with e | e
          · exact H5.out.2.2.2.1 b (e ▸ hb)
          · rw [e] at hb
            injection hb with hb
            rw [World.size_alloc] at hb
            exact H5.out.1.newTag (by omega)
        exact ⟨⟨j + 1, _, tag5, L5, by have := HJ.out.1; omega, by go_num, hM6⟩, by have := HJ.out.1; simp [intOf]; omega⟩
    · obtain rfl : j = n := by omega
      have HM := Lib.hid hM
      clear hM hlt hj
      go_wp2
      go_ret2
      have e : xss.take j = xss := List.take_of_length_le (by rw [H.out.2.1]; exact Nat.le_refl _)
      have hM := HM.out
      rw [e] at hM
      exact ⟨G, _, vs, tag', L', rfl, hM⟩
end Go.Proofs.Ytcgcbajgclkmkaa
