/- The document's graph: Of, New, Take. -/
import Derived.Test.YtcgcbajgclkmkaaRh20
namespace Go.Proofs.Ytcgcbajgclkmkaa
open Go.RowKit
set_option linter.unusedVariables false
/-- Which of the first packets have a symbol in their rests. -/
def hld (kn : List Bool) (S : List (List Int)) (x : Int) (m : Nat) : List Int := ((List.range m).filter fun p => decide (x ∈ rst kn (S.getD p []))).map fun (p : Nat) => (p : Int)
theorem hld_succ (kn : List Bool) (S : List (List Int)) (x : Int) (m : Nat) : hld kn S x (m + 1) = hld kn S x m ++ (if x ∈ rst kn (S.getD m []) then [(m : Int)] else []) := by
  unfold hld
  rw [List.range_succ, List.filter_append, List.map_append]
  congr 1
  by_cases h : x ∈ rst kn (S.getD m [])
  · rw [List.filter_cons_of_pos (by simpa using h), if_pos h]; rfl
  · rw [List.filter_cons_of_neg (by simpa using h), if_neg h]; rfl
theorem hld_all (kn : List Bool) (S : List (List Int)) (i : Nat) : hld kn S (i : Int) S.length = wts kn S i := by
  unfold hld wts holds
  cases hk : knw kn (i : Int) with
  | true =>
    simp only [if_true, List.map_eq_nil_iff, List.filter_eq_nil_iff, decide_eq_true_eq]
    intro p _ h
    have := (mem_rst.1 h).2
    rw [hk] at this; simp at this
  | false =>
    simp only [Bool.false_eq_true, if_false]
    congr 1
    apply List.filter_congr
    intro p _
    have : ((i : Int) ∈ rst kn (S.getD p [])) ↔ ((i : Int) ∈ S.getD p []) := by rw [mem_rst]; simp [hk]
    simp only [this]
theorem hld_len (kn : List Bool) (S : List (List Int)) (x : Int) (m : Nat) : (hld kn S x m).length ≤ m := by
  unfold hld
  rw [List.length_map]
  exact Nat.le_trans (List.length_filter_le _ _) (by rw [List.length_range]; exact Nat.le_refl _)
section
variable {w : World} {base W KB : Nat} {A : Option Addr} {pc : Nat} {vs : List Value} {R : Nat → Option Nat} {kn : List Bool} {S : List (List Int)} {most : Int}
set_option maxRecDepth 100000 in
set_option maxHeartbeats 1600000 in
/-- Of -/
theorem rOf_any (h : RG w base W KB A pc vs R kn S most) (x : Int) :
    Calls Try.prog 37 #[.pointer (some ⟨W, 0, none⟩), .int .i64 x] w (LsPost w (owL kn S x) (owE kn x)) := by
  obtain ⟨sl, hsl⟩ : ∃ sl, S.length = sl := ⟨_, rfl⟩
  obtain ⟨K, hK⟩ : ∃ K, kn.length = K := ⟨_, rfl⟩
  have cg0 := h.g.cell 0
  have hsz := h.sz
  rw [hK] at cg0
  rw [hsl] at hsz
  have hsz' : (sl : Int) ≤ 100000 := by omega
  have H := Lib.hid (And.intro h (And.intro hsl hK))
  by_cases hx : 0 ≤ x ∧ x < K
  · obtain ⟨s, rfl⟩ : ∃ p : Nat, x = p := ⟨x.toNat, by omega⟩
    have d1 : decide ((s : Int) < 0) = false := by simp
    have d2 : decide ((s : Int) ≥ (K : Int)) = false := by simp; omega
    have d3 : decide ((K : Int) ≤ (s : Int)) = false := by simp; omega
    have d4 : decide (K ≤ s) = false := by simp; omega
    have hin : inK kn (s : Int) = true := decide_eq_true (by omega)
    rw [show owL kn S (s : Int) = hld kn S (s : Int) sl from by unfold owL; rw [hin, ← hsl, hld_all, Int.toNat_natCast]; rfl, show owE kn (s : Int) = 0 from by unfold owE; rw [hin]; rfl]
    clear h hx hsl hK hin
    go_enter Try.func37, Try.ntmps37
    go_wp2
    go_loopw [6, 7] (fun v i wr => ∃ p : Nat, p ≤ sl ∧ i = .int .i64 p ∧ wr.ownsRow w.heap.size 3 1 v (hld kn S (s : Int) p).length (nums (hld kn S (s : Int) p)) ∧ Below w.heap.size w wr) (fun v i wr => sl - (intOf i).toNat)
    case atStart => exact ⟨0, by omega, rfl, World.ownsRow_nil _ _ _ _, Below.refl _ _⟩
    case round =>
      obtain ⟨p, hp, rfl, how, hbw⟩ := hrel
      have hR := H.out.1.below hbw
      have cg := hR.g.cell 2
      rw [H.out.2.1] at cg
      by_cases hlt : p < sl
      · have hpS : p < S.length := by rw [H.out.2.1]; exact hlt
        have km : (p : Int) < (sl : Int) := by omega
        obtain ⟨a, off, B, c', hA, cx, hrd⟩ := hR.row hpS
        have hi := hR.in_ hpS
        have HQ := Lib.hid (rrest_any (c := c') hR hrd (by omega) hi.1)
        have HF := hld_succ kn S (s : Int) p
        have hll := hld_len kn S (s : Int) p
        have hi2 := hi.2
        obtain ⟨l, hl⟩ : ∃ l, S.getD p [] = l := ⟨_, rfl⟩
        rw [hl] at cx HQ HF hi2
        have hrl : (rst kn l).length ≤ 65536 := Nat.le_trans (List.length_filter_le _ _) hi2
        obtain ⟨F, hF⟩ : ∃ F, hld kn S (s : Int) p = F := ⟨_, rfl⟩
        rw [hF] at how HF hll
        obtain ⟨r, hr⟩ : ∃ r, F.length = r := ⟨_, rfl⟩
        rw [hr] at how hll
        generalize l.length = n at cx HQ hi2
        subst hA
        have HW := Lib.hid (And.intro how (And.intro hbw (And.intro hlt (And.intro hr hrl))))
        have HF := Lib.hid HF
        clear how hbw hR hlt hpS hp hrd hi hl hF hr hi2 hrl
        go_wp2_with fail
        refine HQ.out.mono ?_
        rintro e w8 ⟨v8, rfl, ho8, hb8⟩
        obtain ⟨A8, c8, rfl, _⟩ := own_form ho8
        have HI := Lib.hid (And.intro (in_any (c := c8) (s : Int) (Rd.of_own ho8) (by have := HW.out.2.2.2.2; omega)) (And.intro (own_below HW.out.1 hb8) (below_base HW.out.2.1 hb8 HW.out.2.1.size)))
        clear ho8 hb8 cg cx
        obtain ⟨rl, hrl⟩ : ∃ rl, (rst kn l).length = rl := ⟨_, rfl⟩
        rw [hrl] at HI ⊢
        clear hrl
        go_wp2_with fail
        refine HI.out.1.mono ?_
        rintro e w9 ⟨rfl, rfl⟩
        by_cases hm : (s : Int) ∈ rst kn l
        · rw [decide_eq_true hm]
          have HF := HF.out
          rw [if_pos hm] at HF
          have HF := Lib.hid HF
          obtain ⟨i0, hi0, hz0, hz1, hz2⟩ := info_parts u3_info
          obtain ⟨Aw, cw, rfl, hvw⟩ := own_slice HI.out.2.1
          clear hm hvw
          go_wp2_with (at_builtin; refine wpList_append_rd _ rfl (.tmp 39) (.tmp 41) _ rfl w.heap.size 3 i0 _ 1 8 Try.underlying32 hi0 hz0 hz1 hz2 rfl (by omega) _ r (nums F) rfl (own_below HI.out.2.1 ((Below.refl _ _).alloc (Nat.le_refl _) _)) (some ⟨w8.heap.size, 0, none⟩) 1 1 (nums [(p : Int)]) rfl (Rd.lit _ _ _ _ rfl 1 rfl _ rfl) (nums_one _) (by simp only [maxLen]; omega) (by omega) (by have := HI.out.2.2.size; rw [World.size_alloc]; omega) ?_; intro v1 w3 hown1 hg1 hat1; rw [← nums_append] at hown1)
          have hc : Chg (fun b => (Value.slice Aw r cw).ownBlock = some b) w8 w3 := ((Chg.refl _ w8).alloc _).trans (Chg.of_grown hg1 (S := fun b => (Value.slice Aw r cw).ownBlock = some b) fun k e => e) fun _ _ x => x
          exact ⟨⟨p + 1, by have := HW.out.2.2.1; omega, by go_num, by rw [HF.out, List.length_append, HW.out.2.2.2.1]; exact hown1, hc.below HI.out.2.2 (fun b _ e => (HI.out.2.1.lt b e).1) HI.out.2.2.size⟩, by have := HW.out.2.2.1; simp [intOf]; omega⟩
        · rw [decide_eq_false hm]
          have HF := HF.out
          rw [if_neg hm, List.append_nil] at HF
          have HF := Lib.hid HF
          clear hm
          go_wp2
          exact ⟨⟨p + 1, by have := HW.out.2.2.1; omega, by go_num, by rw [HF.out, HW.out.2.2.2.1]; exact HI.out.2.1, HI.out.2.2⟩, by have := HW.out.2.2.1; simp [intOf]; omega⟩
      · obtain rfl : p = sl := by omega
        have HW := Lib.hid (And.intro how hbw)
        clear how hbw hR hlt hp
        go_wp2
        go_ret2
        exact ⟨_, rfl, HW.out.1, HW.out.2⟩
  · have hin : inK kn x = false := decide_eq_false (by omega)
    rw [show owL kn S x = [] from by unfold owL; rw [hin]; rfl, show owE kn x = 3 from by unfold owE; rw [hin]; rfl]
    by_cases h0 : x < 0
    · have d1 : decide (x < 0) = true := by simpa using h0
      clear h hx h0 hsl hin
      go_enter Try.func37, Try.ntmps37
      go_wp2
      go_ret2
      exact ⟨_, rfl, World.ownsRow_nil _ _ _ _, Below.refl _ _⟩
    · have d1 : decide (x < 0) = false := by simpa using h0
      have d2 : decide (x ≥ (K : Int)) = true := by simp; omega
      have d3 : decide ((K : Int) ≤ x) = true := by simp; omega
      clear h hx h0 hsl hin
      go_enter Try.func37, Try.ntmps37
      go_wp2
      go_ret2
      exact ⟨_, rfl, World.ownsRow_nil _ _ _ _, Below.refl _ _⟩
end
def rtag (W KB : Nat) (b : Nat) : Option Nat := if b = W then some 0 else if b = KB then some 1 else none
def RNewPost (w : World) (k most : Int) (e : Ending) (w' : World) : Prop :=
  if bad k most then e = .returned (.tuple #[.pointer none, .int .i64 3]) ∧ w' = w
  else ∃ W KB R, e = .returned (.tuple #[.pointer (some ⟨W, 0, none⟩), .int .i64 0]) ∧ RG w' w.heap.size W KB none 0 [] R (List.replicate k.toNat false) [] most ∧ Below w.heap.size w w'
set_option maxRecDepth 100000 in
set_option maxHeartbeats 1600000 in
theorem rNew_any {w : World} (k most : Int) : Calls Try.prog 21 #[.int .i64 k, .int .i64 most] w (RNewPost w k most) := by
  unfold RNewPost
  by_cases hb : bad k most
  · simp only [if_pos hb]
    unfold bad at hb
    by_cases h1 : k < 1
    · have d1 : decide (k < 1) = true := by simpa using h1
      clear hb h1
      go_enter Try.func21, Try.ntmps21
      go_wp2
      go_ret2
      exact ⟨rfl, rfl⟩
    · have d1 : decide (k < 1) = false := by simpa using h1
      by_cases h2 : 65536 < k
      · have d2 : decide (k > 65536) = true := by simpa using h2
        have d3 : decide (65536 < k) = true := by simpa using h2
        clear hb h1 h2
        go_enter Try.func21, Try.ntmps21
        go_wp2
        go_ret2
        exact ⟨rfl, rfl⟩
      · have d2 : decide (k > 65536) = false := by simpa using h2
        have d3 : decide (65536 < k) = false := by simpa using h2
        by_cases h3 : most < 1
        · have d4 : decide (most < 1) = true := by simpa using h3
          clear hb h1 h2 h3
          go_enter Try.func21, Try.ntmps21
          go_wp2
          go_ret2
          exact ⟨rfl, rfl⟩
        · have d4 : decide (most < 1) = false := by simpa using h3
          have d5 : decide (most > 1048576) = true := by simp; omega
          have d6 : decide (1048576 < most) = true := by simp; omega
          clear hb h1 h2 h3
          go_enter Try.func21, Try.ntmps21
          go_wp2
          go_ret2
          exact ⟨rfl, rfl⟩
  · simp only [if_neg hb]
    unfold bad at hb
    obtain ⟨n, rfl⟩ : ∃ n : Nat, k = n := ⟨k.toNat, by omega⟩
    have d1 : decide ((n : Int) < 1) = false := by simp; omega
    have d1' : decide (n < 1) = false := by simp; omega
    have d2 : decide ((n : Int) > 65536) = false := by simp; omega
    have d3 : decide ((65536 : Int) < (n : Int)) = false := by simp; omega
    have d3' : decide (65536 < n) = false := by simp; omega
    have d4 : decide (most < 1) = false := by simp; omega
    have d5 : decide (most > 1048576) = false := by simp; omega
    have d6 : decide (1048576 < most) = false := by simp; omega
    have hmk1 := run_make_bools n (by omega)
    have HB := Lib.hid (show n ≤ 65536 ∧ 1 ≤ most from by omega)
    clear hb
    obtain ⟨Z1, hZ1⟩ : ∃ Z, List.replicate n (Value.bool false) = Z := ⟨_, rfl⟩
    rw [hZ1] at hmk1
    have HZ := Lib.hid hZ1
    clear hZ1
    go_enter Try.func21, Try.ntmps21
    go_wp2
    go_ret2
    have hkb : Bk ((w.alloc (.cells Z1.toArray 4)).alloc (.cells #[.slice (some ⟨w.heap.size, 0, none⟩) n n, .int .i64 most, .slice none 0 0] 65)) w.heap.size 4 (bools (k0s n)) := by rw [bools_k0, HZ.out]; exact (Bk.new w _ _).alloc _
    have hgb : Bk ((w.alloc (.cells Z1.toArray 4)).alloc (.cells #[.slice (some ⟨w.heap.size, 0, none⟩) n n, .int .i64 most, .slice none 0 0] 65)) (w.heap.size + 1) 65 [.slice (some ⟨w.heap.size, 0, none⟩) n n, .int .i64 most, .slice none 0 0] := by
      have := Bk.newA (w.alloc (.cells Z1.toArray 4)) 65 #[.slice (some ⟨w.heap.size, 0, none⟩) n n, .int .i64 most, .slice none 0 0]
      rw [World.size_alloc] at this
      exact this
    have hkl : (k0s n).length = n := List.length_replicate
    rw [Int.toNat_natCast]
    refine ⟨w.heap.size + 1, w.heap.size, rtag (w.heap.size + 1) w.heap.size, rfl, { g := ?_, kb := hkb, so := World.ownsRow_nil _ _ _ _, rd := IRd.nil _, rt := fun i B n c hh => (by simp at hh), tW := if_pos rfl, tK := ?_, tA := fun a e => (by cases e), lt := ?_, bs := ?_, ss := fun l hl => (by simp at hl), kz := ?_, sz := Nat.zero_le _, sm := ?_ }, ?_⟩
    · show Bk _ _ _ [.slice _ (k0s n).length (k0s n).length, _, _]
      rw [hkl]; exact hgb
    · unfold rtag; rw [if_neg (by omega), if_pos rfl]
    · intro b hb
      unfold rtag at hb
      rw [World.size_alloc, World.size_alloc]
      split at hb
      · omega
      · split at hb
        · omega
        · simp at hb
    · rw [World.size_alloc, World.size_alloc]; omega
    · show (k0s n).length ≤ _
      rw [hkl]; exact HB.out.1
    · have := HB.out.2; simp; omega
    · exact ((Below.refl _ _).alloc (Nat.le_refl _) _).alloc (by rw [World.size_alloc]; omega) _
end Go.Proofs.Ytcgcbajgclkmkaa
