/- Chapter 21: which symbols sets make known: the law's closure. -/
import Derived.Test.YtidoembkcaojoaaSn21
namespace Go.Proofs.Ytidoembkcaojoaa
open Go.RowKit
set_option linter.unusedVariables false
/-- Sets in memory. -/
def IRw (w : World) (A : Option Addr) (n : Nat) (xss : List (List Int)) : Prop :=
  xss.length = n ∧ (0 < n → ∃ b, A = some ⟨b, 0, none⟩ ∧ b < w.heap.size ∧ ∀ j, j < xss.length → ∃ B c, w.cell? ⟨b, j, none⟩ = some (.slice B (xss.getD j []).length c) ∧ Rd w B (xss.getD j []).length (nums (xss.getD j [])))
theorem IRw.below {w w' : World} {A : Option Addr} {n : Nat} {xss : List (List Int)} (h : IRw w A n xss) (hb : Below w.heap.size w w') : IRw w' A n xss := by
  refine ⟨h.1, fun h0 => ?_⟩
  obtain ⟨b, e, hl, hc⟩ := h.2 h0
  refine ⟨b, e, Nat.lt_of_lt_of_le hl hb.size, fun j hj => ?_⟩
  obtain ⟨B, c, h1, h2⟩ := hc j hj
  exact ⟨B, c, cell_below hb h1, h2.below hb⟩
theorem IRw.take {w : World} {A : Option Addr} {n m : Nat} {xss : List (List Int)} (h : IRw w A n xss) (hm : m ≤ n) : IRw w A m (xss.take m) := by
  refine ⟨by rw [List.length_take, h.1]; omega, fun h0 => ?_⟩
  obtain ⟨b, e, hl, hc⟩ := h.2 (by omega)
  refine ⟨b, e, hl, fun j hj => ?_⟩
  have hj' : j < m := by rw [List.length_take] at hj; omega
  have e2 : (xss.take m).getD j [] = xss.getD j [] := by simp [List.getD_eq_getElem?_getD, hj']
  rw [e2]
  exact hc j (by rw [h.1]; omega)
def lastI (l : List Int) : Int := l.getLastD 0
theorem rst_take_succ {C : List Bool} {s : List Int} {j : Nat} (hj : j < s.length) : rst C (s.take (j + 1)) = rst C (s.take j) ++ (if knw C (gi s j) then [] else [gi s j]) := by
  unfold rst
  rw [List.take_succ_eq_append_getElem hj, List.filter_append, gi_get hj]
  congr 1
  cases hk : knw C s[j] <;> simp [hk]
theorem lastI_snoc (l : List Int) (x : Int) : lastI (l ++ [x]) = x := by simp [lastI, List.getLastD_eq_getLast?]
/-- The state of a round. -/
structure CS (w : World) (KB k : Nat) (sets : List (List Int)) (C : List Bool) (wr : World) : Prop where
  bk : Bk wr KB 4 (bools C)
  ln : C.length = k
  ls : ∀ C', StK k C' sets → Le C C'
  bl : Below w.heap.size w wr
theorem CS.cell {w wr : World} {KB k : Nat} {sets : List (List Int)} {C : List Bool} (h : CS w KB k sets C wr) {x : Nat} (hx : x < k) : wr.cell? ⟨KB, x, none⟩ = some (.bool (knw C (x : Int))) := by
  rw [h.bk.cell]
  unfold bools
  rw [List.getElem?_map, knw_at (by rw [h.ln]; exact hx)]; rfl
theorem CS.put {w wr : World} {KB k : Nat} {sets : List (List Int)} {C : List Bool} (h : CS w KB k sets C wr) (hKB : w.heap.size ≤ KB) {x : Nat} (hx : x < k) {s : List Int} (hs : s ∈ sets) (hS : Sset k s) (hr : rst C s = [(x : Int)]) :
    CS w KB k sets (C.set x true) (wr.setCell ⟨KB, x, none⟩ (.bool true)) ∧ unk (C.set x true) + 1 = unk C := by
  have hku : knw C (x : Int) = false := (mem_rst.1 (show (x : Int) ∈ rst C s by rw [hr]; exact List.mem_cons_self ..)).2
  refine ⟨{ bk := ?_, ln := by rw [List.length_set]; exact h.ln, ls := fun C' hC i hi => ?_, bl := h.bl.setCell (p := ⟨KB, x, none⟩) hKB _ }, unk_set (by rw [h.ln]; exact hx) hku⟩
  · have := h.bk.set_ x (.bool true)
    unfold bools at this ⊢
    rw [List.map_set]
    exact this
  · rw [knw_set (by rw [h.ln]; exact hx) (by omega)] at hi
    have hle := h.ls C' hC
    by_cases e : (i : Int) = (x : Int)
    · rw [e]
      exact StK.knows hC hle hs (fun y hy => (hS.inr y hy).1) hr
    · rw [decide_eq_false e, Bool.or_false] at hi
      exact hle i hi
set_option maxRecDepth 100000 in
set_option maxHeartbeats 6400000 in
theorem closure_any {w : World} {A : Option Addr} {n c k : Nat} {sets : List (List Int)} (hI : IRw w A n sets) (hS : ∀ s ∈ sets, Sset k s) (hk : 1 ≤ k ∧ k ≤ 12) (hn : n ≤ 25) :
    Calls Try.prog 36 #[.int .i64 (k : Nat), .slice A n c] w fun e w' => ∃ v C, e = .returned v ∧ StK k C sets ∧ (∀ C', StK k C' sets → Le C C') ∧ w'.ownsRow w.heap.size 3 1 v (knL C).length (nums (knL C)) ∧ Below w.heap.size w w' := by
  obtain ⟨i0, hi0, hz0, hz1, hz2⟩ := info_parts u3_info
  have hmk := run_make_bools k (by omega)
  obtain ⟨hk1, hk2⟩ := hk
  have hk3 : (k : Int) ≤ 12 := by omega
  have hb1 : Below w.heap.size w (w.alloc (.cells (Array.replicate k (.bool false)) 4)) := (Below.refl _ _).alloc (Nat.le_refl _) _
  have HCS : Hid (CS w w.heap.size k sets (List.replicate k false) (w.alloc (.cells (Array.replicate k (.bool false)) 4))) := Lib.hid
    { bk := by have := Bk.newA w 4 (Array.replicate k (.bool false)); rw [Array.toList_replicate] at this; unfold bools; rw [List.map_replicate]; exact this
      ln := by simp
      ls := fun C' _ i hi => by rw [knw_rep] at hi; cases hi
      bl := hb1 }
  have H := Lib.hid (And.intro hI (And.intro hS hI.1))
  clear hI hS hb1
  obtain ⟨KB, hKB⟩ : ∃ KB, w.heap.size = KB := ⟨_, rfl⟩
  have HK := Lib.hid hKB
  have hnn : (n : Int) ≤ 25 := by omega
  go_enter Try.func36, Try.ntmps36
  go_wp2_with fail
  rw [hKB] at HCS
  generalize w.alloc (.cells (Array.replicate k (.bool false)) 4) = w1 at HCS ⊢
  clear hmk
  go_loopg [6] (2 * k + 1) (fun q s wr => ∃ (C : List Bool) (b : Bool), s = .bool b ∧ CS w KB k sets C wr ∧ (b = false → StK k C sets) ∧ q = 2 * unk C + (if b then 1 else 0))
  case atStart =>
    refine ⟨List.replicate k false, true, rfl, HCS.out, fun h => absurd h (by simp), ?_⟩
    have : unk (List.replicate k false) = k := by
      unfold unk
      rw [List.filter_eq_self.2 (fun x hx => by rw [List.eq_of_mem_replicate hx]; rfl), List.length_replicate]
    rw [this]; rfl
  case round =>
    obtain ⟨C, b, rfl, hC, hf, hq⟩ := hrel
    have HC := Lib.hid (And.intro hC (And.intro hf hq))
    clear hC hf hq HCS
    cases b with
    | true =>
      go_wp2_with fail
      go_loopw [6, 7] (fun s i wx => ∃ (j : Nat) (b2 : Bool) (C2 : List Bool), j ≤ n ∧ s = .bool b2 ∧ i = .int .i64 j ∧ CS w KB k sets C2 wx ∧ (b2 = false → C2 = C ∧ ∀ t, t < j → ∀ y, rst C (sets.getD t []) ≠ [y]) ∧ (b2 = true → unk C2 < unk C) ∧ unk C2 ≤ unk C) (fun s i wx => n - (intOf i).toNat)
      case atStart => exact ⟨0, false, C, by omega, rfl, rfl, HC.out.1, fun _ => ⟨rfl, fun t ht => absurd ht (Nat.not_lt_zero _)⟩, fun h => absurd h (by simp), Nat.le_refl _⟩
      case round =>
        obtain ⟨j, b2, C2, hj, rfl, rfl, hC2, g1, g2, g3⟩ := hrel
        by_cases hlt : j < n
        · have km : (j : Int) < (n : Int) := by omega
          have kd : decide ((j : Int) < (n : Int)) = true := decide_eq_true km
          have kd' : decide (j < n) = true := decide_eq_true hlt
          have j0 : (0 : Int) ≤ (j : Int) := by omega
          have hIx := H.out.1.below hC2.bl
          obtain ⟨rb, e5, _, hcell⟩ := hIx.2 (by omega)
          subst e5
          have hjs : j < sets.length := by rw [H.out.2.2]; exact hlt
          obtain ⟨B, cB, cb, hrB⟩ := hcell j hjs
          have hSj : Sset k (sets.getD j []) := H.out.2.1 _ (getD_mem hjs)
          have hlen9 := hSj.len
          obtain ⟨S, hSe⟩ : ∃ S, sets.getD j [] = S := ⟨_, rfl⟩
          have hSm : S ∈ sets := by rw [← hSe]; exact getD_mem hjs
          rw [hSe] at cb hrB hSj hlen9
          obtain ⟨L, hL⟩ : ∃ L, S.length = L := ⟨_, rfl⟩
          rw [hL] at cb hrB hlen9
          have HX := Lib.hid (And.intro hC2 (And.intro g1 (And.intro g2 (And.intro g3 (And.intro hrB (And.intro hSj (And.intro hSm (And.intro hL (And.intro hSe (And.intro hlt hj))))))))))
          have hL9 : (L : Int) ≤ 12 := by omega
          clear hC2 g1 g2 g3 hrB hSj hSm hL hSe hlt hj hIx hcell hjs hlen9
          go_wp2_with fail
          go_loopw [8, 9, 10] (fun m l i wy => ∃ t : Nat, t ≤ L ∧ m = .int .i64 ((rst C2 (S.take t)).length : Nat) ∧ l = .int .i64 (lastI (rst C2 (S.take t))) ∧ i = .int .i64 t ∧ wy = wr) (fun m l i wy => L - (intOf i).toNat)
          case atStart => exact ⟨0, by omega, rfl, rfl, rfl, by first | rfl | trivial⟩
          case round =>
            obtain ⟨t, ht, rfl, rfl, rfl, rfl⟩ := hrel
            by_cases hlt2 : t < L
            · have km2 : (t : Int) < (L : Int) := by omega
              have kd2 : decide ((t : Int) < (L : Int)) = true := decide_eq_true km2
              have kd2' : decide (t < L) = true := decide_eq_true hlt2
              have t0 : (0 : Int) ≤ (t : Int) := by omega
              have htl : t < S.length := by rw [HX.out.2.2.2.2.2.2.2.1]; exact hlt2
              obtain ⟨bb, off, rfl, _, hcc⟩ := HX.out.2.2.2.2.1.form (by omega)
              have cx := hcc t _ (nums_gi htl)
              have hmem : gi S t ∈ S := by rw [gi_get htl]; exact List.getElem_mem htl
              have hxr := HX.out.2.2.2.2.2.1.inr _ hmem
              obtain ⟨x, hx⟩ : ∃ x : Nat, gi S t = x := ⟨(gi S t).toNat, by omega⟩
              rw [hx] at cx
              have hxk : x < k := by omega
              have ck := HX.out.1.cell hxk
              have xk : (x : Int) < (k : Int) := by omega
              have x0 : (0 : Int) ≤ (x : Int) := by omega
              have hrs := rst_take_succ (C := C2) htl
              rw [hx] at hrs
              obtain ⟨r, hr⟩ : ∃ r, (rst C2 (S.take t)).length = r := ⟨_, rfl⟩
              have hr9 : r ≤ 12 := by
                rw [← hr]
                have h1 : (rst C2 (S.take t)).length ≤ (S.take t).length := List.length_filter_le _ _
                rw [List.length_take] at h1
                omega
              have HR := Lib.hid (And.intro hrs (And.intro hr hlt2))
              rw [hr]
              clear hcc htl hmem hxr hx hrs hr hlt2 ht
              cases hkk : knw C2 (x : Int) with
              | true =>
                rw [hkk] at ck
                have HH := Lib.hid (show rst C2 (S.take (t + 1)) = rst C2 (S.take t) from by rw [HR.out.1, hkk, if_pos rfl, List.append_nil])
                clear hkk
                go_wp2_with fail
                exact ⟨⟨t + 1, HR.out.2.2, by rw [HH.out, HR.out.2.1], by rw [HH.out], by go_num, by first | rfl | trivial⟩, by have := HR.out.2.2; simp [intOf]; omega⟩
              | false =>
                rw [hkk] at ck
                have HH := Lib.hid (show rst C2 (S.take (t + 1)) = rst C2 (S.take t) ++ [(x : Int)] from by rw [HR.out.1, hkk, if_neg (by simp)])
                clear hkk
                go_wp2_with fail
                exact ⟨⟨t + 1, HR.out.2.2, by rw [HH.out, List.length_append, HR.out.2.1]; go_num, by rw [HH.out, lastI_snoc], by go_num, by first | rfl | trivial⟩, by have := HR.out.2.2; simp [intOf]; omega⟩
            · obtain rfl : t = L := by omega
              have kd2 : decide ((t : Int) < (t : Int)) = false := decide_eq_false (by omega)
              have kd2' : decide (t < t) = false := decide_eq_false (by omega)
              have htk : S.take t = S := List.take_of_length_le (by rw [HX.out.2.2.2.2.2.2.2.1]; exact Nat.le_refl _)
              rw [htk]
              by_cases h1 : (rst C2 S).length = 1
              · obtain ⟨y, hy⟩ := List.length_eq_one_iff.1 h1
                have hym := HX.out.2.2.2.2.2.1.inr y (mem_rst.1 (show y ∈ rst C2 S by rw [hy]; exact List.mem_cons_self ..)).1
                obtain ⟨y, rfl⟩ : ∃ y' : Nat, y = y' := ⟨y.toNat, by omega⟩
                have hyk : y < k := by omega
                have yk : (y : Int) < (k : Int) := by omega
                have y0 : (0 : Int) ≤ (y : Int) := by omega
                have hput := HX.out.1.put (x := y) (by rw [HK.out]; exact Nat.le_refl _) hyk HX.out.2.2.2.2.2.2.1 HX.out.2.2.2.2.2.1 hy
                have ck := HX.out.1.cell hyk
                have fk := HX.out.1.bk.frozen y
                rw [hy, show lastI [(y : Int)] = (y : Int) from rfl]
                have HP := Lib.hid hput
                clear hput hy h1 hlt2 ht htk hym hyk
                go_wp2_with fail
                refine ⟨⟨j + 1, true, C2.set y true, HX.out.2.2.2.2.2.2.2.2.2.1, rfl, by go_num, HP.out.1, fun h => absurd h (by simp), fun _ => ?_, ?_⟩, by have := HX.out.2.2.2.2.2.2.2.2.2.1; simp [intOf]; omega⟩
                · have := HP.out.2; have := HX.out.2.2.2.1; omega
                · have := HP.out.2; have := HX.out.2.2.2.1; omega
              · obtain ⟨r, hr⟩ : ∃ r, (rst C2 S).length = r := ⟨_, rfl⟩
                rw [hr] at h1
                have d1 : ((r : Int) == 1) = false := by simp; omega
                have d2 : decide (r = 1) = false := decide_eq_false h1
                have d3 : decide ((r : Int) = 1) = false := decide_eq_false (by omega)
                have HR := Lib.hid (And.intro hr h1)
                rw [hr]
                clear hr h1 hlt2 ht htk
                go_wp2_with fail
                refine ⟨⟨j + 1, b2, C2, HX.out.2.2.2.2.2.2.2.2.2.1, rfl, by go_num, HX.out.1, fun hb => ?_, HX.out.2.2.1, HX.out.2.2.2.1⟩, by have := HX.out.2.2.2.2.2.2.2.2.2.1; simp [intOf]; omega⟩
                obtain ⟨e1, e2⟩ := HX.out.2.1 hb
                refine ⟨e1, fun t' ht' y hy => ?_⟩
                by_cases e : t' = j
                · subst e
                  rw [HX.out.2.2.2.2.2.2.2.2.1, ← e1] at hy
                  have := HR.out.1
                  rw [hy] at this
                  exact HR.out.2 this.symm
                · exact e2 t' (by omega) y hy
        · obtain rfl : j = n := by omega
          have kd : decide ((j : Int) < (j : Int)) = false := decide_eq_false (by omega)
          have kd' : decide (j < j) = false := decide_eq_false (by omega)
          have HX := Lib.hid (And.intro hC2 (And.intro g1 (And.intro g2 g3)))
          clear hC2 g1 g2 g3 hlt hj
          go_wp2_with fail
          go_roundg (2 * unk C2 + (if b2 then 1 else 0))
          case measure =>
            have := HC.out.2.2
            have h3 := HX.out.2.2.2
            cases b2 with
            | true => have := HX.out.2.2.1 rfl; simp at *; omega
            | false => simp at *; omega
          case rel =>
            refine ⟨C2, b2, rfl, HX.out.1, fun hb => ⟨HX.out.1.ln, fun s hs y hy => ?_⟩, rfl⟩
            obtain ⟨e1, e2⟩ := HX.out.2.1 hb
            obtain ⟨q, hq, rfl⟩ := List.mem_iff_getElem.1 hs
            refine e2 q (by have := H.out.2.2; omega) y ?_
            rw [List.getD_eq_getElem?_getD, List.getElem?_eq_getElem hq, ← e1]
            exact hy
    | false =>
      go_wp2_with fail
      go_loopw [11, 12] (fun v i wx => ∃ j : Nat, j ≤ k ∧ i = .int .i64 j ∧ wx.ownsRow wr.heap.size 3 1 v (knF C j).length (nums (knF C j)) ∧ Below wr.heap.size wr wx) (fun v i wx => k - (intOf i).toNat)
      case atStart => exact ⟨0, by omega, rfl, World.ownsRow_nil _ _ _ _, Below.refl _ _⟩
      case round =>
        obtain ⟨j, hj, rfl, how, hb⟩ := hrel
        by_cases hlt : j < k
        · have km : (j : Int) < (k : Int) := by omega
          have kd : decide ((j : Int) < (k : Int)) = true := decide_eq_true km
          have kd' : decide (j < k) = true := decide_eq_true hlt
          have j0 : (0 : Int) ≤ (j : Int) := by omega
          have ck := cell_below hb (HC.out.1.cell hlt)
          have hF := knF_succ C j
          have hle := knF_le C j
          obtain ⟨L, hL⟩ : ∃ L, knF C j = L := ⟨_, rfl⟩
          rw [hL] at how hF hle
          obtain ⟨r, hr⟩ : ∃ r, L.length = r := ⟨_, rfl⟩
          rw [hr] at how hle
          have hr9 : r ≤ 12 := by omega
          have hz9 := hb.size
          cases hkk : knw C (j : Int) with
          | true =>
            rw [hkk] at ck
            rw [hkk, if_pos rfl] at hF
            have HW := Lib.hid (And.intro how (And.intro hb (And.intro hF (And.intro hr (And.intro hlt hz9)))))
            clear how hb hF hL hr hlt hle hkk hz9
            go_wp2_with (at_builtin; refine wpList_append_rd _ rfl (.tmp 65) (.tmp 67) _ rfl _ 3 i0 _ 1 8 Try.underlying23 hi0 hz0 hz1 hz2 rfl (by omega) _ r (nums L) rfl (own_below HW.out.1 ((Below.refl _ _).alloc (Nat.le_refl _) _)) (some ⟨wr.heap.size, 0, none⟩) 1 1 (nums [(j : Int)]) rfl (Rd.lit _ _ _ _ rfl 1 rfl _ rfl) (nums_one _) (by simp only [maxLen]; omega) (by omega) (by have := HW.out.2.2.2.2.2; rw [World.size_alloc]; omega) ?_; intro v1 w3 hown1 hg1 hat1; rw [← nums_append] at hown1)
            have hS : Chg (fun k => u11.ownBlock = some k) wr w3 := ((Chg.refl _ wr).alloc _).trans (Chg.of_grown hg1 (S := fun k => u11.ownBlock = some k) fun k e => e) fun _ _ x => x
            have hb3 := hS.below HW.out.2.1 (fun b _ e => (HW.out.1.lt b e).1) HW.out.2.1.size
            exact ⟨⟨j + 1, HW.out.2.2.2.2.1, by go_num, by rw [HW.out.2.2.1, List.length_append, HW.out.2.2.2.1]; exact hown1, hb3⟩, by have := HW.out.2.2.2.2.1; simp [intOf]; omega⟩
          | false =>
            rw [hkk] at ck
            rw [hkk, if_neg (by simp), List.append_nil] at hF
            have HW := Lib.hid (And.intro how (And.intro hb (And.intro hF (And.intro hr hlt))))
            clear how hb hF hL hr hlt hle hkk hz9
            go_wp2_with fail
            exact ⟨⟨j + 1, HW.out.2.2.2.2, by go_num, by rw [HW.out.2.2.1, HW.out.2.2.2.1]; exact HW.out.1, HW.out.2.1⟩, by have := HW.out.2.2.2.2; simp [intOf]; omega⟩
        · obtain rfl : j = k := by omega
          have kd : decide ((j : Int) < (j : Int)) = false := decide_eq_false (by omega)
          have kd' : decide (j < j) = false := decide_eq_false (by omega)
          have HW := Lib.hid (And.intro how hb)
          clear how hb hlt hj
          go_wp2_with fail
          go_ret
          refine ⟨_, C, rfl, HC.out.2.1 (by first | rfl | trivial), HC.out.1.ls, ?_, below_base HC.out.1.bl HW.out.2 HC.out.1.bl.size⟩
          unfold knL
          rw [HC.out.1.ln]
          exact own_mono HW.out.1 HC.out.1.bl.size
end Go.Proofs.Ytidoembkcaojoaa
