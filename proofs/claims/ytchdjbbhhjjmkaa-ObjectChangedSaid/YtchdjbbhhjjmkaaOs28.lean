/- Chapter 28: Symbols and Part, of both. -/
import Derived.Test.YtchdjbbhhjjmkaaOb28
import Derived.Test.YtchdjbbhhjjmkaaTn12
namespace Go.Proofs.Ytchdjbbhhjjmkaa
open Go.RowKit
set_option linter.unusedVariables false
/-- A manifest in a block, and all older memory as it was. -/
def MB (w w' : World) (A : Option Addr) (n c : Nat) (z s k d : Int) (t : List Int) : Prop :=
  Bk w' w.heap.size 24 [.int .i64 z, .int .i64 s, .int .i64 k, .int .i64 d, .slice A n c] ∧ MA w' A n c ⟨z, s, k, d, t⟩ ∧ Below w.heap.size w w'
theorem MB.below {w w' w'' : World} {A : Option Addr} {n c : Nat} {z s k d : Int} {t : List Int} (h : MB w w' A n c z s k d t) (hb : Below w'.heap.size w' w'') : MB w w'' A n c z s k d t :=
  ⟨h.1.belowS hb, h.2.1.below hb, below_base h.2.2 hb h.2.2.size⟩
theorem MB.new {w : World} {A : Option Addr} {n c : Nat} {z s k d : Int} {t : List Int} (h : MA w A n c ⟨z, s, k, d, t⟩) : MB w (w.alloc (.cells #[.int .i64 z, .int .i64 s, .int .i64 k, .int .i64 d, .slice A n c] 24)) A n c z s k d t :=
  ⟨Bk.newA w _ _, h.below ((Below.refl _ _).alloc (Nat.le_refl _) _), (Below.refl _ _).alloc (Nat.le_refl _) _⟩
section
variable {w : World} {A B : Option Addr} {n c l cc : Nat} {m : MF}
set_option maxRecDepth 100000 in
set_option maxHeartbeats 3200000 in
theorem symbols_any {data : List UInt8} (h : MA w A n c m) (hd : Rd w B l (bys data)) (hlc : l ≤ cc) (hl : l ≤ 1000000000) {b : Int} (hb : R64 b) :
    Calls Try.prog 24 #[m.v A n c, .slice B l cc, .int .i64 b] w (ToldL w (syV m data b) (syE m data b)) := by
  have hdl : data.length = l := by have := hd.1; simpa [bys_length] using this
  obtain ⟨z, s, k, d, t⟩ := m
  obtain ⟨w1, hw1⟩ : ∃ w1, w1 = w.alloc (.cells #[.int .i64 z, .int .i64 s, .int .i64 k, .int .i64 d, .slice A n c] 24) := ⟨_, rfl⟩
  have hM := MB.new h
  rw [← hw1] at hM
  have H1 := Lib.hid (And.intro hM (hd.below hM.2.2))
  have HD := Lib.hid (And.intro hdl (And.intro hlc (And.intro hl hb)))
  obtain ⟨c0, c1, c2, c3, c4⟩ := cells5 hM.1
  have hl' : (l : Int) ≤ 1000000000 := by omega
  clear h hd hM hdl hlc hl hb
  show Calls Try.prog 24 #[.agg #[.int .i64 z, .int .i64 s, .int .i64 k, .int .i64 d, .slice A n c], .slice B l cc, .int .i64 b] w _
  cases hq : mfB ⟨z, s, k, d, t⟩ with
  | false =>
    have HE := Lib.hid (show mfE ⟨z, s, k, d, t⟩ = 2 from by unfold mfE; rw [hq]; rfl)
    have hE : syE ⟨z, s, k, d, t⟩ data b = 2 := by unfold syE; rw [if_neg (by rw [hq]; rintro ⟨h, _⟩; cases h)]
    rw [sy_no hE (by decide), hE]
    clear hE hq
    go_enter Try.func24, Try.ntmps24
    go_wp2_with fail
    rw [← hw1]
    clear hw1
    refine (check_any H1.out.1.2.1).mono ?_
    rintro e w2 ⟨rfl, hb2⟩
    rw [HE.out]
    have H2 := Lib.hid (H1.out.1.below hb2).2.2
    clear hb2 c0 c1 c2 c3 c4
    go_wp2
    go_ret2
    exact ⟨_, [], rfl, World.ownsRow_nil _ _ _ _, ORows.nil _ _, H2.out⟩
  | true =>
    have HE := Lib.hid (show mfE ⟨z, s, k, d, t⟩ = 0 from by unfold mfE; rw [hq]; rfl)
    cases hz : ((l : Int) != z) with
    | true =>
      have hE : syE ⟨z, s, k, d, t⟩ data b = 2 := by
        unfold syE
        rw [if_neg (by rintro ⟨_, h⟩; rw [HD.out.1] at h; simp only at h; rw [h] at hz; simp at hz)]
      rw [sy_no hE (by decide), hE]
      clear hE hq
      go_enter Try.func24, Try.ntmps24
      go_wp2_with fail
      rw [← hw1]
      clear hw1
      refine (check_any H1.out.1.2.1).mono ?_
      rintro e w2 ⟨rfl, hb2⟩
      rw [HE.out]
      have H2 := Lib.hid (H1.out.1.below hb2)
      clear hb2 c0 c1 c2 c3 c4
      obtain ⟨c0, c1, c2, c3, c4⟩ := cells5 H2.out.1
      go_wp2
      go_ret2
      exact ⟨_, [], rfl, World.ownsRow_nil _ _ _ _, ORows.nil _ _, H2.out.2.2⟩
    | false =>
      have hlz : (l : Int) = z := by simpa using hz
      by_cases hp : prE ⟨z, s, k, d, t⟩ b = 0
      · obtain ⟨f, sz, e1, e2, e3, e4, e5, e6, e7, e8, e9⟩ := sy_part (data := data) hp (by rw [HD.out.1]; exact hlz)
        obtain ⟨o1, o2, o3⟩ := sy_ok (data := data) hp (by rw [HD.out.1]; exact hlz)
        have HP := Lib.hid (And.intro e1 (And.intro e2 hp))
        rw [HD.out.1] at e3 e4
        obtain ⟨j0, hj0, ha0, ha1, ha2⟩ := info_parts u8_info
        obtain ⟨A', hrun, hA'⟩ := run_mid (P := Try.prog) (t := 32) Try.underlying32 hj0 ha1 B l cc f (f + sz) .i64 .i64 (f : Int) ((f : Int) + (sz : Int)) rfl (by simp) (Nat.le_add_right _ _) (Nat.le_trans e3 HD.out.2.1)
        rw [show f + sz - f = sz by omega] at hrun
        have hrd := H1.out.2.mid (lo := f) (m := sz) (by omega) (fun h => hA' (by omega))
        rw [← e6] at hrd
        have hwr : IntKind.i64.wrap ((f : Int) + (sz : Int)) = (f : Int) + (sz : Int) := by rw [IntKind.wrap_i64]; omega
        have hwr2 : wrap64 ((f : Int) + (sz : Int)) = (f : Int) + (sz : Int) := by unfold wrap64; omega
        have hks := (mf_ks hq)
        have HC := Lib.hid (fun (wx : World) (hx : Below w1.heap.size w1 wx) => cut_any (hrd.below hx) (Nat.le_sub_of_add_le (by rw [Nat.add_comm]; exact Nat.le_trans e3 HD.out.2.1)) (Nat.le_trans (Nat.le_trans (Nat.le_add_left _ _) e3) HD.out.2.2.1) k s (wf_i64 ⟨by have := hks.1; simp only at this; omega, by have := hks.1; simp only at this; omega⟩) (wf_i64 ⟨by have := hks.2.1; simp only at this; omega, by have := hks.2.1; simp only at this; omega⟩))
        rw [← o2, o3] at HC
        have HO := Lib.hid o1
        rw [o1]
        clear hq hlz hp e1 e2 e3 e4 e5 e6 e7 e8 e9 o1 o2 o3 hj0 ha0 ha1 ha2 hA' hrd hks
        go_enter Try.func24, Try.ntmps24
        go_wp2_with fail
        rw [← hw1]
        clear hw1
        refine (check_any H1.out.1.2.1).mono ?_
        rintro e w2 ⟨rfl, hb2⟩
        rw [HE.out]
        have H2 := Lib.hid (And.intro (H1.out.1.below hb2) hb2)
        clear hb2 c0 c1 c2 c3 c4
        obtain ⟨c0, c1, c2, c3, c4⟩ := cells5 H2.out.1.1
        go_wp2_with fail
        refine (part_any H2.out.1.2.1 HD.out.2.2.2).mono ?_
        rintro e w3 ⟨rfl, hb3⟩
        rw [HP.out.1, HP.out.2.1, HP.out.2.2]
        have H3 := Lib.hid (And.intro (H2.out.1.below hb3) (below_base H2.out.2 hb3 H2.out.2.size))
        clear hb3 c0 c1 c2 c3 c4
        obtain ⟨c0, c1, c2, c3, c4⟩ := cells5 H3.out.1.1
        go_wp2_with fail
        go_region_held3 (fun w' => w'.cell? ⟨w.heap.size, 0, none⟩ = some (.int .i64 z) ∧ w'.cell? ⟨w.heap.size, 1, none⟩ = some (.int .i64 s) ∧ w'.cell? ⟨w.heap.size, 2, none⟩ = some (.int .i64 k) ∧ w'.cell? ⟨w.heap.size, 3, none⟩ = some (.int .i64 d) ∧ w'.cell? ⟨w.heap.size, 4, none⟩ = some (.slice A n c))
          (first | go_keep | exact cells5 K1.out.2.2.2)
          ((go_at_call 43; refine (HC.out _ (below_base H3.out.2 (Below.refl _ _).drew H3.out.2.size)).mono ?_; rintro e wq ⟨v, vs, rfl, ho, hor, hbq⟩; have K1 := Lib.hid (And.intro ho (And.intro hor (And.intro (below_undrew hbq) (H3.out.1.below (below_undrew hbq)).1))); clear ho hor hbq))
        go_wp2
        go_ret2
        exact ⟨_, vs, rfl, own_mono K1.out.1 H3.out.1.2.2.size, K1.out.2.1.mono H3.out.1.2.2.size, below_base H3.out.1.2.2 K1.out.2.2.1 H3.out.1.2.2.size⟩
      · have h3 : prE ⟨z, s, k, d, t⟩ b = 3 := by
          rcases (prE_no hp).2.2 with e | e
          · exfalso
            by_cases hh : 0 ≤ b ∧ b < mfN ⟨z, s, k, d, t⟩
            · exact hp (prE_of hq hh)
            · have := (((prt_eq ⟨z, s, k, d, t⟩ b).2 hq).1 hh).2.2
              rw [e] at this; cases this
          · exact e
        have hE : syE ⟨z, s, k, d, t⟩ data b = 3 := by
          unfold syE
          rw [if_pos ⟨hq, by rw [HD.out.1]; exact hlz⟩, h3]
        rw [sy_no hE (by decide), hE]
        have HP := Lib.hid h3
        clear hE hq hlz hp h3
        go_enter Try.func24, Try.ntmps24
        go_wp2_with fail
        rw [← hw1]
        clear hw1
        refine (check_any H1.out.1.2.1).mono ?_
        rintro e w2 ⟨rfl, hb2⟩
        rw [HE.out]
        have H2 := Lib.hid (H1.out.1.below hb2)
        clear hb2 c0 c1 c2 c3 c4
        obtain ⟨c0, c1, c2, c3, c4⟩ := cells5 H2.out.1
        go_wp2_with fail
        refine (part_any H2.out.2.1 HD.out.2.2.2).mono ?_
        rintro e w3 ⟨rfl, hb3⟩
        rw [HP.out]
        have H3 := Lib.hid (H2.out.below hb3)
        clear hb3 c0 c1 c2 c3 c4
        go_wp2
        go_ret2
        exact ⟨_, [], rfl, World.ownsRow_nil _ _ _ _, ORows.nil _ _, H3.out.2.2⟩
set_option maxRecDepth 100000 in
set_option maxHeartbeats 3200000 in
theorem rsymbols_any {data : List UInt8} (h : MA w A n c m) (hd : Rd w B l (bys data)) (hlc : l ≤ cc) (hl : l ≤ 1000000000) {b : Int} (hb : R64 b) :
    Calls Try.prog 26 #[m.v A n c, .slice B l cc, .int .i64 b] w (ToldL w (syV m data b) (syE m data b)) := by
  have hdl : data.length = l := by have := hd.1; simpa [bys_length] using this
  obtain ⟨z, s, k, d, t⟩ := m
  obtain ⟨w1, hw1⟩ : ∃ w1, w1 = w.alloc (.cells #[.int .i64 z, .int .i64 s, .int .i64 k, .int .i64 d, .slice A n c] 24) := ⟨_, rfl⟩
  have hM := MB.new h
  rw [← hw1] at hM
  have H1 := Lib.hid (And.intro hM (hd.below hM.2.2))
  have HD := Lib.hid (And.intro hdl (And.intro hlc (And.intro hl hb)))
  obtain ⟨c0, c1, c2, c3, c4⟩ := cells5 hM.1
  have hl' : (l : Int) ≤ 1000000000 := by omega
  clear h hd hM hdl hlc hl hb
  show Calls Try.prog 26 #[.agg #[.int .i64 z, .int .i64 s, .int .i64 k, .int .i64 d, .slice A n c], .slice B l cc, .int .i64 b] w _
  cases hq : mfB ⟨z, s, k, d, t⟩ with
  | false =>
    have HE := Lib.hid (show mfE ⟨z, s, k, d, t⟩ = 2 from by unfold mfE; rw [hq]; rfl)
    have hE : syE ⟨z, s, k, d, t⟩ data b = 2 := by unfold syE; rw [if_neg (by rw [hq]; rintro ⟨h, _⟩; cases h)]
    rw [sy_no hE (by decide), hE]
    clear hE hq
    go_enter Try.func26, Try.ntmps26
    go_wp2_with fail
    rw [← hw1]
    clear hw1
    refine (rcheck_any H1.out.1.2.1).mono ?_
    rintro e w2 ⟨rfl, hb2⟩
    rw [HE.out]
    have H2 := Lib.hid (H1.out.1.below hb2).2.2
    clear hb2 c0 c1 c2 c3 c4
    go_wp2
    go_ret2
    exact ⟨_, [], rfl, World.ownsRow_nil _ _ _ _, ORows.nil _ _, H2.out⟩
  | true =>
    have HE := Lib.hid (show mfE ⟨z, s, k, d, t⟩ = 0 from by unfold mfE; rw [hq]; rfl)
    cases hz : ((l : Int) != z) with
    | true =>
      have hE : syE ⟨z, s, k, d, t⟩ data b = 2 := by
        unfold syE
        rw [if_neg (by rintro ⟨_, h⟩; rw [HD.out.1] at h; simp only at h; rw [h] at hz; simp at hz)]
      rw [sy_no hE (by decide), hE]
      clear hE hq
      go_enter Try.func26, Try.ntmps26
      go_wp2_with fail
      rw [← hw1]
      clear hw1
      refine (rcheck_any H1.out.1.2.1).mono ?_
      rintro e w2 ⟨rfl, hb2⟩
      rw [HE.out]
      have H2 := Lib.hid (H1.out.1.below hb2)
      clear hb2 c0 c1 c2 c3 c4
      obtain ⟨c0, c1, c2, c3, c4⟩ := cells5 H2.out.1
      go_wp2
      go_ret2
      exact ⟨_, [], rfl, World.ownsRow_nil _ _ _ _, ORows.nil _ _, H2.out.2.2⟩
    | false =>
      have hlz : (l : Int) = z := by simpa using hz
      by_cases hp : prE ⟨z, s, k, d, t⟩ b = 0
      · obtain ⟨f, sz, e1, e2, e3, e4, e5, e6, e7, e8, e9⟩ := sy_part (data := data) hp (by rw [HD.out.1]; exact hlz)
        obtain ⟨o1, o2, o3⟩ := sy_ok (data := data) hp (by rw [HD.out.1]; exact hlz)
        have HP := Lib.hid (And.intro e1 (And.intro e2 hp))
        rw [HD.out.1] at e3 e4
        obtain ⟨j0, hj0, ha0, ha1, ha2⟩ := info_parts u8_info
        obtain ⟨A', hrun, hA'⟩ := run_mid (P := Try.prog) (t := 32) Try.underlying32 hj0 ha1 B l cc f (f + sz) .i64 .i64 (f : Int) ((f : Int) + (sz : Int)) rfl (by simp) (Nat.le_add_right _ _) (Nat.le_trans e3 HD.out.2.1)
        rw [show f + sz - f = sz by omega] at hrun
        have hrd := H1.out.2.mid (lo := f) (m := sz) (by omega) (fun h => hA' (by omega))
        rw [← e6] at hrd
        have hwr : IntKind.i64.wrap ((f : Int) + (sz : Int)) = (f : Int) + (sz : Int) := by rw [IntKind.wrap_i64]; omega
        have hwr2 : wrap64 ((f : Int) + (sz : Int)) = (f : Int) + (sz : Int) := by unfold wrap64; omega
        have hks := (mf_ks hq)
        have HC := Lib.hid (fun (wx : World) (hx : Below w1.heap.size w1 wx) => rcut_any (hrd.below hx) (Nat.le_sub_of_add_le (by rw [Nat.add_comm]; exact Nat.le_trans e3 HD.out.2.1)) (Nat.le_trans (Nat.le_trans (Nat.le_add_left _ _) e3) HD.out.2.2.1) k s (wf_i64 ⟨by have := hks.1; simp only at this; omega, by have := hks.1; simp only at this; omega⟩) (wf_i64 ⟨by have := hks.2.1; simp only at this; omega, by have := hks.2.1; simp only at this; omega⟩))
        rw [← o2, o3] at HC
        have HO := Lib.hid o1
        rw [o1]
        clear hq hlz hp e1 e2 e3 e4 e5 e6 e7 e8 e9 o1 o2 o3 hj0 ha0 ha1 ha2 hA' hrd hks
        go_enter Try.func26, Try.ntmps26
        go_wp2_with fail
        rw [← hw1]
        clear hw1
        refine (rcheck_any H1.out.1.2.1).mono ?_
        rintro e w2 ⟨rfl, hb2⟩
        rw [HE.out]
        have H2 := Lib.hid (And.intro (H1.out.1.below hb2) hb2)
        clear hb2 c0 c1 c2 c3 c4
        obtain ⟨c0, c1, c2, c3, c4⟩ := cells5 H2.out.1.1
        go_wp2_with fail
        refine (rpart_any H2.out.1.2.1 HD.out.2.2.2).mono ?_
        rintro e w3 ⟨rfl, hb3⟩
        rw [HP.out.1, HP.out.2.1, HP.out.2.2]
        have H3 := Lib.hid (And.intro (H2.out.1.below hb3) (below_base H2.out.2 hb3 H2.out.2.size))
        clear hb3 c0 c1 c2 c3 c4
        obtain ⟨c0, c1, c2, c3, c4⟩ := cells5 H3.out.1.1
        go_wp2_with fail
        go_region_held3 (fun w' => w'.cell? ⟨w.heap.size, 0, none⟩ = some (.int .i64 z) ∧ w'.cell? ⟨w.heap.size, 1, none⟩ = some (.int .i64 s) ∧ w'.cell? ⟨w.heap.size, 2, none⟩ = some (.int .i64 k) ∧ w'.cell? ⟨w.heap.size, 3, none⟩ = some (.int .i64 d) ∧ w'.cell? ⟨w.heap.size, 4, none⟩ = some (.slice A n c))
          (first | go_keep | exact cells5 K1.out.2.2.2)
          ((go_at_call 44; refine (HC.out _ (below_base H3.out.2 (Below.refl _ _).drew H3.out.2.size)).mono ?_; rintro e wq ⟨v, vs, rfl, ho, hor, hbq⟩; have K1 := Lib.hid (And.intro ho (And.intro hor (And.intro (below_undrew hbq) (H3.out.1.below (below_undrew hbq)).1))); clear ho hor hbq))
        go_wp2
        go_ret2
        exact ⟨_, vs, rfl, own_mono K1.out.1 H3.out.1.2.2.size, K1.out.2.1.mono H3.out.1.2.2.size, below_base H3.out.1.2.2 K1.out.2.2.1 H3.out.1.2.2.size⟩
      · have h3 : prE ⟨z, s, k, d, t⟩ b = 3 := by
          rcases (prE_no hp).2.2 with e | e
          · exfalso
            by_cases hh : 0 ≤ b ∧ b < mfN ⟨z, s, k, d, t⟩
            · exact hp (prE_of hq hh)
            · have := (((prt_eq ⟨z, s, k, d, t⟩ b).2 hq).1 hh).2.2
              rw [e] at this; cases this
          · exact e
        have hE : syE ⟨z, s, k, d, t⟩ data b = 3 := by
          unfold syE
          rw [if_pos ⟨hq, by rw [HD.out.1]; exact hlz⟩, h3]
        rw [sy_no hE (by decide), hE]
        have HP := Lib.hid h3
        clear hE hq hlz hp h3
        go_enter Try.func26, Try.ntmps26
        go_wp2_with fail
        rw [← hw1]
        clear hw1
        refine (rcheck_any H1.out.1.2.1).mono ?_
        rintro e w2 ⟨rfl, hb2⟩
        rw [HE.out]
        have H2 := Lib.hid (H1.out.1.below hb2)
        clear hb2 c0 c1 c2 c3 c4
        obtain ⟨c0, c1, c2, c3, c4⟩ := cells5 H2.out.1
        go_wp2_with fail
        refine (rpart_any H2.out.2.1 HD.out.2.2.2).mono ?_
        rintro e w3 ⟨rfl, hb3⟩
        rw [HP.out]
        have H3 := Lib.hid (H2.out.below hb3)
        clear hb3 c0 c1 c2 c3 c4
        go_wp2
        go_ret2
        exact ⟨_, [], rfl, World.ownsRow_nil _ _ _ _, ORows.nil _ _, H3.out.2.2⟩
end
end Go.Proofs.Ytchdjbbhhjjmkaa
