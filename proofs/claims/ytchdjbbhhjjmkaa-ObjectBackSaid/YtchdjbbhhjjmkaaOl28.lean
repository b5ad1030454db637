/- Chapter 28: the document's Join. -/
import Derived.Test.YtchdjbbhhjjmkaaOj28
namespace Go.Proofs.Ytchdjbbhhjjmkaa
open Go.RowKit
set_option linter.unusedVariables false
section
variable {w : World} {At A : Option Addr} {nt ct l cc : Nat} {m : MF}
set_option maxRecDepth 100000 in
set_option maxHeartbeats 4000000 in
theorem rojoin_any {xss : List (List UInt8)} (h : MA w At nt ct m) (hs : Syms w A l xss) (hl : l ≤ 65536) (hx : ∀ x ∈ xss, x.length ≤ 65535) :
    Calls Try.prog 15 #[m.v At nt ct, .slice A l cc] w (Told w (jyV m xss) (jyE m xss)) := by
  obtain ⟨z, s, k, d, t⟩ := m
  have hxl := hs.len
  obtain ⟨w1, hw1⟩ : ∃ w1, w1 = w.alloc (.cells #[.int .i64 z, .int .i64 s, .int .i64 k, .int .i64 d, .slice At nt ct] 24) := ⟨_, rfl⟩
  have hM := MB.new h
  rw [← hw1] at hM
  obtain ⟨c0, c1, c2, c3, c4⟩ := cells5 hM.1
  have H1 := Lib.hid (And.intro hM (And.intro (hs.below hM.2.2) (And.intro hl (And.intro hx hxl))))
  have hl' : (l : Int) ≤ 65536 := by omega
  have H0 := Lib.hid h
  have HSy := Lib.hid hs
  clear hM h hs hx hxl hl
  show Calls Try.prog 15 #[.agg #[.int .i64 z, .int .i64 s, .int .i64 k, .int .i64 d, .slice At nt ct], .slice A l cc] w _
  cases hq : mfB ⟨z, s, k, d, t⟩ with
  | false =>
    have HE := Lib.hid (show mfE ⟨z, s, k, d, t⟩ = 2 from by unfold mfE; rw [hq]; rfl)
    have hE : jyE ⟨z, s, k, d, t⟩ xss = 2 := by unfold jyE; rw [if_neg (by rw [hq]; rintro ⟨h, _⟩; cases h)]
    rw [jy_no hE (by decide), hE]
    clear hE hq
    go_enter Try.func15, Try.ntmps15
    go_wp2_with fail
    rw [← hw1]
    clear hw1
    refine (rcheck_any H1.out.1.2.1).mono ?_
    rintro e w2 ⟨rfl, hb2⟩
    rw [HE.out]
    have H2 := Lib.hid (H1.out.1.below hb2)
    clear hb2 c0 c1 c2 c3 c4
    go_wp2
    go_ret2
    exact ⟨_, rfl, World.ownsRow_nil _ _ _ _, H2.out.2.2⟩
  | true =>
    have HE := Lib.hid (show mfE ⟨z, s, k, d, t⟩ = 0 from by unfold mfE; rw [hq]; rfl)
    obtain ⟨N, hN⟩ : ∃ N, mfN ⟨z, s, k, d, t⟩ = N := ⟨_, rfl⟩
    have HN := Lib.hid hN
    cases hz : ((l : Int) != N) with
    | true =>
      have hE : jyE ⟨z, s, k, d, t⟩ xss = 2 := by
        unfold jyE
        rw [if_neg (by rintro ⟨_, h, _⟩; rw [H1.out.2.2.2.2, hN] at h; rw [h] at hz; simp at hz)]
      rw [jy_no hE (by decide), hE]
      clear hE hq hN
      go_enter Try.func15, Try.ntmps15
      go_wp2_with fail
      rw [← hw1]
      clear hw1
      refine (rcheck_any H1.out.1.2.1).mono ?_
      rintro e w2 ⟨rfl, hb2⟩
      rw [HE.out]
      have H2 := Lib.hid (H1.out.1.below hb2)
      clear hb2 c0 c1 c2 c3 c4
      obtain ⟨c0, c1, c2, c3, c4⟩ := cells5 H2.out.1
      go_wp2_with fail
      refine (rblocks_any H2.out.2.1).mono ?_
      rintro e w3 ⟨rfl, hb3⟩
      rw [HN.out]
      have H3 := Lib.hid (H2.out.below hb3)
      clear hb3 c0 c1 c2 c3 c4
      go_wp2
      go_ret2
      exact ⟨_, rfl, World.ownsRow_nil _ _ _ _, H3.out.2.2⟩
    | false =>
      have hlN : (l : Int) = N := by simpa using hz
      have HQ := Lib.hid (And.intro hq hlN)
      obtain ⟨j0, hj0, ha0, ha1, ha2⟩ := info_parts u8_info
      clear hq hlN hN
      go_enter Try.func15, Try.ntmps15
      go_wp2_with fail
      rw [← hw1]
      clear hw1
      refine (rcheck_any H1.out.1.2.1).mono ?_
      rintro e w2 ⟨rfl, hb2⟩
      rw [HE.out]
      have H2 := Lib.hid (H1.out.1.below hb2)
      clear hb2 c0 c1 c2 c3 c4
      obtain ⟨c0, c1, c2, c3, c4⟩ := cells5 H2.out.1
      go_wp2_with fail
      refine (rblocks_any H2.out.2.1).mono ?_
      rintro e w3 ⟨rfl, hb3⟩
      rw [HN.out]
      have H3 := Lib.hid (H2.out.below hb3)
      clear hb3 c0 c1 c2 c3 c4
      go_wp2
      go_loopw [6, 7] (fun v i wr => ∃ j : Nat, j ≤ l ∧ i = .int .i64 (j : Int) ∧ wr.ownsRow w.heap.size 5 1 v (xss.take j).flatten.length (bys (xss.take j).flatten) ∧ fitB ⟨z, s, k, d, t⟩ xss j = true ∧ MB w wr At nt ct z s k d t) (fun v i wr => l - (intOf i).toNat)
      case atStart => exact ⟨0, by omega, rfl, World.ownsRow_nil _ _ _ _, rfl, H3.out⟩
      case round =>
        obtain ⟨j, hj, rfl, ho, hf, hM⟩ := hrel
        by_cases hlt : j < l
        · obtain ⟨Lf, hLf⟩ : ∃ Lf, (xss.take j).flatten.length = Lf := ⟨_, rfl⟩
          rw [hLf] at ho
          obtain ⟨Av, cv, rfl, _⟩ := own_form ho
          have hjl : j < xss.length := by rw [H1.out.2.2.2.2]; exact hlt
          have hLb : Lf ≤ j * 65535 := by rw [← hLf]; exact flat_le H1.out.2.2.2.1 j
          have hLc := H1.out.2.2.2.1 _ (List.getElem_mem hjl)
          rw [← getD_at hjl] at hLc
          have hsuc := flat_take_succ hjl
          obtain ⟨L, hL⟩ : ∃ L, (xss.getD j []).length = L := ⟨_, rfl⟩
          obtain ⟨S, hS⟩ : ∃ S, prS ⟨z, s, k, d, t⟩ (j : Int) = S := ⟨_, rfl⟩
          have hjb : j * 65535 ≤ 65536 * 65535 := Nat.mul_le_mul_right _ (by have := H1.out.2.2.1; omega)
          have HK := Lib.hid (And.intro ho (And.intro hf (And.intro hM (And.intro hlt (And.intro hLf (And.intro hL (And.intro hS (And.intro hsuc (show Lf + L ≤ 4294967296 + 65535 by omega)))))))))
          have km : (j : Int) < (l : Int) := by omega
          have HR := Lib.hid (show R64 (j : Int) from by unfold R64; omega)
          obtain ⟨c0, c1, c2, c3, c4⟩ := cells5 hM.1
          clear ho hf hM hlt hLf hL hS hsuc hjl hLb hLc hjb hj
          go_wp2_with fail
          refine (rpart_any HK.out.2.2.1.2.1 HR.out).mono ?_
          rintro e w4 ⟨rfl, hb4⟩
          rw [HK.out.2.2.2.2.2.2.1]
          have hM4 := HK.out.2.2.1.below hb4
          have ho4 := own_below HK.out.1 hb4
          obtain ⟨a, off, B, c, rfl, ha, cx, hr, _, _⟩ := (HSy.out.below hM4.2.2).at_ HK.out.2.2.2.1
          rw [HK.out.2.2.2.2.2.1] at cx hr
          have H4 := Lib.hid (And.intro hM4 (And.intro ho4 hr))
          clear c0 c1 c2 c3 c4 hM4 ho4 hr ha hb4
          cases hne : ((L : Int) != S) with
          | true =>
            have hE : jyE ⟨z, s, k, d, t⟩ xss = 2 := by
              unfold jyE
              rw [if_neg]
              rintro ⟨_, _, h⟩
              rw [fitB_of (k := j) (by rw [H1.out.2.2.2.2]; exact HK.out.2.2.2.1) (by rw [HK.out.2.2.2.2.2.1, HK.out.2.2.2.2.2.2.1]; intro e; rw [e] at hne; simp at hne)] at h
              cases h
            have HE2 := Lib.hid hE
            clear hE
            go_wp2
            go_ret2
            rw [jy_no HE2.out (by decide), HE2.out]
            exact ⟨_, rfl, World.ownsRow_nil _ _ _ _, H4.out.1.2.2⟩
          | false =>
            have hLS : (L : Int) = S := by simpa using hne
            have HLS := Lib.hid hLS
            clear hLS
            go_wp2_with (at_builtin; refine wpList_append_rd _ rfl (.tmp 41) (.tmp 45) _ rfl w.heap.size 5 j0 _ 1 1 Try.underlying32 hj0 ha0 ha1 ha2 rfl (by omega) _ Lf (bys (xss.take j).flatten) rfl H4.out.2.1 B L c (bys (xss.getD j [])) rfl (by rw [Nat.mul_one]; exact H4.out.2.2) (bys_one _) (by simp only [maxLen]; have := HK.out.2.2.2.2.2.2.2.2; omega) (by have := HK.out.2.2.2.2.2.2.2.2; omega) H4.out.1.2.2.size ?_; intro v6 w6 hown6 hg6 hat6)
            refine ⟨⟨j + 1, by have := HK.out.2.2.2.1; omega, by go_num, ?_, ?_, ?_⟩, by have := HK.out.2.2.2.1; simp [intOf]; omega⟩
            · rw [HK.out.2.2.2.2.2.2.2.1, List.length_append, bys_append, HK.out.2.2.2.2.1, HK.out.2.2.2.2.2.1]; exact hown6
            · rw [fitB_succ, HK.out.2.1, HK.out.2.2.2.2.2.1, HK.out.2.2.2.2.2.2.1]; simp [HLS.out]
            · have hc : Chg (fun b => (Value.slice Av Lf cv).ownBlock = some b) w4 w6 := Chg.of_grown hg6 fun k e => e
              have hb6 := H4.out.1.2.2.grown hg6 H4.out.1.2.2.size (fun k e => (H4.out.2.1.lt k e).1)
              exact ⟨hc.bk H4.out.1.1 (bk_apart H4.out.1.1 H4.out.2.1 (by decide)), H0.out.below hb6, hb6⟩
        · obtain rfl : j = l := by omega
          have hE : jyE ⟨z, s, k, d, t⟩ xss = 0 := by
            unfold jyE
            rw [if_pos ⟨HQ.out.1, by rw [H1.out.2.2.2.2, HN.out]; exact HQ.out.2, by rw [H1.out.2.2.2.2]; exact hf⟩]
          have hV : (xss.take j).flatten = jyV ⟨z, s, k, d, t⟩ xss := by
            unfold jyV
            rw [if_pos hE, List.take_of_length_le (by rw [H1.out.2.2.2.2]; exact Nat.le_refl _)]
          rw [hV] at ho
          have HE2 := Lib.hid hE
          have HK := Lib.hid (And.intro ho hM)
          clear hE hV ho hM hf hlt hj
          go_wp2
          go_ret2
          rw [HE2.out]
          exact ⟨_, rfl, HK.out.1, HK.out.2.2.2⟩
end
end Go.Proofs.Ytchdjbbhhjjmkaa
