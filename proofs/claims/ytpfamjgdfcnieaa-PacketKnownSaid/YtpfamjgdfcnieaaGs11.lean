/- Chapter 11: PacketGets' walk. -/
import Derived.Test.YtpfamjgdfcnieaaNe11
namespace Go.Proofs.Ytpfamjgdfcnieaa
open Go.RowKit
set_option linter.unusedVariables false
/-- What was handed in, and lent. -/
def GS (w wx : World) (A : Option Addr) (n : Nat) (b : List UInt8) (A3 : Option Addr) (m : Nat) : Prop := Rd wx A n (bys b) ∧ Rd wx A3 (n + 4) (bys (b ++ spare)) ∧ (∀ a, A = some a → 0 < n → a.block < m) ∧ (∀ a, A3 = some a → a.block < m) ∧ m ≤ wx.heap.size ∧ Below w.heap.size w wx
section
variable {w wx wy : World} {A A3 : Option Addr} {n m : Nat} {b : List UInt8}
theorem GS.below (h : GS w wx A n b A3 m) (hb : Below wx.heap.size wx wy) : GS w wy A n b A3 m :=
  ⟨h.1.below hb, h.2.1.below hb, h.2.2.1, h.2.2.2.1, Nat.le_trans h.2.2.2.2.1 hb.size, below_base h.2.2.2.2.2 hb h.2.2.2.2.2.size⟩
theorem GS.over {B : Nat} (h : GS w wx A n b A3 m) (hc : Chg (fun k => B ≤ k) wx wy) (hB : m ≤ B) (hw : w.heap.size ≤ B) : GS w wy A n b A3 m := by
  refine ⟨?_, hc.rd h.2.1 (fun a ha (e : B ≤ a.block) => by have := h.2.2.2.1 a ha; omega), h.2.2.1, h.2.2.2.1, Nat.le_trans h.2.2.2.2.1 hc.size, hc.below h.2.2.2.2.2 (fun k _ hk => Nat.le_trans hw hk) h.2.2.2.2.2.size⟩
  rcases Nat.eq_zero_or_pos n with h0 | h0
  · subst h0; exact ⟨h.1.1, fun hh => absurd hh (Nat.lt_irrefl _)⟩
  · exact hc.rd h.1 (fun a ha (e : B ≤ a.block) => by have := h.2.2.1 a ha h0; omega)
end
set_option maxRecDepth 100000 in
set_option maxHeartbeats 3200000 in
theorem packetGets_walk {w : World} {A : Option Addr} {n c : Nat} {b : List UInt8} (h : Rd w A n (bys b) ∧ n ≤ c ∧ n ≤ 140737488351232) :
    Calls Try.prog 4 #[.slice A n c] w fun e w' => e = .returned (.bool true) ∧ Below w.heap.size w w' := by
  obtain ⟨hr, hc, hn⟩ := h
  have hn' : (n : Int) ≤ 140737488351232 := by omega
  have hbl : b.length = n := by have := hr.1; simpa [bys_length] using this
  have H := Lib.hid (And.intro hr hbl)
  by_cases hbig : 3000 < n
  · have d1 : decide ((n : Int) > 3000) = true := by simp; omega
    have d2 : decide (3000 < (n : Int)) = true := by simp; omega
    have d3 : decide (3000 < n) = true := by simp; omega
    clear hr hbl hbig
    go_enter Try.func4, Try.ntmps4
    go_wp2_with fail
    refine awake_any.mono ?_
    rintro e w2 ⟨rfl, hb2⟩
    have HB := Lib.hid hb2
    clear hb2
    go_wp2
    go_ret
    exact ⟨rfl, HB.out⟩
  · have d1 : decide ((n : Int) > 3000) = false := by simp; omega
    have d2 : decide (3000 < (n : Int)) = false := by simp; omega
    have d3 : decide (3000 < n) = false := by simp; omega
    have hn3 : n ≤ 3000 := by omega
    clear hr hbl hbig
    go_enter Try.func4, Try.ntmps4
    go_wp2_with fail
    refine (lent_any H.out.1 (by omega)).mono ?_
    rintro e w3 ⟨A3, c3, rfl, hc3, ho3, hb3⟩
    have hg3 : GS w w3 A n b A3 w3.heap.size := ⟨H.out.1.below hb3, Rd.of_own ho3, fun a ha h0 => (H.out.1.below hb3).lt h0 a ha, fun a ha => (own_ge ho3 a ha).2, Nat.le_refl _, hb3⟩
    have hm3 : w.heap.size ≤ w3.heap.size := hb3.size
    obtain ⟨M, hM⟩ : ∃ M, w3.heap.size = M := ⟨_, rfl⟩
    rw [hM] at hg3 hm3
    have HM := Lib.hid (And.intro hM hm3)
    have hr3 : Rd w3 A3 n (bys b) := by
      have := hg3.2.1.take_ (k := n) (by omega)
      rw [bys_take, List.take_append_of_le_length (by rw [H.out.2]; exact Nat.le_refl _), List.take_of_length_le (by rw [H.out.2]; exact Nat.le_refl _)] at this
      exact this
    have H3 := Lib.hid (And.intro hg3 hr3)
    clear ho3 hb3 hg3 hr3 hM hm3
    go_wp2_with fail
    refine (pget_any H3.out.2 (by omega) (by omega)).mono ?_
    obtain ⟨P, hP⟩ : ∃ P, geP b = P := ⟨_, rfl⟩
    obtain ⟨E, hE⟩ : ∃ E, geE b = E := ⟨_, rfl⟩
    rw [hP, hE]
    rintro e w4 ⟨A4, n4, c4, g4, rfl, hc4, hd4, hm4, hg4, hb4⟩
    have hpa4 : PA w4 A4 n4 c4 P := by rw [← hP]; exact ge_pa (by rw [hP]; exact hm4) hc4 (by rw [hP]; exact hd4) (by rw [H.out.2]; omega)
    have HPE := Lib.hid (And.intro hP hE)
    clear hP hE
    obtain ⟨kd, ses, blk, id, rsn, dat⟩ := P
    rw [pv_mk]
    have hb5 := (Below.refl w4.heap.size w4).alloc (Nat.le_refl _) (.cells #[.int .i64 kd, .int .i64 ses, .int .i64 blk, .int .i64 id, .int .i64 rsn, .slice A4 n4 c4] 24)
    obtain ⟨w5, hw5⟩ : ∃ w5, w5 = w4.alloc (.cells #[.int .i64 kd, .int .i64 ses, .int .i64 blk, .int .i64 id, .int .i64 rsn, .slice A4 n4 c4] 24) := ⟨_, rfl⟩
    have hz5 : Bk w5 w4.heap.size 24 [.int .i64 kd, .int .i64 ses, .int .i64 blk, .int .i64 id, .int .i64 rsn, .slice A4 n4 c4] := by rw [hw5]; exact Bk.newA w4 _ _
    rw [← hw5] at hb5
    have hg4' : M ≤ g4 := by rw [← HM.out.1]; exact hg4
    have H5 := Lib.hid (And.intro ((H3.out.1.below hb4).below hb5) (And.intro hz5 (And.intro (hpa4.below hb5) (And.intro (hm4.below hb5) hg4'))))
    have HD := Lib.hid (And.intro hd4 hc4)
    clear hc4 hd4 hm4 hg4 hb4 hpa4 hb5 hz5 hg4'
    go_upto_region 5 with fail
    rw [← hw5]
    clear hw5
    generalize w4.heap.size = K5 at H5 ⊢
    go_wp2_with fail
    refine (rpget_any H5.out.1.1 (by omega) hc).mono ?_
    rw [HPE.out.1, HPE.out.2]
    rintro e w6 ⟨A6, n6, c6, g6, rfl, hc6, hd6, hm6, hg6, hb6⟩
    have hpa6 : PA w6 A6 n6 c6 ⟨kd, ses, blk, id, rsn, dat⟩ := by rw [← HPE.out.1]; exact ge_pa (by rw [HPE.out.1]; exact hm6) hc6 (by rw [HPE.out.1]; exact hd6) (by rw [H.out.2]; omega)
    rw [pv_mk]
    have hb7 := (Below.refl w6.heap.size w6).alloc (Nat.le_refl _) (.cells #[.int .i64 kd, .int .i64 ses, .int .i64 blk, .int .i64 id, .int .i64 rsn, .slice A6 n6 c6] 24)
    obtain ⟨w7, hw7⟩ : ∃ w7, w7 = w6.alloc (.cells #[.int .i64 kd, .int .i64 ses, .int .i64 blk, .int .i64 id, .int .i64 rsn, .slice A6 n6 c6] 24) := ⟨_, rfl⟩
    have hz7 : Bk w7 w6.heap.size 24 [.int .i64 kd, .int .i64 ses, .int .i64 blk, .int .i64 id, .int .i64 rsn, .slice A6 n6 c6] := by rw [hw7]; exact Bk.newA w6 _ _
    rw [← hw7] at hb7
    have hbb := below_base hb6 hb7 hb6.size
    have H7 := Lib.hid (And.intro (H5.out.1.below hbb) (And.intro (H5.out.2.1.belowS hbb) (And.intro (H5.out.2.2.1.below hbb) (And.intro (H5.out.2.2.2.1.below hbb) (And.intro hz7 (hpa6.below hb7))))))
    clear hc6 hd6 hm6 hg6 hb6 hpa6 hb7 hz7 hbb
    go_upto_region 6 with fail
    rw [← hw7]
    clear hw7
    generalize w6.heap.size = K7 at H7 ⊢
    obtain ⟨c0, c1, c2, c3', c4', c5⟩ := cells6 H7.out.2.1
    obtain ⟨e0, e1, e2, e3, e4, e5⟩ := cells6 H7.out.2.2.2.2.1
    go_wp2_with fail
    refine (sameP_any (p := ⟨kd, ses, blk, id, rsn, dat⟩) (p' := ⟨kd, ses, blk, id, rsn, dat⟩) H7.out.2.2.1 H7.out.2.2.2.2.2).mono ?_
    rintro e w8 ⟨rfl, hb8⟩
    rw [psame_refl]
    have H8 := Lib.hid (And.intro (H7.out.1.below hb8) (And.intro (H7.out.2.1.belowS hb8) (H7.out.2.2.2.1.below hb8)))
    clear hb8 c0 c1 c2 c3' c4' c5 e0 e1 e2 e3 e4 e5
    have c5 := H8.out.2.1.cell 5
    go_wp2_with fail
    refine (overB_mut H8.out.2.2 H5.out.2.2.2.2 (by have := H5.out.2.2.1.2.2.1; omega)).mono ?_
    rintro e w9 ⟨rfl, hc9⟩
    have H9 := Lib.hid (H8.out.1.over hc9 (Nat.le_refl _) HM.out.2)
    clear hc9 c5
    go_wp2_with fail
    refine (kept_any H9.out.2.1 H9.out.1 (by omega) hc3).mono ?_
    rintro e w10 ⟨rfl, hb10⟩
    have H10 := Lib.hid (H9.out.below hb10)
    clear hb10
    go_wp2_with fail
    refine awake_any.mono ?_
    rintro e w11 ⟨rfl, hb11⟩
    have H11 := Lib.hid (H10.out.below hb11)
    clear hb11
    go_wp2
    go_ret
    exact ⟨rfl, H11.out.2.2.2.2.2⟩
end Go.Proofs.Ytpfamjgdfcnieaa
