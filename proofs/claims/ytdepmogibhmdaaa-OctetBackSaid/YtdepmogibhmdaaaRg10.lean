/- The document's readers: Get, Rest, End, NewReader. -/
import Derived.Test.YtdepmogibhmdaaaRf10
namespace Go.Proofs.Ytdepmogibhmdaaa
open Go.RowKit
set_option linter.unusedVariables false
theorem RS.get_no {s : RS} {n : Int} (h : wid n = false) : s.get n = (0, (s.take n false).2) := by
  have e : (s.take n false).1 = [] := by
    rcases RS.take_len s n false with e | ⟨e, _⟩
    · exact e
    · cases e
  unfold RS.get
  rw [h, e, if_neg (by simp [be])]
  simp [be]
theorem be_add (a : Nat) (b : UInt8) (h : a < 72057594037927936) : IntKind.u64.wrap (IntKind.u64.wrap (256 * (a : Int)) + IntKind.u64.wrap (b.toNat : Int)) = ((256 * a + b.toNat : Nat) : Int) := by
  have hb := b.toNat_lt
  rw [IntKind.wrap_u64, IntKind.wrap_u64, IntKind.wrap_u64]
  omega
def GfPost (w : World) (P : Nat) (A : Option Addr) (c : Nat) (r : Int × RS) (e : Ending) (w' : World) : Prop :=
  e = .returned (.int .i64 r.1) ∧ Rf w' P A c r.2 ∧ Chg (fun k => k = P) w w'
set_option maxRecDepth 100000 in
set_option maxHeartbeats 2000000 in
/-- Get -/
theorem getF_any {w : World} {P : Nat} {A : Option Addr} {c : Nat} {s : RS} (h : Rf w P A c s) (n : Int) :
    Calls Try.prog 24 #[.pointer (some ⟨P, 0, none⟩), .int .i64 n] w (GfPost w P A c (s.get n)) := by
  have H := Lib.hid h
  have c1 := h.1.cell 1
  clear h
  cases hw : wid n with
  | false =>
    have HG := Lib.hid (RS.get_no (s := s) hw)
    have HW := Lib.hid hw
    clear hw
    go_enter Try.func24, Try.ntmps24
    go_wp2_with fail
    refine (refWidth_any n).mono ?_
    rintro e w1 ⟨rfl, rfl⟩
    rw [HW.out]
    go_wp2_with fail
    by_cases he : s.e = 0
    · refine (fails_first H.out he 2 s.p).mono ?_
      rintro e w1 ⟨rfl, h9, h10⟩
      have H9 := Lib.hid (And.intro h9 h10)
      have HE := Lib.hid he
      clear h9 h10 he
      go_wp2
      go_ret
      rw [HG.out, RS.take_no HE.out (.inl rfl)]
      exact ⟨rfl, H9.out.1, H9.out.2⟩
    · refine (fails_not H.out he 2 s.p).mono ?_
      rintro e w1 ⟨rfl, rfl⟩
      have HE := Lib.hid he
      clear he
      go_wp2
      go_ret
      rw [HG.out, RS.take_e HE.out]
      exact ⟨rfl, H.out, Chg.refl _ _⟩
  | true =>
    have HW := Lib.hid hw
    clear hw
    go_enter Try.func24, Try.ntmps24
    go_wp2_with fail
    refine (refWidth_any n).mono ?_
    rintro e w1 ⟨rfl, rfl⟩
    rw [HW.out]
    go_wp2_with fail
    refine (rawF_any H.out n).mono ?_
    rintro e w1 ⟨v, rfl, hown, hro, hch⟩
    have hlen := RS.take_len s n true
    obtain ⟨r, hr⟩ : ∃ r, s.take n true = r := ⟨_, rfl⟩
    rw [hr] at hown hro hlen
    obtain ⟨B, d, rfl, hd, _, hl, _⟩ := own_form hown
    have hrd := Rd.of_own hown
    have HR := Lib.hid (And.intro hr (And.intro hro (And.intro hch (And.intro hrd hlen))))
    obtain ⟨m, hm⟩ : ∃ m, r.1.length = m := ⟨_, rfl⟩
    rw [hm] at hd ⊢
    have hm8 : m ≤ 8 := by
      rcases hlen with e | ⟨e1, e2, e3, _⟩
      · rw [e] at hm; simp at hm; omega
      · have := HW.out; rw [wid_iff] at this; omega
    have HM := Lib.hid hm
    clear hr hown hro hch hrd hlen hl hm
    go_wp2
    go_loopw [7, 8] (fun x i wr => ∃ k : Nat, k ≤ m ∧ i = .int .i64 k ∧ x = .int .u64 (be (r.1.take k) : Nat) ∧ Below w1.heap.size w1 wr) (fun x i wr => m - (intOf i).toNat)
    case atStart => exact ⟨0, by omega, rfl, by simp [be], Below.refl _ _⟩
    case round =>
      obtain ⟨k, hk, rfl, rfl, hbl⟩ := hrel
      have hrd := HR.out.2.2.2.1.below hbl
      by_cases hlt : k < m
      · have hkl : k < r.1.length := by rw [HM.out]; exact hlt
        obtain ⟨b, off, rfl, hb0, hcc⟩ := hrd.form (by omega)
        have cx := hcc k _ (bys_get _ _ hkl)
        have km : (k : Int) < (m : Int) := by omega
        have hbe : be (r.1.take k) < 256 ^ 7 := by
          have h1 := be_lt k (r.1.take k) (by simp; omega)
          have h2 : 256 ^ k ≤ 256 ^ 7 := Nat.pow_le_pow_right (by omega) (by omega)
          omega
        have hj := be_add (be (r.1.take k)) r.1[k] (by omega)
        rw [← be_take_succ hkl] at hj
        have HJ := Lib.hid (And.intro hj (And.intro hlt hbl))
        clear hj hcc hrd hb0 hbe hbl
        go_wp2
        rw [HJ.out.1]
        exact ⟨⟨k + 1, by have := HJ.out.2.1; omega, by go_num, rfl, HJ.out.2.2⟩, by have := HJ.out.2.1; simp [intOf]; omega⟩
      · obtain rfl : k = m := by omega
        rw [show r.1.take k = r.1 from List.take_of_length_le (by rw [HM.out]; exact Nat.le_refl _)]
        have hro := HR.out.2.1.below hbl
        have H3 := Lib.hid (And.intro hro ((HR.out.2.2.1.trans (Chg.of_below (S := fun k => k = P) hbl) fun _ _ x => x)))
        obtain ⟨N, hN⟩ : ∃ N, be r.1 = N := ⟨_, rfl⟩
        rw [hN]
        clear hrd hlt hk hbl
        by_cases hbig : 9223372036854775808 ≤ N
        · have d1 : decide ((N : Int) ≥ 9223372036854775808) = true := by simp; omega
          have d2 : decide ((9223372036854775808 : Int) ≤ (N : Int)) = true := by simp; omega
          have d3 : decide (9223372036854775808 ≤ N) = true := by simpa using hbig
          rcases HR.out.2.2.2.2 with e | ⟨e1, e2, e3, e4, e5⟩
          · rw [e] at hN; simp [be] at hN; omega
          · obtain rfl : n = (k : Int) := by have := HM.out; omega
            have hp2 : r.2.p - k = s.p := by rw [e4]; show s.p + (k : Int).toNat - k = s.p; omega
            have hg : s.get (k : Int) = (0, ⟨r.2.l, s.p, 3, (s.p : Int)⟩) := by
              unfold RS.get
              rw [HW.out, HR.out.1, hN, if_pos hbig, Int.toNat_natCast, hp2]
            have he0 : r.2.e = 0 := by
              rw [e4]
              show s.e = 0
              by_cases he : s.e = 0
              · exact he
              · have := HR.out.1
                rw [RS.take_e he] at this
                rw [← this] at hN
                simp [be] at hN; omega
            have hsp : s.p ≤ r.2.l.length := by rw [e4]; exact H.out.2.2.1
            have HG := Lib.hid (And.intro hg (And.intro he0 hsp))
            clear e1 e2 e3 e4 e5 hro hbig hN hg he0 hp2 hsp
            go_wp2_with fail
            refine (fails_first H3.out.1 HG.out.2.1 3 s.p).mono ?_
            rintro e w3 ⟨rfl, h9, h10⟩
            have hst := h9.step s.p HG.out.2.2
            have c1 := h9.1.cell 1
            have f1 := h9.1.frozen 1
            have H9 := Lib.hid (And.intro hst.1 ((H3.out.2.trans h10 fun _ _ x => x).trans hst.2 fun _ _ x => x))
            clear h9 h10 hst
            go_wp2
            go_ret
            rw [HG.out.1]
            exact ⟨rfl, H9.out.1, H9.out.2⟩
        · have d1 : decide ((N : Int) ≥ 9223372036854775808) = false := by simp; omega
          have d2 : decide ((9223372036854775808 : Int) ≤ (N : Int)) = false := by simp; omega
          have d3 : decide (9223372036854775808 ≤ N) = false := by simpa using hbig
          have hg : s.get n = ((N : Int), r.2) := by
            unfold RS.get
            rw [HW.out, HR.out.1, hN, if_neg hbig]
          have hN63 : (N : Int) ≤ 9223372036854775807 := by omega
          have HG := Lib.hid hg
          clear hg hro hN hbig
          go_wp2
          go_ret
          rw [HG.out]
          exact ⟨rfl, H3.out.1, H3.out.2⟩
/-- Rest -/
theorem restF_any {w : World} {P : Nat} {A : Option Addr} {c : Nat} {s : RS} (h : Rf w P A c s) :
    Calls Try.prog 26 #[.pointer (some ⟨P, 0, none⟩)] w fun e w' => e = .returned (.int .i64 s.rest) ∧ Below w.heap.size w w' := by
  have H := Lib.hid h
  have c0 := h.1.cell 0
  have c1 := h.1.cell 1
  have c2 := h.1.cell 2
  have hP := h.2.2.1
  have hL := h.2.2.2.2.1
  clear h
  by_cases he : s.e = 0
  · rw [he] at c2
    have HE := Lib.hid (show s.rest = (s.l.length : Int) - s.p from by unfold RS.rest; rw [if_neg (by simpa using he)])
    clear he
    obtain ⟨L, hLL⟩ : ∃ L, s.l.length = L := ⟨_, rfl⟩
    obtain ⟨p, hp⟩ : ∃ p, s.p = p := ⟨_, rfl⟩
    rw [hLL] at c0 hP hL HE
    rw [hp] at c1 hP HE
    clear hLL hp
    go_enter Try.func26, Try.ntmps26
    go_wp2_with fail
    go_quiet (fail)
    go_wp2
    go_ret
    exact ⟨ret_int HE.out.symm, below_dN (Below.refl _ _) _⟩
  · have d1 : (s.e != 0) = true := by simpa using he
    have HE := Lib.hid (show s.rest = 0 from by unfold RS.rest; rw [if_pos (by simpa using he)])
    clear he
    go_enter Try.func26, Try.ntmps26
    go_wp2
    go_ret
    exact ⟨ret_int HE.out.symm, Below.refl _ _⟩
set_option maxRecDepth 100000 in
set_option maxHeartbeats 2000000 in
/-- End -/
theorem endF_any {w : World} {P : Nat} {A : Option Addr} {c : Nat} {s : RS} (h : Rf w P A c s) :
    Calls Try.prog 28 #[.pointer (some ⟨P, 0, none⟩)] w fun e w' => e = .returned (.agg #[.int .i64 s.fin.1, .int .i64 s.fin.2]) ∧ Below w.heap.size w w' := by
  have hb := (Below.refl w.heap.size w).alloc (Nat.le_refl _) (.cells #[.int .i64 0, .int .i64 0] 50)
  have hn := Bk.newA w 50 #[.int .i64 0, .int .i64 0]
  have H := Lib.hid (And.intro (h.below hb) (And.intro hb hn))
  have c0 := (h.below hb).1.cell 0
  have c1 := (h.below hb).1.cell 1
  have c2 := (h.below hb).1.cell 2
  have c3 := (h.below hb).1.cell 3
  have g0 := hn.cell 0
  have g1 := hn.cell 1
  have e0 := hn.frozen 0
  have e1 := hn.frozen 1
  have hP := h.2.2.1
  have hL := h.2.2.2.2.1
  have hne : P ≠ w.heap.size := by have := h.1.lt; omega
  clear h hn hb
  by_cases he : s.e = 0
  · rw [he] at c2
    obtain ⟨L, hLL⟩ : ∃ L, s.l.length = L := ⟨_, rfl⟩
    obtain ⟨p, hp⟩ : ∃ p, s.p = p := ⟨_, rfl⟩
    rw [hLL] at c0 hP hL
    rw [hp] at c1 hP
    by_cases hlt : p < L
    · have HF := Lib.hid (show s.fin = (4, (p : Int)) from by unfold RS.fin; rw [if_pos ⟨he, by omega⟩, hp])
      have km : (p : Int) < (L : Int) := by omega
      clear hLL hp he hlt
      go_enter Try.func28, Try.ntmps28
      go_wp2_with fail
      go_quiet (fail)
      go_wp2
      refine ret_fault rfl rfl rfl (((H.out.2.2.drewN nq).set_ 0 (.int .i64 4)).set_ 1 (.int .i64 p)) ⟨agg2p HF.out, ?_⟩
      exact ((below_dN H.out.2.1 nq).setCell (Nat.le_refl _) _).setCell (Nat.le_refl _) _
    · have HF := Lib.hid (show s.fin = (0, s.f) from by unfold RS.fin; rw [if_neg (fun h => hlt (by have := h.2; omega)), he])
      have km : decide ((p : Int) < (L : Int)) = false := by simp; omega
      have kn : decide (p < L) = false := by simpa using hlt
      clear hLL hp he hlt
      go_enter Try.func28, Try.ntmps28
      go_wp2_with fail
      go_quiet (fail)
      go_wp2
      refine ret_fault rfl rfl rfl (((H.out.2.2.drewN nq).set_ 0 (.int .i64 0)).set_ 1 (.int .i64 s.f)) ⟨agg2p HF.out, ?_⟩
      exact ((below_dN H.out.2.1 nq).setCell (Nat.le_refl _) _).setCell (Nat.le_refl _) _
  · have d1 : (s.e == 0) = false := by simpa using he
    have HF := Lib.hid (show s.fin = (s.e, s.f) from by unfold RS.fin; rw [if_neg (fun h => he h.1)])
    clear he
    go_enter Try.func28, Try.ntmps28
    go_wp2_with fail
    go_quiet (fail)
    go_wp2
    refine ret_fault rfl rfl rfl (((H.out.2.2.drewN nq).set_ 0 (.int .i64 s.e)).set_ 1 (.int .i64 s.f)) ⟨agg2p HF.out, ?_⟩
    exact ((below_dN H.out.2.1 nq).setCell (Nat.le_refl _) _).setCell (Nat.le_refl _) _
/-- NewReader -/
theorem newF_any {w : World} {A : Option Addr} {n c : Nat} {l : List UInt8} (h : Rd w A n (bys l)) (hn : n ≤ 140737488351232) :
    Calls Try.prog 20 #[.slice A n c] w fun e w' => ∃ P B d, e = .returned (.pointer (some ⟨P, 0, none⟩)) ∧ Rf w' P B d ⟨l, 0, 0, 0⟩ ∧ Below w.heap.size w w' ∧ w.heap.size ≤ P ∧ (∀ a, B = some a → w.heap.size ≤ a.block ∧ a.block < w'.heap.size) := by
  have H := Lib.hid (And.intro h hn)
  have hl : l.length = n := by have := h.1; simpa [bys_length] using this
  obtain ⟨i0, hi0, hz0, hz1, hz2⟩ := info_parts u8_info
  go_enter Try.func20, Try.ntmps20
  go_wp2_with (at_builtin; refine wpList_append_rd _ rfl (.tmp 3) (.tmp 4) _ rfl w.heap.size 5 i0 _ 1 1 Try.underlying32 hi0 hz0 hz1 hz2 rfl (by omega) _ 0 [] rfl (own_new0 w _ _ (Nat.le_refl _)) A n c (bys l) rfl (by simpa using h.alloc _) (bys_one l) (by simp only [maxLen]; omega) (by omega) (by simp) ?_; intro v1 w1 hown1 hg1 hat1; rw [Nat.zero_add, List.nil_append] at hown1; obtain ⟨B, d, rfl, hd, hd2, _, hB⟩ := own_form hown1; have hb := ((Below.refl w.heap.size w).alloc (Nat.le_refl _) (.cells #[] 5)).grown hg1 (by simp) (fun k hk => ((own_new0 w 5 _ (Nat.le_refl _)).lt k hk).1); have HN := Lib.hid (And.intro hd (And.intro hd2 (And.intro (Rd.of_own hown1) (And.intro (own_ge hown1) (And.intro hb hl))))); clear hown1 hg1 hat1 hd hd2 hB hb)
  go_ret
  obtain ⟨hd, hd2, hrd, hge, hb, hl⟩ := HN.out
  have hsz := hb.size
  refine ⟨w1.heap.size, B, d, rfl, ⟨?_, ?_, ?_⟩, hb.alloc hsz _, hsz, fun a ha => ⟨(hge a ha).1, by have := (hge a ha).2; rw [World.size_alloc]; omega⟩⟩
  · show Bk _ _ _ [.slice B l.length d, _, _, _]
    rw [hl]
    exact Bk.newA _ _ _
  · show Rd _ B l.length (bys l)
    rw [hl]
    exact hrd.alloc _
  · exact ⟨Nat.zero_le _, by show l.length ≤ d; omega, by show l.length ≤ _; rw [hl]; exact H.out.2, fun a ha => by have := (hge a ha).2; omega⟩
end Go.Proofs.Ytdepmogibhmdaaa
