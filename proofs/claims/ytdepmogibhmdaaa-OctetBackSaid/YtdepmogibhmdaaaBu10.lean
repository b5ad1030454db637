/- The document's writers: Put, Bytes, NewWriter. -/
import Derived.Test.YtdepmogibhmdaaaBt10
namespace Go.Proofs.Ytdepmogibhmdaaa
open Go.RowKit
set_option linter.unusedVariables false
/-- Bytes -/
theorem bytesF_any {w : World} {base P c : Nat} {A : Option Addr} {s : WS} (h : Wf w base P A c s) :
    Calls Try.prog 14 #[.pointer (some ⟨P, 0, none⟩)] w (BtPost w s) := by
  have H := Lib.hid h
  have c1 := (h.1.alloc (.cells #[] 5)).cell 1
  have c2 := h.1.cell 2
  have hr := Rd.of_own h.2.1
  have hl : s.b.length ≤ 100000 := by have := h.2.2.2.2.2; omega
  obtain ⟨L, hL⟩ : ∃ L, s.b.length = L := ⟨_, rfl⟩
  rw [hL] at c1 hr hl
  clear h
  by_cases he : s.e = 0
  · rw [he] at c2
    have HE := Lib.hid (And.intro he (show s.out = s.b from by unfold WS.out; rw [if_pos he]))
    clear he
    obtain ⟨i0, hi0, hz0, hz1, hz2⟩ := info_parts u8_info
    go_enter Try.func14, Try.ntmps14
    go_wp2_with (at_builtin; refine wpList_append_rd _ rfl (.tmp 13) (.tmp 17) _ rfl w.heap.size 5 i0 _ 1 1 Try.underlying32 hi0 hz0 hz1 hz2 rfl (by omega) _ 0 [] rfl (own_new0 w _ _ (Nat.le_refl _)) A L c (bys s.b) rfl (by rw [Nat.mul_one]; exact hr.alloc _) (bys_one _) (by simp only [maxLen]; omega) (by omega) (by simp) ?_; intro v1 w1 hown1 hg1 hat1; rw [Nat.zero_add, List.nil_append] at hown1; have hb := ((Below.refl w.heap.size w).alloc (Nat.le_refl _) (.cells #[] 5)).grown hg1 (by simp) (fun k hk => ((own_new0 w 5 _ (Nat.le_refl _)).lt k hk).1); have HN := Lib.hid (And.intro hown1 hb); clear hown1 hg1 hat1 hb)
    go_ret2
    exact ⟨v1, by rw [HE.out.1]; rfl, by rw [HE.out.2, hL]; exact HN.out.1, HN.out.2⟩
  · have d1 : (s.e != 0) = true := by simpa using he
    have HE := Lib.hid (show s.out = [] from by unfold WS.out; rw [if_neg he])
    clear he
    go_enter Try.func14, Try.ntmps14
    go_wp2_with fail
    go_quiet (fail)
    go_wp2
    go_ret2
    exact ⟨_, rfl, by rw [HE.out]; exact World.ownsRow_nil _ _ _ _, below_dN (Below.refl _ _) _⟩
def NfPost (w : World) (m : Int) (e : Ending) (w' : World) : Prop :=
  if m < 0 ∨ 100000 < m then e = .returned (.tuple #[.pointer none, .int .i64 2]) ∧ w' = w
  else ∃ P, e = .returned (.tuple #[.pointer (some ⟨P, 0, none⟩), .int .i64 0]) ∧ Wf w' w.heap.size P none 0 ⟨m, [], 0⟩ ∧ w.heap.size ≤ P ∧ Below w.heap.size w w'
theorem nf_no {w : World} {m : Int} (h : m < 0 ∨ 100000 < m) : NfPost w m (.returned (.tuple #[.pointer none, .int .i64 2])) w := by unfold NfPost; rw [if_pos h]; exact ⟨rfl, rfl⟩
/-- NewWriter -/
theorem newWf_any {w : World} (m : Int) : Calls Try.prog 10 #[.int .i64 m] w (NfPost w m) := by
  by_cases h0 : m < 0
  · have d1 : decide (m < 0) = true := by simpa using h0
    have HN := Lib.hid (nf_no (w := w) (.inl h0))
    clear h0
    go_enter Try.func10, Try.ntmps10
    go_wp2
    go_ret2
    exact HN.out
  · have d1 : decide (m < 0) = false := by simpa using h0
    by_cases h1 : 100000 < m
    · have d2 : decide (m > 100000) = true := by simpa using h1
      have d3 : decide (100000 < m) = true := by simpa using h1
      have HN := Lib.hid (nf_no (w := w) (.inr h1))
      clear h0 h1
      go_enter Try.func10, Try.ntmps10
      go_wp2
      go_ret2
      exact HN.out
    · have d2 : decide (m > 100000) = false := by simpa using h1
      have d3 : decide (100000 < m) = false := by simpa using h1
      have HN := Lib.hid (And.intro h0 h1)
      clear h0 h1
      go_enter Try.func10, Try.ntmps10
      go_wp2
      go_ret2
      unfold NfPost
      rw [if_neg (by have := HN.out; omega)]
      have hb := (Below.refl w.heap.size w).alloc (Nat.le_refl _) (.cells #[.int .i64 m, .slice none 0 0, .int .i64 0] 69)
      exact ⟨w.heap.size, rfl, ⟨Bk.newA w _ _, World.ownsRow_nil _ _ _ _, fun a ha => (by cases ha), hb.size, by have := HN.out; show 0 ≤ m; omega, by have := HN.out; show m ≤ 100000; omega, by have := HN.out; show ((([] : List UInt8).length : Nat) : Int) ≤ m; simp; omega⟩, Nat.le_refl _, hb⟩
theorem bebs_get (n : Int) {wd k : Nat} (h0 : 0 < k) (hk : k ≤ wd) : (bebs wd n).take (wd - (k - 1)) = (bebs wd n).take (wd - k) ++ [byt n (k - 1)] := by
  have h1 : wd - k < (bebs wd n).length := by rw [bebs_length]; omega
  rw [show wd - (k - 1) = (wd - k) + 1 from by omega, List.take_succ_eq_append_getElem h1]
  congr 2
  simp only [bebs, List.getElem_map, List.getElem_range]
  congr 1
  omega
theorem pow_le32 {wd : Nat} (h : wd = 1 ∨ wd = 2 ∨ wd = 4) : (1 : Int) ≤ 2 ^ (8 * wd) ∧ (2 : Int) ^ (8 * wd) ≤ 4294967296 := by
  rcases h with rfl | rfl | rfl <;> decide
theorem pow_div {n : Int} {wd : Nat} (h0 : 0 ≤ n) : 0 < n / 2 ^ (8 * wd) ↔ 2 ^ (8 * wd) ≤ n := by
  have hp : (0 : Int) < 2 ^ (8 * wd) := Int.pow_pos (by omega)
  constructor
  · intro h
    have := (Int.le_ediv_iff_mul_le (c := 2 ^ (8 * wd)) (a := 1) (b := n) hp).1 (by omega)
    omega
  · intro h
    have := (Int.le_ediv_iff_mul_le (c := 2 ^ (8 * wd)) (a := 1) (b := n) hp).2 (by omega)
    omega
set_option maxRecDepth 100000 in
set_option maxHeartbeats 2000000 in
/-- Put -/
theorem putWf_any {w : World} {base P c : Nat} {A : Option Addr} {s : WS} (h : Wf w base P A c s) {wide n : Int} (hn : -9223372036854775808 ≤ n ∧ n ≤ 9223372036854775807) :
    Calls Try.prog 35 #[.pointer (some ⟨P, 0, none⟩), .int .i64 wide, .int .i64 n] w (LfPost w base P A (s.put wide n).e (s.put wide n)) := by
  have H := Lib.hid h
  have c1 := h.1.cell 1
  have c0 := h.1.cell 0
  have c2 := h.1.cell 2
  have f2 := h.1.frozen 2
  obtain ⟨_, _, _, hbs, hm0, hm1, hbl⟩ := h
  by_cases he : s.e = 0
  · rw [he] at c2
    have HE := Lib.hid he
    clear he
    cases hw : wid wide with
    | false =>
      have HP := Lib.hid (show s.put wide n = ⟨s.m, s.b, 2⟩ from by unfold WS.put; rw [if_neg (by simpa using HE.out), if_pos hw])
      have HW := Lib.hid hw
      clear hw
      go_enter Try.func35, Try.ntmps35
      go_wp2_with fail
      refine (refWidth_any wide).mono ?_
      rintro e w1 ⟨rfl, rfl⟩
      rw [HW.out]
      go_wp2
      go_ret
      rw [HP.out]
      have h9 := H.out.err 2
      exact ⟨rfl, A, c, h9.1, fun a ha => .inl ⟨a, ha, rfl⟩, h9.2⟩
    | true =>
      have hwd := (wid_iff wide).1 hw
      obtain ⟨wd, rfl⟩ : ∃ wd : Nat, wide = wd := ⟨wide.toNat, by omega⟩
      have HW := Lib.hid hw
      have w1 : 1 ≤ wd := by omega
      have w8 : wd ≤ 8 := by omega
      have HD := Lib.hid (show wd = 1 ∨ wd = 2 ∨ wd = 4 ∨ wd = 8 from by omega)
      clear hw hwd
      by_cases hneg : n < 0
      · have d1 : decide (n < 0) = true := by simpa using hneg
        have HP := Lib.hid (show s.put (wd : Int) n = ⟨s.m, s.b, 3⟩ from by unfold WS.put; rw [if_neg (by simpa using HE.out), if_neg (by rw [HW.out]; simp), if_pos (.inl hneg)])
        clear hneg
        go_enter Try.func35, Try.ntmps35
        go_wp2_with fail
        refine (refWidth_any (wd : Int)).mono ?_
        rintro e w1 ⟨rfl, rfl⟩
        rw [HW.out]
        go_wp2
        go_ret
        rw [HP.out]
        have h9 := H.out.err 3
        exact ⟨rfl, A, c, h9.1, fun a ha => .inl ⟨a, ha, rfl⟩, h9.2⟩
      · have d1 : decide (n < 0) = false := by simpa using hneg
        have HG := Lib.hid hneg
        obtain ⟨q, hq⟩ : ∃ q : Bool, q = decide (0 < n / 2 ^ (8 * wd)) := ⟨_, rfl⟩
        have HQ := Lib.hid hq
        clear hq
        go_enter Try.func35, Try.ntmps35
        go_wp2_with fail
        refine (refWidth_any (wd : Int)).mono ?_
        rintro e w1 ⟨rfl, rfl⟩
        rw [HW.out]
        go_upto_region 8 with fail
        go_cut [43] (fun s43 wx => s43 = .bool q ∧ wx = w)
        case first =>
          by_cases h8 : (wd : Int) < 8
          · have hp := pow_le32 (wd := wd) (by have := HD.out; omega)
            have hwt : wrap64 (2 ^ (8 * wd)) = 2 ^ (8 * wd) := by unfold wrap64; rw [Int.emod_eq_of_lt (by omega) (by omega)]; omega
            have d8 : decide ((wd : Int) < 8) = true := by simpa using h8
            have e8 : decide (wd < 8) = true := by simp; omega
            by_cases hb : 2 ^ (8 * wd) ≤ n
            · have e1 : decide (2 ^ (8 * wd) ≤ n) = true := by simpa using hb
              have hqq : q = true := by rw [HQ.out]; simpa using (pow_div (by omega)).2 hb
              subst hqq
              clear hp hb
              go_wp2
              go_meet
              exact ⟨rfl, rfl⟩
            · have e1 : decide (2 ^ (8 * wd) ≤ n) = false := by simpa using hb
              have hqq : q = false := by rw [HQ.out]; simpa using fun h => hb ((pow_div (by omega)).1 h)
              subst hqq
              clear hp hb
              go_wp2
              go_meet
              exact ⟨rfl, rfl⟩
          · have d8 : decide ((wd : Int) < 8) = false := by simpa using h8
            have e8 : decide (wd < 8) = false := by simp; omega
            have hqq : q = false := by
              obtain rfl : wd = 8 := by omega
              rw [HQ.out]
              simp
              omega
            subst hqq
            go_wp2
            go_meet
            exact ⟨rfl, rfl⟩
        case rest =>
          obtain ⟨rfl, hww⟩ := hcut
          subst wc
          cases hqq : q with
          | true =>
            have HP := Lib.hid (show s.put (wd : Int) n = ⟨s.m, s.b, 3⟩ from by unfold WS.put; rw [if_neg (by simpa using HE.out), if_neg (by rw [HW.out]; simp), if_pos (.inr (by rw [Int.toNat_natCast]; have := HQ.out; rw [hqq] at this; simpa using this.symm))])
            subst hqq
            clear hneg
            go_wp2
            go_ret
            rw [HP.out]
            have h9 := H.out.err 3
            exact ⟨rfl, A, c, h9.1, fun a ha => .inl ⟨a, ha, rfl⟩, h9.2⟩
          | false =>
            have HP := Lib.hid (show s.put (wd : Int) n = s.lay (bebs wd n) from by unfold WS.put; rw [if_neg (by simpa using HE.out), if_neg (by rw [HW.out]; simp), if_neg (by rw [Int.toNat_natCast]; intro h; rcases h with h | h; (have := HG.out; omega); (have := HQ.out; rw [hqq] at this; simp at this; omega)), Int.toNat_natCast])
            subst hqq
            obtain ⟨L, hL⟩ : ∃ L, s.b.length = L := ⟨_, rfl⟩
            obtain ⟨m, hm⟩ : ∃ m, s.m = m := ⟨_, rfl⟩
            rw [hL] at c1 hbl
            rw [hm] at c0 hm0 hm1 hbl
            have HL := Lib.hid (And.intro hL hm)
            have hwr : IntKind.i64.wrap ((L : Int) + wd) = (L : Int) + wd := by rw [IntKind.wrap_i64]; omega
            clear hL hm hneg
            by_cases hs : m < (L : Int) + wd
            · have d2 : decide ((L : Int) + wd > m) = true := by simpa using hs
              have d3 : decide (m < (L : Int) + wd) = true := by simpa using hs
              have HS := Lib.hid (show s.lay (bebs wd n) = ⟨s.m, s.b, 4⟩ from by unfold WS.lay; rw [if_pos (by rw [HL.out.1, HL.out.2, bebs_length]; exact hs)])
              clear hs
              go_wp2_with fail
              go_quiet (fail)
              go_wp2
              go_ret
              rw [HP.out, HS.out]
              have hb := below_dN (Below.refl w.heap.size w) nq
              have h9 := (H.out.below hb).err 4
              exact ⟨rfl, A, c, h9.1, fun a ha => .inl ⟨a, ha, rfl⟩, (Chg.of_below (S := Wset P A) hb).trans h9.2 fun _ _ z => z⟩
            · have d2 : decide ((L : Int) + wd > m) = false := by simpa using hs
              have d3 : decide (m < (L : Int) + wd) = false := by simpa using hs
              have hs2 : (L : Int) + wd ≤ 100000 := by omega
              have HS := Lib.hid (And.intro (show s.lay (bebs wd n) = ⟨s.m, s.b ++ bebs wd n, 0⟩ from by unfold WS.lay; rw [if_neg (by rw [HL.out.1, HL.out.2, bebs_length]; exact hs)]) hs)
              clear hs
              go_wp2_with fail
              go_quiet (fail)
              have hb0 := below_dN (Below.refl w.heap.size w) nq
              have H2 := Lib.hid (And.intro (H.out.below hb0) hb0)
              have hbl5 : bebs wd n = bebs wd n := rfl
              clear c0 c1 c2 f2 d2 d3 hb0 hbl5
              generalize w.drewN nq = wd0 at H2 ⊢
              obtain ⟨i0, hi0, hz0, hz1, hz2⟩ := info_parts u8_info
              have n0 : 0 ≤ n := HG.out
              have n1 : n ≤ 9223372036854775807 := hn.2
              have hwn : IntKind.u64.wrap n = n := by rw [IntKind.wrap_u64]; omega
              go_wp2
              go_loopw [7] (fun x wr => ∃ (k : Nat) (A' : Option Addr) (c' : Nat), k ≤ wd ∧ x = .int .i64 ((k : Int) - 1) ∧ Wf wr base P A' c' ⟨s.m, s.b ++ (bebs wd n).take (wd - k), s.e⟩ ∧ (∀ a, A' = some a → (∃ b, A = some b ∧ a.block = b.block) ∨ w.heap.size ≤ a.block) ∧ Chg (Wset P A) w wr) (fun x wr => ((intOf x) + 1).toNat)
              case atStart => exact ⟨wd, A, c, Nat.le_refl _, by first | rfl | (congr 1; omega), by rw [Nat.sub_self, List.take_zero, List.append_nil]; exact H2.out.1, fun a ha => .inl ⟨a, ha, rfl⟩, Chg.of_below H2.out.2⟩
              case round =>
                obtain ⟨k, A', c', hk, rfl, hwf, hA', hch⟩ := hrel
                by_cases h0 : 0 < k
                · have d4 : decide ((k : Int) - 1 ≥ 0) = true := by simp; omega
                  have d5 : decide (0 ≤ (k : Int) - 1) = true := by simp; omega
                  have C1 := hwf.1.cell 1
                  have hlen : (s.b ++ (bebs wd n).take (wd - k)).length = L + (wd - k) := by rw [List.length_append, HL.out.1, List.length_take, bebs_length]; omega
                  have HK := Lib.hid (And.intro hwf (And.intro hA' (And.intro hch (And.intro h0 hlen))))
                  have hown := hwf.2.1
                  have hbd := hwf.2.2.2.1
                  have F1 := hwf.1.frozen 1
                  obtain ⟨M, hM⟩ : ∃ M, L + (wd - k) = M := ⟨_, rfl⟩
                  rw [show (⟨s.m, s.b ++ (bebs wd n).take (wd - k), s.e⟩ : WS).b.length = M from hlen.trans hM] at C1 hown
                  have HO := Lib.hid (And.intro hown (And.intro hbd hM))
                  have hM1 : M ≤ 100000 := by omega
                  clear hwf hA' hch hlen hown hbd h0 hM
                  have hne := HK.out.2.2.2.1
                  obtain ⟨X, hX⟩ : ∃ X, s.b ++ (bebs wd n).take (wd - k) = X := ⟨_, rfl⟩
                  have hya : bys X ++ [Value.int .u8 (n / 2 ^ (8 * (k - 1)) % 256)] = bys (X ++ [byt n (k - 1)]) := by rw [bys_append, ← byt_toNat]; rfl
                  have HX := Lib.hid (And.intro hX hya)
                  clear hX hya
                  go_wp2_with (at_builtin; refine wpList_append_rd _ rfl (.tmp 18) (.tmp 26) _ rfl base 5 i0 _ 1 1 Try.underlying32 hi0 hz0 hz1 hz2 rfl (by omega) _ M _ rfl (own_below HO.out.1 ((Below.refl wr.heap.size wr).alloc (Nat.le_refl _) _)) (some ⟨wr.heap.size, 0, none⟩) 1 1 _ rfl (Rd.one _ _ _) (by simp [Value.oneCell']) (by simp only [maxLen]; omega) (by omega) (by rw [World.size_alloc]; exact Nat.le_succ_of_le HO.out.2.1) ?_; intro v1 w1 hown1 hg1 hat1; rw [HX.out.1, HX.out.2] at hown1; obtain ⟨A1, c1', rfl, hd, hd2, hd3, hB⟩ := own_form hown1; have hf := app_facts (HK.out.1.below ((Below.refl wr.heap.size wr).alloc (Nat.le_refl _) _)).1 HK.out.1.2.2.1 hg1 hat1; have C1 := hf.1.cell 1; have F1 := hf.1.frozen 1; have HF := Lib.hid (And.intro hown1 hf); clear hown1 hg1 hat1 hd hd2 hd3 hB hf)
                  have ho := HF.out.1
                  rw [← HX.out.1] at ho
                  have hba : Below wr.heap.size wr (wr.alloc (.cells #[.int .u8 (n / 2 ^ (8 * (k - 1)) % 256)] 5)) := (Below.refl wr.heap.size wr).alloc (Nat.le_refl _) _
                  have hd := layF_done (s := ⟨s.m, s.b ++ (bebs wd n).take (wd - k), s.e⟩) (l := [byt n (k - 1)]) (L := M) (n := 1) (HK.out.1.below hba) hba (HK.out.2.2.2.2.trans HO.out.2.2) rfl (by show (M : Int) + ((1 : Nat) : Int) ≤ s.m; rw [HL.out.2]; have := HS.out.2; have := HO.out.2.2; omega) ho HF.out.2
                  refine ⟨⟨k - 1, A1, c1', by omega, by congr 1; omega, ?_, fun a ha => ?_, HK.out.2.2.1.trans hd.2.2 fun j hj z => ?_⟩, by simp [intOf]; omega⟩
                  · rw [bebs_get n hne hk, ← List.append_assoc]
                    exact hd.1
                  · rcases hd.2.1 a ha with ⟨b, hb, e⟩ | e
                    · rcases HK.out.2.1 b hb with ⟨b', hb', e'⟩ | e'
                      · exact .inl ⟨b', hb', e.trans e'⟩
                      · exact .inr (by omega)
                    · exact .inr (Nat.le_trans HK.out.2.2.1.size e)
                  · rcases z with z | ⟨b, hb, e⟩
                    · exact .inl z
                    · rcases HK.out.2.1 b hb with ⟨b', hb', e'⟩ | e'
                      · exact .inr ⟨b', hb', e'.symm.trans e⟩
                      · omega
                · obtain rfl : k = 0 := by omega
                  have C2 := hwf.1.cell 2
                  rw [show (bebs wd n).take (wd - 0) = bebs wd n from List.take_of_length_le (by rw [bebs_length]; omega)] at hwf C2
                  have HK := Lib.hid (And.intro hwf (And.intro hA' hch))
                  have E0 : s.e = 0 := HE.out
                  rw [show (⟨s.m, s.b ++ bebs wd n, s.e⟩ : WS).e = 0 from E0] at C2
                  clear hwf hA' hch h0 hk E0
                  go_wp2
                  go_ret
                  rw [HP.out, HS.out.1]
                  have h9 := HK.out
                  rw [HE.out] at h9
                  exact ⟨rfl, A', c', h9.1, h9.2.1, h9.2.2⟩
  · have d1 : (s.e != 0) = true := by simpa using he
    have HE := Lib.hid (show s.put wide n = s from by unfold WS.put; rw [if_pos (by simpa using he)])
    clear he
    go_enter Try.func35, Try.ntmps35
    go_wp2
    go_ret
    rw [HE.out]
    exact ⟨rfl, A, c, H.out, fun a ha => .inl ⟨a, ha, rfl⟩, Chg.refl _ _⟩
end Go.Proofs.Ytdepmogibhmdaaa
