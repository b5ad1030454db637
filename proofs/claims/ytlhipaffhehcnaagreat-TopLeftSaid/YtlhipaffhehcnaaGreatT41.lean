/- TopLeft: a decoder that a law has made; left27. TopLeft: rows that grow by several; part27. TopLeft: what tuples27 comes to; its memory. -/
import Derived.Test.YtlhipaffhehcnaaGreatT40
import Derived.Test.YtlhipaffhehcnaaGreatT16
namespace Go.Proofs.YtlhipaffhehcnaaGreat
open Go.RowKit
set_option linter.unusedVariables false
set_option linter.unusedSimpArgs false
/-- A decoder that was made since w0. -/
def Lp (w0 w : World) (D : Nat) (d : DS) : Prop := Below w0.heap.size w0 w ∧ ∃ base FA, Dw w base D d FA ∧ ∀ b, FA b → w0.heap.size ≤ b ∧ b < w.heap.size
section
variable {w0 w1 w w' : World} {D : Nat} {d : DS}
theorem Dw.tight {base : Nat} {FA : Nat → Prop} (h : Dw w base D d FA) : Dw w base D d fun b => FA b ∧ b < w.heap.size := by
  obtain ⟨m, F, h1, h2, h3, h4⟩ := h
  exact ⟨m, F, h1, h2, h3, fun b hb => ⟨h4 b hb, (h1.all_lt hb).2⟩⟩
theorem Lp.below (h : Lp w0 w1 D d) (hb : Below w1.heap.size w1 w) : Lp w0 w D d := by
  obtain ⟨h1, base, FA, h2, h3⟩ := h
  exact ⟨below_base h1 hb h1.size, base, FA, h2.below hb, fun b hb' => ⟨(h3 b hb').1, Nat.lt_of_lt_of_le (h3 b hb').2 hb.size⟩⟩
theorem lp_add (h : Lp w0 w1 D d) (hb : Below w1.heap.size w1 w) {A B : Option Addr} {n nb cA cB : Nat} {set : List Int} {pay : List UInt8} {id : Int} (hN : d.sets.length < 1000) (hr : Rd w A n (nums set)) (hn : n ≤ 1000000) (hp : Rd w B nb (bys pay)) (hnb : nb ≤ 140737488351232) (hw : (Lit.int .i64 id).wf = true)
    (hA : 0 < n → ∀ a, A = some a → a.block < w0.heap.size ∨ w1.heap.size ≤ a.block) (hB : 0 < nb → ∀ a, B = some a → a.block < w0.heap.size ∨ w1.heap.size ≤ a.block) :
    Calls Tryz.prog 37 #[.pointer (some ⟨D, 0, none⟩), .int .i64 id, .slice A n cA, .slice B nb cB] w fun e w' => ∃ v, e = .returned (.tuple #[v, .int .i64 (d.add id set pay).2.1]) ∧ Lp w0 w' D (d.add id set pay).2.2 := by
  obtain ⟨h1, base, FA, h2, h3⟩ := h
  have hap : ∀ b, (b < w0.heap.size ∨ w1.heap.size ≤ b) → ¬ FA b := fun b hb e => by have := h3 b e; omega
  refine (add_dw (h2.below hb) hN hr hn hp hnb hw (fun h0 a ha => hap _ (hA h0 a ha)) (fun h0 a ha => hap _ (hB h0 a ha))).mono ?_
  rintro e w' ⟨v, FB, rfl, p1, p2, p3, p4⟩
  have hz := p3.size
  have hb1 := below_base h1 hb h1.size
  exact ⟨v, rfl, p3.below hb1 (fun b hb e => (h3 b e).1) hb1.size, base, _, p1.tight, fun b hb => ⟨(p2 b hb.1).elim (fun e => (h3 b e).1) fun e => by have := hb1.size; omega, hb.2⟩⟩
theorem lp_new {w0 w : World} (hb0 : Below w0.heap.size w0 w) {k s most : Int} {e : Ending} {w' : World} (h : PwPost w k s most e w') (hp : ¬ pbad k s most) : ∃ D, e = .returned (.tuple #[.pointer (some ⟨D, 0, none⟩), .int .i64 0]) ∧ Lp w0 w' D (newD k.toNat s.toNat most) := by
  unfold PwPost at h
  rw [if_neg hp] at h
  obtain ⟨D, rfl, h1, h2⟩ := h
  exact ⟨D, rfl, below_base hb0 h2 hb0.size, _, _, h1, fun b hb => ⟨Nat.le_trans hb0.size hb.1, hb.2⟩⟩
end
/-! What left27 comes to. -/
def ints (s : List Nat) : List Int := s.map fun x : Nat => (x : Int)
theorem ints_wts (s : List Nat) : wts s = nums (ints s) := wts_nums s
def bt (x : Nat) : UInt8 := UInt8.ofNat (17 * (x + 1))
theorem bt_wrap (x : Nat) : IntKind.u8.wrap (17 * ((x : Int) + 1)) = ((bt x).toNat : Int) := by
  rw [IntKind.wrap_u8']
  unfold bt
  rw [UInt8.toNat_ofNat']
  omega
def payJ (s : List Nat) (j : Nat) : List UInt8 := (s.take j).foldl (fun p x => xorV p [bt x]) [0]
theorem payJ_len (s : List Nat) (j : Nat) : (payJ s j).length = 1 := by
  unfold payJ
  have : ∀ (l : List Nat) (p : List UInt8), p.length = 1 → (l.foldl (fun p x => xorV p [bt x]) p).length = 1 := by
    intro l
    induction l with
    | nil => intro p h; exact h
    | cons x l ih =>
      intro p h
      refine ih _ ?_
      show (xorV p [bt x]).length = 1
      unfold xorV
      rw [if_pos (by rw [h]; rfl), xorL_length _ _ (by rw [h]; rfl), h]
  exact this _ _ rfl
theorem payJ_succ {s : List Nat} {j : Nat} (h : j < s.length) : payJ s (j + 1) = xorV (payJ s j) [bt s[j]] := by
  unfold payJ
  rw [List.take_succ_eq_append_getElem h, List.foldl_append]
  rfl
def dsN (k : Nat) (ls : List (List Nat)) : Nat → DS
  | 0 => newD k 1 ((ls.length : Int) + 1)
  | i + 1 => ((dsN k ls i).add (i : Nat) (ints (ls.getD i [])) (payJ (ls.getD i []) (ls.getD i []).length)).2.2
def adE (k : Nat) (ls : List (List Nat)) (i : Nat) : Int := ((dsN k ls i).add (i : Nat) (ints (ls.getD i [])) (payJ (ls.getD i []) (ls.getD i []).length)).2.1
def leftB (k : Nat) (ls : List (List Nat)) (u : Nat) : Bool :=
  (List.range ls.length).all (fun i => adE k ls i == 0 && decide ((dsN k ls i).sets.length < 1000)) && (decide ((knL (dsN k ls ls.length).kn).length ≤ 1000) && ((knL (dsN k ls ls.length).kn).all (fun x => decide (0 ≤ x) && (decide (x ≤ 1000) && syR (dsN k ls ls.length) x == ([bt x.toNat], 0))) && unk (dsN k ls ls.length).kn == u))
theorem leftB_parts {k : Nat} {ls : List (List Nat)} {u : Nat} (h : leftB k ls u = true) : (∀ i, i < ls.length → adE k ls i = 0 ∧ (dsN k ls i).sets.length < 1000) ∧ (knL (dsN k ls ls.length).kn).length ≤ 1000 ∧ (∀ x ∈ knL (dsN k ls ls.length).kn, 0 ≤ x ∧ x ≤ 1000 ∧ syR (dsN k ls ls.length) x = ([bt x.toNat], 0)) ∧ unk (dsN k ls ls.length).kn = u := by
  unfold leftB at h
  simp only [Bool.and_eq_true, List.all_eq_true, List.mem_range, decide_eq_true_eq, beq_iff_eq] at h
  exact ⟨h.1, h.2.1, h.2.2.1, h.2.2.2⟩
set_option maxRecDepth 100000 in
set_option maxHeartbeats 6400000 in
/-- left27 -/
theorem left27_any {w : World} {A : Option Addr} {n c k u : Nat} {hs : List Hd} {ls : List (List Nat)} (hr : Rd w A n (hds hs)) (hl : LL w hs ls) (hn : n ≤ 900) (hsm : ∀ l ∈ ls, l.length ≤ 1000 ∧ ∀ x ∈ l, x ≤ 1000) (hk1 : 1 ≤ k) (hk : k ≤ 8) (h : leftB k ls u = true) :
    Calls Tryz.prog 16 #[.int .i64 (k : Nat), .slice A n c] w fun e w' => e = .returned (.int .i64 (u : Nat)) ∧ Below w.heap.size w w' := by
  have hlh : hs.length = n := by have := hr.1; simpa [hds] using this
  have hll : ls.length = n := by rw [← hl.len, hlh]
  obtain ⟨N, hN⟩ : ∃ N : Nat, n + 1 = N := ⟨_, rfl⟩
  have hw0 : IntKind.i64.wrap ((n : Int) + 1) = (N : Int) := by rw [IntKind.wrap_i64]; omega
  have hm : (n : Int) + 1 = (N : Int) := by omega
  have hnI : (n : Int) ≤ 900 := by omega
  obtain ⟨hAd, hK0, hKn, hU⟩ := leftB_parts h
  rw [hll] at hAd hK0 hKn hU
  have HP := Lib.hid (And.intro hr (And.intro hl (And.intro hlh (And.intro hll hsm))))
  have HA := Lib.hid hAd
  have HK := Lib.hid (And.intro hK0 (And.intro hKn hU))
  have HN := Lib.hid (And.intro hk1 (And.intro hk (And.intro hn hm)))
  clear hr hl hsm h hAd hK0 hKn hU hN hlh hll hk hk1 hn
  go_enter Tryz.func16, Tryz.ntmps16
  go_wp2_with fail
  refine (new_dw (k : Nat) 1 (N : Int) (.inl (by have := HN.out.2.1; omega))).mono ?_
  intro e w1 h1
  obtain ⟨D, rfl, h2⟩ := lp_new (Below.refl w.heap.size w) h1 (by unfold pbad bad; have := HN.out; omega)
  have h3 : newD (k : Int).toNat (1 : Int).toNat (N : Int) = dsN k ls 0 := by
    show _ = newD k 1 ((ls.length : Int) + 1)
    rw [HP.out.2.2.2.1, HN.out.2.2.2, Int.toNat_natCast]
    rfl
  rw [h3] at h2
  have HL0 : Hid (Lp w w1 D (dsN k ls 0)) := Lib.hid h2
  clear h1 h2 h3
  go_wp2_with fail
  go_loopw [7] (fun i wr => ∃ q : Nat, q ≤ n ∧ i = .int .i64 q ∧ Lp w wr D (dsN k ls q)) (fun i wr => n - (intOf i).toNat)
  case atStart => exact ⟨0, by omega, rfl, HL0.out⟩
  case round =>
    obtain ⟨q, hq, rfl, hlp⟩ := hrel
    obtain ⟨wa, hwa⟩ : ∃ wa : World, wr = wa := ⟨_, rfl⟩
    subst hwa
    by_cases hlt : q < n
    · have hh : q < hs.length := by rw [HP.out.2.2.1]; exact hlt
      have hg : q < ls.length := by rw [HP.out.2.2.2.1]; exact hlt
      obtain ⟨g1, g2, g3, g4⟩ := HP.out.2.1.get hh hg
      obtain ⟨b, off, rfl, hc⟩ := HP.out.1.2 (by omega)
      have hAb : b < w.heap.size := HP.out.1.lt (by omega) _ rfl
      have hc1 : w.cell? ⟨b, off + q, none⟩ = some (.slice (hs[q]).A (hs[q]).n (hs[q]).c) := hc q _ (by unfold hds; rw [List.getElem?_map, List.getElem?_eq_getElem hh]; rfl)
      obtain ⟨r, hr1⟩ : ∃ r, ls[q] = r := ⟨_, rfl⟩
      obtain ⟨A1, hA1⟩ : ∃ A1, (hs[q]).A = A1 := ⟨_, rfl⟩
      obtain ⟨m, hm1⟩ : ∃ m, (hs[q]).n = m := ⟨_, rfl⟩
      obtain ⟨cc, hcc⟩ : ∃ cc, (hs[q]).c = cc := ⟨_, rfl⟩
      have hgd : ls.getD q [] = r := by rw [List.getD_eq_getElem?_getD, List.getElem?_eq_getElem hg]; exact hr1
      have hrm : r ∈ ls := by rw [← hr1]; exact List.getElem_mem hg
      rw [hr1, hA1, hm1] at g4
      rw [hr1, hm1] at g1
      rw [hm1] at g2
      rw [hA1, hm1, hcc] at hc1
      obtain ⟨b1, o1, rfl, hd⟩ := g4.2 g2
      have hBb : b1 < w.heap.size := g4.lt g2 _ rfl
      have HR := Lib.hid (And.intro g4 (And.intro hBb (And.intro hd (And.intro g1 (And.intro (HP.out.2.2.2.2 r hrm) (And.intro hgd (And.intro hc1 (And.intro hAb hlt))))))))
      have hm2 : m ≤ 1000 := by have := (HP.out.2.2.2.2 r hrm).1; omega
      have hmI : (m : Int) ≤ 1000 := by omega
      have kn : (q : Int) < (n : Int) := by omega
      have kd : decide ((q : Int) < (n : Int)) = true := decide_eq_true kn
      have kd' : decide (q < n) = true := decide_eq_true hlt
      have hq1 : wr.cell? ⟨b, off + q, none⟩ = some (.slice (some ⟨b1, o1, none⟩) m cc) := (hlp.1.cell (p := ⟨b, off + q, none⟩) hAb).trans hc1
      have HL := Lib.hid hlp
      clear hlp hlt hq hc1 hd g4 g1 g2 g3 hr1 hA1 hm1 hcc hgd hrm hc hBb hh hg
      go_wp2_with fail
      obtain ⟨wo, hwo⟩ : ∃ wo : World, wo = wr := ⟨_, rfl⟩
      go_loopw [8, 9] (fun p j wi => ∃ (y c1 : Nat) (P : Option Addr), y ≤ m ∧ j = .int .i64 y ∧ p = .slice P 1 c1 ∧ Rd wi P 1 (bys (payJ r y)) ∧ (∀ a, P = some a → wo.heap.size ≤ a.block) ∧ Below wo.heap.size wo wi) (fun p j wi => m - (intOf j).toNat)
      case atStart =>
        subst hwo
        refine ⟨0, 1, _, by omega, rfl, rfl, Rd.one _ _ _, fun a ha => ?_, bl_allocd (Below.refl _ _) _⟩
        injection ha with ha
        rw [← ha]
        exact Nat.le_refl _
      case round =>
        subst hwo
        obtain ⟨y, c1, P, hy, rfl, rfl, hP, hPb, hbi⟩ := hrel
        have hbw := below_base HL.out.1 hbi HL.out.1.size
        have hq2 : wr.cell? ⟨b, off + q, none⟩ = some (.slice (some ⟨b1, o1, none⟩) m cc) := (hbw.cell (p := ⟨b, off + q, none⟩) hAb).trans HR.out.2.2.2.2.2.2.1
        have HI := Lib.hid (And.intro hP (And.intro hPb hbi))
        by_cases hym : y < m
        · have hyr : y < r.length := by rw [HR.out.2.2.2.1]; exact hym
          obtain ⟨x, hx⟩ : ∃ x, r[y] = x := ⟨_, rfl⟩
          have hx2 : x ≤ 1000 := by rw [← hx]; exact HR.out.2.2.2.2.1.2 _ (List.getElem_mem hyr)
          have hq3 : wr.cell? ⟨b1, o1 + y, none⟩ = some (.int .i64 (x : Nat)) := (hbw.cell (p := ⟨b1, o1 + y, none⟩) HR.out.2.1).trans (HR.out.2.2.1 y _ (by unfold wts; rw [List.getElem?_map, List.getElem?_eq_getElem hyr, hx]; rfl))
          have hw1 : IntKind.i64.wrap ((x : Int) + 1) = (x : Int) + 1 := by rw [IntKind.wrap_i64]; omega
          have hw2 : IntKind.i64.wrap (17 * ((x : Int) + 1)) = 17 * ((x : Int) + 1) := by rw [IntKind.wrap_i64]; omega
          have hw3 := bt_wrap x
          have HX := Lib.hid (show xorV (payJ r y) [bt x] = payJ r (y + 1) from by rw [payJ_succ hyr, hx])
          have kn2 : (y : Int) < (m : Int) := by omega
          have kd2 : decide ((y : Int) < (m : Int)) = true := decide_eq_true kn2
          have kd2' : decide (y < m) = true := decide_eq_true hym
          clear hP hPb hbi hbw hx hyr hym hx2
          go_wp2_with fail
          refine (xor_any (xs := payJ r y) (ys := [bt x]) (HI.out.1.alloc _) (Rd.one _ _ _) (by omega) (Nat.le_refl 1)).mono ?_
          rintro e w5 ⟨v5, rfl, ho5, hb5⟩
          have hl5 : (xorV (payJ r y) [bt x]).length = 1 := by
            unfold xorV
            rw [if_pos (by rw [payJ_len]; rfl), xorL_length _ _ (by rw [payJ_len]; rfl), payJ_len]
          rw [hl5] at ho5
          obtain ⟨A5, c5, rfl, _⟩ := own_form ho5
          have hp5 := HX.out
          have H5 := Lib.hid (And.intro ho5 (And.intro hb5 hp5))
          clear ho5 hb5 hl5 hp5
          go_wp2_with fail
          refine ⟨⟨y + 1, c5, A5, by omega, by go_num, rfl, ?_, fun a ha => ?_, ?_⟩, by simp [intOf]; omega⟩
          · rw [← H5.out.2.2]; exact Rd.of_own H5.out.1
          · have h9 := own_ty H5.out.1 (g := a.block) (by rw [ha]; rfl)
            have := HI.out.2.2.size
            have h8 := h9.2
            rw [World.size_alloc] at h8
            omega
          · exact below_base (bl_allocd HI.out.2.2 _) H5.out.2.1 (by have := HI.out.2.2.size; rw [World.size_alloc]; omega)
        · obtain rfl : y = m := by omega
          have kd2 : decide ((y : Int) < (y : Int)) = false := by simp
          have kd2' : decide (y < y) = false := by simp
          have hpy : payJ r y = payJ (ls.getD q []) (ls.getD q []).length := by rw [HR.out.2.2.2.2.2.1, HR.out.2.2.2.1]
          have hA := HA.out q HR.out.2.2.2.2.2.2.2.2
          have hrr : Rd wr (some ⟨b1, o1, none⟩) y (nums (ints (ls.getD q []))) := by rw [HR.out.2.2.2.2.2.1, ← ints_wts]; exact HR.out.1.below hbw
          rw [hpy] at hP
          have HC := Lib.hid (lp_add (cA := cc) (cB := c1) (id := (q : Nat)) HL.out hbi hA.2 hrr (by omega) hP (by omega) (by simp [Lit.wf, IntKind.min, IntKind.max, IntKind.signed, IntKind.bits]; have := HN.out.2.2.1; have := HR.out.2.2.2.2.2.2.2.2; omega) (fun _ a ha => .inl (by injection ha with ha; rw [← ha]; exact HR.out.2.1)) (fun _ a ha => .inr (hPb a ha)))
          have hA0 : ((dsN k ls q).add (q : Nat) (ints (ls.getD q [])) (payJ (ls.getD q []) (ls.getD q []).length)).2.1 = 0 := hA.1
          rw [hA0] at HC
          clear hP hPb hbi hbw hrr hA hA0 hpy
          go_wp2_with fail
          refine HC.out.mono ?_
          rintro e w6 ⟨v6, rfl, h6⟩
          have H6 := Lib.hid h6
          clear h6 HC
          go_wp2_with fail
          exact ⟨⟨q + 1, by omega, by go_num, H6.out⟩, by simp [intOf]; omega⟩
    · obtain rfl : q = n := by omega
      have kd : decide ((q : Int) < (q : Int)) = false := by simp
      have kd' : decide (q < q) = false := by simp
      obtain ⟨dn, hdn⟩ : ∃ dn, dsN k ls q = dn := ⟨_, rfl⟩
      rw [hdn] at hlp
      have hHK := HK.out
      rw [hdn] at hHK
      have HQ := Lib.hid hHK
      obtain ⟨hb, base, FA, hdw, _⟩ := hlp
      have HD := Lib.hid (And.intro hb hdw)
      obtain ⟨ks, hks⟩ : ∃ ks, knL dn.kn = ks := ⟨_, rfl⟩
      obtain ⟨K, hKe⟩ : ∃ K, ks.length = K := ⟨_, rfl⟩
      have hK1 : K ≤ 1000 := by rw [← hKe, ← hks]; exact hHK.1
      have hK2 : (K : Int) ≤ 1000 := by omega
      have HE := Lib.hid (And.intro hks hKe)
      clear hb hdw hHK hks hKe hdn hlt hq
      go_wp2_with fail
      refine (known_dw HD.out.2).mono ?_
      rintro e w7 ⟨v7, rfl, ho7, hb7⟩
      rw [HE.out.1, HE.out.2] at ho7
      obtain ⟨A7, c7, rfl, _⟩ := own_form ho7
      have hdw7 := HD.out.2.below hb7
      have hbw7 := below_base HD.out.1 hb7 HD.out.1.size
      have H7 := Lib.hid (And.intro (Rd.of_own ho7) (And.intro hdw7 hbw7))
      clear ho7 hb7 hdw7 hbw7
      go_wp2_with fail
      go_loopw [13] (fun i wi => ∃ y : Nat, y ≤ K ∧ i = .int .i64 y ∧ Below w7.heap.size w7 wi) (fun i wi => K - (intOf i).toNat)
      case atStart => exact ⟨0, by omega, rfl, Below.refl _ _⟩
      case round =>
        obtain ⟨y, hy, rfl, hbi⟩ := hrel
        by_cases hym : y < K
        · have hyk : y < ks.length := by rw [HE.out.2]; exact hym
          obtain ⟨x, hx⟩ : ∃ x, ks[y] = x := ⟨_, rfl⟩
          obtain ⟨hx0, hx1, hx2⟩ := HQ.out.2.1 x (by rw [HE.out.1, ← hx]; exact List.getElem_mem hyk)
          obtain ⟨z, rfl⟩ : ∃ z : Nat, x = z := ⟨x.toNat, by omega⟩
          rw [Int.toNat_natCast] at hx2
          obtain ⟨b7, o7, rfl, hc7⟩ := H7.out.1.2 (by omega)
          have hc8 : wr.cell? ⟨b7, o7 + y, none⟩ = some (.int .i64 (z : Nat)) := (hbi.cell (p := ⟨b7, o7 + y, none⟩) (H7.out.1.lt (by omega) ⟨b7, o7, none⟩ rfl)).trans (hc7 y _ (by rw [nums_get ks y hyk, hx]))
          have hw1 : IntKind.i64.wrap ((z : Int) + 1) = (z : Int) + 1 := by rw [IntKind.wrap_i64]; omega
          have hw2 : IntKind.i64.wrap (17 * ((z : Int) + 1)) = 17 * ((z : Int) + 1) := by rw [IntKind.wrap_i64]; omega
          have hw3 := bt_wrap z
          have kn2 : (y : Int) < (K : Int) := by omega
          have kd2 : decide ((y : Int) < (K : Int)) = true := decide_eq_true kn2
          have kd2' : decide (y < K) = true := decide_eq_true hym
          have HS := Lib.hid (symbol_dw (H7.out.2.1.below hbi) (z : Nat))
          rw [hx2] at HS
          have HB := Lib.hid hbi
          clear hbi hc7 hx hx0 hx1 hx2 hyk hym
          go_wp2_with fail
          refine HS.out.mono ?_
          rintro e w8 ⟨v8, rfl, ho8, hb8⟩
          obtain ⟨A8, c8, rfl, _⟩ := own_form ho8
          have hc9 : w8.cell? ⟨b7, o7 + y, none⟩ = some (.int .i64 (z : Nat)) := (hb8.cell (p := ⟨b7, o7 + y, none⟩) (World.block_lt_of_cell? _ _ hc8)).trans hc8
          have H8 := Lib.hid (And.intro (Rd.of_own ho8) hb8)
          clear ho8 hb8
          go_wp2_with fail
          refine (same_true (l := [bt z]) (H8.out.1.alloc _) (Rd.one _ _ _)).mono ?_
          rintro e w9 ⟨rfl, rfl⟩
          go_wp2_with fail
          exact ⟨⟨y + 1, by omega, by go_num, bl_allocd (bl_next HB.out H8.out.2) _⟩, by simp [intOf]; omega⟩
        · obtain rfl : y = K := by omega
          have kd2 : decide ((y : Int) < (y : Int)) = false := by simp
          have kd2' : decide (y < y) = false := by simp
          have HB := Lib.hid hbi
          have HC := Lib.hid (left_dw (H7.out.2.1.below hbi))
          rw [HQ.out.2.2] at HC
          clear hbi
          go_wp2_with fail
          refine HC.out.mono ?_
          rintro e w9 ⟨rfl, rfl⟩
          go_wp2_with fail
          go_ret
          exact ⟨rfl, below_base H7.out.2.2 HB.out H7.out.2.2.size⟩
end Go.Proofs.YtlhipaffhehcnaaGreat
namespace Go.Proofs.YtlhipaffhehcnaaGreat
open Go.RowKit Go.Shelf
set_option linter.unusedVariables false
set_option linter.unusedSimpArgs false
/-- A row that grows. -/
def OutX (W : World) (e : TypeId) (size base : Nat) (v : Value) (n : Nat) (xs : List Value) : Prop :=
  (v = .slice none 0 0 ∧ n = 0 ∧ xs = []) ∨ ∃ g c tl, v = .slice (some ⟨g, 0, none⟩) n c ∧ base ≤ g ∧ Bk W g e (xs ++ tl) ∧ tl.length = (c - n) * size ∧ n ≤ c ∧ c ≤ maxLen ∧ NoU tl ∧ NoU xs ∧ 1 ≤ n ∧ xs.length = n * size
theorem NoU.append {a b : List Value} (ha : NoU a) (hb : NoU b) : NoU (a ++ b) := by
  intro i x h
  rcases Nat.lt_or_ge i a.length with hi | hi
  · rw [List.getElem?_append_left hi] at h
    exact ha _ _ h
  · rw [List.getElem?_append_right hi] at h
    exact hb _ _ h
theorem NoU.drop {a : List Value} (ha : NoU a) (n : Nat) : NoU (a.drop n) := fun i x => by rw [List.getElem?_drop]; exact ha _ x
section
variable {W W' : World} {e : TypeId} {size base n : Nat} {v : Value} {xs : List Value}
theorem OutX.len (h : OutX W e size base v n xs) : xs.length = n * size := by
  rcases h with ⟨_, rfl, rfl⟩ | ⟨g, c, tl, _, _, _, _, _, _, _, _, _, h⟩
  · simp
  · exact h
theorem OutX.form (h : OutX W e size base v n xs) : ∃ A c, v = .slice A n c ∧ n ≤ c ∧ Rd W A (n * size) xs ∧ ∀ a, A = some a → a = ⟨a.block, 0, none⟩ ∧ v.ownBlock = some a.block := by
  have hl := h.len
  rcases h with ⟨rfl, rfl, rfl⟩ | ⟨g, c, tl, rfl, hb, hk, h3, h4, _⟩
  · exact ⟨none, 0, rfl, Nat.le_refl _, by rw [Nat.zero_mul]; exact Rd.nil _ _, fun a ha => by cases ha⟩
  · exact ⟨_, c, rfl, h4, Rd.of_bk hk (by rw [List.length_append, hl]; omega) (by rw [List.drop_zero, List.take_left' hl]), fun a ha => by injection ha with ha; subst ha; exact ⟨rfl, rfl⟩⟩
theorem OutX.blk (h : OutX W e size base v n xs) {g : Nat} (hg : v.ownBlock = some g) : base ≤ g ∧ ∃ cur, Bk W g e cur ∧ NoU cur := by
  rcases h with ⟨h0, _⟩ | ⟨g', c, tl, hv, hb, hk2, _, _, _, h6, h7, _⟩
  · rw [h0] at hg; cases hg
  · rw [hv] at hg
    have : some g' = some g := hg
    obtain rfl := Option.some.inj this
    exact ⟨hb, _, hk2, h7.append h6⟩
theorem OutX.kq {B : Nat} {S : Nat → Prop} (h : OutX W e size base v n xs) (hk : Kq B S W W') (hS : ∀ g, v.ownBlock = some g → ¬ S g) : OutX W' e size base v n xs := by
  rcases h with h | ⟨g, c, tl, hv, hb, hk2, h3⟩
  · exact .inl h
  · exact .inr ⟨g, c, tl, hv, hb, hk.bk hk2 (hS g (by rw [hv]; rfl)), h3⟩
theorem OutX.below (h : OutX W e size base v n xs) (hb : Below W.heap.size W W') : OutX W' e size base v n xs := h.kq (Kq.of_below 0 hb) (fun _ _ e => e)
theorem OutX.turn (h : OutX W e size base v n xs) (hc : Chg (fun k => v.ownBlock = some k) W W') : Kq 0 (fun k => v.ownBlock = some k) W W' :=
  Kq.of_chg 0 hc fun k c t z hv hk => by
    obtain ⟨_, cur, hb, hn⟩ := h.blk hv
    exact num_of_bk hb hn k c t z rfl hk
theorem OutX.low {base' : Nat} (h : OutX W e size base v n xs) (hb : base' ≤ base) : OutX W e size base' v n xs := by
  rcases h with h | ⟨g, c, tl, hv, hb', hk2, h3⟩
  · exact .inl h
  · exact .inr ⟨g, c, tl, hv, Nat.le_trans hb hb', hk2, h3⟩
theorem out_nil (W : World) (e : TypeId) (size base : Nat) : OutX W e size base (.slice none 0 0) 0 [] := .inl ⟨rfl, rfl, rfl⟩
theorem out_one {v' : Nat} {cs : List Value} (hk : Bk W v' e cs) (hb : base ≤ v') (hn : NoU cs) (hs : cs.length = size) : OutX W e size base (.slice (some ⟨v', 0, none⟩) 1 1) 1 cs :=
  .inr ⟨v', 1, [], rfl, hb, by rw [List.append_nil]; exact hk, by simp, Nat.le_refl _, by decide, fun i x h => by simp at h, hn, Nat.le_refl _, by rw [hs, Nat.one_mul]⟩
/-- Several more. -/
theorem run_append_x {P : Program} {t : TypeId} {i0 : TypeInfo} {z : Value} {bytes : Nat} (ht : P.underlying t = some (.slice e)) (hi : P.info? e = some i0) (hz : i0.zero = some z) (hsize : i0.size = size) (hby : i0.bytes = bytes) (hzs : z.cells.size = size) (hzn : ∀ k, NoU (Builtin.zeroCells z.cells k).toList) (hb9 : bytes ≤ 56)
    (h : OutX W e size base v n xs) {a : Addr} {m c1 : Nat} {news : List Value} (hl : news.length = m * size) (hnews : ∀ j u, news[j]? = some u → W.cell? (a.add j) = some u) (h1 : ∀ u ∈ news, u.oneCell' = true) (hno : NoU news) (hm : 1 ≤ m) (hn : n + m ≤ 1000000) (hb : base ≤ W.heap.size) :
    ∃ v' W', (Builtin.append_ #[t, t] t #[v, .slice (some a) m c1]).run P W = .ok v' W' ∧ OutX W' e size base v' (n + m) (xs ++ news) ∧ Chg (fun k => v.ownBlock = some k) W W' ∧ (v'.ownBlock = v.ownBlock ∨ v'.ownBlock = some W.heap.size) := by
  subst hsize
  have hzl : ∀ k, (Builtin.zeroCells z.cells k).size = k * i0.size := by intro k; simp [Builtin.zeroCells, hzs]
  have h63 : n + m ≤ maxLen := by simp only [maxLen]; omega
  have hbb : ∀ q, q ≤ 1000000 → q * i0.bytes ≤ 140737488355328 := by
    intro q hq
    have : q * i0.bytes ≤ 1000000 * 56 := Nat.mul_le_mul hq (by omega)
    omega
  have hbb1 := hbb m (by omega)
  have hbb2 := hbb (n + m) hn
  rcases h with ⟨rfl, rfl, rfl⟩ | ⟨g, c, tl, rfl, hbg, hkg, htl, hnc, hcm, hno1, hno2, h1n, hxl⟩
  · have hr := run_append_nil (P := P) W t t e i0 z ht hi hz a m c1 news hl hnews (by omega) (by omega) (by omega)
    obtain ⟨K, hK⟩ : ∃ K, grownCap W m 0 e = K := ⟨_, rfl⟩
    have hK1 : m ≤ K := by rw [← hK]; exact grownCap_ge W m 0 _
    have hK2 : K ≤ maxLen := by rw [← hK]; exact grownCap_le_maxLen W m 0 _ (by omega)
    rw [hK] at hr
    have hbk : Bk (W.drew.alloc (.cells (news.toArray ++ Builtin.zeroCells z.cells (K - m)) e)) W.heap.size e (news ++ (Builtin.zeroCells z.cells (K - m)).toList) := by
      have := Bk.newA W.drew e (news.toArray ++ Builtin.zeroCells z.cells (K - m))
      simpa using this
    exact ⟨_, _, hr, .inr ⟨W.heap.size, K, _, by rw [Nat.zero_add], hb, hbk, by rw [Array.length_toList, hzl, Nat.zero_add], by omega, hK2, hzn _, hno, by omega, by rw [Nat.zero_add]; exact hl⟩, Chg.of_below (bl_allocd ((Below.refl _ _).drew) _), .inr rfl⟩
  · by_cases hroom : n + m ≤ c
    · have hcm2 : c * i0.size = n * i0.size + (c - n) * i0.size := by rw [← Nat.add_mul]; congr 1; omega
      have hcm3 : (n + m) * i0.size ≤ c * i0.size := Nat.mul_le_mul_right _ hroom
      rw [Nat.add_mul] at hcm3
      have hfit : n * i0.size + news.length ≤ (xs ++ tl).toArray.size := by
        simp only [List.size_toArray, List.length_append, hxl, htl, hl]
        omega
      have hr := run_append_room (P := P) W t t e i0 ht hi g n c (xs ++ tl).toArray hkg a m c1 news hl hnews h1 hroom hfit
      have hcs : ((xs ++ tl).toArray.toList.take (n * i0.size) ++ news ++ (xs ++ tl).toArray.toList.drop (n * i0.size + news.length)) = (xs ++ news) ++ tl.drop news.length := by
        rw [List.take_left' hxl, List.drop_append, List.drop_of_length_le (by omega), hxl, List.nil_append, show n * i0.size + news.length - n * i0.size = news.length from by omega]
      rw [hcs] at hr
      refine ⟨_, _, hr, .inr ⟨g, c, tl.drop news.length, rfl, hbg, setRow_heap W g _ _ e _ hkg, ?_, hroom, hcm, hno1.drop _, hno2.append hno, by omega, by rw [List.length_append, hxl, hl, Nat.add_mul]⟩, ⟨⟨rfl, rfl, rfl, by simp, fun k hk => absurd hk (Nat.not_lt_zero _)⟩, fun k _ hk => setRow_other W g k _ (fun e => hk (by rw [e]; rfl))⟩, .inl rfl⟩
      rw [List.length_drop, htl, hl, ← Nat.sub_mul]
      congr 1
      omega
    · have holds : ∀ (j : Nat) u, xs[j]? = some u → W.cell? ((⟨g, 0, none⟩ : Addr).add j) = some u := by
        intro j u hu
        rw [Addr.add_lit, Nat.zero_add, hkg.cell, List.getElem?_append_left (List.getElem?_eq_some_iff.1 hu).1]
        exact hu
      have hr := run_append_grow (P := P) W t t e i0 z ht hi hz ⟨g, 0, none⟩ n c xs hxl holds a m c1 news hl hnews (by omega) (by simp only [maxLen] at h63; omega) (growslice_fits (by omega) hbb2)
      obtain ⟨K, hK⟩ : ∃ K, grownCap W (n + m) c e = K := ⟨_, rfl⟩
      have hK1 : n + m ≤ K := by rw [← hK]; exact grownCap_ge W (n + m) c _
      have hK2 : K ≤ maxLen := by rw [← hK]; exact grownCap_le_maxLen W (n + m) c _ h63
      rw [hK] at hr
      have hbk : Bk (W.drew.alloc (.cells (xs.toArray ++ news.toArray ++ Builtin.zeroCells z.cells (K - (n + m))) e)) W.heap.size e ((xs ++ news) ++ (Builtin.zeroCells z.cells (K - (n + m))).toList) := by
        have := Bk.newA W.drew e (xs.toArray ++ news.toArray ++ Builtin.zeroCells z.cells (K - (n + m)))
        simpa using this
      exact ⟨_, _, hr, .inr ⟨W.heap.size, K, _, rfl, hb, hbk, by rw [Array.length_toList, hzl], hK1, hK2, hzn _, hno2.append hno, by omega, by rw [List.length_append, hxl, hl, Nat.add_mul]⟩, Chg.of_below (bl_allocd ((Below.refl _ _).drew) _), .inr rfl⟩
end
theorem noU_zero1 {z : Value} (hz : z.cells = #[z]) (hn : ∀ x, z ≠ .int .u64 x) : ∀ k, NoU (Builtin.zeroCells z.cells k).toList := by
  intro k i x h
  have e3 : ∀ u ∈ (Builtin.zeroCells z.cells k).toList, u = z := by
    intro u hu
    rw [hz] at hu
    simp [Builtin.zeroCells] at hu
    obtain ⟨a, ha, e⟩ := hu
    rw [← e]
    have : a % 1 = 0 := Nat.mod_one a
    simp [this]
  have := e3 _ (List.mem_of_getElem? h)
  exact hn _ this.symm
theorem noU_zero3 : ∀ k, NoU (Builtin.zeroCells (Value.cells (.agg #[.bool false, .slice none 0 0, .slice none 0 0])) k).toList := by
  intro k i x h
  have hzl : (Builtin.zeroCells (Value.cells (.agg #[.bool false, .slice none 0 0, .slice none 0 0])) k).size = k * 3 := by simp [Builtin.zeroCells, Value.cells]
  have hi := (List.getElem?_eq_some_iff.1 h).1
  rw [Array.length_toList, hzl] at hi
  have e3 : (Builtin.zeroCells (Value.cells (.agg #[.bool false, .slice none 0 0, .slice none 0 0])) k).toList[i]? = some ((Value.cells (.agg #[.bool false, .slice none 0 0, .slice none 0 0]))[i % 3]!) := by
    simp [Builtin.zeroCells, Value.cells, hi]
  rw [e3] at h
  injection h with h
  rcases (by omega : i % 3 = 0 ∨ i % 3 = 1 ∨ i % 3 = 2) with e | e | e <;> rw [e] at h <;> cases h
theorem wts_noU (l : List Nat) : NoU (wts l) := by
  intro i x h
  obtain ⟨y, _, e⟩ := List.mem_map.1 (List.mem_of_getElem? h)
  cases e
theorem r3s_noU (l : List R3) : NoU (r3s l) := by
  intro i x h
  have := bool_no l [] (fun i x h => by simp at h) i x
  rw [List.append_nil] at this
  exact this h
theorem r3s_ones (l : List R3) : ∀ u ∈ r3s l, u.oneCell' = true := by
  intro u hu
  obtain ⟨r, _, hr⟩ := List.mem_flatMap.1 hu
  exact r3_one r u hr
theorem int27_info : (Tryz.prog.info? 3).map (fun i => (i.zero, i.size, i.bytes)) = some (some (.int .i64 0), 1, 8) := by kernel_rfl
set_option maxRecDepth 100000 in
/-- part27 -/
theorem part27_any {w : World} {n d : Nat} (hd : 0 < d) (h1 : n < 4294967296) (h2 : d < 4294967296) : Calls Tryz.prog 10 #[.int .i64 (n : Nat), .int .i64 (d : Nat)] w fun e w' => ∃ v, e = .returned v ∧ QV w' v (qlow (n : Int) d) ∧ Below w.heap.size w w' := by
  have hb0 : Below w.heap.size w (w.alloc (.cells #[.bool false, .slice none 0 0, .slice none 0 0] 40)) := (Below.refl _ _).alloc (Nat.le_refl _) _
  have k0 := Bk.newA w 40 #[.bool false, .slice none 0 0, .slice none 0 0]
  have H0 := Lib.hid (And.intro hb0 (And.intro k0 (And.intro hd (And.intro h1 h2))))
  clear hb0 k0 hd h1 h2
  go_enter Tryz.func10, Tryz.ntmps10
  go_wp2_with fail
  refine (pair_q H0.out.2.2.1 H0.out.2.2.2.1 H0.out.2.2.2.2).mono ?_
  rintro e w1 ⟨v, rfl, hv, hb1⟩
  obtain ⟨r, rfl⟩ := hv.r3
  have hb2 := below_base H0.out.1 hb1 H0.out.1.size
  have hbA := hb2.alloc hb2.size (.cells #[.bool r.s, .slice r.A r.m r.c, .slice r.B r.n r.d] 40)
  have kA := (H0.out.2.1.belowS hb1).alloc (.cells #[.bool r.s, .slice r.A r.m r.c, .slice r.B r.n r.d] 40)
  obtain ⟨_, _, _, s0, s1, s2⟩ := cells_rat kA
  have HF := Lib.hid (fin_rat kA (hv.below ((Below.refl _ _).alloc (Nat.le_refl _) _)) hbA (Nat.le_refl _))
  clear hv hb1 hb2 hbA kA
  unfold R3.v
  go_wp2_with fail
  refine bodyPost_ret (ret_rat27 rfl rfl HF.out.1) rfl ?_
  exact ⟨_, rfl, HF.out.2⟩
end Go.Proofs.YtlhipaffhehcnaaGreat
namespace Go.Proofs.YtlhipaffhehcnaaGreat
open Go.RowKit Go.Shelf
set_option linter.unusedVariables false
set_option linter.unusedSimpArgs false
/-! How many symbols stay unknown: a plain closure. -/
def unkOf (kn s : List Nat) : List Nat := s.filter fun x => !kn.contains x
def stepK (sets : List (List Nat)) (kn : List Nat) : List Nat := sets.foldl (fun kn s => match unkOf kn s with | [x] => x :: kn | _ => kn) kn
def leftS (k : Nat) (sets : List (List Nat)) : Nat := k - (((List.range k).foldl (fun kn _ => stepK sets kn) []).length)
def tupR (f : List Nat → Option (List (Q × Nat))) (sets : List (List Nat)) : Nat → Option (List (Q × Nat))
  | 0 => some []
  | i + 1 => (tupR f sets i).bind fun l => (f (sets.getD i [])).bind fun m => if Nat.blt 0 m.length && Nat.ble (l.length + m.length) 1000 then some (l ++ m) else none
def tupO (t : List Nat) (k : Nat) (sets : List (List Nat)) : Nat → List (List Nat) → Q → Option (List (Q × Nat))
  | 0, bs, part => some [(part, leftS k bs)]
  | n + 1, bs, part => tupR (fun s => (mulO [part, chanceQ t k s.length]).bind fun m => tupO t k sets n (bs ++ [s]) m) sets sets.length
theorem tupR_at {f : List Nat → Option (List (Q × Nat))} {sets : List (List Nat)} {i m : Nat} {out : List (Q × Nat)} (h : tupR f sets m = some out) (hi : i < m) : ∃ l o, tupR f sets i = some l ∧ f (sets.getD i []) = some o ∧ 1 ≤ o.length ∧ l.length + o.length ≤ 1000 ∧ tupR f sets (i + 1) = some (l ++ o) := by
  have key : ∀ {j : Nat} {out : List (Q × Nat)}, tupR f sets (j + 1) = some out → ∃ l o, tupR f sets j = some l ∧ f (sets.getD j []) = some o ∧ 1 ≤ o.length ∧ l.length + o.length ≤ 1000 ∧ tupR f sets (j + 1) = some (l ++ o) := by
    intro j out h
    have h' := h
    unfold tupR at h
    cases hl : tupR f sets j with
    | none => rw [hl] at h; cases h
    | some l =>
      rw [hl, Option.bind_some] at h
      cases ho : f (sets.getD j []) with
      | none => rw [ho] at h; cases h
      | some o =>
        rw [ho, Option.bind_some] at h
        split at h
        · rename_i hc
          simp only [Bool.and_eq_true, Nat.blt_eq, Nat.ble_eq] at hc
          injection h with h
          exact ⟨l, o, rfl, rfl, hc.1, hc.2, by rw [h', ← h]⟩
        · cases h
  induction m generalizing out with
  | zero => omega
  | succ m ih =>
    obtain ⟨l, o, h1, h2, h3⟩ := key h
    by_cases e : i = m
    · subst e
      exact ⟨l, o, h1, h2, h3⟩
    · exact ih h1 (by omega)
theorem bk_ty {W : World} {g : Nat} {t t' : TypeId} {cs cs' : List Value} (h : Bk W g t cs) (h' : Bk W g t' cs') : t = t' := by
  unfold Bk at h h'
  rw [h] at h'
  injection h' with h'
  injection h' with _ h' _
/-- tuples27, so far. -/
structure TpI (w0 W : World) (r : R3) (part : Q) (vM vL : Value) (out : List (Q × Nat)) : Prop where
  k : Bk W w0.heap.size 40 r.cells
  b : Below w0.heap.size w0 W
  q : QV W r.v part
  m : ∃ rs, OutX W 40 3 (w0.heap.size + 1) vM out.length (r3s rs) ∧ All3 W rs (out.map (·.1))
  l : OutX W 3 1 (w0.heap.size + 1) vL out.length (wts (out.map (·.2)))
/-- What tuples27 tells. -/
def TpPost (w : World) (out : List (Q × Nat)) (e : Ending) (w' : World) : Prop :=
  ∃ vM vL rs, e = .returned (.tuple #[vM, vL, .bool true]) ∧ OutX w' 40 3 w.heap.size vM out.length (r3s rs) ∧ All3 w' rs (out.map (·.1)) ∧ OutX w' 3 1 w.heap.size vL out.length (wts (out.map (·.2))) ∧ Below w.heap.size w w'
section
variable {w0 W W' : World} {r : R3} {part : Q} {vM vL : Value} {out : List (Q × Nat)}
theorem TpI.below (h : TpI w0 W r part vM vL out) (hb : Below W.heap.size W W') : TpI w0 W' r part vM vL out := by
  obtain ⟨rs, h1, h2⟩ := h.m
  exact ⟨h.k.belowS hb, bl_next h.b hb, h.q.below hb, ⟨rs, h1.below hb, h2.below hb⟩, h.l.below hb⟩
theorem TpI.app (h : TpI w0 W r part vM vL out) {B : Nat} {vM2 vL2 : Value} {rs2 : List R3} {out2 : List (Q × Nat)} {m : Nat} (hm : out2.length = m) (h2 : OutX W 40 3 B vM2 m (r3s rs2)) (ha : All3 W rs2 (out2.map (·.1))) (hl : OutX W 3 1 B vL2 m (wts (out2.map (·.2)))) (hm1 : 1 ≤ m) (hn : out.length + m ≤ 1000) :
    ∃ gM cM gL cL vM' W4 vL' W5, vM2 = .slice (some ⟨gM, 0, none⟩) m cM ∧ vL2 = .slice (some ⟨gL, 0, none⟩) m cL ∧
      (Builtin.append_ #[30, 30] 30 #[vM, .slice (some ⟨gM, 0, none⟩) m cM]).run Tryz.prog W = .ok vM' W4 ∧
      (Builtin.append_ #[22, 22] 22 #[vL, .slice (some ⟨gL, 0, none⟩) m cL]).run Tryz.prog W4 = .ok vL' W5 ∧ TpI w0 W5 r part vM' vL' (out ++ out2) := by
  obtain ⟨i0, hi0, hz0, hz1, hz2⟩ := info_parts27 rat_info
  obtain ⟨i1, hi1, hy0, hy1, hy2⟩ := info_parts27 int27_info
  obtain ⟨rs, m1, m2⟩ := h.m
  have hg0 := h.k.lt
  have l2 := h2.len
  have l3 := hl.len
  rcases h2 with ⟨_, e, _⟩ | ⟨gM, cM, tM, rfl, hgM, kM, _, _, _, hnM, hnM2, _, _⟩
  · omega
  rcases hl with ⟨_, e, _⟩ | ⟨gL, cL, tL, rfl, hgL, kL, tl1, tl2, tl3, hnL, hnL2, tl4, tl5⟩
  · omega
  have newsM : ∀ (j : Nat) u, (r3s rs2)[j]? = some u → W.cell? ((⟨gM, 0, none⟩ : Addr).add j) = some u := by
    intro j u hu
    rw [Addr.add_lit, Nat.zero_add, kM.cell, List.getElem?_append_left (List.getElem?_eq_some_iff.1 hu).1]
    exact hu
  obtain ⟨vM', W4, hr1, o1, c1, at1⟩ := run_append_x (c1 := cM) Tryz.underlying30 hi0 hz0 hz1 hz2 rfl noU_zero3 (by omega) m1 l2 newsM (r3s_ones rs2) hnM2 hm1 (by omega) (show w0.heap.size + 1 ≤ W.heap.size by omega)
  have q1 := m1.turn c1
  have nM : ∀ {g : Nat} {cs : List Value}, Bk W g 3 cs → ¬ vM.ownBlock = some g := fun hb e => by
    obtain ⟨_, cur, hb2, _⟩ := m1.blk e
    exact absurd (bk_ty hb hb2) (by decide)
  have kL4 := q1.bk kL (nM kL)
  have newsL : ∀ (j : Nat) u, (wts (out2.map (·.2)))[j]? = some u → W4.cell? ((⟨gL, 0, none⟩ : Addr).add j) = some u := by
    intro j u hu
    rw [Addr.add_lit, Nat.zero_add, kL4.cell, List.getElem?_append_left (List.getElem?_eq_some_iff.1 hu).1]
    exact hu
  have l4 := h.l.kq q1 (fun g e => by
    obtain ⟨_, cur, hb2, _⟩ := h.l.blk e
    exact nM hb2)
  have hs1 := c1.size
  obtain ⟨vL', W5, hr2, o2, c2, at2⟩ := run_append_x (c1 := cL) Tryz.underlying22 hi1 hy0 hy1 hy2 rfl (noU_zero1 rfl (fun x => by simp)) (by omega) l4 l3 newsL (wts_one _) hnL2 hm1 (by omega) (show w0.heap.size + 1 ≤ W4.heap.size by omega)
  have q2 := l4.turn c2
  have nL : ∀ {g : Nat} {cs : List Value}, Bk W4 g 40 cs → ¬ vL.ownBlock = some g := fun hb e => by
    obtain ⟨_, cur, hb2, _⟩ := l4.blk e
    exact absurd (bk_ty hb hb2) (by decide)
  have k4 := q1.bk h.k (fun e => by have := (m1.blk e).1; omega)
  have b4 := c1.below h.b (fun k _ e => by have := (m1.blk e).1; omega) h.b.size
  refine ⟨gM, cM, gL, cL, vM', W4, vL', W5, rfl, rfl, hr1, hr2, ⟨q2.bk k4 (nL k4), c2.below b4 (fun k _ e => by have := (l4.blk e).1; omega) b4.size, q2.qv (q1.qv h.q), ⟨rs ++ rs2, ?_, ?_⟩, ?_⟩⟩
  · rw [r3s_append, List.length_append, hm]
    exact o1.kq q2 (fun g e => by
      obtain ⟨_, cur, hb2, _⟩ := o1.blk e
      exact nL hb2)
  · rw [List.map_append]
    exact q2.all3 (q1.all3 (m2.append ha))
  · rw [List.length_append, hm, List.map_append, show wts (out.map (·.2) ++ out2.map (·.2)) = wts (out.map (·.2)) ++ wts (out2.map (·.2)) from by simp [wts]]
    exact o2
end
end Go.Proofs.YtlhipaffhehcnaaGreat
