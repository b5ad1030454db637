/- AliasCounts: its walk. -/
import Derived.Test.YtfcoeonabppjiaaCt14
namespace Go.Proofs.Ytfcoeonabppjiaa
open Go.RowKit
set_option linter.unusedVariables false
/-- What stays while places are counted: the alias, the table, the counts. -/
def CtW (w0 : World) (a off P C O L Q : Nat) (T : Int) (xs ys t often : List Int) (w : World) : Prop :=
  AlVar w0 P C O L T xs ys w ∧ Rd w (some ⟨a, off, none⟩) L (nums t) ∧ Bk w Q 3 (nums often) ∧ w0.heap.size ≤ Q ∧ a ≠ Q ∧ P ≠ Q ∧ C ≠ Q ∧ O ≠ Q
theorem CtW.below {w0 w w' : World} {a off P C O L Q : Nat} {T : Int} {xs ys t often : List Int} (h : CtW w0 a off P C O L Q T xs ys t often w) (hb : Below w.heap.size w w') : CtW w0 a off P C O L Q T xs ys t often w' :=
  ⟨h.1.below hb, h.2.1.below hb, h.2.2.1.belowS hb, h.2.2.2⟩
theorem CtW.set_ {w0 w : World} {a off P C O L Q : Nat} {T : Int} {xs ys t often : List Int} (h : CtW w0 a off P C O L Q T xs ys t often w) (k : Nat) (x : Int) : CtW w0 a off P C O L Q T xs ys t (often.set k x) (w.setCell ⟨Q, k, none⟩ (.int .i64 x)) := by
  obtain ⟨⟨hp, ⟨A, n, c, B, m, d, e, h1, h2, h3⟩, hbl⟩, hr, hq, n1, n2, n3, n4, n5⟩ := h
  have hc : Chg (fun j => j = Q) w (w.setCell ⟨Q, k, none⟩ (.int .i64 x)) := (Chg.refl (fun j => j = Q) w).set_ (show Q = Q from rfl) k _
  have hA : A = some ⟨C, 0, none⟩ ∧ B = some ⟨O, 0, none⟩ := by
    injection e with e; simp at e; exact ⟨e.1.1.symm, e.2.1.symm⟩
  obtain ⟨rfl, rfl⟩ := hA
  refine ⟨⟨hp.far n3 _, ⟨_, n, c, _, m, d, e, hc.rd h1 ?_, hc.rd h2 ?_, h3⟩, hc.below hbl ?_ hbl.size⟩, hc.rd hr ?_, ?_, n1, n2, n3, n4, n5⟩
  · intro b hb; cases hb; exact n4
  · intro b hb; cases hb; exact n5
  · rintro j _ rfl; exact n1
  · rintro b hb; cases hb; exact n2
  · have := hq.set_ k (.int .i64 x); rw [nums_set] at this; exact this
theorem CtW.drewN {w0 w : World} {a off P C O L Q : Nat} {T : Int} {xs ys t often : List Int} (h : CtW w0 a off P C O L Q T xs ys t often w) (k : Nat) : CtW w0 a off P C O L Q T xs ys t often (w.drewN k) :=
  h.below (below_dN (Below.refl _ _) k)
theorem ctW_new {w0 w : World} {a off P C O L : Nat} {T : Int} {xs ys t often : List Int} (hv : AlVar w0 P C O L T xs ys w) (hr : Rd w (some ⟨a, off, none⟩) L (nums t)) (n2 : a < w.heap.size) (n4 : C < w.heap.size) (n5 : O < w.heap.size) :
    CtW w0 a off P C O L w.heap.size T xs ys t often (w.alloc (.cells (nums often).toArray 3)) := by
  have hb := (Below.refl w.heap.size w).alloc (Nat.le_refl _) (.cells (nums often).toArray 3)
  have n3 := hv.1.lt
  exact ⟨hv.below hb, hr.below hb, Bk.new w _ _, hv.2.2.size, by omega, by omega, by omega, by omega⟩
set_option maxRecDepth 100000 in
set_option maxHeartbeats 8000000 in
/-- artesianlaw14.AliasCounts -/
theorem counts_walk {w : World} {A : Option Addr} {n c : Nat} {t : List Int} (h : Rd w A n (nums t) ∧ n ≤ c ∧ n ≤ 17592186043904 ∧ ∀ x ∈ t, -9223372036854775808 ≤ x ∧ x ≤ 9223372036854775807) :
    Calls Try.prog 8 #[.slice A n c] w fun e w' => e = .returned (.bool true) ∧ Below w.heap.size w w' := by
  obtain ⟨hr, hc, hn, hbz⟩ := h
  have hx : t.length = n := by have := hr.1; simpa [nums_length] using this
  have HR := Lib.hid (And.intro hr (And.intro hn hx))
  clear hr hc hn hx hbz
  go_enter Try.func8, Try.ntmps8
  go_wp2_with fail
  refine awake_any.mono ?_
  rintro e w1 ⟨rfl, hb1⟩
  have H1 := Lib.hid (And.intro hb1 (HR.out.1.below hb1))
  clear hb1
  by_cases hbig : n > 8
  · have d1 : decide ((n : Int) > 8) = true := by simp; omega
    have d2 : decide ((8 : Int) < (n : Int)) = true := by simp; omega
    have d3 : decide (8 < n) = true := by simp; omega
    clear hbig
    go_wp2
    go_ret
    exact ⟨rfl, H1.out.1⟩
  · have d1 : decide ((n : Int) > 8) = false := by simp; omega
    have d2 : decide ((8 : Int) < (n : Int)) = false := by simp; omega
    have d3 : decide (8 < n) = false := by simp; omega
    have nb : n ≤ 8 := by omega
    clear hbig
    go_wp2
    go_loopw [4] (fun i wr => ∃ (k : Nat), k ≤ n ∧ i = .int .i64 k ∧ Below w.heap.size w wr ∧ Rd wr A n (nums t)) (fun i wr => n - (intOf i).toNat)
    case atStart => exact ⟨0, by omega, rfl, H1.out.1, H1.out.2⟩
    case round =>
      obtain ⟨k, hk, rfl, hv, hrd⟩ := hrel
      clear H1
      have H1 := Lib.hid (And.intro hv hrd)
      by_cases hlt : k < n
      · obtain ⟨a, off, rfl, hbl, hcc⟩ := hrd.form (by omega)
        have hkt : k < t.length := by rw [HR.out.2.2]; exact hlt
        have cx := hcc k _ (nums_gi hkt)
        have km : (k : Int) < (n : Int) := by omega
        generalize gi t k = v at cx
        have HW := Lib.hid (And.intro hlt hbl)
        clear hv hrd hlt hk hcc hbl hkt
        by_cases hvb : v > 12
        · have e1 : decide (v > 12) = true := by simpa using hvb
          have e2 : decide (12 < v) = true := by simpa using hvb
          clear hvb
          go_wp2
          go_ret
          exact ⟨rfl, H1.out.1⟩
        · have e1 : decide (v > 12) = false := by simpa using hvb
          have e2 : decide (12 < v) = false := by simpa using hvb
          clear hvb
          go_wp2
          exact ⟨⟨k + 1, by have := HW.out.1; omega, by go_num, H1.out.1, H1.out.2⟩, by have := HW.out.1; simp [intOf]; omega⟩
      · obtain rfl : k = n := by omega
        clear hlt hk hv hrd
        obtain ⟨w1, rfl⟩ : ∃ w1 : World, w1 = wr := ⟨_, rfl⟩
        cases hok : tabOk t with
        | false =>
          have HO := Lib.hid hok
          clear hok
          go_wp2_with fail
          refine (make_no H1.out.2 (by omega) HO.out).mono ?_
          rintro e w2 ⟨rfl, hb2⟩
          have h2 := below_base H1.out.1 hb2 H1.out.1.size
          have H3 := Lib.hid (h2.alloc h2.size (.cells #[.int .i64 0, .slice none 0 0, .slice none 0 0] 26))
          clear hb2 h2
          go_wp2
          go_ret
          exact ⟨rfl, H3.out⟩
        | true =>
          have HO := Lib.hid hok
          clear hok
          go_wp2_with fail
          refine (make_ok H1.out.2 (by omega) HO.out).mono ?_
          rintro e w2 ⟨C, O, rfl, hC, hO, _, _, _, hb2⟩
          have hL : t.length = k := HR.out.2.2
          have hal := al_of HO.out hC hO
          have hT := (alOk_iff _ _ _).1 (alOk_mk HO.out)
          have hlc := (mk_inv HO.out).lc
          have hk1 : 1 ≤ k := by omega
          have hT1 : 1 ≤ t.sum := hT.1
          have hT2 : t.sum ≤ 1099511627776 := hT.2.1
          rw [hL] at hal ⊢
          rw [hL] at hlc
          obtain ⟨a, off, rfl, hbl, hcc⟩ := (H1.out.2.below hb2).form (by omega)
          have hv := alVar_new hal (below_base H1.out.1 hb2 H1.out.1.size)
          have hr3 := (H1.out.2.below hb2).below ((Below.refl w2.heap.size w2).alloc (Nat.le_refl _) (.cells #[.int .i64 t.sum, .slice (some ⟨C, 0, none⟩) k k, .slice (some ⟨O, 0, none⟩) k k] 26))
          have hnew := ctW_new (often := List.replicate k 0) hv hr3 (by rw [World.size_alloc]; omega) (by rw [World.size_alloc]; have := hC.lt; omega) (by rw [World.size_alloc]; have := hO.lt; omega)
          have hst : ∃ w5, w5 = (w2.alloc (.cells #[.int .i64 t.sum, .slice (some ⟨C, 0, none⟩) k k, .slice (some ⟨O, 0, none⟩) k k] 26)).alloc (.cells (nums (List.replicate k 0)).toArray 3) ∧ CtW w a off w2.heap.size C O k (w2.heap.size + 1) t.sum (mk t).cut (mk t).other t (List.replicate k 0) w5 := by
            refine ⟨_, rfl, ?_⟩
            rw [World.size_alloc] at hnew
            exact hnew
          obtain ⟨w5, hw5, hcw⟩ := hst
          have hci := CtI.start (alOk_mk HO.out)
          rw [hlc] at hci
          have H5 := Lib.hid (And.intro hci hcw)
          have HL := Lib.hid (And.intro hL hlc)
          have hmk := run_make_ints k (by omega)
          generalize hZ : nums (List.replicate k 0) = Z at hmk hw5
          clear hb2 hC hO hal hT hlc hbl hcc hv hr3 hnew hci hcw hL hZ
          go_wp2
          rw [← hw5]
          generalize w2.heap.size + 1 = Q at H5 ⊢
          generalize w2.heap.size = P at H5 ⊢
          clear hw5 hmk H1
          go_loopw [8] (fun i wr => ∃ (c : Nat) (often : List Int), c ≤ k ∧ i = .int .i64 c ∧ CtI t.sum (mk t).cut (mk t).other c 0 often ∧ CtW w a off P C O k Q t.sum (mk t).cut (mk t).other t often wr) (fun i wr => k - (intOf i).toNat)
          case atStart => exact ⟨0, List.replicate k 0, by omega, rfl, H5.out.1, H5.out.2⟩
          case round =>
            obtain ⟨c, often, hc, rfl, hci, hcw⟩ := hrel
            clear H5
            have HI := Lib.hid (And.intro hci hcw)
            clear hci hcw
            obtain ⟨wo, rfl⟩ : ∃ wo : World, wo = wr := ⟨_, rfl⟩
            by_cases hck : c < k
            · have km : (c : Int) < (k : Int) := by omega
              have c8 : (c : Int) ≤ 7 := by omega
              have HCK := Lib.hid hck
              clear hck hc
              go_wp2
              go_loopw [9] (fun i wr => ∃ (l : Nat) (often : List Int), (l : Int) ≤ t.sum ∧ i = .int .i64 l ∧ CtI t.sum (mk t).cut (mk t).other c l often ∧ CtW w a off P C O k Q t.sum (mk t).cut (mk t).other t often wr) (fun i wr => t.sum.toNat - (intOf i).toNat)
              case atStart => exact ⟨0, often, by omega, rfl, HI.out.1, HI.out.2⟩
              case round =>
                obtain ⟨l, oft, hl, rfl, hci, hcw⟩ := hrel
                clear HI
                have HI := Lib.hid (And.intro hci hcw)
                have c0 := hcw.1.1.cell 0
                have c1 := hcw.1.1.cell 1
                have c2 := hcw.1.1.cell 2
                clear hci hcw
                by_cases hlt : (l : Int) < t.sum
                · have HLT := Lib.hid hlt
                  go_wp2_with fail
                  refine (pick_any (c : Int) (l : Int) HI.out.2.1.2.1).mono ?_
                  rintro e w6 ⟨rfl, hb6⟩
                  have hcl : c < (mk t).cut.length := by rw [HL.out.2]; exact HCK.out
                  obtain ⟨p, hp, hpk⟩ := pkN_in (lev := (l : Int)) (alOk_mk HO.out) hcl
                  rw [pick_pk (alOk_mk HO.out) hcl (by omega) hlt, hpk]
                  have hcw := HI.out.2.below hb6
                  have hst := HI.out.1.step (alOk_mk HO.out) (by omega) hp hpk
                  have hpo : p < oft.length := by rw [HI.out.1.1]; exact hp
                  have hbd := HI.out.1.2 p hp
                  have cq := hcw.2.2.1.cell p
                  rw [nums_gi hpo] at cq
                  have fq := hcw.2.2.1.frozen p
                  rw [HL.out.2] at hp
                  generalize gi oft p = z at cq hst hbd
                  have z0 : 0 ≤ z := hbd.2.1
                  have z1 : z ≤ 8796093022208 := by have := hbd.2.2; omega
                  have pm : (p : Int) < (k : Int) := by omega
                  have e1 : decide ((p : Int) < 0) = false := by simp
                  have e2 : decide ((p : Int) ≥ (k : Int)) = false := by simp; omega
                  have e3 : decide ((k : Int) ≤ (p : Int)) = false := by simp; omega
                  have e4 : decide (k ≤ p) = false := by simp; omega
                  have HS := Lib.hid (And.intro hst hcw)
                  clear hst hcw hbd hpo hp hpk hcl hb6 c0 c1 c2
                  go_wp2
                  exact ⟨⟨l + 1, oft.set p (z + 1), by have := HLT.out; omega, by go_num, by have := HS.out.1; rw [show ((l + 1 : Nat) : Int) = (l : Int) + 1 from by omega]; exact this, HS.out.2.set_ p (z + 1)⟩, by have := HLT.out; simp [intOf]; omega⟩
                · have hle : (l : Int) = t.sum := by omega
                  have hco := HI.out.1
                  rw [hle] at hco
                  have HN := Lib.hid (hco.col (alOk_mk HO.out))
                  clear hco hle
                  go_wp2
                  exact ⟨⟨c + 1, oft, by have := HCK.out; omega, by go_num, HN.out, HI.out.2⟩, by have := HCK.out; simp [intOf]; omega⟩
            · obtain rfl : c = k := by omega
              clear hck hc
              go_wp2
              go_loopw [12] (fun i wr => ∃ (i' : Nat), i' ≤ c ∧ i = .int .i64 i' ∧ CtW w a off P C O c Q t.sum (mk t).cut (mk t).other t often wr) (fun i wr => c - (intOf i).toNat)
              case atStart => exact ⟨0, by omega, rfl, HI.out.2⟩
              case round =>
                obtain ⟨i', hi, rfl, hcw⟩ := hrel
                have HK := Lib.hid hcw
                by_cases hlt : i' < c
                · have hkt : i' < t.length := by rw [HL.out.1]; exact hlt
                  obtain ⟨a2, off2, e2, hbl, hcc⟩ := hcw.2.1.form (by omega)
                  obtain ⟨rfl, rfl⟩ : a2 = a ∧ off2 = off := by cases e2; exact ⟨rfl, rfl⟩
                  have cx := hcc i' _ (nums_gi hkt)
                  have hio : i' < often.length := by rw [HI.out.1.1, HL.out.2]; exact hlt
                  have cq := hcw.2.2.1.cell i'
                  rw [nums_gi hio] at cq
                  have hlast := HI.out.1
                  rw [← HL.out.1] at hlast
                  have hgo := hlast.last HO.out hkt
                  have hwm := weight_mk HO.out hkt
                  have hm := ((tabOk_iff t).1 HO.out).2.1 _ (gi_mem hkt)
                  rw [HL.out.1] at hgo hwm
                  have km : (i' : Int) < (c : Int) := by omega
                  have hv0 : 0 ≤ gi t i' * (c : Int) := Int.mul_nonneg hm.1 (by omega)
                  have hv1 : gi t i' * (c : Int) ≤ 16777215 * 8 := Int.mul_le_mul hm.2 (by omega) (by omega) (by omega)
                  obtain ⟨v, hvv⟩ : ∃ v, gi t i' * (c : Int) = v := ⟨_, rfl⟩
                  rw [hvv] at hv0 hv1 hgo hwm
                  rw [hgo] at cq
                  have hwr : IntKind.i64.wrap v = v := by rw [IntKind.wrap_i64]; omega
                  have hnv : (v != v) = false := by simp
                  have c0 := hcw.1.1.cell 0
                  have c1 := hcw.1.1.cell 1
                  have c2 := hcw.1.1.cell 2
                  have HW := Lib.hid (And.intro hwm hlt)
                  have HBL := Lib.hid hbl
                  clear hcc hbl hkt hm hwm hcw hlt hi hlast hgo hio e2
                  go_wp2_with fail
                  go_cut [105] (fun s wx => s = .bool false ∧ CtW w a2 off2 P C O c Q t.sum (mk t).cut (mk t).other t often wx)
                  case first =>
                    have HC : Hid (wr.cell? ⟨P, 0, none⟩ = some (.int .i64 t.sum) ∧ wr.cell? ⟨P, 1, none⟩ = some (.slice (some ⟨C, 0, none⟩) c c) ∧ wr.cell? ⟨P, 2, none⟩ = some (.slice (some ⟨O, 0, none⟩) c c) ∧ wr.cell? ⟨a2, off2 + i', none⟩ = some (.int .i64 (gi t i')) ∧ wr.cell? ⟨Q, i', none⟩ = some (.int .i64 v)) := Lib.hid ⟨c0, c1, c2, cx, cq⟩
                    go_region_held3 (fun w' => w'.cell? ⟨P, 0, none⟩ = some (.int .i64 t.sum) ∧ w'.cell? ⟨P, 1, none⟩ = some (.slice (some ⟨C, 0, none⟩) c c) ∧ w'.cell? ⟨P, 2, none⟩ = some (.slice (some ⟨O, 0, none⟩) c c) ∧ w'.cell? ⟨a2, off2 + i', none⟩ = some (.int .i64 (gi t i')) ∧ w'.cell? ⟨Q, i', none⟩ = some (.int .i64 v))
                      (first | exact S2.out | exact HC.out)
                      ((first | (go_at_call 24; refine (weighs_any (i' : Int) v (HK.out.1.2.1.below (Below.refl _ _).drew)).mono ?_; rintro e w4 ⟨rfl, hb4⟩; have hb5 := below_undrew hb4; have S1 := Lib.hid (HK.out.below hb5); rw [show ((weightV t.sum (mk t).cut (mk t).other (i' : Int)).1 == v && (weightV t.sum (mk t).cut (mk t).other (i' : Int)).2 == 0) = true from by rw [HW.out.1]; simp]; have S2 := Lib.hid (And.intro (S1.out.1.1.cell 0) (And.intro (S1.out.1.1.cell 1) (And.intro (S1.out.1.1.cell 2) (And.intro ((hb5.cell (p := ⟨a2, off2 + i', none⟩) HBL.out).trans HC.out.2.2.2.1) ((hb5.cell (p := ⟨Q, i', none⟩) HK.out.2.2.1.lt).trans HC.out.2.2.2.2))))); clear hb4 hb5)))
                    all_goals go_wp2_with fail
                    all_goals go_meet
                    all_goals exact ⟨rfl, S1.out⟩
                  case rest =>
                    obtain ⟨rfl, hcw⟩ := hcut
                    have H6 := Lib.hid hcw
                    clear hcw cx c0 c1 c2 cq
                    go_wp2
                    exact ⟨⟨i' + 1, by have := HW.out.2; omega, by go_num, H6.out⟩, by have := HW.out.2; simp [intOf]; omega⟩
                · obtain rfl : i' = c := by omega
                  clear hlt hi hcw
                  go_wp2
                  go_ret
                  exact ⟨rfl, HK.out.1.2.2⟩
end Go.Proofs.Ytfcoeonabppjiaa
