/- TopLeft: tuples27. TopLeft: alive27. TopLeft: SameNat, SameWhole, SameRatio of equal ones. TopLeft: what left27 leaves, of all tuples of sets. TopLeft: its plain model. TopLeft: the memory of its last loops. TopLeft: its last loops in plain, step by step. -/
import Derived.Test.YtlhipaffhehcnaaGreatT41
import Derived.Test.YtlhipaffhehcnaaGreatT38
import Derived.Test.YtlhipaffhehcnaaGreatT36
namespace Go.Proofs.YtlhipaffhehcnaaGreat
open Go.RowKit Go.Shelf
set_option linter.unusedVariables false
set_option linter.unusedSimpArgs false
/-- What tuples27 stands on. -/
structure TpC (N0 k nt : Nat) (t : List Nat) (sets : List (List Nat)) : Prop where
  k1 : 1 ≤ k
  k8 : k ≤ 8
  t : tOk t k = true
  n0 : N0 ≤ 8
  ns : sets.length ≤ 100
  s : ∀ s ∈ sets, 1 ≤ s.length ∧ s.length ≤ nt ∧ ∀ x ∈ s, x ≤ 1000
  l : ∀ bs : List (List Nat), bs.length = N0 → (∀ b ∈ bs, b ∈ sets) → leftB k bs (leftS k bs) = true
set_option maxRecDepth 100000 in
set_option maxHeartbeats 3200000 in
theorem tuples0_any {N0 k nt nc ns cs nb cb : Nat} {t : List Nat} {sets bs : List (List Nat)} (hC : TpC N0 k nt t sets) (hnt : nt ≤ 3) {w : World} {A S B : Option Addr} {hsB : List Hd} {va : Value} {part : Q}
    (hB : Rd w B nb (hds hsB)) (hLB : LL w hsB bs) (hbs : ∀ b ∈ bs, b ∈ sets) (hN : bs.length = N0) (hq : QV w va part) :
    Calls Tryz.prog 9 #[.slice A nt nc, .int .i64 (k : Nat), .slice S ns cs, .slice B nb cb, va, .int .i64 0] w (TpPost w [(part, leftS k bs)]) := by
  obtain ⟨r, rfl⟩ := hq.r3
  have hnb : nb = bs.length := by rw [← hLB.len]; have := hB.1; simpa [hds] using this.symm
  obtain ⟨g, hg⟩ : ∃ g, w.heap.size = g := ⟨_, rfl⟩
  obtain ⟨w1, hw1⟩ : ∃ w1, w.alloc (.cells #[.bool r.s, .slice r.A r.m r.c, .slice r.B r.n r.d] 40) = w1 := ⟨_, rfl⟩
  have hb1 : Below w.heap.size w w1 := by rw [← hw1]; exact bl_allocd (Below.refl _ _) _
  have k1 : Bk w1 g 40 r.cells := by rw [← hw1, ← hg]; exact Bk.newA w 40 _
  have HL := Lib.hid (left27_any (c := cb) (hB.below hb1) (hLB.below hb1) (by have := hC.n0; omega) (fun l hl => ⟨by have := (hC.s l (hbs l hl)).2.1; omega, (hC.s l (hbs l hl)).2.2⟩) hC.k1 hC.k8 (hC.l bs hN hbs))
  obtain ⟨u, hu⟩ : ∃ u, leftS k bs = u := ⟨_, rfl⟩
  rw [hu] at HL ⊢
  have H1 := Lib.hid (And.intro hb1 (And.intro k1 (And.intro (hq.below hb1) hg)))
  clear hB hLB hbs hN hq hb1 k1 hu hnb hC hnt
  unfold R3.v
  go_enter Tryz.func9, Tryz.ntmps9
  go_wp2_with fail
  refine HL.out.mono ?_
  rintro e w2 ⟨rfl, hb2⟩
  have k2 := H1.out.2.1.belowS hb2
  obtain ⟨c0, c1, c2, _, _, _⟩ := cells_rat k2
  have du : decide ((u : Int) ≥ 0) = true := decide_eq_true (by omega)
  have du' : decide ((0 : Int) ≤ (u : Int)) = true := decide_eq_true (by omega)
  have H2 := Lib.hid (And.intro (bl_next H1.out.1 hb2) (And.intro (H1.out.2.2.1.below hb2) H1.out.1.size))
  clear k2 hb2 hw1
  go_wp2_with fail
  go_ret3
  have b3 := bl_allocd (bl_allocd H2.out.1 (.cells #[.bool r.s, .slice r.A r.m r.c, .slice r.B r.n r.d] 40)) (.cells #[.int .i64 (u : Nat)] 3)
  have hz := H2.out.1.size
  refine ⟨_, _, [r], rfl, out_one ((Bk.newA w2 40 #[.bool r.s, .slice r.A r.m r.c, .slice r.B r.n r.d]).alloc _) hz (r3s_noU [r]) rfl, ⟨(H2.out.2.1.allocd _).allocd _, trivial⟩, out_one (Bk.new2 w2 _ 3 #[.int .i64 (u : Nat)]) (by omega) (wts_noU [u]) rfl, b3⟩
/-- What is to be shown of n sets more. -/
def TpS (N0 k nt : Nat) (t : List Nat) (sets : List (List Nat)) (n : Nat) : Prop :=
  ∀ (w : World) (A S B : Option Addr) (nc ns cs nb cb : Nat) (hsS hsB : List Hd) (bs : List (List Nat)) (va : Value) (part : Q) (out : List (Q × Nat)), Tb w A nt t → Rd w S ns (hds hsS) → LL w hsS sets → Rd w B nb (hds hsB) → LL w hsB bs → (∀ b ∈ bs, b ∈ sets) → bs.length + n = N0 → QV w va part → tupO t k sets n bs part = some out →
    Calls Tryz.prog 9 #[.slice A nt nc, .int .i64 (k : Nat), .slice S ns cs, .slice B nb cb, va, .int .i64 (n : Nat)] w (TpPost w out)
theorem nx_c {wq w3 : World} {o : Obj} {t : TypeId} {u : Value} (hg : ((wq.alloc o).alloc (.cells #[u] t)).drew.grownBy w3 (Value.slice (some ⟨wq.heap.size, 0, none⟩) 0 0).ownBlock) : Rd w3 (some ⟨wq.heap.size + 1, 0, none⟩) 1 [u] := by
  have h := (Rd.one (wq.alloc o) t u).drew
  rw [World.size_alloc] at h
  exact h.grownO hg (fun a ha e => by
    injection ha with ha
    subst ha
    have : wq.heap.size + 1 = wq.heap.size := Option.some.inj e
    omega)
theorem nx_d {wq w3 : World} {o : Obj} {t : TypeId} {u : Value} (hg : ((wq.alloc (.cells #[u] t)).alloc o).drew.grownBy w3 (Value.slice (some ⟨wq.heap.size + 1, 0, none⟩) 0 0).ownBlock) : Rd w3 (some ⟨wq.heap.size, 0, none⟩) 1 [u] := by
  have h := ((Rd.one wq t u).alloc o).drew
  exact h.grownO hg (fun a ha e => by
    injection ha with ha
    subst ha
    have : wq.heap.size = wq.heap.size + 1 := Option.some.inj e
    omega)
set_option maxRecDepth 100000 in
set_option maxHeartbeats 6400000 in
theorem tuples_step {N0 k nt : Nat} {t : List Nat} {sets : List (List Nat)} (hC : TpC N0 k nt t sets) (hnt : nt ≤ 3) (n : Nat) (IH : TpS N0 k nt t sets n) : TpS N0 k nt t sets (n + 1) := by
  intro w A S B nc ns cs nb cb hsS hsB bs va part out hT hS hLS hB hLB hbs hN hq hO
  obtain ⟨r, rfl⟩ := hq.r3
  have hns : hsS.length = ns := by have := hS.1; simpa [hds] using this
  have hsl : sets.length = ns := by rw [← hLS.len, hns]
  have hnb : nb = bs.length := by rw [← hLB.len]; have := hB.1; simpa [hds] using this.symm
  have hnsI : (ns : Int) ≤ 100 := by have := hC.ns; omega
  obtain ⟨N, hN1⟩ : ∃ N, n + 1 = N := ⟨_, rfl⟩
  have hwm : IntKind.i64.wrap ((N : Int) - 1) = (n : Int) := by have := hC.n0; rw [IntKind.wrap_i64]; omega
  have hm : (N : Int) - 1 = (n : Int) := by omega
  have HWN := Lib.hid (show wrap64 (n : Int) = (n : Int) from by have := hC.n0; unfold wrap64; omega)
  have d0 : decide ((N : Int) = 0) = false := decide_eq_false (by omega)
  have d0' : decide (N = 0) = false := decide_eq_false (by omega)
  have d0'' : ¬ N = 0 := by omega
  have d0b : ((N : Int) == 0) = false := by simpa using d0''
  obtain ⟨g0, hg0⟩ : ∃ g0, w.heap.size = g0 := ⟨_, rfl⟩
  unfold tupO at hO
  obtain ⟨F, hF⟩ : ∃ F : List Nat → Option (List (Q × Nat)), (fun s : List Nat => (mulO [part, chanceQ t k s.length]).bind fun m => tupO t k sets n (bs ++ [s]) m) = F := ⟨_, rfl⟩
  rw [hF, hsl] at hO
  have HP := Lib.hid (And.intro hT (And.intro hS (And.intro hLS (And.intro hB (And.intro hLB (And.intro hbs (And.intro hN (And.intro hO (And.intro hns (And.intro hsl (And.intro hnb (And.intro hC IH))))))))))))
  have HF := Lib.hid (fun s : List Nat => congrFun hF s)
  have HQ := Lib.hid hq
  rw [hN1]
  clear hT hS hLS hB hLB hbs hN hO hns hsl hnb hC IH hF hq hN1 hnt
  unfold R3.v
  go_enter Tryz.func9, Tryz.ntmps9
  go_wp2_with fail
  go_loopw [16, 17, 18] (fun vM vL i W => ∃ (j : Nat) (l : List (Q × Nat)), j ≤ ns ∧ i = .int .i64 j ∧ tupR F sets j = some l ∧ TpI w W r part vM vL l) (fun vM vL i W => ns - (intOf i).toNat)
  case atStart => exact ⟨0, [], by omega, rfl, rfl, ⟨Bk.newA w 40 #[.bool r.s, .slice r.A r.m r.c, .slice r.B r.n r.d], bl_allocd (Below.refl _ _) _, HQ.out.allocd _, ⟨[], out_nil _ _ _ _, trivial⟩, out_nil _ _ _ _⟩⟩
  case round =>
    obtain ⟨j, l, hj, rfl, hl, hI⟩ := hrel
    by_cases hlt : j < ns
    · have kn : (j : Int) < (ns : Int) := by omega
      have kd : decide ((j : Int) < (ns : Int)) = true := decide_eq_true kn
      have kd' : decide (j < ns) = true := decide_eq_true hlt
      obtain ⟨hT, hS, hLS, hB, hLB, hbs, hN, hO, hns, hsl, hnb, hC, IH⟩ := HP.out
      have hh : j < hsS.length := by omega
      have hg : j < sets.length := by omega
      obtain ⟨g1, g2, g3, g4⟩ := hLS.get hh hg
      obtain ⟨b, off, rfl, hc⟩ := hS.2 (by omega)
      have hAb : b < w.heap.size := hS.lt (by omega) ⟨b, off, none⟩ rfl
      have hc1 : w.cell? ⟨b, off + j, none⟩ = some (.slice (hsS[j]).A (hsS[j]).n (hsS[j]).c) := hc j _ (by unfold hds; rw [List.getElem?_map, List.getElem?_eq_getElem hh]; rfl)
      obtain ⟨s, hs1⟩ : ∃ s, sets[j] = s := ⟨_, rfl⟩
      obtain ⟨A1, hA1⟩ : ∃ A1, (hsS[j]).A = A1 := ⟨_, rfl⟩
      obtain ⟨m, hm1⟩ : ∃ m, (hsS[j]).n = m := ⟨_, rfl⟩
      obtain ⟨cc, hcc⟩ : ∃ cc, (hsS[j]).c = cc := ⟨_, rfl⟩
      have hgd : sets.getD j [] = s := by rw [List.getD_eq_getElem?_getD, List.getElem?_eq_getElem hg]; exact hs1
      have hsm : s ∈ sets := by rw [← hs1]; exact List.getElem_mem hg
      rw [hs1, hA1, hm1] at g4
      rw [hs1, hm1] at g1
      rw [hm1] at g2
      rw [hm1, hcc] at g3
      rw [hA1, hm1, hcc] at hc1
      obtain ⟨l', o, e1, e2, e3, e4, e5⟩ := tupR_at hO hlt
      rw [hl] at e1
      injection e1 with e1
      subst e1
      rw [hgd, ← HF.out s] at e2
      rw [g1] at e2
      cases hml : mulO [part, chanceQ t k m] with
      | none => rw [hml] at e2; cases e2
      | some pm =>
        rw [hml, Option.bind_some] at e2
        have hS2 := hC.s s hsm
        have hq1 : wr.cell? ⟨b, off + j, none⟩ = some (.slice A1 m cc) := (hI.b.cell (p := ⟨b, off + j, none⟩) hAb).trans hc1
        have HI := Lib.hid hI
        have HR := Lib.hid (And.intro hc1 (And.intro hAb (And.intro g1 (And.intro g2 (And.intro g3 (And.intro g4 (And.intro e2 (And.intro e3 (And.intro e4 (And.intro e5 (And.intro hml (And.intro hS2 (And.intro hsm (And.intro hl hlt))))))))))))))
        have HCh := Lib.hid (chance_any (c := nc) (d := m) (hT.below (below_base (Below.refl _ _) hI.b (Nat.le_refl _))) hC.k8 hC.t (by omega) (by have := hS2.2.1; omega))
        clear hI hc1 hc hAb g1 g2 g3 g4 hs1 hA1 hm1 hcc hgd hsm e2 e3 e4 e5 hml hS2 hl hh hg hT hS hLS hB hLB hbs hN hO hns hsl hnb hC IH hlt hj
        go_wp2_with fail
        refine HCh.out.mono ?_
        rintro e w1 ⟨v1, rfl, hv1, hb1⟩
        obtain ⟨r1, rfl⟩ := hv1.r3
        have hI1 := HI.out.below hb1
        obtain ⟨wb, hwb⟩ : ∃ wb, w1.alloc (.cells #[.bool r1.s, .slice r1.A r1.m r1.c, .slice r1.B r1.n r1.d] 40) = wb := ⟨_, rfl⟩
        obtain ⟨G1, hG1⟩ : ∃ G1, w1.heap.size = G1 := ⟨_, rfl⟩
        have hbb : Below w1.heap.size w1 wb := by rw [← hwb]; exact bl_allocd (Below.refl _ _) _
        have hIb := hI1.below hbb
        have kb0 : Bk wb g0 40 r.cells := by rw [← hg0]; exact hIb.k
        have kb : Bk wb G1 40 r1.cells := by rw [← hwb, ← hG1]; exact Bk.newA w1 40 _
        obtain ⟨c0, c1, c2, _, _, _⟩ := cells_rat kb0
        obtain ⟨c3, c4, c5, _, _, _⟩ := cells_rat kb
        have H1 := Lib.hid (And.intro hIb (hv1.below hbb))
        clear hI1 hv1 hb1 HCh hbb hIb kb0 kb
        unfold R3.v
        go_wp2_with fail
        refine (mul_o (qs := [part, chanceQ t k m]) (QR.new2 H1.out.1.q H1.out.2) (by decide) (Nat.le_refl _) HR.out.2.2.2.2.2.2.2.2.2.2.1).mono ?_
        rintro e w2 ⟨v2, rfl, hv2, hb2⟩
        obtain ⟨r2, rfl⟩ := hv2.r3
        have hI2 := (H1.out.1.below (bl_allocd (Below.refl _ _) _)).below hb2
        obtain ⟨wq, hwq⟩ : ∃ wq, w2.alloc (.cells #[.bool r2.s, .slice r2.A r2.m r2.c, .slice r2.B r2.n r2.d] 40) = wq := ⟨_, rfl⟩
        obtain ⟨G, hG⟩ : ∃ G, w2.heap.size = G := ⟨_, rfl⟩
        have hbq : Below w2.heap.size w2 wq := by rw [← hwq]; exact bl_allocd (Below.refl _ _) _
        have hIq := hI2.below hbq
        have kq : Bk wq G 40 r2.cells := by rw [← hwq, ← hG]; exact Bk.newA w2 40 _
        have hvq := hv2.below hbq
        have hcq : wq.cell? ⟨b, off + j, none⟩ = some (.slice A1 m cc) := (hIq.b.cell (p := ⟨b, off + j, none⟩) HR.out.2.1).trans HR.out.1
        have H2 := Lib.hid (And.intro hIq (And.intro kq (And.intro hvq (HP.out.2.2.2.1.below hIq.b))))
        clear hv2 hb2 hI2 hbq hIq kq hvq c0 c1 c2 c3 c4 c5 hq1 hwb
        unfold R3.v
        go_wp2_with fail
        have hnb8 : nb ≤ 8 := by
          have h1 := HP.out.2.2.2.2.2.2.1
          have h2 := HP.out.2.2.2.2.2.2.2.2.2.2.1
          have h3 := HP.out.2.2.2.2.2.2.2.2.2.2.2.1.n0
          omega
        obtain ⟨i0, hi0, hz0, hz1, hz2⟩ := info_parts27 sl_info
        go_cut [23] (fun nx wx => ∃ NA nc2, nx = .slice NA (nb + 1) nc2 ∧ Rd wx NA (nb + 1) (hds (hsB ++ [⟨A1, m, cc⟩])) ∧ Below wq.heap.size wq wx)
        case first =>
          have hbb9 : b < wq.heap.size := World.block_lt_of_cell? _ _ hcq
          have hcqe : (wq.alloc (.cells #[] 22)).drew.cell? ⟨b, off + j, none⟩ = some (.slice A1 m cc) := ((bl_allocd (Below.refl _ wq) (.cells #[] 22)).drew.cell (p := ⟨b, off + j, none⟩) hbb9).trans hcq
          have hcqd : wq.drew.cell? ⟨b, off + j, none⟩ = some (.slice A1 m cc) := hcq
          go_region_law (first
            | (refine step_append_rd (by rfl) (.tmp 62) (.tmp 63) _ (by rfl) wq.heap.size 22 i0 _ 1 24 Tryz.underlying27 hi0 hz0 hz1 hz2 rfl (by omega) _ 0 [] (by rfl) (by first | exact (own_new0 wq _ _ (Nat.le_refl _)).drew | (have h := (own_new0 (wq.alloc (.cells #[.slice A1 m cc] 22)) 22 wq.heap.size (by rw [World.size_alloc]; exact Nat.le_succ _)).drew; rw [World.size_alloc] at h; exact h) | exact ((own_new0 wq _ _ (Nat.le_refl _)).alloc _).drew) B nb cb (hds hsB) (by rfl) (by rw [Nat.mul_one]; first | exact (H2.out.2.2.2.alloc _).drew | exact ((H2.out.2.2.2.alloc _).alloc _).drew) (hds_one _) (by simp only [maxLen]; omega) (by omega) (by first | (simp; done) | (simp; omega)) ?_; intro v3 w3 hown3 hg3 hat3; rw [Nat.zero_add, List.nil_append] at hown3; (first | (have hg5 : (wq.alloc (.cells #[] 22)).drew.grownBy w3 (some wq.heap.size) := hg3; have hbw3 : Below wq.heap.size wq w3 := ((bl_allocd (Below.refl _ _) _).drew).grown hg5 (by first | (simp; done) | (simp; omega)) (fun k hk => Nat.le_of_eq (Option.some.inj hk))) | (have hg5 : ((wq.alloc (.cells #[] 22)).alloc (.cells #[.slice A1 m cc] 22)).drew.grownBy w3 (some wq.heap.size) := hg3; have hbw3 : Below wq.heap.size wq w3 := ((bl_allocd (bl_allocd (Below.refl _ _) _) _).drew).grown hg5 (by first | (simp; done) | (simp; omega)) (fun k hk => Nat.le_of_eq (Option.some.inj hk)); have hr69 := nx_c hg5) | (have hg5 : ((wq.alloc (.cells #[.slice A1 m cc] 22)).alloc (.cells #[] 22)).drew.grownBy w3 (some (wq.heap.size + 1)) := hg3; have hbw3 : Below wq.heap.size wq w3 := ((bl_allocd (bl_allocd (Below.refl _ _) _) _).drew).grown hg5 (by first | (simp; done) | (simp; omega)) (fun k hk => Nat.le_of_succ_le (Nat.le_of_eq (Option.some.inj hk))); have hr69 := nx_d hg5) | fail); have hc3 : w3.cell? ⟨b, off + j, none⟩ = some (.slice A1 m cc) := (hbw3.cell (p := ⟨b, off + j, none⟩) (World.block_lt_of_cell? _ _ hcq)).trans hcq; clear hg3 hat3)
            | (refine step_append_rd (by rfl) (.tmp 64) (.tmp 69) _ (by rfl) wq.heap.size 22 i0 _ 1 24 Tryz.underlying27 hi0 hz0 hz1 hz2 rfl (by omega) v3 nb (hds hsB) (by rfl) (by first | exact hown3 | exact own_below hown3 (bl_allocd (Below.refl _ _) _)) _ 1 1 [.slice A1 m cc] (by rfl) (by first | exact Rd.one _ _ _ | exact hr69) (by simp [Value.oneCell']) (by simp only [maxLen]; omega) (by omega) (by first | exact hbw3.size | (have hz := hbw3.size; rw [World.size_alloc]; omega)) ?_; intro v4 w4 hown4 hg4 hat4; have hbw4 : Below wq.heap.size wq w4 := (by first | exact hbw3.grown hg4 hbw3.size (fun k hk => (hown3.lt k hk).1) | exact (bl_allocd hbw3 _).grown hg4 (by have hz := hbw3.size; rw [World.size_alloc]; omega) (fun k hk => (hown3.lt k hk).1)); obtain ⟨A4, c4, rfl, _⟩ := own_form hown4; have H4 := Lib.hid (And.intro (Rd.of_own hown4) hbw4))
            | fail)
          all_goals (go_wp2_with fail; go_meet; refine ⟨_, _, rfl, ?_, H4.out.2⟩; have := H4.out.1; simpa [hds, Hd.v] using this)
        case rest =>
          obtain ⟨NA, nc2, rfl, hRd, hbw⟩ := hcut
          obtain ⟨hT, hS, hLS, hB, hLB, hbs, hN, hO, hns, hsl, hnb, hC, IH⟩ := HP.out
          have hI3 := H2.out.1.below hbw
          have kG := H2.out.2.1.belowS hbw
          obtain ⟨c0, c1, c2, _, _, _⟩ := cells_rat kG
          have hbb := below_base (Below.refl _ _) hI3.b (Nat.le_refl _)
          have HC := Lib.hid (IH wc A (some ⟨b, off, none⟩) NA nc ns cs (nb + 1) nc2 hsS (hsB ++ [⟨A1, m, cc⟩]) (bs ++ [s]) r2.v pm o (hT.below hbb) (hS.below hbb) (hLS.below hbb) hRd ((hLB.below hbb).snoc HR.out.2.2.1 HR.out.2.2.2.1 HR.out.2.2.2.2.1 (HR.out.2.2.2.2.2.1.below hbb)) (fun x hx => (List.mem_append.1 hx).elim (hbs x) (fun e => by rw [List.mem_singleton.1 e]; exact HR.out.2.2.2.2.2.2.2.2.2.2.2.2.1)) (by rw [List.length_append, List.length_singleton]; omega) (H2.out.2.2.1.below hbw) HR.out.2.2.2.2.2.2.1)
          have H3 := Lib.hid hI3
          obtain ⟨M, hM⟩ : ∃ M, o.length = M := ⟨_, rfl⟩
          obtain ⟨nb1, hnb1⟩ : ∃ nb1, nb + 1 = nb1 := ⟨_, rfl⟩
          rw [hnb1] at HC ⊢
          clear hT hS hLS hB hLB hbs hN hO hns hsl hnb hC IH hI3 kG hbb hRd hbw hcq
          unfold R3.v at HC
          have hwn' := HWN.out
          go_wp2_with fail
          clear hwn'
          refine HC.out.mono ?_
          rintro e w5 ⟨vM2, vL2, rs2, rfl, o1, o2, o3, hb5⟩
          rw [hM] at o1 o3
          obtain ⟨gM, cM, gL, cL, vM', W4, vL', W5, rfl, rfl, hr1, hr2, hI6⟩ := (H3.out.below hb5).app hM o1 o2 o3 (by rw [← hM]; exact HR.out.2.2.2.2.2.2.2.1) (by rw [← hM]; exact HR.out.2.2.2.2.2.2.2.2.1)
          have H6 := Lib.hid hI6
          clear o1 o2 o3 hb5 hI6 c0 c1 c2
          go_wp2_with (at_builtin; first | refine Lib.wpList_append_run _ rfl _ _ _ _ rfl _ _ rfl rfl _ _ hr1 ?_ | refine Lib.wpList_append_run _ rfl _ _ _ _ rfl _ _ rfl rfl _ _ hr2 ?_ | fail)
          have hlt := HR.out.2.2.2.2.2.2.2.2.2.2.2.2.2.2
          have hj1 : j + 1 ≤ ns := hlt
          have hj2 : ns - (j + 1) < ns - j := by omega
          refine ⟨?_, by simpa [intOf] using hj2⟩
          exact ⟨j + 1, l ++ o, hj1, by go_num, HR.out.2.2.2.2.2.2.2.2.2.1, H6.out⟩
    · obtain rfl : j = ns := by omega
      have kd : decide ((j : Int) < (j : Int)) = false := by simp
      have kd' : decide (j < j) = false := by simp
      have e : l = out := by
        have := HP.out.2.2.2.2.2.2.2.1
        rw [hl] at this
        injection this
      subst e
      have HI := Lib.hid hI
      clear hI hlt hj hl
      go_wp2_with fail
      go_ret3
      obtain ⟨rs, m1, m2⟩ := HI.out.m
      exact ⟨_, _, rs, rfl, m1.low (Nat.le_succ _), m2, HI.out.l.low (Nat.le_succ _), HI.out.b⟩
theorem tuples27_any {N0 k nt : Nat} {t : List Nat} {sets : List (List Nat)} (hC : TpC N0 k nt t sets) (hnt : nt ≤ 3) : ∀ n, TpS N0 k nt t sets n
  | 0 => fun w A S B nc ns cs nb cb hsS hsB bs va part out _ _ _ hB hLB hbs hN hq hO => by
    injection hO with hO
    rw [← hO]
    exact tuples0_any hC hnt hB hLB hbs hN hq
  | n + 1 => tuples_step hC hnt n (tuples27_any hC hnt n)
end Go.Proofs.YtlhipaffhehcnaaGreat
namespace Go.Proofs.YtlhipaffhehcnaaGreat
open Go.RowKit Go.Shelf
set_option linter.unusedVariables false
set_option linter.unusedSimpArgs false
theorem al_f0 : ∃ q, failO [1, 1] 2 0 = some q ∧ 0 < qcmp q ⟨1, 2⟩ := ⟨⟨1, 1⟩, by decide +kernel, by decide +kernel⟩
theorem al_f1 : ∃ q, failO [1, 1] 2 1 = some q ∧ 0 < qcmp q ⟨1, 2⟩ := ⟨⟨1, 1⟩, by decide +kernel, by decide +kernel⟩
theorem al_f2 : failO [1, 1] 2 2 = some ⟨3, 8⟩ := by decide +kernel
theorem al_l0 : leftB 2 [[0, 1], [1]] 0 = true := by decide +kernel
theorem al_l2 : leftB 2 [[0, 1]] 2 = true := by decide +kernel
theorem al_q : qlow ((1 : Nat) : Int) 2 = ⟨1, 2⟩ := by decide +kernel
theorem al_two (w : World) : Rd (((w.alloc (.cells #[.int .i64 0, .int .i64 1] 3)).alloc (.cells #[.int .i64 1] 3)).alloc (.cells #[.slice (some ⟨w.heap.size, 0, none⟩) 2 2, .slice (some ⟨w.heap.size + 1, 0, none⟩) 1 1] 22)) (some ⟨w.heap.size + 1 + 1, 0, none⟩) 2 (hds [⟨some ⟨w.heap.size, 0, none⟩, 2, 2⟩, ⟨some ⟨w.heap.size + 1, 0, none⟩, 1, 1⟩]) ∧
    LL (((w.alloc (.cells #[.int .i64 0, .int .i64 1] 3)).alloc (.cells #[.int .i64 1] 3)).alloc (.cells #[.slice (some ⟨w.heap.size, 0, none⟩) 2 2, .slice (some ⟨w.heap.size + 1, 0, none⟩) 1 1] 22)) [⟨some ⟨w.heap.size, 0, none⟩, 2, 2⟩, ⟨some ⟨w.heap.size + 1, 0, none⟩, 1, 1⟩] [[0, 1], [1]] := by
  have k1 := ((Bk.newA w 3 #[.int .i64 0, .int .i64 1]).alloc (.cells #[.int .i64 1] 3)).alloc (.cells #[.slice (some ⟨w.heap.size, 0, none⟩) 2 2, .slice (some ⟨w.heap.size + 1, 0, none⟩) 1 1] 22)
  have k2 := (Bk.new2 w (.cells #[.int .i64 0, .int .i64 1] 3) 3 #[.int .i64 1]).alloc (.cells #[.slice (some ⟨w.heap.size, 0, none⟩) 2 2, .slice (some ⟨w.heap.size + 1, 0, none⟩) 1 1] 22)
  have k3 := Bk.newA ((w.alloc (.cells #[.int .i64 0, .int .i64 1] 3)).alloc (.cells #[.int .i64 1] 3)) 22 #[.slice (some ⟨w.heap.size, 0, none⟩) 2 2, .slice (some ⟨w.heap.size + 1, 0, none⟩) 1 1]
  rw [World.size_alloc, World.size_alloc] at k3
  exact ⟨Rd.of_bk k3 (by simp) rfl, ⟨rfl, Nat.succ_pos _, Nat.le_refl _, Rd.of_bk k1 (by simp) rfl⟩, ⟨rfl, Nat.succ_pos _, Nat.le_refl _, Rd.of_bk k2 (by simp) rfl⟩, trivial⟩
theorem al_one (w : World) : Rd ((w.alloc (.cells #[.int .i64 0, .int .i64 1] 3)).alloc (.cells #[.slice (some ⟨w.heap.size, 0, none⟩) 2 2] 22)) (some ⟨w.heap.size + 1, 0, none⟩) 1 (hds [⟨some ⟨w.heap.size, 0, none⟩, 2, 2⟩]) ∧
    LL ((w.alloc (.cells #[.int .i64 0, .int .i64 1] 3)).alloc (.cells #[.slice (some ⟨w.heap.size, 0, none⟩) 2 2] 22)) [⟨some ⟨w.heap.size, 0, none⟩, 2, 2⟩] [[0, 1]] := by
  have k1 := (Bk.newA w 3 #[.int .i64 0, .int .i64 1]).alloc (.cells #[.slice (some ⟨w.heap.size, 0, none⟩) 2 2] 22)
  have k3 := Bk.new2 w (.cells #[.int .i64 0, .int .i64 1] 3) 22 #[.slice (some ⟨w.heap.size, 0, none⟩) 2 2]
  exact ⟨Rd.of_bk k3 (by simp) rfl, ⟨rfl, Nat.succ_pos _, Nat.le_refl _, Rd.of_bk k1 (by simp) rfl⟩, trivial⟩
set_option maxRecDepth 100000 in
set_option maxHeartbeats 3200000 in
/-- alive27 -/
theorem alive27_any {w : World} : Calls Tryz.prog 4 #[] w fun e w' => e = .returned (.bool true) ∧ Below w.heap.size w w' := by
  have hT0 : Tb (w.alloc (.cells #[.int .i64 1, .int .i64 1] 3)) (some ⟨w.heap.size, 0, none⟩) 2 [1, 1] := ⟨Rd.of_bk (Bk.newA w 3 #[.int .i64 1, .int .i64 1]) (by decide) rfl, rfl, by decide, by decide⟩
  have H0 := Lib.hid (And.intro hT0 (bl_allocd (Below.refl w.heap.size w) (.cells #[.int .i64 1, .int .i64 1] 3)))
  clear hT0
  go_enter Tryz.func4, Tryz.ntmps4
  go_wp2_with fail
  refine (part27_any (n := 1) (d := 2) (by decide) (by decide) (by decide)).mono ?_
  rintro e w1 ⟨v1, rfl, hv1, hb1⟩
  rw [al_q] at hv1
  have H1 := Lib.hid (And.intro (H0.out.1.below hb1) (And.intro hv1 (bl_next H0.out.2 hb1)))
  clear hv1 hb1
  go_wp2_with fail
  refine (pMake_any (k := 2) (M := 2) H1.out.1 H1.out.2.1 (by decide +kernel) (by decide +kernel) (by decide +kernel) (by decide) (by decide) (by decide) (by decide) (fun i hi => by
    rcases (by omega : i = 0 ∨ i = 1) with e | e
    · subst e; exact al_f0
    · subst e; exact al_f1) al_f2 (by decide +kernel)).mono ?_
  rintro e w2 ⟨A', c', e1, f1, rfl, hT2, he2, hf2, hb2⟩
  have H2 := Lib.hid (And.intro hT2 (And.intro he2 (And.intro hf2 (bl_next H1.out.2.2 hb2))))
  clear hT2 he2 hf2 hb2
  unfold planV
  go_wp2_with fail
  have hbA : Below w2.heap.size w2 (w2.alloc (.cells (planC 2 2 A' 2 c' e1 f1).toArray 47)) := bl_allocd (Below.refl _ _) _
  refine (holds_any (k := 2) (M := 2) (H2.out.1.below hbA) (H2.out.2.1.below hbA) (H2.out.2.2.1.below hbA) (by decide +kernel) (by decide +kernel) (by decide +kernel) (by decide) (by decide) (by decide) (by decide) (fun i hi => by
    rcases (by omega : i = 0 ∨ i = 1) with e | e
    · subst e; exact al_f0
    · subst e; exact al_f1) al_f2 (by decide +kernel)).mono ?_
  rintro e w3 ⟨rfl, hb3⟩
  have H3 := Lib.hid (bl_next (bl_next H2.out.2.2.2 hbA) hb3)
  clear hb3 hbA
  go_wp2_with fail
  refine (left27_any (k := 2) (u := 0) (al_two w3).1 (al_two w3).2 (by decide) (by decide) (by decide) (by decide) al_l0).mono ?_
  rintro e w4 ⟨rfl, hb4⟩
  have H4 := Lib.hid (bl_next (bl_allocd (bl_allocd (bl_allocd H3.out _) _) _) hb4)
  clear hb4
  go_wp2_with fail
  refine (left27_any (k := 2) (u := 2) (al_one w4).1 (al_one w4).2 (by decide) (by decide) (by decide) (by decide) al_l2).mono ?_
  rintro e w5 ⟨rfl, hb5⟩
  have H5 := Lib.hid (bl_next (bl_allocd (bl_allocd H4.out _) _) hb5)
  clear hb5
  go_wp2_with fail
  go_ret
  exact ⟨rfl, H5.out⟩
end Go.Proofs.YtlhipaffhehcnaaGreat
namespace Go.Proofs.YtlhipaffhehcnaaGreat
open Go.RowKit Go.Shelf
set_option linter.unusedVariables false
set_option linter.unusedSimpArgs false
set_option maxRecDepth 100000 in
theorem sameNat_any {w : World} {va vb : Value} {n : Nat} (ha : NV w va n) (hb : NV w vb n) : Calls Tryz.prog 29 #[va, vb] w fun e w' => e = .returned (.bool true) ∧ Below w.heap.size w w' := by
  obtain ⟨A, c, rfl, h1, h2⟩ := ha
  obtain ⟨B, d, rfl, h3, h4⟩ := hb
  obtain ⟨L, hL⟩ : ∃ L, ln n = L := ⟨_, rfl⟩
  rw [hL] at h1 h2 h3 h4 ⊢
  have hLI : (L : Int) ≤ 1 := by have := ln_le n; omega
  have HH := Lib.hid (And.intro h2 (And.intro h4 (show ∀ k, k < L → 0 < n ∧ k = 0 from fun k hk => by
    rcases Nat.eq_zero_or_pos n with h0 | h0
    · subst h0; rw [ln_zero] at hL; omega
    · have := ln_pos h0; omega)))
  clear h1 h2 h3 h4 hL
  go_enter Tryz.func29, Tryz.ntmps29
  go_wp2_with fail
  go_loopw [5] (fun i wr => ∃ k q : Nat, k ≤ L ∧ i = .int .i64 k ∧ wr = w.drewN q) (fun i wr => L - (intOf i).toNat)
  case atStart => exact ⟨0, 0, by omega, rfl, rfl⟩
  case round =>
    obtain ⟨k, q, hk, rfl, hwr⟩ := hrel
    have HW := Lib.hid hwr
    by_cases hlt : k < L
    · obtain ⟨hn, rfl⟩ := HH.out.2.2 k hlt
      obtain ⟨b1, o1, rfl, _, hc1⟩ := HH.out.1.form (by omega)
      obtain ⟨b2, o2, rfl, _, hc2⟩ := HH.out.2.1.form (by omega)
      have hd : (dg n)[0]? = some (.int .u64 (n : Int)) := by rw [dg_pos hn]; rfl
      have hc1 : wr.cell? ⟨b1, o1, none⟩ = some (.int .u64 (n : Int)) := by rw [hwr]; exact hc1 0 _ hd
      have hc2 : wr.cell? ⟨b2, o2, none⟩ = some (.int .u64 (n : Int)) := by rw [hwr]; exact hc2 0 _ hd
      clear hwr hd
      have kn : (0 : Int) < (L : Int) := by omega
      have kd : decide (0 < L) = true := by simpa using hlt
      go_wp2_with (go_quiet (fail))
      exact ⟨⟨0 + 1, _, by omega, by go_num, by rw [HW.out]; exact World.drewN_drewN ..⟩, by simp [intOf]; omega⟩
    · obtain rfl : k = L := by omega
      have kd : decide (k < k) = false := by simp
      clear hwr
      go_wp2_with fail
      go_ret
      exact ⟨rfl, by rw [HW.out]; exact below_dN (Below.refl _ _) _⟩
set_option maxRecDepth 100000 in
theorem sameWhole_any {w : World} {A B : Option Addr} {m c m' d : Nat} {s : Bool} {n : Nat} (ha : NV w (.slice A m c) n) (hb : NV w (.slice B m' d) n) : Calls Tryz.prog 28 #[.agg #[.bool s, .slice A m c], .agg #[.bool s, .slice B m' d]] w fun e w' => e = .returned (.bool true) ∧ Below w.heap.size w w' := by
  obtain ⟨w1, hw1⟩ : ∃ w1, (w.alloc (.cells #[.bool s, .slice A m c] 38)).alloc (.cells #[.bool s, .slice B m' d] 38) = w1 := ⟨_, rfl⟩
  obtain ⟨g, hg⟩ : ∃ g, w.heap.size = g := ⟨_, rfl⟩
  have hb1 : Below w.heap.size w w1 := by rw [← hw1]; exact bl_allocd (bl_allocd (Below.refl _ _) _) _
  have k1 : Bk w1 g 38 [.bool s, .slice A m c] := by rw [← hw1, ← hg]; exact (Bk.newA w 38 _).alloc _
  have k2 : Bk w1 (g + 1) 38 [.bool s, .slice B m' d] := by rw [← hw1, ← hg]; exact Bk.new2 w _ 38 _
  have c0 : w1.cell? ⟨g, 0, none⟩ = some (.bool s) := k1.cell 0
  have c1 : w1.cell? ⟨g, 1, none⟩ = some (.slice A m c) := k1.cell 1
  have c2 : w1.cell? ⟨g + 1, 0, none⟩ = some (.bool s) := k2.cell 0
  have c3 : w1.cell? ⟨g + 1, 1, none⟩ = some (.slice B m' d) := k2.cell 1
  have HC := Lib.hid (sameNat_any (ha.below hb1) (hb.below hb1))
  have HB := Lib.hid hb1
  clear ha hb hb1 k1 k2
  cases s
  all_goals (
    go_enter Tryz.func28, Tryz.ntmps28
    go_wp2_with fail
    refine HC.out.mono ?_
    rintro e w2 ⟨rfl, hb2⟩
    have H2 := Lib.hid (bl_next HB.out hb2)
    clear hb2
    go_wp2_with fail
    go_ret
    exact ⟨rfl, H2.out⟩)
set_option maxRecDepth 100000 in
set_option maxHeartbeats 1600000 in
theorem sameRatio_any {w : World} {va vb : Value} {q : Q} (ha : QV w va q) (hb : QV w vb q) : Calls Tryz.prog 13 #[va, vb] w fun e w' => e = .returned (.bool true) ∧ Below w.heap.size w w' := by
  obtain ⟨r, rfl⟩ := ha.r3
  obtain ⟨u, rfl⟩ := hb.r3
  obtain ⟨e1, n1, n2⟩ := ha.parts
  obtain ⟨e2, n3, n4⟩ := hb.parts
  have es : r.s = u.s := e1.trans e2.symm
  obtain ⟨s, rA, rm, rc, rB, rn, rd⟩ := r
  obtain ⟨s', uA, um, uc, uB, un, ud⟩ := u
  have es : s = s' := es
  subst es
  obtain ⟨w1, hw1⟩ : ∃ w1, (w.alloc (.cells #[.bool s, .slice rA rm rc, .slice rB rn rd] 40)).alloc (.cells #[.bool s, .slice uA um uc, .slice uB un ud] 40) = w1 := ⟨_, rfl⟩
  obtain ⟨g, hg⟩ : ∃ g, w.heap.size = g := ⟨_, rfl⟩
  have hb1 : Below w.heap.size w w1 := by rw [← hw1]; exact bl_allocd (bl_allocd (Below.refl _ _) _) _
  have k1 : Bk w1 g 40 [.bool s, .slice rA rm rc, .slice rB rn rd] := by rw [← hw1, ← hg]; exact (Bk.newA w 40 #[.bool s, .slice rA rm rc, .slice rB rn rd]).alloc _
  have k2 : Bk w1 (g + 1) 40 [.bool s, .slice uA um uc, .slice uB un ud] := by rw [← hw1, ← hg]; exact Bk.new2 w _ 40 #[.bool s, .slice uA um uc, .slice uB un ud]
  obtain ⟨c0, c1, c2, _, _, _⟩ := cells_rat k1
  obtain ⟨c3, c4, c5, _, _, _⟩ := cells_rat k2
  have HC := Lib.hid (sameWhole_any (s := s) (n1.below hb1) (n3.below hb1))
  have HB := Lib.hid (And.intro hb1 (And.intro k1 (And.intro k2 (And.intro (n2.below hb1) (n4.below hb1)))))
  clear ha hb hb1 k1 k2 n1 n2 n3 n4 e1 e2
  unfold R3.v
  dsimp only
  go_enter Tryz.func13, Tryz.ntmps13
  go_wp2_with fail
  refine HC.out.mono ?_
  rintro e w2 ⟨rfl, hb2⟩
  have HD := Lib.hid (sameNat_any (HB.out.2.2.2.1.below hb2) (HB.out.2.2.2.2.below hb2))
  obtain ⟨x0, x1, x2, _, _, _⟩ := cells_rat (HB.out.2.1.belowS hb2)
  obtain ⟨x3, x4, x5, _, _, _⟩ := cells_rat (HB.out.2.2.1.belowS hb2)
  have H2 := Lib.hid (bl_next HB.out.1 hb2)
  clear hb2
  go_wp2_with fail
  refine HD.out.mono ?_
  rintro e w3 ⟨rfl, hb3⟩
  have H3 := Lib.hid (bl_next H2.out hb3)
  clear hb3
  go_wp2_with fail
  go_ret
  exact ⟨rfl, H3.out⟩
end Go.Proofs.YtlhipaffhehcnaaGreat
namespace Go.Proofs.YtlhipaffhehcnaaGreat
open Go.RowKit
set_option linter.unusedVariables false
set_option linter.unusedSimpArgs false
def tups (S : List (List Nat)) : Nat → List (List (List Nat))
  | 0 => [[]]
  | n + 1 => (tups S n).flatMap fun b => S.map fun s => b ++ [s]
def allS : Nat → List (List Nat)
  | 1 => [[0]]
  | 2 => [[0], [1], [0, 1]]
  | _ => [[0], [1], [2], [0, 1], [0, 2], [1, 2], [0, 1, 2]]
theorem mem_tups {S : List (List Nat)} : ∀ {n : Nat} {bs : List (List Nat)}, bs.length = n → (∀ b ∈ bs, b ∈ S) → bs ∈ tups S n
  | 0, bs, h, _ => by rw [List.length_eq_zero_iff.1 h]; exact List.mem_singleton.2 rfl
  | n + 1, bs, h, hm => by
    have hne : bs ≠ [] := by intro e; subst e; cases h
    rw [← List.dropLast_concat_getLast hne]
    unfold tups
    refine List.mem_flatMap.2 ⟨bs.dropLast, mem_tups (by rw [List.length_dropLast]; omega) (fun b hb => hm b (List.dropLast_subset _ hb)), List.mem_map.2 ⟨bs.getLast hne, hm _ (List.getLast_mem hne), rfl⟩⟩
set_option maxRecDepth 100000 in
theorem left_k1 : (List.range 4).all (fun n => (tups (allS 1) n).all fun bs => leftB 1 bs (leftS 1 bs)) = true := by decide +kernel
set_option maxRecDepth 100000 in
theorem left_k2 : (List.range 4).all (fun n => (tups (allS 2) n).all fun bs => leftB 2 bs (leftS 2 bs)) = true := by decide +kernel
set_option maxRecDepth 100000 in
theorem left_k3 : (List.range 4).all (fun n => (tups (allS 3) n).all fun bs => leftB 3 bs (leftS 3 bs)) = true := by decide +kernel
theorem left_all {k n : Nat} (hk1 : 1 ≤ k) (hk : k ≤ 3) (hn : n ≤ 3) {S : List (List Nat)} (hS : ∀ s ∈ S, s ∈ allS k) (bs : List (List Nat)) (h : bs.length = n) (hm : ∀ b ∈ bs, b ∈ S) : leftB k bs (leftS k bs) = true := by
  have hmem := mem_tups h (fun b hb => hS b (hm b hb))
  rcases (by omega : k = 1 ∨ k = 2 ∨ k = 3) with rfl | rfl | rfl
  · exact List.all_eq_true.1 (List.all_eq_true.1 left_k1 n (List.mem_range.2 (by omega))) bs hmem
  · exact List.all_eq_true.1 (List.all_eq_true.1 left_k2 n (List.mem_range.2 (by omega))) bs hmem
  · exact List.all_eq_true.1 (List.all_eq_true.1 left_k3 n (List.mem_range.2 (by omega))) bs hmem
end Go.Proofs.YtlhipaffhehcnaaGreat
namespace Go.Proofs.YtlhipaffhehcnaaGreat
open Go.RowKit
set_option linter.unusedVariables false
set_option linter.unusedSimpArgs false
/-- The sums, the mean: the first i masses. -/
def smO (k : Nat) (out : List (Q × Nat)) : Nat → Option (List Q × Q)
  | 0 => some (List.replicate (k + 1) ⟨0, 1⟩, ⟨0, 1⟩)
  | i + 1 => (smO k out i).bind fun a => (out[i]?).bind fun x => (a.1[x.2]?).bind fun old => (addO [old, x.1]).bind fun y => (mulO [x.1, qlow ((x.2 : Nat) : Int) 1]).bind fun more => (addO [a.2, more]).map fun m => (a.1.set x.2 y, m)
/-- What the recursion says: the first u numbers. -/
def wtO (st : List Q) : Nat → Option Q
  | 0 => some ⟨0, 1⟩
  | u + 1 => (wtO st u).bind fun a => (st[u]?).bind fun s => (mulO [s, qlow ((u : Nat) : Int) 1]).bind fun more => addO [a, more]
def topB (t : List Nat) (k n : Nat) : Bool :=
  match stuckO t k n, tupO t k (setsS t k) n [] ⟨1, 1⟩ with
  | some st, some out => match smO k out out.length, wtO st (k + 1) with
    | some a, some want => decide (a.1 = st) && (decide (a.2 = want) && out.all fun x => decide (x.2 ≤ k))
    | _, _ => false
  | _, _ => false
end Go.Proofs.YtlhipaffhehcnaaGreat
namespace Go.Proofs.YtlhipaffhehcnaaGreat
open Go.RowKit Go.Shelf
set_option linter.unusedVariables false
set_option linter.unusedSimpArgs false
/-- TopLeft, behind tuples27. -/
structure TmI (w0 W : World) (B GS G M1 : Nat) (vM vL : Value) (out : List (Q × Nat)) (st sums : List Q) (r1 r2 : R3) (mean want : Q) : Prop where
  b : Below w0.heap.size w0 W
  st : GB W GS [] st
  m : ∃ rs, OutX W 40 3 B vM out.length (r3s rs) ∧ All3 W rs (out.map (·.1))
  l : OutX W 3 1 B vL out.length (wts (out.map (·.2)))
  s : GB W G [] sums
  k1 : Bk W M1 40 r1.cells
  q1 : QV W r1.v mean
  k2 : Bk W (M1 + 1) 40 r2.cells
  q2 : QV W r2.v want
  o : w0.heap.size ≤ GS ∧ GS < B ∧ B ≤ G ∧ G < M1
  om : ∀ g, vM.ownBlock = some g → g < G
section
variable {w0 W W' : World} {B GS G M1 : Nat} {vM vL : Value} {out : List (Q × Nat)} {st sums : List Q} {r1 r2 : R3} {mean want : Q}
theorem TmI.below (h : TmI w0 W B GS G M1 vM vL out st sums r1 r2 mean want) (hb : Below W.heap.size W W') : TmI w0 W' B GS G M1 vM vL out st sums r1 r2 mean want := by
  obtain ⟨rs, h1, h2⟩ := h.m
  exact ⟨bl_next h.b hb, h.st.below hb, ⟨rs, h1.below hb, h2.below hb⟩, h.l.below hb, h.s.below hb, h.k1.belowS hb, h.q1.below hb, h.k2.belowS hb, h.q2.below hb, h.o, h.om⟩
/-- The rows that only are read stand while a block of fractions of the call's own is written. -/
theorem TmI.rows (h : TmI w0 W B GS G M1 vM vL out st sums r1 r2 mean want) {X : Nat} {cs : List Value} (hX : Bk W X 40 cs) (hXG : G ≤ X) (hc : Chg (fun k => k = X) W W') (hk : Kq 0 (fun k => k = X) W W') :
    Below w0.heap.size w0 W' ∧ GB W' GS [] st ∧ (∃ rs, OutX W' 40 3 B vM out.length (r3s rs) ∧ All3 W' rs (out.map (·.1))) ∧ OutX W' 3 1 B vL out.length (wts (out.map (·.2))) := by
  obtain ⟨o1, o2, o3, o4⟩ := h.o
  obtain ⟨rs, h1, h2⟩ := h.m
  refine ⟨hc.below h.b (fun k _ e => by omega) h.b.size, h.st.kq hk (by omega), ⟨rs, h1.kq hk (fun g e => by have := h.om g e; omega), hk.all3 h2⟩, h.l.kq hk (fun g e e2 => ?_)⟩
  subst e2
  obtain ⟨_, cur, hb, _⟩ := h.l.blk e
  exact absurd (bk_ty hb hX) (by decide)
theorem TmI.putS (h : TmI w0 W B GS G M1 vM vL out st sums r1 r2 mean want) {u : Nat} (hu : u < sums.length) {r : R3} {q : Q} (hq : QV W r.v q) : TmI w0 (s3 W G (u * 3) r) B GS G M1 vM vL out st (sums.set u q) r1 r2 mean want := by
  obtain ⟨hs, hk⟩ := h.s.put (fun i x e => by simp at e) hu hq
  obtain ⟨o1, o2, o3, o4⟩ := h.o
  obtain ⟨rs, hG, _⟩ := h.s
  obtain ⟨a1, a2, a3, a4⟩ := h.rows hG (Nat.le_refl _) (chg_s3 W G (u * 3) r) (hk 0)
  exact ⟨a1, a2, a3, a4, hs, (hk 0).bk h.k1 (by omega), (hk 0).qv h.q1, (hk 0).bk h.k2 (by omega), (hk 0).qv h.q2, h.o, h.om⟩
theorem TmI.putM (h : TmI w0 W B GS G M1 vM vL out st sums r1 r2 mean want) {r : R3} {q : Q} (hq : QV W r.v q) : TmI w0 (set3 W M1 r) B GS G M1 vM vL out st sums r r2 q want := by
  obtain ⟨o1, o2, o3, o4⟩ := h.o
  have hc := chg_set3 W M1 r
  have hk := Kq.of_chg 0 hc (fun k c t z e ho => num_of_bk h.k1 (fun i x => R3.no_int _ i _ x) k c t z e ho)
  obtain ⟨a1, a2, a3, a4⟩ := h.rows h.k1 (by omega) hc hk
  exact ⟨a1, a2, a3, a4, h.s.kq hk (by omega), h.k1.set3 r, hk.qv hq, hk.bk h.k2 (by omega), hk.qv h.q2, h.o, h.om⟩
theorem TmI.putW (h : TmI w0 W B GS G M1 vM vL out st sums r1 r2 mean want) {r : R3} {q : Q} (hq : QV W r.v q) : TmI w0 (set3 W (M1 + 1) r) B GS G M1 vM vL out st sums r1 r mean q := by
  obtain ⟨o1, o2, o3, o4⟩ := h.o
  have hc := chg_set3 W (M1 + 1) r
  have hk := Kq.of_chg 0 hc (fun k c t z e ho => num_of_bk h.k2 (fun i x => R3.no_int _ i _ x) k c t z e ho)
  obtain ⟨a1, a2, a3, a4⟩ := h.rows h.k2 (by omega) hc hk
  exact ⟨a1, a2, a3, a4, h.s.kq hk (by omega), hk.bk h.k1 (by omega), hk.qv h.q1, h.k2.set3 r, hk.qv hq, h.o, h.om⟩
end
end Go.Proofs.YtlhipaffhehcnaaGreat
namespace Go.Proofs.YtlhipaffhehcnaaGreat
open Go.RowKit
set_option linter.unusedVariables false
set_option linter.unusedSimpArgs false
theorem smO_step {k : Nat} {out : List (Q × Nat)} {i : Nat} {b : List Q × Q} (h : smO k out (i + 1) = some b) : ∃ a x old y more m, smO k out i = some a ∧ out[i]? = some x ∧ a.1[x.2]? = some old ∧ addO [old, x.1] = some y ∧ mulO [x.1, qlow ((x.2 : Nat) : Int) 1] = some more ∧ addO [a.2, more] = some m ∧ b = (a.1.set x.2 y, m) := by
  unfold smO at h
  obtain ⟨a, h1, h⟩ := Option.bind_eq_some_iff.1 h
  obtain ⟨x, h2, h⟩ := Option.bind_eq_some_iff.1 h
  obtain ⟨old, h3, h⟩ := Option.bind_eq_some_iff.1 h
  obtain ⟨y, h4, h⟩ := Option.bind_eq_some_iff.1 h
  obtain ⟨more, h5, h⟩ := Option.bind_eq_some_iff.1 h
  obtain ⟨m, h6, h⟩ := Option.map_eq_some_iff.1 h
  exact ⟨a, x, old, y, more, m, h1, h2, h3, h4, h5, h6, h.symm⟩
theorem smO_at {k : Nat} {out : List (Q × Nat)} {n : Nat} {c : List Q × Q} (h : smO k out n = some c) {i : Nat} (hi : i < n) : ∃ a x old y more m, smO k out i = some a ∧ out[i]? = some x ∧ a.1[x.2]? = some old ∧ addO [old, x.1] = some y ∧ mulO [x.1, qlow ((x.2 : Nat) : Int) 1] = some more ∧ addO [a.2, more] = some m ∧ smO k out (i + 1) = some (a.1.set x.2 y, m) := by
  induction n generalizing c with
  | zero => omega
  | succ n ih =>
    obtain ⟨a, x, old, y, more, m, h1, h2, h3, h4, h5, h6, h7⟩ := smO_step h
    by_cases e : i = n
    · subst e
      exact ⟨a, x, old, y, more, m, h1, h2, h3, h4, h5, h6, by rw [h, h7]⟩
    · exact ih h1 (by omega)
theorem wtO_step {st : List Q} {u : Nat} {b : Q} (h : wtO st (u + 1) = some b) : ∃ a s more, wtO st u = some a ∧ st[u]? = some s ∧ mulO [s, qlow ((u : Nat) : Int) 1] = some more ∧ addO [a, more] = some b := by
  unfold wtO at h
  obtain ⟨a, h1, h⟩ := Option.bind_eq_some_iff.1 h
  obtain ⟨s, h2, h⟩ := Option.bind_eq_some_iff.1 h
  obtain ⟨more, h3, h⟩ := Option.bind_eq_some_iff.1 h
  exact ⟨a, s, more, h1, h2, h3, h⟩
theorem wtO_at {st : List Q} {n : Nat} {c : Q} (h : wtO st n = some c) {u : Nat} (hu : u < n) : ∃ a s more b, wtO st u = some a ∧ st[u]? = some s ∧ mulO [s, qlow ((u : Nat) : Int) 1] = some more ∧ addO [a, more] = some b ∧ wtO st (u + 1) = some b := by
  induction n generalizing c with
  | zero => omega
  | succ n ih =>
    obtain ⟨a, s, more, h1, h2, h3, h4⟩ := wtO_step h
    by_cases e : u = n
    · subst e
      exact ⟨a, s, more, c, h1, h2, h3, h4, h⟩
    · exact ih h1 (by omega)
/-- What the plain law says. -/
theorem topB_says {t : List Nat} {k n : Nat} (h : topB t k n = true) : ∃ st out want, stuckO t k n = some st ∧ tupO t k (setsS t k) n [] ⟨1, 1⟩ = some out ∧ smO k out out.length = some (st, want) ∧ wtO st (k + 1) = some want ∧ ∀ x ∈ out, x.2 ≤ k := by
  unfold topB at h
  cases h1 : stuckO t k n with
  | none => rw [h1] at h; cases h
  | some st =>
    cases h2 : tupO t k (setsS t k) n [] ⟨1, 1⟩ with
    | none => rw [h1, h2] at h; cases h
    | some out =>
      rw [h1, h2] at h
      dsimp only at h
      cases h3 : smO k out out.length with
      | none => rw [h3] at h; cases h
      | some a =>
        cases h4 : wtO st (k + 1) with
        | none => rw [h3, h4] at h; cases h
        | some want =>
          rw [h3, h4] at h
          dsimp only at h
          simp only [Bool.and_eq_true, decide_eq_true_eq, List.all_eq_true] at h
          obtain ⟨e1, e2, e3⟩ := h
          refine ⟨st, out, want, rfl, rfl, ?_, h4, e3⟩
          rw [← e1, ← e2]
          exact h3
end Go.Proofs.YtlhipaffhehcnaaGreat
