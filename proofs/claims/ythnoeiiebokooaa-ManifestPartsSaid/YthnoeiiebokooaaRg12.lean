/- Chapter 12: the document's Get. -/
import Derived.Test.YthnoeiiebokooaaNu12
import Derived.StillTailTactics
namespace Go.Proofs.Ythnoeiiebokooaa
open Go.RowKit
set_option linter.unusedVariables false
def rT (b : List UInt8) (j : Nat) : List Int := (List.range j).map fun i => nb ((b.drop (20 + 4 * i)).take 4)
theorem rT_succ (b : List UInt8) (j : Nat) : rT b (j + 1) = rT b j ++ [nb ((b.drop (20 + 4 * j)).take 4)] := by simp [rT, List.range_succ]
theorem rT_len (b : List UInt8) (j : Nat) : (rT b j).length = j := by simp [rT]
theorem nb_R64 (l : List UInt8) : R64 (nb l) := by unfold nb R64; rw [IntKind.wrap_i64]; omega
def rgM (b : List UInt8) : MF := ⟨nb (b.take 4), nb ((b.drop 4).take 2), nb ((b.drop 6).take 4), nb ((b.drop 10).take 8), rT b ((b.length - 20) / 4)⟩
def rgB (b : List UInt8) : Bool := decide (20 ≤ b.length) && (decide ((b.length : Int) = 20 + 4 * nb ((b.drop 18).take 2)) && mfB (rgM b))
def rtM (b : List UInt8) : MF := if rgB b then rgM b else mz
def rtE (b : List UInt8) : Int := if rgB b then 0 else 6
theorem rm_no {w w' : World} {b : List UInt8} (hb : Below w.heap.size w w') (hp : rgB b = false) : GmPost w (rtM b) (rtE b) (.returned (.tuple #[.agg #[.int .i64 0, .int .i64 0, .int .i64 0, .int .i64 0, .slice none 0 0], .int .i64 6])) w' := by
  unfold GmPost rtM rtE
  rw [hp]
  exact ⟨none, 0, rfl, World.ownsRow_nil _ _ _ _, hb⟩
def GH (wa wr : World) (G : Nat) (v0 v1 v2 v3 : Int) (A : Option Addr) (q c : Nat) (l : List Int) : Prop :=
  Below wa.heap.size wa wr ∧ Bk wr G 27 [.int .i64 v0, .int .i64 v1, .int .i64 v2, .int .i64 v3, .slice A q c] ∧ wr.ownsRow (G + 1) 3 1 (.slice A q c) q (nums l) ∧ wa.heap.size ≤ G ∧ G + 1 ≤ wr.heap.size
section
variable {wa w w' : World} {G q c : Nat} {A : Option Addr} {v0 v1 v2 v3 : Int} {l : List Int}
theorem GH.below (h : GH wa w G v0 v1 v2 v3 A q c l) (hb : Below w.heap.size w w') : GH wa w' G v0 v1 v2 v3 A q c l :=
  ⟨below_base h.1 hb h.1.size, h.2.1.belowS hb, own_below h.2.2.1 hb, h.2.2.2.1, Nat.le_trans h.2.2.2.2 hb.size⟩
theorem GH.app {o : Obj} {w1 : World} {A1 : Option Addr} {c1 : Nat} {x : Int} (h : GH wa w G v0 v1 v2 v3 A q c l) (hg : (w.alloc o).grownBy w1 (Value.slice A q c).ownBlock) (ho : w1.ownsRow (G + 1) 3 1 (.slice A1 (q + 1) c1) (q + 1) (nums (l ++ [x]))) :
    Bk w1 G 27 [.int .i64 v0, .int .i64 v1, .int .i64 v2, .int .i64 v3, .slice A q c] ∧ GH wa (w1.setCell ⟨G, 4, none⟩ (.slice A1 (q + 1) c1)) G v0 v1 v2 v3 A1 (q + 1) c1 (l ++ [x]) := by
  have hc : Chg (fun k => G + 1 ≤ k) w w1 := (Chg.of_below (S := fun k => G + 1 ≤ k) ((Below.refl _ _).alloc (Nat.le_refl _) o)).trans (Chg.of_grown (S := fun k => G + 1 ≤ k) hg fun k hk => by
    rw [own_block] at hk
    cases A with
    | none => cases hk
    | some a => have := (own_ge h.2.2.1 a rfl).1; have hk' : a.block = k := by simpa using hk
                omega) fun _ _ z => z
  have hk := hc.bk h.2.1 (by omega)
  have hs : Chg (fun k => k = G) w1 (w1.setCell ⟨G, 4, none⟩ (.slice A1 (q + 1) c1)) := (Chg.refl (fun k => k = G) w1).set_ (show G = G from rfl) _ _
  obtain ⟨g1, g2, g3, g4, g5⟩ := h
  exact ⟨hk, hs.below (hc.below g1 (fun k _ z => by omega) g1.size) (fun k _ e => by subst e; exact g4) (Nat.le_trans g1.size hc.size), hk.set_ 4 _, hs.own ho (fun a ha e => by have := (own_ge ho a ha).1; omega), g4, Nat.le_trans g5 (Nat.le_trans hc.size hs.size)⟩
end
theorem grw_undrewA {w w' : World} {o : Obj} {row : Option Nat} (h : (w.alloc o).drew.grownBy w' row) : (w.alloc o).grownBy w' row := ⟨h.os, h.tape, h.output, h.size, h.block⟩
set_option maxRecDepth 100000 in
set_option maxHeartbeats 1600000 in
/-- the document's Get -/
theorem rgetM_any {w : World} {A : Option Addr} {n c : Nat} {b : List UInt8} (h : Rd w A n (bys b)) (hn : n ≤ 140737488351232) (hnc : n ≤ c) :
    Calls Try.prog 11 #[.slice A n c] w (GmPost w (rtM b) (rtE b)) := by
  have hbl : b.length = n := by have := h.1; simpa [bys_length] using this
  have hb1 := (Below.refl w.heap.size w).alloc (Nat.le_refl _) (.cells #[.int .i64 0, .int .i64 0, .int .i64 0, .int .i64 0, .slice none 0 0] 27)
  have hz := Bk.newA w 27 #[.int .i64 0, .int .i64 0, .int .i64 0, .int .i64 0, .slice none 0 0]
  have H := Lib.hid (And.intro hb1 (And.intro hz (h.below hb1)))
  have hwa : ∃ wa, wa = w.alloc (.cells #[.int .i64 0, .int .i64 0, .int .i64 0, .int .i64 0, .slice none 0 0] 27) := ⟨_, rfl⟩
  obtain ⟨wa, hwa⟩ := hwa
  have hws : wa.heap.size = w.heap.size + 1 := by rw [hwa, World.size_alloc]
  rw [← hwa] at H
  clear h hb1 hz
  have HWS := Lib.hid (And.intro hws hbl)
  clear hws hbl
  obtain ⟨j0, hj0, ha0, ha1, ha2⟩ := info_parts u8_info
  by_cases h20 : n < 20
  · have d1 : decide ((n : Int) < 20) = true := by simp; omega
    have d2 : decide (n < 20) = true := by simp; omega
    have HE := Lib.hid (show rgB b = false from by unfold rgB; rw [HWS.out.2, show decide (20 ≤ n) = false from by simp; omega]; rfl)
    clear h20
    go_enter Try.func11, Try.ntmps11
    go_wp2_with fail
    rw [← hwa]
    exact ret_mfE (v5 := .int .i64 6) rfl rfl rfl rfl H.out.2.1 (rm_no H.out.1 HE.out)
  · have d1 : decide ((n : Int) < 20) = false := by simp; omega
    have d2 : decide (n < 20) = false := by simp; omega
    obtain ⟨Az, hmz, hAz⟩ := run_mid (P := Try.prog) (t := 22) Try.underlying22 hj0 ha1 A n c 18 20 .i64 .i64 18 20 rfl rfl (by omega) (by omega)
    have hrz : Rd wa Az 2 (bys ((b.drop 18).take 2)) := H.out.2.2.mid (by omega) (fun _ => hAz (by omega))
    obtain ⟨t, ht⟩ : ∃ t, nb ((b.drop 18).take 2) = t := ⟨_, rfl⟩
    have htr : 0 ≤ t ∧ t < 65536 := by
      rw [← ht]; unfold nb
      have hl2 : ((b.drop 18).take 2).length = 2 := by simp; have := HWS.out.2; omega
      have := be_lt 2 _ hl2
      rw [IntKind.wrap_i64]; omega
    have HZ := Lib.hid (And.intro hrz ht)
    have h4t : IntKind.i64.wrap (4 * t) = 4 * t := by rw [IntKind.wrap_i64]; omega
    have h5t : IntKind.i64.wrap (20 + 4 * t) = 20 + 4 * t := by rw [IntKind.wrap_i64]; omega
    clear hAz hrz ht
    go_enter Try.func11, Try.ntmps11
    go_wp2_with fail
    rw [← hwa]
    clear hwa
    go_wp2_with fail
    refine (number_any HZ.out.1 (by omega)).mono ?_
    rintro e w1 ⟨rfl, rfl⟩
    rw [HZ.out.2]
    clear hmz
    by_cases hnt : (n : Int) = 20 + 4 * t
    · have d3 : ((n : Int) != 20 + 4 * t) = false := by simpa using hnt
      have HNT := Lib.hid (And.intro hnt h20)
      clear hnt h20
      go_wp2_with fail
      have hr0 : Rd wa A 4 (bys (b.take 4)) := by have := H.out.2.2.take_ (k := 4) (by have := HNT.out.2; omega); rw [bys_take] at this; exact this
      have hto : ∀ w : World, (Instr.slice 22 (.slice A n c) none (some (.int .i64 4)) none).run Try.prog w = .ok (.slice A 4 c) w := run_to (P := Try.prog) (t := 22) Try.underlying22 hj0 ha1 A n c 4 .i64 (by have := HNT.out.2; omega)
      obtain ⟨A1, hm1, hA1⟩ := run_mid (P := Try.prog) (t := 22) Try.underlying22 hj0 ha1 A n c 4 6 .i64 .i64 4 6 rfl rfl (by omega) (by have := HNT.out.2; omega)
      obtain ⟨A2, hm2, hA2⟩ := run_mid (P := Try.prog) (t := 22) Try.underlying22 hj0 ha1 A n c 6 10 .i64 .i64 6 10 rfl rfl (by omega) (by have := HNT.out.2; omega)
      obtain ⟨A3, hm3, hA3⟩ := run_mid (P := Try.prog) (t := 22) Try.underlying22 hj0 ha1 A n c 10 18 .i64 .i64 10 18 rfl rfl (by omega) (by have := HNT.out.2; omega)
      have hr1 : Rd wa A1 2 (bys ((b.drop 4).take 2)) := H.out.2.2.mid (by have := HNT.out.2; omega) (fun _ => hA1 (by omega))
      have hr2 : Rd wa A2 4 (bys ((b.drop 6).take 4)) := H.out.2.2.mid (by have := HNT.out.2; omega) (fun _ => hA2 (by omega))
      have hr3 : Rd wa A3 8 (bys ((b.drop 10).take 8)) := H.out.2.2.mid (by have := HNT.out.2; omega) (fun _ => hA3 (by omega))
      obtain ⟨v0, hv0⟩ : ∃ v, nb (b.take 4) = v := ⟨_, rfl⟩
      obtain ⟨v1, hv1⟩ : ∃ v, nb ((b.drop 4).take 2) = v := ⟨_, rfl⟩
      obtain ⟨v2, hv2⟩ : ∃ v, nb ((b.drop 6).take 4) = v := ⟨_, rfl⟩
      obtain ⟨v3, hv3⟩ : ∃ v, nb ((b.drop 10).take 8) = v := ⟨_, rfl⟩
      have HV := Lib.hid (And.intro hv0 (And.intro hv1 (And.intro hv2 hv3)))
      have Q0 := Lib.hid hr0
      have Q1 := Lib.hid hr1
      have Q2 := Lib.hid hr2
      have Q3 := Lib.hid hr3
      clear hr0 hr1 hr2 hr3 hA1 hA2 hA3 hv0 hv1 hv2 hv3
      go_cut [4] (fun s4 wx => s4 = .pointer (some ⟨wa.heap.size, 0, none⟩) ∧ wx = (wa.alloc (.cells #[.int .i64 v0, .int .i64 v1, .int .i64 v2, .int .i64 v3, .slice none 0 0] 27)).drew)
      case first =>
        go_region_law (first
          | (go_simp; go_at_call 34; refine (number_any (c := c) (l := b.take 4) (Q0.out.below (by first | exact (Below.refl _ _).drew | exact ((Below.refl _ _).drew).alloc (Nat.le_refl _) _)) (by omega)).mono ?_; rintro e wq ⟨rfl, rfl⟩; rw [HV.out.1]; clear Q0)
          | (go_simp; go_at_call 34; refine (number_any (c := c - 4) (l := (b.drop 4).take 2) (Q1.out.below (by first | exact (Below.refl _ _).drew | exact ((Below.refl _ _).drew).alloc (Nat.le_refl _) _)) (by omega)).mono ?_; rintro e wq ⟨rfl, rfl⟩; rw [HV.out.2.1]; clear Q1)
          | (go_simp; go_at_call 34; refine (number_any (c := c - 6) (l := (b.drop 6).take 4) (Q2.out.below (by first | exact (Below.refl _ _).drew | exact ((Below.refl _ _).drew).alloc (Nat.le_refl _) _)) (by omega)).mono ?_; rintro e wq ⟨rfl, rfl⟩; rw [HV.out.2.2.1]; clear Q2)
          | (go_simp; go_at_call 34; refine (number_any (c := c - 10) (l := (b.drop 10).take 8) (Q3.out.below (by first | exact (Below.refl _ _).drew | exact ((Below.refl _ _).drew).alloc (Nat.le_refl _) _)) (by omega)).mono ?_; rintro e wq ⟨rfl, rfl⟩; rw [HV.out.2.2.2]; clear Q3))
        all_goals go_wp2_with fail
        all_goals go_meet
        all_goals exact ⟨rfl, rfl⟩
      case rest =>
        obtain ⟨rfl, rfl⟩ := hcut
        have hb1 := ((Below.refl wa.heap.size wa).alloc (Nat.le_refl _) (.cells #[.int .i64 v0, .int .i64 v1, .int .i64 v2, .int .i64 v3, .slice none 0 0] 27)).drew
        have hM := (Bk.newA wa 27 #[.int .i64 v0, .int .i64 v1, .int .i64 v2, .int .i64 v3, .slice none 0 0]).belowS (Below.refl _ _).drew
        have hG : GH wa (wa.alloc (.cells #[.int .i64 v0, .int .i64 v1, .int .i64 v2, .int .i64 v3, .slice none 0 0] 27)).drew wa.heap.size v0 v1 v2 v3 none 0 0 [] := ⟨hb1, hM, World.ownsRow_nil _ _ _ _, Nat.le_refl _, by show wa.heap.size + 1 ≤ (wa.alloc _).heap.size; rw [World.size_alloc]; exact Nat.le_refl _⟩
        have HG := Lib.hid hG
        clear hb1 hM hG hto hm1 hm2 hm3 Q0 Q1 Q2 Q3
        generalize (wa.alloc (.cells #[.int .i64 v0, .int .i64 v1, .int .i64 v2, .int .i64 v3, .slice none 0 0] 27)).drew = wg at HG ⊢
        obtain ⟨T, hT⟩ : ∃ T : Nat, t = T := ⟨t.toNat, by omega⟩
        subst hT
        have hT2 : T ≤ 65535 := by omega
        have hnT : n = 20 + 4 * T := by have := HNT.out.1; omega
        have HT := Lib.hid hnT
        obtain ⟨i0, hi0, hz0, hz1, hz2⟩ := info_parts u3_info
        clear d1 d2 d3 h4t h5t htr hnT
        go_wp2_with fail
        go_loopw [5] (fun i wr => ∃ (q : Nat) (A' : Option Addr) (c' : Nat), q ≤ T ∧ i = .int .i64 ((20 + 4 * q : Nat) : Int) ∧ GH wa wr wa.heap.size v0 v1 v2 v3 A' q c' (rT b q)) (fun i wr => n - (intOf i).toNat)
        case atStart => exact ⟨0, none, 0, by omega, rfl, HG.out⟩
        case round =>
          obtain ⟨q, A', c', hqT, rfl, hK⟩ := hrel
          obtain ⟨I, hI⟩ : ∃ I, 20 + 4 * q = I := ⟨_, rfl⟩
          rw [hI]
          by_cases hlt : q < T
          · have km : (I : Int) < (n : Int) := by have := HT.out; omega
            have k4 := hK.2.1.cell 4
            obtain ⟨A4, hm4, hA4⟩ := run_mid (P := Try.prog) (t := 22) Try.underlying22 hj0 ha1 A n c I (I + 4) .i64 .i64 (I : Int) ((I : Int) + 4) rfl rfl (by omega) (by have := HT.out; omega)
            have hr4 : Rd wr A4 4 (bys ((b.drop I).take 4)) := (H.out.2.2.below hK.1).mid (by have := HT.out; omega) (fun _ => hA4 (by omega))
            have h44 : I + 4 - I = 4 := by omega
            rw [h44] at hm4
            have hwI : IntKind.i64.wrap ((I : Int) + 4) = (I : Int) + 4 := by rw [IntKind.wrap_i64]; have := HT.out; omega
            obtain ⟨X, hX⟩ : ∃ X, nb ((b.drop I).take 4) = X := ⟨_, rfl⟩
            have hs : rT b (q + 1) = rT b q ++ [X] := by rw [rT_succ, hI, hX]
            obtain ⟨lq, hlq⟩ : ∃ lq, rT b q = lq := ⟨_, rfl⟩
            rw [hlq] at hs hK
            have HK := Lib.hid (And.intro hK (And.intro hs (And.intro hlt (And.intro hI (And.intro hr4 hX)))))
            have hb1 := hK.2.2.2.2
            have hq6 : q ≤ 65535 := by omega
            clear hK hqT hlt hI hs hlq hr4 hX hA4 h44
            go_wp2_with fail
            go_region_law (first
              | (go_simp; go_at_call 34; refine (number_any (HK.out.2.2.2.2.1.below (Below.refl wr.heap.size wr).drew) (by omega)).mono ?_; rintro e wx ⟨rfl, rfl⟩; rw [HK.out.2.2.2.2.2]; have k6 := (((Below.refl wr.heap.size wr).alloc (Nat.le_refl _) (.cells #[.int .i64 X] 3)).drew).cell (p := ⟨wa.heap.size, 4, none⟩) HK.out.1.2.1.lt |>.trans k4)
              | (refine step_append_rd (by rfl) (.tmp 40) (.tmp 47) _ (by rfl) (wa.heap.size + 1) 3 i0 _ 1 8 Try.underlying25 hi0 hz0 hz1 hz2 rfl (by omega) _ q (nums lq) (by rfl) (own_below HK.out.1.2.2.1 (((Below.refl _ _).alloc (Nat.le_refl _) _).drew)) (some ⟨wr.heap.size, 0, none⟩) 1 1 (nums [X]) (by rfl) ((Rd.lit _ _ _ _ rfl 1 rfl _ rfl).drew) (nums_one _) (by simp only [maxLen]; omega) (by omega) (by show wa.heap.size + 1 ≤ (wr.alloc _).heap.size; rw [World.size_alloc]; exact Nat.le_succ_of_le hb1) ?_; intro v1 w4 hown1 hg1 hat1; rw [← nums_append] at hown1; obtain ⟨A5, c5, rfl, _⟩ := own_form hown1; obtain ⟨z1, z2⟩ := HK.out.1.app (grw_undrewA hg1) hown1; have k5 := z1.cell 4; have f5 := z1.frozen 4; have S2 := Lib.hid z2; clear hown1 hg1 hat1 z1 z2))
            all_goals go_wp2_with fail
            all_goals refine ⟨⟨q + 1, A5, c5, by have := HK.out.2.2.1; omega, by have := HK.out.2.2.2.1; congr 1; omega, ?_⟩, by have := HK.out.2.2.1; have := HK.out.2.2.2.1; have := HT.out; simp [intOf]; omega⟩
            all_goals (rw [HK.out.2.1]; exact S2.out)
          · have hqe : q = T := by omega
            subst hqe
            have hIn : I = n := by have := HT.out; omega
            subst hIn
            have km : ¬ (I : Int) < (I : Int) := by omega
            have hM0 := H.out.2.1.below hK.1 (by rw [HWS.out.1]; exact Nat.lt_succ_self _)
            have hne : w.heap.size ≠ wa.heap.size := by have := HWS.out.1; omega
            have HK := Lib.hid (And.intro hK hM0)
            have hjq : (b.length - 20) / 4 = q := by have := HWS.out.2; have := HT.out; omega
            have hpm : rgM b = ⟨v0, v1, v2, v3, rT b q⟩ := by unfold rgM; rw [HV.out.1, HV.out.2.1, HV.out.2.2.1, HV.out.2.2.2, hjq]
            have hpb : rgB b = mfB ⟨v0, v1, v2, v3, rT b q⟩ := by
              unfold rgB; rw [hpm, HWS.out.2, HZ.out.2, show decide (20 ≤ I) = true from by simp; have := HT.out; omega, show decide ((I : Int) = 20 + 4 * (q : Int)) = true from by simp; exact HNT.out.1]
              rfl
            have HP := Lib.hid (And.intro hpm hpb)
            obtain ⟨lq, hlq⟩ : ∃ lq, rT b q = lq := ⟨_, rfl⟩
            rw [hlq] at HK HP
            have hlen : lq.length = q := by rw [← hlq]; exact rT_len _ _
            have hR : ∀ x ∈ lq, R64 x := by rw [← hlq]; intro x hx; unfold rT at hx; obtain ⟨i, _, rfl⟩ := List.mem_map.1 hx; exact nb_R64 _
            have HL := Lib.hid (And.intro hlen hR)
            obtain ⟨c0, c1, c2, c3, c4⟩ := cells5 hK.2.1
            clear hK hM0 hpm hpb hlq hlen hR hlt hqT hjq
            go_wp2_with fail
            have hma : MA wr A' q c' ⟨v0, v1, v2, v3, lq⟩ := ⟨Rd.of_own HK.out.1.2.2.1, by obtain ⟨_, _, ev, hle, _⟩ := own_form HK.out.1.2.2.1; injection ev with _ _ e3; omega, by omega, HL.out.1, by rw [← HV.out.1]; exact nb_R64 _, by rw [← HV.out.2.1]; exact nb_R64 _, by rw [← HV.out.2.2.1]; exact nb_R64 _, by rw [← HV.out.2.2.2]; exact nb_R64 _, HL.out.2⟩
            refine (rcheck_any hma).mono ?_
            rintro e wy ⟨rfl, hby⟩
            have HY := Lib.hid (And.intro (HK.out.1.below hby) (HK.out.2.belowS hby))
            clear c0 c1 c2 c3 c4 hby hma
            have hM1 := HY.out.2
            have f0 := hM1.frozen 0
            have f1 := hM1.frozen 1
            have f2 := hM1.frozen 2
            have f3 := hM1.frozen 3
            have f4 := hM1.frozen 4
            obtain ⟨m0, m1, m2, m3, m4⟩ := cells5 hM1
            obtain ⟨c0, c1, c2, c3, c4⟩ := cells5 HY.out.1.2.1
            clear hM1
            cases hq : mfB ⟨v0, v1, v2, v3, lq⟩ with
            | false =>
              rw [show mfE ⟨v0, v1, v2, v3, lq⟩ = 2 from by unfold mfE; rw [hq]; rfl]
              have HE := Lib.hid (show rgB b = false from by rw [HP.out.2, hq])
              clear hq
              go_wp2_with fail
              have hB := below_base H.out.1 HY.out.1.1 H.out.1.size
              have h9 := setM hB HY.out.2 (.int .i64 0) (.int .i64 0) (.int .i64 0) (.int .i64 0) (.slice none 0 0)
              exact ret_mfE (v5 := .int .i64 6) rfl rfl rfl rfl h9.1 (rm_no h9.2.1 HE.out)
            | true =>
              rw [show mfE ⟨v0, v1, v2, v3, lq⟩ = 0 from by unfold mfE; rw [hq]; rfl]
              have HE := Lib.hid (show rgB b = true from by rw [HP.out.2, hq])
              clear hq
              go_wp2_with fail
              have hB := below_base H.out.1 HY.out.1.1 H.out.1.size
              have h9 := setM hB HY.out.2 (.int .i64 v0) (.int .i64 v1) (.int .i64 v2) (.int .i64 v3) (.slice A' q c')
              refine ret_mfE (v5 := .int .i64 0) rfl rfl rfl rfl h9.1 ?_
              unfold GmPost rtM rtE
              rw [HE.out, HP.out.1]
              have ho := h9.2.2.own HY.out.1.2.2.1 (fun a ha e => by have := (own_ge HY.out.1.2.2.1 a ha).1; have := HWS.out.1; omega)
              rw [if_pos rfl, if_pos rfl]
              show ∃ A1 c1, _ = Ending.returned (.tuple #[.agg #[.int .i64 v0, .int .i64 v1, .int .i64 v2, .int .i64 v3, .slice A1 lq.length c1], _]) ∧ World.ownsRow _ _ _ _ (.slice A1 lq.length c1) lq.length (nums lq) ∧ _
              rw [HL.out.1]
              exact ⟨A', c', rfl, own_mono ho (by have := HWS.out.1; omega), h9.2.1⟩
    · have d3 : ((n : Int) != 20 + 4 * t) = true := by simpa using hnt
      have HE := Lib.hid (show rgB b = false from by unfold rgB; rw [HWS.out.2, HZ.out.2]; simp [hnt])
      clear hnt
      have hM1 := H.out.2.1
      have f0 := hM1.frozen 0
      have f1 := hM1.frozen 1
      have f2 := hM1.frozen 2
      have f3 := hM1.frozen 3
      have f4 := hM1.frozen 4
      obtain ⟨m0, m1, m2, m3, m4⟩ := cells5 hM1
      clear hM1
      go_wp2_with fail
      have h9 := setM H.out.1 H.out.2.1 (.int .i64 0) (.int .i64 0) (.int .i64 0) (.int .i64 0) (.slice none 0 0)
      exact ret_mfE (v5 := .int .i64 6) rfl rfl rfl rfl h9.1 (rm_no h9.2.1 HE.out)
end Go.Proofs.Ythnoeiiebokooaa
