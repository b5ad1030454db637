/- OctetReads: its walk. -/
import Derived.Test.YtdepmogibhmdaaaRx10
namespace Go.Proofs.Ytdepmogibhmdaaa
open Go.RowKit
set_option linter.unusedVariables false
set_option maxRecDepth 100000 in
set_option maxHeartbeats 1600000 in
/-- artesianlaw10.OctetReads -/
theorem reads_walk {w : World} {A : Option Addr} {n c : Nat} {l : List UInt8} (h : Rd w A n (bys l) ∧ n ≤ c ∧ n ≤ 140737488351232) {D : Option Addr} {m q : Nat} {its : List It} (g : Its w D m its ∧ m ≤ q ∧ m ≤ 2932031007402) :
    Calls Try.prog 4 #[.slice A n c, .slice D m q] w fun e w' => e = .returned (.bool true) ∧ Below w.heap.size w w' := by
  obtain ⟨hr, hc, hn⟩ := h
  obtain ⟨hi, hq, hm⟩ := g
  have hl : l.length = n := by have := hr.1; simpa [bys_length] using this
  have HR := Lib.hid (And.intro hr (And.intro hl hc))
  have HI := Lib.hid hi
  clear hr hl hc hi hq
  have hlong : ∀ w', Below w.heap.size w w' → Calls Try.prog 11 #[.slice D m q] w' fun e w'' => e = .returned (.bool (longV its)) ∧ w' = w'' := fun w' hb => long_any (HI.out.below hb) hm
  have HLong := Lib.hid hlong
  clear hlong
  go_enter Try.func4, Try.ntmps4
  by_cases hbig : n > 300
  · have d1 : decide ((n : Int) > 300) = true := by simp; omega
    have d2 : decide ((300 : Int) < (n : Int)) = true := by simp; omega
    have d3 : decide (300 < n) = true := by simp; omega
    clear hbig
    go_wp2_with fail
    refine awake_any.mono ?_
    rintro e w1 ⟨rfl, hb1⟩
    have H1 := Lib.hid hb1
    clear hb1
    go_wp2
    go_ret
    exact ⟨rfl, H1.out⟩
  · have d1 : decide ((n : Int) > 300) = false := by simp; omega
    have d2 : decide ((300 : Int) < (n : Int)) = false := by simp; omega
    have d3 : decide (300 < n) = false := by simp; omega
    clear hbig
    go_wp2_with fail
    refine (HLong.out w (Below.refl _ _)).mono ?_
    rintro e w1 ⟨rfl, rfl⟩
    cases hlv : longV its with
    | true =>
      clear hlv
      go_wp2_with fail
      refine awake_any.mono ?_
      rintro e w1 ⟨rfl, hb1⟩
      have H1 := Lib.hid hb1
      clear hb1
      go_wp2
      go_ret
      exact ⟨rfl, H1.out⟩
    | false =>
      have HV := Lib.hid (longV_no hlv)
      clear hlv
      go_wp2_with fail
      refine (copy_any HR.out.1 hn).mono ?_
      rintro e w1 ⟨v, rfl, hown, hb1⟩
      obtain ⟨I, ci, rfl, _⟩ := own_form hown
      have H1 := Lib.hid (And.intro hown hb1)
      clear hown hb1
      go_wp2_with fail
      refine (newR_any (Rd.of_own H1.out.1) hn).mono ?_
      rintro e w2 ⟨Q, B, d, rfl, ho, hb2, hQ, hB⟩
      have H2 := Lib.hid (And.intro ho (And.intro hb2 (And.intro hQ hB)))
      clear ho hb2 hQ hB
      go_wp2_with fail
      refine (newF_any (HR.out.1.below (below_base H1.out.2 H2.out.2.1 H1.out.2.size)) hn).mono ?_
      rintro e w3 ⟨F, C, k3, rfl, hf, hb3, hF, hC⟩
      have hrx : RX w w3 Q B d ⟨l, 0, 0, 0⟩ F C k3 ⟨l, 0, 0, 0⟩ ∧ w3.ownsRow w.heap.size 5 1 (.slice I n ci) n (bys l) ∧ ¬ Aset I Q ∧ ¬ Aset I F ∧ (∀ b, B = some b → ¬ Aset I b.block) ∧ (∀ b, C = some b → ¬ Aset I b.block) := by
        obtain ⟨ho, hb2, hQ, hB⟩ := H2.out
        obtain ⟨hown, hb1⟩ := H1.out
        have s1 := hb1.size
        have s2 := hb2.size
        have s3 := hb3.size
        have hQl := ho.1.lt
        have hge := own_ge hown
        refine ⟨⟨ho.below hb3, hf, by omega, by omega, by omega, fun b hb => ⟨by have := (hB b hb).2; omega, by have := (hB b hb).2; omega⟩, fun b hb => ⟨by have := (hC b hb).1; omega, (hC b hb).2⟩, below_base (below_base hb1 hb2 s1) hb3 (Nat.le_trans s1 s2)⟩, own_below (own_below hown hb2) hb3, ?_, ?_, fun b hb => ?_, fun b hb => ?_⟩
        · rintro ⟨a, ha, e⟩
          have := (hge a ha).2; omega
        · rintro ⟨a, ha, e⟩
          have := (hge a ha).2; omega
        · rintro ⟨a, ha, e⟩
          have := (hge a ha).2; have := (hB b hb).1; omega
        · rintro ⟨a, ha, e⟩
          have := (hge a ha).2; have := (hC b hb).1; omega
      have H3 := Lib.hid hrx
      clear hrx hf hb3 hF hC H2
      go_wp2_with fail
      refine (same_true (Rd.of_own H3.out.2.1) (HR.out.1.below H3.out.1.b)).mono ?_
      rintro e w4 ⟨rfl, rfl⟩
      go_wp2_with fail
      refine (over_own H3.out.2.1 (Below.refl _ _) H3.out.1.b.size hn).mono ?_
      rintro e w4 ⟨rfl, hch⟩
      have H4 := Lib.hid (H3.out.1.other hch H3.out.2.2.1 H3.out.2.2.2.1 H3.out.2.2.2.2.1 H3.out.2.2.2.2.2 (fun k _ hk => by obtain ⟨a, ha, e⟩ := hk; have := (own_ge H3.out.2.1 a ha).1; omega))
      clear hch H3 H1
      go_wp2
      go_loopw [8] (fun i wr => ∃ (k : Nat) (s : RS), k ≤ m ∧ i = .int .i64 k ∧ RX w wr Q B d s F C k3 s) (fun i wr => m - (intOf i).toNat)
      case atStart => exact ⟨0, _, by omega, rfl, H4.out⟩
      case round =>
        clear H4
        obtain ⟨k, s, hk, rfl, hx⟩ := hrel
        have H4 := Lib.hid hx
        clear hx
        by_cases hlt : k < m
        · obtain ⟨a, off, rfl, hal, hel⟩ := HI.out.2 (by omega)
          have hkl : k < its.length := by rw [HI.out.1]; exact hlt
          obtain ⟨e0, e1, e2, BB, mm, cc, e3, hrd, hmc, hmm, hI1, hI2⟩ := hel k hkl
          have km : (k : Int) < (m : Int) := by omega
          have HE := Lib.hid (And.intro e0 (And.intro e1 (And.intro e2 (And.intro hal hlt))))
          have c0 := (H4.out.b.cell (p := ⟨a, off + k * 4, none⟩) hal).trans e0
          have c1 := (H4.out.b.cell (p := ⟨a, off + k * 4 + 1, none⟩) hal).trans e1
          have c2 := (H4.out.b.cell (p := ⟨a, off + k * 4 + 2, none⟩) hal).trans e2
          clear e0 e1 e2 e3 hrd hmc hmm hI1 hI2 hel hlt
          generalize its[k].raws = raws at c0 HE
          generalize its[k].wd = wd at c1 HE
          generalize its[k].n = nn at c2 HE
          cases raws with
          | true =>
            go_upto_region 12 with fail
            obtain ⟨X, hX⟩ : ∃ X, (s.take nn true).1 = X := ⟨_, rfl⟩
            obtain ⟨s', hs'⟩ : ∃ s', (s.take nn true).2 = s' := ⟨_, rfl⟩
            obtain ⟨L, hL⟩ : ∃ L, X.length = L := ⟨_, rfl⟩
            have HX := Lib.hid (And.intro hX (And.intro hs' hL))
            clear hX hs' hL
            have hbx : ∀ wy, Below w.heap.size w wy → wy.cell? ⟨a, off + k * 4 + 2, none⟩ = some (.int .i64 nn) := fun wy hb => (hb.cell (p := ⟨a, off + k * 4 + 2, none⟩) HE.out.2.2.2.1).trans HE.out.2.2.1
            have HBX := Lib.hid hbx
            clear hbx c0 c1
            go_cut [9, 10] (fun s9 s10 wx => ∃ P1 k1 P2 k2 base, s9 = .slice P1 L k1 ∧ s10 = .slice P2 L k2 ∧ RX w wx Q B d s' F C k3 s' ∧ wr.heap.size ≤ base ∧ base ≤ wx.heap.size ∧ wx.ownsRow base 5 1 (.slice P1 L k1) L (bys X) ∧ Rd wx P2 L (bys X))
            case first =>
              go_region_held3 (fun w' => w'.cell? ⟨a, off + k * 4 + 2, none⟩ = some (.int .i64 nn))
                (first | exact K8 | exact K7 | exact K6 | exact K5 | exact c2)
                ((first
                  | (go_at_call 21; refine ((H4.out.below (Below.refl _ _).drew).rawO nn).mono ?_; rintro e w5 ⟨⟨P1, k1, rfl, ho⟩, h5, hc5⟩; rw [HX.out.1, HX.out.2.2] at ho; rw [HX.out.2.1] at h5; rw [HX.out.1, HX.out.2.2]; have K5 := HBX.out _ h5.b; have H5 := Lib.hid (And.intro ho (And.intro h5 hc5.size)); clear ho h5 hc5)
                  | (go_at_call 22; refine (H5.out.2.1.rawF nn).mono ?_; rintro e w6 ⟨⟨P2, k2, rfl, ho⟩, h6, hc6⟩; rw [HX.out.1, HX.out.2.2] at ho; rw [HX.out.2.1] at h6; rw [HX.out.1, HX.out.2.2]; have K6 := HBX.out _ h6.b; have H6 := Lib.hid (And.intro (hc6.own_new H5.out.1 (fun j hj => by subst hj; exact H4.out.f.1.lt)) (And.intro (Rd.of_own ho) (And.intro h6 hc6.size))); clear ho h6 hc6)
                  | (go_at_call 22; refine ((H4.out.below (Below.refl _ _).drew).rawF nn).mono ?_; rintro e w5 ⟨⟨P2, k2, rfl, ho⟩, h5, hc5⟩; rw [HX.out.1, HX.out.2.2] at ho; rw [HX.out.2.1] at h5; rw [HX.out.1, HX.out.2.2]; have K7 := HBX.out _ h5.b; have H7 := Lib.hid (And.intro ho (And.intro h5 hc5.size)); clear ho h5 hc5)
                  | (go_at_call 21; refine (H7.out.2.1.rawO nn).mono ?_; rintro e w6 ⟨⟨P1, k1, rfl, ho⟩, h6, hc6⟩; rw [HX.out.1, HX.out.2.2] at ho; rw [HX.out.2.1] at h6; rw [HX.out.1, HX.out.2.2]; have K8 := HBX.out _ h6.b; have H8 := Lib.hid (And.intro ho (And.intro (Rd.of_own (hc6.own_new H7.out.1 (fun j hj => by subst hj; exact H4.out.o.1.lt))) (And.intro h6 hc6.size))); clear ho h6 hc6)))
              all_goals go_wp2_with fail
              all_goals go_meet
              all_goals first | exact ⟨P1, k1, P2, k2, wr.drew.heap.size, rfl, rfl, H6.out.2.2.1, Nat.le_refl _, Nat.le_trans H5.out.2.2 H6.out.2.2.2, H6.out.1, H6.out.2.1⟩ | exact ⟨P1, k1, P2, k2, w5.heap.size, rfl, rfl, H8.out.2.2.1, H7.out.2.2, H8.out.2.2.2, H8.out.1, H8.out.2.1⟩ | trace_state
            case rest =>
              obtain ⟨P1, k1, P2, k2, base, rfl, rfl, hx, hb1, hb2, ho, hp⟩ := hcut
              have H5 := Lib.hid (And.intro hx (And.intro ho (And.intro hp (And.intro hb1 hb2))))
              clear hx ho hp hb1 hb2 c2
              go_wp2_with fail
              refine (same_true (Rd.of_own H5.out.2.1) H5.out.2.2.1).mono ?_
              rintro e w6 ⟨rfl, rfl⟩
              have hge := own_ge H5.out.2.1
              have hnQ : ∀ j, j < wr.heap.size → ¬ Aset P1 j := by
                rintro j hj ⟨a1, ha, e⟩
                have := (hge a1 ha).1
                have := H5.out.2.2.2.1
                omega
              have hLn : L ≤ 140737488351232 := by
                have h1 := (own_form H5.out.2.1)
                obtain ⟨_, _, _, q1, q2, _, _⟩ := h1
                have := HX.out.2.2
                have hl := RS.take_len s nn true
                rw [HX.out.1] at hl
                rcases hl with e | ⟨_, e0, e1, _, e3⟩
                · rw [e] at this; simp at this; omega
                · have := H4.out.o.2.2.2.2.1; omega
              have HNQ := Lib.hid hnQ
              clear hnQ hge
              go_wp2_with fail
              refine (over_own H5.out.2.1 (Below.refl _ _) H5.out.2.2.2.2 hLn).mono ?_
              rintro e w7 ⟨rfl, hch⟩
              have H7 := Lib.hid (H5.out.1.other hch (HNQ.out _ H4.out.o.1.lt) (HNQ.out _ H4.out.f.1.lt) (fun b hb => HNQ.out _ (H4.out.bf b hb).2) (fun b hb => HNQ.out _ (H4.out.cq b hb).2) (fun j _ hj => by
                obtain ⟨a1, ha, e⟩ := hj
                have := (own_ge H5.out.2.1 a1 ha).1
                have := H5.out.2.2.2.1
                have := H4.out.b.size
                omega))
              clear hch hLn
              go_wp2_with fail
              refine H7.out.restO.mono ?_
              rintro e w8 ⟨rfl, h8⟩
              have H8 := Lib.hid h8
              clear h8
              go_wp2_with fail
              refine H8.out.restF.mono ?_
              rintro e w9 ⟨rfl, h9⟩
              have H9 := Lib.hid h9
              clear h9
              obtain ⟨x9, hx9⟩ : ∃ x, (s').rest = x := ⟨_, rfl⟩
              rw [hx9]
              have n9 : (x9 != x9) = false := by simp
              clear hx9
              go_wp2_with fail
              refine H9.out.endO.mono ?_
              rintro e w10 ⟨rfl, h10⟩
              have H10 := Lib.hid h10
              clear h10
              go_wp2_with fail
              refine H10.out.endF.mono ?_
              rintro e w11 ⟨rfl, h11⟩
              have H11 := Lib.hid h11
              clear h11
              obtain ⟨y1, hy1⟩ : ∃ x, (s').fin.1 = x := ⟨_, rfl⟩
              obtain ⟨y2, hy2⟩ : ∃ x, (s').fin.2 = x := ⟨_, rfl⟩
              rw [hy1, hy2]
              clear hy1 hy2
              go_wp2
              exact ⟨⟨k + 1, _, by have := HE.out.2.2.2.2; omega, by go_num, H11.out⟩, by have := HE.out.2.2.2.2; simp [intOf]; omega⟩
          | false =>
            go_upto_region 16 with fail
            obtain ⟨v, hv⟩ : ∃ v, (s.get wd).1 = v := ⟨_, rfl⟩
            obtain ⟨s', hs'⟩ : ∃ s', (s.get wd).2 = s' := ⟨_, rfl⟩
            have HX := Lib.hid (And.intro hv hs')
            clear hv hs'
            have nv : (v != v) = false := by simp
            have hbx : ∀ wy, Below w.heap.size w wy → wy.cell? ⟨a, off + k * 4 + 1, none⟩ = some (.int .i64 wd) := fun wy hb => (hb.cell (p := ⟨a, off + k * 4 + 1, none⟩) HE.out.2.2.2.1).trans HE.out.2.1
            have HBX := Lib.hid hbx
            clear hbx c0 c2
            go_cut [80] (fun s80 wx => s80 = .bool false ∧ RX w wx Q B d s' F C k3 s')
            case first =>
              go_region_held3 (fun w' => w'.cell? ⟨a, off + k * 4 + 1, none⟩ = some (.int .i64 wd))
                (first | exact K8 | exact K7 | exact K6 | exact K5 | exact c1)
                ((first
                  | (go_at_call 23; refine ((H4.out.below (Below.refl _ _).drew).getO wd).mono ?_; rintro e w5 ⟨rfl, h5⟩; rw [HX.out.2] at h5; rw [HX.out.1]; have K5 := HBX.out _ h5.b; have H5 := Lib.hid h5; clear h5)
                  | (go_at_call 24; refine (H5.out.getF wd).mono ?_; rintro e w6 ⟨rfl, h6⟩; rw [HX.out.2] at h6; rw [HX.out.1]; have K6 := HBX.out _ h6.b; have H6 := Lib.hid h6; clear h6)
                  | (go_at_call 24; refine ((H4.out.below (Below.refl _ _).drew).getF wd).mono ?_; rintro e w5 ⟨rfl, h5⟩; rw [HX.out.2] at h5; rw [HX.out.1]; have K7 := HBX.out _ h5.b; have H7 := Lib.hid h5; clear h5)
                  | (go_at_call 23; refine (H7.out.getO wd).mono ?_; rintro e w6 ⟨rfl, h6⟩; rw [HX.out.2] at h6; rw [HX.out.1]; have K8 := HBX.out _ h6.b; have H8 := Lib.hid h6; clear h6)))
              all_goals go_wp2_with fail
              all_goals go_meet
              all_goals first | exact ⟨rfl, H6.out⟩ | exact ⟨rfl, H8.out⟩
            case rest =>
              obtain ⟨rfl, hx⟩ := hcut
              have H7 := Lib.hid hx
              clear hx c1
              go_wp2_with fail
              refine H7.out.restO.mono ?_
              rintro e w8 ⟨rfl, h8⟩
              have H8 := Lib.hid h8
              clear h8
              go_wp2_with fail
              refine H8.out.restF.mono ?_
              rintro e w9 ⟨rfl, h9⟩
              have H9 := Lib.hid h9
              clear h9
              obtain ⟨x9, hx9⟩ : ∃ x, (s').rest = x := ⟨_, rfl⟩
              rw [hx9]
              have n9 : (x9 != x9) = false := by simp
              clear hx9
              go_wp2_with fail
              refine H9.out.endO.mono ?_
              rintro e w10 ⟨rfl, h10⟩
              have H10 := Lib.hid h10
              clear h10
              go_wp2_with fail
              refine H10.out.endF.mono ?_
              rintro e w11 ⟨rfl, h11⟩
              have H11 := Lib.hid h11
              clear h11
              obtain ⟨y1, hy1⟩ : ∃ x, (s').fin.1 = x := ⟨_, rfl⟩
              obtain ⟨y2, hy2⟩ : ∃ x, (s').fin.2 = x := ⟨_, rfl⟩
              rw [hy1, hy2]
              clear hy1 hy2
              go_wp2
              exact ⟨⟨k + 1, _, by have := HE.out.2.2.2.2; omega, by go_num, H11.out⟩, by have := HE.out.2.2.2.2; simp [intOf]; omega⟩
        · obtain rfl : k = m := by omega
          clear hlt hk
          go_wp2_with fail
          refine awake_any.mono ?_
          rintro e w5 ⟨rfl, hb5⟩
          have H5 := Lib.hid (H4.out.below hb5).b
          clear hb5
          go_wp2
          go_ret
          exact ⟨rfl, H5.out⟩
end Go.Proofs.Ytdepmogibhmdaaa
