/- OctetWithin: its walk. -/
import Derived.Test.YtdepmogibhmdaaaKo10
namespace Go.Proofs.Ytdepmogibhmdaaa
open Go.RowKit
set_option linter.unusedVariables false
/-- Two readers, newer than a world. -/
def R2 (w0 w : World) (Q : Nat) (B : Option Addr) (d : Nat) (r : RS) (Q' : Nat) (B' : Option Addr) (d' : Nat) (r' : RS) : Prop :=
  RR w0 w Q B d r ∧ RR w0 w Q' B' d' r' ∧ Q ≠ Q' ∧ (∀ b, B = some b → b.block ≠ Q') ∧ (∀ b, B' = some b → b.block ≠ Q)
theorem R2.below {w0 w w' : World} {Q d Q' d' : Nat} {B B' : Option Addr} {r r' : RS} (h : R2 w0 w Q B d r Q' B' d' r') (hb : Below w.heap.size w w') : R2 w0 w' Q B d r Q' B' d' r' := ⟨h.1.below hb, h.2.1.below hb, h.2.2⟩
theorem R2.one {w0 w w' : World} {Q d Q' d' : Nat} {B B' : Option Addr} {r r1 r' : RS} (h : R2 w0 w Q B d r Q' B' d' r') (h1 : Ro w' Q B d r1) (hc : Chg (fun k => k = Q) w w') : R2 w0 w' Q B d r1 Q' B' d' r' :=
  ⟨h.1.chg h1 hc, ⟨h.2.1.1.chg hc (fun e => h.2.2.1 e.symm) (fun b hb e => h.2.2.2.2 b hb e), h.2.1.2.1, (h.1.chg h1 hc).2.2⟩, h.2.2⟩
theorem R2.swap {w0 w : World} {Q d Q' d' : Nat} {B B' : Option Addr} {r r' : RS} (h : R2 w0 w Q B d r Q' B' d' r') : R2 w0 w Q' B' d' r' Q B d r := ⟨h.2.1, h.1, fun e => h.2.2.1 e.symm, h.2.2.2.2, h.2.2.2.1⟩
theorem R2.get {w0 w : World} {Q d Q' d' : Nat} {B B' : Option Addr} {r r1 r' : RS} (h : R2 w0 w Q B d r Q' B' d' r') {n x : Int} (hs : r.get n = (x, r1)) :
    Calls Try.prog 23 #[.pointer (some ⟨Q, 0, none⟩), .int .i64 n] w fun e w' => e = .returned (.int .i64 x) ∧ R2 w0 w' Q B d r1 Q' B' d' r' := by
  refine (getR_any h.1.1 n).mono fun e w' ⟨h1, h2, h3⟩ => ?_
  rw [hs] at h1 h2
  exact ⟨h1, h.one h2 h3⟩
theorem R2.raw {w0 w : World} {Q d Q' d' : Nat} {B B' : Option Addr} {r r1 r' : RS} (h : R2 w0 w Q B d r Q' B' d' r') {n : Int} {l : List UInt8} (hs : r.take n true = (l, r1)) :
    Calls Try.prog 21 #[.pointer (some ⟨Q, 0, none⟩), .int .i64 n] w fun e w' => (∃ C k, e = .returned (.slice C l.length k) ∧ Rd w' C l.length (bys l)) ∧ R2 w0 w' Q B d r1 Q' B' d' r' := by
  refine (rawR_any h.1.1 n).mono fun e w' ⟨v, h0, h1, h2, h3⟩ => ?_
  rw [hs] at h1 h2
  obtain ⟨C, k, rfl, _⟩ := own_form h1
  exact ⟨⟨C, k, h0, Rd.of_own h1⟩, h.one h2 h3⟩
theorem R2.rest {w0 w : World} {Q d Q' d' : Nat} {B B' : Option Addr} {r r' : RS} (h : R2 w0 w Q B d r Q' B' d' r') :
    Calls Try.prog 25 #[.pointer (some ⟨Q, 0, none⟩)] w fun e w' => e = .returned (.int .i64 r.rest) ∧ R2 w0 w' Q B d r Q' B' d' r' :=
  (restR_any h.1.1).mono fun e w' ⟨h0, h1⟩ => ⟨h0, h.below h1⟩
theorem get_one {l : List UInt8} {i : Nat} (h : i < l.length) : (⟨l, i, 0, 0⟩ : RS).get 1 = ((l[i].toNat : Int), ⟨l, i + 1, 0, 0⟩) := by
  have e : (⟨l, i, 0, 0⟩ : RS).take 1 (wid 1) = ([l[i]], ⟨l, i + 1, 0, 0⟩) := by
    rw [RS.take_ok rfl (by rw [show wid 1 = true from rfl]; simp) (by show ¬ (l.length : Int) - i < 1; omega)]
    show ((l.drop i).take 1, _) = _
    rw [List.drop_eq_getElem_cons h]
    rfl
  unfold RS.get
  rw [e, if_neg (by have := l[i].toNat_lt; simp [be]; omega)]
  simp [be]
theorem get_two {l : List UInt8} {i : Nat} (h : i + 1 < l.length) : (⟨l, i, 0, 0⟩ : RS).get 2 = (256 * (l[i].toNat : Int) + (l[i + 1].toNat : Int), ⟨l, i + 2, 0, 0⟩) := by
  have e : (⟨l, i, 0, 0⟩ : RS).take 2 (wid 2) = ([l[i], l[i + 1]], ⟨l, i + 2, 0, 0⟩) := by
    rw [RS.take_ok rfl (by rw [show wid 2 = true from rfl]; simp) (by show ¬ (l.length : Int) - i < 2; omega)]
    show ((l.drop i).take 2, _) = _
    rw [List.drop_eq_getElem_cons (by omega), List.drop_eq_getElem_cons h]
    rfl
  unfold RS.get
  rw [e, if_neg (by have := l[i].toNat_lt; have := l[i + 1].toNat_lt; simp [be]; omega)]
  simp [be]
theorem take_first {l : List UInt8} {f : Nat} (h : f ≤ l.length) : (⟨l, 0, 0, 0⟩ : RS).take (f : Int) true = (l.take f, ⟨l, f, 0, 0⟩) := by
  rw [RS.take_ok rfl (by simp) (by show ¬ (l.length : Int) - ((0 : Nat) : Int) < f; omega)]
  simp
theorem get_end (l : List UInt8) : (⟨l, l.length, 0, 0⟩ : RS).get 1 = (0, ⟨l, l.length, 7, l.length⟩) := by
  have e : (⟨l, l.length, 0, 0⟩ : RS).take 1 (wid 1) = ([], ⟨l, l.length, 7, l.length⟩) := by
    rw [RS.take_short rfl (by rw [show wid 1 = true from rfl]; simp) (by show (l.length : Int) - (l.length : Int) < 1; omega)]
  unfold RS.get
  rw [e, if_neg (by simp [be])]
  simp [be]
theorem get_err {l : List UInt8} {p : Nat} {e f : Int} (he : e ≠ 0) (n : Int) : (⟨l, p, e, f⟩ : RS).get n = (0, ⟨l, p, e, f⟩) := by
  unfold RS.get
  rw [RS.take_e he, if_neg (by simp [be])]
  simp [be]
set_option maxRecDepth 100000 in
set_option maxHeartbeats 1600000 in
/-- artesianlaw10.OctetWithin -/
theorem within_walk {w : World} {A : Option Addr} {n c : Nat} {l : List UInt8} {x : Int} (h : Rd w A n (bys l) ∧ n ≤ c ∧ n ≤ 140737488351232) (hx : (Lit.int .i64 x).wf = true) :
    Calls Try.prog 8 #[.slice A n c, .int .i64 x] w fun e w' => e = .returned (.bool true) ∧ Below w.heap.size w w' := by
  obtain ⟨hr, hc, hn⟩ := h
  have hl : l.length = n := by have := hr.1; simpa [bys_length] using this
  have HR := Lib.hid (And.intro hr (And.intro hl hc))
  have HX := Lib.hid hx
  clear hr hl hc hx
  go_enter Try.func8, Try.ntmps8
  go_wp2_with fail
  refine awake_any.mono ?_
  rintro e w1 ⟨rfl, hb1⟩
  have H1 := Lib.hid hb1
  clear hb1
  by_cases hbig : n > 300
  · have d1 : decide ((n : Int) > 300) = true := by simp; omega
    have d2 : decide ((300 : Int) < (n : Int)) = true := by simp; omega
    have d3 : decide (300 < n) = true := by simp; omega
    clear hbig
    go_wp2
    go_ret
    exact ⟨rfl, H1.out⟩
  · have d1 : decide ((n : Int) > 300) = false := by simp; omega
    have d2 : decide ((300 : Int) < (n : Int)) = false := by simp; omega
    have d3 : decide (300 < n) = false := by simp; omega
    have n300 : n ≤ 300 := by omega
    clear hbig
    go_wp2_with fail
    refine (pick_any x ((n : Int) + 1) HX.out (by omega) (by omega)).mono ?_
    rintro e w2 ⟨rfl, rfl⟩
    obtain ⟨f, hf, hfn⟩ : ∃ f : Nat, x % ((n : Int) + 1) = f ∧ f ≤ n := ⟨(x % ((n : Int) + 1)).toNat, by have := Int.emod_nonneg x (show (n : Int) + 1 ≠ 0 by omega); omega, by have := Int.emod_nonneg x (show (n : Int) + 1 ≠ 0 by omega); have := Int.emod_lt_of_pos x (show (0 : Int) < (n : Int) + 1 by omega); omega⟩
    rw [hf]
    clear hf
    go_wp2_with fail
    refine (newR_any (HR.out.1.below H1.out) (by omega)).mono ?_
    rintro e w3 ⟨Q, B, d, rfl, hr3, hb3, hQ3, hB3⟩
    have h3 := below_base H1.out hb3 H1.out.size
    have H3 := Lib.hid (And.intro hr3 (And.intro h3 (And.intro hQ3 hB3)))
    clear hr3 hb3 hQ3 hB3 h3
    go_wp2_with fail
    refine (newR_any (HR.out.1.below H3.out.2.1) (by omega)).mono ?_
    rintro e w4 ⟨Q', B', d', rfl, hr4, hb4, hQ4, hB4⟩
    have h2 : R2 w w4 Q B d ⟨l, 0, 0, 0⟩ Q' B' d' ⟨l, 0, 0, 0⟩ := by
      obtain ⟨hr3, h3, hQ3, hB3⟩ := H3.out
      have hw1 := H1.out.size
      have hw3 := h3.size
      have hP := hr3.1.lt
      exact ⟨⟨hr3.below hb4, by omega, below_base h3 hb4 hw3⟩, ⟨hr4, by omega, below_base h3 hb4 hw3⟩, by omega, fun b hb => by have := (hB3 b hb).2; omega, fun b hb => by have := (hB4 b hb).1; omega⟩
    have H4 := Lib.hid h2
    clear h2 hr4 hb4 hQ4 hB4 H3
    obtain ⟨i0, hi0, hz0, hz1, hz2⟩ := info_parts u8_info
    have hto := fun w => run_to (P := Try.prog) (t := 32) Try.underlying32 hi0 hz1 A n c f .i64 (by have := HR.out.2.2; omega) w
    have hsub : IntKind.i64.wrap ((n : Int) - f) = (n : Int) - f := by rw [IntKind.wrap_i64]; omega
    clear hi0 hz0 hz1 hz2
    go_wp2_with fail
    go_cut [48] (fun s wx => s = .bool false ∧ R2 w wx Q B d ⟨l, f, 0, 0⟩ Q' B' d' ⟨l, 0, 0, 0⟩)
    case first =>
      have nn : (((n : Int) - f) != ((n : Int) - f)) = false := by simp
      have K0 : w4.cell? ⟨Q, 1, none⟩ = some (.bool true) := H4.out.1.1.1.cell 1
      have HT := Lib.hid (And.intro (show (l.take f).length = f from by simp; have := HR.out.2.1; omega) (And.intro (show Rd w A f (bys (l.take f)) from by have := HR.out.1.take_ (k := f) hfn; rw [bys_take] at this; exact this) (show (⟨l, f, 0, 0⟩ : RS).rest = (n : Int) - f from by unfold RS.rest; rw [if_neg (by simp)]; show (l.length : Int) - f = _; rw [HR.out.2.1])))
      go_region_held3 (fun w' => w'.cell? ⟨Q, 1, none⟩ = some (.bool true))
        (first | exact K6 | exact K5 | exact K0)
        ((first
          | (go_at_call 21; refine ((H4.out.below (Below.refl _ _).drew).raw (take_first (by rw [HR.out.2.1]; exact hfn))).mono ?_; rintro e w5 ⟨⟨C, k, rfl, hrd⟩, h5⟩; rw [HT.out.1] at hrd ⊢; have K5 := h5.1.1.1.cell 1; have H5 := Lib.hid (And.intro h5 hrd); clear h5 hrd)
          | (go_at_call 15; refine (same_true H5.out.2 (HT.out.2.1.below H5.out.1.1.2.2)).mono ?_; rintro e w6 ⟨rfl, rfl⟩)
          | (go_at_call 25; refine (H5.out.1.rest).mono ?_; rintro e w6 ⟨rfl, h6⟩; rw [HT.out.2.2]; have K6 := h6.1.1.1.cell 1; have H6 := Lib.hid h6; clear h6)))
      all_goals go_wp2_with fail
      all_goals go_meet
      all_goals exact ⟨rfl, H6.out⟩
    case rest =>
      obtain ⟨rfl, h5⟩ := hcut
      have H5 := Lib.hid h5
      clear h5 hto hsub
      go_wp2
      go_loopw [8] (fun i wr => ∃ k : Nat, k ≤ n ∧ i = .int .i64 k ∧ R2 w wr Q B d ⟨l, k, 0, 0⟩ Q' B' d' ⟨l, 0, 0, 0⟩) (fun i wr => n - (intOf i).toNat)
      case atStart => exact ⟨f, hfn, rfl, H5.out⟩
      case round =>
        clear H5
        obtain ⟨k, hk, rfl, h5⟩ := hrel
        have H5 := Lib.hid h5
        clear h5
        by_cases hlt : k < n
        · have hrd := HR.out.1.below H5.out.1.2.2
          obtain ⟨b, off, rfl, hbl, hcc⟩ := hrd.form (by omega)
          have hkl : k < l.length := by rw [HR.out.2.1]; exact hlt
          have cx := hcc k _ (bys_get _ _ hkl)
          have km : (k : Int) < (n : Int) := by omega
          have nb : ((l[k].toNat : Int) != (l[k].toNat : Int)) = false := by simp
          have lx : (l[k].toNat : Int) ≤ 255 := by have := l[k].toNat_lt; omega
          have hwb : IntKind.i64.wrap (l[k].toNat : Int) = (l[k].toNat : Int) := by rw [IntKind.wrap_i64]; omega
          have HK := Lib.hid (And.intro hlt (And.intro hrd hbl))
          clear hrd hbl hcc hlt
          go_wp2_with fail
          go_cut [63] (fun s wx => s = .bool false ∧ R2 w wx Q B d ⟨l, k + 1, 0, 0⟩ Q' B' d' ⟨l, 0, 0, 0⟩)
          case first =>
            go_region_held3 (fun w' => w'.cell? ⟨b, off + k, none⟩ = some (.int .u8 (l[k].toNat : Int)))
              (first | exact K5 | exact cx)
              ((first
                | (go_at_call 23; refine ((H5.out.below (Below.refl _ _).drew).get (get_one hkl)).mono ?_; rintro e w5 ⟨rfl, h5⟩; have hrd2 := HR.out.1.below h5.1.2.2; have K5 : w5.cell? ⟨b, off + k, none⟩ = some (.int .u8 (l[k].toNat : Int)) := (by obtain ⟨b2, off2, e2, _, hcc2⟩ := hrd2.form (by omega); cases e2; exact hcc2 k _ (bys_get _ _ hkl)); have H6 := Lib.hid h5; clear h5 hrd2)))
            all_goals go_wp2_with fail
            all_goals go_meet
            all_goals exact ⟨rfl, H6.out⟩
          case rest =>
            obtain ⟨rfl, h6⟩ := hcut
            have H6 := Lib.hid h6
            clear h6 cx
            go_wp2
            exact ⟨⟨k + 1, by have := HK.out.1; omega, by go_num, H6.out⟩, by have := HK.out.1; simp [intOf]; omega⟩
        · obtain rfl : k = n := by omega
          clear hlt hk
          go_wp2
          go_loopw [9] (fun i wr => ∃ j : Nat, j ≤ k ∧ i = .int .i64 j ∧ R2 w wr Q B d ⟨l, k, 0, 0⟩ Q' B' d' ⟨l, j, 0, 0⟩) (fun i wr => k - (intOf i).toNat)
          case atStart => exact ⟨0, by omega, rfl, H5.out⟩
          case round =>
            clear H5
            obtain ⟨j, hj, rfl, h5⟩ := hrel
            have H5 := Lib.hid h5
            clear h5
            have j0 : (0 : Int) ≤ (j : Int) + 1 := by omega
            have hwj : IntKind.i64.wrap ((j : Int) + 1) = (j : Int) + 1 := by rw [IntKind.wrap_i64]; omega
            by_cases hlt : j + 1 < k
            · have hrd := HR.out.1.below H5.out.1.2.2
              obtain ⟨b, off, rfl, hbl, hcc⟩ := hrd.form (by omega)
              have hkl : j + 1 < l.length := by rw [HR.out.2.1]; exact hlt
              have cx := hcc j _ (bys_get _ _ (by omega))
              have cy := hcc (j + 1) _ (bys_get _ _ hkl)
              have km : (j : Int) + 1 < (k : Int) := by omega
              have km2 : (j : Int) < (k : Int) := by omega
              have lx : (l[j].toNat : Int) ≤ 255 := by have := l[j].toNat_lt; omega
              have ly : (l[j + 1].toNat : Int) ≤ 255 := by have := l[j + 1].toNat_lt; omega
              have lx0 : (0 : Int) ≤ (l[j].toNat : Int) := by omega
              have ly0 : (0 : Int) ≤ (l[j + 1].toNat : Int) := by omega
              have HK := Lib.hid (And.intro hlt (And.intro hrd hbl))
              clear hrd hbl hcc hlt
              generalize hX : (l[j].toNat : Int) = X at cx lx lx0
              generalize hY : (l[j + 1].toNat : Int) = Y at cy ly ly0
              have hg := get_two (l := l) (i := j) hkl
              rw [hX, hY] at hg
              have HXY := Lib.hid (And.intro hX (And.intro hY hg))
              clear hX hY hg
              have nb : ((256 * X + Y) != (256 * X + Y)) = false := by simp
              have hwx : IntKind.i64.wrap X = X := by rw [IntKind.wrap_i64]; omega
              have hwy : IntKind.i64.wrap Y = Y := by rw [IntKind.wrap_i64]; omega
              have hwm : IntKind.i64.wrap (256 * X) = 256 * X := by rw [IntKind.wrap_i64]; omega
              have hws : IntKind.i64.wrap (256 * X + Y) = 256 * X + Y := by rw [IntKind.wrap_i64]; omega
              go_wp2_with fail
              go_cut [86] (fun s wx => s = .bool false ∧ R2 w wx Q B d ⟨l, k, 0, 0⟩ Q' B' d' ⟨l, j + 2, 0, 0⟩)
              case first =>
                go_region_held3 (fun w' => w'.cell? ⟨b, off + j, none⟩ = some (.int .u8 X) ∧ w'.cell? ⟨b, off + (j + 1), none⟩ = some (.int .u8 Y))
                  (first | exact K5 | exact ⟨cx, cy⟩)
                  ((first
                    | (go_at_call 23; refine ((H5.out.below (Below.refl _ _).drew).swap.get HXY.out.2.2).mono ?_; rintro e w5 ⟨rfl, h5⟩; have hrd2 := HR.out.1.below h5.1.2.2; have K5 : w5.cell? ⟨b, off + j, none⟩ = some (.int .u8 X) ∧ w5.cell? ⟨b, off + (j + 1), none⟩ = some (.int .u8 Y) := (by obtain ⟨b2, off2, e2, _, hcc2⟩ := hrd2.form (by omega); cases e2; rw [← HXY.out.1, ← HXY.out.2.1]; exact ⟨hcc2 j _ (bys_get _ _ (by omega)), hcc2 (j + 1) _ (bys_get _ _ hkl)⟩); have H6 := Lib.hid h5.swap; clear h5 hrd2)))
                all_goals go_wp2_with fail
                all_goals go_meet
                all_goals exact ⟨rfl, H6.out⟩
              case rest =>
                obtain ⟨rfl, h6⟩ := hcut
                have H6 := Lib.hid h6
                clear h6 cx cy
                go_wp2
                exact ⟨⟨j + 2, by have := HK.out.1; omega, by go_num, H6.out⟩, by have := HK.out.1; simp [intOf]; omega⟩
            · have e1 : decide ((j : Int) + 1 < (k : Int)) = false := by simp; omega
              have e2 : decide (j + 1 < k) = false := by simp; omega
              clear hlt hj
              have h6 := H5.out.1
              rw [show (⟨l, k, 0, 0⟩ : RS) = ⟨l, l.length, 0, 0⟩ from by rw [HR.out.2.1]] at h6
              have H6 := Lib.hid h6
              clear h6
              go_wp2_with fail
              refine (H6.out.ends 0 0).mono ?_
              rintro e w5 ⟨rfl, h7⟩
              have H7 := Lib.hid h7
              clear h7
              rw [show ((⟨l, l.length, 0, 0⟩ : RS).fin.1 == 0 && (⟨l, l.length, 0, 0⟩ : RS).fin.2 == 0) = true from by unfold RS.fin; rw [if_neg (by simp)]; rfl]
              go_wp2_with fail
              refine (H7.out.raw (n := 0) (l := []) (r' := ⟨l, l.length, 0, 0⟩) (by rw [RS.take_ok rfl (by simp) (by simp)]; simp)).mono ?_
              rintro e w6 ⟨⟨C, q, rfl, _⟩, h8⟩
              have H8 := Lib.hid h8
              clear h8
              go_wp2_with fail
              refine (H8.out.get (get_end l)).mono ?_
              rintro e w7 ⟨rfl, h9⟩
              have H9 := Lib.hid h9
              clear h9
              go_wp2_with fail
              refine (H9.out.ends 7 k).mono ?_
              rintro e w8 ⟨rfl, h10⟩
              have H10 := Lib.hid h10
              clear h10
              have HF := Lib.hid (show ((⟨l, l.length, 7, l.length⟩ : RS).fin.1 == 7 && (⟨l, l.length, 7, l.length⟩ : RS).fin.2 == (k : Int)) = true from by unfold RS.fin; rw [if_neg (by simp)]; simp [HR.out.2.1])
              rw [HF.out]
              go_wp2_with fail
              refine (H10.out.get (get_err (by omega) 3)).mono ?_
              rintro e w9 ⟨rfl, h11⟩
              have H11 := Lib.hid h11
              clear h11
              go_wp2_with fail
              refine (H11.out.raw (n := 1) (l := []) (r' := ⟨l, l.length, 7, l.length⟩) (RS.take_e (by show (7 : Int) ≠ 0; omega) _ _)).mono ?_
              rintro e w10 ⟨⟨C2, q2, rfl, _⟩, h12⟩
              have H12 := Lib.hid h12
              clear h12
              go_wp2_with fail
              refine (H12.out.ends 7 k).mono ?_
              rintro e w11 ⟨rfl, h13⟩
              have H13 := Lib.hid h13
              clear h13
              rw [HF.out]
              go_wp2_with fail
              refine H13.out.rest.mono ?_
              rintro e w12 ⟨rfl, h14⟩
              have H14 := Lib.hid h14
              clear h14
              rw [show (⟨l, l.length, 7, l.length⟩ : RS).rest = 0 from rfl]
              go_wp2
              go_ret
              exact ⟨rfl, H14.out.2.2⟩
end Go.Proofs.Ytdepmogibhmdaaa
