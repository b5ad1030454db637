/- Chapter 28: object.Join. -/
import Derived.Test.YtchdjbbhhjjmkaaOi28
namespace Go.Proofs.Ytchdjbbhhjjmkaa
open Go.RowKit Go.Shelf
set_option linter.unusedVariables false
attribute [local go_sem] Oper.semAt_some
/-- Join's variables. -/
def JV (w w' : World) (At : Option Addr) (nt ct : Nat) (z s k d : Int) (t : List Int) : Prop :=
  MB w w' At nt ct z s k d t ∧ Bk w' (w.heap.size + 1) 32 [.slice none 0 0] ∧ Bk w' (w.heap.size + 1 + 1) 33 [.int .i64 0]
theorem JV.below {w w' w'' : World} {At : Option Addr} {nt ct : Nat} {z s k d : Int} {t : List Int} (h : JV w w' At nt ct z s k d t) (hb : Below w'.heap.size w' w'') : JV w w'' At nt ct z s k d t :=
  ⟨h.1.below hb, h.2.1.belowS hb, h.2.2.belowS hb⟩
theorem JV.new {w : World} {At : Option Addr} {nt ct : Nat} {z s k d : Int} {t : List Int} (h : MA w At nt ct ⟨z, s, k, d, t⟩) :
    JV w (((w.alloc (.cells #[.int .i64 z, .int .i64 s, .int .i64 k, .int .i64 d, .slice At nt ct] 24)).alloc (.cells #[.slice none 0 0] 32)).alloc (.cells #[.int .i64 0] 33)) At nt ct z s k d t := by
  have h1 := (MB.new h).below (((Below.refl _ _).alloc (Nat.le_refl _) (.cells #[.slice none 0 0] 32)).alloc (by simp only [World.size_alloc]; omega) (.cells #[.int .i64 0] 33))
  have h2 := (Bk.newA (w.alloc (.cells #[.int .i64 z, .int .i64 s, .int .i64 k, .int .i64 d, .slice At nt ct] 24)) 32 #[.slice none 0 0]).alloc (.cells #[.int .i64 0] 33)
  have h3 := Bk.newA ((w.alloc (.cells #[.int .i64 z, .int .i64 s, .int .i64 k, .int .i64 d, .slice At nt ct] 24)).alloc (.cells #[.slice none 0 0] 32)) 33 #[.int .i64 0]
  rw [World.size_alloc] at h2
  rw [World.size_alloc, World.size_alloc] at h3
  exact ⟨h1, h2, h3⟩
theorem jv_refuse {w w' : World} {At : Option Addr} {nt ct : Nat} {z s k d : Int} {t : List Int} (h : JV w w' At nt ct z s k d t) :
    ((w'.setCell ⟨w.heap.size + 1, 0, none⟩ (.slice none 0 0)).setCell ⟨w.heap.size + 1 + 1, 0, none⟩ (.int .i64 2)).cell? ⟨w.heap.size + 1, 0, none⟩ = some (.slice none 0 0) ∧
    ((w'.setCell ⟨w.heap.size + 1, 0, none⟩ (.slice none 0 0)).setCell ⟨w.heap.size + 1 + 1, 0, none⟩ (.int .i64 2)).cell? ⟨w.heap.size + 1 + 1, 0, none⟩ = some (.int .i64 2) ∧
    Below w.heap.size w ((w'.setCell ⟨w.heap.size + 1, 0, none⟩ (.slice none 0 0)).setCell ⟨w.heap.size + 1 + 1, 0, none⟩ (.int .i64 2)) := by
  have hc1 : Chg (fun j => j = w.heap.size + 1) w' (w'.setCell ⟨w.heap.size + 1, 0, none⟩ (.slice none 0 0)) := (Chg.refl (fun j => j = w.heap.size + 1) w').set_ (g := w.heap.size + 1) (show (fun j => j = w.heap.size + 1) (w.heap.size + 1) from rfl) _ _
  have b1 := h.2.1.set_ 0 (.slice none 0 0)
  have b2 := hc1.bk h.2.2 (by omega)
  have hc2 : Chg (fun j => j = w.heap.size + 1 + 1) (w'.setCell ⟨w.heap.size + 1, 0, none⟩ (.slice none 0 0)) ((w'.setCell ⟨w.heap.size + 1, 0, none⟩ (.slice none 0 0)).setCell ⟨w.heap.size + 1 + 1, 0, none⟩ (.int .i64 2)) := (Chg.refl (fun j => j = w.heap.size + 1 + 1) _).set_ (g := w.heap.size + 1 + 1) (show (fun j => j = w.heap.size + 1 + 1) (w.heap.size + 1 + 1) from rfl) _ _
  exact ⟨(hc2.bk b1 (by omega)).cell 0, (b2.set_ 0 (.int .i64 2)).cell 0, (h.1.2.2.setCell (p := ⟨w.heap.size + 1, 0, none⟩) (by simp only []; omega) _).setCell (p := ⟨w.heap.size + 1 + 1, 0, none⟩) (by simp only []; omega) _⟩
section
variable {w : World} {At A : Option Addr} {nt ct l cc : Nat} {m : MF}
set_option maxRecDepth 100000 in
set_option maxHeartbeats 4000000 in
/-- Join -/
theorem ojoin_any {xss : List (List UInt8)} (h : MA w At nt ct m) (hs : Syms w A l xss) (hl : l ≤ 65536) (hx : ∀ x ∈ xss, x.length ≤ 65535) :
    Calls Try.prog 14 #[m.v At nt ct, .slice A l cc] w (Told w (jyV m xss) (jyE m xss)) := by
  obtain ⟨z, s, k, d, t⟩ := m
  have hxl := hs.len
  have hJ := JV.new h
  obtain ⟨w1, hw1⟩ : ∃ w1, w1 = ((w.alloc (.cells #[.int .i64 z, .int .i64 s, .int .i64 k, .int .i64 d, .slice At nt ct] 24)).alloc (.cells #[.slice none 0 0] 32)).alloc (.cells #[.int .i64 0] 33) := ⟨_, rfl⟩
  rw [← hw1] at hJ
  obtain ⟨c0, c1, c2, c3, c4⟩ := cells5 hJ.1.1
  have H1 := Lib.hid (And.intro hJ (And.intro h (And.intro hs (And.intro hl (And.intro hx hxl)))))
  have hl' : (l : Int) ≤ 65536 := by omega
  clear hJ h hs hx hxl hl
  show Calls Try.prog 14 #[.agg #[.int .i64 z, .int .i64 s, .int .i64 k, .int .i64 d, .slice At nt ct], .slice A l cc] w _
  refine (callsIn_wide (n := 5)).1 ?_
  refine callsIn_of_wp_marks Try.func14 rfl trivial ?_ rfl
  simp only [Try.ntmps14, List.size_toArray, List.length_cons, List.length_nil, Nat.reduceAdd, Nat.reduceSub, Array.replicate_succ, Array.replicate_zero, List.push_toArray, List.append_toArray, List.nil_append, List.cons_append]
  cases hq : mfB ⟨z, s, k, d, t⟩ with
  | false =>
    have HE := Lib.hid (show mfE ⟨z, s, k, d, t⟩ = 2 from by unfold mfE; rw [hq]; rfl)
    have hE : jyE ⟨z, s, k, d, t⟩ xss = 2 := by unfold jyE; rw [if_neg (by rw [hq]; rintro ⟨h, _⟩; cases h)]
    rw [jy_no hE (by decide), hE]
    clear hE hq
    gi_wp2_with (first | (rw [← hw1]; clear hw1; refine ⟨trivial, ?_⟩; gi_at_call 34; refine ((callsIn_wide (n := 4)).2 (check_any H1.out.1.1.2.1)).mono ?_; rintro e w2 ⟨rfl, hb2⟩; rw [HE.out]; have hJ2 := H1.out.1.below hb2; have s1 := hJ2.2.1.cell 0; have g1 := hJ2.2.1.frozen 0; have s2 := hJ2.2.2.cell 0; have g2 := hJ2.2.2.frozen 0; have H2 := Lib.hid hJ2; clear hb2 c0 c1 c2 c3 c4 hJ2))
    refine ⟨trivial, ?_⟩
    gi_wp2
    obtain ⟨e1, e2, hb⟩ := jv_refuse H2.out
    refine ⟨.tuple #[.slice none 0 0, .int .i64 2], by simp [results, Try.results14, go_sem, e1, e2], ⟨_, rfl, World.ownsRow_nil _ _ _ _, hb⟩⟩
  | true =>
    have HE := Lib.hid (show mfE ⟨z, s, k, d, t⟩ = 0 from by unfold mfE; rw [hq]; rfl)
    have hNr := mfN_range (m := ⟨z, s, k, d, t⟩)
    obtain ⟨N, hN⟩ : ∃ N, mfN ⟨z, s, k, d, t⟩ = N := ⟨_, rfl⟩
    have HN := Lib.hid hN
    cases hz : ((l : Int) != N) with
    | true =>
      have hE : jyE ⟨z, s, k, d, t⟩ xss = 2 := by
        unfold jyE
        rw [if_neg (by rintro ⟨_, h, _⟩; rw [H1.out.2.2.2.2.2, hN] at h; rw [h] at hz; simp at hz)]
      rw [jy_no hE (by decide), hE]
      clear hE hq hN hNr
      gi_wp2_with (first | (rw [← hw1]; clear hw1; refine ⟨trivial, ?_⟩; gi_at_call 34; refine ((callsIn_wide (n := 4)).2 (check_any H1.out.1.1.2.1)).mono ?_; rintro e w2 ⟨rfl, hb2⟩; rw [HE.out]; have hJ2 := H1.out.1.below hb2; have H2 := Lib.hid hJ2; clear hb2 c0 c1 c2 c3 c4; obtain ⟨c0, c1, c2, c3, c4⟩ := cells5 hJ2.1.1; clear hJ2) | (refine ⟨trivial, ?_⟩; gi_at_call 23; refine ((callsIn_wide (n := 4)).2 (blocks_any H2.out.1.2.1)).mono ?_; rintro e w3 ⟨rfl, hb3⟩; rw [HN.out]; have hJ3 := H2.out.below hb3; have s1 := hJ3.2.1.cell 0; have g1 := hJ3.2.1.frozen 0; have s2 := hJ3.2.2.cell 0; have g2 := hJ3.2.2.frozen 0; have H3 := Lib.hid hJ3; clear hb3 c0 c1 c2 c3 c4 hJ3))
      gi_wp2
      obtain ⟨e1, e2, hb⟩ := jv_refuse H3.out
      refine ⟨.tuple #[.slice none 0 0, .int .i64 2], by simp [results, Try.results14, go_sem, e1, e2], ⟨_, rfl, World.ownsRow_nil _ _ _ _, hb⟩⟩
    | false =>
      have hlN : (l : Int) = N := by simpa using hz
      have HQ := Lib.hid (And.intro hq hlN)
      clear hq hlN hN hNr
      gi_wp2_with (first | (rw [← hw1]; clear hw1; refine ⟨trivial, ?_⟩; gi_at_call 34; refine ((callsIn_wide (n := 4)).2 (check_any H1.out.1.1.2.1)).mono ?_; rintro e w2 ⟨rfl, hb2⟩; rw [HE.out]; have hJ2 := H1.out.1.below hb2; have H2 := Lib.hid hJ2; clear hb2 c0 c1 c2 c3 c4; obtain ⟨c0, c1, c2, c3, c4⟩ := cells5 hJ2.1.1; clear hJ2) | (refine ⟨trivial, ?_⟩; gi_at_call 23; refine ((callsIn_wide (n := 4)).2 (blocks_any H2.out.1.2.1)).mono ?_; rintro e w3 ⟨rfl, hb3⟩; rw [HN.out]; have hJ3 := H2.out.below hb3; have H3 := Lib.hid (And.intro (hJ3.below ((Below.refl w3.heap.size w3).alloc (Nat.le_refl _) (.cells #[.slice none 0 0] 32))) (And.intro (Bk.newA w3 32 #[.slice none 0 0]) hJ3.2.2.lt)); clear hb3 c0 c1 c2 c3 c4 hJ3; obtain ⟨c0, c1, c2, c3, c4⟩ := cells5 H3.out.1.1.1) | (refine ⟨trivial, ?_⟩; gi_at_call 35; refine (parts_in 4 _ _ _ _ _ _ _ _ _ _ _).mono ?_; rintro e w' ⟨rfl, rfl⟩))
      obtain ⟨q, hq⟩ : ∃ q, w3.heap.size = q := ⟨_, rfl⟩
      have K1 := Bk.newA (w3.alloc (.cells #[.slice none 0 0] 32)) 24 #[.int .i64 z, .int .i64 s, .int .i64 k, .int .i64 d, .slice At nt ct]
      have K2 := Bk.newA ((w3.alloc (.cells #[.slice none 0 0] 32)).alloc (.cells #[.int .i64 z, .int .i64 s, .int .i64 k, .int .i64 d, .slice At nt ct] 24)) 25 #[.slice A l cc]
      have K1 := K1.alloc (.cells #[.slice A l cc] 25)
      have hbl : Below (w3.alloc (.cells #[.slice none 0 0] 32)).heap.size (w3.alloc (.cells #[.slice none 0 0] 32)) (((w3.alloc (.cells #[.slice none 0 0] 32)).alloc (.cells #[.int .i64 z, .int .i64 s, .int .i64 k, .int .i64 d, .slice At nt ct] 24)).alloc (.cells #[.slice A l cc] 25)) := ((Below.refl _ _).alloc (Nat.le_refl _) _).alloc (by simp only [World.size_alloc]; omega) _
      have hJ5 := H3.out.1.below hbl
      have K0 := H3.out.2.1.belowS hbl
      have hwq : w.heap.size + 1 + 1 < q := by
        rw [← hq]
        exact H3.out.2.2
      simp only [World.size_alloc] at K1 K2
      rw [hq] at K0 K1 K2 ⊢
      clear c0 c1 c2 c3 c4 hbl
      generalize (((w3.alloc (.cells #[.slice none 0 0] 32)).alloc (.cells #[.int .i64 z, .int .i64 s, .int .i64 k, .int .i64 d, .slice At nt ct] 24)).alloc (.cells #[.slice A l cc] 25)) = w5 at K0 K1 K2 hJ5 ⊢
      obtain ⟨vs, hrv, hrows⟩ := H1.out.2.2.1
      have hst : JnI w (w.heap.size + 1) (w.heap.size + 1 + 1) q (q + 1) (q + 1 + 1) z s k d t At A nt ct l cc xss [] w5 := ⟨hJ5.2.1, hJ5.2.2, ⟨_, K0, World.ownsRow_nil _ _ _ _⟩, fun i hi => (by simp at hi), K1, K2, hJ5.1.2.2⟩
      have HI := Lib.hid hst
      have HR := Lib.hid (And.intro hrv hrows)
      clear K0 K1 K2 hJ5 hst hrv hrows
      have hv : ∀ x, x < l → ∃ B c, vs[x]? = some (.slice B (xss.getD x []).length c) := fun x hx => by
        have hxl : x < xss.length := by rw [H1.out.2.2.2.2.2]; exact hx
        obtain ⟨B, c, hv, _⟩ := HR.out.2.at_ hxl
        exact ⟨B, c, by rw [getD_at hxl]; exact hv⟩
      have HV := Lib.hid hv
      clear hv
      have hro : Fence.wide.round = none := rfl
      have h15 : 1 ≤ 5 := by decide
      refine wpIn_rangeFunc_ownG hro h15 (gf := 51) (lb := #[.pointer (some ⟨q + 1 + 1, 0, none⟩), .pointer (some ⟨q + 1, 0, none⟩)]) ?hg trivial (enters_of Try.func51 (by kernel_rfl) rfl)
        (parts_stops 4 (by omega) H1.out.2.1 HR.out.1 xss (Nat.le_trans H1.out.2.2.2.1 (by decide)) HV.out w5 HI.out.ptF)
        (fun h k x => k (h x)) ?hkb (Below.refl _ _) ?hps
        (fun pre W => JnI w (w.heap.size + 1) (w.heap.size + 1 + 1) q (q + 1) (q + 1 + 1) z s k d t At A nt ct l cc xss pre W)
        (fun c pre W => JnX w (w.heap.size + 1) (w.heap.size + 1 + 1) z s k d t xss c pre W)
        (fun pre W W' row hs hg hr => hs.grown hg (fun r e => ⟨Nat.le_trans HI.out.b.size (hr r e).1, (hr r e).2⟩))
        (fun c pre W W' row hs hg hr => hs.grown hg (fun r e => ⟨Nat.le_trans HI.out.b.size (hr r e).1, (hr r e).2⟩))
        HI.out
        (fun x => { tmps := #[.agg #[.int .i64 z, .int .i64 s, .int .i64 k, .int .i64 d, .slice At nt ct], .slice A l cc, .pointer (some ⟨w.heap.size, 0, none⟩), undef, .pointer (some ⟨w.heap.size + 1, 0, none⟩), .pointer (some ⟨w.heap.size + 1 + 1, 0, none⟩), .pointer (some ⟨q, 0, none⟩), vs.getD x (.slice none 0 0), .bool (((xss.getD x []).length : Int) == prS ⟨z, s, k, d, t⟩ (x : Int)), .agg #[.int .i64 z, .int .i64 s, .int .i64 k, .int .i64 d, .slice At nt ct], .int .i64 0, .bool false, .bool false, .slice A l cc, .int .i64 (l : Int), .agg #[.int .i64 z, .int .i64 s, .int .i64 k, .int .i64 d, .slice At nt ct], .int .i64 N, .bool false, .bool false, .agg #[.int .i64 z, .int .i64 s, .int .i64 k, .int .i64 d, .slice At nt ct], .slice A l cc, .func (.func 51) #[] #[.pointer (some ⟨q + 1 + 1, 0, none⟩), .pointer (some ⟨q + 1, 0, none⟩)], vs.getD x (.slice none 0 0), .bool (((xss.getD x []).length : Int) == prS ⟨z, s, k, d, t⟩ (x : Int)), undef, undef, undef, undef, undef, undef], defers := [] }) ?assign ?body ?done ?stop
      case hg => rfl
      case hps => intro x; rfl
      case hkb =>
        intro W i o o' hi ho hc hw hF
        exact hF.putObj o' (Nat.le_trans HI.out.b.size hi) ho hc
      case assign =>
        intro l x W K hK
        gi_wp2
        exact hK
      case body =>
        intro y pre x W hI hpl
        obtain ⟨L, hL⟩ : ∃ L, (xss.getD x []).length = L := ⟨_, rfl⟩
        obtain ⟨S, hS⟩ : ∃ S, prS ⟨z, s, k, d, t⟩ (x : Int) = S := ⟨_, rfl⟩
        have HL := Lib.hid (And.intro hL hS)
        rw [hL, hS]
        have HW := Lib.hid hI
        by_cases hf : (L : Int) = S
        · have hq2 : ((L : Int) == S) = true := by simpa using hf
          obtain ⟨B, c, hv, hR⟩ : ∃ B c, vs.getD x (.slice none 0 0) = .slice B L c ∧ Rd W B L (bys (xss.getD x [])) := by
            rcases Nat.lt_or_ge x xss.length with e | e
            · obtain ⟨B, c, h1, _, _, h2⟩ := HR.out.2.at_ e
              rw [← getD_at e] at h1 h2
              exact ⟨B, c, by rw [List.getD_eq_getElem?_getD, h1, ← hL]; rfl, by rw [← hL]; exact h2.below hI.b⟩
            · have e1 : xss.getD x [] = [] := by rw [List.getD_eq_getElem?_getD, List.getElem?_eq_none e]; rfl
              rw [e1] at hL ⊢
              subst hL
              exact ⟨none, 0, by rw [List.getD_eq_getElem?_getD, List.getElem?_eq_none (by rw [HR.out.2.1]; exact e)]; rfl, Rd.nil _ _⟩
          obtain ⟨v, hv1, hv2⟩ := hI.o
          have hpb : (flatP xss pre).length + L ≤ 4294967296 + 65535 := by
            have hb : ∀ y, (xss.getD y []).length ≤ 65535 := fun y => by
              rcases Nat.lt_or_ge y xss.length with e | e
              · rw [getD_at e]; exact H1.out.2.2.2.2.1 _ (List.getElem_mem e)
              · rw [List.getD_eq_getElem?_getD, List.getElem?_eq_none e]; exact Nat.zero_le _
            have h1 := hb x
            have h2 : ∀ p : List Nat, (flatP xss p).length ≤ p.length * 65535 := fun p => by
              induction p with
              | nil => simp [flatP]
              | cons y p ih =>
                have e : flatP xss (y :: p) = xss.getD y [] ++ flatP xss p := by simp [flatP]
                rw [e, List.length_append, List.length_cons, Nat.succ_mul]
                have := hb y; omega
            have h3 := h2 pre
            have h4 := H1.out.2.2.2.1
            have h5 : pre.length * 65535 ≤ 65536 * 65535 := Nat.mul_le_mul_right _ (by omega)
            omega
          obtain ⟨Av, cv, rfl, _⟩ := own_form hv2
          obtain ⟨Lf, hLf⟩ : ∃ Lf, (flatP xss pre).length = Lf := ⟨_, rfl⟩
          rw [hLf] at hv1 hv2 hpb
          have o0 := hv1.cell 0
          have f0 := hv1.frozen 0
          obtain ⟨j0, hj0, ha0, ha1, ha2⟩ := info_parts u8_info
          rw [hv]
          have HV := Lib.hid (And.intro hv1 (And.intro hv2 (And.intro hR (And.intro hf (And.intro hLf hpb)))))
          clear hv hL hS hI hv1 hv2 hf hR hLf hpb
          gi_wp2_with (gi_at_builtin; refine wpListIn_append_rd (by rfl) (.tmp 26) (.tmp 27) _ (by rfl) w.heap.size 5 j0 _ 1 1 Try.underlying32 hj0 ha0 ha1 ha2 rfl (by omega) _ Lf (bys (flatP xss pre)) (by rfl) HV.out.2.1 B L c (bys (xss.getD x [])) (by rfl) (by rw [Nat.mul_one]; exact HV.out.2.2.1) (bys_one _) (by simp only [maxLen]; have := HV.out.2.2.2.2.2; omega) (by have := HV.out.2.2.2.2.2; omega) HW.out.b.size ?_; intro v6 w6 hown6 hg6 hat6; obtain ⟨A6, c6, rfl, _⟩ := own_form hown6; have hn6 := bk_apart HV.out.1 HV.out.2.1 (by decide); have o6 := (Chg.of_grown hg6 (S := fun b => (Value.slice Av Lf cv).ownBlock = some b) fun k e => e).bk HV.out.1 hn6; have s6 := o6.cell 0; have g6 := o6.frozen 0; have H6 := Lib.hid (And.intro hown6 hg6); clear hown6 hg6 hat6 hn6 o6)
          gi_wp2
          obtain ⟨h1, h2⟩ := HW.out.app (x := x) HV.out.1 (by rw [HV.out.2.2.2.2.1]; exact HV.out.2.1) (by rw [HV.out.2.2.2.2.1, HL.out.1]; exact H6.out.1) H6.out.2 (by rw [HL.out.1, HL.out.2]; exact HV.out.2.2.2.1) (by omega) (by omega) w5.heap.size
          exact ⟨h1, fun _ => h2.ptF, h2⟩
        · have hq2 : ((L : Int) == S) = false := by simpa using hf
          have s1 := hI.r1.cell 0
          have g1 := hI.r1.frozen 0
          have s2 := hI.r2.cell 0
          have g2 := hI.r2.frozen 0
          have HF := Lib.hid hf
          clear hL hS hI hf
          gi_wp2
          obtain ⟨h1, h2⟩ := HW.out.stop (x := x) (by rw [HL.out.1, HL.out.2]; exact HF.out) (by omega) (by omega) w5.heap.size
          exact ⟨h1, h2⟩
      case done =>
        intro D xs W hD hS hI hKD
        subst hS
        obtain ⟨v, hv1, hv2⟩ := hI.o
        have hfit : fitB ⟨z, s, k, d, t⟩ xss xss.length = true := by
          unfold fitB
          rw [List.all_eq_true]
          intro i hi
          rw [H1.out.2.2.2.2.2] at hi
          simpa using hI.fit i hi
        have hE : jyE ⟨z, s, k, d, t⟩ xss = 0 := by
          unfold jyE
          rw [if_pos ⟨HQ.out.1, by rw [H1.out.2.2.2.2.2, HN.out]; exact HQ.out.2, hfit⟩]
        have hV : flatP xss (List.range l) = jyV ⟨z, s, k, d, t⟩ xss := by
          unfold jyV
          rw [if_pos hE, flatP_range xss l (by rw [H1.out.2.2.2.2.2]; exact Nat.le_refl _), List.take_of_length_le (by rw [H1.out.2.2.2.2.2]; exact Nat.le_refl _)]
        obtain ⟨Av, cv, rfl, _⟩ := own_form hv2
        obtain ⟨k1, k2, k3, k4, k5⟩ := hI.fin hv1 hv2 (by omega) (by omega)
        rw [hV] at k1 k2 k3 k4 k5 hv1
        obtain ⟨Lf, hLf⟩ : ∃ Lf, (jyV ⟨z, s, k, d, t⟩ xss).length = Lf := ⟨_, rfl⟩
        rw [hLf] at k1 k2 k3 k4 k5 hv1
        have o0 := hv1.cell 0
        have s1 := hI.r1.cell 0
        have g1 := hI.r1.frozen 0
        have s2 := hI.r2.cell 0
        have g2 := hI.r2.frozen 0
        have HW := Lib.hid (And.intro (k1.same D _ hKD rfl) (And.intro k2 (And.intro k3 (And.intro k4 k5))))
        have HE0 := Lib.hid hE
        have HD := Lib.hid (show w.heap.size ≤ D from Nat.le_trans HI.out.b.size hD)
        have HLf := Lib.hid hLf
        clear hfit hE hV k1 k2 k3 k4 k5 hv1 hv2 hI hKD hD hLf
        gi_wp2
        have hr : ∀ r, some D = some r → ∃ o : Obj, ((W.setCell ⟨w.heap.size + 1, 0, none⟩ (.slice Av Lf cv)).setCell ⟨w.heap.size + 1 + 1, 0, none⟩ (.int .i64 0)).heap[r]? = some o ∧ o.isCells = false := fun r e => by cases e; exact ⟨_, HW.out.1, rfl⟩
        obtain ⟨hch, hbk⟩ := chg_row (grownBy_putObj' ((W.setCell ⟨w.heap.size + 1, 0, none⟩ (.slice Av Lf cv)).setCell ⟨w.heap.size + 1 + 1, 0, none⟩ (.int .i64 0)) D (.deferred none)) hr
        have e1 := (hch.bk HW.out.2.1 (hbk HW.out.2.1)).cell 0
        have e2 := (hch.bk HW.out.2.2.1 (hbk HW.out.2.2.1)).cell 0
        refine ⟨by simp, .inl ⟨_, _, rfl, run_takeDeferred HW.out.1, ?_⟩⟩
        refine ⟨.tuple #[.slice Av Lf cv, .int .i64 0], by simp [results, Try.results14, go_sem, e1, e2], ?_⟩
        rw [HE0.out]
        exact ⟨_, rfl, by rw [HLf.out]; exact own_row HW.out.2.2.2.1 (grownBy_putObj' _ D (.deferred none)) hr, HW.out.2.2.2.2.trans (belowK_b (w := w) (Nat.le_refl _) _ D _ _ HD.out HW.out.1 rfl rfl)⟩
      case stop =>
        intro D c pre W hD hS hX hKD
        obtain ⟨j, hj, rfl⟩ := hS
        obtain ⟨rfl, ⟨ini, x, hp, hnf⟩, r1, r2, hb⟩ := hX
        rw [List.range_succ] at hp
        obtain ⟨_, hp2⟩ := List.append_inj' hp rfl
        injection hp2 with hp2
        subst hp2
        have hE : jyE ⟨z, s, k, d, t⟩ xss = 2 := by
          unfold jyE
          rw [if_neg]
          rintro ⟨_, _, h⟩
          rw [fitB_of (by rw [H1.out.2.2.2.2.2]; exact hj) hnf] at h
          cases h
        rw [jy_no hE (by decide), hE]
        have HD := Lib.hid (show w.heap.size ≤ D from Nat.le_trans HI.out.b.size hD)
        clear hE hp hnf
        gi_wp2
        have hr : ∀ r, some D = some r → ∃ o : Obj, W.heap[r]? = some o ∧ o.isCells = false := fun r e => by cases e; exact ⟨_, hKD, rfl⟩
        obtain ⟨hch, hbk⟩ := chg_row (grownBy_putObj' W D (.deferred none)) hr
        have e1 := (hch.bk r1 (hbk r1)).cell 0
        have e2 := (hch.bk r2 (hbk r2)).cell 0
        refine ⟨by simp, .inl ⟨_, _, rfl, run_takeDeferred hKD, ?_⟩⟩
        refine ⟨.tuple #[.slice none 0 0, .int .i64 2], by simp [results, Try.results14, go_sem, e1, e2], ?_⟩
        exact ⟨_, rfl, World.ownsRow_nil _ _ _ _, hb.trans (belowK_b (w := w) (Nat.le_refl _) _ D _ _ HD.out hKD rfl rfl)⟩
end
end Go.Proofs.Ytchdjbbhhjjmkaa
