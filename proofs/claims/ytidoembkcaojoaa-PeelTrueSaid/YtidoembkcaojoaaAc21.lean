/- Chapter 21: a packet is added: its walk. -/
import Derived.Test.YtidoembkcaojoaaAb21
namespace Go.Proofs.Ytidoembkcaojoaa
open Go.RowKit Go.Maps
set_option linter.unusedVariables false
theorem addP_set (d : DS) (id : Int) (set : List Int) (pay : List UInt8) : (d.addP id set pay).set d.sets.length = set := by
  show (d.sets ++ [set]).getD d.sets.length [] = set
  simp [List.getD_eq_getElem?_getD]
theorem addP_lefts {d : DS} (hd : d.ok) (id : Int) (set : List Int) (pay : List UInt8) : (d.addP id set pay).lefts = d.lefts ++ [lv d.kn d.vals set pay] := by
  unfold DS.lefts
  have hl : (d.addP id set pay).sets.length = d.sets.length + 1 := by show (d.sets ++ [set]).length = _; rw [List.length_append]; rfl
  rw [hl, List.range_succ, List.map_append]
  congr 1
  · refine List.map_congr_left fun q hq => ?_
    have hq' : q < d.sets.length := by simpa using hq
    unfold DS.left DS.set DS.pay
    show lv d.kn d.vals ((d.sets ++ [set]).getD q []) ((d.pays ++ [pay]).getD q []) = _
    simp only [List.getD_eq_getElem?_getD, List.getElem?_append_left hq', List.getElem?_append_left (show q < d.pays.length by rw [hd.np]; exact hq')]
  · show [(d.addP id set pay).left d.sets.length] = _
    unfold DS.left
    rw [addP_set]
    have : (d.addP id set pay).pay d.sets.length = pay := by
      show (d.pays ++ [pay]).getD d.sets.length [] = pay
      rw [← hd.np]; simp [List.getD_eq_getElem?_getD]
    rw [this]; rfl
theorem err_ok {d : DS} {id : Int} {set : List Int} {pay : List UInt8} (h : d.err id set pay = 0) : ¬ (id < 0 ∨ 4294967295 < id) ∧ setB d.k set = true ∧ pay.length = d.s ∧ ¬ id ∈ d.ids ∧ ¬ d.most ≤ d.sets.length := by
  unfold DS.err at h
  split at h
  · cases h
  rename_i c1
  split at h
  · cases h
  rename_i c2
  split at h
  · cases h
  rename_i c3
  split at h
  · cases h
  rename_i c4
  refine ⟨c1, ?_, Decidable.byContradiction fun h => c2 (.inr h), c3, c4⟩
  cases hs : setB d.k set with
  | true => rfl
  | false => exact absurd (.inl hs) c2
theorem lv_succ (kn : List Bool) (vals : List (List UInt8)) {set : List Int} (p : List UInt8) {j : Nat} (hj : j < set.length) : lv kn vals (set.take (j + 1)) p = if knw kn (gi set j) then xorL (lv kn vals (set.take j) p) (xv vals (gi set j)) else lv kn vals (set.take j) p := by
  unfold lv
  rw [List.take_succ_eq_append_getElem hj, List.foldl_append, gi_get hj]; rfl
theorem Hl.base {w : World} {b0 b1 : Nat} {A : Nat → Prop} {v : Value} {l : List Int} (h : Hl w b1 A v l) (hb : b0 ≤ b1) : Hl w b0 A v l := ⟨own_mono h.1 hb, h.2⟩
def PaOk (w : World) (base D : Nat) (m : DM) (F : Nat → Prop) (d : DS) (id : Int) (set : List Int) (pay : List UInt8) (e : Ending) (w' : World) : Prop :=
  ∃ v out d' m' F', e = .returned (.tuple #[v, .int .i64 0]) ∧ Peels (d.addP id set pay) out d' ∧ Stable d' ∧ Dp w' base D m' (d'.dc []) F' ∧ Turn w m F w' m' F' ∧ Hl w' w.heap.size (m'.all F') v out
def DS.adc (d : DS) (id : Int) (set : List Int) : DC := { { d.dc [] with sets := d.sets ++ [set] } with ids := d.ids ++ [id] }
theorem adc_dc {d : DS} (hd : d.ok) (id : Int) {set : List Int} (pay : List UInt8) {n : Nat} (hn : set.length = n) : { d.adc id set with lefts := (d.adc id set).lefts ++ [lv d.kn d.vals (set.take n) pay] } = (d.addP id set pay).dc [] := by
  rw [List.take_of_length_le (by omega)]
  unfold DS.dc
  rw [addP_lefts hd]; rfl
theorem AQ.start {w w3 w4 : World} {base D : Nat} {m m3 : DM} {F : Nat → Prop} {A : Option Addr} {n : Nat} {set : List Int} {A7 : Option Addr} {c7 : Nat} {c : DC} {u : List UInt8} (hD : Dp w3 base D m3 c F) (hT : Turn w m F w3 m3 F) (hr0 : Rd w A n (nums set)) (hr : Rd w3 A n (nums set)) (ho : w4.ownsRow w3.heap.size 5 1 (.slice A7 c.s c7) c.s (bys u)) (hb : Below w3.heap.size w3 w4) : AQ w base D m F A n set A7 c7 c w4 u :=
  ⟨m3, F, hD.below hb, hT.trans (Turn.below hb), own_mono ho hT.1.size, fun a ha hAll => by have := (own_lt ho a ha).1; have := (hD.all_lt hAll).2; omega, hr.below hb, fun h0 a ha => hr0.lt h0 a ha⟩
/-- The end of an adding. -/
theorem pa_end {w w6 w' : World} {base D : Nat} {m m6 : DM} {F F6 : Nat → Prop} {d : DS} {id : Int} {set : List Int} {pay : List UInt8} (hT : Turn w m F w6 m6 F6) {e : Ending} (h : PkPost w6 base D m6 F6 (d.addP id set pay) e w') :
    ∃ v, e = .returned v ∧ PaOk w base D m F d id set pay (.returned (.tuple #[v, .int .i64 0])) w' := by
  obtain ⟨v, l, d', m', F', rfl, h1, h2, h3, h4, h5⟩ := h
  exact ⟨v, rfl, v, l, d', m', F', rfl, h1, h2, h3, hT.trans h4, h5.base hT.1.size⟩
set_option maxRecDepth 100000 in
set_option maxHeartbeats 3200000 in
theorem padd_ok {w : World} {base D : Nat} {m : DM} {F : Nat → Prop} {d : DS} {A B : Option Addr} {n nb cA cB : Nat} {set : List Int} {pay : List UInt8} {id : Int} (h : AArgs w base D m F d A n set B nb pay id) (hst : Stable d) (hA : 0 < n → ∀ a, A = some a → ¬ m.all F a.block) (hB : 0 < nb → ∀ a, B = some a → ¬ m.all F a.block) (he : d.err id set pay = 0) :
    Calls Try.prog 14 #[.pointer (some ⟨D, 0, none⟩), .int .i64 id, .slice A n cA, .slice B nb cB] w (PaOk w base D m F d id set pay) := by
  obtain ⟨e1, e2, e3, e4, e5⟩ := err_ok he
  have hpl : pay.length = nb := by have := h.rp.1; simpa [bys_length] using this
  obtain rfl : nb = d.s := by omega
  have hsl : set.length = n := by have := h.rs.1; simpa [nums_length] using this
  obtain ⟨i0, hi0, hz0, hz1, hz2⟩ := info_parts ints2_info
  have c2 := h.dp.c2
  have hbt : Maps.has (idD d.ids) (Lit.int .i64 id) = false := by rw [has_idD]; exact decide_eq_false e4
  have hkey : keyOf Try.prog 3 (.int .i64 id) = some (Lit.int .i64 id) := keyOf_int_mk Try.underlying3 h.wf
  have hb0 : Below w.heap.size w (w.alloc (.cells #[] 76)) := (Below.refl _ _).alloc (Nat.le_refl _) _
  have c1 : (w.alloc (.cells #[] 76)).cell? ⟨D, 1, none⟩ = some (.int .i64 (d.s : Nat)) := (h.dp.below hb0).c1
  have c0 := (h.dp.below hb0).c0
  have c6 := (h.dp.below hb0).c6
  have d1 : decide (id < 0) = false := decide_eq_false (by omega)
  have d2 : decide (id > 4294967295) = false := decide_eq_false (by omega)
  have d3 : decide (4294967295 < id) = false := decide_eq_false (by omega)
  obtain ⟨mo, hmo⟩ : ∃ mo, (d.dc []).most = mo := ⟨_, rfl⟩
  obtain ⟨N, hN⟩ : ∃ N, d.sets.length = N := ⟨_, rfl⟩
  rw [hmo] at c6
  have hfull : ¬ mo ≤ (N : Int) := by rw [← hmo, ← hN]; exact e5
  have d6 : decide ((N : Int) ≥ mo) = false := decide_eq_false hfull
  have d7 : decide (mo ≤ (N : Int)) = false := decide_eq_false hfull
  have hset := isSet_any (cc := cA) (h.dp.below hb0) (h.rs.below hb0) h.nn (by have := h.ok.k1; show d.k ≤ _; omega)
  rw [show setB (d.dc []).k set = true from e2] at hset
  have HT := Lib.hid hset
  have HB0 := Lib.hid hb0
  have HM := Lib.hid (And.intro hmo (And.intro hN (And.intro e2 e5)))
  have H := Lib.hid (And.intro h (And.intro hst (And.intro hA (And.intro hB (And.intro he (And.intro hbt (And.intro hpl hsl)))))))
  have ds5 : decide (d.s ≠ d.s) = false := decide_eq_false (by omega)
  clear h hst hA hB he hbt hpl hsl e1 e2 e3 e4 e5 hset hb0 hmo hN hfull
  go_enter Try.func14, Try.ntmps14
  go_wp2_with fail
  refine (dnone_made H.out.1.dp.c0).mono ?_
  rintro e w1 ⟨rfl, rfl⟩
  go_wp2_with (at_lookup; refine wpList_lookup_own_unit _ rfl _ _ 63 rfl 3 76 int_law Try.underlying63 (zero_unit _) m.M m.mn (idD d.ids) rfl H.out.1.dp.mp _ (Lit.int .i64 id) rfl hkey ?_; rw [H.out.2.2.2.2.2.1])
  refine HT.out.mono ?_
  rintro e wx ⟨rfl, rfl⟩
  go_wp2_with fail
  go_quiet ((go_at_call 40; refine Calls.quiet_of_same (v := .int .i64 (N : Nat)) ((packets_gr (H.out.1.dp.below (below_dN HB0.out _)).gr).mono ?_); rintro e w' ⟨rfl, rfl⟩; exact ⟨by rw [← HM.out.2.1]; rfl, rfl⟩))
  go_wp2_with fail
  have hb1 := below_dN HB0.out nq
  generalize (w.alloc (.cells #[] 76)).drewN nq = w1 at hb1 ⊢
  have HB1 := Lib.hid hb1
  have k0 := (H.out.1.dp.below hb1).c0
  clear hb1 c0 c1 c2 c6 d1 d2 d3 d6 d7 ds5 HT
  go_wp2_with fail
  refine (add_step (H.out.1.dp.below HB1.out) H.out.1.ok HM.out.2.2.1 (by have := HM.out.2.2.2; omega) H.out.1.ds (H.out.1.rs.below HB1.out) H.out.1.nn H.out.2.2.1).mono ?_
  rintro e w2 ⟨rfl, m1, eM, hD2, hT2, hr2, hz2, hc2⟩
  have k2 := hD2.c2
  have HA := Lib.hid (And.intro hD2 ((Turn.below (m := m) (F := F) HB1.out).trans hT2))
  have hids : d.ids.length ≤ 1000 := by have := H.out.1.ok.ni; have := H.out.1.ds; omega
  clear eM hD2 hT2 hr2 hz2 hc2 k0
  go_wp2_with (at_mapUpdate; refine wpList_mapUpdate_own _ rfl _ _ _ 63 rfl 3 76 int_law Try.underlying63 (unitElem (H := Unit)) m1.M d.ids.length (idD d.ids) rfl (map_small HA.out.1.mp) (by unfold maxLen; omega) _ _ _ rfl rfl hkey _ [] unitElem_mk ?_; intro w3 hown3 hg3)
  obtain ⟨m3, hD3, hT3⟩ := came_step (id := id) HA.out.1 (by show d.ids.length < _; omega) hown3 hg3
  have hTT := HA.out.2.trans hT3
  have hrs := hTT.1.rd0 H.out.1.rs (fun a ha h0 => H.out.2.2.1 h0 a ha)
  have hrp := hTT.1.rd0 H.out.1.rp (fun a ha h0 => H.out.2.2.2.1 h0 a ha)
  refine (clone_any hrp H.out.1.nb).mono ?_
  rintro e w4 ⟨v7, rfl, ho7, hb7⟩
  obtain ⟨A7, c7, rfl⟩ := own_sl ho7
  have hAQ : AQ w base D m F A n set A7 c7 (d.adc id set) w4 (lv d.kn d.vals (set.take 0) pay) := AQ.start (c := d.adc id set) hD3 hTT H.out.1.rs hrs ho7 hb7
  have HQ := Lib.hid hAQ
  clear hown3 hg3 hD3 hT3 hTT hrs hrp ho7 hb7 hAQ HA k2 HB1 HB0
  have hn9 : (n : Int) ≤ 1000000 := by have := H.out.1.nn; omega
  go_wp2_with fail
  go_loopw [83] (fun a wx => ∃ j : Nat, j ≤ n ∧ a = .int .i64 j ∧ AQ w base D m F A n set A7 c7 (d.adc id set) wx (lv d.kn d.vals (set.take j) pay)) (fun a wx => n - (intOf a).toNat)
  case atStart => exact ⟨0, by omega, rfl, HQ.out⟩
  case round =>
    obtain ⟨j, hj, rfl, hT⟩ := hrel
    have hS : Sset d.k set := HM.out.2.2.1
    by_cases hlt : j < n
    · obtain ⟨x, SB, b, off, sv, hx, hxk, rfl, cb, c4, cs, hno, hyes⟩ := hT.see (c := d.adc id set) H.out.2.2.2.2.2.2.2 (fun y hy => hS.inr y hy) (lv_length _ _ H.out.2.2.2.2.2.2.1 fun y hy hk => H.out.1.ok.vx (hS.inr y (List.mem_of_mem_take hy)) hk) (fun i hi hk => H.out.1.ok.vs i hi hk) hlt
      have hlv := lv_succ d.kn d.vals pay (show j < set.length from by rw [H.out.2.2.2.2.2.2.2]; exact hlt)
      rw [hx] at hlv
      have km : (j : Int) < (n : Int) := by omega
      have kd : decide ((j : Int) < (n : Int)) = true := decide_eq_true km
      have kd' : decide (j < n) = true := decide_eq_true hlt
      have j0 : (0 : Int) ≤ (j : Int) := by omega
      have xk : (x : Int) < (((d.adc id set).k : Nat) : Int) := by omega
      have x0 : (0 : Int) ≤ (x : Int) := by omega
      have HJ := Lib.hid hlt
      cases hk : knw d.kn (x : Int) with
      | false =>
        obtain rfl := hno hk
        rw [hk, if_neg (by simp)] at hlv
        have hq := neq_none
        have HT9 := Lib.hid (And.intro hT hlv)
        clear hno hyes hlv hT hx hxk hlt hk hS
        go_wp2_with fail
        exact ⟨⟨j + 1, HJ.out, by go_num, by rw [HT9.out.2]; exact HT9.out.1⟩, by have := HJ.out; simp [intOf]; omega⟩
      | true =>
        obtain ⟨gs, cs', rfl, hcall⟩ := hyes hk
        rw [hk, if_pos rfl] at hlv
        have hq := fun w => neq_some ⟨gs, 0, none⟩ (d.adc id set).s cs' w
        have HT9 := Lib.hid (And.intro hcall hlv)
        clear hno hyes hlv hT hx hxk hlt hk hS hcall
        go_wp2_with fail
        refine HT9.out.1.mono ?_
        rintro e w5 ⟨rfl, h5⟩
        have H5 := Lib.hid h5
        clear h5
        go_wp2_with fail
        exact ⟨⟨j + 1, HJ.out, by go_num, by rw [HT9.out.2]; exact H5.out⟩, by have := HJ.out; simp [intOf]; omega⟩
    · obtain rfl : j = n := by omega
      have kd : decide ((j : Int) < (j : Int)) = false := decide_eq_false (by omega)
      have kd' : decide (j < j) = false := decide_eq_false (by omega)
      obtain ⟨LA, lc, lf, hlf, c3, hown, hbs, hfin⟩ := hT.lay H.out.1.dp.bs (.cells #[.slice A7 (d.adc id set).s c7] 22)
      obtain ⟨q, hq⟩ : ∃ q, (d.adc id set).lefts.length = q := ⟨_, rfl⟩
      have hq1 : q ≤ 1000 := by
        rw [← hq]
        have : (d.adc id set).lefts.length = d.sets.length := lefts_length d
        rw [this]; have := H.out.1.ds; omega
      rw [hq] at c3 hown hfin
      rw [adc_dc H.out.1.ok id pay H.out.2.2.2.2.2.2.2] at hfin
      have HF := Lib.hid (And.intro hown (And.intro hbs hfin))
      obtain ⟨r, hr⟩ : ∃ r, (rst d.kn set).length = r := ⟨_, rfl⟩
      have HR := Lib.hid hr
      clear hT hlt hj hlf hown hbs hfin hq hS hr
      rw [HR.out]
      have HOK := Lib.hid (H.out.1.ok.addP H.out.2.2.2.2.1)
      have HRX := Lib.hid ((RipX.rest H.out.2.1).add id set pay)
      have hset : (d.addP id set pay).sets.getD d.sets.length [] = set := addP_set d id set pay
      have hlen : (d.addP id set pay).sets.length = d.sets.length + 1 := by show (d.sets ++ [set]).length = _; rw [List.length_append]; rfl
      have HL := Lib.hid (And.intro hset hlen)
      clear hset hlen
      by_cases h1 : r = 1
      · subst h1
        go_wp2_with (at_builtin; refine wpList_append_rd _ rfl (.tmp 109) (.tmp 111) _ rfl base 22 i0 _ 1 24 Try.underlying30 hi0 hz0 hz1 hz2 rfl (by omega) _ q lf rfl HF.out.1 (some ⟨wr.heap.size, 0, none⟩) 1 1 [.slice A7 (d.adc id set).s c7] rfl (Rd.lit _ _ _ _ rfl 1 rfl _ rfl) slice_one (by simp only [maxLen]; omega) (by omega) HF.out.2.1 ?_; intro v6 w6 hown6 hg6 hat6; obtain ⟨A9, c9, rfl⟩ := own_sl hown6; obtain ⟨k3, f3, hD6⟩ := HF.out.2.2 _ _ hown6 hg6 hat6; have H6 := Lib.hid hD6; clear hown6 hg6 hat6 hD6)
        obtain ⟨m6, F6, hD6, hT6⟩ := H6.out
        refine (waits_any hD6 (by simp [DS.dc]) (p := d.sets.length) (by show d.sets.length < (d.addP id set pay).sets.length; rw [HL.out.2]; omega)).mono ?_
        rintro e w7 ⟨rfl, hw7⟩
        obtain ⟨m7, F7, l7, hD7, hT7, hp7⟩ := hw7.turn
        obtain ⟨y, hy⟩ := List.length_eq_one_iff.1 HR.out
        have hym : y ∈ set := (mem_rst.1 (show y ∈ rst d.kn set by rw [hy]; exact List.mem_cons_self ..)).1
        have hS : Sset d.k set := HM.out.2.2.1
        have hyr := hS.inr y hym
        obtain ⟨y', rfl⟩ : ∃ y' : Nat, y = y' := ⟨y.toNat, by omega⟩
        have hwl : wtL d.kn (d.addP id set pay).sets d.sets.length = [⟨(y' : Int), (d.sets.length : Int)⟩] := wtL_one (by rw [HL.out.1]; exact hy)
        have hp8 : l7.Perm ([] ++ [⟨(y' : Int), (d.sets.length : Int)⟩]) := by rw [← hwl]; exact hp7
        have hrx : RipX (d.addP id set pay) l7 [] := (HRX.out.put (x := y') (by rw [HL.out.2]; omega) (show y' < d.k by omega) (by rw [addP_set]; exact hy) (e := ⟨(y' : Int), (d.sets.length : Int)⟩) rfl rfl).perm hp8
        have hl7 : l7.length ≤ 1000 := by have := hp8.length_eq; simp at this; omega
        have H7 := Lib.hid (And.intro (peel_any (d := d.addP id set pay) hD7 HOK.out (by rw [HL.out.2]; have := H.out.1.ds; omega) hl7 hrx) (hT6.trans hT7))
        clear hD6 hT6 hD7 hT7 hp7 hw7 hy hym hS hyr hwl hp8 hrx hl7
        go_wp2_with fail
        refine H7.out.1.mono ?_
        intro e w8 h8
        obtain ⟨v8, rfl, h9⟩ := pa_end H7.out.2 h8
        have H9 := Lib.hid h9
        clear h9 h8
        go_wp2_with fail
        go_ret2
        exact H9.out
      · have r1 : decide (r = 1) = false := decide_eq_false h1
        have r2 : ((r : Int) == 1) = false := by simp; omega
        have HR1 := Lib.hid h1
        clear h1
        go_wp2_with (at_builtin; refine wpList_append_rd _ rfl (.tmp 109) (.tmp 111) _ rfl base 22 i0 _ 1 24 Try.underlying30 hi0 hz0 hz1 hz2 rfl (by omega) _ q lf rfl HF.out.1 (some ⟨wr.heap.size, 0, none⟩) 1 1 [.slice A7 (d.adc id set).s c7] rfl (Rd.lit _ _ _ _ rfl 1 rfl _ rfl) slice_one (by simp only [maxLen]; omega) (by omega) HF.out.2.1 ?_; intro v6 w6 hown6 hg6 hat6; obtain ⟨A9, c9, rfl⟩ := own_sl hown6; obtain ⟨k3, f3, hD6⟩ := HF.out.2.2 _ _ hown6 hg6 hat6; have H6 := Lib.hid hD6; clear hown6 hg6 hat6 hD6)
        obtain ⟨m6, F6, hD6, hT6⟩ := H6.out
        have hrx : RipX (d.addP id set pay) [] [] := HRX.out.skip (p := d.sets.length) (ex := []) (by
          rw [addP_set]
          show (rst d.kn set).length ≠ 1
          rw [HR.out]; exact HR1.out)
        have H7 := Lib.hid (And.intro (peel_any (d := d.addP id set pay) hD6 HOK.out (by rw [HL.out.2]; have := H.out.1.ds; omega) (by simp) hrx) hT6)
        clear hD6 hT6 hrx
        go_wp2_with fail
        refine H7.out.1.mono ?_
        intro e w8 h8
        obtain ⟨v8, rfl, h9⟩ := pa_end H7.out.2 h8
        have H9 := Lib.hid h9
        clear h9 h8
        go_wp2_with fail
        go_ret2
        exact H9.out
end Go.Proofs.Ytidoembkcaojoaa
