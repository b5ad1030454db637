/- Chapter 31: EtherCounts' walk. -/
import Derived.Test.YtknpghemogfenaaCq31
namespace Go.Proofs.Ytknpghemogfenaa
open Go.Conc Go.RowKit
set_option linter.unusedVariables false
theorem own_at0 {w : World} {base n c : Nat} {e : TypeId} {size : Nat} {A : Option Addr} {xs : List Value} (h : w.ownsRow base e size (.slice A n c) n xs) : At0 A := fun a ha => by
  rcases h.2 with ⟨h1, _⟩ | ⟨g, cap, cur, h1, _⟩
  · injection h1 with h1; rw [ha] at h1; cases h1
  · injection h1 with h1; rw [ha] at h1; injection h1 with h1; exact ⟨g, h1⟩
theorem own_lt {w : World} {base n c : Nat} {e : TypeId} {size : Nat} {A : Option Addr} {xs : List Value} (h : w.ownsRow base e size (.slice A n c) n xs) : ∀ a, A = some a → base ≤ a.block ∧ a.block < w.heap.size := fun a ha => by
  obtain ⟨⟨cs, h1⟩, h2⟩ := own_ty h (g := a.block) (by rw [ha]; rfl)
  exact ⟨h2, h1.lt⟩
/-- The ether and the fates and strays made good. -/
def CW (w0 w : World) (A B : Option Addr) (fl : List FT) (sl : List SY) (E : Nat) (s : ES) : Prop := ∃ F, Lf w0 w E s F ∧ Rd w A (fl.length * 4) (fl.flatMap FT.cells) ∧ Rd w B (sl.length * 3) (sl.flatMap SY.cells) ∧ (∀ a, A = some a ∨ B = some a → ¬ F a.block ∧ a.block < w.heap.size) ∧ Below w0.heap.size w0 w
section
variable {w0 w w' : World} {A B : Option Addr} {fl : List FT} {sl : List SY} {E : Nat} {s s' : ES} {F : Nat → Prop}
theorem CW.deed (h1 : Lf w0 w E s F) (h2 : Rd w A (fl.length * 4) (fl.flatMap FT.cells)) (h3 : Rd w B (sl.length * 3) (sl.flatMap SY.cells)) (h4 : ∀ a, A = some a ∨ B = some a → ¬ F a.block ∧ a.block < w.heap.size) (h5 : Below w0.heap.size w0 w) (hd : Deed w0 E F s' w w') : CW w0 w' A B fl sl E s' := by
  obtain ⟨F', g1, g2, hc⟩ := hd
  have hz := hc.size
  refine ⟨F', g1, hc.rd h2 fun a ha => (h4 a (.inl ha)).1, hc.rd h3 fun a ha => (h4 a (.inr ha)).1, fun a ha => ⟨fun hf => ?_, by have := (h4 a ha).2; omega⟩, hc.below h5 (fun k _ hk => (h1.2.1 k hk).1) h1.2.2⟩
  rcases g2 _ hf with e | e
  · exact (h4 a ha).1 e
  · have := (h4 a ha).2; omega
theorem CW.below (h : CW w0 w A B fl sl E s) (hb : Below w.heap.size w w') : CW w0 w' A B fl sl E s := by
  obtain ⟨F, h1, h2, h3, h4, h5⟩ := h
  exact ⟨F, h1.below hb, h2.below hb, h3.below hb, fun a ha => ⟨(h4 a ha).1, by have := (h4 a ha).2; have := hb.size; omega⟩, below_base h5 hb h1.2.2⟩
theorem CW.b (h : CW w0 w A B fl sl E s) : Below w0.heap.size w0 w := by obtain ⟨_, _, _, _, _, h⟩ := h; exact h
theorem CW.lf (h : CW w0 w A B fl sl E s) : ∃ F, Lf w0 w E s F := by obtain ⟨F, h, _⟩ := h; exact ⟨F, h⟩
end
theorem good_new {fl : List FT} {sl : List SY} : newE (fl.map goodF) (sl.map goodS) = 0 := by
  unfold newE
  rw [if_pos]
  rw [Bool.and_eq_true, List.all_eq_true, List.all_eq_true]
  constructor
  · intro f hf
    obtain ⟨g, hg, rfl⟩ := List.mem_map.1 hf
    have hz : ∀ z : Int, isLate (z % 12) = true := fun z => by unfold isLate; rw [decide_eq_true (by omega), decide_eq_true (by omega)]; rfl
    show (isLate (g.late % 12) && isLate (g.again % 12)) = true
    rw [hz, hz]; rfl
  · intro y hy
    obtain ⟨g, hg, rfl⟩ := List.mem_map.1 hy
    have hz : isEnd (g.dst % 2) = true := by
      unfold isEnd
      rcases (show g.dst % 2 = 0 ∨ g.dst % 2 = 1 by omega) with h | h <;> rw [h] <;> rfl
    show (decide (1 ≤ 1 + g.at_ % 20) && isEnd (g.dst % 2) && decide (min g.n 100 ≤ 70000)) = true
    rw [hz, decide_eq_true (by omega), decide_eq_true (by omega)]; rfl
theorem good_late {fl : List FT} : ∀ f ∈ fl.map goodF, f.late ≤ 11 ∧ f.again ≤ 11 := fun f hf => by
  obtain ⟨g, hg, rfl⟩ := List.mem_map.1 hf
  simp only [goodF]; omega
theorem good_at {sl : List SY} : ∀ y ∈ sl.map goodS, 1 ≤ y.at_ := fun f hf => by
  obtain ⟨g, hg, rfl⟩ := List.mem_map.1 hf
  simp only [goodS]; omega
theorem good_rd {w : World} {sl : List SY} (h : ∀ a ∈ sl, Rd w a.A a.n (bys a.x)) : ∀ y ∈ sl.map goodS, Rd w y.A y.n (bys y.x) := fun y hy => by
  obtain ⟨g, hg, rfl⟩ := List.mem_map.1 hy
  have h1 := h g hg
  have h2 := h1.take_ (k := min g.n 100) (Nat.min_le_left _ _)
  rw [bys_take] at h2
  have hl : g.x.length = g.n := by have := h1.1; simpa [bys_length] using this
  have e : g.x.take (min g.n 100) = g.x.take 100 := by
    rcases Nat.le_total g.n 100 with h | h
    · rw [Nat.min_eq_left h, List.take_of_length_le (by omega), List.take_of_length_le (by omega)]
    · rw [Nat.min_eq_right h]
  rw [e] at h2
  exact h2
theorem long31_all {nf : Nat} {sl : List SY} {al : List AC} (h : long31 nf sl al = false) : nf ≤ 60 ∧ sl.length ≤ 20 ∧ al.length ≤ 60 ∧ (∀ y ∈ sl, y.n ≤ 100 ∨ 70000 < y.n) ∧ ∀ a ∈ al, a.n ≤ 100 ∨ 70000 < a.n := by
  unfold long31 at h
  simp only [Bool.or_eq_false_iff, decide_eq_false_iff_not] at h
  obtain ⟨⟨h1, h2⟩, ⟨h3, h4⟩, h5⟩ := h
  refine ⟨by omega, by omega, by omega, fun a ha => ?_, fun a ha => ?_⟩
  · rw [List.take_of_length_le (by omega), List.any_eq_false] at h1
    have := h1 a ha
    simp only [big31, Bool.and_eq_true, decide_eq_true_eq, not_and] at this
    omega
  · rw [List.take_of_length_le (by omega), List.any_eq_false] at h2
    have := h2 a ha
    simp only [big31, Bool.and_eq_true, decide_eq_true_eq, not_and] at this
    omega
theorem cameN_take {l : List (Int × Int × List UInt8)} {t : Int} {q : Nat} (hq : q < l.length) : cameN (l.take (q + 1)) t = cameN (l.take q) t + (if l[q].1 ≤ t then 1 else 0) := by
  unfold cameN
  rw [List.take_succ_eq_append_getElem hq, List.filter_append, List.length_append]
  by_cases h : l[q].1 ≤ t
  · rw [if_pos h, List.filter_cons_of_pos (by simpa using h)]; rfl
  · rw [if_neg h, List.filter_cons_of_neg (by simpa using h)]; rfl
set_option maxRecDepth 100000 in
set_option maxHeartbeats 6400000 in
theorem counts_walk {A B D : Option Addr} {c d m : Nat} {fl : List FT} {sl : List SY} {al : List AC} {w : World} (h1 : Rd w A (fl.length * 4) (fl.flatMap FT.cells) ∧ fl.length ≤ c ∧ fl.length ≤ 4398046510976 ∧ ∀ a ∈ fl, I64 a.late ∧ I64 a.again)
    (h2 : Rd w B (sl.length * 3) (sl.flatMap SY.cells) ∧ sl.length ≤ d ∧ sl.length ≤ 3518437208780 ∧ ∀ a ∈ sl, I64 a.at_ ∧ I64 a.dst ∧ Rd w a.A a.n (bys a.x) ∧ a.n ≤ a.c ∧ a.n ≤ 140737488351232)
    (h3 : Rd w D (al.length * 4) (al.flatMap AC.cells) ∧ al.length ≤ m ∧ al.length ≤ 2932031007317 ∧ ∀ a ∈ al, I64 a.kind ∧ I64 a.dst ∧ I64 a.many ∧ Rd w a.A a.n (bys a.x) ∧ a.n ≤ a.c ∧ a.n ≤ 140737488351232) :
    Calls Try.prog 8 #[.slice A fl.length c, .slice B sl.length d, .slice D al.length m] w fun e w' => e = .returned (.bool true) ∧ Below w.heap.size w w' := by
  obtain ⟨nf, hnf⟩ : ∃ n, fl.length = n := ⟨_, rfl⟩
  obtain ⟨ns, hns⟩ : ∃ n, sl.length = n := ⟨_, rfl⟩
  obtain ⟨n, hn⟩ : ∃ n, al.length = n := ⟨_, rfl⟩
  have HN := Lib.hid (And.intro hnf (And.intro hns hn))
  have H := Lib.hid (And.intro h1 (And.intro h2 h3))
  rw [hnf, hns, hn]
  clear h1 h2 h3 hnf hns hn
  go_enter Try.func8, Try.ntmps8
  go_wp2_with fail
  refine known_any.mono ?_
  rintro _ w1 ⟨rfl, h1⟩
  have H1 := Lib.hid h1
  clear h1
  go_wp2_with fail
  refine (by have := long_any (nf := nf) (A0 := A) (A1 := B) (A2 := D) (c0 := c) (c1 := d) (c2 := m) (H.out.2.1.1.below H1.out) (H.out.2.2.1.below H1.out); rw [HN.out.2.1, HN.out.2.2] at this; exact this : Calls _ _ _ _ _).mono ?_
  rintro _ w2 ⟨rfl, rfl⟩
  cases hlg : long31 nf sl al with
  | true =>
    go_wp2_with fail
    go_ret
    exact ⟨rfl, H1.out⟩
  | false =>
    obtain ⟨q1, q2, q3, q4, q5⟩ := long31_all hlg
    rw [HN.out.2.1] at q2
    rw [HN.out.2.2] at q3
    have HQ := Lib.hid (And.intro q4 q5)
    clear hlg q4 q5
    go_wp2_with fail
    refine (by have := good_any (A := A) (B := B) (c := c) (d := d) (H.out.1.1.below H1.out) (H.out.2.1.1.below H1.out) (by rw [HN.out.1]; exact q1) (by rw [HN.out.2.1]; exact q2) H.out.1.2.2.2 (fun a ha => by have := H.out.2.1.2.2.2 a ha; exact ⟨this.1, this.2.1, this.2.2.1.below H1.out, this.2.2.2⟩); rw [HN.out.1, HN.out.2.1] at this; exact this : Calls _ _ _ _ _).mono ?_
    rintro _ w3 ⟨A1, c1, B1, d1, rfl, ho1, ho2, hb3⟩
    have H3 := Lib.hid (And.intro ho1 (And.intro ho2 hb3))
    clear ho1 ho2 hb3
    go_wp2_with fail
    have hlf : (fl.map goodF).length = nf := by rw [List.length_map, HN.out.1]
    have hls : (sl.map goodS).length = ns := by rw [List.length_map, HN.out.2.1]
    have hb13 := below_base H1.out H3.out.2.2 H1.out.size
    refine (by have := lf_new (w0 := w) (w := w3) (A := A1) (B := B1) (c := c1) (d := d1) (fl := fl.map goodF) (sl := sl.map goodS) hb13.size (by rw [hlf]; exact (own_rdN H3.out.1).1) (by rw [hls]; exact (own_rdN H3.out.2.1).1) (own_at0 H3.out.1) (own_at0 H3.out.2.1) (good_rd fun a ha => (H.out.2.1.2.2.2 a ha).2.2.1.below hb13) (by omega) (by omega) good_new; rw [hlf, hls] at this; exact this : Calls _ _ _ _ _).mono ?_
    rintro _ w4 ⟨E, rfl, hb4, F, hL, hF⟩
    have hcw : CW w w4 A1 B1 (fl.map goodF) (sl.map goodS) E (ES.new (fl.map goodF) (sl.map goodS)) := ⟨F, hL, by rw [hlf]; exact ((own_rdN H3.out.1).1).below hb4, by rw [hls]; exact ((own_rdN H3.out.2.1).1).below hb4, fun a ha => by
      have : a.block < w3.heap.size := by
        rcases ha with ha | ha
        · exact (own_lt H3.out.1 a ha).2
        · exact (own_lt H3.out.2.1 a ha).2
      exact ⟨fun hf => by have := hF _ hf; omega, by have := hb4.size; omega⟩, below_base hb13 hb4 hb13.size⟩
    have hci0 : CI (fl.map goodF) ((sl.map goodS).map SY.t) (ES.new (fl.map goodF) (sl.map goodS)) 0 0 0 0 := CI.new good_late good_at
    have HC := Lib.hid (And.intro hcw (And.intro hci0 (And.intro hlf hls)))
    clear hcw hci0 hL hF hb4 hlf hls hb13 H1 H3
    obtain ⟨gf, hgf⟩ : ∃ g, fl.map goodF = g := ⟨_, rfl⟩
    obtain ⟨gs, hgs⟩ : ∃ g, sl.map goodS = g := ⟨_, rfl⟩
    rw [hgf, hgs] at HC
    clear hgf hgs
    go_wp2_with fail
    go_loopw [12, 13, 14, 15] (fun v12 v13 v14 i wx => ∃ j : Nat, j ≤ n ∧ i = .int .i64 j ∧ ∃ (s : ES) (sent got : Int) (many : Nat), v12 = .int .i64 sent ∧ v13 = .int .i64 got ∧ v14 = .int .i64 (many : Nat) ∧ Hid (CW w wx A1 B1 gf gs E s ∧ CI gf (gs.map SY.t) s sent got many j)) (fun v12 v13 v14 i wx => n - (intOf i).toNat)
    case atStart => exact ⟨0, Nat.zero_le _, rfl, _, 0, 0, 0, rfl, rfl, rfl, Lib.hid ⟨HC.out.1, HC.out.2.1⟩⟩
    case round =>
      obtain ⟨j, hj, rfl, s, sent, gt, many, rfl, rfl, rfl, HJ⟩ := hrel
      by_cases hlt : j < n
      · have kd : decide ((j : Int) < (n : Int)) = true := decide_eq_true (by omega)
        have kdp : (j : Int) < (n : Int) := by omega
        have kd' : decide (j < n) = true := decide_eq_true hlt
        have ej : IntKind.i64.wrap ((j : Int) + 1) = ((j + 1 : Nat) : Int) := by rw [IntKind.wrap_i64]; omega
        have hjl : j < al.length := by rw [HN.out.2.2]; exact hlt
        obtain ⟨g, off, rfl, hc0⟩ := rd_cell (f := AC.cells) (k := 4) (fun _ => rfl) H.out.2.2.1 hjl (by decide)
        obtain ⟨⟨ak, ad, am, aA, an, ac, ax⟩, haj⟩ : ∃ a, al[j] = a := ⟨_, rfl⟩
        rw [haj] at hc0
        have ham : al[j] ∈ al := List.getElem_mem hjl
        have c0 : w.cell? ⟨g, off + j * 4, none⟩ = some (.int .i64 ak) := hc0 0 _ rfl
        have c1' := hc0 1 _ rfl
        have c3 := hc0 3 _ rfl
        have hok : I64 ak ∧ I64 ad ∧ I64 am ∧ Rd w aA an (bys ax) ∧ an ≤ ac ∧ an ≤ 140737488351232 := by have := H.out.2.2.2.2.2 _ ham; rw [haj] at this; exact this
        have hsz : an ≤ 100 ∨ 70000 < an := by have := HQ.out.2 _ ham; rw [haj] at this; exact this
        have HX := Lib.hid (And.intro (fun (wx : World) (hx : Below w.heap.size w wx) => (⟨cell_below hx c0, cell_below hx c1', cell_below hx c3, hok.2.2.2.1.below hx⟩ : wx.cell? ⟨g, off + j * 4, none⟩ = some (.int .i64 ak) ∧ wx.cell? ⟨g, off + j * 4 + 1, none⟩ = some (.int .i64 ad) ∧ wx.cell? ⟨g, off + j * 4 + 3, none⟩ = some (.slice aA an ac) ∧ Rd wx aA an (bys ax))) (And.intro hsz (And.intro (wf_i64 hok.1) (And.intro (wf_i64 hok.2.1) (And.intro hlt (rd_block hok.2.2.2.1))))))
        obtain ⟨k, hk, hk2⟩ : ∃ k : Nat, ad % 2 = (k : Int) ∧ k < 2 := ⟨(ad % 2).toNat, by omega, by omega⟩
        have HK := Lib.hid hk2
        clear hc0 c0 c1' c3 hok hsz ham haj hjl
        obtain ⟨c0, c1', c3, _⟩ := HX.out.1 wr HJ.out.1.b
        go_wp2_with fail
        refine (pick_any ad 2 HX.out.2.2.2.1 (by decide) (by decide)).mono ?_
        rw [hk]
        rintro _ w5 ⟨rfl, rfl⟩
        go_wp2_with fail
        refine (pick_any ak 3 HX.out.2.2.1 (by decide) (by decide)).mono ?_
        rintro _ w5 ⟨rfl, rfl⟩
        clear hk
        obtain ⟨t, ht, ht3⟩ : ∃ t : Nat, ak % 3 = (t : Int) ∧ t < 3 := ⟨(ak % 3).toNat, by omega, by omega⟩
        rw [ht]
        clear ht
        go_upto_block 2 with fail
        go_cut [12, 13, 14, 15] (fun v12 v13 v14 v15 wx => v15 = .int .i64 (j : Nat) ∧ ∃ (s : ES) (sent got : Int) (many : Nat), v12 = .int .i64 sent ∧ v13 = .int .i64 got ∧ v14 = .int .i64 (many : Nat) ∧ CW w wx A1 B1 gf gs E s ∧ CI gf (gs.map SY.t) s sent got many (j + 1))
        case first =>
          obtain ⟨F1, hL, hR1, hR2, hG, hW⟩ := HJ.out.1
          have hci := HJ.out.2
          have hb1 := hci.now
          have hb2 := hci.num
          have hb3 := hci.lost (by rw [List.length_map, HC.out.2.2.2]; exact q2)
          have hb4 := hci.sky
          have hb5 := hci.cnt
          have hj6 : j ≤ 60 := by have := HX.out.2.2.2.2.1; omega
          have HB := Lib.hid (show s.now ≤ 1000000 ∧ s.number ≤ 900000 ∧ s.sky.length ≤ 900000 ∧ s.lost ≤ 900000000 by omega)
          have HL := Lib.hid (And.intro hL (And.intro hR1 (And.intro hR2 (And.intro hG (And.intro hW hci)))))
          have hw1 : IntKind.i64.wrap (sent + 1) = sent + 1 := by rw [IntKind.wrap_i64]; omega
          have hw2 : IntKind.i64.wrap (sent + 1 + 1) = sent + 1 + 1 := by rw [IntKind.wrap_i64]; omega
          have hw3 : IntKind.i64.wrap ((many : Int) + 1) = ((many + 1 : Nat) : Int) := by rw [IntKind.wrap_i64]; omega
          have hw4 : IntKind.i64.wrap (gt + 1) = gt + 1 := by rw [IntKind.wrap_i64]; omega
          have hbm : many ≤ 60 := by omega
          clear hL hR1 hR2 hG hW hci hb1 hb2 hb3 hb4 hb5
          rcases (show t = 0 ∨ t = 1 ∨ t = 2 by omega) with rfl | rfl | rfl
          · by_cases hsm : an ≤ 100
            · have s1 : decide ((an : Int) ≤ 100) = true := decide_eq_true (by omega)
              have s2 : decide (an ≤ 100) = true := decide_eq_true hsm
              have HM := Lib.hid hsm
              clear hsm
              go_wp2_with fail
              refine (lf_send HL.out.1 (HX.out.1 wr HL.out.2.2.2.2.1).2.2.2 HX.out.2.2.2.2.2 (by have := HM.out; omega) (by have := HK.out; omega) HB.out.1 HB.out.2.1 HB.out.2.2.1 HB.out.2.2.2).mono ?_
              rintro _ w5 ⟨rfl, hd5⟩
              have hcw := CW.deed HL.out.1 HL.out.2.1 HL.out.2.2.1 HL.out.2.2.2.1 HL.out.2.2.2.2.1 hd5
              have H5 := Lib.hid (And.intro hcw (HL.out.2.2.2.2.2.send (k : Int) ax))
              clear hd5 hcw c0 c1' c3 HL HJ
              by_cases hmf : many < nf
              · have m1 : decide ((many : Int) < (nf : Int)) = true := decide_eq_true (by omega)
                have m1p : (many : Int) < (nf : Int) := by omega
                have m2 : decide (many < nf) = true := decide_eq_true hmf
                have hml : many < gf.length := by rw [HC.out.2.2.1]; exact hmf
                obtain ⟨F5, _, hR5, _, _, _⟩ := H5.out.1
                obtain ⟨gg, oo, hA1, hcc⟩ := rd_cell (f := FT.cells) (k := 4) (fun _ => rfl) hR5 hml (by decide)
                obtain ⟨⟨b1, i2, b3, i4⟩, hx⟩ : ∃ f, gf[many] = f := ⟨_, rfl⟩
                rw [hx] at hcc
                have e0 : w5.cell? ⟨gg, oo + many * 4, none⟩ = some (.bool b1) := hcc 0 _ rfl
                have e2 : w5.cell? ⟨gg, oo + many * 4 + 2, none⟩ = some (.bool b3) := hcc 2 _ rfl
                have HS := Lib.hid (show sentN gf many = if b3 && !b1 then 2 else 1 from by unfold sentN; rw [dif_pos hml, hx])
                clear hcc hR5 hml hmf hx
                subst hA1
                cases b1 <;> cases b3
                all_goals go_wp2_with fail
                all_goals go_meet
                all_goals refine ⟨rfl, _, _, _, _, ?_, rfl, rfl, H5.out.1, by have := H5.out.2; rw [HS.out] at this; exact this⟩
                all_goals first | rfl | (congr 1; rw [Int.add_assoc]; rfl)
              · have m1 : decide ((many : Int) < (nf : Int)) = false := decide_eq_false (by omega)
                have m2 : decide (many < nf) = false := decide_eq_false hmf
                have HS := Lib.hid (show sentN gf many = 1 from by unfold sentN; rw [dif_neg (by rw [HC.out.2.2.1]; exact hmf)])
                clear hmf
                go_wp2_with fail
                go_meet
                exact ⟨rfl, _, _, _, _, rfl, rfl, rfl, H5.out.1, by have := H5.out.2; rw [HS.out] at this; exact this⟩
            · have s1 : decide ((an : Int) ≤ 100) = false := decide_eq_false (by omega)
              have s2 : decide (an ≤ 100) = false := decide_eq_false hsm
              clear hsm
              go_wp2_with fail
              go_meet
              exact ⟨rfl, _, _, _, _, rfl, rfl, rfl, HJ.out.1, HJ.out.2.next⟩
          · go_wp2_with fail
            refine (lf_tick HL.out.1 HB.out.1 HB.out.2.2.2 HB.out.2.2.1).mono ?_
            rintro _ w5 ⟨rfl, hd5⟩
            have hcw := CW.deed HL.out.1 HL.out.2.1 HL.out.2.2.1 HL.out.2.2.2.1 HL.out.2.2.2.2.1 hd5
            have H5 := Lib.hid (And.intro hcw (HL.out.2.2.2.2.2.tick HL.out.1.ok (by rw [List.length_map, HC.out.2.2.2]; exact q2)))
            clear hd5 hcw c0 c1' c3 HL HJ
            go_wp2_with fail
            go_meet
            exact ⟨rfl, _, _, _, _, rfl, rfl, rfl, H5.out⟩
          · cases hbx : s.box (k : Int) with
            | nil =>
              have HBX := Lib.hid hbx
              clear hbx
              go_wp2_with fail
              refine (lf_get_none HL.out.1 (by have := HK.out; omega) HBX.out).mono ?_
              rintro _ w5 ⟨rfl, rfl⟩
              go_wp2_with fail
              go_meet
              exact ⟨rfl, _, _, _, _, rfl, rfl, rfl, HJ.out.1, HJ.out.2.next⟩
            | cons x r =>
              have HBX := Lib.hid hbx
              clear hbx
              go_wp2_with fail
              refine (lf_get HL.out.1 (by have := HK.out; omega) HBX.out).mono ?_
              rintro _ w5 ⟨rA, rn, rc, rfl, _, _, _, F5, g1, g2, _, hc5⟩
              have hcw := CW.deed HL.out.1 HL.out.2.1 HL.out.2.2.1 HL.out.2.2.2.1 HL.out.2.2.2.2.1 (⟨F5, g1, fun k hk => .inl (g2 k hk), hc5⟩ : Deed w E F1 (s.got (k : Int)) wr w5)
              have H5 := Lib.hid (And.intro hcw (HL.out.2.2.2.2.2.got HBX.out))
              clear g1 g2 hc5 hcw c0 c1' c3 HL HJ
              go_wp2_with fail
              go_meet
              exact ⟨rfl, _, _, _, _, rfl, rfl, rfl, H5.out⟩
        case rest =>
          obtain ⟨rfl, s', sent', got', many', rfl, rfl, rfl, hcw, hci⟩ := hcut
          have HA := Lib.hid (And.intro hcw hci)
          have hb1 := hci.now
          have hb3 := hci.lost (by rw [List.length_map, HC.out.2.2.2]; exact q2)
          have hb5 := hci.cnt
          have hb6 := hci.eq
          obtain ⟨F1, hL, hR1, hR2, hG, hW⟩ := hcw
          have HL := Lib.hid (And.intro hL (And.intro hR2 hL.ok))
          have hcm : cameN (gs.map SY.t) s'.now ≤ 20 := by have h : cameN (gs.map SY.t) s'.now ≤ (gs.map SY.t).length := (by unfold cameN; exact List.length_filter_le _ _); rw [List.length_map, HC.out.2.2.2] at h; omega
          obtain ⟨cm, hcmq⟩ : ∃ cm, cameN (gs.map SY.t) s'.now = cm := ⟨_, rfl⟩
          have hl0 := hL.ok.lost
          have hj6 : j ≤ 60 := by have := HX.out.2.2.2.2.1; omega
          clear hci HJ c0 c1' c3 hL hR1 hR2 hG hW
          go_wp2_with fail
          go_loopw [19, 20] (fun v19 i wx => ∃ q : Nat, q ≤ ns ∧ i = .int .i64 q ∧ v19 = .int .i64 (cameN ((gs.map SY.t).take q) s'.now : Nat) ∧ Hid (CW w wx A1 B1 gf gs E s')) (fun v19 i wx => ns - (intOf i).toNat)
          case atStart => exact ⟨0, Nat.zero_le _, rfl, rfl, Lib.hid HA.out.1⟩
          case round =>
            obtain ⟨q, hq, rfl, rfl, HW⟩ := hrel
            obtain ⟨F2, hL, _, hR2, _, _⟩ := HW.out
            have HL := Lib.hid (And.intro hL hR2)
            clear hL hR2
            by_cases hqs : q < ns
            · have qd : decide ((q : Int) < (ns : Int)) = true := decide_eq_true (by omega)
              have qdp : (q : Int) < (ns : Int) := by omega
              have qd' : decide (q < ns) = true := decide_eq_true hqs
              have eq' : IntKind.i64.wrap ((q : Int) + 1) = ((q + 1 : Nat) : Int) := by rw [IntKind.wrap_i64]; omega
              have hql : q < gs.length := by rw [HC.out.2.2.2]; exact hqs
              obtain ⟨gg, oo, hB1, hcc⟩ := rd_cell (f := SY.cells) (k := 3) (fun _ => rfl) HL.out.2 hql (by decide)
              obtain ⟨⟨ya, yd, yA, yn, yc, yx⟩, hx⟩ : ∃ f, gs[q] = f := ⟨_, rfl⟩
              rw [hx] at hcc
              have e0 : wr.cell? ⟨gg, oo + q * 3, none⟩ = some (.int .i64 ya) := hcc 0 _ rfl
              have htk := cameN_take (l := gs.map SY.t) (t := s'.now) (q := q) (by rw [List.length_map]; exact hql)
              rw [List.getElem_map, hx] at htk
              have HT := Lib.hid htk
              have hle : cameN ((gs.map SY.t).take q) s'.now ≤ 20 := by have h : cameN ((gs.map SY.t).take q) s'.now ≤ ((gs.map SY.t).take q).length := (by unfold cameN; exact List.length_filter_le _ _); rw [List.length_take] at h; omega
              obtain ⟨cq, hcq⟩ : ∃ cq, cameN ((gs.map SY.t).take q) s'.now = cq := ⟨_, rfl⟩
              rw [hcq] at hle
              have HCq := Lib.hid hcq
              rw [hcq]
              have hwq : IntKind.i64.wrap ((cq : Int) + 1) = ((cq + 1 : Nat) : Int) := by rw [IntKind.wrap_i64]; omega
              obtain ⟨nw, hnw⟩ : ∃ nw, s'.now = nw := ⟨_, rfl⟩
              have HNW := Lib.hid hnw
              clear hcc htk hql hqs hx hcq hnw
              subst hB1
              go_wp2_with fail
              go_quiet ((go_at_call 23; refine Calls.quiet_of_same (v := .int .i64 nw) ((lf_now (HL.out.1.below (below_dN (Below.refl _ _) _))).mono ?_); rintro e w' ⟨rfl, rfl⟩; exact ⟨by rw [HNW.out], rfl⟩))
              have HW2 := Lib.hid (HW.out.below (below_dN (Below.refl _ _) nq))
              clear HW HL e0
              by_cases hyn : ya ≤ nw
              · have y1 : decide (ya ≤ nw) = true := decide_eq_true hyn
                have HT2 := Lib.hid (show cameN ((gs.map SY.t).take (q + 1)) s'.now = cq + 1 from by rw [HT.out, HCq.out, HNW.out]; show cq + (if ya ≤ nw then 1 else 0) = _; rw [if_pos hyn])
                clear HT
                go_wp2_with fail
                refine ⟨⟨q + 1, by omega, rfl, (by rw [HT2.out]; first | done | rfl), HW2⟩, by show ns - ((q : Int) + 1).toNat < ns - ((q : Int)).toNat; omega⟩
              · have y1 : decide (ya ≤ nw) = false := decide_eq_false hyn
                have HT2 := Lib.hid (show cameN ((gs.map SY.t).take (q + 1)) s'.now = cq from by rw [HT.out, HCq.out, HNW.out]; show cq + (if ya ≤ nw then 1 else 0) = _; rw [if_neg hyn, Nat.add_zero])
                clear HT
                go_wp2_with fail
                refine ⟨⟨q + 1, by omega, rfl, (by rw [HT2.out]; first | done | rfl), HW2⟩, by show ns - ((q : Int) + 1).toNat < ns - ((q : Int)).toNat; omega⟩
            · obtain rfl : q = ns := by omega
              have qd : decide ((q : Int) < (q : Int)) = false := decide_eq_false (by omega)
              have qd' : decide (q < q) = false := decide_eq_false (by omega)
              rw [List.take_of_length_le (by rw [List.length_map, HC.out.2.2.2]; exact Nat.le_refl _), hcmq]
              obtain ⟨L, hLo⟩ : ∃ L, s'.lost = L := ⟨_, rfl⟩
              obtain ⟨f, hf⟩ : ∃ f, s'.sky.length = f := ⟨_, rfl⟩
              obtain ⟨b0, hb0⟩ : ∃ f, s'.b0.length = f := ⟨_, rfl⟩
              obtain ⟨b1, hb1'⟩ : ∃ f, s'.b1.length = f := ⟨_, rfl⟩
              unfold ES.sum at hb6
              rw [hLo, hf, hb0, hb1', hcmq] at hb6
              rw [hLo] at hl0
              rw [hcmq] at hcm
              have x1 : IntKind.i64.wrap (sent' + (cm : Int)) = sent' + (cm : Int) := by rw [IntKind.wrap_i64]; omega
              have x2 : IntKind.i64.wrap (L + (f : Int)) = L + (f : Int) := by rw [IntKind.wrap_i64]; omega
              have x3 : IntKind.i64.wrap (L + (f : Int) + (b0 : Int)) = L + (f : Int) + (b0 : Int) := by rw [IntKind.wrap_i64]; omega
              have x4 : IntKind.i64.wrap (L + (f : Int) + (b0 : Int) + (b1 : Int)) = L + (f : Int) + (b0 : Int) + (b1 : Int) := by rw [IntKind.wrap_i64]; omega
              have x5 : IntKind.i64.wrap (L + (f : Int) + (b0 : Int) + (b1 : Int) + got') = L + (f : Int) + (b0 : Int) + (b1 : Int) + got' := by rw [IntKind.wrap_i64]; omega
              have x6 : (sent' + (cm : Int) != L + (f : Int) + (b0 : Int) + (b1 : Int) + got') = false := by simp; omega
              have HV := Lib.hid (And.intro hLo (And.intro hf (And.intro hb0 hb1')))
              have HJN := Lib.hid (show j < n from HX.out.2.2.2.2.1)
              clear hLo hf hb0 hb1' hcmq hb6 hl0 hcm hb1 hb3 hb5 hq hqs hlt hj
              go_wp2_with fail
              refine (lf_lost HL.out.1).mono ?_
              rw [HV.out.1]
              rintro _ _ ⟨rfl, rfl⟩
              go_wp2_with fail
              refine (lf_flying HL.out.1).mono ?_
              rw [HV.out.2.1]
              rintro _ _ ⟨rfl, rfl⟩
              go_wp2_with fail
              refine (lf_waiting HL.out.1 0).mono ?_
              rw [show s'.wait 0 = b0 from HV.out.2.2.1]
              rintro _ _ ⟨rfl, rfl⟩
              go_wp2_with fail
              refine (lf_waiting HL.out.1 1).mono ?_
              rw [show s'.wait 1 = b1 from HV.out.2.2.2]
              rintro _ _ ⟨rfl, rfl⟩
              go_wp2_with fail
              refine ⟨⟨j + 1, HJN.out, rfl, s', sent', got', many', rfl, rfl, rfl, Lib.hid ⟨HW.out, HA.out.2⟩⟩, by have := HJN.out; show n - ((j : Int) + 1).toNat < n - ((j : Int)).toNat; omega⟩
      · obtain rfl : j = n := by omega
        have kd : decide ((j : Int) < (j : Int)) = false := decide_eq_false (by omega)
        have kd' : decide (j < j) = false := decide_eq_false (by omega)
        clear hlt hj
        go_wp2_with fail
        have HJ2 := Lib.hid (show ∃ s' , CW w wr A1 B1 gf gs E s' ∧ CI gf (gs.map SY.t) s' sent gt many (j + 0) ∧ CE s' s.now 0 from ⟨s, HJ.out.1, HJ.out.2, ⟨HJ.out.2.fly, by omega⟩⟩)
        clear HJ
        go_loopw [21] (fun i wx => ∃ q : Nat, q ≤ 13 ∧ i = .int .i64 q ∧ Hid (∃ s', CW w wx A1 B1 gf gs E s' ∧ CI gf (gs.map SY.t) s' sent gt many (j + q) ∧ CE s' s.now q)) (fun i wx => 13 - (intOf i).toNat)
        case atStart => exact ⟨0, Nat.zero_le _, rfl, HJ2⟩
        case round =>
          obtain ⟨q, hq, rfl, HQ2⟩ := hrel
          obtain ⟨s', hcw, hci, hce⟩ := HQ2.out
          by_cases hqs : q < 13
          · have qd : decide ((q : Int) < 13) = true := decide_eq_true (by omega)
            have qdp : (q : Int) < 13 := by omega
            have qd' : decide (q < 13) = true := decide_eq_true hqs
            have eq' : IntKind.i64.wrap ((q : Int) + 1) = ((q + 1 : Nat) : Int) := by rw [IntKind.wrap_i64]; omega
            obtain ⟨F2, hL, hR1, hR2, hG, hW⟩ := hcw
            have hb1 := hci.now
            have hb3 := hci.lost (by rw [List.length_map, HC.out.2.2.2]; exact q2)
            have hb4 := hci.sky
            have HL := Lib.hid (And.intro hL (And.intro hR1 (And.intro hR2 (And.intro hG (And.intro hW (And.intro hci hce))))))
            have HB := Lib.hid (show s'.now ≤ 1000000 ∧ s'.sky.length ≤ 900000 ∧ s'.lost ≤ 900000000 by omega)
            have HQS := Lib.hid hqs
            clear hL hR1 hR2 hG hW hci hce hb1 hb3 hb4 HQ2 hqs hq
            go_wp2_with fail
            refine (lf_tick HL.out.1 HB.out.1 HB.out.2.2 HB.out.2.1).mono ?_
            rintro _ w5 ⟨rfl, hd5⟩
            have hcw := CW.deed HL.out.1 HL.out.2.1 HL.out.2.2.1 HL.out.2.2.2.1 HL.out.2.2.2.2.1 hd5
            have H5 := Lib.hid (And.intro hcw (And.intro (HL.out.2.2.2.2.2.1.tick HL.out.1.ok (by rw [List.length_map, HC.out.2.2.2]; exact q2)) HL.out.2.2.2.2.2.2.tick))
            clear hd5 hcw HL
            go_wp2_with fail
            refine ⟨⟨q + 1, HQS.out, rfl, Lib.hid ⟨_, H5.out⟩⟩, by have := HQS.out; show 13 - ((q : Int) + 1).toNat < 13 - ((q : Int)).toNat; omega⟩
          · obtain rfl : q = 13 := by omega
            obtain ⟨F2, hL, _, _, _, hW⟩ := hcw
            have HL := Lib.hid (And.intro hL (And.intro hW (hce.done hL.ok)))
            clear hL hW hci hce HQ2 hqs hq
            go_wp2_with fail
            refine (lf_flying HL.out.1).mono ?_
            rw [HL.out.2.2]
            rintro _ _ ⟨rfl, rfl⟩
            go_wp2_with fail
            go_ret
            exact ⟨rfl, HL.out.2.1⟩
end Go.Proofs.Ytknpghemogfenaa
