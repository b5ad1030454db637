/- Chapter 31: (*Ether).Tick: its walk. -/
import Derived.Test.YtknpghemogfenaaTj31
namespace Go.Proofs.Ytknpghemogfenaa
open Go.Conc Go.RowKit
set_option linter.unusedVariables false
theorem T1.stray {w wx : World} {base E : Nat} {m : EM} {s : ES} {j : Nat} (h : T1 w wx base E m s j) (hs : s.ok) (hab : Ab m s) (hj : j < m.strays.length) : ∃ (g : Nat) (at_ dst : Int) (A : Option Addr) (n c : Nat) (x : List UInt8), m.SA = some ⟨g, 0, none⟩ ∧ m.strays[j] = ⟨at_, dst, A, n, c, x⟩ ∧ wx.cell? ⟨g, j * 3, none⟩ = some (.int .i64 at_) ∧ wx.cell? ⟨g, j * 3 + 1, none⟩ = some (.int .i64 dst) ∧ wx.cell? ⟨g, j * 3 + 2, none⟩ = some (.slice A n c) ∧ Rd wx A n (bys x) ∧ n ≤ 70000 := by
  obtain ⟨m', h1, h2, h3, h4, h5, h6, h7⟩ := h
  have hj' : j < m'.strays.length := by rw [h3]; exact hj
  obtain ⟨g, hg, y0, y1, y2⟩ := h1.stray hj'
  have hx := h1.sx _ (List.getElem_mem hj')
  have e : m'.strays[j] = m.strays[j] := by simp only [h3]
  rw [e] at y0 y1 y2 hx
  exact ⟨g, _, _, _, _, _, _, h4.symm.trans hg, rfl, y0, y1, y2, hx.rd, hx.2⟩
theorem cell_blk {w w' : World} {k : Nat} (h : w'.heap[k]? = w.heap[k]?) (i : Nat) (p : Option Nat) : w'.cell? ⟨k, i, p⟩ = w.cell? ⟨k, i, p⟩ := World.cell?_of_block (a := ⟨k, i, p⟩) h
theorem t1_step' {w wx : World} {base E : Nat} {m : EM} {s : ES} {j : Nat} (hs : s.ok) (hab : Ab m s) (hfm : ∀ k, m.foot E k → k < w.heap.size) (hlo : s.lost ≤ 900000000) (h : T1 w wx base E m s j) (hj : j < m.strays.length) {dst : Int} {A : Option Addr} {n c : Nat} {x : List UInt8} (hy : m.strays[j] = ⟨s.now + 1, dst, A, n, c, x⟩)
    {w1 : World} {A1 : Option Addr} {d1 : Nat} (hb : Below wx.heap.size wx w1) (hown : w1.ownsRow wx.heap.size 5 1 (.slice A1 n d1) n (bys x)) :
    Calls Try.prog 38 #[.pointer (some ⟨E, 0, none⟩), .int .i64 dst, .slice A1 n d1] w1 fun e w' => e = .returned (.tuple #[]) ∧ T1 w w' base E m s (j + 1) ∧ ∀ k, wx.heap.size ≤ k → k < w1.heap.size → w'.heap[k]? = w1.heap[k]? := by
  have e1 : (m.strays[j]).n = n := by rw [hy]
  have e2 : (m.strays[j]).x = x := by rw [hy]
  have e3 : (m.strays[j]).dst = dst := by rw [hy]
  have e4 : (m.strays[j]).at_ = s.now + 1 := by rw [hy]
  have := t1_step hs hab hfm hlo h hj e4 (w1 := w1) (A1 := A1) (d1 := d1) hb (by rw [e1, e2]; exact hown)
  rw [e1, e3] at this
  exact this
theorem mid_sky {s : ES} (k : Nat) : (s.mid k).sky.length ≤ s.sky.length := by
  have := (s.sky_perm (s.now + 1)).length_eq
  rw [List.length_append] at this
  show ((s.ar (s.now + 1)).drop k ++ s.ot (s.now + 1)).length ≤ _
  rw [List.length_append, List.length_drop]
  omega
theorem ar_len (s : ES) (t : Int) : (s.ar t).length ≤ s.sky.length := by
  have := (s.sky_perm t).length_eq
  rw [List.length_append] at this
  omega
/-- What the second loop sees. -/
theorem T2.see {w wx : World} {base E : Nat} {m : EM} {s : ES} {k : Nat} (h : T2 w wx base E m s k) (hsk : s.sky.length ≤ 900000) :
    ∃ m', (Em wx base E m' ∧ Ab m' (s.mid k) ∧ Chg (m.foot E) w wx ∧ (∀ k, m'.foot E k → m.foot E k ∨ w.heap.size ≤ k) ∧ k ≤ (s.ar (s.now + 1)).length) ∧ wx.cell? ⟨E, 4, none⟩ = some m'.v ∧ wx.cell? ⟨E, 2, none⟩ = some (.int .i64 (s.now + 1)) ∧
      ((m'.l.length = 0 ∧ ∃ A c, m'.v = .slice A 0 c) ∨ ∃ (q g c : Nat) (e : HE), m'.l.length = q + 1 ∧ q ≤ 900000 ∧ gx m'.l 0 = e ∧ m'.v = .slice (some ⟨g, 0, none⟩) (q + 1) c ∧ wx.cell? ⟨g, 0, none⟩ = some (.int .i64 e.a)) := by
  obtain ⟨m', h1, h2, h3, h4, h5⟩ := h
  refine ⟨m', ⟨h1, h2, h3, h4, h5⟩, h1.cell.2.2.2.2.1, by rw [h1.cell.2.2.1, h2.now, mid_now], ?_⟩
  rcases hl : m'.l.length with _ | q
  · obtain ⟨A, c, hv, _⟩ := h1.k.form
    rw [hl] at hv
    exact .inl ⟨rfl, A, c, hv⟩
  · obtain ⟨g, c, hv, _, hr, _⟩ := h1.k.at_ (i := 0) (by omega)
    rw [hl] at hv
    have := h2.len
    have := mid_sky (s := s) k
    exact .inr ⟨q, g, c, _, rfl, by omega, rfl, hv, by have := (er_cells hr).1; rw [Nat.zero_mul] at this; exact this⟩
theorem t2_step' {w wx w2 w3 : World} {base E : Nat} {m m' : EM} {s : ES} {k : Nat} {e : HE} (hs : s.ok) (hlo : s.lost ≤ 900000000) (hst : s.strays.length ≤ 1000000) (hsk : s.sky.length ≤ 900000)
    (hx : Em wx base E m' ∧ Ab m' (s.mid k) ∧ Chg (m.foot E) w wx ∧ (∀ k, m'.foot E k → m.foot E k ∨ w.heap.size ≤ k) ∧ k ≤ (s.ar (s.now + 1)).length) (he : gx m'.l 0 = e)
    (ht : e.a ≤ s.now + 1) {A : Option Addr} {q c : Nat} {l' : List HE} (hv : m'.v = .slice A (q + 1) c) (hlen : m'.l.length = q + 1)
    (hf : HF w2 base E (m'.cells.set 4 (.slice A q c)) 4 (.slice A q c) l') (hp : (gx m'.l 0 :: l').Perm m'.l) (hh : Hp (keys l')) (hc : Chg (fun k => k = E ∨ (Value.slice A (q + 1) c).ownBlock = some k) wx w2) (hb : Below w2.heap.size w2 w3) :
    Calls Try.prog 38 #[.pointer (some ⟨E, 0, none⟩), .int .i64 e.d, .slice e.A e.n e.c] w3 fun e w' => e = .returned (.tuple #[]) ∧ T2 w w' base E m s (k + 1) := by
  subst he
  exact t2_step hs hlo hst (by omega) hx.1 hx.2.1 hx.2.2.1 hx.2.2.2.1 hx.2.2.2.2 ht hv hlen hf hp hh hc hb
theorem T2.below {w wx wy : World} {base E : Nat} {m : EM} {s : ES} {k : Nat} (hfm : ∀ k, m.foot E k → k < w.heap.size) (h : T2 w wx base E m s k) (hb : Below wx.heap.size wx wy) : T2 w wy base E m s k := by
  obtain ⟨m', h1, h2, h3, h4, h5⟩ := h
  exact ⟨m', h1.below hb, h2, h3.trans (Chg.of_below (S := m.foot E) hb) fun _ _ x => x, h4, h5⟩
theorem Em.hf {w : World} {base E : Nat} {m : EM} {v : Value} (h : Em w base E m) (hv : m.v = v) : HF w base E m.cells 4 v m.l := by
  subst hv
  exact ⟨h.e, rfl, h.k, h.neE.2.2.1, h.bs.2.2.2⟩
theorem x2_below {w wx wy : World} {base E k : Nat} {m m' : EM} {s : ES} (hx : Em wx base E m' ∧ Ab m' (s.mid k) ∧ Chg (m.foot E) w wx ∧ (∀ k, m'.foot E k → m.foot E k ∨ w.heap.size ≤ k) ∧ k ≤ (s.ar (s.now + 1)).length) (hb : Below wx.heap.size wx wy) :
    Em wy base E m' ∧ Ab m' (s.mid k) ∧ Chg (m.foot E) w wy ∧ (∀ k, m'.foot E k → m.foot E k ∨ w.heap.size ≤ k) ∧ k ≤ (s.ar (s.now + 1)).length :=
  ⟨hx.1.below hb, hx.2.1, hx.2.2.1.trans (Chg.of_below (S := m.foot E) hb) fun _ _ x => x, hx.2.2.2.1, hx.2.2.2.2⟩
theorem t2_done {w wx wy : World} {base E k L : Nat} {m m' : EM} {s : ES} {F : Nat → Prop} (hs : s.ok) (hab : Ab m s) (hF : ∀ k, m.foot E k → F k) (hx : Em wx base E m' ∧ Ab m' (s.mid k) ∧ Chg (m.foot E) w wx ∧ (∀ k, m'.foot E k → m.foot E k ∨ w.heap.size ≤ k) ∧ k ≤ (s.ar (s.now + 1)).length)
    (ht : m'.l.length = 0 ∨ (0 < m'.l.length ∧ s.now + 1 < (gx m'.l 0).a)) (hL : (s.stj (s.now + 1) m.strays.length).length = L) (hb : Below wx.heap.size wx wy) : s.tickN = L + k ∧ Eto w base E s.tick F wy := by
  have hx := x2_below hx hb
  have hd := t2_end hx.2.1 hx.1.fit hx.1.hp ht
  have hk : k = (s.ar (s.now + 1)).length := by
    have := congrArg List.length hd
    rw [List.length_drop, List.length_nil] at this
    have := hx.2.2.2.2
    omega
  have hsl : m.strays.length = s.strays.length := by rw [← hab.strays]; simp
  rw [hsl, stj_all] at hL
  have hm := mid_last s
  rw [← hk] at hm
  refine ⟨?_, eto_of hF hx.1 (hm ▸ hx.2.1) hs.tick hx.2.2.1 hx.2.2.2.1⟩
  show (s.st (s.now + 1)).length + (s.ar (s.now + 1)).length = _
  rw [hL, hk]
set_option maxRecDepth 100000 in
set_option maxHeartbeats 6400000 in
theorem tick_any {w : World} {base E : Nat} {s : ES} {F : Nat → Prop} (h : Ew w base E s F) (hnow : s.now ≤ 1000000) (hlo : s.lost ≤ 900000000) (hsk : s.sky.length ≤ 900000) :
    Calls Try.prog 19 #[.pointer (some ⟨E, 0, none⟩)] w fun e w' => e = .returned (.tuple #[.int .i64 (s.tickN : Nat), .int .i64 0]) ∧ Eto w base E s.tick F w' := by
  obtain ⟨m, h1, h2, h3, h4⟩ := h
  have hfm : ∀ k, m.foot E k → k < w.heap.size := fun k hk => (h1.foot_base hk).2
  obtain ⟨_, c1, c2, _, _, _, _, _⟩ := h1.cell
  have f2 := h1.frozen 2
  rw [h2.now] at c2
  have hn0 := h3.now
  have e1 : IntKind.i64.wrap (s.now + 1) = s.now + 1 := by rw [IntKind.wrap_i64]; omega
  have hsl := h1.sl
  have hcE : Chg (fun k => k = E) w (w.setCell ⟨E, 2, none⟩ (.int .i64 (s.now + 1))) := (Chg.refl (fun k => k = E) w).set_ (show E = E from rfl) _ _
  have hbk := h1.e.set_ 2 (.int .i64 (s.now + 1))
  have hT : T1 w (w.setCell ⟨E, 2, none⟩ (.int .i64 (s.now + 1))) base E m s 0 :=
    ⟨_, h1.nums (a := s.now + 1) (b := m.number) (c := m.lost) hcE hbk, { h2 with now := rfl }, rfl, rfl, rfl, hcE.mono (fun k _ hk => by rw [hk]; exact EM.fE), fun k hk => .inl hk⟩
  have HT := Lib.hid hT
  have H := Lib.hid (And.intro h1 (And.intro h2 (And.intro h3 (And.intro h4 (And.intro hfm (And.intro hnow (And.intro hlo hsk)))))))
  clear h1 h2 h3 h4 hfm hlo hsk hcE hbk hT
  go_enter Try.func19, Try.ntmps19
  go_wp2_with fail
  refine (enone_em H.out.1).mono ?_
  rintro e w ⟨rfl, rfl⟩
  go_upto_region 5 with fail
  generalize w.setCell ⟨E, 2, none⟩ (.int .i64 (s.now + 1)) = w1 at HT ⊢
  have c1' : w1.cell? ⟨E, 1, none⟩ = some (.slice m.SA m.strays.length m.sc) := by
    obtain ⟨m', g1, g2, g3, g4, g5, _⟩ := HT.out
    rw [g1.cell.2.1, g3, g4, g5]
  have hl63 : (m.strays.length : Int) ≤ 100000 := by omega
  clear c1 c2 f2 hsl
  go_wp2_with fail
  clear c1'
  go_loopw [4, 22] (fun a i wr => ∃ j : Nat, j ≤ m.strays.length ∧ i = .int .i64 j ∧ a = .int .i64 ((s.stj (s.now + 1) j).length : Nat) ∧ Hid (T1 w wr base E m s j)) (fun a i wr => m.strays.length - (intOf i).toNat)
  case atStart => exact ⟨0, Nat.zero_le _, rfl, rfl, HT⟩
  case round =>
    obtain ⟨j, hj, rfl, rfl, HJ⟩ := hrel
    by_cases hlt : j < m.strays.length
    · obtain ⟨g, at_, dst, A, n, c, x, hg, hy, y0, y1, y2, hr, hn⟩ := HJ.out.stray H.out.2.2.1 H.out.2.1 hlt
      have yE := HJ.out.cell
      rw [hg]
      have HY := Lib.hid (And.intro hg (And.intro hy (And.intro hr (And.intro hj hlt))))
      have hlz : decide (j < m.strays.length) = true := decide_eq_true hlt
      clear hg hy hr hj
      go_upto_region 8 with fail
      have hK := Below.refl wr.heap.size wr |>.alloc (Nat.le_refl _) (.cells #[.int .i64 at_, .int .i64 dst, .slice A n c] 45)
      have hKb := Bk.newA wr 45 #[.int .i64 at_, .int .i64 dst, .slice A n c]
      have KE := cell_below hK yE
      have K0 : (wr.alloc (.cells #[.int .i64 at_, .int .i64 dst, .slice A n c] 45)).cell? ⟨wr.heap.size, 0, none⟩ = some (.int .i64 at_) := hKb.cell 0
      have K1 : (wr.alloc (.cells #[.int .i64 at_, .int .i64 dst, .slice A n c] 45)).cell? ⟨wr.heap.size, 1, none⟩ = some (.int .i64 dst) := hKb.cell 1
      have K2 : (wr.alloc (.cells #[.int .i64 at_, .int .i64 dst, .slice A n c] 45)).cell? ⟨wr.heap.size, 2, none⟩ = some (.slice A n c) := hKb.cell 2
      have hkl := hKb.lt
      have HK := Lib.hid (And.intro hK (And.intro (HY.out.2.2.1.below hK) (And.intro hkl hKb)))
      clear y0 y1 y2 yE hK hKb hkl
      generalize hKK : wr.alloc (.cells #[.int .i64 at_, .int .i64 dst, .slice A n c] 45) = K at HK KE K0 K1 K2 ⊢
      clear hKK
      have hjb := stj_len s (s.now + 1) j
      have en : IntKind.i64.wrap ((s.stj (s.now + 1) j).length + 1) = (((s.stj (s.now + 1) j).length + 1 : Nat) : Int) := by
        have h9 : m.strays.length = s.strays.length := by rw [← H.out.2.1.strays]; simp
        rw [IntKind.wrap_i64]; omega
      have ej : IntKind.i64.wrap ((j : Int) + 1) = ((j + 1 : Nat) : Int) := by rw [IntKind.wrap_i64]; omega
      have HE := Lib.hid (And.intro en ej)
      clear en ej hjb
      by_cases hat : at_ = s.now + 1
      · subst hat
        go_quiet (fail)
        have K1' := (World.cell?_drewN K nq ⟨wr.heap.size, 1, none⟩).trans K1
        have K2' := (World.cell?_drewN K nq ⟨wr.heap.size, 2, none⟩).trans K2
        generalize hKD : K.drewN nq = KD at K1' K2' ⊢
        have hKD2 : Below wr.heap.size wr KD ∧ Rd KD A n (bys x) ∧ wr.heap.size < KD.heap.size := by
          rw [← hKD]
          have hz := below_dN (Below.refl K.heap.size K) nq
          exact ⟨below_dN HK.out.1 nq, HK.out.2.1.below hz, Nat.lt_of_lt_of_le HK.out.2.2.1 hz.size⟩
        have HD := Lib.hid hKD2
        have HKE := Lib.hid (show ∀ w1, Below KD.heap.size KD w1 → w1.cell? ⟨wr.heap.size, 1, none⟩ = some (.int .i64 dst) ∧ w1.cell? ⟨wr.heap.size, 2, none⟩ = some (.slice A n c) from fun w1 hb => ⟨cell_below hb K1', cell_below hb K2'⟩)
        clear hKD hKD2 K0 K1 K2 KE
        go_wp2_with fail
        go_region_held3 (fun w' => w'.cell? ⟨wr.heap.size, 1, none⟩ = some (.int .i64 dst) ∧ w'.cell? ⟨wr.heap.size, 2, none⟩ = some (.slice A n c))
          (first | exact S2.out.2 | exact S1.out.2.2.2 | go_keep)
          (first
            | (go_at_call 34; refine (clone_any (HD.out.2.1.below (Below.refl KD.heap.size KD).drew) (by omega)).mono ?_; rintro e w1 ⟨v1, rfl, ho1, hb1⟩; obtain ⟨A1, d1, rfl, hd1, hx1⟩ := own_form ho1; clear hx1 hd1; have S1 := Lib.hid (And.intro (own_mono ho1 HD.out.1.size) (And.intro (below_base HD.out.1 (below_undrew hb1) HD.out.1.size) (And.intro (Nat.lt_of_lt_of_le HD.out.2.2 hb1.size) (HKE.out _ (below_undrew hb1))))); clear ho1 hb1)
            | (go_at_call 38; refine (t1_step' H.out.2.2.1 H.out.2.1 H.out.2.2.2.2.1 H.out.2.2.2.2.2.2.1 HJ.out hlt HY.out.2.1 S1.out.2.1 S1.out.1).mono ?_; rintro e w2 ⟨rfl, ht, hk⟩; have hk2 := cell_blk (hk wr.heap.size (Nat.le_refl _) S1.out.2.2.1); have S2 := Lib.hid (And.intro ht (And.intro ((hk2 1 none).trans S1.out.2.2.2.1) ((hk2 2 none).trans S1.out.2.2.2.2))); clear ht hk hk2))
        obtain ⟨en, ej⟩ := HE.out
        go_wp2_with fail
        refine ⟨⟨j + 1, hlt, rfl, ?_, Lib.hid S2.out.1⟩, by show m.strays.length - ((j : Int) + 1).toNat < m.strays.length - ((j : Int)).toNat; omega⟩
        rw [stj_count H.out.2.1 hlt (by rw [HY.out.2.1])]
        rfl
      · have hatd : (at_ == s.now + 1) = false := by simpa using hat
        go_quiet (fail)
        obtain ⟨_, ej⟩ := HE.out
        go_wp2_with fail
        obtain ⟨q1, q2⟩ := t1_skip H.out.2.1 HJ.out hlt (by rw [HY.out.2.1]; exact hat)
        refine ⟨⟨j + 1, hlt, rfl, by rw [q2], Lib.hid (q1.below H.out.2.2.2.2.1 (below_dN HK.out.1 nq))⟩, by show m.strays.length - ((j : Int) + 1).toNat < m.strays.length - ((j : Int)).toNat; omega⟩
    · obtain rfl : j = m.strays.length := by omega
      have hlz : decide (m.strays.length < m.strays.length) = false := decide_eq_false (by omega)
      have H2 := Lib.hid (t2_start H.out.2.1 HJ.out)
      clear HT HJ hj
      go_wp2_with fail
      generalize hL : (s.stj (s.now + 1) m.strays.length).length = L
      have HL := Lib.hid hL
      clear hL
      go_loopw [4] (fun a wx => ∃ k : Nat, a = .int .i64 ((L + k : Nat) : Int) ∧ Hid (T2 w wx base E m s k)) (fun a wx => L + (s.ar (s.now + 1)).length - (intOf a).toNat)
      case atStart => exact ⟨0, rfl, H2⟩
      case round =>
        obtain ⟨k, rfl, HR⟩ := hrel
        obtain ⟨m', hm', c4, c2, hl | ⟨q, g, c, e, hl, hq, he, hv, cg⟩⟩ := HR.out.see H.out.2.2.2.2.2.2.2
        · obtain ⟨hl, A, c, hv⟩ := hl
          rw [hv] at c4
          have HM := Lib.hid (And.intro hm' hl)
          clear hm' hl hv
          go_wp2_with fail
          go_quiet (fail)
          go_wp2_with fail
          go_ret2
          have hdn := t2_done H.out.2.2.1 H.out.2.1 H.out.2.2.2.1 HM.out.1 (.inl HM.out.2) HL.out (below_dN (Below.refl wr.heap.size wr) nq)
          exact ⟨by rw [hdn.1]; rfl, hdn.2⟩
        · rw [hv] at c4
          by_cases ht : e.a ≤ s.now + 1
          · have htd : decide (e.a ≤ s.now + 1) = true := decide_eq_true ht
            have HM := Lib.hid (And.intro hm' (And.intro hl (And.intro he (And.intro hv (And.intro hq ht)))))
            clear hm' hl he hv ht
            go_wp2_with fail
            go_quiet (fail)
            go_wp2_with fail
            have hx2 := x2_below HM.out.1 (below_dN (Below.refl wr.heap.size wr) nq)
            generalize wr.drewN nq = wy at hx2 ⊢
            have HX := Lib.hid hx2
            clear hx2 c4 c2 cg
            refine (heapPop_any (o := 4) (m := q) (c := c) (HX.out.1.hf HM.out.2.2.2.1) HM.out.2.1 HX.out.1.hp HX.out.1.fit (by have := HM.out.2.2.2.2.1; omega)).mono ?_
            rintro x w2 ⟨hxx, l', p1, p2, p3, p4, p5⟩
            rw [HM.out.2.2.1] at hxx
            have hxy : x = .returned (.iface 75 (.agg #[.int .i64 e.a, .int .i64 e.b, .int .i64 e.d, .slice e.A e.n e.c])) := hxx
            subst hxy
            have HP := Lib.hid (And.intro p1 (And.intro p2 (And.intro p3 p5)))
            clear hxx p1 p2 p3 p4 p5
            have has := fun w => assert_el e w
            go_wp2_with fail
            have hst9 : s.strays.length ≤ 1000000 := by
              have h9 : m.strays.length = s.strays.length := by rw [← H.out.2.1.strays]; simp
              omega
            refine (t2_step' H.out.2.2.1 H.out.2.2.2.2.2.2.1 hst9 H.out.2.2.2.2.2.2.2 HX.out HM.out.2.2.1 HM.out.2.2.2.2.2 HM.out.2.2.2.1 HM.out.2.1 HP.out.1 HP.out.2.1 HP.out.2.2.1 HP.out.2.2.2 ((Below.refl _ _).alloc (Nat.le_refl _) _)).mono ?_
            rintro x w3 ⟨rfl, h9⟩
            have HZ := Lib.hid h9
            clear h9
            have hL9 := stj_len s (s.now + 1) m.strays.length
            have hL8 := ar_len s (s.now + 1)
            have hL7 := HL.out
            have hL6 := HX.out.2.2.2.2
            have hL5 := H.out.2.2.2.2.2.2.2
            have en : IntKind.i64.wrap ((L : Int) + (k : Int) + 1) = (L : Int) + (k : Int) + 1 := by rw [IntKind.wrap_i64]; omega
            have hkk : k < (s.ar (s.now + 1)).length := by
              obtain ⟨_, _, _, _, _, h⟩ := HZ.out
              exact h
            clear hL9 hL8 hL7 hL6 hL5 hst9
            go_wp2_with fail
            refine ⟨⟨k + 1, by rw [show ((L + (k + 1) : Nat) : Int) = (L : Int) + (k : Int) + 1 by omega], HZ⟩, ?_⟩
            show L + (s.ar (s.now + 1)).length - ((L : Int) + (k : Int) + 1).toNat < L + (s.ar (s.now + 1)).length - ((L + k : Nat) : Int).toNat
            omega
          · have htd : decide (e.a ≤ s.now + 1) = false := decide_eq_false ht
            have HM := Lib.hid (And.intro hm' (And.intro hl (And.intro he (And.intro hv (And.intro hq ht)))))
            clear hm' hl he hv ht
            go_wp2_with fail
            go_quiet (fail)
            go_wp2_with fail
            go_ret2
            have hdn := t2_done H.out.2.2.1 H.out.2.1 H.out.2.2.2.1 HM.out.1 (.inr ⟨by rw [HM.out.2.1]; omega, by rw [HM.out.2.2.1]; have := HM.out.2.2.2.2.2; omega⟩) HL.out (below_dN (Below.refl wr.heap.size wr) nq)
            exact ⟨by rw [hdn.1, Int.natCast_add]; rfl, hdn.2⟩
end Go.Proofs.Ytknpghemogfenaa
