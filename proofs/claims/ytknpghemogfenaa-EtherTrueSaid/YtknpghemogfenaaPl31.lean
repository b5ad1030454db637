/- Chapter 31: EtherPlain's walk. -/
import Derived.Test.YtknpghemogfenaaGd31
namespace Go.Proofs.Ytknpghemogfenaa
open Go.Conc Go.RowKit
set_option linter.unusedVariables false
/-- The ether and the boxes. -/
def PlW (w0 w : World) (P E : Nat) (s : ES) (bs : Nat → List BX) : Prop := ∃ F A c, Lf w0 w E s F ∧ BW w0 w P A c bs ∧ (∀ k, F k → ¬ BG P A k) ∧ Below w0.heap.size w0 w
section
variable {w0 w w' : World} {P E : Nat} {s s' : ES} {bs : Nat → List BX} {F : Nat → Prop} {A : Nat → Option Addr} {c : Nat → Nat}
theorem PlW.deed (h1 : Lf w0 w E s F) (h2 : BW w0 w P A c bs) (h3 : ∀ k, F k → ¬ BG P A k) (h4 : Below w0.heap.size w0 w) (hd : Deed w0 E F s' w w') : PlW w0 w' P E s' bs := by
  obtain ⟨F', g1, g2, hc⟩ := hd
  refine ⟨F', A, c, g1, h2.chg hc fun k hk => ⟨(h1.2.1 k hk).1, h3 k hk⟩, fun k hk hg => ?_, hc.below h4 (fun k _ hk => (h1.2.1 k hk).1) h1.2.2⟩
  rcases g2 k hk with e | e
  · exact h3 k e hg
  · have := (h2.bg hg).2; omega
theorem PlW.put {T : Nat → Prop} {k : Nat} (h1 : Lf w0 w E s F) (h2 : BW w0 w P A c bs) (h3 : ∀ k, F k → ¬ BG P A k) (h4 : Below w0.heap.size w0 w) (hk : k < 2) (hc : Chg T w w') (hT : ∀ j, T j → j ∈ blk (A k)) {A1 : Option Addr} {c1 : Nat} {l : List BX} (ho : w'.ownsRow w0.heap.size 32 1 (.slice A1 l.length c1) l.length (l.map BX.v))
    (hat : ∀ a, A1 = some a → a.block ∈ blk (A k) ∨ w.heap.size ≤ a.block) (hx : ∀ b ∈ l, BOK w0 w' b) : PlW w0 (w'.setCell ⟨P, k, none⟩ (.slice A1 l.length c1)) P E s (upd bs k l) := by
  obtain ⟨z1, z2, z3⟩ := h2.put hk hc hT ho hat hx
  refine ⟨F, _, _, h1.other z2 h3, z1, fun j hj hg => ?_, z2.below h4 (fun j _ hj => (h2.bg hj).1) h1.2.2⟩
  rcases z3 j hg with e | e
  · exact h3 j hj e
  · have := (h1.2.1 j hj).2; omega
end
theorem QS.box {s : ES} {xs : Nat → List (List UInt8)} {i : Nat} (h : QS s (xs 0) (xs 1) i) {k : Nat} (hk : k < 2) : s.box (k : Int) = xs k := by
  rcases (show k = 0 ∨ k = 1 by omega) with rfl | rfl
  · exact h.b0
  · exact h.b1
theorem QS.got {s : ES} {xs : Nat → List (List UInt8)} {i : Nat} (h : QS s (xs 0) (xs 1) i) {k : Nat} (hk : k < 2) {x : List UInt8} {r : List (List UInt8)} (hx : xs k = x :: r) : QS (s.got (k : Int)) (upd xs k r 0) (upd xs k r 1) i := by
  rcases (show k = 0 ∨ k = 1 by omega) with rfl | rfl
  · rw [upd_self, upd_ne _ _ (by decide)]
    rw [hx] at h
    exact h.got0
  · rw [upd_self, upd_ne _ _ (by decide)]
    rw [hx] at h
    exact h.got1
theorem long31_acts {nf : Nat} {sl : List SY} {al : List AC} (h : long31 nf sl al = false) : al.length ≤ 60 ∧ ∀ a ∈ al, a.n ≤ 100 ∨ 70000 < a.n := by
  unfold long31 at h
  simp only [Bool.or_eq_false_iff, decide_eq_false_iff_not] at h
  obtain ⟨⟨h1, h2⟩, ⟨h3, h4⟩, h5⟩ := h
  refine ⟨by omega, fun a ha => ?_⟩
  rw [List.take_of_length_le (by omega), List.any_eq_false] at h2
  have := h2 a ha
  simp only [big31, Bool.and_eq_true, decide_eq_true_eq, not_and] at this
  omega
theorem PlW.b {w0 w : World} {P E : Nat} {s : ES} {bs : Nat → List BX} (h : PlW w0 w P E s bs) : Below w0.heap.size w0 w := by
  obtain ⟨_, _, _, _, _, _, h⟩ := h; exact h
theorem sel_len (ps : List (Int × List UInt8)) (k : Int) : (selD ps k).length ≤ ps.length := by unfold selD; rw [List.length_map]; exact List.length_filter_le _ _
theorem Bk.celln {w : World} {P : Nat} {t : TypeId} {A : Nat → Option Addr} {c : Nat → Nat} {bs : Nat → List BX} (h : Bk w P t [.slice (A 0) (bs 0).length (c 0), .slice (A 1) (bs 1).length (c 1)]) {k : Nat} (hk : k < 2) : w.cell? ⟨P, k, none⟩ = some (.slice (A k) (bs k).length (c k)) := by
  rcases (show k = 0 ∨ k = 1 by omega) with rfl | rfl
  · exact h.cell 0
  · exact h.cell 1
theorem own_blk {A : Option Addr} {n m j : Nat} (h : (Value.slice A n m).ownBlock = some j) : j ∈ blk A := by
  cases A with
  | none => cases h
  | some a => have h : some a.block = some j := h; injection h with h; exact mem_blk.2 ⟨a, rfl, h⟩
theorem BW.grown {w0 w w4 : World} {P : Nat} {A : Nat → Option Addr} {c : Nat → Nat} {bs : Nat → List BX} (h : BW w0 w P A c bs) {k : Nat} (hk : k < 2) {ob : Obj} {n m : Nat} (hg : (w.alloc ob).drew.grownBy w4 (Value.slice (A k) n m).ownBlock) :
    Chg (fun j => j ∈ blk (A k)) w w4 ∧ w4.cell? ⟨P, k, none⟩ = some (.slice (A k) (bs k).length (c k)) ∧ w4.frozen? ⟨P, k, none⟩ = false := by
  have hc : Chg (fun j => j ∈ blk (A k)) w w4 := by
    have hc0 : Chg (fun j => j ∈ blk (A k)) w (w.alloc ob).drew := ((Chg.refl _ w).alloc ob).drew
    exact hc0.trans (Chg.of_grown (S := fun j => j ∈ blk (A k)) hg fun j hj => own_blk hj) fun _ _ x => x
  have hp := hc.bk h.p fun hs => by
    obtain ⟨a, ha, e⟩ := mem_blk.1 hs
    exact h.rowP hk ha e
  exact ⟨hc, hp.celln hk, hp.frozen k⟩
theorem row_at {w : World} {ob : Obj} {A A4 : Option Addr} {n m n' m' : Nat} (h : (Value.slice A4 n' m').ownBlock = (Value.slice A n m).ownBlock ∨ (Value.slice A4 n' m').ownBlock = some (w.alloc ob).drew.heap.size) : ∀ a, A4 = some a → a.block ∈ blk A ∨ w.heap.size ≤ a.block := fun a ha => by
  subst ha
  rcases h with h | h
  · exact .inl (own_blk h.symm)
  · have h : some a.block = some (w.alloc ob).heap.size := h
    injection h with h
    rw [World.size_alloc] at h
    right; omega
theorem Lf.deed' {w0 w w' : World} {P E : Nat} {s s' : ES} {bs : Nat → List BX} {F : Nat → Prop} {A : Nat → Option Addr} {c : Nat → Nat} (h1 : Lf w0 w E s F) (h2 : BW w0 w P A c bs) (h3 : ∀ k, F k → ¬ BG P A k) (h4 : Below w0.heap.size w0 w) (hd : Deed w0 E F s' w w') : PlW w0 w' P E s' bs := PlW.deed h1 h2 h3 h4 hd
theorem map_upd {bs : Nat → List BX} {ps : List (Int × List UInt8)} {k : Nat} (hk : k < 2) (h : ∀ k, k < 2 → (bs k).map BX.x = selD ps (k : Nat)) (b : BX) : ∀ i, i < 2 → ((upd bs k (bs k ++ [b])) i).map BX.x = selD (ps ++ [((k : Int), b.x)]) (i : Nat) := fun i hi => by
  rw [selD_append]
  by_cases e : i = k
  · subst e
    rw [upd_self, List.map_append, h i hi]
    simp [selD]
  · rw [upd_ne _ _ e, h i hi]
    have : ¬ (k : Int) = (i : Int) := by omega
    simp [selD, this]
theorem upd_upd {α : Type} (f : Nat → α) (k : Nat) (a b : α) : upd (upd f k a) k b = upd f k b := by funext i; unfold upd; split <;> rfl
theorem bx_one (b : BX) : ∀ u ∈ [b.v], u.oneCell' = true := fun u hu => by rw [List.mem_singleton.1 hu]; rfl
set_option maxRecDepth 100000 in
set_option maxHeartbeats 6400000 in
theorem plain_walk {A : Option Addr} {c : Nat} {al : List AC} {w : World} (h : Rd w A (al.length * 4) (al.flatMap AC.cells) ∧ al.length ≤ c ∧ al.length ≤ 2932031007317 ∧ ∀ a ∈ al, I64 a.kind ∧ I64 a.dst ∧ I64 a.many ∧ Rd w a.A a.n (bys a.x) ∧ a.n ≤ a.c ∧ a.n ≤ 140737488351232) :
    Calls Try.prog 3 #[.slice A al.length c] w fun e w' => e = .returned (.bool true) ∧ Below w.heap.size w w' := by
  obtain ⟨n, hn⟩ : ∃ n, al.length = n := ⟨_, rfl⟩
  have HN := Lib.hid hn
  have H := Lib.hid h
  rw [hn]
  clear h hn
  go_enter Try.func3, Try.ntmps3
  go_wp2_with fail
  refine awake_any.mono ?_
  rintro _ w1 ⟨rfl, h1⟩
  have H1 := Lib.hid h1
  clear h1
  go_wp2_with fail
  refine (by have := long_any (nf := 0) (A0 := none) (A1 := none) (c0 := 0) (c1 := 0) (sl := []) (c2 := c) (Rd.nil _ _) (H.out.1.below H1.out); rw [HN.out] at this; exact this : Calls _ _ _ _ _).mono ?_
  rintro _ w2 ⟨rfl, rfl⟩
  cases hlg : long31 0 [] al with
  | true =>
    go_wp2_with fail
    go_ret
    exact ⟨rfl, H1.out⟩
  | false =>
    have HG := Lib.hid hlg
    clear hlg
    go_wp2_with fail
    refine (lf_new (w0 := w) (fl := []) (sl := []) H1.out.size (Rd.nil _ _) (Rd.nil _ _) at0_none at0_none (fun y hy => by cases hy) (by decide) (by decide) rfl).mono ?_
    rintro _ w3 ⟨E, rfl, hb3, F, hL, hF⟩
    have HB3 := Lib.hid (And.intro hb3 (And.intro hL hF))
    clear hb3 hL hF
    go_wp2_with fail
    have hpl : PlW w (w3.alloc (.cells #[.slice none 0 0, .slice none 0 0] 30)) w3.heap.size E (ES.new [] []) (fun _ => []) := by
      obtain ⟨hb3, hL, hF⟩ := HB3.out
      have hal := (Below.refl w3.heap.size w3).alloc (Nat.le_refl _) (.cells #[.slice none 0 0, .slice none 0 0] 30)
      have hb := below_base (below_base H1.out hb3 H1.out.size) hal (Nat.le_trans H1.out.size hb3.size)
      refine ⟨F, _, _, hL.below hal, BW.new (Nat.le_trans H1.out.size hb3.size), fun k hk hg => ?_, hb⟩
      rcases hg with e | e | e
      · have := (hL.2.1 k hk).2; omega
      · cases e
      · cases e
    have HP := Lib.hid hpl
    clear hpl HB3
    generalize w3.alloc (.cells #[.slice none 0 0, .slice none 0 0] 30) = wb at HP ⊢
    generalize w3.heap.size = P at HP ⊢
    obtain ⟨hn60, hsm⟩ := long31_acts HG.out
    have HS := Lib.hid hsm
    rw [HN.out] at hn60
    clear HG H1 hsm
    go_loopw [7] (fun i wx => ∃ j : Nat, j ≤ n ∧ i = .int .i64 j ∧ Hid (∃ s bs ps, PlW w wx P E s bs ∧ PS s ps (2 * j) ∧ (∀ k, k < 2 → (bs k).map BX.x = selD ps (k : Nat)) ∧ ps.length ≤ j)) (fun i wx => n - (intOf i).toNat)
    case atStart => exact ⟨0, Nat.zero_le _, rfl, Lib.hid ⟨_, _, [], HP.out, PS.new, fun k hk => rfl, Nat.le_refl _⟩⟩
    case round =>
      obtain ⟨j, hj, rfl, HJ⟩ := hrel
      obtain ⟨s, bs, ps, j1, j2, j3, j4⟩ := HJ.out
      have HA := Lib.hid (And.intro j1 (And.intro j2 (And.intro j3 j4)))
      clear HJ j1 j2 j3 j4
      by_cases hlt : j < n
      · have kd : decide ((j : Int) < (n : Int)) = true := decide_eq_true (by omega)
        have kdp : (j : Int) < (n : Int) := by omega
        have kd' : decide (j < n) = true := decide_eq_true hlt
        have ej : IntKind.i64.wrap ((j : Int) + 1) = ((j + 1 : Nat) : Int) := by rw [IntKind.wrap_i64]; omega
        have hjl : j < al.length := by rw [HN.out]; exact hlt
        obtain ⟨g, off, rfl, hc0⟩ := rd_cell (f := AC.cells) (k := 4) (fun _ => rfl) H.out.1 hjl (by decide)
        obtain ⟨a, haj⟩ : ∃ a, al[j] = a := ⟨_, rfl⟩
        rw [haj] at hc0
        have ham : a ∈ al := haj ▸ List.getElem_mem hjl
        have c1 := hc0 1 _ rfl
        have c3 := hc0 3 _ rfl
        obtain ⟨ad, hd⟩ : ∃ d, a.dst = d := ⟨_, rfl⟩
        obtain ⟨aA, an, ac, hA1, hA2, hA3⟩ : ∃ A n c, a.A = A ∧ a.n = n ∧ a.c = c := ⟨_, _, _, rfl, rfl, rfl⟩
        rw [hd] at c1
        rw [hA1, hA2, hA3] at c3
        have hok := H.out.2.2.2 a ham
        have hsz := HS.out a ham
        rw [hd, hA1, hA2, hA3] at hok
        rw [hA2] at hsz
        have hwf : (Lit.int .i64 ad).wf = true := wf_i64 hok.2.1
        have HC := Lib.hid (And.intro (fun (wx : World) (hx : Below w.heap.size w wx) => (⟨cell_below hx c1, cell_below hx c3, hok.2.2.2.1.below hx⟩ : wx.cell? ⟨g, off + j * 4 + 1, none⟩ = some (.int .i64 ad) ∧ wx.cell? ⟨g, off + j * 4 + 3, none⟩ = some (.slice aA an ac) ∧ Rd wx aA an (bys a.x))) (And.intro hsz (And.intro hwf (And.intro hlt (rd_block hok.2.2.2.1)))))
        obtain ⟨k, hk, hk2⟩ : ∃ k : Nat, ad % 2 = (k : Int) ∧ k < 2 := ⟨(ad % 2).toNat, by omega, by omega⟩
        have HK := Lib.hid hk2
        have hk3 : (k : Int) < 2 := by omega
        clear hc0 c1 c3 hok hsz hA1 hA2 hA3 hd ham haj hwf hjl
        obtain ⟨c1, c3, _⟩ := HC.out.1 wr HA.out.1.b
        go_wp2_with fail
        refine (pick_any ad 2 HC.out.2.2.1 (by decide) (by decide)).mono ?_
        rw [hk]
        rintro _ w4 ⟨rfl, rfl⟩
        clear hk
        go_upto_if 43 with fail
        go_cut [7, 8] (fun s7 s8 wx => s7 = .int .i64 (j : Int) ∧ s8 = .int .i64 (k : Int) ∧ ∃ s bs ps, PlW w wx P E s bs ∧ PS s ps (2 * j + 1) ∧ (∀ k, k < 2 → (bs k).map BX.x = selD ps (k : Nat)) ∧ ps.length ≤ j + 1)
        case first =>
          by_cases hsm : an ≤ 100
          · have s1 : decide ((an : Int) ≤ 100) = true := decide_eq_true (by omega)
            have s2 : decide (an ≤ 100) = true := decide_eq_true hsm
            have HM := Lib.hid hsm
            rw [s1]
            clear hsm
            go_upto_region 13 with fail
            go_cut [7, 8] (fun s7 s8 wx => s7 = .int .i64 (j : Int) ∧ s8 = .int .i64 (k : Int) ∧ PlW w wx P E s (upd bs k (bs k ++ [⟨aA, an, ac, a.x⟩])))
            case first =>
              obtain ⟨F1, A1, C1, hL, hB, hD, hW⟩ := HA.out.1
              have c5 := hB.cell hk2
              have c6 := (hB.p.alloc (.cells #[.slice aA an ac] 32)).celln hk2
              have hro := hB.r k hk2
              have hrl : (bs k).length ≤ 1000 := by have := HA.out.2.2.2; have := sel_len ps (k : Nat); have := HA.out.2.2.1 k hk2; have e : ((bs k).map BX.x).length = (bs k).length := List.length_map _; rw [this] at e; omega
              have hb0 := hL.2.2
              have hbk := hB.p
              obtain ⟨rA, hrA⟩ : ∃ r, A1 k = r := ⟨_, rfl⟩
              obtain ⟨rc, hrc⟩ : ∃ r, C1 k = r := ⟨_, rfl⟩
              obtain ⟨rn, hrn⟩ : ∃ r, (bs k).length = r := ⟨_, rfl⟩
              rw [hrA, hrc, hrn] at c5 c6 hro
              rw [hrn] at hrl
              obtain ⟨i0, hi0, hz0, hz1, hz2⟩ := info_parts ss_info
              have HB := Lib.hid (And.intro hL (And.intro hB (And.intro hD (And.intro hW (And.intro hro (And.intro hrA (And.intro hrc hrn)))))))
              clear hL hB hD hW hro hrA hrc hrn
              go_region_law ((refine step_append_rd (by rfl) (.tmp 47) (.tmp 53) _ (by rfl) w.heap.size 32 i0 _ 1 24 Try.underlying29 hi0 hz0 hz1 hz2 rfl (by omega) _ rn _ (by rfl) (own_below HB.out.2.2.2.2.1 (((Below.refl _ _).alloc (Nat.le_refl _) _).drew)) (some ⟨wr.heap.size, 0, none⟩) 1 1 [.slice aA an ac] (by rfl) ((Rd.lit _ _ _ _ rfl 1 rfl _ rfl).drew) (bx_one ⟨aA, an, ac, a.x⟩) (by simp only [maxLen]; omega) (by omega) (by show w.heap.size ≤ (wr.alloc _).heap.size; rw [World.size_alloc]; omega) ?_; intro v1 w4 hown1 hg1 hat1; obtain ⟨hch4, c4', f4'⟩ := HB.out.2.1.grown HK.out (by rw [HB.out.2.2.2.2.2.1]; exact hg1); rw [HB.out.2.2.2.2.2.1, HB.out.2.2.2.2.2.2.1, HB.out.2.2.2.2.2.2.2] at c4'; obtain ⟨A4, d4, rfl⟩ := own_sl hown1; have H4 := Lib.hid (And.intro hown1 (And.intro hch4 (row_at hat1))); clear hown1 hg1 hat1 hch4))
              all_goals go_wp2_with fail
              all_goals go_meet
              all_goals (
                have hle : (bs k ++ [(⟨aA, an, ac, a.x⟩ : BX)]).length = rn + 1 := by rw [List.length_append, HB.out.2.2.2.2.2.2.2]; rfl
                have hP := PlW.put (w' := w4) (k := k) (A1 := A4) (c1 := d4) (l := bs k ++ [(⟨aA, an, ac, a.x⟩ : BX)]) HB.out.1 HB.out.2.1 HB.out.2.2.1 HB.out.2.2.2.1 HK.out H4.out.2.1 (fun _ e => e) (by rw [hle, List.map_append]; exact H4.out.1) (fun x hx => by rw [HB.out.2.2.2.2.2.1]; exact H4.out.2.2 x hx) (fun b hb => by
                  rcases List.mem_append.1 hb with hb | hb
                  · exact (HB.out.2.1.x k HK.out b hb).chg H4.out.2.1 fun i hi => by
                      obtain ⟨x, hx, e⟩ := mem_blk.1 hi
                      rw [← e]; exact (HB.out.2.1.rowTy HK.out hx).2
                  · rw [List.mem_singleton.1 hb]
                    refine ⟨?_, HM.out, HC.out.2.2.2.2⟩
                    exact H4.out.2.1.rd0 (HC.out.1 wr HB.out.2.2.2.1).2.2 fun a ha h0 hi => by
                      obtain ⟨x, hx, e⟩ := mem_blk.1 hi
                      have := (HB.out.2.1.rowTy HK.out hx).2
                      have := HC.out.2.2.2.2 h0 a ha
                      omega)
                rw [hle] at hP
                exact ⟨rfl, rfl, hP⟩)
            case rest =>
              obtain ⟨rfl, rfl, hP⟩ := hcut
              have HP2 := Lib.hid hP
              clear hP c1 c3
              obtain ⟨c1, c3, _⟩ := HC.out.1 wc HP2.out.b
              go_wp2_with fail
              obtain ⟨F1, A1, C1, hL, hB, hD, hW⟩ := HP2.out
              have HL := Lib.hid (And.intro hL (And.intro hB (And.intro hD hW)))
              have hps := HA.out.2.1
              have hpl := HA.out.2.2.2
              have hsn := hps.skyn
              have hnw := hps.now
              have hnm := hps.num
              have hlo := hps.lost
              refine (lf_send hL (HC.out.1 wc hW).2.2 HC.out.2.2.2.2 (by have := HM.out; omega) (by omega) (by omega) (by omega) (by omega) (by omega)).mono ?_
              rintro _ w5 ⟨rfl, hd5⟩
              have HD := Lib.hid (And.intro (HL.out.1.deed' HL.out.2.1 HL.out.2.2.1 HL.out.2.2.2 hd5) (And.intro (hps.send (d := (k : Int)) (by omega) a.x) (And.intro (map_upd HK.out HA.out.2.2.1 ⟨aA, an, ac, a.x⟩) (show (ps ++ [((k : Int), a.x)]).length ≤ j + 1 by simp; omega))))
              clear hd5 hL hB hD hW HL hps hpl hsn hnw hnm hlo
              go_wp2_with fail
              go_meet
              exact ⟨rfl, rfl, _, _, _, HD.out⟩
          · have s1 : decide ((an : Int) ≤ 100) = false := decide_eq_false (by omega)
            have s2 : decide (an ≤ 100) = false := decide_eq_false hsm
            rw [s1]
            clear hsm
            go_wp2_with fail
            go_meet
            exact ⟨rfl, rfl, s, bs, ps, HA.out.1, HA.out.2.1.next, HA.out.2.2.1, by have := HA.out.2.2.2; omega⟩
        case rest =>
          obtain ⟨rfl, rfl, s', bs', ps', h1, h2, h3, h4⟩ := hcut
          have HA' := Lib.hid (And.intro h1 (And.intro h2 (And.intro h3 h4)))
          clear h1 h2 h3 h4 HA
          go_upto_region 16 with fail
          go_cut [7, 74] (fun s7 s74 wx => s7 = .int .i64 (j : Int) ∧ (∃ b, s74 = .bool b) ∧ wx = wc)
          case first =>
            go_wp2_with fail
            all_goals go_meet
            all_goals exact ⟨rfl, ⟨_, rfl⟩, rfl⟩
          case rest =>
            obtain ⟨rfl, ⟨b, rfl⟩, rfl⟩ := hcut
            cases b with
            | true =>
              go_wp2_with fail
              refine ⟨⟨j + 1, hlt, rfl, Lib.hid ⟨s', bs', ps', HA'.out.1, HA'.out.2.1.next, HA'.out.2.2.1, HA'.out.2.2.2⟩⟩, by show n - ((j : Int) + 1).toNat < n - ((j : Int)).toNat; omega⟩
            | false =>
              obtain ⟨F1, A1, C1, hL, hB, hD, hW⟩ := HA'.out.1
              have b0 := hB.cell (k := 0) (by decide)
              have b1 := hB.cell (k := 1) (by decide)
              obtain ⟨n0, hn0⟩ : ∃ m, (bs' 0).length = m := ⟨_, rfl⟩
              obtain ⟨n1, hn1⟩ : ∃ m, (bs' 1).length = m := ⟨_, rfl⟩
              obtain ⟨A0, hA0⟩ : ∃ m, A1 0 = m := ⟨_, rfl⟩
              obtain ⟨A2, hA2⟩ : ∃ m, A1 1 = m := ⟨_, rfl⟩
              obtain ⟨C0, hC0⟩ : ∃ m, C1 0 = m := ⟨_, rfl⟩
              obtain ⟨C2, hC2⟩ : ∃ m, C1 1 = m := ⟨_, rfl⟩
              rw [hn0, hA0, hC0] at b0
              rw [hn1, hA2, hC2] at b1
              have hps := HA'.out.2.1
              have hpl := HA'.out.2.2.2
              have hsn := hps.skyn
              have hnw := hps.now
              have hnm := hps.num
              have hlo := hps.lost
              have hq := hps.tick (by omega)
              have htn : (s'.tickN : Int) = (n0 : Int) + (n1 : Int) := by
                have e0 := congrArg List.length (HA'.out.2.2.1 0 (by decide))
                have e1 := congrArg List.length (HA'.out.2.2.1 1 (by decide))
                have e2 := selD_len ps' hps.d
                rw [List.length_map, hn0] at e0
                rw [List.length_map, hn1] at e1
                rw [hps.tickN, ← e2]
                simp only [Int.natCast_zero, Int.natCast_one] at e0 e1
                omega
              have hwr : IntKind.i64.wrap ((n0 : Int) + (n1 : Int)) = (n0 : Int) + (n1 : Int) := by rw [IntKind.wrap_i64]; have := hps.tickN; omega
              have HL := Lib.hid (And.intro hL (And.intro hB (And.intro hD (And.intro hW (And.intro hq htn)))))
              have HQ := Lib.hid (show s'.now ≤ 1000000 ∧ s'.lost ≤ 900000000 ∧ s'.sky.length ≤ 900000 by omega)
              clear hL hB hD hW hq htn hn0 hn1 hA0 hA2 hC0 hC2 hps hpl hsn hnw hnm hlo
              go_wp2_with fail
              refine (lf_comes HL.out.1 (by rw [HL.out.2.2.2.2.2]; simp) HQ.out.1 HQ.out.2.1 HQ.out.2.2).mono ?_
              rintro _ w5 ⟨rfl, hd5⟩
              have hp5 := HL.out.1.deed' HL.out.2.1 HL.out.2.2.1 HL.out.2.2.2.1 hd5
              have HP5 := Lib.hid hp5
              have HQ5 := Lib.hid HL.out.2.2.2.2.1
              clear hd5 hp5 HL HQ b0 b1 hwr
              go_wp2_with fail
              obtain ⟨F2, A3, C3, hL, _⟩ := HP5.out
              have HL5 := Lib.hid hL
              clear hL
              refine (lf_flying HL5.out).mono ?_
              rw [HQ5.out.sky]
              rintro _ w6 ⟨rfl, rfl⟩
              clear HL5
              have HX := Lib.hid (show ∃ (s : ES) (bs : Nat → List BX) (xs : Nat → List (List UInt8)), PlW w w6 P E s bs ∧ QS s (xs 0) (xs 1) (2 * j + 1 + 1) ∧ (∀ k, k < 2 → (bs k).map BX.x = xs k ∧ (bs k).length ≤ 61) ∧ ∀ i, i < 0 → i < 2 → xs i = ([] : List (List UInt8)) from ⟨_, bs', fun k => selD ps' (k : Nat), HP5.out, HQ5.out, fun k hk => ⟨HA'.out.2.2.1 k hk, by have e := congrArg List.length (HA'.out.2.2.1 k hk); rw [List.length_map] at e; have := sel_len ps' (k : Nat); have := HA'.out.2.2.2; omega⟩, fun i hi _ => absurd hi (Nat.not_lt_zero _)⟩)
              have HJN := Lib.hid (And.intro hlt hn60)
              clear HP5 HQ5 HA' c1 c3 hlt hj kd kd' kdp
              go_wp2_with fail
              go_loopw [9] (fun i wx => ∃ k : Nat, k ≤ 2 ∧ i = .int .i64 k ∧ Hid (∃ (s : ES) (bs : Nat → List BX) (xs : Nat → List (List UInt8)), PlW w wx P E s bs ∧ QS s (xs 0) (xs 1) (2 * j + 1 + 1) ∧ (∀ k, k < 2 → (bs k).map BX.x = xs k ∧ (bs k).length ≤ 61) ∧ ∀ i, i < k → i < 2 → xs i = ([] : List (List UInt8)))) (fun i wx => 2 - (intOf i).toNat)
              case atStart => exact ⟨0, Nat.zero_le _, rfl, HX⟩
              case round =>
                obtain ⟨k, hk, rfl, HK2⟩ := hrel
                by_cases hk2 : k < 2
                · obtain ⟨s2, bs2, xs, hp2, hq2, hm2, hz2⟩ := HK2.out
                  have HR := Lib.hid (And.intro hp2 (And.intro hq2 (And.intro hm2 (And.intro hz2 hk2))))
                  have hk3 : (k : Int) < 2 := by omega
                  have hkd : decide ((k : Int) < 2) = true := decide_eq_true hk3
                  have hkd' : decide (k < 2) = true := decide_eq_true hk2
                  have ek : IntKind.i64.wrap ((k : Int) + 1) = ((k + 1 : Nat) : Int) := by rw [IntKind.wrap_i64]; omega
                  obtain ⟨rn, hrn⟩ : ∃ m, (bs2 k).length = m := ⟨_, rfl⟩
                  have HRN := Lib.hid hrn
                  have hdr : ∀ (xs : Nat → List (List UInt8)) k, upd xs k ((xs k).drop 0) = xs := fun xs k => by funext i; unfold upd; split <;> simp_all
                  have HX2 := Lib.hid (show ∃ s, PlW w wr P E s bs2 ∧ QS s (upd xs k ((xs k).drop 0) 0) (upd xs k ((xs k).drop 0) 1) (2 * j + 1 + 1) from ⟨s2, hp2, by rw [hdr]; exact hq2⟩)
                  clear hp2 hq2 hm2 hz2 hrn HK2 hdr
                  go_wp2_with fail
                  go_loopw [10] (fun i wx => ∃ m : Nat, m ≤ rn ∧ i = .int .i64 m ∧ Hid (∃ s, PlW w wx P E s bs2 ∧ QS s (upd xs k ((xs k).drop m) 0) (upd xs k ((xs k).drop m) 1) (2 * j + 1 + 1))) (fun i wx => rn - (intOf i).toNat)
                  case atStart => exact ⟨0, Nat.zero_le _, rfl, HX2⟩
                  case round =>
                    obtain ⟨m, hm, rfl, HM⟩ := hrel
                    obtain ⟨s3, ⟨F3, A3, C3, hL, hB, hD, hW⟩, hq3⟩ := HM.out
                    have c5 := hB.cell hk2
                    have hrow := Rd.of_own (hB.r k hk2)
                    have hbok := hB.x k hk2
                    obtain ⟨rA, hrA⟩ : ∃ r, A3 k = r := ⟨_, rfl⟩
                    obtain ⟨rc, hrc⟩ : ∃ r, C3 k = r := ⟨_, rfl⟩
                    rw [hrA, hrc, HRN.out] at c5
                    rw [hrA, HRN.out] at hrow
                    have hxl : (xs k).length = rn := by rw [← (HR.out.2.2.1 k hk2).1, List.length_map, HRN.out]
                    by_cases hmlt : m < rn
                    · have md : decide ((m : Int) < (rn : Int)) = true := decide_eq_true (by omega)
                      have mdp : (m : Int) < (rn : Int) := by omega
                      have md' : decide (m < rn) = true := decide_eq_true hmlt
                      have em : IntKind.i64.wrap ((m : Int) + 1) = ((m + 1 : Nat) : Int) := by rw [IntKind.wrap_i64]; have := (HR.out.2.2.1 k hk2).2; rw [HRN.out] at this; omega
                      obtain ⟨rb, ro, hra, _, hcell⟩ := hrow.form (by omega)
                      have hmb : m < (bs2 k).length := by rw [HRN.out]; exact hmlt
                      have hcm := hcell m _ (by rw [List.getElem?_map, List.getElem?_eq_getElem hmb]; rfl)
                      have hbm := hbok _ (List.getElem_mem hmb)
                      have hxm : (xs k)[m]'(by rw [hxl]; exact hmlt) = ((bs2 k)[m]).x := by
                        have := (HR.out.2.2.1 k hk2).1
                        simp [← this]
                      obtain ⟨⟨mA, mn, mc, mx⟩, hmx⟩ : ∃ b, (bs2 k)[m] = b := ⟨_, rfl⟩
                      rw [hmx] at hcm hbm hxm
                      have hbx : s3.box (k : Int) = mx :: (xs k).drop (m + 1) := by
                        rw [hq3.box hk2, upd_self, List.drop_eq_getElem_cons (by rw [hxl]; exact hmlt), hxm]
                      have hq4 := hq3.got hk2 (x := mx) (r := (xs k).drop (m + 1)) (by rw [upd_self, List.drop_eq_getElem_cons (by rw [hxl]; exact hmlt), hxm])
                      have hcm : wr.cell? ⟨rb, ro + m, none⟩ = some (.slice mA mn mc) := hcm
                      rw [upd_upd] at hq4
                      subst hra
                      have HE := Lib.hid (And.intro hL (And.intro hB (And.intro hD (And.intro hW (And.intro hbm (And.intro hbx hq4))))))
                      have HM2 := Lib.hid hmlt
                      clear hL hB hD hW hbm hbx hq4 hq3 hrA hrc hrow hcell hmb hxm hmx hbok hxl HM hm hmlt
                      go_wp2_with fail
                      refine (lf_gets HE.out.1 (by omega) HE.out.2.2.2.2.2.1 HE.out.2.2.2.2.1.1 HE.out.2.2.2.2.1.2.2 rfl).mono ?_
                      rintro _ w7 ⟨rfl, hd7⟩
                      have H7 := Lib.hid (And.intro (HE.out.1.deed' HE.out.2.1 HE.out.2.2.1 HE.out.2.2.2.1 hd7) HE.out.2.2.2.2.2.2)
                      clear hd7 HE hcm c5
                      go_wp2_with fail
                      refine ⟨⟨m + 1, HM2.out, rfl, Lib.hid ⟨_, H7.out⟩⟩, by have := HM2.out; show rn - ((m : Int) + 1).toNat < rn - ((m : Int)).toNat; omega⟩
                    · obtain rfl : m = rn := by omega
                      have md : decide ((m : Int) < (m : Int)) = false := decide_eq_false (by omega)
                      have md' : decide (m < m) = false := decide_eq_false (by omega)
                      have hbx : s3.box (k : Int) = [] := by rw [hq3.box hk2, upd_self, List.drop_of_length_le (by rw [hxl]; exact Nat.le_refl _)]
                      rw [List.drop_of_length_le (by rw [hxl]; exact Nat.le_refl _)] at hq3
                      have f5 := hB.p.frozen k
                      have hPut := PlW.put (T := fun _ => False) (w' := wr) (k := k) (A1 := none) (c1 := 0) (l := []) hL hB hD hW hk2 (Chg.refl _ _) (fun _ e => e.elim) ⟨rfl, .inl ⟨rfl, rfl⟩⟩ (fun a e => by cases e) (fun b e => by cases e)
                      have HE := Lib.hid (And.intro hL (And.intro hbx (And.intro hq3 hPut)))
                      clear hL hB hD hW hbx hq3 hPut hbok hrow hrA hrc hxl HM hm hmlt
                      go_wp2_with fail
                      refine (lf_gets_none HE.out.1 (by omega) HE.out.2.1 rfl).mono ?_
                      rintro _ w8 ⟨rfl, rfl⟩
                      go_wp2_with fail
                      refine ⟨⟨k + 1, hk2, rfl, Lib.hid ⟨_, _, upd xs k [], HE.out.2.2.2, HE.out.2.2.1, fun i hi => ?_, fun i hi hi2 => ?_⟩⟩, by show 2 - ((k : Int) + 1).toNat < 2 - ((k : Int)).toNat; omega⟩
                      · by_cases e : i = k
                        · subst e; rw [upd_self, upd_self]; exact ⟨rfl, Nat.zero_le _⟩
                        · rw [upd_ne _ _ e, upd_ne _ _ e]; exact HR.out.2.2.1 i hi
                      · by_cases e : i = k
                        · subst e; rw [upd_self]
                        · rw [upd_ne _ _ e]; exact HR.out.2.2.2.1 i (by omega) hi2
                · obtain rfl : k = 2 := by omega
                  obtain ⟨s2, bs2, xs, hp2, hq2, hm2, hz2⟩ := HK2.out
                  have z0 := hz2 0 (by decide) (by decide)
                  have z1 := hz2 1 (by decide) (by decide)
                  rw [z0, z1] at hq2
                  have HR := Lib.hid (And.intro hp2 (And.intro hq2.done (fun k hk => by
                    rw [(hm2 k hk).1]
                    rcases (show k = 0 ∨ k = 1 by omega) with rfl | rfl
                    · exact z0
                    · exact z1 : ∀ k, k < 2 → (bs2 k).map BX.x = selD [] (k : Nat))))
                  clear hp2 hq2 hm2 hz2 z0 z1 HK2
                  go_wp2_with fail
                  refine ⟨⟨j + 1, HJN.out.1, rfl, Lib.hid ⟨s2, bs2, [], HR.out.1, HR.out.2.1, HR.out.2.2, Nat.zero_le _⟩⟩, by have := HJN.out.1; show n - ((j : Int) + 1).toNat < n - ((j : Int)).toNat; omega⟩
      · obtain rfl : j = n := by omega
        have kd : decide ((j : Int) < (j : Int)) = false := decide_eq_false (by omega)
        have kd' : decide (j < j) = false := decide_eq_false (by omega)
        obtain ⟨⟨F1, A1, c1, z1, z2, z3, z4⟩, j2, _⟩ := HA.out
        have HZ := Lib.hid (And.intro z1 (And.intro z4 j2.lost))
        clear hlt hj HA z1 z2 z3 z4 j2
        go_wp2_with fail
        refine (lf_lost HZ.out.1).mono ?_
        rw [HZ.out.2.2]
        rintro _ _ ⟨rfl, rfl⟩
        go_wp2_with fail
        go_ret
        exact ⟨rfl, HZ.out.2.1⟩
end Go.Proofs.Ytknpghemogfenaa
