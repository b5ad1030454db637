/- Two writers, octet's and the document's, side by side; lays. -/
import Derived.Test.YtdepmogibhmdaaaRx10
namespace Go.Proofs.Ytdepmogibhmdaaa
open Go.RowKit
set_option linter.unusedVariables false
structure WX (w0 w : World) (P : Nat) (A : Option Addr) (c : Nat) (s : WS) (F : Nat) (C : Option Addr) (m : Nat) (t : WS) : Prop where
  o : Wo w w0.heap.size P A c s
  f : Wf w w0.heap.size F C m t
  p0 : w0.heap.size ≤ P
  f0 : w0.heap.size ≤ F
  dis : ∀ k, Wset P A k → ¬ Wset F C k
  b : Below w0.heap.size w0 w
section
variable {w0 w w' : World} {P F c m : Nat} {A C : Option Addr} {s s1 t t1 : WS}
theorem WX.below (h : WX w0 w P A c s F C m t) (hb : Below w.heap.size w w') : WX w0 w' P A c s F C m t := ⟨h.o.below hb, h.f.below hb, h.p0, h.f0, h.dis, below_base h.b hb h.b.size⟩
theorem WX.ltO (h : WX w0 w P A c s F C m t) : ∀ k, Wset P A k → k < w.heap.size ∧ w0.heap.size ≤ k := by
  rintro k (e | ⟨a, ha, e⟩)
  · have := h.o.1.lt; have := h.p0; omega
  · have := own_ge h.o.2.1 a ha; omega
theorem WX.ltF (h : WX w0 w P A c s F C m t) : ∀ k, Wset F C k → k < w.heap.size ∧ w0.heap.size ≤ k := by
  rintro k (e | ⟨a, ha, e⟩)
  · have := h.f.1.lt; have := h.f0; omega
  · have := own_ge h.f.2.1 a ha; omega
theorem WX.left (h : WX w0 w P A c s F C m t) {x : Int} {e : Ending} (hl : LyPost w w0.heap.size P A x s1 e w') :
    e = .returned (.int .i64 x) ∧ ∃ A' c', WX w0 w' P A' c' s1 F C m t ∧ (∀ k, k < w.heap.size → ¬ Wset P A k → ¬ Wset P A' k) ∧ Chg (Wset P A) w w' := by
  obtain ⟨he, A', c', l1, l2, l3⟩ := hl
  have hfar : ∀ k, k < w.heap.size → ¬ Wset P A k → ¬ Wset P A' k := by
    rintro k hk hn (e | ⟨a, ha, e⟩)
    · exact hn (.inl e)
    · rcases l2 a ha with ⟨b, hb, e'⟩ | e'
      · exact hn (.inr ⟨b, hb, e'.symm.trans e⟩)
      · omega
  have hd : ∀ k, Wset F C k → ¬ Wset P A k := fun k h1 h2 => h.dis k h2 h1
  exact ⟨he, A', c', ⟨l1, h.f.chg l3 (hd F (.inl rfl)) (fun b hb => hd _ (.inr ⟨b, hb, rfl⟩)), h.p0, h.f0, fun k hk hk' => hfar k (h.ltF k hk').1 (hd k hk') hk, l3.below h.b (fun k _ hk => (h.ltO k hk).2) h.b.size⟩, hfar, l3⟩
theorem WX.right (h : WX w0 w P A c s F C m t) {x : Int} {e : Ending} (hl : LfPost w w0.heap.size F C x t1 e w') :
    e = .returned (.int .i64 x) ∧ ∃ C' m', WX w0 w' P A c s F C' m' t1 ∧ (∀ k, k < w.heap.size → ¬ Wset F C k → ¬ Wset F C' k) ∧ Chg (Wset F C) w w' := by
  obtain ⟨he, C', m', l1, l2, l3⟩ := hl
  have hfar : ∀ k, k < w.heap.size → ¬ Wset F C k → ¬ Wset F C' k := by
    rintro k hk hn (e | ⟨a, ha, e⟩)
    · exact hn (.inl e)
    · rcases l2 a ha with ⟨b, hb, e'⟩ | e'
      · exact hn (.inr ⟨b, hb, e'.symm.trans e⟩)
      · omega
  exact ⟨he, C', m', ⟨h.o.chg l3 (h.dis P (.inl rfl)) (fun b hb => h.dis _ (.inr ⟨b, hb, rfl⟩)), l1, h.p0, h.f0, fun k hk => hfar k (h.ltO k hk).1 (h.dis k hk), l3.below h.b (fun k _ hk => (h.ltF k hk).2) h.b.size⟩, hfar, l3⟩
theorem WX.other (h : WX w0 w P A c s F C m t) {S : Nat → Prop} (hc : Chg S w w') (h1 : ∀ k, Wset P A k → ¬ S k) (h2 : ∀ k, Wset F C k → ¬ S k) (h3 : ∀ k, k < w.heap.size → S k → w0.heap.size ≤ k) : WX w0 w' P A c s F C m t :=
  ⟨h.o.chg hc (h1 P (.inl rfl)) (fun b hb => h1 _ (.inr ⟨b, hb, rfl⟩)), h.f.chg hc (h2 F (.inl rfl)) (fun b hb => h2 _ (.inr ⟨b, hb, rfl⟩)), h.p0, h.f0, h.dis, hc.below h.b h3 h.b.size⟩
end
def LaysPost (w0 : World) (P F : Nat) (e : Ending) (w' : World) : Prop :=
  e = .returned (.bool true) ∧ ∃ A' c' C' m' s', WX w0 w' P A' c' s' F C' m' s'
set_option maxRecDepth 100000 in
set_option maxHeartbeats 1600000 in
/-- lays -/
theorem lays_any {w0 w : World} {P F c m : Nat} {A C : Option Addr} {s : WS} (h : WX w0 w P A c s F C m s) (raws : Bool) (wd nn : Int) {B : Option Addr} {mm cc : Nat} {l : List UInt8} (hr : Rd w0 B mm (bys l)) (hm : mm ≤ 140737488351232) (hn : -9223372036854775808 ≤ nn ∧ nn ≤ 9223372036854775807) :
    Calls Try.prog 12 #[.pointer (some ⟨P, 0, none⟩), .pointer (some ⟨F, 0, none⟩), .agg #[.bool raws, .int .i64 wd, .int .i64 nn, .slice B mm cc]] w (LaysPost w0 P F) := by
  have ha := (Below.refl w.heap.size w).alloc (Nat.le_refl _) (.cells #[.bool raws, .int .i64 wd, .int .i64 nn, .slice B mm cc] 34)
  have hk := Bk.newA w 34 #[.bool raws, .int .i64 wd, .int .i64 nn, .slice B mm cc]
  have hx := h.below ha
  have H1 := Lib.hid (And.intro hx (And.intro hk (And.intro hr h)))
  have c0 := hk.cell 0
  have c1 := hk.cell 1
  have c2 := hk.cell 2
  have c3 := hk.cell 3
  clear h hr hx ha hk
  cases raws with
  | true =>
    go_enter Try.func12, Try.ntmps12
    go_wp2_with fail
    refine (copy_any (H1.out.2.2.1.below H1.out.1.b) hm).mono ?_
    rintro e w2 ⟨v, rfl, hown, hb2⟩
    obtain ⟨I, ci, rfl, _⟩ := own_form hown
    have hsz : (w.alloc (.cells #[.bool true, .int .i64 wd, .int .i64 nn, .slice B mm cc] 34)).heap.size = w.heap.size + 1 := World.size_alloc _ _
    have H2 := Lib.hid (And.intro (H1.out.1.below hb2) (And.intro (H1.out.2.1.belowS hb2) (And.intro hown (And.intro hb2 hsz))))
    obtain ⟨g, hg⟩ : ∃ g, g = w.heap.size := ⟨_, rfl⟩
    have hfar : ∀ k, w.heap.size ≤ k → ¬ Wset P A k ∧ ¬ Wset F C k := fun k hk => ⟨fun e => by have := (H1.out.2.2.2.ltO k e).1; omega, fun e => by have := (H1.out.2.2.2.ltF k e).1; omega⟩
    have hI : ∀ k, Aset I k → w.heap.size + 1 ≤ k ∧ k < w2.heap.size := by
      rintro k ⟨a, ha, e⟩
      have := own_ge H2.out.2.2.1 a ha
      rw [hsz] at this
      omega
    have HF := Lib.hid (And.intro hfar (And.intro hI hg))
    have c3 : w2.cell? ⟨g, 3, none⟩ = some (.slice B mm cc) := by rw [hg]; exact (H1.out.2.1.belowS hb2).cell 3
    rw [← hg]
    clear hown hb2 hsz hfar hI c0 c1 c2 hg
    go_upto_region 3 with fail
    obtain ⟨s', hs'⟩ : ∃ s', s.raw l = s' := ⟨_, rfl⟩
    obtain ⟨x, hx⟩ : ∃ x, s'.e = x := ⟨_, rfl⟩
    have HS := Lib.hid (And.intro hs' hx)
    have nx : (x == x) = true := by simp
    clear hs' hx
    go_cut [8] (fun s8 wx => s8 = .bool true ∧ ∃ A' c' C' m', WX w0 wx P A' c' s' F C' m' s' ∧ w2.heap.size ≤ wx.heap.size ∧ wx.ownsRow (w.heap.size + 1) 5 1 (.slice I mm ci) mm (bys l) ∧ (∀ k, Aset I k → ¬ Wset P A' k ∧ ¬ Wset F C' k))
    case first =>
      go_region_held3 (fun w' => w'.cell? ⟨g, 3, none⟩ = some (.slice B mm cc))
        (first | exact K8 | exact K7 | exact K6 | exact K5 | exact c3)
        ((first
          | (go_at_call 30; refine (rawW_any (H2.out.1.below (Below.refl _ _).drew).o (Rd.of_own H2.out.2.2.1).drew hm).mono ?_; intro e w5 h5; rw [HS.out.1, HS.out.2] at h5; obtain ⟨rfl, A5, c5, h5, f5, hc5⟩ := (H2.out.1.below (Below.refl _ _).drew).left h5; have b5 := hc5.bk (H2.out.2.1.drew) (by exact (HF.out.1 _ (Nat.le_refl _)).1); have K5 : w5.cell? ⟨g, 3, none⟩ = some (.slice B mm cc) := (by rw [HF.out.2.2]; exact b5.cell 3); have H5 := Lib.hid (And.intro h5 (And.intro f5 (And.intro (hc5.own H2.out.2.2.1 (fun a ha => (HF.out.1 _ (by have := (HF.out.2.1 _ ⟨a, ha, rfl⟩).1; omega)).1)) (And.intro b5 hc5.size)))); clear h5 f5 hc5 b5)
          | (go_at_call 34; refine (rawWf_any H5.out.1.f (H1.out.2.2.1.below H5.out.1.b) hm).mono ?_; intro e w6 h6; rw [HS.out.1, HS.out.2] at h6; obtain ⟨rfl, C6, m6, h6, f6, hc6⟩ := H5.out.1.right h6; have K6 : w6.cell? ⟨g, 3, none⟩ = some (.slice B mm cc) := (by rw [HF.out.2.2]; exact (hc6.bk H5.out.2.2.2.1 (HF.out.1 _ (Nat.le_refl _)).2).cell 3); have H6 := Lib.hid (And.intro h6 (And.intro f6 (And.intro (hc6.own H5.out.2.2.1 (fun a ha => (HF.out.1 _ (by have := (HF.out.2.1 _ ⟨a, ha, rfl⟩).1; omega)).2)) hc6.size))); clear h6 f6 hc6)
          | (go_at_call 15; refine (same_true (Rd.of_own H6.out.2.2.1) (H1.out.2.2.1.below H6.out.1.b)).mono ?_; rintro e w7 ⟨rfl, rfl⟩)
          | (go_at_call 34; refine (rawWf_any (H2.out.1.below (Below.refl _ _).drew).f (H1.out.2.2.1.below (H2.out.1.below (Below.refl _ _).drew).b) hm).mono ?_; intro e w5 h5; rw [HS.out.1, HS.out.2] at h5; obtain ⟨rfl, C5, m5, h5, f5, hc5⟩ := (H2.out.1.below (Below.refl _ _).drew).right h5; have b5 := hc5.bk (H2.out.2.1.drew) (by exact (HF.out.1 _ (Nat.le_refl _)).2); have K7 : w5.cell? ⟨g, 3, none⟩ = some (.slice B mm cc) := (by rw [HF.out.2.2]; exact b5.cell 3); have H7 := Lib.hid (And.intro h5 (And.intro f5 (And.intro (hc5.own H2.out.2.2.1 (fun a ha => (HF.out.1 _ (by have := (HF.out.2.1 _ ⟨a, ha, rfl⟩).1; omega)).2)) (And.intro b5 hc5.size)))); clear h5 f5 hc5 b5)
          | (go_at_call 30; refine (rawW_any H7.out.1.o (Rd.of_own H7.out.2.2.1) hm).mono ?_; intro e w6 h6; rw [HS.out.1, HS.out.2] at h6; obtain ⟨rfl, A6, c6, h6, f6, hc6⟩ := H7.out.1.left h6; have K8 : w6.cell? ⟨g, 3, none⟩ = some (.slice B mm cc) := (by rw [HF.out.2.2]; exact (hc6.bk H7.out.2.2.2.1 (HF.out.1 _ (Nat.le_refl _)).1).cell 3); have H8 := Lib.hid (And.intro h6 (And.intro f6 (And.intro (hc6.own H7.out.2.2.1 (fun a ha => (HF.out.1 _ (by have := (HF.out.2.1 _ ⟨a, ha, rfl⟩).1; omega)).1)) hc6.size))); clear h6 f6 hc6)
          | (go_at_call 15; refine (same_true (Rd.of_own H8.out.2.2.1) (H1.out.2.2.1.below H8.out.1.b)).mono ?_; rintro e w7 ⟨rfl, rfl⟩)))
      all_goals go_wp2_with fail
      all_goals go_meet
      all_goals first
        | exact ⟨rfl, A5, c5, C6, m6, H6.out.1, Nat.le_trans H5.out.2.2.2.2 H6.out.2.2.2, own_mono H6.out.2.2.1 (by rw [H2.out.2.2.2.2]; exact Nat.le_refl _), fun k hk => ⟨H5.out.2.1 k (HF.out.2.1 k hk).2 (HF.out.1 k (by have := (HF.out.2.1 k hk).1; omega)).1, H6.out.2.1 k (Nat.lt_of_lt_of_le (HF.out.2.1 k hk).2 H5.out.2.2.2.2) (HF.out.1 k (by have := (HF.out.2.1 k hk).1; omega)).2⟩⟩
        | exact ⟨rfl, A6, c6, C5, m5, H8.out.1, Nat.le_trans H7.out.2.2.2.2 H8.out.2.2.2, own_mono H8.out.2.2.1 (by rw [H2.out.2.2.2.2]; exact Nat.le_refl _), fun k hk => ⟨H8.out.2.1 k (Nat.lt_of_lt_of_le (HF.out.2.1 k hk).2 H7.out.2.2.2.2) (HF.out.1 k (by have := (HF.out.2.1 k hk).1; omega)).1, H7.out.2.1 k (HF.out.2.1 k hk).2 (HF.out.1 k (by have := (HF.out.2.1 k hk).1; omega)).2⟩⟩
    case rest =>
      obtain ⟨rfl, A', c', C', m', hx, hsw, ho, hf⟩ := hcut
      have H5 := Lib.hid (And.intro hx (And.intro ho hf))
      have hsz : w.heap.size + 1 ≤ wc.heap.size := by have := H1.out.1.b.size; have := H2.out.2.2.2.2; have := H2.out.2.2.2.1.size; omega
      clear hx ho hf c3 hsw
      go_wp2_with fail
      refine (over_own H5.out.2.1 (Below.refl _ _) hsz hm).mono ?_
      rintro e w7 ⟨rfl, hch⟩
      have H7 := Lib.hid (H5.out.1.other hch (fun k hk hS => (H5.out.2.2 k hS).1 hk) (fun k hk hS => (H5.out.2.2 k hS).2 hk) (fun k _ hk => by have := (HF.out.2.1 k hk).1; have := H1.out.2.2.2.b.size; omega))
      clear hch hsz
      go_wp2
      go_ret
      exact ⟨rfl, A', c', C', m', s', H7.out⟩
  | false =>
    go_enter Try.func12, Try.ntmps12
    obtain ⟨s', hs'⟩ : ∃ s', s.put wd nn = s' := ⟨_, rfl⟩
    obtain ⟨x, hx⟩ : ∃ x, s'.e = x := ⟨_, rfl⟩
    have HS := Lib.hid (And.intro hs' hx)
    have nx : (x == x) = true := by simp
    clear hs' hx
    go_upto_region 6 with fail
    obtain ⟨w2, hw2⟩ : ∃ w2, w2 = w.alloc (.cells #[.bool false, .int .i64 wd, .int .i64 nn, .slice B mm cc] 34) := ⟨_, rfl⟩
    rw [← hw2] at H1 c0 c1 c2 c3 ⊢
    have hfar : ¬ Wset P A w.heap.size ∧ ¬ Wset F C w.heap.size := ⟨fun e => by have := (H1.out.2.2.2.ltO _ e).1; omega, fun e => by have := (H1.out.2.2.2.ltF _ e).1; omega⟩
    obtain ⟨g, hg⟩ : ∃ g, g = w.heap.size := ⟨_, rfl⟩
    rw [← hg] at H1 hfar c0 c1 c2 c3 ⊢
    have HF := Lib.hid hfar
    clear hfar hw2 hg c0 c3
    go_cut [6] (fun s6 wx => s6 = .bool true ∧ ∃ A' c' C' m', WX w0 wx P A' c' s' F C' m' s')
    case first =>
      go_region_held3 (fun w' => w'.cell? ⟨g, 1, none⟩ = some (.int .i64 wd) ∧ w'.cell? ⟨g, 2, none⟩ = some (.int .i64 nn))
        (first | exact K8 | exact K7 | exact K6 | exact K5 | exact ⟨c1, c2⟩)
        ((first
          | (go_at_call 29; refine (putW_any (H1.out.1.below (Below.refl _ _).drew).o hn).mono ?_; intro e w5 h5; rw [HS.out.1, HS.out.2] at h5; obtain ⟨rfl, A5, c5, h5, f5, hc5⟩ := (H1.out.1.below (Below.refl _ _).drew).left h5; have b5 := hc5.bk (H1.out.2.1.drew) HF.out.1; have K5 := And.intro (b5.cell 1) (b5.cell 2); have H5 := Lib.hid (And.intro h5 b5); clear h5 f5 hc5 b5)
          | (go_at_call 35; refine (putWf_any H5.out.1.f hn).mono ?_; intro e w6 h6; rw [HS.out.1, HS.out.2] at h6; obtain ⟨rfl, C6, m6, h6, f6, hc6⟩ := H5.out.1.right h6; have b6 := hc6.bk H5.out.2 HF.out.2; have K6 := And.intro (b6.cell 1) (b6.cell 2); have H6 := Lib.hid h6; clear h6 f6 hc6 b6)
          | (go_at_call 35; refine (putWf_any (H1.out.1.below (Below.refl _ _).drew).f hn).mono ?_; intro e w5 h5; rw [HS.out.1, HS.out.2] at h5; obtain ⟨rfl, C5, m5, h5, f5, hc5⟩ := (H1.out.1.below (Below.refl _ _).drew).right h5; have b5 := hc5.bk (H1.out.2.1.drew) HF.out.2; have K7 := And.intro (b5.cell 1) (b5.cell 2); have H7 := Lib.hid (And.intro h5 b5); clear h5 f5 hc5 b5)
          | (go_at_call 29; refine (putW_any H7.out.1.o hn).mono ?_; intro e w6 h6; rw [HS.out.1, HS.out.2] at h6; obtain ⟨rfl, A6, c6, h6, f6, hc6⟩ := H7.out.1.left h6; have b6 := hc6.bk H7.out.2 HF.out.1; have K8 := And.intro (b6.cell 1) (b6.cell 2); have H8 := Lib.hid h6; clear h6 f6 hc6 b6)))
      all_goals go_wp2_with fail
      all_goals go_meet
      all_goals first | exact ⟨rfl, A5, c5, C6, m6, H6.out⟩ | exact ⟨rfl, A6, c6, C5, m5, H8.out⟩
    case rest =>
      obtain ⟨rfl, A', c', C', m', hx⟩ := hcut
      have H5 := Lib.hid hx
      clear hx c1 c2
      go_wp2
      go_ret
      exact ⟨rfl, A', c', C', m', s', H5.out⟩
end Go.Proofs.Ytdepmogibhmdaaa
