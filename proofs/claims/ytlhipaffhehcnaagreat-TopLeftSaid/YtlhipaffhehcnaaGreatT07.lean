/- Chapter 20: Add. -/
import Derived.Test.YtlhipaffhehcnaaGreatT06
namespace Go.Proofs.YtlhipaffhehcnaaGreat
open Go.RowKit
set_option linter.unusedVariables false
def sumX (l : List Int) : Int := l.foldl xr 0
theorem sumX_snoc (l : List Int) (x : Int) : sumX (l ++ [x]) = xr (sumX l) x := by unfold sumX; rw [List.foldl_append]; rfl
def addG (s : GM) (l : List Int) : GM := { (addL s.packs.length s (rst s.known l)).addP l (rst s.known l).length (sumX (rst s.known l)) with edges := s.edges + (rst s.known l).length }
theorem addL_len (n : Nat) (i : Nat) : ∀ (l : List Int) (s : GM), ((addL n s l).waits i).length ≤ (s.waits i).length + l.length
  | [], s => by simp [addL]
  | x :: l, s => by
    have := addL_len n i l (addW n s x)
    have h2 : ((addW n s x).waits i).length ≤ (s.waits i).length + 1 := by
      unfold addW
      by_cases e : i = x.toNat
      · simp [e]
      · simp [e]
    simp only [List.length_cons]
    exact Nat.le_trans this (by omega)
/-- What the loop keeps. -/
structure AdR (w0 : World) (base G : Nat) (tag0 : Nat → Option Nat) (L0 : GL) (t : GM) (l : List Int) (A : Option Addr) (n P gB cB : Nat) (m x : Int) (w : World) (tag : Nat → Option Nat) (L : GL) : Prop where
  gm : Gm w base G tag L t
  kb : L.KB = L0.KB
  wb : L.WB = L0.WB
  pa : L.PA = L0.PA
  pc : L.pc = L0.pc
  tg : ∀ b, b < w0.heap.size → tag b = tag0 b
  ch : Chg (fun b => tag0 b ≠ none) w0 w
  box : Bk w P 166 [.slice (some ⟨gB, 0, none⟩) n cB, .int .i64 m, .int .i64 x]
  inp : Rd w A n (nums l)
  set : Rd w (some ⟨gB, 0, none⟩) n (nums l)
  tP : tag P = none
  pz : w0.heap.size ≤ P
  tA : ∀ a, A = some a → tag a.block = none ∧ a.block ≠ P ∧ a.block < w0.heap.size
  tB : tag gB = none
  bz : w0.heap.size ≤ gB
  bP : gB ≠ P
  n0 : 0 < n
section
variable {w0 w w1 : World} {base G : Nat} {tag0 tag : Nat → Option Nat} {L0 L : GL} {t : GM} {l : List Int} {A : Option Addr} {n P gB cB : Nat} {m x : Int}
theorem AdR.chg {t' : GM} (h : AdR w0 base G tag0 L0 t l A n P gB cB m x w tag L) {S : Nat → Prop} (hc : Chg S w w1) (hS : ∀ b, S b → tag b ≠ none) (hg : Gm w1 base G tag L t') : AdR w0 base G tag0 L0 t' l A n P gB cB m x w1 tag L :=
  { h with
    gm := hg
    ch := h.ch.trans hc fun b hb e => by have := hS b e; rw [h.tg b hb] at this; exact this
    box := hc.bk h.box fun e => hS _ e h.tP
    inp := hc.rd h.inp fun a ha e => hS _ e (h.tA a ha).1
    set := hc.rd h.set fun a ha e => by injection ha with ha; subst ha; exact hS _ e h.tB }
theorem AdR.drewN (h : AdR w0 base G tag0 L0 t l A n P gB cB m x w tag L) (q : Nat) : AdR w0 base G tag0 L0 t l A n P gB cB m x (w.drewN q) tag L :=
  { h with gm := h.gm.below (below_dN (Below.refl _ _) q), ch := h.ch.drewN q, box := h.box, inp := h.inp, set := h.set }
theorem AdR.drew (h : AdR w0 base G tag0 L0 t l A n P gB cB m x w tag L) : AdR w0 base G tag0 L0 t l A n P gB cB m x w.drew tag L :=
  { h with gm := h.gm.below (Below.refl _ _).drew, ch := h.ch.drew, box := h.box, inp := h.inp, set := h.set }
theorem AdR.setBox (h : AdR w0 base G tag0 L0 t l A n P gB cB m x w tag L) (m' x' : Int) : AdR w0 base G tag0 L0 t l A n P gB cB m' x' ((w.setCell ⟨P, 1, none⟩ (.int .i64 m')).setCell ⟨P, 2, none⟩ (.int .i64 x')) tag L := by
  have hc : Chg (fun b => b = P) w ((w.setCell ⟨P, 1, none⟩ (.int .i64 m')).setCell ⟨P, 2, none⟩ (.int .i64 x')) := ((Chg.refl (fun b => b = P) w).set_ (g := P) (show (fun b => b = P) P from rfl) _ _).set_ (g := P) (show (fun b => b = P) P from rfl) _ _
  exact { h with
    gm := h.gm.other hc fun b hb e => hb (by have e' : b = P := e; rw [e']; exact h.tP)
    ch := h.ch.trans hc fun b hb e => by have e' : b = P := e; have := h.pz; omega
    box := (h.box.set_ 1 (.int .i64 m')).set_ 2 (.int .i64 x')
    inp := hc.rd h.inp fun a ha e => (h.tA a ha).2.1 e
    set := hc.rd h.set fun a ha e => by injection ha with ha; subst ha; exact h.bP e }
theorem AdR.appW {i g c k : Nat} {o : Obj} (h : AdR w0 base G tag0 L0 t l A n P gB cB m x w tag L) (hi : i < t.known.length)
    (ho : w1.ownsRow base 3 1 (.slice (some ⟨g, 0, none⟩) ((t.waits i).length + 1) c) ((t.waits i).length + 1) (nums (t.waits i ++ [(k : Int)]))) (hg : (w.alloc o).grownBy w1 (wcell L t i).ownBlock) (hat : some g = (wcell L t i).ownBlock ∨ some g = some (w.alloc o).heap.size) (hz : (t.waits i).length + 1 ≤ 1048576) :
    ∃ tag' L', AdR w0 base G tag0 L0 (addW k t i) l A n P gB cB m x (w1.setCell ⟨L0.WB, i, none⟩ (.slice (some ⟨g, 0, none⟩) ((t.waits i).length + 1) c)) tag' L' := by
  obtain ⟨g1, g2, g3, g4⟩ := h.gm.appW hi ho hg hat hz
  rw [h.wb] at g1 g2
  have hPl := h.box.lt
  have hAl := fun a ha => (h.tA a ha).2.2
  have hw0 := h.ch.size
  have hBl : gB < w.heap.size := h.set.lt h.n0 _ rfl
  refine ⟨_, _, { h with
    gm := g1, kb := h.kb, wb := h.wb, pa := h.pa, pc := h.pc
    tg := fun b hb => (g3 b (by omega)).trans (h.tg b hb)
    ch := h.ch.trans g2 fun b hb e => by rw [h.tg b hb] at e; exact e
    box := g2.bk h.box fun e => e h.tP
    inp := g2.rd h.inp fun a ha e => e (h.tA a ha).1
    set := g2.rd h.set fun a ha e => by injection ha with ha; subst ha; exact e h.tB
    tP := (g3 _ hPl).trans h.tP
    tA := fun a ha => ⟨(g3 _ (by have := hAl a ha; omega)).trans (h.tA a ha).1, (h.tA a ha).2⟩
    tB := (g3 _ hBl).trans h.tB }⟩
end
theorem setB_inr {k : Int} : ∀ {l : List Int} {last : Int}, okS k last l = true → ∀ x ∈ l, last < x ∧ x < k
  | [], _, _, x, hx => by simp at hx
  | y :: l, last, h, x, hx => by
    unfold okS at h
    split at h
    · cases h
    · rename_i hc
      rcases List.mem_cons.1 hx with e | e
      · subst e; omega
      · have := setB_inr h x e; omega
theorem packet_info : (Tryz.prog.info? 166).map (fun i => (i.zero, i.size, i.bytes)) = some (some (.agg #[.slice none 0 0, .int .i64 0, .int .i64 0]), 3, 40) := by kernel_rfl
/-- What the clone is. -/
structure Cl5 (w2 w5 : World) (n gB cB : Nat) (l : List Int) : Prop where
  b : Below w2.heap.size w2 w5
  o : w5.ownsRow w2.heap.size 3 1 (.slice (some ⟨gB, 0, none⟩) n cB) n (nums l)
  g : w2.heap.size ≤ gB ∧ gB < w5.heap.size
theorem clone1_any {w : World} {base G : Nat} {tag : Nat → Option Nat} {L : GL} {s : GM} {A : Option Addr} {n c : Nat} {l : List Int} (hG : Gm w base G tag L s) (h : Rd w A n (nums l)) (hn : n ≤ 1000000000) (h0 : 0 < n) :
    Calls Tryz.prog 31 #[.slice A n c] w.drew fun e w' => ∃ gB cB, e = .returned (.slice (some ⟨gB, 0, none⟩) n cB) ∧ Cl5 w w' n gB cB l ∧ w'.cell? ⟨G, 2, none⟩ = some (.slice L.PA s.packs.length L.pc) ∧ G ≠ w'.heap.size ∧ w'.heap.size ≠ G := by
  refine (cloneI_any (l := l) h.drew hn).mono ?_
  rintro e w5 ⟨v5, rfl, ho5, hb5⟩
  obtain ⟨gB, cB, tl5, rfl, hgB, hbk5, hl5, hc5, hm5⟩ := bk_of_ownv ho5 h0
  exact ⟨gB, cB, rfl, ⟨below_undrew hb5, ho5, hgB, hbk5.lt⟩, (hG.below (below_undrew hb5)).g.cell 2, Nat.ne_of_lt (hG.below (below_undrew hb5)).g.lt, Nat.ne_of_gt (hG.below (below_undrew hb5)).g.lt⟩
theorem clone2_any {w : World} {base G : Nat} {tag : Nat → Option Nat} {L : GL} {s : GM} {A : Option Addr} {n c : Nat} {l : List Int} (hG : Gm w base G tag L s) (h : Rd w A n (nums l)) (hn : n ≤ 1000000000) (h0 : 0 < n) :
    Calls Tryz.prog 31 #[.slice A n c] (w.alloc (.cells #[.slice none 0 0, .int .i64 0, .int .i64 0] 166)).drew fun e w' => ∃ gB cB, e = .returned (.slice (some ⟨gB, 0, none⟩) n cB) ∧ (Cl5 w w' n gB cB l ∧ Bk w' w.heap.size 166 [.slice none 0 0, .int .i64 0, .int .i64 0] ∧ gB ≠ w.heap.size) ∧ w'.cell? ⟨G, 2, none⟩ = some (.slice L.PA s.packs.length L.pc) ∧
      w'.cell? ⟨w.heap.size, 0, none⟩ = some (.slice none 0 0) ∧ w'.cell? ⟨w.heap.size, 1, none⟩ = some (.int .i64 0) ∧ w'.cell? ⟨w.heap.size, 2, none⟩ = some (.int .i64 0) ∧ w'.frozen? ⟨w.heap.size, 0, none⟩ = false ∧ w'.frozen? ⟨w.heap.size, 1, none⟩ = false ∧ w'.frozen? ⟨w.heap.size, 2, none⟩ = false := by
  refine (cloneI_any (l := l) (h.alloc _).drew hn).mono ?_
  rintro e w5 ⟨v5, rfl, ho5, hb5⟩
  obtain ⟨gB, cB, tl5, rfl, hgB, hbk5, hl5, hc5, hm5⟩ := bk_of_ownv ho5 h0
  have hs : (w.alloc (.cells #[.slice none 0 0, .int .i64 0, .int .i64 0] 166)).drew.heap.size = w.heap.size + 1 := World.size_alloc _ _
  have hb := below_base (((Below.refl w.heap.size w).alloc (Nat.le_refl _) (.cells #[.slice none 0 0, .int .i64 0, .int .i64 0] 166)).drew) hb5 (by omega)
  have hx := ((Bk.newA w 166 #[.slice none 0 0, .int .i64 0, .int .i64 0]).drew).belowS hb5
  exact ⟨gB, cB, rfl, ⟨⟨hb, own_mono ho5 (by omega), by omega, hbk5.lt⟩, hx, by omega⟩, (hG.below hb).g.cell 2, hx.cell 0, hx.cell 1, hx.cell 2, hx.frozen 0, hx.frozen 1, hx.frozen 2⟩
theorem grownBy_undrew {w w' : World} {row : Option Nat} (h : w.drew.grownBy w' row) : w.grownBy w' row := ⟨h.os, h.tape, h.output, h.size, h.block⟩
theorem grownBy_undrewA {w w' : World} {o : Obj} {row : Option Nat} (h : (w.alloc o).drew.grownBy w' row) : (w.alloc o).grownBy w' row := grownBy_undrew h
/-- Behind the append: the field that the new row goes to. -/
theorem Gm.after {w w1 : World} {base G i : Nat} {tag : Nat → Option Nat} {L : GL} {s : GM} {o : Obj} (h : Gm w base G tag L s) (hi : i < s.known.length) (hg : (w.alloc o).grownBy w1 (wcell L s i).ownBlock) :
    w1.cell? ⟨L.WB, i, none⟩ = some (wcell L s i) ∧ w1.frozen? ⟨L.WB, i, none⟩ = false ∧ w1.cell? ⟨G, 1, none⟩ = some (.slice (some ⟨L.WB, 0, none⟩) s.known.length s.known.length) := by
  have hc1 : Chg (fun b => tag b = some (5 + i)) w w1 := ((Chg.refl _ w).alloc o).trans (Chg.of_grown hg (S := fun b => tag b = some (5 + i)) fun k e => by
    obtain ⟨a, ha, ha'⟩ := slice_block e
    rw [← ha']; exact h.tw i a hi ha) fun _ _ x => x
  have h1 := hc1.bk h.wt (by rw [h.tW]; simp; omega)
  have h2 := hc1.bk h.g (by rw [h.tG]; simp; omega)
  refine ⟨?_, h1.frozen i, h2.cell 1⟩
  rw [h1.cell i, List.getElem?_map, List.getElem?_range hi]; rfl
theorem Gm.afterP {w w1 : World} {base G : Nat} {tag : Nat → Option Nat} {L : GL} {s : GM} {o : Obj} (h : Gm w base G tag L s) (hg : (w.alloc o).grownBy w1 (Value.slice L.PA s.packs.length L.pc).ownBlock) :
    w1.cell? ⟨G, 2, none⟩ = some (.slice L.PA s.packs.length L.pc) ∧ w1.frozen? ⟨G, 2, none⟩ = false := by
  have hc1 : Chg (fun b => tag b = some 3) w w1 := ((Chg.refl _ w).alloc o).trans (Chg.of_grown hg (S := fun b => tag b = some 3) fun k e => by
    obtain ⟨a, ha, ha'⟩ := slice_block e
    rw [← ha']; exact h.tP a ha) fun _ _ x => x
  have h2 := hc1.bk h.g (by rw [h.tG]; simp)
  exact ⟨h2.cell 2, h2.frozen 2⟩
theorem AdR.appP {w0 w w1 : World} {base G : Nat} {tag0 tag : Nat → Option Nat} {L0 L : GL} {t : GM} {l : List Int} {A : Option Addr} {n P gB cB : Nat} {m x : Int} {g c : Nat} {o : Obj} (h : AdR w0 base G tag0 L0 t l A n P gB cB m x w tag L) (hl : l.length = n)
    (ho : w1.ownsRow base 166 3 (.slice (some ⟨g, 0, none⟩) (t.packs.length + 1) c) (t.packs.length + 1) (pcells L t ++ [.slice (some ⟨gB, 0, none⟩) n cB, .int .i64 m, .int .i64 x]))
    (hg : (w.alloc o).grownBy w1 (Value.slice L.PA t.packs.length L.pc).ownBlock) (hat : some g = (Value.slice L.PA t.packs.length L.pc).ownBlock ∨ some g = some (w.alloc o).heap.size) (hz : t.packs.length + 1 ≤ 1048576) (hw0 : base ≤ w0.heap.size := by omega) :
    (∃ tag2 L2, Gm (w1.setCell ⟨G, 2, none⟩ (.slice (some ⟨g, 0, none⟩) (t.packs.length + 1) c)) base G tag2 L2 (t.addP l m x) ∧ Chg (fun b => tag0 b ≠ none) w0 (w1.setCell ⟨G, 2, none⟩ (.slice (some ⟨g, 0, none⟩) (t.packs.length + 1) c)) ∧ ∀ b, b < w0.heap.size → tag2 b = tag0 b) ∧
      Bk (w1.setCell ⟨G, 2, none⟩ (.slice (some ⟨g, 0, none⟩) (t.packs.length + 1) c)) P 166 [.slice (some ⟨gB, 0, none⟩) n cB, .int .i64 m, .int .i64 x] := by
  subst hl
  have hs := h.ch.size
  have hb := h.bz
  obtain ⟨g1, g2, g3⟩ := h.gm.appP (N := w0.heap.size) h.set h.tB (by omega) (h.set.lt h.n0 _ rfl) h.bz hs ho hg hat hz
  exact ⟨⟨_, _, g1, h.ch.trans g2 fun b hb e => by rw [h.tg b hb] at e; exact e, fun b hb => (g3 b hb).trans (h.tg b hb)⟩, g2.bk h.box fun e => e h.tP⟩
theorem AdR.start {w w2 wx : World} {base G : Nat} {tag : Nat → Option Nat} {L : GL} {s : GM} {A : Option Addr} {n P gB cB : Nat} {l : List Int} (h2 : Gm w2 base G tag L s) (h0 : 0 < n) (hr : Rd w A n (nums l)) (hc : Chg (fun b => tag b ≠ none) w w2) (hA : ∀ a, A = some a → tag a.block = none) (hr2 : Rd w2 A n (nums l))
    (hx : Below w2.heap.size w2 wx) (hb : Bk wx P 166 [.slice (some ⟨gB, 0, none⟩) n cB, .int .i64 0, .int .i64 0]) (hP : w2.heap.size ≤ P) (hs : Rd wx (some ⟨gB, 0, none⟩) n (nums l)) (hg : w2.heap.size ≤ gB) (hgP : gB ≠ P) : AdR w base G tag L s l A n P gB cB 0 0 wx tag L := by
  have hnew : ∀ {b}, w2.heap.size ≤ b → tag b = none := fun {b} hb => by
    cases e : tag b with
    | none => rfl
    | some u => have := (h2.lt b (by rw [e]; simp)).2; omega
  have hsz := hc.size
  exact ⟨h2.below hx, rfl, rfl, rfl, rfl, fun _ _ => rfl, hc.trans (Chg.of_below hx) fun _ _ e => e, hb, hr2.below hx, hs, hnew hP, by omega, fun a ha => ⟨hA a ha, by have := hr.lt h0 a ha; omega, hr.lt h0 a ha⟩, hnew hg, by omega, hgP, h0⟩
def AgPost (w : World) (base G : Nat) (tag : Nat → Option Nat) (s : GM) (l : List Int) (e : Ending) (w' : World) : Prop :=
  e = .returned (.tuple #[.int .i64 (s.packs.length : Nat), .int .i64 ((rst s.known l).length : Nat), .int .i64 0]) ∧ ∃ tag' L', Gm w' base G tag' L' (addG s l) ∧ Chg (fun b => tag b ≠ none) w w' ∧ ∀ b, b < w.heap.size → tag' b = tag b
set_option maxRecDepth 100000 in
set_option maxHeartbeats 4000000 in
/-- Add, of a set that there is room for. -/
theorem add_ok {w : World} {base G : Nat} {tag : Nat → Option Nat} {L : GL} {s : GM} (h : Gm w base G tag L s) {A : Option Addr} {n c : Nat} {l : List Int} (hr : Rd w A n (nums l)) (hn : n ≤ 65536) (hA : ∀ a, A = some a → tag a.block = none)
    (hs : setB s.known.length l = true) (hf : (s.packs.length : Int) ≠ s.most) (hp : s.packs.length ≤ 100000) (hwl : ∀ i, (s.waits i).length ≤ 100000) (he : -1000000000000 ≤ s.edges ∧ s.edges ≤ 1000000000000) :
    Calls Tryz.prog 78 #[.pointer (some ⟨G, 0, none⟩), .slice A n c] w (AgPost w base G tag s l) := by
  have hl : l.length = n := by have := hr.1; simpa [nums_length] using this
  have H := Lib.hid (And.intro h (And.intro hr (And.intro hA (And.intro hl (And.intro hs (And.intro hp (And.intro hwl (And.intro he hn))))))))
  have c2 := h.g.cell 2
  have c3 := h.g.cell 3
  obtain ⟨np, hnp⟩ : ∃ np, s.packs.length = np := ⟨_, rfl⟩
  obtain ⟨ms, hms⟩ : ∃ ms, s.most = ms := ⟨_, rfl⟩
  rw [hnp] at c2 hf
  rw [hms] at c3 hf
  have dm : ((np : Int) == ms) = false := by simpa using hf
  have HN := Lib.hid (And.intro hnp hms)
  have HN0 := Lib.hid (show 0 < n from by
    unfold setB at hs
    rw [Bool.and_eq_true, decide_eq_true_iff] at hs
    rw [← hl]; exact hs.2)
  clear h hr hA hl hs hp hwl he hn hf hnp hms
  go_enter Tryz.func78, Tryz.ntmps78
  go_wp2_with fail
  refine (none_made H.out.1).mono ?_
  rintro e w1 ⟨rfl, rfl⟩
  go_wp2_with fail
  refine (set_any H.out.1 H.out.2.1 (by have := H.out.2.2.2.2.2.2.2.2; omega)).mono ?_
  rintro e w1 ⟨rfl, rfl⟩
  rw [H.out.2.2.2.2.1]
  go_wp2_with fail
  go_quiet (fail)
  have h2 := H.out.1.below (below_dN (Below.refl _ _) nq)
  have hr2 := H.out.2.1.drewN nq
  have H2 := Lib.hid (And.intro h2 (And.intro hr2 ((Chg.refl (fun b => tag b ≠ none) w).drewN nq)))
  have c2' := h2.g.cell 2
  rw [HN.out.1] at c2'
  clear h2 hr2 c2 c3
  generalize w.drewN nq = w2 at H2 c2' ⊢
  have hn1 : G ≠ w2.heap.size := Nat.ne_of_lt H2.out.1.g.lt
  have hn2 : w2.heap.size ≠ G := Ne.symm hn1
  go_wp2_with fail
  go_cut [7, 8] (fun s7 s8 wx => s7 = .int .i64 (np : Int) ∧ ∃ P gB cB, s8 = .pointer (some ⟨P, 0, none⟩) ∧ AdR w base G tag L s l A n P gB cB 0 0 wx tag L)
  case first =>
    go_region_held3 (fun w' => w'.cell? ⟨G, 2, none⟩ = some (.slice L.PA np L.pc)) (first | go_keep | exact c2'') ((go_at_call_of 31 (Value.slice A n c); first
      | (refine (clone1_any (l := l) H2.out.1 H2.out.2.1 (by have := H.out.2.2.2.2.2.2.2.2; omega) HN0.out).mono ?_; rintro e w5 ⟨gB, cB, rfl, h5, c2'', gn1, gn2⟩; have H5 := Lib.hid h5; clear h5; rw [HN.out.1] at c2'')
      | (refine (clone2_any (l := l) H2.out.1 H2.out.2.1 (by have := H.out.2.2.2.2.2.2.2.2; omega) HN0.out).mono ?_; rintro e w5 ⟨gB, cB, rfl, h5, c2'', k0, k1, k2, e0, e1, e2⟩; have H5 := Lib.hid h5; clear h5; rw [HN.out.1] at c2'')))
    all_goals go_wp2_with fail
    all_goals go_meet
    · exact ⟨rfl, w5.heap.size, gB, cB, rfl, AdR.start H2.out.1 HN0.out H.out.2.1 H2.out.2.2 H.out.2.2.1 H2.out.2.1 (H5.out.b.alloc H5.out.b.size _) (Bk.newA w5 166 #[.slice (some ⟨gB, 0, none⟩) n cB, .int .i64 0, .int .i64 0]) H5.out.b.size ((Rd.of_own H5.out.o).alloc _) H5.out.g.1 (Nat.ne_of_lt H5.out.g.2)⟩
    · have hb := H5.out.1.b
      have hx := ((hb.setCell (p := ⟨w2.heap.size, 0, none⟩) (Nat.le_refl _) (.slice (some ⟨gB, 0, none⟩) n cB)).setCell (p := ⟨w2.heap.size, 1, none⟩) (Nat.le_refl _) (.int .i64 0)).setCell (p := ⟨w2.heap.size, 2, none⟩) (Nat.le_refl _) (.int .i64 0)
      have hc : Chg (fun b => b = w2.heap.size) w5 _ := (((Chg.refl (fun b => b = w2.heap.size) w5).set_ (g := w2.heap.size) rfl 0 (.slice (some ⟨gB, 0, none⟩) n cB)).set_ (g := w2.heap.size) rfl 1 (.int .i64 0)).set_ (g := w2.heap.size) rfl 2 (.int .i64 0)
      exact ⟨rfl, w2.heap.size, gB, cB, rfl, AdR.start H2.out.1 HN0.out H.out.2.1 H2.out.2.2 H.out.2.2.1 H2.out.2.1 hx (((H5.out.2.1.set_ 0 (.slice (some ⟨gB, 0, none⟩) n cB)).set_ 1 (.int .i64 0)).set_ 2 (.int .i64 0)) (Nat.le_refl _) (hc.rd (Rd.of_own H5.out.1.o) (fun a ha e => by injection ha with ha; subst ha; exact H5.out.2.2 e)) H5.out.1.g.1 H5.out.2.2⟩
  case rest =>
    obtain ⟨rfl, P, gB, cB, rfl, hR⟩ := hcut
    have HR := Lib.hid (show AdR w base G tag L (addL s.packs.length s (rst s.known (l.take 0))) l A n P gB cB ((rst s.known (l.take 0)).length : Nat) (sumX (rst s.known (l.take 0))) wc tag L from hR)
    clear hR c2' hn1 hn2 H2
    have hnn : (n : Int) ≤ 65536 := by have := H.out.2.2.2.2.2.2.2.2; omega
    go_wp2
    go_loopw [40] (fun q wr => ∃ (j : Nat) (tag' : Nat → Option Nat) (L' : GL), j ≤ n ∧ q = .int .i64 j ∧ AdR w base G tag L (addL s.packs.length s (rst s.known (l.take j))) l A n P gB cB ((rst s.known (l.take j)).length : Nat) (sumX (rst s.known (l.take j))) wr tag' L') (fun q wr => n - (intOf q).toNat)
    case atStart => exact ⟨0, tag, L, by omega, rfl, HR.out⟩
    case round =>
      obtain ⟨j, tag', L', hj, rfl, hD⟩ := hrel
      have hp := addL_parts s.packs.length (rst s.known (l.take j)) s
      have HP := Lib.hid hp
      by_cases hlt : j < n
      · have hjl : j < l.length := by rw [H.out.2.2.2.1]; exact hlt
        have hin := setB_inr (by have := H.out.2.2.2.2.1; unfold setB at this; rw [Bool.and_eq_true] at this; exact this.1) _ (gi_mem hjl)
        obtain ⟨i, hi⟩ : ∃ i : Nat, gi l j = i := ⟨(gi l j).toNat, by omega⟩
        rw [hi] at hin
        have hik : i < s.known.length := by omega
        obtain ⟨b, off, rfl, hbl, hcc⟩ := hD.inp.form (by omega)
        have cx := hcc j _ (nums_gi hjl)
        rw [hi] at cx
        have c0 := hD.gm.g.cell 0
        have c1 := hD.gm.g.cell 1
        have hK := hD.gm.kn
        rw [hp.1, hD.kb] at c0 hK
        rw [hp.1, hD.wb] at c1
        have ck := hK.cell i
        have e : (bools s.known)[i]? = some (.bool (knw s.known (i : Int))) := by
          unfold bools knw
          rw [List.getElem?_map, List.getD_eq_getElem?_getD, Int.toNat_natCast, List.getElem?_eq_getElem hik]; rfl
        rw [e] at ck
        have HRt := Lib.hid (rst_take (kn := s.known) hjl)
        rw [hi] at HRt
        obtain ⟨k, hk⟩ : ∃ k, s.known.length = k := ⟨_, rfl⟩
        rw [hk] at c0 c1 hik
        have hkz : k ≤ 65536 := by rw [← hk]; exact H.out.1.kz
        have hik' : (i : Int) < (k : Int) := by omega
        have km : (j : Int) < (n : Int) := by omega
        have HJ := Lib.hid (And.intro hlt (And.intro hjl (And.intro hi (And.intro hk hD))))
        have hm0 : (rst s.known (l.take j)).length ≤ 65536 := by
          have h1 : (rst s.known (l.take j)).length ≤ (l.take j).length := List.length_filter_le _ _
          rw [List.length_take] at h1
          have := H.out.2.2.2.2.2.2.2.2
          omega
        cases hkn : knw s.known (i : Int) with
        | true =>
          rw [hkn, if_pos rfl, List.append_nil] at HRt
          rw [hkn] at ck
          clear hlt hjl hin hi hbl hcc hK e hk hD hp hj hkn
          go_wp2
          exact ⟨⟨j + 1, tag', L', by have := HJ.out.1; omega, by go_num, by rw [HRt.out]; exact HJ.out.2.2.2.2⟩, by have := HJ.out.1; simp [intOf]; omega⟩
        | false =>
          rw [hkn, if_neg (by simp)] at HRt
          rw [hkn] at ck
          have b1 := hD.box.cell 1
          have b2 := hD.box.cell 2
          have fb1 := hD.box.frozen 1
          have fb2 := hD.box.frozen 2
          obtain ⟨m, hm⟩ : ∃ m, (rst s.known (l.take j)).length = m := ⟨_, rfl⟩
          obtain ⟨y, hy⟩ : ∃ y, sumX (rst s.known (l.take j)) = y := ⟨_, rfl⟩
          rw [hm, hy] at b1 b2
          rw [hm] at hm0
          have hwm : IntKind.i64.wrap ((m : Int) + 1) = (m : Int) + 1 := by rw [IntKind.wrap_i64]; omega
          have HM := Lib.hid (And.intro hm hy)
          clear hlt hjl hin hi hbl hcc hK e hk hD hp hj hkn hm hy
          have hS := HJ.out.2.2.2.2.setBox ((m : Int) + 1) (xr y (i : Int))
          have HS := Lib.hid hS
          clear hS
          unfold xr at HS
          go_wp2_with fail
          generalize (wr.setCell ⟨P, 1, none⟩ (.int .i64 ((m : Int) + 1))).setCell ⟨P, 2, none⟩ (.int .i64 (bits .xor .i64 y (i : Int))) = w3 at HS ⊢
          clear cx c0 c1 ck b1 b2 fb1 fb2
          obtain ⟨t, ht⟩ : ∃ t, addL s.packs.length s (rst s.known (l.take j)) = t := ⟨_, rfl⟩
          rw [ht] at HS HP
          have hgm := HS.out.gm
          have c1 := hgm.g.cell 1
          rw [HP.out.1, HJ.out.2.2.2.1, HS.out.wb] at c1
          have hik9 : i < t.known.length := by rw [HP.out.1, HJ.out.2.2.2.1]; exact hik
          have cw := wt_cell hgm hik9
          have fw := hgm.wt.frozen i
          rw [HS.out.wb] at cw fw
          have hwo := hgm.wo i hik9
          unfold wcell at cw hwo
          obtain ⟨W, hW⟩ : ∃ W, t.waits i = W := ⟨_, rfl⟩
          obtain ⟨r, hr⟩ : ∃ r, W.length = r := ⟨_, rfl⟩
          rw [hW, hr] at cw hwo
          have hr9 : r ≤ 165536 := by
            have h1 := addL_len s.packs.length i (rst s.known (l.take j)) s
            have h2 := H.out.2.2.2.2.2.2.1 i
            rw [ht, hW, hr, HM.out.1] at h1
            omega
          have HW := Lib.hid (And.intro ht (And.intro hW (And.intro hr (And.intro hwo (And.intro hik9 HP.out)))))
          obtain ⟨i0, hi0, hz0, hz1, hz2⟩ := info_parts u3_info
          have hbs := hgm.bs
          have hWl : L.WB < w3.heap.size := by have := hgm.wt.lt; rw [HS.out.wb] at this; exact this
          have hGl := hgm.g.lt
          clear ht hW hr hwo hgm hik9
          go_region_law ((refine step_append_rd (by rfl) (.tmp 72) (.tmp 74) _ (by rfl) base 3 i0 _ 1 8 Tryz.underlying22 hi0 hz0 hz1 hz2 rfl (by omega) _ r (nums W) (by rfl) (own_below HW.out.2.2.2.1 (((Below.refl _ _).alloc (Nat.le_refl _) _).drew)) (some ⟨w3.heap.size, 0, none⟩) 1 1 (nums [(np : Int)]) (by rfl) ((Rd.lit _ _ _ _ rfl 1 rfl _ rfl).drew) (nums_one _) (by simp only [maxLen]; omega) (by omega) (by show base ≤ (w3.alloc _).heap.size; rw [World.size_alloc]; omega) ?_; intro v1 w4 hown1 hg1 hat1; rw [← nums_append] at hown1; obtain ⟨g4, cp4, tl4, rfl, hgb4, hbk4, hll4, htl4, hcm4⟩ := bk_of_ownv hown1 (by omega); obtain ⟨z1, z2, z3⟩ := HS.out.gm.after HW.out.2.2.2.2.1 (by unfold wcell; rw [HW.out.2.1, HW.out.2.2.1]; exact grownBy_undrewA hg1); rw [HS.out.wb] at z1 z2 z3; rw [HP.out.1, HJ.out.2.2.2.1] at z3; unfold wcell at z1; clear hbk4 hll4 htl4 hcm4 hgb4))
          all_goals (
            obtain ⟨tag2, L2, h2⟩ := HS.out.appW (k := np) (i := i) (g := g4) (c := cp4) (o := .cells #[.int .i64 (np : Int)] 3) (w1 := w4) HW.out.2.2.2.2.1 (by rw [HW.out.2.1, HW.out.2.2.1]; exact hown1) (by unfold wcell; rw [HW.out.2.1, HW.out.2.2.1]; exact grownBy_undrewA hg1) (by unfold wcell; rw [HW.out.2.1, HW.out.2.2.1]; exact hat1) (by rw [HW.out.2.1, HW.out.2.2.1]; omega)
            rw [HW.out.2.1, HW.out.2.2.1] at h2
            have h3 : AdR w base G tag L (addL s.packs.length s (rst s.known (l.take (j + 1)))) l (some ⟨b, off, none⟩) n P gB cB ((rst s.known (l.take (j + 1))).length : Nat) (sumX (rst s.known (l.take (j + 1)))) (w4.setCell ⟨L.WB, i, none⟩ (.slice (some ⟨g4, 0, none⟩) (r + 1) cp4)) tag2 L2 := by
              rw [HRt.out, addL_snoc, sumX_snoc, HW.out.1, List.length_append, HM.out.1, HM.out.2, HN.out.1]
              exact h2
            have H3 := Lib.hid h3
            clear h2 h3
            go_wp2
            exact ⟨⟨j + 1, tag2, L2, by have := HJ.out.1; omega, by go_num, H3.out⟩, by have := HJ.out.1; simp [intOf]; omega⟩)
      · obtain rfl : j = n := by omega
        have e1 : l.take j = l := List.take_of_length_le (by rw [H.out.2.2.2.1]; exact Nat.le_refl _)
        rw [e1] at hD hp
        obtain ⟨t, ht⟩ : ∃ t, addL s.packs.length s (rst s.known l) = t := ⟨_, rfl⟩
        obtain ⟨m, hm⟩ : ∃ m, (rst s.known l).length = m := ⟨_, rfl⟩
        obtain ⟨y, hy⟩ : ∃ y, sumX (rst s.known l) = y := ⟨_, rfl⟩
        rw [ht, hm, hy] at hD
        rw [ht] at hp
        have hm0 : m ≤ 65536 := by
          have h1 : (rst s.known l).length ≤ l.length := List.length_filter_le _ _
          have := H.out.2.2.2.2.2.2.2.2
          have := H.out.2.2.2.1
          omega
        have b1 := hD.box.cell 1
        have c5 := hD.gm.g.cell 5
        have f5 := hD.gm.g.frozen 5
        have hPG : P ≠ G := fun e => by have := hD.tP; rw [e, hD.gm.tG] at this; cases this
        have hGP : G ≠ P := Ne.symm hPG
        rw [hp.2.2.2.2] at c5
        have HT := Lib.hid (And.intro ht (And.intro hm (And.intro hy (And.intro hp hD))))
        clear HP hD ht hm hy hp e1 hlt hj HR
        go_wp2_with fail
        go_cut [7, 8] (fun s7 s8 wx => s7 = .int .i64 (np : Int) ∧ s8 = .pointer (some ⟨P, 0, none⟩) ∧ AdR w base G tag L { t with edges := s.edges + (m : Int) } l A j P gB cB (m : Int) y wx tag' L')
        case first =>
          go_region
          all_goals go_wp2_with fail
          all_goals go_meet
          all_goals rw [wrap_idz (by have := H.out.2.2.2.2.2.2.2.1; omega) (by have := H.out.2.2.2.2.2.2.2.1; omega)]
          all_goals exact ⟨rfl, rfl, (HT.out.2.2.2.2.chg (HT.out.2.2.2.2.gm.setE _).2 (fun _ e => e) (HT.out.2.2.2.2.gm.setE _).1).drew⟩
        case rest =>
          obtain ⟨rfl, rfl, hE⟩ := hcut
          clear b1 c5 f5
          obtain ⟨t', ht'⟩ : ∃ t', { t with edges := s.edges + (m : Int) } = t' := ⟨_, rfl⟩
          rw [ht'] at hE
          have hpt : t'.packs = s.packs := by rw [← ht']; exact HT.out.2.2.2.1.2.1
          have c2 := hE.gm.g.cell 2
          have f2 := hE.gm.g.frozen 2
          rw [hpt, HN.out.1, hE.pa, hE.pc] at c2
          have b0 := hE.box.cell 0
          have b1 := hE.box.cell 1
          have b2 := hE.box.cell 2
          have hpo := hE.gm.po
          rw [hpt, HN.out.1, hE.pa, hE.pc] at hpo
          obtain ⟨cells, hcells⟩ : ∃ cells, pcells L' t' = cells := ⟨_, rfl⟩
          rw [hcells] at hpo
          have hbs := hE.gm.bs
          have hGl := hE.gm.g.lt
          have hPl := hE.box.lt
          have hnp : np ≤ 100000 := by rw [← HN.out.1]; exact H.out.2.2.2.2.2.1
          have HE := Lib.hid (And.intro hE (And.intro ht' (And.intro hpt (And.intro hcells hpo))))
          obtain ⟨i0, hi0, hz0, hz1, hz2⟩ := info_parts packet_info
          clear hE ht' hpt hcells hpo
          go_wp2_with fail
          go_cut [7, 8] (fun s7 s8 wx => s7 = .int .i64 (np : Int) ∧ s8 = .pointer (some ⟨P, 0, none⟩) ∧ (∃ tag2 L2, Gm wx base G tag2 L2 (t'.addP l m y) ∧ Chg (fun b => tag b ≠ none) w wx ∧ ∀ b, b < w.heap.size → tag2 b = tag b) ∧ Bk wx P 166 [.slice (some ⟨gB, 0, none⟩) j cB, .int .i64 m, .int .i64 y])
          case first =>
            go_region_law ((refine step_append_rd (by rfl) (.tmp 91) (.tmp 93) _ (by rfl) base 166 i0 _ 3 40 Tryz.underlying161 hi0 hz0 hz1 hz2 rfl (by omega) _ np cells (by rfl) (own_below HE.out.2.2.2.2 (((Below.refl _ _).alloc (Nat.le_refl _) _).drew)) (some ⟨wc.heap.size, 0, none⟩) 1 1 [.slice (some ⟨gB, 0, none⟩) j cB, .int .i64 (m : Int), .int .i64 y] (by rfl) ((Rd.lit _ _ _ _ rfl 3 rfl _ rfl).drew) (by intro u hu; simp at hu; rcases hu with rfl | rfl | rfl <;> rfl) (by simp only [maxLen]; omega) (by omega) (by show base ≤ (wc.alloc _).heap.size; rw [World.size_alloc]; omega) ?_; intro v1 w4 hown1 hg1 hat1; obtain ⟨A4, cp4, rfl, _⟩ := own_slice hown1; obtain ⟨g4, cur4, rfl, _⟩ := own_formN hown1 (by omega); obtain ⟨z1, z2⟩ := HE.out.1.gm.afterP (by rw [HE.out.2.2.1, HN.out.1, HE.out.1.pa, HE.out.1.pc]; exact grownBy_undrewA hg1)))
            all_goals go_wp2_with fail
            all_goals go_meet
            all_goals (
              obtain ⟨q1, q3⟩ := HE.out.1.appP (hw0 := H.out.1.bs) (g := g4) (c := cp4) (o := .cells #[.slice (some ⟨gB, 0, none⟩) j cB, .int .i64 (m : Int), .int .i64 y] 166) (w1 := w4) H.out.2.2.2.1 (by rw [HE.out.2.2.1, HN.out.1, HE.out.2.2.2.1]; exact hown1) (by rw [HE.out.2.2.1, HN.out.1, HE.out.1.pa, HE.out.1.pc]; exact grownBy_undrewA hg1) (by rw [HE.out.2.2.1, HN.out.1, HE.out.1.pa, HE.out.1.pc]; exact hat1) (by rw [HE.out.2.2.1, HN.out.1]; omega)
              rw [HE.out.2.2.1, HN.out.1] at q1 q3
              exact ⟨rfl, rfl, q1, q3⟩)
          case rest =>
            obtain ⟨rfl, rfl, hex, hbx⟩ := hcut
            clear c2 f2 b0 b1 b2
            have b1 := hbx.cell 1
            have HX := Lib.hid hex
            clear hex
            go_wp2_with fail
            go_quiet (fail)
            obtain ⟨tag2, L2, g1, g2, g3⟩ := HX.out
            have HX2 := Lib.hid (And.intro (g1.below (below_dN (Below.refl _ _) nq)) (And.intro (g2.drewN nq) g3))
            clear g1 g2 g3 HX b1 hbx
            go_wp2
            go_ret3
            refine ⟨?_, tag2, L2, ?_, HX2.out.2.1, HX2.out.2.2⟩
            · rw [HN.out.1, HT.out.2.1]; rfl
            · have e : addG s l = t'.addP l m y := by
                unfold addG
                rw [HT.out.1, HT.out.2.1, HT.out.2.2.1, ← HE.out.2.1]
                rfl
              rw [e]
              exact HX2.out.1
end Go.Proofs.YtlhipaffhehcnaaGreat
