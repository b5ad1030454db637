/- TopLeft: which sets a table has; the memory of its loops. -/
import Derived.Test.YtlhipaffhehcnaaGreatT42
namespace Go.Proofs.YtlhipaffhehcnaaGreat
open Go.RowKit Go.Shelf
set_option linter.unusedVariables false
set_option linter.unusedSimpArgs false
def seqs : Nat → List (List Nat)
  | 0 => [[]]
  | n + 1 => (List.range 4).flatMap fun a => (seqs n).map fun l => a :: l
theorem mem_seqs : ∀ {n : Nat} {t : List Nat}, t.length = n → (∀ x ∈ t, x ≤ 3) → t ∈ seqs n
  | 0, t, h, _ => by rw [List.length_eq_zero_iff.1 h]; exact List.mem_singleton.2 rfl
  | n + 1, [], h, _ => by cases h
  | n + 1, a :: t, h, hx => by
    unfold seqs
    refine List.mem_flatMap.2 ⟨a, List.mem_range.2 (by have := hx a (List.mem_cons_self ..); omega), List.mem_map.2 ⟨t, mem_seqs (by simpa using h) (fun x hm => hx x (List.mem_cons_of_mem _ hm)), rfl⟩⟩
def setsG (k : Nat) (t : List Nat) : Bool := Nat.ble (setsS t k).length 100 && (setsS t k).all fun s => (allS k).contains s && (Nat.ble 1 s.length && (Nat.ble s.length t.length && s.all fun x => Nat.ble x 1000))
set_option maxRecDepth 100000 in
theorem sets_g : ([(1, 1), (2, 1), (2, 2), (3, 1), (3, 2), (3, 3)] : List (Nat × Nat)).all (fun p => (seqs p.2).all (setsG p.1)) = true := by decide +kernel
theorem sets_says {t : List Nat} {k : Nat} (ht : tOk t k = true) (hk : k ≤ 3) (h3 : ∀ x ∈ t, x ≤ 3) : (setsS t k).length ≤ 100 ∧ ∀ s ∈ setsS t k, s ∈ allS k ∧ 1 ≤ s.length ∧ s.length ≤ t.length ∧ ∀ x ∈ s, x ≤ 1000 := by
  obtain ⟨k1, l1, l2⟩ := tOk_len ht
  have hm : (k, t.length) ∈ ([(1, 1), (2, 1), (2, 2), (3, 1), (3, 2), (3, 3)] : List (Nat × Nat)) := by
    generalize t.length = m at l1 l2
    rcases (by omega : (k = 1 ∧ m = 1) ∨ (k = 2 ∧ m = 1) ∨ (k = 2 ∧ m = 2) ∨ (k = 3 ∧ m = 1) ∨ (k = 3 ∧ m = 2) ∨ (k = 3 ∧ m = 3)) with ⟨rfl, rfl⟩ | ⟨rfl, rfl⟩ | ⟨rfl, rfl⟩ | ⟨rfl, rfl⟩ | ⟨rfl, rfl⟩ | ⟨rfl, rfl⟩ <;> decide
  have hg : setsG k t = true := List.all_eq_true.1 (List.all_eq_true.1 sets_g _ hm) t (mem_seqs rfl h3)
  unfold setsG at hg
  simp only [Bool.and_eq_true, Nat.ble_eq, List.all_eq_true, List.contains_iff_mem] at hg
  exact hg
/-- What tuples27 stands on, in TopLeft. -/
theorem top_tpc {t : List Nat} {k n nt : Nat} (ht : tOk t k = true) (hk : k ≤ 3) (hn : n ≤ 3) (h3 : ∀ x ∈ t, x ≤ 3) (hnt : t.length = nt) : TpC n k nt t (setsS t k) := by
  obtain ⟨k1, l1, l2⟩ := tOk_len ht
  obtain ⟨s1, s2⟩ := sets_says ht hk h3
  refine ⟨k1, by omega, ht, by omega, s1, fun s hs => ?_, fun bs h hm => left_all k1 hk hn (fun s hs => (s2 s hs).1) bs h hm⟩
  obtain ⟨_, a, b, c⟩ := s2 s hs
  exact ⟨a, by omega, c⟩
theorem tupO_le {t : List Nat} {k n : Nat} {sets bs : List (List Nat)} {part : Q} {out : List (Q × Nat)} (h : tupO t k sets n bs part = some out) : out.length ≤ 1000 := by
  cases n with
  | zero =>
    unfold tupO at h
    rw [← Option.some.inj h]
    exact (by decide : 1 ≤ 1000)
  | succ n =>
    unfold tupO at h
    cases hs : sets.length with
    | zero =>
      rw [hs] at h
      unfold tupR at h
      rw [← Option.some.inj h]
      exact Nat.zero_le _
    | succ m =>
      rw [hs] at h
      obtain ⟨l, o, _, _, _, e4, e5⟩ := tupR_at h (Nat.lt_succ_self m)
      rw [h] at e5
      rw [Option.some.inj e5, List.length_append]
      exact e4
/-- The weights that TopLeft takes. -/
def tabN (x : List Int) (j : Nat) : List Nat := (x.take j).map fun z => (z % 4).toNat
theorem tabN_len {x : List Int} {j : Nat} (h : j ≤ x.length) : (tabN x j).length = j := by
  unfold tabN
  rw [List.length_map, List.length_take]
  omega
theorem tabN_le {x : List Int} {j : Nat} : ∀ z ∈ tabN x j, z ≤ 3 := by
  intro z hz
  obtain ⟨y, _, e⟩ := List.mem_map.1 hz
  omega
theorem tabN_succ {x : List Int} {j : Nat} (h : j < x.length) {p : Nat} (hp : x[j] % 4 = (p : Int)) : wts (tabN x (j + 1)) = wts (tabN x j) ++ [.int .i64 (p : Nat)] := by
  unfold tabN wts
  rw [List.take_succ_eq_append_getElem h, List.map_append, List.map_append]
  simp [hp]
/-- TopLeft, ahead of its boxes. -/
structure TmA (w0 W : World) (B GS G : Nat) (vM vL : Value) (out : List (Q × Nat)) (st sums : List Q) : Prop where
  b : Below w0.heap.size w0 W
  st : GB W GS [] st
  m : ∃ rs, OutX W 40 3 B vM out.length (r3s rs) ∧ All3 W rs (out.map (·.1))
  l : OutX W 3 1 B vL out.length (wts (out.map (·.2)))
  s : GB W G [] sums
  o : w0.heap.size ≤ GS ∧ GS < B ∧ B ≤ G
  om : ∀ g, vM.ownBlock = some g → g < G
section
variable {w0 W W' : World} {B GS G : Nat} {vM vL : Value} {out : List (Q × Nat)} {st sums : List Q}
theorem TmA.below (h : TmA w0 W B GS G vM vL out st sums) (hb : Below W.heap.size W W') : TmA w0 W' B GS G vM vL out st sums := by
  obtain ⟨rs, h1, h2⟩ := h.m
  exact ⟨bl_next h.b hb, h.st.below hb, ⟨rs, h1.below hb, h2.below hb⟩, h.l.below hb, h.s.below hb, h.o, h.om⟩
theorem TmA.putS (h : TmA w0 W B GS G vM vL out st sums) {u : Nat} (hu : u < sums.length) {r : R3} {q : Q} (hq : QV W r.v q) : TmA w0 (s3 W G (u * 3) r) B GS G vM vL out st (sums.set u q) := by
  obtain ⟨hs, hk⟩ := h.s.put (fun i x e => by simp at e) hu hq
  obtain ⟨o1, o2, o3⟩ := h.o
  obtain ⟨rs0, hG, _⟩ := h.s
  have hc := chg_s3 W G (u * 3) r
  obtain ⟨rs, h1, h2⟩ := h.m
  refine ⟨hc.below h.b (fun k _ e => by omega) h.b.size, h.st.kq (hk 0) (by omega), ⟨rs, h1.kq (hk 0) (fun g e => by have := h.om g e; omega), (hk 0).all3 h2⟩, h.l.kq (hk 0) (fun g e e2 => ?_), hs, h.o, h.om⟩
  subst e2
  obtain ⟨_, cur, hb, _⟩ := h.l.blk e
  exact absurd (bk_ty hb hG) (by decide)
theorem TmA.boxes (h : TmA w0 W B GS G vM vL out st sums) {M1 : Nat} (hM : W.heap.size = M1) {r1 r2 : R3} {mean want : Q} (h1 : QV W r1.v mean) (h2 : QV W r2.v want) : TmI w0 ((W.alloc (.cells #[.bool r1.s, .slice r1.A r1.m r1.c, .slice r1.B r1.n r1.d] 40)).alloc (.cells #[.bool r2.s, .slice r2.A r2.m r2.c, .slice r2.B r2.n r2.d] 40)) B GS G M1 vM vL out st sums r1 r2 mean want := by
  subst hM
  have hb : Below W.heap.size W ((W.alloc (.cells #[.bool r1.s, .slice r1.A r1.m r1.c, .slice r1.B r1.n r1.d] 40)).alloc (.cells #[.bool r2.s, .slice r2.A r2.m r2.c, .slice r2.B r2.n r2.d] 40)) := bl_allocd (bl_allocd (Below.refl _ _) _) _
  have h' := h.below hb
  obtain ⟨o1, o2, o3⟩ := h.o
  obtain ⟨rs0, hG, _⟩ := h.s
  exact ⟨h'.b, h'.st, h'.m, h'.l, h'.s, (Bk.newA W 40 #[.bool r1.s, .slice r1.A r1.m r1.c, .slice r1.B r1.n r1.d]).alloc _, h1.below hb, Bk.new2 W _ 40 #[.bool r2.s, .slice r2.A r2.m r2.c, .slice r2.B r2.n r2.d], h2.below hb, ⟨o1, o2, o3, hG.lt⟩, h.om⟩
end
/-- A fraction in a row that only is read. -/
structure R3At (N b o : Nat) (r : R3) (f : Q) (W : World) : Prop where
  c0 : W.cell? ⟨b, o, none⟩ = some (.bool r.s)
  c1 : W.cell? ⟨b, o + 1, none⟩ = some (.slice r.A r.m r.c)
  c2 : W.cell? ⟨b, o + 2, none⟩ = some (.slice r.B r.n r.d)
  v : QV W r.v f
  t : b < N ∧ N ≤ W.heap.size
section
variable {W W' : World} {N b o : Nat} {r : R3} {f : Q}
theorem R3At.below (h : R3At N b o r f W) (hb : Below W.heap.size W W') : R3At N b o r f W' := by
  have hl : b < W.heap.size := Nat.lt_of_lt_of_le h.t.1 h.t.2
  exact ⟨(hb.cell (p := ⟨b, o, none⟩) hl).trans h.c0, (hb.cell (p := ⟨b, o + 1, none⟩) hl).trans h.c1, (hb.cell (p := ⟨b, o + 2, none⟩) hl).trans h.c2, h.v.below hb, h.t.1, Nat.le_trans h.t.2 hb.size⟩
theorem R3At.allocd (h : R3At N b o r f W) (x : Obj) : R3At N b o r f (W.alloc x) := h.below (bl_allocd (Below.refl _ _) x)
theorem R3At.drew (h : R3At N b o r f W) : R3At N b o r f W.drew := h.below (Below.refl _ _).drew
theorem R3At.three (h : R3At N b o r f W) : W.cell? ⟨b, o, none⟩ = some (.bool r.s) ∧ W.cell? ⟨b, o + 1, none⟩ = some (.slice r.A r.m r.c) ∧ W.cell? ⟨b, o + 2, none⟩ = some (.slice r.B r.n r.d) := ⟨h.c0, h.c1, h.c2⟩
theorem R3At.chg (h : R3At N b o r f W) {S : Nat → Prop} (hc : Chg S W W') (hS : ¬ S b) : W'.cell? ⟨b, o, none⟩ = some (.bool r.s) ∧ W'.cell? ⟨b, o + 1, none⟩ = some (.slice r.A r.m r.c) ∧ W'.cell? ⟨b, o + 2, none⟩ = some (.slice r.B r.n r.d) := by
  have hl : b < W.heap.size := Nat.lt_of_lt_of_le h.t.1 h.t.2
  exact ⟨(World.cell?_of_block (hc.2 b hl hS)).trans h.c0, (World.cell?_of_block (hc.2 b hl hS)).trans h.c1, (World.cell?_of_block (hc.2 b hl hS)).trans h.c2⟩
theorem R3At.three3 (h : R3At N b o r f W) {g : Nat} (hg : N ≤ g) (u : R3) : (((W.setCell ⟨g, 0, none⟩ (.bool u.s)).setCell ⟨g, 1, none⟩ (.slice u.A u.m u.c)).setCell ⟨g, 2, none⟩ (.slice u.B u.n u.d)).cell? ⟨b, o, none⟩ = some (.bool r.s) ∧ (((W.setCell ⟨g, 0, none⟩ (.bool u.s)).setCell ⟨g, 1, none⟩ (.slice u.A u.m u.c)).setCell ⟨g, 2, none⟩ (.slice u.B u.n u.d)).cell? ⟨b, o + 1, none⟩ = some (.slice r.A r.m r.c) ∧ (((W.setCell ⟨g, 0, none⟩ (.bool u.s)).setCell ⟨g, 1, none⟩ (.slice u.A u.m u.c)).setCell ⟨g, 2, none⟩ (.slice u.B u.n u.d)).cell? ⟨b, o + 2, none⟩ = some (.slice r.B r.n r.d) :=
  h.chg (chg_set3 W g u) (by have := h.t.1; omega)
end
/-- A mass, and how many symbols are left, in rows that only are read. -/
structure RowAt (N bM oM bL oL : Nat) (r : R3) (f : Q) (z : Nat) (W : World) : Prop where
  a : R3At N bM oM r f W
  e : W.cell? ⟨bL, oL, none⟩ = some (.int .i64 (z : Nat))
  y : bL < N
section
variable {W W' : World} {N bM oM bL oL z : Nat} {r : R3} {f : Q}
theorem RowAt.below (h : RowAt N bM oM bL oL r f z W) (hb : Below W.heap.size W W') : RowAt N bM oM bL oL r f z W' :=
  ⟨h.a.below hb, (hb.cell (p := ⟨bL, oL, none⟩) (Nat.lt_of_lt_of_le h.y h.a.t.2)).trans h.e, h.y⟩
theorem RowAt.allocd (h : RowAt N bM oM bL oL r f z W) (x : Obj) : RowAt N bM oM bL oL r f z (W.alloc x) := h.below (bl_allocd (Below.refl _ _) x)
theorem RowAt.drew (h : RowAt N bM oM bL oL r f z W) : RowAt N bM oM bL oL r f z W.drew := h.below (Below.refl _ _).drew
theorem RowAt.four (h : RowAt N bM oM bL oL r f z W) : W.cell? ⟨bM, oM, none⟩ = some (.bool r.s) ∧ W.cell? ⟨bM, oM + 1, none⟩ = some (.slice r.A r.m r.c) ∧ W.cell? ⟨bM, oM + 2, none⟩ = some (.slice r.B r.n r.d) ∧ W.cell? ⟨bL, oL, none⟩ = some (.int .i64 (z : Nat)) := ⟨h.a.c0, h.a.c1, h.a.c2, h.e⟩
theorem RowAt.chg (h : RowAt N bM oM bL oL r f z W) {S : Nat → Prop} (hc : Chg S W W') (hS : ¬ S bM) (hS2 : ¬ S bL) : W'.cell? ⟨bM, oM, none⟩ = some (.bool r.s) ∧ W'.cell? ⟨bM, oM + 1, none⟩ = some (.slice r.A r.m r.c) ∧ W'.cell? ⟨bM, oM + 2, none⟩ = some (.slice r.B r.n r.d) ∧ W'.cell? ⟨bL, oL, none⟩ = some (.int .i64 (z : Nat)) := by
  obtain ⟨a, b, c⟩ := h.a.chg hc hS
  exact ⟨a, b, c, (World.cell?_of_block (hc.2 bL (Nat.lt_of_lt_of_le h.y h.a.t.2) hS2)).trans h.e⟩
theorem RowAt.four3 (h : RowAt N bM oM bL oL r f z W) {g : Nat} (hg : N ≤ g) (u : R3) : (((W.setCell ⟨g, 0, none⟩ (.bool u.s)).setCell ⟨g, 1, none⟩ (.slice u.A u.m u.c)).setCell ⟨g, 2, none⟩ (.slice u.B u.n u.d)).cell? ⟨bM, oM, none⟩ = some (.bool r.s) ∧ (((W.setCell ⟨g, 0, none⟩ (.bool u.s)).setCell ⟨g, 1, none⟩ (.slice u.A u.m u.c)).setCell ⟨g, 2, none⟩ (.slice u.B u.n u.d)).cell? ⟨bM, oM + 1, none⟩ = some (.slice r.A r.m r.c) ∧ (((W.setCell ⟨g, 0, none⟩ (.bool u.s)).setCell ⟨g, 1, none⟩ (.slice u.A u.m u.c)).setCell ⟨g, 2, none⟩ (.slice u.B u.n u.d)).cell? ⟨bM, oM + 2, none⟩ = some (.slice r.B r.n r.d) ∧ (((W.setCell ⟨g, 0, none⟩ (.bool u.s)).setCell ⟨g, 1, none⟩ (.slice u.A u.m u.c)).setCell ⟨g, 2, none⟩ (.slice u.B u.n u.d)).cell? ⟨bL, oL, none⟩ = some (.int .i64 (z : Nat)) :=
  h.chg (chg_set3 W g u) (by have := h.a.t.1; omega) (by have := h.y; omega)
end
/-- What lies at a place of both rows. -/
theorem TmI.row {w0 W : World} {B GS G M1 M cM cL i : Nat} {AM AL : Option Addr} {out : List (Q × Nat)} {st sums : List Q} {r1 r2 : R3} {mean want : Q} (h : TmI w0 W B GS G M1 (.slice AM M cM) (.slice AL M cL) out st sums r1 r2 mean want) (hM : out.length = M) (hi : i < M) {x : Q × Nat} (hx : out[i]? = some x) :
    ∃ bM oM bL oL r, AM = some ⟨bM, oM, none⟩ ∧ AL = some ⟨bL, oL, none⟩ ∧ RowAt W.heap.size bM (oM + i * 3) bL (oL + i) r x.1 x.2 W ∧ bM ≠ G ∧ bL ≠ G := by
  obtain ⟨rs, hO, hA⟩ := h.m
  rw [hM] at hO
  have hL := h.l
  rw [hM] at hL
  obtain ⟨A1, c1, e1, _, hR1, f1⟩ := hO.form
  obtain ⟨A2, c2, e2, _, hR2, f2⟩ := hL.form
  injection e1 with e1 _ _
  injection e2 with e2 _ _
  subst e1
  subst e2
  have hrl : rs.length = M := by have := hA.len; rw [List.length_map, hM] at this; exact this
  have hQ : QR W AM M (out.map (·.1)) := ⟨rs, hrl, by rw [Nat.mul_comm]; exact hR1, hA⟩
  obtain ⟨bM, oM, eM, hbM, hcM⟩ := hQ.form (by omega)
  obtain ⟨bL, oL, eL, hbL, hcL⟩ := hR2.form (by omega)
  have hxi := List.getElem?_eq_some_iff.1 hx
  obtain ⟨hi2, hxe⟩ := hxi
  obtain ⟨r, hq, d0, d1, d2⟩ := hcM i (by rw [List.length_map]; exact hi2)
  have hq1 : (out.map (·.1))[i]'(by rw [List.length_map]; exact hi2) = x.1 := by rw [List.getElem_map, hxe]
  rw [hq1] at hq
  refine ⟨bM, oM, bL, oL, r, eM, eL, ⟨⟨d0, d1, d2, hq, hbM, Nat.le_refl _⟩, hcL i _ ?_, hbL⟩, ?_, ?_⟩
  · unfold wts
    rw [List.getElem?_map, List.getElem?_map, hx]
    rfl
  · subst eM
    obtain ⟨ea, eo⟩ := f1 _ rfl
    have := h.om bM eo
    omega
  · subst eL
    obtain ⟨ea, eo⟩ := f2 _ rfl
    obtain ⟨_, cur, hb, _⟩ := hL.blk eo
    obtain ⟨rs0, hG, _⟩ := h.s
    intro e
    subst e
    exact absurd (bk_ty hb hG) (by decide)
/-- What lies at a place of a row of fractions. -/
theorem GB.row {W : World} {g i : Nat} {qs : List Q} (h : GB W g [] qs) {f : Q} (hf : qs[i]? = some f) : ∃ r, R3At W.heap.size g (i * 3) r f W := by
  obtain ⟨hi, he⟩ := List.getElem?_eq_some_iff.1 hf
  obtain ⟨r, hq, d0, d1, d2, _⟩ := h.form hi
  rw [he] at hq
  exact ⟨r, d0, d1, d2, hq, h.lt, Nat.le_refl _⟩
/-- A drawn region, by the walk in which S is held. -/
theorem region_plain {P : Program} {ops : Array Oper} {Q : Exit → Act → World → Prop} {S : World → Prop} {id : Nat} {a : Act} {w : World} (hm : P.follows .mixedOrders = true) (hS : S w.drew) (h : S w.drew → wpAnyH P .any ops Q S ops.size (Array.replicate ops.size false) a w.drew) : (Code.region id ops true).wp P Q a w :=
  wp_region_held hm (h hS)
end Go.Proofs.YtlhipaffhehcnaaGreat
