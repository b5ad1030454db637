/- block: Sum. -/
import Derived.Test.YtdpmkijkniobpaaNm18
namespace Go.Proofs.Ytdpmkijkniobpaa
open Go.RowKit Go.Shelf
set_option linter.unusedVariables false
attribute [local go_sem] Oper.semAt_some
theorem run_make_bytes (m : Nat) (hm : m ≤ 1000000) (w : World) : (Instr.makeSlice 22 (.int .i64 (m : Int)) (.int .i64 (m : Int))).run Try.prog w = .ok (.slice (some ⟨w.heap.size, 0, none⟩) m m) (w.alloc (.cells (bys (List.replicate m 0)).toArray 5)) := by
  obtain ⟨i0, hi0, hz0, hz1, hz2⟩ := info_parts u8_info
  have := run_make (P := Try.prog) w 22 5 i0 (.int .u8 0) Try.underlying22 hi0 hz0 .i64 .i64 m m (by omega) (by omega) (by rw [hz2]; omega) (by omega)
  rw [hz1] at this
  simp only [Int.toNat_natCast] at this
  rw [show madeCells (Value.int .u8 0).cells (m * 1) = (bys (List.replicate m 0)).toArray from by rw [← zeros_bys]] at this
  exact this
theorem bk_ne {w : World} {g g' : Nat} {t t' : TypeId} {cs cs' : List Value} (h : Bk w g t cs) (h' : Bk w g' t' cs') (hne : t ≠ t') : g ≠ g' := by
  intro e
  subst e
  unfold Bk at h h'
  rw [h] at h'
  injection h' with h'; injection h' with _ h'
  exact hne h'
def natsL (pre : List Nat) : List Int := pre.map fun (p : Nat) => (p : Int)
theorem smL_snoc (xss : List (List UInt8)) (pre : List Nat) (x : Nat) : smL xss (natsL (pre ++ [x])) = xorL (smL xss (natsL pre)) (xss.getD x []) := by
  unfold smL sumL natsL
  rw [List.map_append, List.map_append, List.foldl_append]; rfl
theorem smL_nats (xss : List (List UInt8)) (set : List Int) : smL xss (natsL (set.map Int.toNat)) = smL xss set := by
  unfold smL natsL
  rw [List.map_map, List.map_map]
  rfl
/-- What is in Sum's variables between two rounds. -/
structure SmI (w0 : World) (Bd G O B1 B2 B3 a off n c m d s : Nat) (A1 : Option Addr) (xss : List (List UInt8)) (pre : List Nat) (W : World) : Prop where
  dd : ∃ b, Bk W Bd 4 [.bool b] ∧ (m = 0 → b = true)
  o : Bk W O 22 [.slice (some ⟨G, 0, none⟩) s s]
  b1 : Bk W B1 33 [.slice A1 m d]
  b2 : Bk W B2 25 [.slice (some ⟨a, off, none⟩) n c]
  b3 : Bk W B3 58 [.pointer (some ⟨Bd, 0, none⟩)]
  own : W.ownsRow w0.heap.size 5 1 (.slice (some ⟨G, 0, none⟩) s s) s (bys (smL xss (natsL pre)))
  ok : ∀ p ∈ pre, p < n
  b : Below w0.heap.size w0 W
  db : w0.heap.size ≤ Bd
section
variable {w0 W W' : World} {Bd G O B1 B2 B3 a off n c m d s : Nat} {A1 : Option Addr} {xss : List (List UInt8)} {pre : List Nat}
theorem SmI.grown (h : SmI w0 Bd G O B1 B2 B3 a off n c m d s A1 xss pre W) {row : Option Nat} (hg : W.grownBy W' row) (hr : ∀ r, row = some r → w0.heap.size ≤ r ∧ ∃ o : Obj, W.heap[r]? = some o ∧ o.isCells = false) : SmI w0 Bd G O B1 B2 B3 a off n c m d s A1 xss pre W' := by
  have hr' := fun r e => (hr r e).2
  obtain ⟨hc, hb⟩ := chg_row hg hr'
  obtain ⟨b, hd1, hd2⟩ := h.dd
  exact { dd := ⟨b, hc.bk hd1 (hb hd1), hd2⟩, o := hc.bk h.o (hb h.o), b1 := hc.bk h.b1 (hb h.b1), b2 := hc.bk h.b2 (hb h.b2), b3 := hc.bk h.b3 (hb h.b3), own := own_row h.own hg hr', ok := h.ok, b := h.b.grown hg h.b.size (fun k e => (hr k e).1), db := h.db }
theorem SmI.setB (h : SmI w0 Bd G O B1 B2 B3 a off n c m d s A1 xss pre W) (hm : 0 < m) (b : Bool) : SmI w0 Bd G O B1 B2 B3 a off n c m d s A1 xss pre (W.setCell ⟨Bd, 0, none⟩ (.bool b)) := by
  obtain ⟨b0, hd1, hd2⟩ := h.dd
  have hc : Chg (fun x => x = Bd) W (W.setCell ⟨Bd, 0, none⟩ (.bool b)) := (Chg.refl (fun x => x = Bd) W).set_ (g := Bd) (show (fun x => x = Bd) Bd from rfl) _ _
  exact { dd := ⟨b, hd1.set_ 0 (.bool b), fun h => by omega⟩, o := hc.bk h.o (bk_ne h.o hd1 (by decide)), b1 := hc.bk h.b1 (bk_ne h.b1 hd1 (by decide)), b2 := hc.bk h.b2 (bk_ne h.b2 hd1 (by decide)), b3 := hc.bk h.b3 (bk_ne h.b3 hd1 (by decide)), own := hc.own h.own (fun a ha (e : a.block = Bd) => bk_apart hd1 h.own (by decide) (by rw [← e]; injection ha with ha; rw [← ha]; rfl)), ok := h.ok, b := hc.below h.b (fun k _ e => by have e' : k = Bd := e; rw [e']; exact h.db) h.b.size, db := h.db }
theorem SmI.into (h : SmI w0 Bd G O B1 B2 B3 a off n c m d s A1 xss pre W) {x : Nat} (hx : x < n) (hlen : (xorL (smL xss (natsL pre)) (xss.getD x [])).length = s) (B : Nat)
    (hu : Upd W W' G 0 (bys (xorL (smL xss (natsL pre)) (xss.getD x [])))) (hG : w0.heap.size ≤ G) (hsz : 0 < s) :
    KeepsFrom B W W' ∧ (∀ cs, Bk W Bd 4 cs → Bk W' Bd 4 cs) ∧ SmI w0 Bd G O B1 B2 B3 a off n c m d s A1 xss (pre ++ [x]) W' := by
  have hc : Chg (fun b => b = G) W W' := Chg.of_grown hu.1 (fun k e => by injection e with e; exact e.symm)
  have nb : ∀ {g : Nat} {t : TypeId} {cs : List Value}, Bk W g t cs → t ≠ 5 → ¬ (g = G) := fun hk hne e => by
    subst e
    exact bk_apart hk h.own hne rfl
  obtain ⟨b0, hd1, hd2⟩ := h.dd
  obtain ⟨g, hmut, _, _, hupd⟩ := Mut.of_own h.own
  have hg : G = g := by
    have := (hmut.2 hsz).1
    injection this with this; injection this with this
  subst hg
  have hown := hupd W' _ (by rw [bys_length]; exact hlen) hu
  refine ⟨(KeepsOthers.of_grownBy hu.1 (fun j o e ho => own_cells h.own j o (by rw [← e]; rfl) ho)).from B, fun cs hk => hc.bk hk (nb hk (by decide)), { dd := ⟨b0, hc.bk hd1 (nb hd1 (by decide)), hd2⟩, o := hc.bk h.o (nb h.o (by decide)), b1 := hc.bk h.b1 (nb h.b1 (by decide)), b2 := hc.bk h.b2 (nb h.b2 (by decide)), b3 := hc.bk h.b3 (nb h.b3 (by decide)), own := by rw [smL_snoc]; exact hown, ok := fun p hp => (List.mem_append.1 hp).elim (fun e => h.ok p e) (fun e => by rw [List.mem_singleton] at e; rw [e]; exact hx), b := hc.below h.b (fun k _ e => by have e' : k = G := e; rw [e']; exact hG) h.b.size, db := h.db }⟩
end
set_option maxRecDepth 100000 in
set_option maxHeartbeats 4000000 in
/-- Sum -/
theorem sum_any {w : World} {A : Option Addr} {n c : Nat} {xss : List (List UInt8)} {B : Option Addr} {m d : Nat} {set : List Int} (h : Syms w A n xss) (hn : n ≤ 5864062014634) (hr : Rd w B m (nums set)) (hm : m ≤ 1000000) :
    Calls Try.prog 20 #[.slice A n c, .slice B m d] w (Told w (smV xss set) (smE xss set)) := by
  have hsl : set.length = m := by have := hr.1; simpa [nums_length] using this
  have HC := Lib.hid (And.intro ((callsIn_wide (n := 4)).2 (check_any (c := c) h hn)) (And.intro h h.len))
  refine (callsIn_wide (n := 5)).1 ?_
  refine callsIn_of_wp_marks Try.func20 rfl trivial ?_ rfl
  simp only [Try.ntmps20, List.size_toArray, List.length_cons, List.length_nil, Nat.reduceAdd, Nat.reduceSub, Array.replicate_succ, Array.replicate_zero, List.push_toArray, List.append_toArray, List.nil_append, List.cons_append]
  cases hb : bkB xss with
  | false =>
    have hE : smE xss set = 2 := by unfold smE; rw [hb]; rfl
    rw [sm_no hE (by omega), hE]
    have HE := Lib.hid (show bkE xss = 2 from by unfold bkE; rw [hb]; rfl)
    clear h hb hE hn hr hsl
    gi_wp2_with (refine ⟨trivial, ?_⟩; gi_at_call 22; refine HC.out.1.mono ?_; rintro e w1 ⟨rfl, hb1⟩; rw [HE.out]; have HB := Lib.hid hb1; clear hb1)
    gi_wp2
    exact ⟨.tuple #[.slice none 0 0, .int .i64 2], by simp [results, Try.results20, go_sem], _, rfl, World.ownsRow_nil _ _ _ _, HB.out⟩
  | true =>
    have hok := bkB_iff.1 hb
    have HE := Lib.hid (show bkE xss = 0 from by unfold bkE; rw [hb]; rfl)
    have hn0 : 0 < n := by rw [← HC.out.2.2]; exact hok.1.1
    obtain ⟨vs, hrv, hrows⟩ := h
    obtain ⟨a, off, rfl, ha, hca⟩ := hrv.form hn0
    have hl : xss.length = n := HC.out.2.2
    obtain ⟨B0, cc, hv0, hc0, hq0, hr0⟩ := hrows.at_ (k := 0) (by omega)
    have c0 := hca 0 _ hv0
    rw [Nat.add_zero] at c0
    obtain ⟨s, hs⟩ : ∃ s, (xss.getD 0 []).length = s := ⟨_, rfl⟩
    rw [← getD_at (show 0 < xss.length by omega), hs] at c0
    have hsz : 1 ≤ n ∧ n ≤ 65536 ∧ 1 ≤ s ∧ s ≤ 65535 := by have := hok.1; omega
    have hmk := run_make_bytes s (by omega)
    obtain ⟨Zs, hZs⟩ : ∃ Z, (bys (List.replicate s 0)) = Z := ⟨_, rfl⟩
    rw [hZs] at hmk
    have HO := Lib.hid (And.intro hb (And.intro hl (And.intro hok.2 (And.intro hs (And.intro hsz (And.intro hrv (And.intro hrows (And.intro hr (And.intro hsl hZs)))))))))
    have hm' : (m : Int) ≤ 1000000 := by omega
    clear hb hv0 hc0 hr0 hq0 hok hl hs hsz hrv hrows hr hsl hZs hca
    gi_wp2_with (first | (refine ⟨trivial, ?_⟩; gi_at_call 22; refine HC.out.1.mono ?_; rintro e w1 ⟨rfl, hb1⟩; rw [HE.out]; have HB := Lib.hid hb1; have c1 := (hb1.cell (p := ⟨a, off, none⟩) ha).trans c0; have c2 := (World.cell?_alloc_lt w1 (.cells #[.bool ((m : Int) == 0)] 4) ⟨a, off, none⟩ (World.block_lt_of_cell? _ _ c1)).trans c1; clear hb1 c0) | (refine ⟨trivial, ?_⟩; gi_at_call 35; refine (named_in 4 _ _ _ _ _ _ _ _).mono ?_; rintro e w' ⟨rfl, rfl⟩))
    obtain ⟨b0, hb0⟩ : ∃ b0, ((m : Int) == 0) = b0 := ⟨_, rfl⟩
    have HM0 := Lib.hid (show m = 0 → b0 = true from fun e => by rw [← hb0, e]; rfl)
    rw [hb0] at c2 ⊢
    clear hb0 c1 c2
    obtain ⟨q, hq⟩ : ∃ q, w1.heap.size = q := ⟨_, rfl⟩
    rw [hq]
    have e0 := Bk.newA w1 4 #[.bool b0]
    have e1 := Bk.newA (w1.alloc (.cells #[.bool b0] 4)) 5 Zs.toArray
    have e2 := Bk.newA ((w1.alloc (.cells #[.bool b0] 4)).alloc (.cells Zs.toArray 5)) 22 #[.slice (some ⟨q + 1, 0, none⟩) s s]
    have e3 := Bk.newA (((w1.alloc (.cells #[.bool b0] 4)).alloc (.cells Zs.toArray 5)).alloc (.cells #[.slice (some ⟨q + 1, 0, none⟩) s s] 22)) 25 #[.slice (some ⟨a, off, none⟩) n c]
    have e4 := Bk.newA ((((w1.alloc (.cells #[.bool b0] 4)).alloc (.cells Zs.toArray 5)).alloc (.cells #[.slice (some ⟨q + 1, 0, none⟩) s s] 22)).alloc (.cells #[.slice (some ⟨a, off, none⟩) n c] 25)) 33 #[.slice B m d]
    have e5 := Bk.newA (((((w1.alloc (.cells #[.bool b0] 4)).alloc (.cells Zs.toArray 5)).alloc (.cells #[.slice (some ⟨q + 1, 0, none⟩) s s] 22)).alloc (.cells #[.slice (some ⟨a, off, none⟩) n c] 25)).alloc (.cells #[.slice B m d] 33)) 58 #[.pointer (some ⟨q, 0, none⟩)]
    have hbl : Below w1.heap.size w1 ((((((w1.alloc (.cells #[.bool b0] 4)).alloc (.cells Zs.toArray 5)).alloc (.cells #[.slice (some ⟨q + 1, 0, none⟩) s s] 22)).alloc (.cells #[.slice (some ⟨a, off, none⟩) n c] 25)).alloc (.cells #[.slice B m d] 33)).alloc (.cells #[.pointer (some ⟨q, 0, none⟩)] 58)) := by
      exact ((((((Below.refl _ w1).alloc (Nat.le_refl _) _).alloc (by simp only [World.size_alloc]; omega) _).alloc (by simp only [World.size_alloc]; omega) _).alloc (by simp only [World.size_alloc]; omega) _).alloc (by simp only [World.size_alloc]; omega) _).alloc (by simp only [World.size_alloc]; omega) _
    simp only [World.size_alloc, hq] at e0 e1 e2 e3 e4 e5
    have e0 := ((((e0.alloc (.cells Zs.toArray 5)).alloc (.cells #[.slice (some ⟨q + 1, 0, none⟩) s s] 22)).alloc (.cells #[.slice (some ⟨a, off, none⟩) n c] 25)).alloc (.cells #[.slice B m d] 33)).alloc (.cells #[.pointer (some ⟨q, 0, none⟩)] 58)
    have e1 := (((e1.alloc (.cells #[.slice (some ⟨q + 1, 0, none⟩) s s] 22)).alloc (.cells #[.slice (some ⟨a, off, none⟩) n c] 25)).alloc (.cells #[.slice B m d] 33)).alloc (.cells #[.pointer (some ⟨q, 0, none⟩)] 58)
    have e2 := ((e2.alloc (.cells #[.slice (some ⟨a, off, none⟩) n c] 25)).alloc (.cells #[.slice B m d] 33)).alloc (.cells #[.pointer (some ⟨q, 0, none⟩)] 58)
    have e3 := (e3.alloc (.cells #[.slice B m d] 33)).alloc (.cells #[.pointer (some ⟨q, 0, none⟩)] 58)
    have e4 := e4.alloc (.cells #[.pointer (some ⟨q, 0, none⟩)] 58)
    generalize ((((((w1.alloc (.cells #[.bool b0] 4)).alloc (.cells Zs.toArray 5)).alloc (.cells #[.slice (some ⟨q + 1, 0, none⟩) s s] 22)).alloc (.cells #[.slice (some ⟨a, off, none⟩) n c] 25)).alloc (.cells #[.slice B m d] 33)).alloc (.cells #[.pointer (some ⟨q, 0, none⟩)] 58)) = w3 at e0 e1 e2 e3 e4 e5 hbl ⊢
    have hwq : w.heap.size ≤ q := by rw [← hq]; exact HB.out.size
    have hs0 : smL xss (natsL []) = List.replicate s 0 := by unfold smL sumL natsL; rw [HO.out.2.2.2.1]; rfl
    have hst : SmI w q (q + 1) (q + 1 + 1) (q + 1 + 1 + 1 + 1) (q + 1 + 1 + 1) (q + 1 + 1 + 1 + 1 + 1) a off n c m d s B xss [] w3 :=
      { dd := ⟨b0, e0, HM0.out⟩, o := e2, b1 := e4, b2 := e3, b3 := e5, own := ⟨by rw [hs0]; simp [bys], .inr ⟨q + 1, s, Zs.toArray, rfl, by omega, e1, Nat.le_refl _, by have := HO.out.2.2.2.2.1; simp only [maxLen]; omega, by rw [← HO.out.2.2.2.2.2.2.2.2.2]; simp [bys], by rw [hs0, ← HO.out.2.2.2.2.2.2.2.2.2]; simp [bys]⟩⟩, ok := fun p hp => (by simp at hp), b := below_base HB.out hbl HB.out.size, db := hwq }
    have HI := Lib.hid (And.intro hst (show w1.heap.size ≤ w3.heap.size from hbl.size))
    have HQ := Lib.hid (And.intro hq hwq)
    clear e0 e1 e2 e3 e4 e5 hbl hst hq hwq hs0
    have hro : Fence.wide.round = none := rfl
    have h15 : 1 ≤ 5 := by decide
    refine range_writes hro h15 (gf := 43) (lb := #[.pointer (some ⟨q + 1 + 1 + 1 + 1, 0, none⟩), .pointer (some ⟨q + 1 + 1 + 1, 0, none⟩), .pointer (some ⟨q + 1 + 1 + 1 + 1 + 1, 0, none⟩)]) ?hg trivial (enters_of Try.func43 (by kernel_rfl) rfl)
      (encs := fun x : Nat => #[vs.getD x undef]) ?hps (fun x => x < n) (fun W W' => ∀ cs, Bk W q 4 cs → Bk W' q 4 cs)
      (SmI w q (q + 1) (q + 1 + 1) (q + 1 + 1 + 1 + 1) (q + 1 + 1 + 1) (q + 1 + 1 + 1 + 1 + 1) a off n c m d s B xss) (nmE q m n set) (fun h k cs hc => k cs (h cs hc)) ?hput ?hnew HI.out.1 ?hseq
      (fun x => { tmps := #[.slice (some ⟨a, off, none⟩) n c, .slice B m d, undef, undef, .slice none 0 0, .int .i64 0, .int .i64 0, .pointer (some ⟨q, 0, none⟩), .pointer (some ⟨q + 1 + 1, 0, none⟩), vs.getD x undef, .slice (some ⟨a, off, none⟩) n c, .int .i64 0, .int .i64 0, .bool false, undef, .slice B m d, .int .i64 (m : Int), .bool b0, .slice (some ⟨a, off, none⟩) n c, .pointer (some ⟨a, off, none⟩), .slice B0 s cc, .int .i64 (s : Int), .slice (some ⟨q + 1, 0, none⟩) s s, .slice (some ⟨a, off, none⟩) n c, .slice B m d, .func (.func 43) #[] #[.pointer (some ⟨q + 1 + 1 + 1 + 1, 0, none⟩), .pointer (some ⟨q + 1 + 1 + 1, 0, none⟩), .pointer (some ⟨q + 1 + 1 + 1 + 1 + 1, 0, none⟩)], vs.getD x undef, undef, undef, undef, undef, undef], defers := [] }) ?assign ?body ?done
    case hg => rfl
    case hps => intro x; rfl
    case hput =>
      intro W l o o' hl ho hc
      have hr : ∀ r, some l = some r → w.heap.size ≤ r ∧ ∃ o : Obj, W.heap[r]? = some o ∧ o.isCells = false := fun r e => by cases e; exact ⟨by have := HI.out.2; have := HB.out.size; omega, o, ho, hc⟩
      obtain ⟨hch, hbk⟩ := chg_row (grownBy_putObj' W l o') (fun r e => (hr r e).2)
      refine ⟨fun pre hi => hi.grown (grownBy_putObj' W l o') hr, fun pre hE => ?_, fun cs hk => hch.bk hk (hbk hk)⟩
      rcases hE with ⟨h1, h2, h3⟩ | ⟨h1, h2⟩
      · exact .inl ⟨h1, h2, fun h => hch.bk (h3 h) (hbk (h3 h))⟩
      · exact .inr ⟨h1, hch.bk h2 (hbk h2)⟩
    case hnew =>
      intro W o pre hi
      exact hi.grown (World.grownBy_alloc W o none) (fun r e => by cases e)
    case hseq =>
      intro l J W hJI hJc hY h0
      refine named1_in 4 (by omega) l w3.heap.size (q + 1 + 1 + 1 + 1) (q + 1 + 1 + 1) (q + 1 + 1 + 1 + 1 + 1) q a off n c m d B vs set HO.out.2.2.2.2.1.2.1 hm ?_ _ J ?_ (fun pre W b hi hm => hi.setB hm b) W hJI hJc (fun pre x W1 hx hj => hY pre x W1 hx hj) h0
      · intro v hv
        obtain ⟨i, hi, rfl⟩ := List.mem_iff_getElem.1 hv
        obtain ⟨C, c', h1, _⟩ := HO.out.2.2.2.2.2.2.1.2 i _ (List.getElem?_eq_getElem (by rw [← HO.out.2.2.2.2.2.2.1.1]; exact hi))
        rw [List.getElem?_eq_getElem hi] at h1
        injection h1 with h1
        exact ⟨C, _, c', h1⟩
      · intro pre W hi
        obtain ⟨b, hd, _⟩ := hi.dd
        exact { s := hi.b1.cell 0, y := hi.b2.cell 0, p := hi.b3.cell 0, d := ⟨b, hd⟩, r := HO.out.2.2.2.2.2.1.below hi.b, t := HO.out.2.2.2.2.2.2.2.1.below hi.b }
    case assign =>
      intro l x W K hK
      gi_wp2
      exact hK
    case body =>
      intro l pre x W hx hi
      have hxl : x < xss.length := by rw [HO.out.2.1]; exact hx
      obtain ⟨C, cr, hv, hcr, hmr, hrr⟩ := HO.out.2.2.2.2.2.2.1.at_ hxl
      have hxs : xss[x].length = s := by rw [HO.out.2.2.1 _ (List.getElem_mem hxl), HO.out.2.2.2.1]
      rw [hxs] at hv hcr hrr
      have hval : vs.getD x undef = .slice C s cr := by rw [List.getD_eq_getElem?_getD, hv]; rfl
      have hcur : (smL xss (natsL pre)).length = s := by
        rw [smL_len HO.out.2.2.1 (fun z hz => by
          obtain ⟨p, hp, rfl⟩ := List.mem_map.1 hz
          exact ⟨by omega, by rw [Int.toNat_natCast, HO.out.2.1]; exact hi.ok p hp⟩), HO.out.2.2.2.1]
      have hs := HO.out.2.2.2.2.1
      obtain ⟨g, hmut, hge, hglt, hupd⟩ := Mut.of_own hi.own
      have hg : q + 1 = g := by
        have := (hmut.2 (by omega)).1
        injection this with this; injection this with this
      subst hg
      have hIn := into_any (c := s) (c' := cr) hmut (hrr.below hi.b) (fun _ a ha => by have := hrr.lt (by omega) a ha; have := HQ.out.2; omega) (by omega) (Nat.le_refl _) hcr
      rw [← getD_at hxl] at hIn hxs
      have HIn := Lib.hid (And.intro hIn (And.intro hi (show (xorL (smL xss (natsL pre)) (xss.getD x [])).length = s by rw [xorL_length _ _ (by rw [hcur, hxs])]; exact hcur)))
      have o0 := hi.o.cell 0
      rw [hval]
      clear hv hcr hmr hrr hval hcur hmut hge hglt hupd hIn hi hxl hxs
      gi_wp2_with (refine ⟨trivial, ?_⟩; gi_at_call 36; refine (CallsIn.inRound l ((callsIn_wide).2 HIn.out.1)).mono ?_; rintro e w5 ⟨rfl, hu⟩; have HU := Lib.hid hu; clear hu)
      gi_wp2
      exact HIn.out.2.1.into hx HIn.out.2.2 _ HU.out (by have := HQ.out.2; omega) (by omega)
    case done =>
      intro D xs W hD hi hE hKD
      have hwD : w.heap.size ≤ D := by have := HI.out.2; have := HB.out.size; omega
      have hr : ∀ r, some D = some r → ∃ o : Obj, W.heap[r]? = some o ∧ o.isCells = false := fun r e => by cases e; exact ⟨_, hKD, rfl⟩
      have o0 := hi.o.cell 0
      have hcur : (smL xss (natsL xs)).length = s := by
        rw [smL_len HO.out.2.2.1 (fun z hz => by
          obtain ⟨p, hp, rfl⟩ := List.mem_map.1 hz
          exact ⟨by omega, by rw [Int.toNat_natCast, HO.out.2.1]; exact hi.ok p hp⟩), HO.out.2.2.2.1]
      have hbel : ∀ (o : Obj), Below w.heap.size w (W.putObj D o) := fun o => hi.b.trans (belowK_b (w := w) (Nat.le_refl _) W D _ _ hwD hKD rfl rfl)
      by_cases hgood : bkS (n : Int) (-1) set = true ∧ m ≠ 0
      · rcases hE with ⟨h1, h2, h3⟩ | ⟨h1, h2⟩
        · have d0 := (h3 hgood.2).cell 0
          have hEE : smE xss set = 0 := by
            unfold smE
            rw [HO.out.1, if_pos rfl, if_neg]
            rintro (e | e)
            · exact hgood.2 (by rw [← HO.out.2.2.2.2.2.2.2.2.1, e]; rfl)
            · rw [HO.out.2.1, h1] at e; cases e
          have hVV : smV xss set = smL xss set := by unfold smV; rw [hEE, if_pos rfl]
          have hown := hi.own
          rw [h2, smL_nats] at hown hcur
          have HW := Lib.hid (And.intro hown (And.intro hcur (And.intro hKD (And.intro hbel (And.intro hEE hVV)))))
          clear hown hcur hi hbel h1 h2 h3 hEE hVV hgood
          gi_wp2
          refine ⟨by simp, .inl ⟨_, _, rfl, run_takeDeferred HW.out.2.2.1, ?_⟩⟩
          refine ⟨.tuple #[.slice (some ⟨q + 1, 0, none⟩) s s, .int .i64 0], by simp [results, Try.results20, go_sem], ?_⟩
          rw [HW.out.2.2.2.2.1, HW.out.2.2.2.2.2]
          refine ⟨_, rfl, ?_, HW.out.2.2.2.1 _⟩
          rw [HW.out.2.1]
          exact own_row HW.out.1 (grownBy_putObj' _ D (.deferred none)) hr
        · rw [hgood.1] at h1; cases h1
      · have hbad : Bk W q 4 [.bool true] := by
          rcases hE with ⟨h1, h2, h3⟩ | ⟨h1, h2⟩
          · obtain ⟨b, hd1, hd2⟩ := hi.dd
            have hm0 : m = 0 := by
              rcases Nat.eq_zero_or_pos m with e | e
              · exact e
              · exact absurd ⟨h1, by omega⟩ hgood
            rw [hd2 hm0] at hd1
            exact hd1
          · exact h2
        have hEE : smE xss set = 3 := by
          unfold smE
          rw [HO.out.1, if_pos rfl, if_pos]
          by_cases e : m = 0
          · left; exact List.eq_nil_of_length_eq_zero (by rw [HO.out.2.2.2.2.2.2.2.2.1]; exact e)
          · right
            rw [HO.out.2.1]
            cases hq : bkS (n : Int) (-1) set with
            | true => exact absurd ⟨hq, e⟩ hgood
            | false => rfl
        have d0 := hbad.cell 0
        have HW := Lib.hid (And.intro hKD (And.intro hbel hEE))
        clear hcur hi hbel hE hEE hgood hbad
        gi_wp2
        refine ⟨by simp, .inl ⟨_, _, rfl, run_takeDeferred HW.out.1, ?_⟩⟩
        refine ⟨.tuple #[.slice none 0 0, .int .i64 3], by simp [results, Try.results20, go_sem], ?_⟩
        rw [sm_no HW.out.2.2 (by omega), HW.out.2.2]
        exact ⟨_, rfl, World.ownsRow_nil _ _ _ _, HW.out.2.1 _⟩
end Go.Proofs.Ytdpmkijkniobpaa
