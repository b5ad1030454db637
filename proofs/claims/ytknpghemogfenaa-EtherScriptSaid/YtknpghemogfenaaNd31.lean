/- Chapter 31: an ether that is being made. -/
import Derived.Test.YtknpghemogfenaaNc31
namespace Go.Proofs.Ytknpghemogfenaa
open Go.Conc Go.RowKit
set_option linter.unusedVariables false
theorem own_formN {w : World} {base size n c : Nat} {e : TypeId} {A : Option Addr} {xs : List Value} (h : w.ownsRow base e size (.slice A n c) n xs) (hn : 0 < n) :
    ∃ g cur, A = some ⟨g, 0, none⟩ ∧ base ≤ g ∧ g < w.heap.size ∧ Bk w g e cur ∧ n ≤ c ∧ c ≤ maxLen ∧ cur.length = c * size ∧ cur.take (n * size) = xs := by
  rcases h.2 with ⟨_, h0⟩ | ⟨g, cap, cur, hv, hb, hh, hnc, hcm, hcs, ht⟩
  · omega
  · injection hv with e1 e2 e3
    subst e1; subst e3
    exact ⟨g, cur.toList, rfl, hb, (Array.getElem?_eq_some_iff.1 hh).1, hh, hnc, hcm, by simpa using hcs, ht⟩
theorem own_mkN {w : World} {base size n c g : Nat} {e : TypeId} {cur xs : List Value} (h : Bk w g e cur) (hb : base ≤ g) (hnc : n ≤ c) (hcm : c ≤ maxLen) (hcl : cur.length = c * size) (ht : cur.take (n * size) = xs) : w.ownsRow base e size (.slice (some ⟨g, 0, none⟩) n c) n xs := by
  refine ⟨?_, .inr ⟨g, c, cur.toArray, rfl, hb, h, hnc, hcm, by simpa using hcl, by simpa using ht⟩⟩
  rw [← ht, List.length_take, hcl]
  exact Nat.min_eq_left (Nat.mul_le_mul_right _ hnc)
theorem own_cellN {w : World} {base size n c g i : Nat} {e : TypeId} {xs : List Value} (h : w.ownsRow base e size (.slice (some ⟨g, 0, none⟩) n c) n xs) (hi : i < xs.length) : w.cell? ⟨g, i, none⟩ = xs[i]? ∧ w.frozen? ⟨g, i, none⟩ = false := by
  have hl := h.1
  obtain ⟨g', cur, hA, _, _, hbk, _, _, hcl, ht⟩ := own_formN h (by
    rcases Nat.eq_zero_or_pos n with h0 | h0
    · subst h0; omega
    · exact h0)
  cases hA
  refine ⟨?_, hbk.frozen i⟩
  rw [hbk.cell i, ← ht, List.getElem?_take_of_lt (by omega)]
theorem own_setN {w : World} {base size n c g i : Nat} {e : TypeId} {xs : List Value} (h : w.ownsRow base e size (.slice (some ⟨g, 0, none⟩) n c) n xs) (hi : i < xs.length) (u : Value) : (w.setCell ⟨g, i, none⟩ u).ownsRow base e size (.slice (some ⟨g, 0, none⟩) n c) n (xs.set i u) := by
  have hl := h.1
  obtain ⟨g', cur, hA, hb, _, hbk, hnc, hcm, hcl, ht⟩ := own_formN h (by
    rcases Nat.eq_zero_or_pos n with h0 | h0
    · subst h0; omega
    · exact h0)
  cases hA
  exact own_mkN (hbk.set_ i u) hb hnc hcm (by rw [List.length_set]; exact hcl) (by rw [List.take_set, ht])
theorem own_b1 {A : Option Addr} {a : Addr} {n c : Nat} (ha : A = some a) : (Value.slice A n c).ownBlock = some a.block := by rw [ha]; rfl
theorem own_rdN {w : World} {base size n c : Nat} {e : TypeId} {A : Option Addr} {xs : List Value} (h : w.ownsRow base e size (.slice A n c) n xs) : Rd w A (n * size) xs ∧ n ≤ c := by
  rcases h.2 with ⟨hv, h0⟩ | ⟨g, cap, cur, hv, hb, hh, hnc, hcm, hcs, ht⟩
  · injection hv with e1 e2 e3
    have h0' : n = 0 := h0
    subst h0'
    refine ⟨⟨h.1, fun h => absurd h (by omega)⟩, by omega⟩
  · injection hv with e1 e2 e3
    subst e1; subst e3
    have hbk : Bk w g e cur.toList := hh
    refine ⟨Rd.of_bk hbk ?_ (by simpa using ht), hnc⟩
    rw [Array.length_toList, hcs, Nat.zero_add]
    exact Nat.mul_le_mul_right _ hnc
def okF (f : FT) : Bool := isLate f.late && isLate f.again
def okS (y : SY) : Bool := decide (1 ≤ y.at_) && isEnd y.dst && decide (y.n ≤ 70000)
/-- What New says of a script. -/
def newE (fl : List FT) (sl : List SY) : Int := if fl.all okF && sl.all okS then 0 else 2
def SY.t (y : SY) : Int × Int × List UInt8 := (y.at_, y.dst, y.x)
def ES.new (fl : List FT) (sl : List SY) : ES := ⟨fl, sl.map SY.t, 0, 0, 0, [], [], []⟩
theorem isLate_iff {n : Int} (h : isLate n = true) : 0 ≤ n ∧ n ≤ 10000 := by
  unfold isLate at h
  simp only [Bool.and_eq_true, decide_eq_true_eq] at h
  exact h
theorem isEnd_iff {n : Int} (h : isEnd n = true) : n = 0 ∨ n = 1 := by
  unfold isEnd at h
  simpa using h
theorem new_ok {fl : List FT} {sl : List SY} (hf : fl.all okF = true) (hs : sl.all okS = true) : (ES.new fl sl).ok := by
  refine ⟨Int.le_refl _, Int.le_refl _, Int.le_refl _, fun f h => ?_, fun y h => ?_, fun g h => absurd h List.not_mem_nil, List.Pairwise.nil⟩
  · have := List.all_eq_true.1 hf f h
    unfold okF at this
    rw [Bool.and_eq_true] at this
    exact ⟨isLate_iff this.1, isLate_iff this.2⟩
  · obtain ⟨z, hz, rfl⟩ := List.mem_map.1 h
    have := List.all_eq_true.1 hs z hz
    unfold okS at this
    rw [Bool.and_eq_true, Bool.and_eq_true, decide_eq_true_eq] at this
    exact ⟨this.1.1, isEnd_iff this.1.2⟩
def SY.own (y : SY) (A : Option Addr) (c : Nat) : SY := { y with A := A, c := c }
theorem ycs_set : ∀ {l : List SY} {j : Nat} (h : j < l.length) (A : Option Addr) (c : Nat), ycs (l.set j ((l[j]).own A c)) = (ycs l).set (j * 3 + 2) (.slice A (l[j]).n c)
  | [], j, h, _, _ => absurd h (Nat.not_lt_zero _)
  | y :: l, 0, h, A, c => rfl
  | y :: l, j + 1, h, A, c => by
    have h1 : ycs (y :: l) = y.cells ++ ycs l := rfl
    have h2 : ∀ z, ycs (List.set (y :: l) (j + 1) z) = y.cells ++ ycs (l.set j z) := fun z => rfl
    have hh : j < l.length := Nat.lt_of_succ_lt_succ h
    rw [h2, h1, List.set_append_right _ _ (by show 3 ≤ _; omega), show (j + 1) * 3 + 2 - y.cells.length = j * 3 + 2 from by show (j + 1) * 3 + 2 - 3 = _; omega]
    have ih := ycs_set hh A c
    show y.cells ++ ycs (l.set j ((l[j]).own A c)) = y.cells ++ (ycs l).set (j * 3 + 2) (.slice A (l[j]).n c)
    rw [ih]
/-- An ether that is being made: its first j strays have their own bytes. -/
structure NW (w wx : World) (E : Nat) (A1 : Option Addr) (d1 : Nat) (A2 : Option Addr) (d2 : Nat) (fl : List FT) (sl cur : List SY) (j : Nat) : Prop where
  hb : Below w.heap.size w wx
  e : Bk wx E 66 [.slice A1 fl.length d1, .slice A2 cur.length d2, .int .i64 0, .int .i64 0, .slice none 0 0, .chan none, .chan none, .int .i64 0]
  eb : w.heap.size ≤ E
  f : wx.ownsRow w.heap.size 53 4 (.slice A1 fl.length d1) fl.length (fcs fl)
  s : wx.ownsRow w.heap.size 45 3 (.slice A2 cur.length d2) cur.length (ycs cur)
  px : ∀ y ∈ cur.take j, PX wx w.heap.size y.A y.n y.c y.x
  nd : ((cur.take j).flatMap (fun y => blk y.A)).Nodup
  t : cur.map SY.t = sl.map SY.t
  d : cur.drop j = sl.drop j
theorem NW.len {w wx : World} {E d1 d2 j : Nat} {A1 A2 : Option Addr} {fl : List FT} {sl cur : List SY} (h : NW w wx E A1 d1 A2 d2 fl sl cur j) : cur.length = sl.length := by
  have := congrArg List.length h.t
  simpa using this
theorem NW.below {w wx wy : World} {E d1 d2 j : Nat} {A1 A2 : Option Addr} {fl : List FT} {sl cur : List SY} (h : NW w wx E A1 d1 A2 d2 fl sl cur j) (hb : Below wx.heap.size wx wy) : NW w wy E A1 d1 A2 d2 fl sl cur j :=
  { h with hb := below_base h.hb hb h.hb.size, e := h.e.belowS hb, f := own_below h.f hb, s := own_below h.s hb, px := fun y hy => (h.px y hy).chg (Chg.of_below (S := fun _ => False) hb) fun _ _ x => x }
/-- The next stray has its own bytes. -/
theorem NW.step {w wx w1 : World} {E d1 d2 j g c' : Nat} {A1 A' : Option Addr} {fl : List FT} {sl cur : List SY} (h : NW w wx E A1 d1 (some ⟨g, 0, none⟩) d2 fl sl cur j) (hj : j < sl.length) (hb : Below wx.heap.size wx w1)
    (hown : w1.ownsRow wx.heap.size 5 1 (.slice A' (sl[j]).n c') (sl[j]).n (bys (sl[j]).x)) (hn : (sl[j]).n ≤ 70000) :
    ∃ cur', NW w (w1.setCell ⟨g, j * 3 + 2, none⟩ (.slice A' (sl[j]).n c')) E A1 d1 (some ⟨g, 0, none⟩) d2 fl sl cur' (j + 1) := by
  have h1 := h.below hb
  have hlen := h.len
  have hjc : j < cur.length := by omega
  have hcj : cur[j] = sl[j] := by
    have := congrArg (fun l => l[0]?) h.d
    simp only [List.getElem?_drop, Nat.add_zero] at this
    rw [List.getElem?_eq_getElem hjc, List.getElem?_eq_getElem hj] at this
    injection this
  have hgb := own_ge h.s ⟨g, 0, none⟩ rfl
  have hgt := (own_ty h1.s (g := g) rfl).1
  have hge : g ≠ E := fun e => by
    have hE : Ty w1 E 66 := ⟨_, h1.e⟩
    exact hgt.ne hE (by decide) e
  have hc : Chg (fun k => k = g) w1 (w1.setCell ⟨g, j * 3 + 2, none⟩ (.slice A' (sl[j]).n c')) := (Chg.refl (fun k => k = g) w1).set_ (show g = g from rfl) _ _
  have hset := own_setN h1.s (i := j * 3 + 2) (by rw [ycs_length]; omega) (.slice A' (sl[j]).n c')
  have hys := ycs_set hjc A' c'
  rw [hcj] at hys
  rw [← hys] at hset
  refine ⟨cur.set j ((sl[j]).own A' c'), ⟨?_, ?_, h.eb, ?_, by rw [List.length_set]; exact hset, fun y hy => ?_, ?_, ?_, ?_⟩⟩
  · exact Below.setCell (p := ⟨g, j * 3 + 2, none⟩) h1.hb hgb.1 _
  · rw [List.length_set]
    exact hc.bk h1.e fun e => hge e.symm
  · exact hc.own h1.f fun a ha e => by
      have := (own_ty h1.f (g := a.block) (own_b1 ha)).1
      exact this.ne hgt (by decide) e
  · rw [List.take_set, List.take_succ_eq_append_getElem hjc] at hy
    have px : ∀ {A : Option Addr} {n c : Nat} {x : List UInt8}, PX w1 w.heap.size A n c x → PX (w1.setCell ⟨g, j * 3 + 2, none⟩ (.slice A' (sl[j]).n c')) w.heap.size A n c x := fun hp =>
      hp.chg hc fun a ha e => (own_ty hp.1 (g := a.block) (own_b1 ha)).1.ne hgt (by decide) e
    rw [List.set_append_right _ _ (by rw [List.length_take]; omega), show j - (cur.take j).length = 0 from by rw [List.length_take]; omega] at hy
    rcases List.mem_append.1 hy with hy | hy
    · exact px (h1.px y hy)
    · rw [List.set_cons_zero, List.mem_singleton] at hy
      subst hy
      exact px ⟨own_mono hown h.hb.size, hn⟩
  · rw [List.take_set, List.take_succ_eq_append_getElem hjc, List.set_append_right _ _ (by rw [List.length_take]; omega), show j - (cur.take j).length = 0 from by rw [List.length_take]; omega, List.set_cons_zero, List.flatMap_append]
    refine List.nodup_append.2 ⟨h.nd, ?_, fun a ha b hb2 => ?_⟩
    · rw [List.flatMap_singleton]
      show (blk A').Nodup
      cases A' <;> simp [blk]
    · rw [List.flatMap_singleton] at hb2
      obtain ⟨a', ha', rfl⟩ := mem_blk.1 hb2
      have hnew := (own_ge hown a' ha').1
      obtain ⟨y, hy, hk⟩ := List.mem_flatMap.1 ha
      obtain ⟨a2, ha2, rfl⟩ := mem_blk.1 hk
      have hp := h.px y hy
      have hold := (own_ge hp.1 a2 ha2).2
      omega
  · rw [List.map_set, h.t]
    have : SY.t ((sl[j]).own A' c') = SY.t (sl[j]) := rfl
    rw [this]
    apply List.ext_getElem
    · simp
    · intro i h1 h2
      rw [List.getElem_set]
      split
      · rename_i e; subst e; simp
      · rfl
  · rw [List.drop_set_of_lt (by omega)]
    have := congrArg (List.drop 1) h.d
    rw [List.drop_drop, List.drop_drop] at this
    exact this
theorem NW.start {w wx : World} {d1 d2 : Nat} {A1 A2 : Option Addr} {fl : List FT} {sl : List SY} (hb : Below w.heap.size w wx) (hf : wx.ownsRow w.heap.size 53 4 (.slice A1 fl.length d1) fl.length (fcs fl))
    (hs : wx.ownsRow w.heap.size 45 3 (.slice A2 sl.length d2) sl.length (ycs sl)) :
    NW w (wx.alloc (.cells #[.slice A1 fl.length d1, .slice A2 sl.length d2, .int .i64 0, .int .i64 0, .slice none 0 0, .chan none, .chan none, .int .i64 0] 66)) wx.heap.size A1 d1 A2 d2 fl sl sl 0 := by
  have hba : Below wx.heap.size wx (wx.alloc (.cells #[.slice A1 fl.length d1, .slice A2 sl.length d2, .int .i64 0, .int .i64 0, .slice none 0 0, .chan none, .chan none, .int .i64 0] 66)) := (Below.refl _ _).alloc (Nat.le_refl _) _
  exact ⟨below_base hb hba hb.size, Bk.newA wx 66 _, hb.size, own_below hf hba, own_below hs hba, fun y hy => by simp at hy, by simp, rfl, rfl⟩
/-- A box more. -/
theorem new_box {wx W : World} {E i : Nat} {cs : List Value} (hB : Bk W E 66 cs) (hc : Chg (fun k => k = E) wx W) :
    Bk ((W.alloc (.chan 1000 #[] false 0 0 false)).setCell ⟨E, i, none⟩ (.chan (some W.heap.size))) E 66 (cs.set i (.chan (some W.heap.size))) ∧ Chg (fun k => k = E) wx ((W.alloc (.chan 1000 #[] false 0 0 false)).setCell ⟨E, i, none⟩ (.chan (some W.heap.size))) ∧
      Ck ((W.alloc (.chan 1000 #[] false 0 0 false)).setCell ⟨E, i, none⟩ (.chan (some W.heap.size))) W.heap.size [] ∧ wx.heap.size ≤ W.heap.size ∧ ∀ C vs, Ck W C vs → Ck ((W.alloc (.chan 1000 #[] false 0 0 false)).setCell ⟨E, i, none⟩ (.chan (some W.heap.size))) C vs ∧ C ≠ W.heap.size := by
  have hne : W.heap.size ≠ E := fun e => by have := hB.lt; omega
  have h1 : Ck (W.alloc (.chan 1000 #[] false 0 0 false)) W.heap.size [] := ⟨0, 0, heap_alloc_new W _⟩
  have hcA : Chg (fun k => k = E) W (W.alloc (.chan 1000 #[] false 0 0 false)) := (Chg.refl _ _).alloc _
  have hcS : Chg (fun k => k = E) (W.alloc (.chan 1000 #[] false 0 0 false)) ((W.alloc (.chan 1000 #[] false 0 0 false)).setCell ⟨E, i, none⟩ (.chan (some W.heap.size))) := (Chg.refl (fun k => k = E) _).set_ (show E = E from rfl) _ _
  refine ⟨(hB.alloc _).set_ i _, hc.trans (hcA.trans hcS fun _ _ x => x) fun _ _ x => x, h1.chg hcS hne, hc.size, fun C vs hC => ⟨(hC.chg (Chg.of_below (S := fun _ => False) ((Below.refl _ _).alloc (Nat.le_refl _) _)) fun x => x).chg hcS fun e => ?_, fun e => by have := hC.lt; omega⟩⟩
  exact hC.ne_bk hB e.symm
theorem NW.done {w wx wz : World} {E C0 C1 d1 d2 : Nat} {A1 A2 : Option Addr} {fl : List FT} {sl cur : List SY} (h : NW w wx E A1 d1 A2 d2 fl sl cur sl.length) (hf : fl.all okF = true) (hs : sl.all okS = true) (hfl : fl.length ≤ 100000) (hsl : sl.length ≤ 100000)
    (hE : Bk wz E 66 [.slice A1 fl.length d1, .slice A2 cur.length d2, .int .i64 0, .int .i64 0, .slice none 0 0, .chan (some C0), .chan (some C1), .int .i64 0]) (hc : Chg (fun k => k = E) wx wz) (h0 : Ck wz C0 []) (h1 : Ck wz C1 []) (hne : C0 ≠ C1) (g0 : wx.heap.size ≤ C0) (g1 : wx.heap.size ≤ C1) :
    Ew wz w.heap.size E (ES.new fl sl) (fun k => w.heap.size ≤ k ∧ k < wz.heap.size) := by
  have hlen := h.len
  have htk : cur.take sl.length = cur := by rw [← hlen, List.take_length]
  have hEt : Ty wx E 66 := ⟨_, h.e⟩
  have hw := h.hb.size
  have key : Em wz w.heap.size E ⟨A1, d1, fl, A2, d2, cur, 0, 0, .slice none 0 0, [], fun _ => [], C0, C1, [], [], 0⟩ := by
    have f1 := hc.own h.f (fun a ha e => (own_ty h.f (g := a.block) (own_b1 ha)).1.ne hEt (by decide) e)
    refine ⟨hE, ?_, fun a ha => own_ty f1 (g := a.block) (own_b1 ha), ⟨?_, hfl⟩, hc.own h.s (fun a ha e => (own_ty h.s (g := a.block) (own_b1 ha)).1.ne hEt (by decide) e), by show cur.length ≤ 100000; omega, fun y hy => ?_, World.ownsRow_nil _ _ _ _, fun e he => absurd he List.not_mem_nil, ?_, fun e he => absurd he List.not_mem_nil, h0, h1, hne, fun e he => absurd he List.not_mem_nil, fun e he => absurd he List.not_mem_nil, ?_, ⟨h.eb, by show w.heap.size ≤ C0; omega, by show w.heap.size ≤ C1; omega, by have := hc.size; omega⟩⟩
    · exact (own_rdN f1).1
    · exact (own_rdN f1).2
    · have hy' := h.px y (by rw [htk]; exact hy)
      exact hy'.chg hc fun a ha e => (own_ty hy'.1 (g := a.block) (own_b1 ha)).1.ne hEt (by decide) e
    · exact Hp.nil
    · have := h.nd
      rw [htk] at this
      unfold EM.bl
      simpa using this
  refine ⟨_, key, ⟨rfl, h.t, rfl, rfl, rfl, List.Perm.refl _, rfl, rfl⟩, new_ok hf hs, fun k hk => ?_⟩
  exact key.foot_base hk
end Go.Proofs.Ytknpghemogfenaa
