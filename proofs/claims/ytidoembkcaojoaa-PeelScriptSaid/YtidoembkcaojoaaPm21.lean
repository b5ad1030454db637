/- Chapter 21: peeling: a round's parts. -/
import Derived.Test.YtidoembkcaojoaaPt21
namespace Go.Proofs.Ytidoembkcaojoaa
open Go.RowKit Go.Maps
set_option linter.unusedVariables false
def PkR (w wr : World) (base D : Nat) (m : DM) (F : Nat → Prop) (d : DS) (q : Nat) (v : Value) : Prop :=
  ∃ d1 rl l m1 F1, Dp wr base D m1 (d1.dc rl) F1 ∧ Turn w m F wr m1 F1 ∧ Peels d l d1 ∧ d1.ok ∧ RipX d1 rl [] ∧ Hl wr w.heap.size (m1.all F1) v l ∧ q = unk d1.kn * (d.sets.length + 1) + rl.length ∧ q ≤ 110000
def PkPost (w : World) (base D : Nat) (m : DM) (F : Nat → Prop) (d : DS) (e : Ending) (w' : World) : Prop :=
  ∃ v l d' m' F', e = .returned v ∧ Peels d l d' ∧ Stable d' ∧ Dp w' base D m' (d'.dc []) F' ∧ Turn w m F w' m' F' ∧ Hl w' w.heap.size (m'.all F') v l
def DS.mid (d : DS) (x : Nat) (u : List UInt8) (lf : List (List UInt8)) (rl : List HE) : DC := { d.dc rl with sk := d.kn.set x true, vals := d.vals.set x u, lefts := lf }
/-- Between a symbol's store and its taking. -/
def PM (w : World) (base D : Nat) (m : DM) (F : Nat → Prop) (v : Value) (l : List Int) (K x p : Nat) (d : DS) (rl : List HE) (v5 : Value) (A6 : Option Addr) (d6 : Nat) (wx : World) (j : Nat) : Prop :=
  ∃ m3 F3, RS w base D m F v l K x p wx m3 F3 (d.mid x (d.left p) (lfX d.lefts (d.left p) ((holds d.sets (x : Int)).take j)) rl) ∧ Hl wx w.heap.size (m3.all F3) v5 (holds d.sets (x : Int)) ∧ m3.sy x = (A6, d6)
theorem PM.drew {w : World} {base D : Nat} {m : DM} {F : Nat → Prop} {v : Value} {l : List Int} {K x p : Nat} {d : DS} {rl : List HE} {v5 : Value} {A6 : Option Addr} {d6 : Nat} {wx : World} {j : Nat} (h : PM w base D m F v l K x p d rl v5 A6 d6 wx j) : PM w base D m F v l K x p d rl v5 A6 d6 wx.drew j := by
  obtain ⟨m3, F3, h1, h2, h3⟩ := h
  have hb : Below wx.heap.size wx wx.drew := (Below.refl _ _).drew
  exact ⟨m3, F3, h1.below hb, h2.step (Turn.below hb), h3⟩
theorem PM.start {w : World} {base D : Nat} {m m2 : DM} {F F2 : Nat → Prop} {v : Value} {l : List Int} {K x p : Nat} {d : DS} {rl : List HE} {v5 : Value} {A6 : Option Addr} {d6 : Nat} {w5 w6 : World} (hd : d.ok) (hn : Next d x p)
    (h : RS w base D m F v l K x p w5 m2 F2 (d.dc rl)) (hw : Hl w5 w.heap.size (m2.all F2) v5 (holds d.sets (x : Int))) (ho : w6.ownsRow w5.heap.size 5 1 (.slice A6 d.s d6) d.s (bys (d.left p))) (hb : Below w5.heap.size w5 w6) :
    PM w base D m F v l K x p d rl v5 A6 d6 (w6.setCell ⟨m2.SB, x, none⟩ (.slice A6 d.s d6)) 0 := by
  obtain ⟨h1, h2⟩ := h.dp.stored (h.dp.below hb) (x := x) (hn.lt hd) hd.kl hn.mem.2 hd.vl ho hb
  exact ⟨_, _, h.step h1 h2, hw.step h2, by simp⟩
theorem nat_of_holds {sets : List (List Int)} {i : Int} {j : Nat} (hj : j < (holds sets i).length) : ∃ q : Nat, gi (holds sets i) j = (q : Nat) ∧ q < sets.length ∧ i ∈ sets.getD q [] := by
  have hm : gi (holds sets i) j ∈ holds sets i := by rw [gi_get hj]; exact List.getElem_mem hj
  exact mem_holds.1 hm
theorem hl_cell {w : World} {b0 : Nat} {A : Nat → Prop} {A5 : Option Addr} {n c5 : Nat} {l : List Int} (h : Hl w b0 A (.slice A5 n c5) l) (hn : l.length = n) {j : Nat} (hj : j < l.length) : ∃ b, A5 = some ⟨b, 0, none⟩ ∧ w.cell? ⟨b, j, none⟩ = some (.int .i64 (gi l j)) := by
  have ho := h.1
  rw [hn] at ho
  obtain ⟨b, cur, rfl, _⟩ := own_formN ho (by omega)
  have hr := (Rd.of_own ho).cells j _ (nums_gi hj)
  rw [Addr.add_lit, Nat.zero_add] at hr
  exact ⟨b, rfl, hr⟩
theorem PM.into {w : World} {base D : Nat} {m : DM} {F : Nat → Prop} {v : Value} {l : List Int} {K x p : Nat} {d : DS} {rl : List HE} {A5 A6 : Option Addr} {n5 c5 d6 : Nat} {wx : World} {j : Nat} (hd : d.ok) (hn : Next d x p)
    (h : PM w base D m F v l K x p d rl (.slice A5 n5 c5) A6 d6 wx j) (h5 : (holds d.sets (x : Int)).length = n5) (hj : j < n5) :
    ∃ q g cc LA lc b : Nat, q < d.sets.length ∧ wx.cell? ⟨D, 3, none⟩ = some (.slice (some ⟨LA, 0, none⟩) d.sets.length lc) ∧ wx.cell? ⟨LA, q, none⟩ = some (.slice (some ⟨g, 0, none⟩) d.s cc) ∧
      A5 = some ⟨b, 0, none⟩ ∧ wx.cell? ⟨b, j, none⟩ = some (.int .i64 (q : Nat)) ∧
      Calls Try.prog 43 #[.slice (some ⟨g, 0, none⟩) d.s cc, .slice A6 d.s d6] wx fun e w' => e = .returned (.int .i64 0) ∧ PM w base D m F v l K x p d rl (.slice A5 n5 c5) A6 d6 w' (j + 1) := by
  obtain ⟨m3, F3, h1, h2, h3⟩ := h
  have hj' : j < (holds d.sets (x : Int)).length := by omega
  obtain ⟨q, hq, hqN, hm⟩ := nat_of_holds hj'
  obtain ⟨b, e5, c5'⟩ := hl_cell h2 h5 hj'
  have hxk := hn.lt hd
  have hlen : (lfX d.lefts (d.left p) ((holds d.sets (x : Int)).take j)).length = d.sets.length := by rw [lfX_length, lefts_length]
  have hkx : knw (d.kn.set x true) (x : Int) = true := by rw [knw_set (by rw [hd.kl]; exact hxk) (by omega), decide_eq_true rfl, Bool.or_true]
  have hvx : (d.vals.set x (d.left p)).getD x [] = d.left p := by rw [getD_set (by rw [hd.vl]; exact hxk), if_pos rfl]
  have hlq : ((lfX d.lefts (d.left p) ((holds d.sets (x : Int)).take j)).getD q []).length = d.s := by
    rw [lfX_get _ _ _ _ ((holds_nodup _ _).sublist (List.take_sublist _ _)) (fun y hy => by
      obtain ⟨a, rfl, ha, _⟩ := mem_holds.1 (List.mem_of_mem_take hy)
      rw [lefts_length]; omega), lefts_get hqN]
    split
    · rw [xorL_length _ _ (by rw [hd.leftl hqN, hd.leftl hn.1]), hd.leftl hqN]
    · exact hd.leftl hqN
  obtain ⟨g, cc, LA, e1, e2, e3⟩ := into_step h1.dp (q := q) (x := x) (by show q < (lfX d.lefts (d.left p) ((holds d.sets (x : Int)).take j)).length; rw [hlen]; exact hqN) hxk hkx h3 hlq (by
    show ((d.vals.set x (d.left p)).getD x []).length = d.s
    rw [hvx]; exact hd.leftl hn.1)
  have c3 := h1.dp.c3
  rw [e1, show (d.mid x (d.left p) (lfX d.lefts (d.left p) ((holds d.sets (x : Int)).take j)) rl).lefts.length = d.sets.length from hlen] at c3
  refine ⟨q, g, cc, LA, m3.lc, b, hqN, c3, e2, e5, by rw [c5', hq], e3.mono ?_⟩
  rintro e w' ⟨rfl, hD, hT⟩
  refine ⟨rfl, m3, F3, ?_, h2.step hT, h3⟩
  have hst := h1.step hD hT
  have e : (lfX d.lefts (d.left p) ((holds d.sets (x : Int)).take (j + 1))) = (lfX d.lefts (d.left p) ((holds d.sets (x : Int)).take j)).set q (xorL ((lfX d.lefts (d.left p) ((holds d.sets (x : Int)).take j)).getD q []) ((d.vals.set x (d.left p)).getD x [])) := by
    rw [lfX_succ _ _ hj', hq, Int.toNat_natCast, hvx]
  rw [e]
  exact hst
/-- Behind the taking. -/
def PF (w : World) (base D : Nat) (m : DM) (F : Nat → Prop) (v : Value) (l : List Int) (K x p : Nat) (d : DS) (r0 : Nat) (v9 : Value) (wx : World) (j : Nat) : Prop :=
  ∃ m5 F5 rl, RS w base D m F v l K x p wx m5 F5 ((d.took x p).dc rl) ∧ Hl wx w.heap.size (m5.all F5) v9 (tkL d.kn d.sets (x : Int)) ∧ RipX (d.took x p) rl ((tkL d.kn d.sets (x : Int)).drop j) ∧ rl.length ≤ r0 + j
theorem PM.take {w : World} {base D : Nat} {m : DM} {F : Nat → Prop} {v : Value} {l : List Int} {K x p : Nat} {d : DS} {rl : List HE} {v5 : Value} {A6 : Option Addr} {d6 : Nat} {wx : World} (hd : d.ok) (hn : Next d x p) {e : HE} (he1 : e.a = x) (he2 : e.b = p) (hR : RipX d (e :: rl) [])
    (h : PM w base D m F v l K x p d rl v5 A6 d6 wx (holds d.sets (x : Int)).length) :
    ∃ G, wx.cell? ⟨D, 0, none⟩ = some (.pointer (some ⟨G, 0, none⟩)) ∧ wx.cell? ⟨K, 0, none⟩ = some (.int .i64 (x : Nat)) ∧
      Calls Try.prog 65 #[.pointer (some ⟨G, 0, none⟩), .int .i64 (x : Nat)] wx.drew fun e w' => ∃ v9, e = .returned (.tuple #[v9, .int .i64 0]) ∧ PF w base D m F v l K x p d rl.length v9 w' 0 ∧ w'.cell? ⟨D, 0, none⟩ = some (.pointer (some ⟨G, 0, none⟩)) ∧ w'.cell? ⟨K, 0, none⟩ = some (.int .i64 (x : Nat)) := by
  obtain ⟨m3, F3, h1, h2, _⟩ := h
  have hxk := hn.lt hd
  have hb : Below wx.heap.size wx wx.drew := (Below.refl _ _).drew
  have h1d := h1.below hb
  refine ⟨m3.G, h1.dp.c0, h1.bx.1, (take_gr h1d.dp.gr (x : Int)).mono ?_⟩
  rintro e' w' ⟨v9, L', rfl, ho, hg, hc⟩
  refine ⟨v9, ?_, ?_⟩
  · rw [show tkE (d.mid x (d.left p) (lfX d.lefts (d.left p) ((holds d.sets (x : Int)).take (holds d.sets (x : Int)).length)) rl).kn (x : Int) = 0 from tk_known (by show x < d.kn.length; rw [hd.kl]; exact hxk) hn.mem.2]
  · obtain ⟨hD, hT⟩ := h1d.dp.taken (x := x) hxk hn.mem.2 hg hc
    have e : { (d.mid x (d.left p) (lfX d.lefts (d.left p) ((holds d.sets (x : Int)).take (holds d.sets (x : Int)).length)) rl) with kn := d.kn.set x true } = (d.took x p).dc rl := by
      rw [List.take_length, lfX_took hd hn]; rfl
    have hD' : Dp w' base D { m3 with L := L' } ((d.took x p).dc rl) F3 := by rw [← e]; exact hD
    have hst := h1d.step hD' hT
    exact ⟨⟨_, F3, rl, hst, (show Hl w' w.heap.size (m3.all F3) v9 (tkL d.kn d.sets (x : Int)) from Hl.new h1d.dp ho h1d.tn.1.size), hR.took hd he1 he2 hn, Nat.le_refl _⟩, hst.dp.c0, hst.bx.1⟩
theorem PF.form {w : World} {base D : Nat} {m : DM} {F : Nat → Prop} {v : Value} {l : List Int} {K x p : Nat} {d : DS} {r0 : Nat} {v9 : Value} {wx : World} {j : Nat} (h : PF w base D m F v l K x p d r0 v9 wx j) : ∃ A9 c9, v9 = .slice A9 (tkL d.kn d.sets (x : Int)).length c9 := by
  obtain ⟨_, _, _, _, h2, _⟩ := h
  exact own_sl h2.1
theorem PF.box {w : World} {base D : Nat} {m : DM} {F : Nat → Prop} {v : Value} {l : List Int} {K x p : Nat} {d : DS} {r0 : Nat} {v9 : Value} {wx : World} {j : Nat} (h : PF w base D m F v l K x p d r0 v9 wx j) : wx.cell? ⟨K, 0, none⟩ = some (.int .i64 (x : Nat)) ∧ wx.ownsRow w.heap.size 3 1 v l.length (nums l) ∧ w.heap.size ≤ wx.heap.size := by
  obtain ⟨_, _, _, h1, _, _⟩ := h
  exact ⟨h1.bx.1, h1.hl.1, h1.tn.1.size⟩
theorem tkL_le (kn : List Bool) (sets : List (List Int)) (x : Int) : (tkL kn sets x).length ≤ sets.length := by
  unfold tkL
  split
  · exact Nat.le_trans (List.length_filter_le _ _) (holds_le _ _)
  · simp
theorem PF.told {w : World} {base D : Nat} {m : DM} {F : Nat → Prop} {v : Value} {l : List Int} {K x p : Nat} {d : DS} {r0 : Nat} {v9 : Value} {wx w3 : World} {o : Obj} {v1 : Value} (h : PF w base D m F v l K x p d r0 v9 wx (tkL d.kn d.sets (x : Int)).length)
    (hg : (wx.alloc o).grownBy w3 v.ownBlock) (ho : w3.ownsRow w.heap.size 3 1 v1 (l.length + 1) (nums (l ++ [(x : Int)]))) (hat : v1.ownBlock = v.ownBlock ∨ v1.ownBlock = some (wx.alloc o).heap.size) :
    ∃ m1 F1 rl, Dp w3 base D m1 ((d.took x p).dc rl) F1 ∧ Turn w m F w3 m1 F1 ∧ RipX (d.took x p) rl [] ∧ Hl w3 w.heap.size (m1.all F1) v1 (l ++ [(x : Int)]) ∧ rl.length ≤ r0 + (tkL d.kn d.sets (x : Int)).length := by
  obtain ⟨m5, F5, rl, h1, h2, h3, h4⟩ := h
  rw [List.drop_length] at h3
  have hS : Chg (fun k => v.ownBlock = some k) wx w3 := ((Chg.refl _ wx).alloc o).trans (Chg.of_grown hg (S := fun k => v.ownBlock = some k) fun k e => e) fun _ _ x => x
  have hD := h1.dp.other hS fun b hb e => h1.hl.2 b e hb
  refine ⟨m5, F5, rl, hD, ⟨h1.tn.1.trans hS fun k hk e => ?_, h1.tn.2⟩, h3, ⟨?_, fun b hb hA => ?_⟩, h4⟩
  · have := (own_ty h1.hl.1 e).2; omega
  · rw [List.length_append]; exact ho
  · rcases hat with e | e
    · rw [e] at hb; exact h1.hl.2 b hb hA
    · rw [e] at hb
      injection hb with hb
      have := (h1.dp.all_lt hA).2
      rw [World.size_alloc] at hb
      omega
theorem PF.wait {w : World} {base D : Nat} {m : DM} {F : Nat → Prop} {v : Value} {l : List Int} {K x p : Nat} {d : DS} {r0 : Nat} {A9 : Option Addr} {n9 c9 : Nat} {wx : World} {j : Nat} (hd : d.ok) (hn : Next d x p)
    (h : PF w base D m F v l K x p d r0 (.slice A9 n9 c9) wx j) (h9 : (tkL d.kn d.sets (x : Int)).length = n9) (hj : j < n9) (hz : r0 + j ≤ 1000000) :
    ∃ q b : Nat, A9 = some ⟨b, 0, none⟩ ∧ wx.cell? ⟨b, j, none⟩ = some (.int .i64 (q : Nat)) ∧ q < d.sets.length ∧
      Calls Try.prog 44 #[.pointer (some ⟨D, 0, none⟩), .int .i64 (q : Nat)] wx fun e w' => e = .returned (.tuple #[]) ∧ PF w base D m F v l K x p d r0 (.slice A9 n9 c9) w' (j + 1) := by
  obtain ⟨m5, F5, rl, h1, h2, h3, h4⟩ := h
  have hj' : j < (tkL d.kn d.sets (x : Int)).length := by omega
  have hxk := hn.lt hd
  obtain ⟨b, e9, c9'⟩ := hl_cell h2 h9 hj'
  have hm : gi (tkL d.kn d.sets (x : Int)) j ∈ tkL d.kn d.sets (x : Int) := by rw [gi_get hj']; exact List.getElem_mem hj'
  have e : tkL d.kn d.sets (x : Int) = (holds d.sets (x : Int)).filter fun n => (rst (d.kn.set (x : Int).toNat true) (d.sets.getD n.toNat [])).length == 1 := by
    unfold tkL inK
    rw [decide_eq_true (by rw [hd.kl]; omega), hn.mem.2]; rfl
  obtain ⟨y0, hy0⟩ : ∃ y0, gi (tkL d.kn d.sets (x : Int)) j = y0 := ⟨_, rfl⟩
  rw [hy0, e] at hm
  obtain ⟨hm3, hm4⟩ := List.mem_filter.1 hm
  obtain ⟨q, hq, hqN, _⟩ := mem_holds.1 hm3
  subst hq
  have hq1 := hy0
  refine ⟨q, b, e9, by rw [c9', hy0], hqN, ?_⟩
  clear hy0
  have hr1 : (rst (d.kn.set x true) (d.sets.getD q [])).length = 1 := by
    rw [Int.toNat_natCast, Int.toNat_natCast, beq_iff_eq] at hm4
    exact hm4
  obtain ⟨y, hy⟩ := List.length_eq_one_iff.1 hr1
  have hymem : y ∈ d.set q := (mem_rst.1 (show y ∈ rst (d.kn.set x true) (d.sets.getD q []) by rw [hy]; exact List.mem_cons_self ..)).1
  have hy0 := (hd.sset hqN).inr y hymem
  obtain ⟨y, rfl⟩ : ∃ y' : Nat, y = y' := ⟨y.toNat, by omega⟩
  refine (waits_any h1.dp (by show rl.length ≤ _; omega) (p := q) hqN).mono ?_
  rintro e w' ⟨rfl, hw⟩
  obtain ⟨m', F', l', hD, hT, hp⟩ := hw.turn
  have hp' : l'.Perm (rl ++ [⟨(y : Int), (q : Int)⟩]) := by
    have e3 : wtL (d.kn.set x true) d.sets q = [⟨(y : Int), (q : Int)⟩] := wtL_one hy
    have : l'.Perm (rl ++ wtL (d.kn.set x true) d.sets q) := hp
    rw [e3] at this; exact this
  have hdr : (tkL d.kn d.sets (x : Int)).drop j = (q : Int) :: (tkL d.kn d.sets (x : Int)).drop (j + 1) := by
    rw [List.drop_eq_getElem_cons hj', ← gi_get hj', hq1]
  rw [hdr] at h3
  have h5 := h3.put (x := y) (show q < (d.took x p).sets.length from hqN) (show y < d.k by omega) hy (e := ⟨(y : Int), (q : Int)⟩) rfl rfl
  refine ⟨rfl, m', F', l', h1.step hD hT, h2.step hT, h5.perm hp', ?_⟩
  have := hp'.length_eq
  simp at this
  omega
end Go.Proofs.Ytidoembkcaojoaa
