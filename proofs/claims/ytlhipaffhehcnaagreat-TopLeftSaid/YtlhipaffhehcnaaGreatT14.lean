/- Chapter 21: peeling: a round's parts. Chapter 21: peeling: its walk. -/
import Derived.Test.YtlhipaffhehcnaaGreatT13
namespace Go.Proofs.YtlhipaffhehcnaaGreat
open Go.RowKit Go.Maps
set_option linter.unusedVariables false
def PkR (w wr : World) (base D : Nat) (m : DM) (F : Nat → Prop) (d : DS) (q : Nat) (v : Value) : Prop :=
  ∃ d1 rl l m1 F1, Dp wr base D m1 (d1.dc rl) F1 ∧ Turn w m F wr m1 F1 ∧ Peels d l d1 ∧ d1.ok ∧ RipX d1 rl [] ∧ Hl wr w.heap.size (m1.all F1) v l ∧ q = unk d1.kn * (d.sets.length + 1) + rl.length ∧ q ≤ 110000
def PkPost (w : World) (base D : Nat) (m : DM) (F : Nat → Prop) (d : DS) (e : Ending) (w' : World) : Prop :=
  ∃ v l d' m' F', e = .returned v ∧ Peels d l d' ∧ Stable d' ∧ Dp w' base D m' (d'.dc []) F' ∧ Turn w m F w' m' F' ∧ Hl w' w.heap.size (m'.all F') v l
def DS.mid (d : DS) (x : Nat) (u : List UInt8) (lf : List (List UInt8)) (rl : List HE) : DC := { d.dc rl with sk := d.kn.set x true, vals := d.vals.set x u, lefts := lf }
/-- Between a symbol's store and its taking. -/
def PM (w : World) (base D : Nat) (m : DM) (F : Nat → Prop) (v : Value) (l : List Int) (K x p : Nat) (d : DS) (rl : List HE) (v5 : Value) (A6 : Option Addr) (d6 : Nat) (wx : World) (j : Nat) : Prop :=
  ∃ m3 F3, RS w base D m F v l K x p wx m3 F3 (d.mid x (d.left p) (lfX d.lefts (d.left p) ((holds d.sets (x : Int)).take j)) rl) ∧ Hl wx w.heap.size (m3.all F3) v5 (holds d.sets (x : Int)) ∧ m3.sy x = (A6, d6)
theorem PM.drew {w : World} {base D : Nat} {m : DM} {F : Nat → Prop} {v : Value} {l : List Int} {K x p : Nat} {d : DS} {rl : List HE} {v5 : Value} {A6 : Option Addr} {d6 : Nat} {wx : World} {j : Nat} (h : PM w base D m F v l K x p d rl v5 A6 d6 wx j) : PM w base D m F v l K x p d rl v5 A6 d6 wx.drew j := by
  obtain ⟨m3, F3, h1, h2, h3⟩ := h
  have hb : Below wx.heap.size wx wx.drew := (Below.refl _ _).drew
  exact ⟨m3, F3, h1.below hb, h2.step (Turn.below hb), h3⟩
theorem PM.start {w : World} {base D : Nat} {m m2 : DM} {F F2 : Nat → Prop} {v : Value} {l : List Int} {K x p : Nat} {d : DS} {rl : List HE} {v5 : Value} {A6 : Option Addr} {d6 : Nat} {w5 w6 : World} (hd : d.ok) (hn : Next d x p)
    (h : RS w base D m F v l K x p w5 m2 F2 (d.dc rl)) (hw : Hl w5 w.heap.size (m2.all F2) v5 (holds d.sets (x : Int))) (ho : w6.ownsRow w5.heap.size 5 1 (.slice A6 d.s d6) d.s (bys (d.left p))) (hb : Below w5.heap.size w5 w6) :
    PM w base D m F v l K x p d rl v5 A6 d6 (w6.setCell ⟨m2.SB, x, none⟩ (.slice A6 d.s d6)) 0 := by
  obtain ⟨h1, h2⟩ := h.dp.stored (h.dp.below hb) (x := x) (hn.lt hd) hd.kl hn.mem.2 hd.vl ho hb
  exact ⟨_, _, h.step h1 h2, hw.step h2, by simp⟩
theorem nat_of_holds {sets : List (List Int)} {i : Int} {j : Nat} (hj : j < (holds sets i).length) : ∃ q : Nat, gi (holds sets i) j = (q : Nat) ∧ q < sets.length ∧ i ∈ sets.getD q [] := by
  have hm : gi (holds sets i) j ∈ holds sets i := by rw [gi_get hj]; exact List.getElem_mem hj
  exact mem_holds.1 hm
theorem hl_cell {w : World} {b0 : Nat} {A : Nat → Prop} {A5 : Option Addr} {n c5 : Nat} {l : List Int} (h : Hl w b0 A (.slice A5 n c5) l) (hn : l.length = n) {j : Nat} (hj : j < l.length) : ∃ b, A5 = some ⟨b, 0, none⟩ ∧ w.cell? ⟨b, j, none⟩ = some (.int .i64 (gi l j)) := by
  have ho := h.1
  rw [hn] at ho
  obtain ⟨b, cur, rfl, _⟩ := own_formN ho (by omega)
  have hr := (Rd.of_own ho).cells j _ (nums_gi hj)
  rw [Addr.add_lit, Nat.zero_add] at hr
  exact ⟨b, rfl, hr⟩
theorem PM.into {w : World} {base D : Nat} {m : DM} {F : Nat → Prop} {v : Value} {l : List Int} {K x p : Nat} {d : DS} {rl : List HE} {A5 A6 : Option Addr} {n5 c5 d6 : Nat} {wx : World} {j : Nat} (hd : d.ok) (hn : Next d x p)
    (h : PM w base D m F v l K x p d rl (.slice A5 n5 c5) A6 d6 wx j) (h5 : (holds d.sets (x : Int)).length = n5) (hj : j < n5) :
    ∃ q g cc LA lc b : Nat, q < d.sets.length ∧ wx.cell? ⟨D, 3, none⟩ = some (.slice (some ⟨LA, 0, none⟩) d.sets.length lc) ∧ wx.cell? ⟨LA, q, none⟩ = some (.slice (some ⟨g, 0, none⟩) d.s cc) ∧
      A5 = some ⟨b, 0, none⟩ ∧ wx.cell? ⟨b, j, none⟩ = some (.int .i64 (q : Nat)) ∧
      Calls Tryz.prog 74 #[.slice (some ⟨g, 0, none⟩) d.s cc, .slice A6 d.s d6] wx fun e w' => e = .returned (.int .i64 0) ∧ PM w base D m F v l K x p d rl (.slice A5 n5 c5) A6 d6 w' (j + 1) := by
  obtain ⟨m3, F3, h1, h2, h3⟩ := h
  have hj' : j < (holds d.sets (x : Int)).length := by omega
  obtain ⟨q, hq, hqN, hm⟩ := nat_of_holds hj'
  obtain ⟨b, e5, c5'⟩ := hl_cell h2 h5 hj'
  have hxk := hn.lt hd
  have hlen : (lfX d.lefts (d.left p) ((holds d.sets (x : Int)).take j)).length = d.sets.length := by rw [lfX_length, lefts_length]
  have hkx : knw (d.kn.set x true) (x : Int) = true := by rw [knw_set (by rw [hd.kl]; exact hxk) (by omega), decide_eq_true rfl, Bool.or_true]
  have hvx : (d.vals.set x (d.left p)).getD x [] = d.left p := by rw [getD_set (by rw [hd.vl]; exact hxk), if_pos rfl]
  have hlq : ((lfX d.lefts (d.left p) ((holds d.sets (x : Int)).take j)).getD q []).length = d.s := by
    rw [lfX_get _ _ _ _ ((holds_nodup _ _).sublist (List.take_sublist _ _)) (fun y hy => by
      obtain ⟨a, rfl, ha, _⟩ := mem_holds.1 (List.mem_of_mem_take hy)
      rw [lefts_length]; omega), lefts_get hqN]
    split
    · rw [xorL_length _ _ (by rw [hd.leftl hqN, hd.leftl hn.1]), hd.leftl hqN]
    · exact hd.leftl hqN
  obtain ⟨g, cc, LA, e1, e2, e3⟩ := into_step h1.dp (q := q) (x := x) (by show q < (lfX d.lefts (d.left p) ((holds d.sets (x : Int)).take j)).length; rw [hlen]; exact hqN) hxk hkx h3 hlq (by
    show ((d.vals.set x (d.left p)).getD x []).length = d.s
    rw [hvx]; exact hd.leftl hn.1)
  have c3 := h1.dp.c3
  rw [e1, show (d.mid x (d.left p) (lfX d.lefts (d.left p) ((holds d.sets (x : Int)).take j)) rl).lefts.length = d.sets.length from hlen] at c3
  refine ⟨q, g, cc, LA, m3.lc, b, hqN, c3, e2, e5, by rw [c5', hq], e3.mono ?_⟩
  rintro e w' ⟨rfl, hD, hT⟩
  refine ⟨rfl, m3, F3, ?_, h2.step hT, h3⟩
  have hst := h1.step hD hT
  have e : (lfX d.lefts (d.left p) ((holds d.sets (x : Int)).take (j + 1))) = (lfX d.lefts (d.left p) ((holds d.sets (x : Int)).take j)).set q (xorL ((lfX d.lefts (d.left p) ((holds d.sets (x : Int)).take j)).getD q []) ((d.vals.set x (d.left p)).getD x [])) := by
    rw [lfX_succ _ _ hj', hq, Int.toNat_natCast, hvx]
  rw [e]
  exact hst
/-- Behind the taking. -/
def PF (w : World) (base D : Nat) (m : DM) (F : Nat → Prop) (v : Value) (l : List Int) (K x p : Nat) (d : DS) (r0 : Nat) (v9 : Value) (wx : World) (j : Nat) : Prop :=
  ∃ m5 F5 rl, RS w base D m F v l K x p wx m5 F5 ((d.took x p).dc rl) ∧ Hl wx w.heap.size (m5.all F5) v9 (tkL d.kn d.sets (x : Int)) ∧ RipX (d.took x p) rl ((tkL d.kn d.sets (x : Int)).drop j) ∧ rl.length ≤ r0 + j
theorem PM.take {w : World} {base D : Nat} {m : DM} {F : Nat → Prop} {v : Value} {l : List Int} {K x p : Nat} {d : DS} {rl : List HE} {v5 : Value} {A6 : Option Addr} {d6 : Nat} {wx : World} (hd : d.ok) (hn : Next d x p) {e : HE} (he1 : e.a = x) (he2 : e.b = p) (hR : RipX d (e :: rl) [])
    (h : PM w base D m F v l K x p d rl v5 A6 d6 wx (holds d.sets (x : Int)).length) :
    ∃ G, wx.cell? ⟨D, 0, none⟩ = some (.pointer (some ⟨G, 0, none⟩)) ∧ wx.cell? ⟨K, 0, none⟩ = some (.int .i64 (x : Nat)) ∧
      Calls Tryz.prog 116 #[.pointer (some ⟨G, 0, none⟩), .int .i64 (x : Nat)] wx.drew fun e w' => ∃ v9, e = .returned (.tuple #[v9, .int .i64 0]) ∧ PF w base D m F v l K x p d rl.length v9 w' 0 ∧ w'.cell? ⟨D, 0, none⟩ = some (.pointer (some ⟨G, 0, none⟩)) ∧ w'.cell? ⟨K, 0, none⟩ = some (.int .i64 (x : Nat)) := by
  obtain ⟨m3, F3, h1, h2, _⟩ := h
  have hxk := hn.lt hd
  have hb : Below wx.heap.size wx wx.drew := (Below.refl _ _).drew
  have h1d := h1.below hb
  refine ⟨m3.G, h1.dp.c0, h1.bx.1, (take_gr h1d.dp.gr (x : Int)).mono ?_⟩
  rintro e' w' ⟨v9, L', rfl, ho, hg, hc⟩
  refine ⟨v9, ?_, ?_⟩
  · rw [show tkE (d.mid x (d.left p) (lfX d.lefts (d.left p) ((holds d.sets (x : Int)).take (holds d.sets (x : Int)).length)) rl).kn (x : Int) = 0 from tk_known (by show x < d.kn.length; rw [hd.kl]; exact hxk) hn.mem.2]
  · obtain ⟨hD, hT⟩ := h1d.dp.taken (x := x) hxk hn.mem.2 hg hc
    have e : { (d.mid x (d.left p) (lfX d.lefts (d.left p) ((holds d.sets (x : Int)).take (holds d.sets (x : Int)).length)) rl) with kn := d.kn.set x true } = (d.took x p).dc rl := by
      rw [List.take_length, lfX_took hd hn]; rfl
    have hD' : Dp w' base D { m3 with L := L' } ((d.took x p).dc rl) F3 := by rw [← e]; exact hD
    have hst := h1d.step hD' hT
    exact ⟨⟨_, F3, rl, hst, (show Hl w' w.heap.size (m3.all F3) v9 (tkL d.kn d.sets (x : Int)) from Hl.new h1d.dp ho h1d.tn.1.size), hR.took hd he1 he2 hn, Nat.le_refl _⟩, hst.dp.c0, hst.bx.1⟩
theorem PF.form {w : World} {base D : Nat} {m : DM} {F : Nat → Prop} {v : Value} {l : List Int} {K x p : Nat} {d : DS} {r0 : Nat} {v9 : Value} {wx : World} {j : Nat} (h : PF w base D m F v l K x p d r0 v9 wx j) : ∃ A9 c9, v9 = .slice A9 (tkL d.kn d.sets (x : Int)).length c9 := by
  obtain ⟨_, _, _, _, h2, _⟩ := h
  exact own_sl h2.1
theorem PF.box {w : World} {base D : Nat} {m : DM} {F : Nat → Prop} {v : Value} {l : List Int} {K x p : Nat} {d : DS} {r0 : Nat} {v9 : Value} {wx : World} {j : Nat} (h : PF w base D m F v l K x p d r0 v9 wx j) : wx.cell? ⟨K, 0, none⟩ = some (.int .i64 (x : Nat)) ∧ wx.ownsRow w.heap.size 3 1 v l.length (nums l) ∧ w.heap.size ≤ wx.heap.size := by
  obtain ⟨_, _, _, h1, _, _⟩ := h
  exact ⟨h1.bx.1, h1.hl.1, h1.tn.1.size⟩
theorem tkL_le (kn : List Bool) (sets : List (List Int)) (x : Int) : (tkL kn sets x).length ≤ sets.length := by
  unfold tkL
  split
  · exact Nat.le_trans (List.length_filter_le _ _) (holds_le _ _)
  · simp
theorem PF.told {w : World} {base D : Nat} {m : DM} {F : Nat → Prop} {v : Value} {l : List Int} {K x p : Nat} {d : DS} {r0 : Nat} {v9 : Value} {wx w3 : World} {o : Obj} {v1 : Value} (h : PF w base D m F v l K x p d r0 v9 wx (tkL d.kn d.sets (x : Int)).length)
    (hg : (wx.alloc o).grownBy w3 v.ownBlock) (ho : w3.ownsRow w.heap.size 3 1 v1 (l.length + 1) (nums (l ++ [(x : Int)]))) (hat : v1.ownBlock = v.ownBlock ∨ v1.ownBlock = some (wx.alloc o).heap.size) :
    ∃ m1 F1 rl, Dp w3 base D m1 ((d.took x p).dc rl) F1 ∧ Turn w m F w3 m1 F1 ∧ RipX (d.took x p) rl [] ∧ Hl w3 w.heap.size (m1.all F1) v1 (l ++ [(x : Int)]) ∧ rl.length ≤ r0 + (tkL d.kn d.sets (x : Int)).length := by
  obtain ⟨m5, F5, rl, h1, h2, h3, h4⟩ := h
  rw [List.drop_length] at h3
  have hS : Chg (fun k => v.ownBlock = some k) wx w3 := ((Chg.refl _ wx).alloc o).trans (Chg.of_grown hg (S := fun k => v.ownBlock = some k) fun k e => e) fun _ _ x => x
  have hD := h1.dp.other hS fun b hb e => h1.hl.2 b e hb
  refine ⟨m5, F5, rl, hD, ⟨h1.tn.1.trans hS fun k hk e => ?_, h1.tn.2⟩, h3, ⟨?_, fun b hb hA => ?_⟩, h4⟩
  · have := (own_ty h1.hl.1 e).2; omega
  · rw [List.length_append]; exact ho
  · rcases hat with e | e
    · rw [e] at hb; exact h1.hl.2 b hb hA
    · rw [e] at hb
      injection hb with hb
      have := (h1.dp.all_lt hA).2
      rw [World.size_alloc] at hb
      omega
theorem PF.wait {w : World} {base D : Nat} {m : DM} {F : Nat → Prop} {v : Value} {l : List Int} {K x p : Nat} {d : DS} {r0 : Nat} {A9 : Option Addr} {n9 c9 : Nat} {wx : World} {j : Nat} (hd : d.ok) (hn : Next d x p)
    (h : PF w base D m F v l K x p d r0 (.slice A9 n9 c9) wx j) (h9 : (tkL d.kn d.sets (x : Int)).length = n9) (hj : j < n9) (hz : r0 + j ≤ 1000000) :
    ∃ q b : Nat, A9 = some ⟨b, 0, none⟩ ∧ wx.cell? ⟨b, j, none⟩ = some (.int .i64 (q : Nat)) ∧ q < d.sets.length ∧
      Calls Tryz.prog 79 #[.pointer (some ⟨D, 0, none⟩), .int .i64 (q : Nat)] wx fun e w' => e = .returned (.tuple #[]) ∧ PF w base D m F v l K x p d r0 (.slice A9 n9 c9) w' (j + 1) := by
  obtain ⟨m5, F5, rl, h1, h2, h3, h4⟩ := h
  have hj' : j < (tkL d.kn d.sets (x : Int)).length := by omega
  have hxk := hn.lt hd
  obtain ⟨b, e9, c9'⟩ := hl_cell h2 h9 hj'
  have hm : gi (tkL d.kn d.sets (x : Int)) j ∈ tkL d.kn d.sets (x : Int) := by rw [gi_get hj']; exact List.getElem_mem hj'
  have e : tkL d.kn d.sets (x : Int) = (holds d.sets (x : Int)).filter fun n => (rst (d.kn.set (x : Int).toNat true) (d.sets.getD n.toNat [])).length == 1 := by
    unfold tkL inK
    rw [decide_eq_true (by rw [hd.kl]; omega), hn.mem.2]; rfl
  obtain ⟨y0, hy0⟩ : ∃ y0, gi (tkL d.kn d.sets (x : Int)) j = y0 := ⟨_, rfl⟩
  rw [hy0, e] at hm
  obtain ⟨hm3, hm4⟩ := List.mem_filter.1 hm
  obtain ⟨q, hq, hqN, _⟩ := mem_holds.1 hm3
  subst hq
  have hq1 := hy0
  refine ⟨q, b, e9, by rw [c9', hy0], hqN, ?_⟩
  clear hy0
  have hr1 : (rst (d.kn.set x true) (d.sets.getD q [])).length = 1 := by
    rw [Int.toNat_natCast, Int.toNat_natCast, beq_iff_eq] at hm4
    exact hm4
  obtain ⟨y, hy⟩ := List.length_eq_one_iff.1 hr1
  have hymem : y ∈ d.set q := (mem_rst.1 (show y ∈ rst (d.kn.set x true) (d.sets.getD q []) by rw [hy]; exact List.mem_cons_self ..)).1
  have hy0 := (hd.sset hqN).inr y hymem
  obtain ⟨y, rfl⟩ : ∃ y' : Nat, y = y' := ⟨y.toNat, by omega⟩
  refine (waits_any h1.dp (by show rl.length ≤ _; omega) (p := q) hqN).mono ?_
  rintro e w' ⟨rfl, hw⟩
  obtain ⟨m', F', l', hD, hT, hp⟩ := hw.turn
  have hp' : l'.Perm (rl ++ [⟨(y : Int), (q : Int)⟩]) := by
    have e3 : wtL (d.kn.set x true) d.sets q = [⟨(y : Int), (q : Int)⟩] := wtL_one hy
    have : l'.Perm (rl ++ wtL (d.kn.set x true) d.sets q) := hp
    rw [e3] at this; exact this
  have hdr : (tkL d.kn d.sets (x : Int)).drop j = (q : Int) :: (tkL d.kn d.sets (x : Int)).drop (j + 1) := by
    rw [List.drop_eq_getElem_cons hj', ← gi_get hj', hq1]
  rw [hdr] at h3
  have h5 := h3.put (x := y) (show q < (d.took x p).sets.length from hqN) (show y < d.k by omega) hy (e := ⟨(y : Int), (q : Int)⟩) rfl rfl
  refine ⟨rfl, m', F', l', h1.step hD hT, h2.step hT, h5.perm hp', ?_⟩
  have := hp'.length_eq
  simp at this
  omega
end Go.Proofs.YtlhipaffhehcnaaGreat
namespace Go.Proofs.YtlhipaffhehcnaaGreat
open Go.RowKit Go.Maps
set_option linter.unusedVariables false
theorem unk_step {d : DS} {x p : Nat} (hd : d.ok) (hn : Next d x p) (N : Nat) : unk d.kn * (N + 1) = unk (d.took x p).kn * (N + 1) + (N + 1) := by
  have h2 : unk (d.kn.set x true) + 1 = unk d.kn := unk_set (by rw [hd.kl]; exact hn.lt hd) hn.mem.2
  have h3 : unk (d.took x p).kn = unk (d.kn.set x true) := rfl
  rw [h3, ← h2, Nat.succ_mul]
set_option maxRecDepth 100000 in
set_option maxHeartbeats 3200000 in
theorem peel_any {w : World} {base D : Nat} {m : DM} {F : Nat → Prop} {d : DS} {rl : List HE} (h : Dp w base D m (d.dc rl) F) (hd : d.ok) (hN : d.sets.length ≤ 1000) (hrl : rl.length ≤ 1000) (hx : RipX d rl []) :
    Calls Tryz.prog 80 #[.pointer (some ⟨D, 0, none⟩)] w (PkPost w base D m F d) := by
  obtain ⟨i0, hi0, hz0, hz1, hz2⟩ := info_parts u3_info
  have hstart : PkR w w base D m F d (unk d.kn * (d.sets.length + 1) + rl.length) (.slice none 0 0) := by
    refine ⟨d, rl, [], m, F, h, Turn.refl, .nil _, hd, hx, ⟨World.ownsRow_nil _ _ _ _, fun b hb => by cases hb⟩, rfl, ?_⟩
    have h1 := unk_le d.kn
    have h2 := hd.kl
    have h3 := hd.k1
    have h4 : unk d.kn * (d.sets.length + 1) ≤ 100 * 1001 := Nat.mul_le_mul (by omega) (by omega)
    omega
  generalize unk d.kn * (d.sets.length + 1) + rl.length = q0 at hstart
  have HS := Lib.hid hstart
  have HN := Lib.hid hN
  have HD := Lib.hid hd
  clear h hd hx hstart hrl hN
  go_enter Tryz.func80, Tryz.ntmps80
  go_wp2_with fail
  go_loopg [2] q0 (fun q v wr => PkR w wr base D m F d q v)
  case atStart => exact HS.out
  case round =>
    obtain ⟨d1, rl, l, m1, F1, hD, hT, hP, hok, hR, hL, hq, hq9⟩ := hrel
    obtain ⟨A, cc, hv, _, _⟩ := hD.rp.form
    have c5 := hD.c5
    rw [hv] at c5
    obtain ⟨L, hL9⟩ : ∃ L, (d1.dc rl).rl.length = L := ⟨_, rfl⟩
    have hL8 : rl.length = L := hL9
    rw [hL9] at c5 hv
    have hLz : L ≤ 110000 := by omega
    have H := Lib.hid (And.intro hD (And.intro hT (And.intro hP (And.intro hok (And.intro hR (And.intro hL (And.intro hq (And.intro hq9 (And.intro hv hL8)))))))))
    clear hD hT hP hok hR hL hq hq9 hv hL9 hL8 HS
    go_wp2_with fail
    refine (hLen_any (by omega)).mono ?_
    rintro e wx ⟨rfl, rfl⟩
    by_cases h0 : 0 < L
    · obtain ⟨n, rfl⟩ : ∃ n, L = n + 1 := ⟨L - 1, by omega⟩
      have z1 : decide (0 < n + 1) = true := decide_eq_true h0
      have z2 : decide (((n + 1 : Nat) : Int) > 0) = true := decide_eq_true (by omega)
      have z3 : decide ((0 : Int) < ((n + 1 : Nat) : Int)) = true := decide_eq_true (by omega)
      clear h0
      go_wp2_with fail
      have hhf := H.out.1.hf
      rw [H.out.2.2.2.2.2.2.2.2.1] at hhf
      refine (heapPop_any (o := 5) (m := n) (c := cc) hhf H.out.2.2.2.2.2.2.2.2.2 H.out.1.hp H.out.1.ft (by omega)).mono ?_
      rintro x2 w2 ⟨hx2, l', p1, p2, p3, p4, p5⟩
      have hl0 : 0 < rl.length := by have := H.out.2.2.2.2.2.2.2.2.2; omega
      obtain ⟨x, p, ha, hb, hpN, hxk, hor⟩ := H.out.2.2.2.2.1.1 _ (gx_mem hl0)
      have he : gx rl 0 = ⟨x, p⟩ := by rw [← ha, ← hb]
      have hx3 : x2 = .returned (.iface 171 (.agg #[.int .i64 (x : Nat), .int .i64 (p : Nat)])) := by
        rw [hx2]
        show Ending.returned (gx rl 0).any = _
        rw [he]; rfl
      have hpp : (gx rl 0 :: l').Perm rl := p2
      have hpm : ∀ f ∈ rl, (gx rl 0).key ≤ f.key := p4
      subst hx3
      obtain ⟨m2, F2, hD2, hT2⟩ : ∃ m2 F2, Dp w2 base D m2 (d1.dc l') F2 ∧ Turn wr m1 F1 w2 m2 F2 := by
        have := H.out.1.pop H.out.2.2.2.2.2.2.2.2.1 p1 p2 p3 p5
        exact ⟨_, _, this.1, this.2⟩
      have hrs := RS.made (x := x) (p := p) hD2 (H.out.2.1.trans hT2) (H.out.2.2.2.2.2.1.step hT2)
      rw [he] at hpp hpm
      have HP := Lib.hid (And.intro hpp (And.intro hpm (And.intro hpN hxk)))
      clear hx2 ha hb hpN hxk hor he hpp hpm hD2 hT2 p1 p2 p3 p4 p5 c5 hhf hl0
      have has := fun w => assert_el ⟨x, p⟩ w
      go_wp2_with fail
      generalize w2.alloc (.cells #[.int .i64 (x : Nat), .int .i64 (p : Nat)] 171) = w3 at hrs ⊢
      generalize w2.heap.size = K at hrs ⊢
      have c4 := hrs.dp.c4
      have k0 := hrs.bx.1
      have k1 := hrs.bx.2.1
      have cs := hrs.dp.symc (show x < (d1.dc l').k from HP.out.2.2.2)
      have hxk : (x : Int) < (((d1.dc l').k : Nat) : Int) := by have := HP.out.2.2.2; show (x : Int) < ((d1.k : Nat) : Int); omega
      cases hkx : knw d1.kn (x : Int) with
      | true =>
        obtain ⟨gs, cq, _, hsy, _, _, _⟩ := hrs.dp.symk (show x < (d1.dc l').k from HP.out.2.2.2) hkx
        rw [hsy] at cs
        have hq := fun w => neq_some ⟨gs, 0, none⟩ (d1.dc l').s cq w
        have R := Lib.hid hrs
        have HK := Lib.hid hkx
        clear hrs hsy hkx
        go_quiet (fail)
        go_wp2_with fail
        have hrs4 := R.out.drawn nq
        generalize w3.drewN nq = w4 at hrs4 ⊢
        have hln : l'.length = n := by have := HP.out.1.length_eq; have := H.out.2.2.2.2.2.2.2.2.2; simp at *; omega
        go_roundg (gk - 1)
        case measure => have := H.out.2.2.2.2.2.2.1; have := H.out.2.2.2.2.2.2.2.2.2; omega
        case rel =>
          refine ⟨d1, l', l, m2, F2, hrs4.dp, hrs4.tn, H.out.2.2.1, H.out.2.2.2.1, (H.out.2.2.2.2.1.perm HP.out.1).stale HK.out, hrs4.hl, ?_, ?_⟩
          · have := H.out.2.2.2.2.2.2.1; have := H.out.2.2.2.2.2.2.2.2.2; omega
          · have := H.out.2.2.2.2.2.2.2.1; omega
      | false =>
        rw [Dp.symn (c := d1.dc l') (m := m2) hkx] at cs
        have hq := neq_none
        have R := Lib.hid hrs
        have HK := Lib.hid hkx
        clear hrs hkx
        have hnx : Next d1 x p := by
          obtain ⟨x', p', e1, e2, e3⟩ := (H.out.2.2.2.2.1.perm HP.out.1).next H.out.2.2.2.1 HK.out fun f hf => HP.out.2.1 f (HP.out.1.mem_iff.1 hf)
          obtain rfl : x = x' := by have : (x : Int) = x' := e1; omega
          obtain rfl : p = p' := by have : (p : Int) = p' := e2; omega
          exact e3
        have HX := Lib.hid hnx
        clear hnx
        go_quiet (fail)
        go_wp2_with fail
        have hrs4 := R.out.drawn nq
        generalize w3.drewN nq = w4 at hrs4 ⊢
        clear R hq cs c4 k0 k1
        have c0 := hrs4.dp.c0
        have k0 := hrs4.bx.1
        have R := Lib.hid hrs4
        clear hrs4
        go_region_held3 (fun w' => w'.cell? ⟨D, 0, none⟩ = some (.pointer (some ⟨m2.G, 0, none⟩)) ∧ w'.cell? ⟨K, 0, none⟩ = some (.int .i64 (x : Nat))) (first | exact ⟨S5.out.1.dp.c0, S5.out.1.bx.1⟩ | exact ⟨c0, k0⟩ | go_keep)
          (first
            | (go_at_call 115; refine (of_gr (R.out.dp.gr.below (Below.refl _ w4).drew) (x : Int)).mono ?_; rintro e w5 ⟨v5, rfl, ho5, hb5⟩; have S5 := Lib.hid (And.intro (R.out.below (below_undrew hb5)) ho5); clear ho5 hb5))
        have hxL : x < d1.kn.length := by rw [H.out.2.2.2.1.kl]; exact HP.out.2.2.2
        have hW : Hl w5 w.heap.size (m2.all F2) v5 (holds d1.sets (x : Int)) := by
          have ho := S5.out.2
          rw [show owL (d1.dc l').kn (d1.dc l').sets (x : Int) = holds d1.sets (x : Int) from ow_holds hxL HK.out] at ho
          exact Hl.new R.out.dp ho R.out.tn.1.size
        have hrs := S5.out.1
        obtain ⟨A5, c5', hv5⟩ := own_sl hW.1
        obtain ⟨M, hM⟩ : ∃ M, (holds d1.sets (x : Int)).length = M := ⟨_, rfl⟩
        rw [hM] at hv5
        subst hv5
        have hMN : M ≤ 1000 := by
          rw [← hM]
          have h1 := holds_le d1.sets (x : Int)
          have h2 := H.out.2.2.1.same.2.2.2.2.1
          have h3 := HN.out
          rw [h2] at h1
          rw [h2]
          omega
        have HM5 := Lib.hid hM
        clear S5 R c0 k0 hM
        obtain ⟨g, cl, LA, e1, e2, e3, e4, e5⟩ := hrs.dp.lf (p := p) (show p < (d1.dc l').lefts.length from by show p < d1.lefts.length; rw [lefts_length]; exact HP.out.2.2.1)
        have c3 := hrs.dp.c3
        rw [e2] at c3
        have k1 := hrs.bx.2.1
        have pN : (p : Int) < (((d1.dc l').lefts.length : Nat) : Int) := by
          have : (d1.dc l').lefts.length = d1.sets.length := lefts_length d1
          rw [this]; have := HP.out.2.2.1; omega
        obtain ⟨N, hNN⟩ : ∃ N, (d1.dc l').lefts.length = N := ⟨_, rfl⟩
        rw [hNN] at c3 pN
        have hup : (d1.dc l').lefts.getD p [] = d1.left p := lefts_get HP.out.2.2.1
        rw [hup] at e5
        have hsz : d1.s ≤ 65535 := H.out.2.2.2.1.s1.2
        have R := Lib.hid (And.intro hrs (And.intro hW (And.intro e5 hNN)))
        clear hrs hW e1 e2 e4 e5 hNN hup hxL
        go_wp2_with fail
        go_region_held3 (fun w' => w'.cell? ⟨D, 3, none⟩ = some (.slice (some ⟨LA, 0, none⟩) N m2.lc) ∧ w'.cell? ⟨K, 1, none⟩ = some (.int .i64 (p : Nat)) ∧ w'.cell? ⟨LA, p, none⟩ = some (.slice (some ⟨g, 0, none⟩) (d1.dc l').s cl)) (first | exact S6.out.1 | exact ⟨c3, k1, e3⟩ | go_keep)
          (first
            | (go_at_call 73; refine (clone_any ((Rd.of_own R.out.2.2.1).below (Below.refl w5.heap.size w5).drew) (by show d1.s ≤ _; omega)).mono ?_; rintro e w6 ⟨v6, rfl, ho6, hb6⟩; obtain ⟨A6, d6, rfl, hd6, hx6⟩ := own_form ho6; clear hx6 hd6; have hb7 := below_undrew hb6; have S6 := Lib.hid (And.intro (And.intro (cell_below hb7 c3) (And.intro (cell_below hb7 k1) (cell_below hb7 e3))) (And.intro ho6 hb7)); clear ho6 hb6 hb7))
        have c4 := (R.out.1.below S6.out.2.2).dp.c4
        have k0 := (R.out.1.below S6.out.2.2).bx.1
        have f4 := (R.out.1.below S6.out.2.2).dp.sb.frozen x
        have cs6 := (R.out.1.below S6.out.2.2).dp.symc (show x < (d1.dc l').k from HP.out.2.2.2)
        rw [Dp.symn (c := d1.dc l') (m := m2) HK.out] at cs6
        have HM := Lib.hid (PM.start H.out.2.2.2.1 HX.out R.out.1 R.out.2.1 S6.out.2.1 S6.out.2.2)
        clear R c3 k1 e3 pN S6
        go_wp2_with fail
        go_cut [] (fun wx => PM w base D m F u2 l K x p d1 l' (.slice A5 M c5') A6 d6 wx 0)
        case first =>
          go_region
          all_goals go_wp2_with fail
          all_goals go_meet
          all_goals exact HM.out.drew
        case rest =>
          have HC := Lib.hid hcut
          clear hcut HM c4 k0 f4 cs6
          go_wp2_with fail
          go_loopw [63] (fun a wx => ∃ j : Nat, j ≤ M ∧ a = .int .i64 j ∧ PM w base D m F u2 l K x p d1 l' (.slice A5 M c5') A6 d6 wx j) (fun a wx => M - (intOf a).toNat)
          case atStart => exact ⟨0, by omega, rfl, HC.out⟩
          case round =>
            obtain ⟨j, hj, rfl, hT⟩ := hrel
            by_cases hlt : j < M
            · obtain ⟨q, g7, cc7, LA7, lc7, b7, hqN, q3, cq, e5, cb, hcall⟩ := hT.into H.out.2.2.2.1 HX.out HM5.out hlt
              subst e5
              have km : (j : Int) < (M : Int) := by omega
              have kd : decide ((j : Int) < (M : Int)) = true := decide_eq_true km
              have kd' : decide (j < M) = true := decide_eq_true hlt
              have j0 : (0 : Int) ≤ (j : Int) := by omega
              have qN : (q : Int) < ((d1.sets.length : Nat) : Int) := by omega
              have q0 : (0 : Int) ≤ (q : Int) := by omega
              have HI := Lib.hid hcall
              have HJ := Lib.hid hlt
              clear hcall hqN hlt hT
              go_wp2_with fail
              refine HI.out.mono ?_
              rintro e w7 ⟨rfl, h7⟩
              have H7 := Lib.hid h7
              clear h7
              go_wp2_with fail
              exact ⟨⟨j + 1, HJ.out, by go_num, H7.out⟩, by have := HJ.out; simp [intOf]; omega⟩
            · obtain rfl : j = M := by omega
              have kd : decide ((j : Int) < (j : Int)) = false := decide_eq_false (by omega)
              have kd' : decide (j < j) = false := decide_eq_false (by omega)
              have hTM := hT
              rw [← HM5.out] at hTM
              obtain ⟨G, q0c, qk, hcall⟩ := PM.take H.out.2.2.2.1 HX.out (e := ⟨x, p⟩) rfl rfl (H.out.2.2.2.2.1.perm HP.out.1) hTM
              have HI := Lib.hid hcall
              clear hcall hT hTM hlt hj
              go_wp2_with fail
              go_region_held3 (fun w' => w'.cell? ⟨D, 0, none⟩ = some (.pointer (some ⟨G, 0, none⟩)) ∧ w'.cell? ⟨K, 0, none⟩ = some (.int .i64 (x : Nat))) (first | exact S9.out.2 | exact ⟨q0c, qk⟩ | go_keep)
                (first
                  | (go_at_call 116; refine HI.out.mono ?_; rintro e w9 ⟨v9, rfl, h9, h90, h91⟩; have S9 := Lib.hid (And.intro h9 (And.intro h90 h91)); clear h9 h90 h91))
              obtain ⟨A9, c9, hv9⟩ := S9.out.1.form
              obtain ⟨R, hRr⟩ : ∃ R, (tkL d1.kn d1.sets (x : Int)).length = R := ⟨_, rfl⟩
              rw [hRr] at hv9
              subst hv9
              have hR1 : R ≤ d1.sets.length := by rw [← hRr]; exact tkL_le _ _ _
              have hsame : d1.sets = d.sets := H.out.2.2.1.same.2.2.2.2.1
              have hR2 : R ≤ 1000 := by have := HN.out; rw [hsame] at hR1; omega
              have hll : l'.length = n := by have := HP.out.1.length_eq; have := H.out.2.2.2.2.2.2.2.2.2; simp at *; omega
              have H9 := Lib.hid (And.intro S9.out.1 (And.intro hRr (And.intro hR1 (And.intro hsame hll))))
              clear S9 hRr hR1 hsame hll q0c qk HI
              go_wp2_with fail
              go_loopw [89] (fun a wx => ∃ i : Nat, i ≤ R ∧ a = .int .i64 i ∧ PF w base D m F u2 l K x p d1 l'.length (.slice A9 R c9) wx i) (fun a wx => R - (intOf a).toNat)
              case atStart => exact ⟨0, by omega, rfl, H9.out.1⟩
              case round =>
                obtain ⟨i, hi, rfl, hT⟩ := hrel
                by_cases hlt : i < R
                · obtain ⟨q, b7, e5, cb, hqN, hcall⟩ := hT.wait H.out.2.2.2.1 HX.out H9.out.2.1 hlt (by have := H9.out.2.2.2.2; omega)
                  subst e5
                  have km : (i : Int) < (R : Int) := by omega
                  have kd : decide ((i : Int) < (R : Int)) = true := decide_eq_true km
                  have kd' : decide (i < R) = true := decide_eq_true hlt
                  have j0 : (0 : Int) ≤ (i : Int) := by omega
                  have HI := Lib.hid hcall
                  have HJ := Lib.hid hlt
                  clear hcall hqN hlt hT
                  go_wp2_with fail
                  refine HI.out.mono ?_
                  rintro e w7 ⟨rfl, h7⟩
                  have H7 := Lib.hid h7
                  clear h7
                  go_wp2_with fail
                  exact ⟨⟨i + 1, HJ.out, by go_num, H7.out⟩, by have := HJ.out; simp [intOf]; omega⟩
                · obtain rfl : i = R := by omega
                  have kd : decide ((i : Int) < (i : Int)) = false := decide_eq_false (by omega)
                  have kd' : decide (i < i) = false := decide_eq_false (by omega)
                  obtain ⟨k0, hown, hsz⟩ := hT.box
                  obtain ⟨r, hr⟩ : ∃ r, l.length = r := ⟨_, rfl⟩
                  have hr1 : r ≤ 100 := by
                    have h1 := H.out.2.2.1.len HD.out
                    have h2 := unk_le d.kn
                    have h3 := HD.out.kl
                    have h4 := HD.out.k1
                    omega
                  rw [hr] at hown
                  have HT := Lib.hid (And.intro hT (And.intro hr (And.intro hown hsz)))
                  clear hT hr hown hsz hlt
                  go_wp2_with (at_builtin; refine wpList_append_rd _ rfl (.tmp 97) (.tmp 100) _ rfl w.heap.size 3 i0 _ 1 8 Tryz.underlying22 hi0 hz0 hz1 hz2 rfl (by omega) _ r (nums l) rfl (own_below HT.out.2.2.1 ((Below.refl _ _).alloc (Nat.le_refl _) _)) (some ⟨wr.heap.size, 0, none⟩) 1 1 (nums [(x : Int)]) rfl (Rd.lit _ _ _ _ rfl 1 rfl _ rfl) (nums_one _) (by simp only [maxLen]; omega) (by omega) (by have := HT.out.2.2.2; rw [World.size_alloc]; omega) ?_; intro v1 w3 hown1 hg1 hat1; rw [← nums_append] at hown1)
                  have HW := Lib.hid (And.intro hown1 (And.intro hg1 hat1))
                  clear hown1 hg1 hat1
                  have hT0 : PF w base D m F u2 l K x p d1 l'.length (.slice A9 i c9) wr (tkL d1.kn d1.sets (x : Int)).length := by rw [H9.out.2.1]; exact HT.out.1
                  obtain ⟨m6, F6, rl6, t1, t2, t3, t4, t5⟩ := hT0.told HW.out.2.1 (by rw [HT.out.2.1]; exact HW.out.1) HW.out.2.2
                  rw [H9.out.2.1] at t5
                  have hus := unk_step H.out.2.2.2.1 HX.out d.sets.length
                  generalize unk (d1.took x p).kn * (d.sets.length + 1) = U at hus
                  have hq1 := H.out.2.2.2.2.2.2.1
                  have hq2 := H.out.2.2.2.2.2.2.2.1
                  have hq3 := H.out.2.2.2.2.2.2.2.2.2
                  have hq4 := H9.out.2.2.1
                  have hq5 := H9.out.2.2.2.2
                  rw [H9.out.2.2.2.1] at hq4
                  rw [hus] at hq1
                  have hU : U = unk (d1.took x p).kn * (d.sets.length + 1) := by
                    have := unk_step H.out.2.2.2.1 HX.out d.sets.length
                    omega
                  go_roundg (U + rl6.length)
                  case measure => omega
                  case rel => exact ⟨d1.took x p, rl6, l ++ [(x : Int)], m6, F6, t1, t2, H.out.2.2.1.snoc HX.out, H.out.2.2.2.1.took HX.out, t3, t4, by rw [hU], by omega⟩
    · have z1 : decide (0 < L) = false := decide_eq_false h0
      have z2 : decide ((L : Int) > 0) = false := decide_eq_false (by omega)
      have z3 : decide ((0 : Int) < (L : Int)) = false := decide_eq_false (by omega)
      obtain rfl : L = 0 := by omega
      clear h0
      go_wp2_with fail
      go_ret
      obtain ⟨hD, hT, hP, hok, hR, hL, hq, hq9, hv, hl0⟩ := H.out
      obtain rfl := List.eq_nil_of_length_eq_zero hl0
      exact ⟨_, l, d1, m1, F1, rfl, hP, hR.stable, hD, hT, hL⟩
end Go.Proofs.YtlhipaffhehcnaaGreat
