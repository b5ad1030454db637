/- Chapter 21: a law's block and its sets. -/
import Derived.Test.YtidoembkcaojoaaSu21
namespace Go.Proofs.Ytidoembkcaojoaa
open Go.RowKit
set_option linter.unusedVariables false
theorem irow_info : (Try.prog.info? 23).map (fun i => (i.zero, i.size, i.bytes)) = some (some (.slice none 0 0), 1, 24) := by kernel_rfl
def IOR (w : World) (base : Nat) (vs : List Value) (xss : List (List Int)) : Prop :=
  vs.length = xss.length ∧ ∀ i, i < xss.length → ∃ A c, vs[i]? = some (.slice A (xss.getD i []).length c) ∧ w.ownsRow base 3 1 (.slice A (xss.getD i []).length c) (xss.getD i []).length (nums (xss.getD i []))
theorem IOR.nil (w : World) (base : Nat) : IOR w base [] [] := ⟨rfl, fun i h => absurd h (Nat.not_lt_zero _)⟩
theorem IOR.snoc {w w' : World} {base : Nat} {vs : List Value} {xss : List (List Int)} (h : IOR w base vs xss) (hk : ∀ A n c l, w.ownsRow base 3 1 (.slice A n c) n (nums l) → w'.ownsRow base 3 1 (.slice A n c) n (nums l)) {A : Option Addr} {c : Nat} {x : List Int} (hr : w'.ownsRow base 3 1 (.slice A x.length c) x.length (nums x)) : IOR w' base (vs ++ [.slice A x.length c]) (xss ++ [x]) := by
  refine ⟨by simp [h.1], fun i hi => ?_⟩
  rcases Nat.lt_or_ge i xss.length with e | e
  · obtain ⟨A', c', h1, h2⟩ := h.2 i e
    have e2 : (xss ++ [x]).getD i [] = xss.getD i [] := by simp only [List.getD_eq_getElem?_getD, List.getElem?_append_left e]
    rw [e2]
    exact ⟨A', c', by rw [List.getElem?_append_left (by rw [h.1]; exact e)]; exact h1, hk _ _ _ _ h2⟩
  · obtain rfl : i = xss.length := by simp at hi; omega
    have e2 : (xss ++ [x]).getD xss.length [] = x := by simp [List.getD_eq_getElem?_getD]
    rw [e2]
    exact ⟨A, c, by rw [List.getElem?_append_right (by rw [h.1]; exact Nat.le_refl _), h.1, Nat.sub_self]; rfl, hr⟩
theorem IOR.keep {w w' : World} {base : Nat} {vs : List Value} {xss : List (List Int)} (h : IOR w base vs xss) (hb : Below w.heap.size w w') : IOR w' base vs xss :=
  ⟨h.1, fun i hi => by obtain ⟨A, c, h1, h2⟩ := h.2 i hi; exact ⟨A, c, h1, own_below h2 hb⟩⟩
theorem IOR.irw {w : World} {base b0 : Nat} {vs : List Value} {xss : List (List Int)} (h : IOR w base vs xss) {A : Option Addr} {n c : Nat} (ho : w.ownsRow b0 23 1 (.slice A n c) n vs) (hn : xss.length = n) : IRw w A n xss := by
  refine ⟨hn, fun h0 => ?_⟩
  obtain ⟨b, cur, rfl, _, hl, _⟩ := own_formN ho h0
  refine ⟨b, rfl, hl, fun j hj => ?_⟩
  obtain ⟨B, c', h1, h2⟩ := h.2 j hj
  have hr := (Rd.of_own ho).cells j _ h1
  rw [Addr.add_lit, Nat.zero_add] at hr
  exact ⟨B, c', hr, Rd.of_own h2⟩
/-- Rising numbers of 0 .. j - 1. -/
def Ris (j : Nat) (l : List Int) : Prop := l.Pairwise (· < ·) ∧ ∀ x ∈ l, 0 ≤ x ∧ x < j
theorem Ris.nil (j : Nat) : Ris j [] := ⟨List.Pairwise.nil, fun x h => absurd h (by simp)⟩
theorem Ris.up {j : Nat} {l : List Int} (h : Ris j l) : Ris (j + 1) l := ⟨h.1, fun x hx => by have := h.2 x hx; omega⟩
theorem Ris.snoc {j : Nat} {l : List Int} (h : Ris j l) : Ris (j + 1) (l ++ [(j : Int)]) := by
  refine ⟨List.pairwise_append.2 ⟨h.1, List.pairwise_singleton _ _, fun x hx y hy => ?_⟩, fun x hx => ?_⟩
  · rw [List.mem_singleton.1 hy]; exact (h.2 x hx).2
  · rcases List.mem_append.1 hx with e | e
    · have := h.2 x e; omega
    · rw [List.mem_singleton.1 e]; omega
theorem ris_okS {k : Int} : ∀ {l : List Int} {last : Int}, l.Pairwise (· < ·) → (∀ x ∈ l, last < x ∧ x < k) → okS k last l = true
  | [], _, _, _ => rfl
  | x :: l, last, hp, h => by
    rw [List.pairwise_cons] at hp
    have hx := h x (List.mem_cons_self ..)
    unfold okS
    rw [if_neg (by omega)]
    exact ris_okS hp.2 fun y hy => ⟨hp.1 y hy, (h y (List.mem_cons_of_mem _ hy)).2⟩
theorem Ris.sset {k : Nat} {l : List Int} (h : Ris k l) (hl : 0 < l.length) : Sset k l := by
  unfold Sset setB
  rw [ris_okS h.1 (fun x hx => by have := h.2 x hx; omega), decide_eq_true hl]; rfl
theorem Ris.len {j : Nat} {l : List Int} (h : Ris j l) : l.length ≤ j := by
  rcases Nat.eq_zero_or_pos l.length with e | e
  · omega
  · exact (h.sset e).len
theorem u8_of {z : Int} (h : 0 ≤ z ∧ z ≤ 255) : ∃ u : UInt8, z = ((u.toNat : Nat) : Int) := ⟨UInt8.ofNat z.toNat, by
  have : (UInt8.ofNat z.toNat).toNat = z.toNat := by rw [UInt8.toNat_ofNat']; omega
  rw [this]; omega⟩
theorem two_lit (wr : World) (o : Obj) (x1 x2 : UInt8) : ((wr.alloc o).alloc (.cells #[.int .u8 (x1.toNat : Nat), .int .u8 (x2.toNat : Nat)] 5)).drew.ownsRow wr.heap.size 5 1 (.slice (some ⟨wr.heap.size + 1, 0, none⟩) 2 2) 2 (bys [x1, x2]) ∧ Below wr.heap.size wr ((wr.alloc o).alloc (.cells #[.int .u8 (x1.toNat : Nat), .int .u8 (x2.toNat : Nat)] 5)).drew := by
  have k := Bk.newA (wr.alloc o) 5 #[.int .u8 (x1.toNat : Nat), .int .u8 (x2.toNat : Nat)]
  rw [World.size_alloc] at k
  refine ⟨own_mkN (w := ((wr.alloc o).alloc (.cells #[.int .u8 (x1.toNat : Nat), .int .u8 (x2.toNat : Nat)] 5)).drew) (cur := [.int .u8 (x1.toNat : Nat), .int .u8 (x2.toNat : Nat)]) k (Nat.le_succ _) (Nat.le_refl _) (by simp [maxLen]) rfl rfl, ?_⟩
  exact (((Below.refl _ _).alloc (Nat.le_refl _) _).alloc (by rw [World.size_alloc]; omega) _).drew
theorem blk_push {w wr w4 w6 : World} {vs : List Value} {xss : List (List UInt8)} {V A4 : Option Addr} {cv j c4 : Nat} {x : List UInt8} {o : Obj} (how : wr.ownsRow w.heap.size 22 1 (.slice V j cv) j vs) (hor : ORows wr w.heap.size vs xss) (hb : Below w.heap.size w wr) (hb4 : Below wr.heap.size wr w4) (ho4 : w4.ownsRow wr.heap.size 5 1 (.slice A4 2 c4) 2 (bys x)) (hx : x.length = 2)
    (hg6 : (w4.alloc o).grownBy w6 (Value.slice V j cv).ownBlock) : ORows w6 w.heap.size (vs ++ [.slice A4 2 c4]) (xss ++ [x]) ∧ Below w.heap.size w w6 := by
  have how4 := own_below how hb4
  have hor4 := hor.below hb4
  have hb04 := below_base hb hb4 hb.size
  have hc6 : Chg (fun b => (Value.slice V j cv).ownBlock = some b) w4 w6 := ((Chg.refl _ w4).alloc _).trans (Chg.of_grown hg6 (S := fun b => (Value.slice V j cv).ownBlock = some b) fun k e => e) fun _ _ x => x
  refine ⟨?_, hc6.below hb04 (fun b _ e => (how4.lt b e).1) hb04.size⟩
  rw [← hx]
  refine ORows.snoc (B := wr.heap.size) ?_ ?_ hb.size ?_
  · refine ⟨hor4.1, fun i y hy => ?_, hor4.2.2⟩
    obtain ⟨A', c', h1, h2⟩ := hor4.2.1 i y hy
    refine ⟨A', c', h1, hc6.own h2 fun b hb e => ?_⟩
    exact own_apart how4 h2 (by decide) b hb e
  · rw [hx]
    exact hc6.own ho4 fun b hb e => own_apart how4 ho4 (by decide) b hb e
  · intro i v b hv e
    exact (hor.blk i v b hv e).2
theorem set_push {wo w2 w3 w6 : World} {vs : List Value} {sets : List (List Int)} {V A4 : Option Addr} {cv j c4 : Nat} {x : List Int} {o : Obj} (how : w2.ownsRow wo.heap.size 23 1 (.slice V j cv) j vs) (hio : IOR w2 wo.heap.size vs sets) (hb : Below wo.heap.size wo w2) (hb3 : Below w2.heap.size w2 w3) (ho3 : w3.ownsRow w2.heap.size 3 1 (.slice A4 x.length c4) x.length (nums x))
    (hg6 : (w3.alloc o).grownBy w6 (Value.slice V j cv).ownBlock) : IOR w6 wo.heap.size (vs ++ [.slice A4 x.length c4]) (sets ++ [x]) ∧ Below wo.heap.size wo w6 := by
  have how3 := own_below how hb3
  have hio3 := hio.keep hb3
  have hb03 := below_base hb hb3 hb.size
  have hc6 : Chg (fun b => (Value.slice V j cv).ownBlock = some b) w3 w6 := ((Chg.refl _ w3).alloc _).trans (Chg.of_grown hg6 (S := fun b => (Value.slice V j cv).ownBlock = some b) fun k e => e) fun _ _ x => x
  refine ⟨?_, hc6.below hb03 (fun b _ e => (how3.lt b e).1) hb03.size⟩
  exact hio3.snoc (fun A n c l h2 => hc6.own h2 fun b hb e => own_apart how3 h2 (by decide) b hb e) (hc6.own (own_mono ho3 hb.size) fun b hb e => own_apart how3 ho3 (by decide) b hb e)
set_option maxRecDepth 100000 in
set_option maxHeartbeats 6400000 in
theorem world_any {w : World} {A B : Option Addr} {k nb n cb c : Nat} {bytes : List UInt8} {masks : List Int} (hB : Rd w B nb (bys bytes)) (hM : Rd w A n (nums masks)) (hk : 1 ≤ k ∧ k ≤ 12) (hn : n ≤ 25) (hnb : nb ≤ 140737488351232) :
    Calls Try.prog 12 #[.int .i64 (k : Nat), .slice B nb cb, .slice A n c] w fun e w' => ∃ A1 c1 A2 c2 blk sets, e = .returned (.tuple #[.slice A1 k c1, .slice A2 sets.length c2]) ∧ Syms w' A1 k blk ∧ BlkOk k blk ∧ IRw w' A2 sets.length sets ∧ (∀ s ∈ sets, Sset k s) ∧ sets.length ≤ 25 ∧ sets.length ≤ c2 ∧ Below w.heap.size w w' := by
  obtain ⟨i0, hi0, hz0, hz1, hz2⟩ := info_parts ints2_info
  obtain ⟨i1, hi1, hy0, hy1, hy2⟩ := info_parts u3_info
  obtain ⟨i2, hi2, hx0, hx1, hx2⟩ := info_parts irow_info
  obtain ⟨hk1, hk2⟩ := hk
  have hk3 : (k : Int) ≤ 12 := by omega
  have hnn : (n : Int) ≤ 25 := by omega
  have hnb2 : (nb : Int) ≤ 140737488351232 := by omega
  have hbl : bytes.length = nb := by have := hB.1; simpa [bys_length] using this
  have hml : masks.length = n := by have := hM.1; simpa [nums_length] using this
  have H := Lib.hid (And.intro hB (And.intro hM (And.intro hbl hml)))
  clear hB hM hbl hml hnb
  go_enter Try.func12, Try.ntmps12
  go_wp2_with fail
  go_loopg [8, 9] k (fun q v i wr => ∃ (j : Nat) (vs : List Value) (xss : List (List UInt8)), q + j = k ∧ i = .int .i64 j ∧ wr.ownsRow w.heap.size 22 1 v j vs ∧ ORows wr w.heap.size vs xss ∧ xss.length = j ∧ (∀ b ∈ xss, b.length = 2) ∧ Below w.heap.size w wr)
  case atStart => exact ⟨0, [], [], by omega, rfl, World.ownsRow_nil _ _ _ _, ORows.nil _ _, rfl, fun b h => absurd h (by simp), Below.refl _ _⟩
  case round =>
    obtain ⟨j, vs, xss, hj, rfl, how, hor, hxl, hx2', hb⟩ := hrel
    by_cases hlt : j < k
    · have km : (j : Int) < (k : Int) := by omega
      have kd : decide ((j : Int) < (k : Int)) = true := decide_eq_true km
      have kd' : decide (j < k) = true := decide_eq_true hlt
      have j0 : (0 : Int) ≤ (j : Int) := by omega
      have j7 : (7 : Int) * (j : Int) ≤ 255 := by omega
      obtain ⟨V, cv, rfl⟩ := own_sl how
      have HW := Lib.hid (And.intro how (And.intro hor (And.intro hb (And.intro hxl (And.intro hx2' hj)))))
      obtain ⟨ua, hua⟩ := u8_of (z := (j : Int)) (by omega)
      obtain ⟨ub, hub⟩ := u8_of (z := 7 * (j : Int)) (by omega)
      by_cases h2 : 2 * j + 1 < nb
      · have e1 : decide (2 * (j : Int) + 1 < (nb : Int)) = true := decide_eq_true (by omega)
        have e2 : 2 * (j : Int) + 1 < (nb : Int) := by omega
        have e3 : 2 * (j : Int) < (nb : Int) := by omega
        have e4 : (0 : Int) ≤ 2 * (j : Int) := by omega
        have e5 : (0 : Int) ≤ 2 * (j : Int) + 1 := by omega
        have t1 : ((2 : Int) * (j : Int)).toNat = 2 * j := by omega
        have t2 : ((2 : Int) * (j : Int) + 1).toNat = 2 * j + 1 := by omega
        obtain ⟨bb, off, rfl, hbb, hcc⟩ := (H.out.1.below hb).form (by omega)
        have hq1 : (bys bytes)[2 * j]? = some (.int .u8 (((bytes.getD (2 * j) 0).toNat : Nat) : Int)) := by
          unfold bys
          rw [List.getElem?_map, List.getD_eq_getElem?_getD, List.getElem?_eq_getElem (by have := H.out.2.2.1; omega)]; rfl
        have hq2 : (bys bytes)[2 * j + 1]? = some (.int .u8 (((bytes.getD (2 * j + 1) 0).toNat : Nat) : Int)) := by
          unfold bys
          rw [List.getElem?_map, List.getD_eq_getElem?_getD, List.getElem?_eq_getElem (by have := H.out.2.2.1; omega)]; rfl
        have q1 := hcc _ _ hq1
        have q2 := hcc _ _ hq2
        generalize bytes.getD (2 * j) 0 = x1 at q1 hq1
        generalize bytes.getD (2 * j + 1) 0 = x2 at q2 hq2
        have hbA : Below wr.heap.size wr (wr.alloc (.cells #[.int .u8 (j : Int), .int .u8 (7 * (j : Int))] 5)) := (Below.refl _ _).alloc (Nat.le_refl _) _
        have q1' := cell_below hbA q1
        have q2' := cell_below hbA q2
        have HBA := Lib.hid hbA
        clear how hor hb hxl hx2' hj hlt hcc hq1 hq2 h2 hua hub hbA
        go_wp2_with fail
        go_cut [10] (fun s10 wx => ∃ A4 c4, s10 = .slice A4 2 c4 ∧ wx.ownsRow wr.heap.size 5 1 (.slice A4 2 c4) 2 (bys [x1, x2]) ∧ Below wr.heap.size wr wx)
        case first =>
          go_region
          all_goals go_wp2_with fail
          all_goals go_meet
          all_goals exact ⟨_, _, rfl, (two_lit wr _ x1 x2).1, (two_lit wr _ x1 x2).2⟩
        case rest =>
          obtain ⟨A4, c4, rfl, ho4, hb4⟩ := hcut
          have HX2 : [x1, x2].length = 2 := rfl
          have H4 := Lib.hid (And.intro hb4 (And.intro ho4 (own_below HW.out.1 hb4)))
          clear ho4 hb4 q1 q2 q1' q2'
          go_wp2_with (at_builtin; refine wpList_append_rd _ rfl (.tmp 44) (.tmp 46) _ rfl w.heap.size 22 i0 _ 1 24 Try.underlying30 hi0 hz0 hz1 hz2 rfl (by omega) _ j vs rfl (own_below H4.out.2.2 ((Below.refl _ _).alloc (Nat.le_refl _) _)) (some ⟨wc.heap.size, 0, none⟩) 1 1 [.slice A4 2 c4] rfl (Rd.lit _ _ _ _ rfl 1 rfl _ rfl) slice_one (by simp only [maxLen]; omega) (by omega) (by have := HW.out.2.2.1.size; have := H4.out.1.size; rw [World.size_alloc]; omega) ?_; intro v6 w6 hown6 hg6 hat6)
          obtain ⟨p1, p2⟩ := blk_push HW.out.1 HW.out.2.1 HW.out.2.2.1 H4.out.1 H4.out.2.1 HX2 hg6
          have HP := Lib.hid (And.intro hown6 (And.intro p1 p2))
          clear hown6 hg6 hat6 p1 p2
          go_roundg (gk - 1)
          case measure => have := HW.out.2.2.2.2.2; omega
          case rel =>
            refine ⟨j + 1, _, _, by have := HW.out.2.2.2.2.2; omega, by go_num, HP.out.1, HP.out.2.1, by rw [List.length_append, HW.out.2.2.2.1]; rfl, fun b hb => ?_, HP.out.2.2⟩
            rcases List.mem_append.1 hb with e | e
            · exact HW.out.2.2.2.2.1 b e
            · rw [List.mem_singleton.1 e]; exact HX2
      · have e1 : decide (2 * (j : Int) + 1 < (nb : Int)) = false := decide_eq_false (by omega)
        have HX2 : [ua, ub].length = 2 := rfl
        have h4 : (wr.alloc (.cells #[.int .u8 (j : Int), .int .u8 (7 * (j : Int))] 5)).ownsRow wr.heap.size 5 1 (.slice (some ⟨wr.heap.size, 0, none⟩) 2 2) 2 (bys [ua, ub]) := by
          refine own_mkN (cur := [.int .u8 (j : Int), .int .u8 (7 * (j : Int))]) ?_ (Nat.le_refl _) (Nat.le_refl _) (by simp [maxLen]) rfl (by rw [hub, hua]; rfl)
          exact Bk.newA wr 5 #[.int .u8 (j : Int), .int .u8 (7 * (j : Int))]
        have hbA : Below wr.heap.size wr (wr.alloc (.cells #[.int .u8 (j : Int), .int .u8 (7 * (j : Int))] 5)) := (Below.refl _ _).alloc (Nat.le_refl _) _
        have H4 := Lib.hid (And.intro hbA (And.intro h4 (own_below how hbA)))
        have hlit : Rd ((wr.alloc (.cells #[.int .u8 (j : Int), .int .u8 (7 * (j : Int))] 5)).alloc (.cells #[.slice (some ⟨wr.heap.size, 0, none⟩) 2 2] 22)) (some ⟨wr.heap.size + 1, 0, none⟩) (1 * 1) [.slice (some ⟨wr.heap.size, 0, none⟩) 2 2] := by
          have k := Bk.newA (wr.alloc (.cells #[.int .u8 (j : Int), .int .u8 (7 * (j : Int))] 5)) 22 #[.slice (some ⟨wr.heap.size, 0, none⟩) 2 2]
          rw [World.size_alloc] at k
          exact Rd.of_bk k (by simp) rfl
        have HLit := Lib.hid hlit
        clear hlit
        clear how hor hb hxl hx2' hj hlt h2 hua hub hbA h4
        go_wp2_with (at_builtin; refine wpList_append_rd _ rfl (.tmp 44) (.tmp 46) _ rfl w.heap.size 22 i0 _ 1 24 Try.underlying30 hi0 hz0 hz1 hz2 rfl (by omega) _ j vs rfl (own_below H4.out.2.2 ((Below.refl _ _).alloc (Nat.le_refl _) _)) (some ⟨wr.heap.size + 1, 0, none⟩) 1 1 [.slice (some ⟨wr.heap.size, 0, none⟩) 2 2] rfl HLit.out slice_one (by simp only [maxLen]; omega) (by omega) (by have := HW.out.2.2.1.size; have := H4.out.1.size; rw [World.size_alloc]; omega) ?_; intro v6 w6 hown6 hg6 hat6)
        obtain ⟨p1, p2⟩ := blk_push HW.out.1 HW.out.2.1 HW.out.2.2.1 H4.out.1 H4.out.2.1 HX2 hg6
        have HP := Lib.hid (And.intro hown6 (And.intro p1 p2))
        clear hown6 hg6 hat6 p1 p2
        go_roundg (gk - 1)
        case measure => have := HW.out.2.2.2.2.2; omega
        case rel =>
          refine ⟨j + 1, _, _, by have := HW.out.2.2.2.2.2; omega, by go_num, HP.out.1, HP.out.2.1, by rw [List.length_append, HW.out.2.2.2.1]; rfl, fun b hb => ?_, HP.out.2.2⟩
          rcases List.mem_append.1 hb with e | e
          · exact HW.out.2.2.2.2.1 b e
          · rw [List.mem_singleton.1 e]; exact HX2
    · have hjk : j = k := by omega
      rw [hjk] at how hxl
      obtain ⟨V, cv, rfl⟩ := own_sl how
      have HB := Lib.hid (And.intro how (And.intro hor (And.intro hxl (And.intro hx2' hb))))
      have kd : decide ((j : Int) < (k : Int)) = false := decide_eq_false (by omega)
      have kd' : decide (j < k) = false := decide_eq_false (by omega)
      clear how hor hb hxl hx2' hj hlt
      subst hjk
      go_wp2_with fail
      go_loopw [11, 12] (fun v i wx => ∃ (t : Nat) (vs2 : List Value) (sets : List (List Int)), t ≤ n ∧ i = .int .i64 t ∧ wx.ownsRow wr.heap.size 23 1 v sets.length vs2 ∧ IOR wx wr.heap.size vs2 sets ∧ (∀ s ∈ sets, Sset j s) ∧ sets.length ≤ t ∧ Below wr.heap.size wr wx) (fun v i wx => n - (intOf i).toNat)
      case atStart => exact ⟨0, [], [], by omega, rfl, World.ownsRow_nil _ _ _ _, IOR.nil _ _, fun s h => absurd h (by simp), Nat.le_refl _, Below.refl _ _⟩
      case round =>
        obtain ⟨t, vs2, sets, ht, rfl, how, hio, hss, hsl, hb⟩ := hrel
        obtain ⟨V2, cv2, rfl⟩ := own_sl how
        by_cases hlt : t < n
        · have km : (t : Int) < (n : Int) := by omega
          have kd2 : decide ((t : Int) < (n : Int)) = true := decide_eq_true km
          have kd2' : decide (t < n) = true := decide_eq_true hlt
          have t0 : (0 : Int) ≤ (t : Int) := by omega
          have hbw := below_base HB.out.2.2.2.2 hb HB.out.2.2.2.2.size
          have htm : t < masks.length := by rw [H.out.2.2.2]; exact hlt
          obtain ⟨bb, off, rfl, hbb, hcc⟩ := (H.out.2.1.below hbw).form (by omega)
          have cx := hcc t _ (nums_gi htm)
          generalize gi masks t = mk at cx
          have HX := Lib.hid (And.intro how (And.intro hio (And.intro hss (And.intro hsl (And.intro hb hlt)))))
          clear how hio hss hsl hb hlt hbw htm hbb hcc ht
          go_wp2_with fail
          go_loopw [13, 14] (fun v i wy => ∃ (u : Nat) (L : List Int), u ≤ j ∧ i = .int .i64 u ∧ Ris u L ∧ wy.ownsRow wr.heap.size 3 1 v L.length (nums L) ∧ Below wr.heap.size wr wy) (fun v i wy => j - (intOf i).toNat)
          case atStart => exact ⟨0, [], by omega, rfl, Ris.nil 0, World.ownsRow_nil _ _ _ _, Below.refl _ _⟩
          case round =>
            obtain ⟨u, L, hu, rfl, hris, how2, hb2⟩ := hrel
            by_cases hlt2 : u < j
            · have km3 : (u : Int) < (j : Int) := by omega
              have kd3 : decide ((u : Int) < (j : Int)) = true := decide_eq_true km3
              have kd3' : decide (u < j) = true := decide_eq_true hlt2
              have u0 : (0 : Int) ≤ (u : Int) := by omega
              have cy := cell_below hb2 cx
              have HL := Lib.hid (And.intro hris (And.intro how2 (And.intro hb2 hlt2)))
              have hLl := hris.len
              obtain ⟨r, hr⟩ : ∃ r, L.length = r := ⟨_, rfl⟩
              have HR := Lib.hid hr
              have hr0 := hr
              have hr9 : r ≤ 12 := by omega
              clear hris how2 hb2 hlt2 hu hr
              obtain ⟨q, hq⟩ : ∃ q, ((mk / 2 ^ u).tmod 2 != 0) = q := ⟨_, rfl⟩
              cases q with
              | true =>
                obtain ⟨V3, cv3, rfl⟩ := own_sl HL.out.2.1
                have HO := Lib.hid (show wr.ownsRow _ 3 1 (.slice V3 r cv3) r (nums L) from by have := HL.out.2.1; rw [hr0] at this; exact this)
                clear hr0
                rw [HR.out]
                go_wp2_with (at_builtin; refine wpList_append_rd _ rfl (.tmp 68) (.tmp 70) _ rfl _ 3 i1 _ 1 8 Try.underlying23 hi1 hy0 hy1 hy2 rfl (by omega) _ r (nums L) rfl (own_below HO.out ((Below.refl _ _).alloc (Nat.le_refl _) _)) (some ⟨wr.heap.size, 0, none⟩) 1 1 (nums [(u : Int)]) rfl (Rd.lit _ _ _ _ rfl 1 rfl _ rfl) (nums_one _) (by simp only [maxLen]; omega) (by omega) (by have := HL.out.2.2.1.size; rw [World.size_alloc]; omega) ?_; intro v1 w3 hown1 hg1 hat1; rw [← nums_append] at hown1)
                have hS : Chg (fun k => (Value.slice V3 r cv3).ownBlock = some k) wr w3 := ((Chg.refl _ wr).alloc _).trans (Chg.of_grown hg1 (S := fun k => (Value.slice V3 r cv3).ownBlock = some k) fun k e => e) fun _ _ x => x
                have hb3 := hS.below HL.out.2.2.1 (fun b _ e => (HO.out.lt b e).1) HL.out.2.2.1.size
                exact ⟨⟨u + 1, L ++ [(u : Int)], HL.out.2.2.2, by go_num, HL.out.1.snoc, by rw [List.length_append, HR.out]; exact hown1, hb3⟩, by have := HL.out.2.2.2; simp [intOf]; omega⟩
              | false =>
                clear hr0
                go_wp2_with fail
                exact ⟨⟨u + 1, L, HL.out.2.2.2, by go_num, HL.out.1.up, HL.out.2.1, HL.out.2.2.1⟩, by have := HL.out.2.2.2; simp [intOf]; omega⟩
            · have huj : u = j := by omega
              have kd3 : decide ((u : Int) < (j : Int)) = false := decide_eq_false (by omega)
              have kd3' : decide (u < j) = false := decide_eq_false (by omega)
              rw [huj] at hris
              obtain ⟨V3, cv3, rfl⟩ := own_sl how2
              have hLl := hris.len
              have HL := Lib.hid (And.intro hris (And.intro how2 hb2))
              obtain ⟨r, hr⟩ : ∃ r, L.length = r := ⟨_, rfl⟩
              have HR := Lib.hid hr
              obtain ⟨sn, hsn⟩ : ∃ sn, sets.length = sn := ⟨_, rfl⟩
              have HSN := Lib.hid hsn
              have hsn9 : sn ≤ 25 := by have := HX.out.2.2.2.1; have := HX.out.2.2.2.2.2; omega
              clear hris how2 hb2 hlt2 hu
              rw [hr, hsn]
              by_cases h0 : 0 < r
              · have d1 : decide ((r : Int) > 0) = true := decide_eq_true (by omega)
                have d2 : decide ((0 : Int) < (r : Int)) = true := decide_eq_true (by omega)
                have d3 : decide (0 < r) = true := decide_eq_true h0
                have HO := Lib.hid (show wr.ownsRow _ 23 1 (.slice V2 sn cv2) sn vs2 from by have := own_below HX.out.1 HL.out.2.2; rw [hsn] at this; exact this)
                have H0 := Lib.hid h0
                clear h0 hr hsn
                go_wp2_with (at_builtin; refine wpList_append_rd _ rfl (.tmp 75) (.tmp 77) _ rfl _ 23 i2 _ 1 24 Try.underlying31 hi2 hx0 hx1 hx2 rfl (by omega) _ sn vs2 rfl (own_below HO.out ((Below.refl _ _).alloc (Nat.le_refl _) _)) (some ⟨wr.heap.size, 0, none⟩) 1 1 [.slice V3 r cv3] rfl (Rd.lit _ _ _ _ rfl 1 rfl _ rfl) slice_one (by simp only [maxLen]; omega) (by omega) (by have := HX.out.2.2.2.2.1.size; have := HL.out.2.2.size; rw [World.size_alloc]; omega) ?_; intro v6 w6 hown6 hg6 hat6)
                have how2' := HX.out.1
                rw [HSN.out] at how2'
                obtain ⟨p1, p2⟩ := set_push how2' HX.out.2.1 HX.out.2.2.2.2.1 HL.out.2.2 HL.out.2.1 hg6
                rw [HR.out] at p1
                refine ⟨⟨t + 1, _, sets ++ [L], HX.out.2.2.2.2.2, by go_num, by rw [List.length_append, HSN.out]; exact hown6, p1, fun s hs => ?_, by rw [List.length_append]; have := HX.out.2.2.2.1; simp; omega, p2⟩, by have := HX.out.2.2.2.2.2; simp [intOf]; omega⟩
                rcases List.mem_append.1 hs with e | e
                · exact HX.out.2.2.1 s e
                · rw [List.mem_singleton.1 e]; exact HL.out.1.sset (by rw [HR.out]; exact H0.out)
              · have d1 : decide ((r : Int) > 0) = false := decide_eq_false (by omega)
                have d2 : decide ((0 : Int) < (r : Int)) = false := decide_eq_false (by omega)
                have d3 : decide (0 < r) = false := decide_eq_false h0
                clear h0 hr hsn
                go_wp2_with fail
                exact ⟨⟨t + 1, vs2, sets, HX.out.2.2.2.2.2, by go_num, by have := own_below HX.out.1 HL.out.2.2; rw [HSN.out] at this ⊢; exact this, HX.out.2.1.keep HL.out.2.2, HX.out.2.2.1, by have := HX.out.2.2.2.1; omega, below_base HX.out.2.2.2.2.1 HL.out.2.2 HX.out.2.2.2.2.1.size⟩, by have := HX.out.2.2.2.2.2; simp [intOf]; omega⟩
        · have htn : t = n := by omega
          have kd2 : decide ((t : Int) < (n : Int)) = false := decide_eq_false (by omega)
          have kd2' : decide (t < n) = false := decide_eq_false (by omega)
          have HX := Lib.hid (And.intro how (And.intro hio (And.intro hss (And.intro hsl hb))))
          clear how hio hss hsl hb hlt ht
          go_wp2_with fail
          go_ret2
          exact ⟨V, cv, V2, cv2, xss, sets, rfl, ⟨vs, Rd.of_own (own_below HB.out.1 HX.out.2.2.2.2), (HB.out.2.1.below HX.out.2.2.2.2).rows⟩, ⟨HB.out.2.2.1, HB.out.2.2.2.1⟩, HX.out.2.1.irw HX.out.1 rfl, HX.out.2.2.1, by have := HX.out.2.2.2.1; omega, (own_rdN HX.out.1).2, below_base HB.out.2.2.2.2 HX.out.2.2.2.2 HB.out.2.2.2.2.size⟩
end Go.Proofs.Ytidoembkcaojoaa
