/- Chapter 21: a decoder that a law has made; adds; begun; awake. Chapter 21: begun, awake, PeelKnown. SameLists of artesiankit. -/
import Derived.Test.YtidoembkcaojoaaPf21
namespace Go.Proofs.Ytidoembkcaojoaa
open Go.RowKit
set_option linter.unusedVariables false
/-- A decoder that was made since w0. -/
def Lp (w0 w : World) (D : Nat) (d : DS) : Prop := Below w0.heap.size w0 w ∧ ∃ base FA, Dw w base D d FA ∧ ∀ b, FA b → w0.heap.size ≤ b ∧ b < w.heap.size
section
variable {w0 w1 w w' : World} {D : Nat} {d : DS}
theorem Dw.tight {base : Nat} {FA : Nat → Prop} (h : Dw w base D d FA) : Dw w base D d fun b => FA b ∧ b < w.heap.size := by
  obtain ⟨m, F, h1, h2, h3, h4⟩ := h
  exact ⟨m, F, h1, h2, h3, fun b hb => ⟨h4 b hb, (h1.all_lt hb).2⟩⟩
theorem Lp.below (h : Lp w0 w1 D d) (hb : Below w1.heap.size w1 w) : Lp w0 w D d := by
  obtain ⟨h1, base, FA, h2, h3⟩ := h
  exact ⟨below_base h1 hb h1.size, base, FA, h2.below hb, fun b hb' => ⟨(h3 b hb').1, Nat.lt_of_lt_of_le (h3 b hb').2 hb.size⟩⟩
theorem lp_add (h : Lp w0 w1 D d) (hb : Below w1.heap.size w1 w) {A B : Option Addr} {n nb cA cB : Nat} {set : List Int} {pay : List UInt8} {id : Int} (hN : d.sets.length < 1000) (hr : Rd w A n (nums set)) (hn : n ≤ 1000000) (hp : Rd w B nb (bys pay)) (hnb : nb ≤ 140737488351232) (hw : (Lit.int .i64 id).wf = true)
    (hA : 0 < n → ∀ a, A = some a → a.block < w0.heap.size ∨ w1.heap.size ≤ a.block) (hB : 0 < nb → ∀ a, B = some a → a.block < w0.heap.size ∨ w1.heap.size ≤ a.block) :
    Calls Try.prog 14 #[.pointer (some ⟨D, 0, none⟩), .int .i64 id, .slice A n cA, .slice B nb cB] w fun e w' => ∃ v, e = .returned (.tuple #[v, .int .i64 (d.add id set pay).2.1]) ∧ Lp w0 w' D (d.add id set pay).2.2 ∧ w'.ownsRow w.heap.size 3 1 v (d.add id set pay).1.length (nums (d.add id set pay).1) ∧ (∀ b, (b < w0.heap.size ∨ w1.heap.size ≤ b) → b < w.heap.size → w'.heap[b]? = w.heap[b]?) ∧ w.heap.size ≤ w'.heap.size ∧ (∀ b, v.ownBlock = some b → w.heap.size ≤ b) := by
  obtain ⟨h1, base, FA, h2, h3⟩ := h
  have hap : ∀ b, (b < w0.heap.size ∨ w1.heap.size ≤ b) → ¬ FA b := fun b hb e => by have := h3 b e; omega
  refine (add_dw (h2.below hb) hN hr hn hp hnb hw (fun h0 a ha => hap _ (hA h0 a ha)) (fun h0 a ha => hap _ (hB h0 a ha))).mono ?_
  rintro e w' ⟨v, FB, rfl, p1, p2, p3, p4⟩
  have hz := p3.size
  have hb1 := below_base h1 hb h1.size
  refine ⟨v, rfl, ⟨p3.below hb1 (fun b hb e => (h3 b e).1) hb1.size, base, _, p1.tight, fun b hb => ⟨(p2 b hb.1).elim (fun e => (h3 b e).1) fun e => by have := hb1.size; omega, hb.2⟩⟩, p4.1, fun b hb hl => p3.2 b hl (hap b hb), hz, fun b hb => (own_ty p4.1 hb).2⟩
theorem rd_blk {w w' : World} {A : Option Addr} {n : Nat} {xs : List Value} (h : Rd w A n xs) (hk : 0 < n → ∀ a, A = some a → w'.heap[a.block]? = w.heap[a.block]?) : Rd w' A n xs := by
  refine ⟨h.1, fun h0 => ?_⟩
  obtain ⟨b, off, e, hc⟩ := h.2 h0
  have hk' := hk h0 _ e
  refine ⟨b, off, e, fun j u hu => ?_⟩
  rw [← hc j u hu]
  unfold World.cell?
  have : w'.heap[b]? = w.heap[b]? := hk'
  simp only [this]
set_option maxRecDepth 100000 in
set_option maxHeartbeats 1600000 in
theorem lp_adds (h : Lp w0 w1 D d) (hb : Below w1.heap.size w1 w) {A B W : Option Addr} {n nb cA cB nw cw : Nat} {set ws : List Int} {pay : List UInt8} {id err : Int} (hN : d.sets.length < 1000) (hr : Rd w A n (nums set)) (hn : n ≤ 1000000) (hp : Rd w B nb (bys pay)) (hnb : nb ≤ 140737488351232) (hw : (Lit.int .i64 id).wf = true)
    (hA : 0 < n → ∀ a, A = some a → a.block < w0.heap.size ∨ w1.heap.size ≤ a.block) (hB : 0 < nb → ∀ a, B = some a → a.block < w0.heap.size ∨ w1.heap.size ≤ a.block) (hW : 0 < nw → ∀ a, W = some a → a.block < w0.heap.size ∨ w1.heap.size ≤ a.block) (hrw : Rd w W nw (nums ws)) (hk : d.k ≤ 100) :
    Calls Try.prog 25 #[.pointer (some ⟨D, 0, none⟩), .int .i64 id, .slice A n cA, .slice B nb cB, .int .i64 err, .slice W nw cw] w fun e w' => e = .returned (.bool (((d.add id set pay).2.1 == err) && ((d.add id set pay).1 == ws))) ∧ Lp w0 w' D (d.add id set pay).2.2 := by
  have hlw := hrw.lt
  have H := Lib.hid (And.intro (lp_add (cA := cA) (cB := cB) h hb hN hr hn hp hnb hw hA hB) (And.intro hrw (And.intro hW hlw)))
  have hlen : (d.add id set pay).1.length ≤ 1000 := by
    obtain ⟨_, base, FA, h2, _⟩ := h
    have hok := h2.ok
    by_cases he : d.err id set pay = 0
    · obtain ⟨out, d', e, p1, _⟩ := add_spec hok he
      rw [e]
      have h4 := p1.len (hok.addP he)
      have h5 := unk_le (d.addP id set pay).kn
      have h6 := (hok.addP he).kl
      have h7 : (d.addP id set pay).k = d.k := rfl
      show out.length ≤ 1000
      omega
    · rw [dadd_bad he]; simp
  have HL := Lib.hid hlen
  obtain ⟨T, hT⟩ : ∃ T, d.add id set pay = T := ⟨_, rfl⟩
  rw [hT] at H HL ⊢
  obtain ⟨T1, T2, T3⟩ := T
  clear h hb hN hr hn hp hnb hw hA hB hW hrw hk hlen hT hlw
  dsimp only at H HL ⊢
  by_cases he : T2 = err
  · subst he
    go_enter Try.func25, Try.ntmps25
    go_wp2_with fail
    refine H.out.1.mono ?_
    rintro e w2 ⟨v, rfl, p1, p2, p3, p4, p5⟩
    obtain ⟨V, c, rfl⟩ := own_sl p2
    have hW2 : Rd w2 W nw (nums ws) := rd_blk H.out.2.1 fun h0 a ha => p3 _ (H.out.2.2.1 h0 a ha) (H.out.2.2.2 h0 a ha)
    have HQ := Lib.hid (sameInts_any (c := c) (c' := cw) (Rd.of_own p2) hW2 (by have := HL.out; omega))
    have HP := Lib.hid p1
    clear p1 p2 p3 p4 p5 hW2
    go_wp2_with fail
    refine HQ.out.mono ?_
    rintro e w3 ⟨rfl, hb3⟩
    have HB := Lib.hid hb3
    clear hb3
    go_wp2_with fail
    go_ret
    refine ⟨ret_bool ?_, HP.out.below HB.out⟩
    simp
  · have d1 : decide (T2 = err) = false := decide_eq_false he
    have d2 : (T2 == err) = false := by simpa using he
    clear he
    go_enter Try.func25, Try.ntmps25
    go_wp2_with fail
    refine H.out.1.mono ?_
    rintro e w2 ⟨v, rfl, p1, p2, p3, p4, p5⟩
    have HP := Lib.hid p1
    clear p1 p2 p3 p4 p5
    go_wp2_with fail
    go_ret
    refine ⟨ret_bool ?_, HP.out⟩
    rw [d2]; rfl
theorem lp_adds_lit (h : Hid (Lp w0 w1 D d)) {set : List Int} {pay : List UInt8} {id err : Int} {arr arr2 : Array Value} {n nb cA cB : Nat} (hN : d.sets.length < 1000) (hw : (Lit.int .i64 id).wf = true) (hn : set.length = n) (hn1 : n ≤ 1000) (hnb : pay.length = nb) (hnb1 : nb ≤ 1000) (ha : arr.toList = nums set) (hb : arr2.toList = bys pay) (hk : d.k ≤ 100) :
    Calls Try.prog 25 #[.pointer (some ⟨D, 0, none⟩), .int .i64 id, .slice (some ⟨w1.heap.size, 0, none⟩) n cA, .slice (some ⟨w1.heap.size + 1, 0, none⟩) nb cB, .int .i64 err, .slice none 0 0] ((w1.alloc (.cells arr 3)).alloc (.cells arr2 5)) fun e w' => e = .returned (.bool (((d.add id set pay).2.1 == err) && ((d.add id set pay).1 == []))) ∧ Lp w0 w' D (d.add id set pay).2.2 := by
  have k1 := (Bk.newA w1 3 arr).alloc (.cells arr2 5)
  have k2 := Bk.newA (w1.alloc (.cells arr 3)) 5 arr2
  rw [ha] at k1
  rw [hb, World.size_alloc] at k2
  refine lp_adds h.out (((Below.refl _ _).alloc (Nat.le_refl _) _).alloc (by rw [World.size_alloc]; omega) _) hN (Rd.of_bk k1 (by rw [nums_length]; omega) (by simp [← hn, ← nums_length])) (by omega) (Rd.of_bk k2 (by rw [bys_length]; omega) (by simp [← hnb, ← bys_length])) (by omega) hw (fun _ a ha => .inr (by injection ha with ha; rw [← ha]; exact Nat.le_refl _)) (fun _ a ha => .inr (by injection ha with ha; rw [← ha]; exact Nat.le_succ _)) (fun h0 => absurd h0 (Nat.lt_irrefl _)) (Rd.nil _ _) hk
theorem lp_adds_lit3 (h : Hid (Lp w0 w1 D d)) {set ws : List Int} {pay : List UInt8} {id err : Int} {arr arr2 arr3 : Array Value} {n nb nw cA cB cw : Nat} (hN : d.sets.length < 1000) (hw : (Lit.int .i64 id).wf = true) (hn : set.length = n) (hn1 : n ≤ 1000) (hnb : pay.length = nb) (hnb1 : nb ≤ 1000) (hnw : ws.length = nw) (ha : arr.toList = nums set) (hb : arr2.toList = bys pay) (hc : arr3.toList = nums ws) (hk : d.k ≤ 100) :
    Calls Try.prog 25 #[.pointer (some ⟨D, 0, none⟩), .int .i64 id, .slice (some ⟨w1.heap.size, 0, none⟩) n cA, .slice (some ⟨w1.heap.size + 1, 0, none⟩) nb cB, .int .i64 err, .slice (some ⟨w1.heap.size + 1 + 1, 0, none⟩) nw cw] (((w1.alloc (.cells arr 3)).alloc (.cells arr2 5)).alloc (.cells arr3 3)) fun e w' => e = .returned (.bool (((d.add id set pay).2.1 == err) && ((d.add id set pay).1 == ws))) ∧ Lp w0 w' D (d.add id set pay).2.2 := by
  have k1 := ((Bk.newA w1 3 arr).alloc (.cells arr2 5)).alloc (.cells arr3 3)
  have k2 := (Bk.newA (w1.alloc (.cells arr 3)) 5 arr2).alloc (.cells arr3 3)
  have k3 := Bk.newA ((w1.alloc (.cells arr 3)).alloc (.cells arr2 5)) 3 arr3
  rw [ha] at k1
  rw [hb, World.size_alloc] at k2
  rw [hc, World.size_alloc, World.size_alloc] at k3
  refine lp_adds h.out ((((Below.refl _ _).alloc (Nat.le_refl _) _).alloc (by rw [World.size_alloc]; omega) _).alloc (by rw [World.size_alloc, World.size_alloc]; omega) _) hN (Rd.of_bk k1 (by rw [nums_length]; omega) (by simp [← hn, ← nums_length])) (by omega) (Rd.of_bk k2 (by rw [bys_length]; omega) (by simp [← hnb, ← bys_length])) (by omega) hw (fun _ a ha => .inr (by injection ha with ha; rw [← ha]; exact Nat.le_refl _)) (fun _ a ha => .inr (by injection ha with ha; rw [← ha]; exact Nat.le_succ _)) (fun _ a ha => .inr (by injection ha with ha; rw [← ha]; show w1.heap.size ≤ w1.heap.size + 1 + 1; omega)) (Rd.of_bk k3 (by rw [nums_length]; omega) (by simp [← hnw, ← nums_length])) hk
end
end Go.Proofs.Ytidoembkcaojoaa
namespace Go.Proofs.Ytidoembkcaojoaa
open Go.RowKit
set_option linter.unusedVariables false
def bD0 : DS := newD 3 1 9
def bD1 : DS := (bD0.add 7 [0, 1] [3]).2.2
def bD2 : DS := (bD1.add 8 [1, 2] [6]).2.2
def bD3 : DS := (bD2.add 7 [0] [1]).2.2
def bD : DS := (bD3.add 9 [2] [4]).2.2
theorem b1_says : ((bD0.add 7 [0, 1] [3]).2.1 == 0 && (bD0.add 7 [0, 1] [3]).1 == []) = true := by kernel_rfl
theorem b2_says : ((bD1.add 8 [1, 2] [6]).2.1 == 0 && (bD1.add 8 [1, 2] [6]).1 == []) = true := by kernel_rfl
theorem b3_says : ((bD2.add 7 [0] [1]).2.1 == 11 && (bD2.add 7 [0] [1]).1 == []) = true := by kernel_rfl
theorem b4_says : ((bD3.add 9 [2] [4]).2.1 == 0 && (bD3.add 9 [2] [4]).1 == [2, 1, 0]) = true := by kernel_rfl
theorem b_unk : unk bD2.kn = 3 := by kernel_rfl
theorem b_done : unk bD.kn = 0 := by kernel_rfl
theorem b_known : knL bD.kn = [0, 1, 2] := by kernel_rfl
theorem b_len : bD0.sets.length = 0 ∧ bD1.sets.length = 1 ∧ bD2.sets.length = 2 ∧ bD3.sets.length = 2 ∧ bD.sets.length = 3 := ⟨by kernel_rfl, by kernel_rfl, by kernel_rfl, by kernel_rfl, by kernel_rfl⟩
theorem b_k : bD0.k = 3 ∧ bD1.k = 3 ∧ bD2.k = 3 ∧ bD3.k = 3 ∧ bD.k = 3 := ⟨by kernel_rfl, by kernel_rfl, by kernel_rfl, by kernel_rfl, by kernel_rfl⟩
theorem lp_new {w0 w : World} (hb0 : Below w0.heap.size w0 w) {k s most : Int} {e : Ending} {w' : World} (h : PwPost w k s most e w') (hp : ¬ pbad k s most) : ∃ D, e = .returned (.tuple #[.pointer (some ⟨D, 0, none⟩), .int .i64 0]) ∧ Lp w0 w' D (newD k.toNat s.toNat most) := by
  unfold PwPost at h
  rw [if_neg hp] at h
  obtain ⟨D, rfl, h1, h2⟩ := h
  exact ⟨D, rfl, below_base hb0 h2 hb0.size, _, _, h1, fun b hb => ⟨Nat.le_trans hb0.size hb.1, hb.2⟩⟩
set_option maxRecDepth 100000 in
set_option maxHeartbeats 3200000 in
theorem begun_any {w : World} : Calls Try.prog 20 #[] w fun e w' => ∃ D, e = .returned (.pointer (some ⟨D, 0, none⟩)) ∧ Lp w w' D bD := by
  obtain ⟨l0, l1, l2, l3, l4⟩ := b_len
  obtain ⟨k0, k1, k2, k3, k4⟩ := b_k
  have HLen := Lib.hid (show (bD0.sets.length < 1000 ∧ bD1.sets.length < 1000 ∧ bD2.sets.length < 1000 ∧ bD3.sets.length < 1000) ∧ (bD0.k ≤ 100 ∧ bD1.k ≤ 100 ∧ bD2.k ≤ 100 ∧ bD3.k ≤ 100) from by omega)
  clear l0 l1 l2 l3 l4 k0 k1 k2 k3 k4
  go_enter Try.func20, Try.ntmps20
  go_wp2_with fail
  refine (new_dw 3 1 9 (.inl (by decide))).mono ?_
  intro e w1 h1
  obtain ⟨D, rfl, h2⟩ := lp_new (Below.refl _ _) h1 (by decide)
  have HL0 : Hid (Lp w w1 D bD0) := Lib.hid h2
  clear h1 h2
  go_wp2_with fail
  refine (lp_adds_lit HL0 (set := [0, 1]) (pay := [3]) HLen.out.1.1 (by decide) rfl (by decide) rfl (by decide) rfl rfl HLen.out.2.1).mono ?_
  rintro e w2 ⟨rfl, h2⟩
  rw [b1_says]
  have HL1 : Hid (Lp w w2 D bD1) := Lib.hid h2
  clear h2 HL0
  go_wp2_with fail
  refine (lp_adds_lit HL1 (set := [1, 2]) (pay := [6]) HLen.out.1.2.1 (by decide) rfl (by decide) rfl (by decide) rfl rfl HLen.out.2.2.1).mono ?_
  rintro e w3 ⟨rfl, h3⟩
  rw [b2_says]
  have HL2 : Hid (Lp w w3 D bD2) := Lib.hid h3
  clear h3 HL1
  go_wp2_with fail
  obtain ⟨_, base, FA, hdw, _⟩ := HL2.out
  refine (left_dw hdw).mono ?_
  rintro e w4 ⟨rfl, rfl⟩
  rw [b_unk]
  clear hdw
  go_wp2_with fail
  refine (lp_adds_lit HL2 (set := [0]) (pay := [1]) HLen.out.1.2.2.1 (by decide) rfl (by decide) rfl (by decide) rfl rfl HLen.out.2.2.2.1).mono ?_
  rintro e w5 ⟨rfl, h5⟩
  rw [b3_says]
  have HL3 : Hid (Lp w w5 D bD3) := Lib.hid h5
  clear h5 HL2
  go_wp2_with fail
  refine (lp_adds_lit3 HL3 (set := [2]) (pay := [4]) (ws := [2, 1, 0]) HLen.out.1.2.2.2 (by decide) rfl (by decide) rfl (by decide) rfl rfl rfl rfl HLen.out.2.2.2.2).mono ?_
  rintro e w6 ⟨rfl, h6⟩
  rw [b4_says]
  have HL4 : Hid (Lp w w6 D bD) := Lib.hid h6
  clear h6 HL3
  go_wp2_with fail
  go_ret
  exact ⟨D, rfl, HL4.out⟩
set_option maxRecDepth 100000 in
set_option maxHeartbeats 3200000 in
theorem awake_any {w : World} : Calls Try.prog 9 #[] w fun e w' => e = .returned (.bool true) ∧ Below w.heap.size w w' := by
  go_enter Try.func9, Try.ntmps9
  go_wp2_with fail
  refine begun_any.mono ?_
  rintro e w1 ⟨D, rfl, h1⟩
  have HL := Lib.hid h1
  obtain ⟨_, base, FA, hdw, _⟩ := h1
  have HD := Lib.hid hdw
  clear hdw
  go_wp2_with fail
  refine (done_dw HD.out).mono ?_
  rintro e w2 ⟨rfl, rfl⟩
  rw [b_done]
  go_wp2_with fail
  refine (left_dw HD.out).mono ?_
  rintro e w2 ⟨rfl, rfl⟩
  rw [b_done]
  go_wp2_with fail
  refine (known_dw HD.out).mono ?_
  rintro e w3 ⟨v, rfl, ho, hb⟩
  rw [b_known] at ho
  obtain ⟨V, c, rfl⟩ := own_sl ho
  have HK := Lib.hid (And.intro ho hb)
  clear ho hb
  go_wp2_with fail
  have hb3 : Below w3.heap.size w3 (w3.alloc (.cells #[.int .i64 0, .int .i64 1, .int .i64 2] 3)) := (Below.refl _ _).alloc (Nat.le_refl _) _
  refine (sameInts_any (xs := [0, 1, 2]) (ys := [0, 1, 2]) ((Rd.of_own HK.out.1).below hb3) (Rd.of_bk (Bk.newA w3 3 #[.int .i64 0, .int .i64 1, .int .i64 2]) (by decide) rfl) (by decide)).mono ?_
  rintro e w4 ⟨rfl, hb4⟩
  have HB := Lib.hid (below_base (below_base (below_base HL.out.1 HK.out.2 HL.out.1.size) hb3 (Nat.le_trans HL.out.1.size HK.out.2.size)) hb4 (Nat.le_trans (Nat.le_trans HL.out.1.size HK.out.2.size) hb3.size))
  clear hb3 hb4
  go_wp2_with fail
  go_ret
  exact ⟨rfl, HB.out⟩
end Go.Proofs.Ytidoembkcaojoaa
namespace Go.Proofs.Ytidoembkcaojoaa
open Go.RowKit
set_option linter.unusedVariables false
set_option maxRecDepth 100000 in
set_option maxHeartbeats 1600000 in
theorem sameLists_any {w : World} {A A' : Option Addr} {n n' c c' : Nat} {xss yss : List (List UInt8)} (h : Syms w A n xss) (h' : Syms w A' n' yss) (hn : n ≤ 1000000) :
    Calls Try.prog 24 #[.slice A n c, .slice A' n' c'] w fun e w' => e = .returned (.bool (xss == yss)) ∧ Below w.heap.size w w' := by
  have H := Lib.hid (And.intro h (And.intro h' (And.intro h.len h'.len)))
  have hn' : (n : Int) ≤ 1000000 := by omega
  clear h h' hn
  by_cases hne : n = n'
  · subst hne
    go_enter Try.func24, Try.ntmps24
    go_wp2
    go_loopw [5, 6] (fun s i wr => ∃ (k : Nat) (q : Bool), k ≤ n ∧ s = .bool q ∧ i = .int .i64 k ∧ (q = true → xss.take k = yss.take k) ∧ (q = false → (xss == yss) = false) ∧ Below w.heap.size w wr) (fun s i wr => n - (intOf i).toNat)
    case atStart => exact ⟨0, true, by omega, by simp, rfl, fun _ => rfl, fun h => absurd h (by simp), Below.refl _ _⟩
    case round =>
      obtain ⟨k, q, hk, rfl, rfl, ht, hf, hb⟩ := hrel
      cases q with
      | false =>
        have HT := Lib.hid (And.intro (hf rfl) hb)
        clear ht hf hb hk
        go_wp2_with fail
        go_ret
        exact ⟨ret_bool (by rw [HT.out.1]), HT.out.2⟩
      | true =>
        have ht := ht rfl
        by_cases hlt : k < n
        · have km : (k : Int) < (n : Int) := by omega
          have kd : decide ((k : Int) < (n : Int)) = true := decide_eq_true km
          have kd' : decide (k < n) = true := decide_eq_true hlt
          have k0 : (0 : Int) ≤ (k : Int) := by omega
          obtain ⟨a, off, B, cc, rfl, ha, c1, hr1, _, _⟩ := H.out.1.at_ hlt
          obtain ⟨a', off', B', cc', rfl, ha', c2, hr2, _, _⟩ := H.out.2.1.at_ hlt
          have c1 := (hb.cell (p := ⟨a, off + k, none⟩) ha).trans c1
          have c2 := (hb.cell (p := ⟨a', off' + k, none⟩) ha').trans c2
          have hx : k < xss.length := by rw [H.out.2.2.1]; exact hlt
          have hy : k < yss.length := by rw [H.out.2.2.2]; exact hlt
          have HQ := Lib.hid (same_any (c := cc) (c' := cc') ((hr1.below hb).drew) ((hr2.below hb).drew))
          have HT := Lib.hid (show ∀ b : Bool, (xss.getD k [] == yss.getD k []) = b → (b = true → xss.take (k + 1) = yss.take (k + 1)) ∧ (b = false → (xss == yss) = false) from fun b e => by
            rw [getD_at hx, getD_at hy] at e
            constructor
            · intro hb; subst hb
              rw [List.take_succ_eq_append_getElem hx, List.take_succ_eq_append_getElem hy, ht, eq_of_beq e]
            · intro hb; subst hb
              rw [beq_eq_false_iff_ne] at e ⊢
              intro e2; subst e2; exact e rfl)
          obtain ⟨q, hq⟩ : ∃ q, (xss.getD k [] == yss.getD k []) = q := ⟨_, rfl⟩
          have HT := Lib.hid (HT.out q hq)
          rw [hq] at HQ
          generalize (xss.getD k []).length = m1 at c1 HQ
          generalize (yss.getD k []).length = m2 at c2 HQ
          have HB := Lib.hid (And.intro hb hlt)
          clear hr1 hr2 hx hy hq hb hlt ht hf ha ha' hk
          go_wp2_with fail
          go_still_tail 8, (by kernel_rfl)
          change wpList _ _ _ _ _ wr.drew
          go_wp2_with fail
          refine HQ.out.mono ?_
          rintro e w8 ⟨rfl, rfl⟩
          go_wp2_with fail
          exact ⟨⟨k + 1, q, by have := HB.out.2; omega, rfl, by go_num, HT.out.1, HT.out.2, HB.out.1.drew⟩, by have := HB.out.2; simp [intOf]; omega⟩
        · obtain rfl : k = n := by omega
          have kd : decide ((k : Int) < (k : Int)) = false := decide_eq_false (by omega)
          have kd' : decide (k < k) = false := decide_eq_false (by omega)
          have HT := Lib.hid (And.intro (show (xss == yss) = true from by
            rw [List.take_of_length_le (by rw [H.out.2.2.1]; exact Nat.le_refl _), List.take_of_length_le (by rw [H.out.2.2.2]; exact Nat.le_refl _)] at ht
            rw [ht]; simp) hb)
          clear hlt hk ht hf hb
          go_wp2_with fail
          go_ret
          exact ⟨ret_bool (by rw [HT.out.1]), HT.out.2⟩
  · have hd : ((n : Int) == (n' : Int)) = false := by simp; omega
    have hd1 : decide ((n : Int) = (n' : Int)) = false := decide_eq_false (by omega)
    have hd2 : decide (n = n') = false := decide_eq_false hne
    have HT := Lib.hid (show (xss == yss) = false from by
      rw [beq_eq_false_iff_ne]
      intro e; subst e
      have := H.out.2.2.1; have := H.out.2.2.2; omega)
    clear hne
    go_enter Try.func24, Try.ntmps24
    go_wp2
    go_loopw [5, 6] (fun s i wr => s = .bool false ∧ i = .int .i64 0 ∧ wr = w) (fun s i wr => 0)
    case atStart => exact ⟨rfl, rfl, by first | rfl | trivial⟩
    case round =>
      obtain ⟨rfl, rfl, rfl⟩ := hrel
      go_wp2_with fail
      go_ret
      exact ⟨ret_bool (by rw [HT.out]), Below.refl _ _⟩
end Go.Proofs.Ytidoembkcaojoaa
