/- Chapter 21: a decoder's small functions. Chapter 21: a packet with one symbol left is put into the ripple. Chapter 21: peeling: its steps in memory. -/
import Derived.Test.YtlhipaffhehcnaaGreatT12
namespace Go.Proofs.YtlhipaffhehcnaaGreat
open Go.RowKit Go.Maps
set_option linter.unusedVariables false
theorem dnone_made {w : World} {D G : Nat} (hc : w.cell? ⟨D, 0, none⟩ = some (.pointer (some ⟨G, 0, none⟩))) : Calls Tryz.prog 75 #[.pointer (some ⟨D, 0, none⟩)] w fun e w' => e = .returned (.bool false) ∧ w = w' := by
  go_enter Tryz.func75, Tryz.ntmps75
  go_wp2
  go_ret
  exact ⟨rfl, rfl⟩
section
variable {w : World} {base D : Nat} {m : DM} {c : DC} {F : Nat → Prop}
theorem Dp.c0 (h : Dp w base D m c F) : w.cell? ⟨D, 0, none⟩ = some (.pointer (some ⟨m.G, 0, none⟩)) := h.e.cell 0
theorem Dp.c1 (h : Dp w base D m c F) : w.cell? ⟨D, 1, none⟩ = some (.int .i64 (c.s : Nat)) := h.e.cell 1
theorem Dp.c2 (h : Dp w base D m c F) : w.cell? ⟨D, 2, none⟩ = some (.map (some m.M)) := h.e.cell 2
theorem Dp.c3 (h : Dp w base D m c F) : w.cell? ⟨D, 3, none⟩ = some (.slice m.LA c.lefts.length m.lc) := h.e.cell 3
theorem Dp.c4 (h : Dp w base D m c F) : w.cell? ⟨D, 4, none⟩ = some (.slice (some ⟨m.SB, 0, none⟩) c.k c.k) := h.e.cell 4
theorem Dp.c5 (h : Dp w base D m c F) : w.cell? ⟨D, 5, none⟩ = some m.v := h.e.cell 5
theorem Dp.c6 (h : Dp w base D m c F) : w.cell? ⟨D, 6, none⟩ = some (.int .i64 c.most) := h.e.cell 6
theorem Dp.symc (h : Dp w base D m c F) {i : Nat} (hi : i < c.k) : w.cell? ⟨m.SB, i, none⟩ = some (syv c m i) := by
  rw [h.sb.cell, List.getElem?_map, List.getElem?_range hi]; rfl
theorem Dp.symk (h : Dp w base D m c F) {i : Nat} (hi : i < c.k) (hk : knw c.sk (i : Int) = true) : ∃ g cc, m.sy i = (some ⟨g, 0, none⟩, cc) ∧ syv c m i = .slice (some ⟨g, 0, none⟩) c.s cc ∧ c.s ≤ cc ∧ w.ownsRow base 5 1 (.slice (some ⟨g, 0, none⟩) c.s cc) c.s (bys (c.vals.getD i [])) ∧ Rd w (some ⟨g, 0, none⟩) c.s (bys (c.vals.getD i [])) := by
  have ho := h.sx i hi hk
  obtain ⟨A, cc, hs⟩ : ∃ A cc, m.sy i = (A, cc) := ⟨_, _, rfl⟩
  rw [hs] at ho
  obtain ⟨g, cur, hA, _, _, _, hnc, _⟩ := own_formN (A := A) (c := cc) ho (by have := h.s1; omega)
  subst hA
  refine ⟨g, cc, hs, ?_, hnc, ho, Rd.of_own ho⟩
  unfold syv
  rw [hk, hs]; rfl
theorem Dp.symn {i : Nat} (hk : knw c.sk (i : Int) = false) : syv c m i = .slice none 0 0 := by unfold syv; rw [hk]; rfl
set_option maxRecDepth 100000 in
set_option maxHeartbeats 1600000 in
theorem isSet_any (h : Dp w base D m c F) {A : Option Addr} {n cc : Nat} {l : List Int} (hr : Rd w A n (nums l)) (hn : n ≤ 1000000) (hkz : c.k ≤ 65536) :
    Calls Tryz.prog 76 #[.pointer (some ⟨D, 0, none⟩), .slice A n cc] w fun e w' => e = .returned (.bool (setB c.k l)) ∧ w = w' := by
  have hl : l.length = n := by have := hr.1; simpa [nums_length] using this
  have c4 := h.c4
  obtain ⟨k, hk⟩ : ∃ k, c.k = k := ⟨_, rfl⟩
  rw [hk] at c4 hkz ⊢
  have HR := Lib.hid (And.intro hr hl)
  clear h hr hl hk
  go_enter Tryz.func76, Tryz.ntmps76
  go_wp2
  go_loopw [9] (fun i wr => ∃ (j : Nat) (last : Int), j ≤ n ∧ i = .int .i64 j ∧ okS k last (l.drop j) = okS k (-1) l ∧ ((j = 0 ∧ last = -1) ∨ (0 < j ∧ last = gi l (j - 1) ∧ 0 ≤ last)) ∧ wr = w) (fun i wr => n - (intOf i).toNat)
  case atStart => exact ⟨0, -1, by omega, rfl, rfl, .inl ⟨rfl, rfl⟩, by first | rfl | trivial⟩
  case round =>
    obtain ⟨j, last, hj, rfl, ho, hlast, rfl⟩ := hrel
    by_cases hlt : j < n
    · obtain ⟨b, off, rfl, hbl, hcc⟩ := HR.out.1.form (by omega)
      have hjl : j < l.length := by rw [HR.out.2]; exact hlt
      have cx := hcc j _ (nums_gi hjl)
      rw [List.drop_eq_getElem_cons hjl, ← gi_get hjl] at ho
      have km : (j : Int) < (n : Int) := by omega
      have kd : decide ((j : Int) < (n : Int)) = true := decide_eq_true km
      have kd' : decide (j < n) = true := decide_eq_true hlt
      have j0 : (0 : Int) ≤ (j : Int) := by omega
      have HJ := Lib.hid (And.intro ho hlt)
      have HC := Lib.hid hcc
      obtain ⟨x, hx⟩ : ∃ x, gi l j = x := ⟨_, rfl⟩
      rw [hx] at cx HJ
      have HX := Lib.hid hx
      clear hcc hbl ho hlt hx
      by_cases h1 : x < 0
      · have d1 : decide (x < 0) = true := by simpa using h1
        have HB := Lib.hid (show setB k l = false from by unfold setB; rw [← HJ.out.1]; unfold okS; rw [if_pos (.inl (by rcases hlast with ⟨_, e⟩ | ⟨_, _, e⟩ <;> omega))]; rfl)
        clear h1 hlast
        go_wp2
        go_ret
        exact ⟨ret_bool (by rw [HB.out]), rfl⟩
      · have d1 : decide (x < 0) = false := by simpa using h1
        by_cases h2 : (k : Int) ≤ x
        · have d2 : decide (x ≥ (k : Int)) = true := by simpa using h2
          have d3 : decide ((k : Int) ≤ x) = true := by simpa using h2
          have HB := Lib.hid (show setB k l = false from by unfold setB; rw [← HJ.out.1]; unfold okS; rw [if_pos (.inr h2)]; rfl)
          clear h1 h2 hlast
          go_wp2
          go_ret
          exact ⟨ret_bool (by rw [HB.out]), rfl⟩
        · have d2 : decide (x ≥ (k : Int)) = false := by simpa using h2
          have d3 : decide ((k : Int) ≤ x) = false := by simpa using h2
          rcases hlast with ⟨hj0, hl0⟩ | ⟨hj0, hl0, hl1⟩
          · have HB := Lib.hid (show okS k x (l.drop (j + 1)) = okS k (-1) l from by
              rw [← HJ.out.1]
              show _ = if x ≤ last ∨ (k : Int) ≤ x then false else okS k x (l.drop (j + 1))
              rw [if_neg (by omega)])
            have HG := Lib.hid (show x = gi l (j + 1 - 1) ∧ 0 ≤ x from ⟨by rw [Nat.add_sub_cancel]; exact HX.out.symm, by omega⟩)
            have z1 : decide (0 < j) = false := decide_eq_false (by omega)
            have z2 : decide ((j : Int) > 0) = false := decide_eq_false (by omega)
            have z3 : decide ((0 : Int) < (j : Int)) = false := decide_eq_false (by omega)
            clear h1 h2 hl0 hj0
            go_wp2
            exact ⟨⟨j + 1, x, by have := HJ.out.2; omega, by go_num, HB.out, .inr ⟨by omega, HG.out⟩, by first | rfl | trivial⟩, by have := HJ.out.2; simp [intOf]; omega⟩
          · have hjl' : j - 1 < l.length := by omega
            have cy := HC.out (j - 1) _ (nums_gi hjl')
            rw [← hl0] at cy
            have z1 : decide (0 < j) = true := decide_eq_true hj0
            have z2 : decide ((j : Int) > 0) = true := decide_eq_true (by omega)
            have z3 : decide ((0 : Int) < (j : Int)) = true := decide_eq_true (by omega)
            have z4 : IntKind.i64.wrap ((j : Int) - 1) = ((j - 1 : Nat) : Int) := by rw [IntKind.wrap_i64]; omega
            have z5 : ((j - 1 : Nat) : Int) < (n : Int) := by omega
            have z6 : (0 : Int) ≤ ((j - 1 : Nat) : Int) := by omega
            have z7 : 0 < (j : Int) := by omega
            have z8 : ((j : Int) - 1).toNat = j - 1 := by omega
            have HL0 := Lib.hid hl0
            clear hl0
            by_cases h3 : x ≤ last
            · have d4 : decide (x ≤ last) = true := by simpa using h3
              have HB := Lib.hid (show setB k l = false from by unfold setB; rw [← HJ.out.1]; unfold okS; rw [if_pos (.inl h3)]; rfl)
              clear h1 h2 h3
              go_wp2
              go_ret
              exact ⟨ret_bool (by rw [HB.out]), rfl⟩
            · have d4 : decide (x ≤ last) = false := by simpa using h3
              have HB := Lib.hid (show okS k x (l.drop (j + 1)) = okS k (-1) l from by
                rw [← HJ.out.1]
                show _ = if x ≤ last ∨ (k : Int) ≤ x then false else okS k x (l.drop (j + 1))
                rw [if_neg (by omega)])
              have HG := Lib.hid (show x = gi l (j + 1 - 1) ∧ 0 ≤ x from ⟨by rw [Nat.add_sub_cancel]; exact HX.out.symm, by omega⟩)
              clear h1 h2 h3
              go_wp2
              exact ⟨⟨j + 1, x, by have := HJ.out.2; omega, by go_num, HB.out, .inr ⟨by omega, HG.out⟩, by first | rfl | trivial⟩, by have := HJ.out.2; simp [intOf]; omega⟩
    · obtain rfl : j = n := by omega
      have hb : okS k (-1) l = true := by rw [← ho, List.drop_eq_nil_of_le (by rw [HR.out.2]; exact Nat.le_refl _)]; rfl
      have HB := Lib.hid (show setB k l = decide (0 < j) from by unfold setB; rw [hb, HR.out.2]; rfl)
      have kd : decide ((j : Int) < (j : Int)) = false := decide_eq_false (by omega)
      have kd' : decide (j < j) = false := decide_eq_false (by omega)
      clear hlt hj ho hb hlast
      go_wp2
      go_ret
      exact ⟨ret_bool (by rw [HB.out]), rfl⟩
end
end Go.Proofs.YtlhipaffhehcnaaGreat
namespace Go.Proofs.YtlhipaffhehcnaaGreat
open Go.RowKit Go.Maps
set_option linter.unusedVariables false
section
variable {w w' w'' : World} {base D : Nat} {m : DM} {c : DC} {F F' : Nat → Prop}
theorem Dp.wide (h : Dp w base D m c F) (hF : ∀ b, F b → F' b) (ht : ∀ b, F' b → m.tag b = none) (hb : ∀ b, F' b → base ≤ b ∧ b < w.heap.size) : Dp w base D m c F' :=
  { h with
    fD := hF _ h.fD, fM := hF _ h.fM, fS := hF _ h.fS, fL := fun a ha => hF _ (h.fL a ha), fv := fun b hb => hF _ (h.fv b hb), fl := fun p hp a ha => hF _ (h.fl p hp a ha)
    fy := fun i hi hk a ha => hF _ (h.fy i hi hk a ha), tg := ht, fb := hb }
theorem Dp.hf (h : Dp w base D m c F) : HF w base D (dcells c m) 5 m.v c.rl :=
  ⟨h.e, rfl, h.rp, fun e => (h.tv e).ne h.tD (by decide) rfl, h.bs⟩
def wtL (kn : List Bool) (sets : List (List Int)) (p : Nat) : List HE := match rst kn (sets.getD p []) with
  | [x] => [⟨x, p⟩]
  | _ => []
theorem wtL_one {kn : List Bool} {sets : List (List Int)} {p : Nat} {x : Int} (h : rst kn (sets.getD p []) = [x]) : wtL kn sets p = [⟨x, p⟩] := by unfold wtL; rw [h]
theorem wtL_no {kn : List Bool} {sets : List (List Int)} {p : Nat} (h : (rst kn (sets.getD p [])).length ≠ 1) : wtL kn sets p = [] := by
  unfold wtL
  split
  · rename_i x hx; rw [hx] at h; exact absurd rfl h
  · rfl
def WtPost (w : World) (base D : Nat) (m : DM) (c : DC) (F : Nat → Prop) (p : Nat) (w' : World) : Prop :=
  ∃ v' l', Dp w' base D { m with v := v' } { c with rl := l' } (Gw F w w') ∧ Chg F w w' ∧ l'.Perm (c.rl ++ wtL c.kn c.sets p)
theorem wt_no (h : Dp w base D m c F) (hb : Below w.heap.size w w') {p : Nat} (hr : (rst c.kn (c.sets.getD p [])).length ≠ 1) : WtPost w base D m c F p w' := by
  have h1 := h.below hb
  obtain ⟨g1, g2⟩ := h.gw (w' := w') hb.size
  refine ⟨m.v, c.rl, h1.wide (fun b hb => .inl hb) g1 g2, Chg.of_below hb, ?_⟩
  rw [wtL_no hr, List.append_nil]
theorem wt_yes (h : Dp w base D m c F) (hb : Below w.heap.size w w') {p : Nat} {x : Int} (hr : rst c.kn (c.sets.getD p []) = [x]) (hp : p < c.sets.length) {v' : Value} {l' : List HE} (hf : HF w'' base D ((dcells c m).set 5 v') 5 v' l') (hpm : l'.Perm (c.rl ++ [⟨x, p⟩])) (hH : Hp (keys l')) (hc : Chg (fun k => k = D ∨ m.v.ownBlock = some k) w' w'') (hv : ∀ b, v'.ownBlock = some b → m.v.ownBlock = some b ∨ w'.heap.size ≤ b) : WtPost w base D m c F p w'' := by
  have h1 := h.below hb
  have hsz := h.gr.sz
  have hfit : FitL l' := fun e he => by
    rcases List.mem_append.1 (hpm.mem_iff.1 he) with e1 | e1
    · exact h.ft e e1
    · rw [List.mem_singleton.1 e1]; exact ⟨by show (0 : Int) ≤ (p : Int); omega, by show (p : Int) < _; omega⟩
  obtain ⟨h2, h3⟩ := h1.rip hf hH hfit hc hv
  have hz := hb.size
  have hz2 := hc.size
  obtain ⟨g1, g2⟩ := h.gw (w' := w'') (Nat.le_trans hz hz2)
  refine ⟨v', l', h2.wide (fun b hb' => ?_) g1 g2, ?_, ?_⟩
  · rcases hb' with hb' | hb'
    · exact .inl hb'
    · exact .inr ⟨by omega, hb'.2⟩
  · exact (Chg.of_below hb).trans h3 fun b _ hb => hb
  · rw [wtL_one hr]; exact hpm
set_option maxRecDepth 100000 in
set_option maxHeartbeats 1600000 in
theorem waits_any (h : Dp w base D m c F) (hl : c.rl.length ≤ 1000000) {p : Nat} (hp : p < c.sets.length) :
    Calls Tryz.prog 79 #[.pointer (some ⟨D, 0, none⟩), .int .i64 (p : Nat)] w fun e w' => e = .returned (.tuple #[]) ∧ WtPost w base D m c F p w' := by
  have c0 := h.c0
  have H := Lib.hid (And.intro h (And.intro hl hp))
  clear h hl hp
  go_enter Tryz.func79, Tryz.ntmps79
  go_wp2_with fail
  refine (rest_gr H.out.1.gr (p : Int)).mono ?_
  rintro e w1 ⟨v, rfl, ho, hb⟩
  have e1 : rsL c.kn c.sets (p : Int) = rst c.kn (c.sets.getD p []) := by
    unfold rsL
    rw [if_pos ⟨by omega, by have := H.out.2.2; omega⟩, Int.toNat_natCast]
  rw [e1] at ho
  obtain ⟨A, d, rfl, hd, hx⟩ := own_form ho
  obtain ⟨n, hn⟩ : ∃ n, (rst c.kn (c.sets.getD p [])).length = n := ⟨_, rfl⟩
  have HN := Lib.hid hn
  have hr := Rd.of_own ho
  have hnz : n ≤ 1000000 := by
    have hS := H.out.1.gr.ss _ (getD_mem H.out.2.2)
    have hle : (rst c.kn (c.sets.getD p [])).length ≤ (c.sets.getD p []).length := List.length_filter_le _ _
    have h3 := hS.len
    have h4 := H.out.1.gr.kz
    omega
  rw [hn] at hr ⊢
  have HB := Lib.hid (And.intro ho hb)
  clear ho hb e1 hx hd
  by_cases h1 : n = 1
  · subst h1
    obtain ⟨x, hx⟩ := List.length_eq_one_iff.1 hn
    rw [hx] at hr
    have ho := HB.out.1
    rw [hn] at ho
    obtain ⟨g, cur, rfl, hg0, hg1, _, _, _⟩ := own_formN ho (by omega)
    have cx : w1.cell? ⟨g, 0, none⟩ = some (.int .i64 x) := hr.cells 0 _ rfl
    have HX := Lib.hid hx
    have c0' := cell_below HB.out.2 c0
    have HG := Lib.hid (show ∀ w2, Chg (fun k => k = D ∨ m.v.ownBlock = some k) w1.drew w2 → w2.cell? ⟨g, 0, none⟩ = some (.int .i64 x) from fun w2 hc => hc.cell' cx fun e => by
      rcases e with e | e
      · have := (H.out.1.fb _ H.out.1.fD).2; have e' : g = D := e; omega
      · have := (H.out.1.fb _ (H.out.1.fv _ e)).2; have e' : g < w.heap.size := this; omega)
    clear hr hx hn ho hg0 hg1
    go_wp2_with fail
    go_region_held3 (fun w' => w'.cell? ⟨g, 0, none⟩ = some (.int .i64 x)) (first | exact S2.out.2 | exact cx | go_keep)
      (first
        | (go_at_call 112; refine (heapPush_any (o := 5) ⟨x, p⟩ (H.out.1.below HB.out.2.drew).hf H.out.1.hp H.out.1.ft ⟨by show (0 : Int) ≤ (p : Int); omega, by have := H.out.1.gr.sz; have := H.out.2.2; show (p : Int) < _; omega⟩ H.out.2.1).mono ?_; rintro e w2 ⟨rfl, v', l', hf, hp, hh, hc, hv⟩; have S2 := Lib.hid (And.intro (And.intro hf (And.intro hp (And.intro hh (And.intro hc hv)))) (HG.out _ hc)); clear hf hp hh hc hv))
    go_end0
    exact ⟨rfl, wt_yes H.out.1 HB.out.2.drew HX.out H.out.2.2 S2.out.1.1 S2.out.1.2.1 S2.out.1.2.2.1 S2.out.1.2.2.2.1 S2.out.1.2.2.2.2⟩
  · have d1 : decide (n = 1) = false := decide_eq_false h1
    have d2 : ((n : Int) == 1) = false := by simpa using (by omega : ¬ (n : Int) = 1)
    have d3 : decide ((n : Int) = 1) = false := decide_eq_false (by omega)
    have H1 := Lib.hid h1
    clear h1 hr hn
    go_wp2_with fail
    go_end0
    exact ⟨rfl, wt_no H.out.1 HB.out.2 (by rw [HN.out]; exact H1.out)⟩
end
end Go.Proofs.YtlhipaffhehcnaaGreat
namespace Go.Proofs.YtlhipaffhehcnaaGreat
open Go.RowKit Go.Maps
set_option linter.unusedVariables false
theorem neq_some (a : Addr) (n c : Nat) (w : World) : (binOp .neq 83 (.slice (some a) n c) (.slice none 0 0)).run Tryz.prog w = .ok (.bool true) w :=
  run_neq_slice_nil_any (P := Tryz.prog) w 83 5 (some a) n c 0 0 Tryz.underlying83
theorem neq_none (w : World) : (binOp .neq 83 (.slice none 0 0) (.slice none 0 0)).run Tryz.prog w = .ok (.bool false) w :=
  run_neq_slice_nil_any (P := Tryz.prog) w 83 5 none 0 0 0 0 Tryz.underlying83
def lfX (l0 : List (List UInt8)) (v : List UInt8) (qs : List Int) : List (List UInt8) := qs.foldl (fun l q => l.set q.toNat (xorL (l.getD q.toNat []) v)) l0
theorem lfX_length (v : List UInt8) : ∀ (qs : List Int) (l0 : List (List UInt8)), (lfX l0 v qs).length = l0.length
  | [], _ => rfl
  | q :: qs, l0 => by show (lfX (l0.set q.toNat _) v qs).length = _; rw [lfX_length v qs, List.length_set]
theorem lfX_succ (l0 : List (List UInt8)) (v : List UInt8) {qs : List Int} {j : Nat} (hj : j < qs.length) : lfX l0 v (qs.take (j + 1)) = (lfX l0 v (qs.take j)).set (gi qs j).toNat (xorL ((lfX l0 v (qs.take j)).getD (gi qs j).toNat []) v) := by
  unfold lfX
  rw [List.take_succ_eq_append_getElem hj, List.foldl_append, gi_get hj]; rfl
theorem getD_set {l : List (List UInt8)} {i j : Nat} {u : List UInt8} (hi : i < l.length) : (l.set i u).getD j [] = if i = j then u else l.getD j [] := by
  simp only [List.getD_eq_getElem?_getD, List.getElem?_set]
  by_cases e : i = j
  · subst e; simp [hi]
  · simp [e]
theorem lfX_get (v : List UInt8) : ∀ (qs : List Int) (l0 : List (List UInt8)) (i : Nat), qs.Nodup → (∀ q ∈ qs, 0 ≤ q ∧ q < l0.length) → (lfX l0 v qs).getD i [] = if (i : Int) ∈ qs then xorL (l0.getD i []) v else l0.getD i []
  | [], l0, i, _, _ => by simp [lfX]
  | q :: qs, l0, i, hd, hr => by
    rw [List.nodup_cons] at hd
    have hq := hr q (List.mem_cons_self ..)
    show (lfX (l0.set q.toNat _) v qs).getD i [] = _
    rw [lfX_get v qs _ i hd.2 (fun y hy => by rw [List.length_set]; exact hr y (List.mem_cons_of_mem _ hy)), getD_set (by omega)]
    by_cases e : q.toNat = i
    · have e' : q = (i : Int) := by omega
      subst e'
      rw [if_pos e, if_neg hd.1, if_pos (List.mem_cons_self ..), e]
    · have e' : ¬ (i : Int) = q := by omega
      rw [if_neg e]
      simp only [List.mem_cons, e', false_or]
theorem lefts_length (d : DS) : d.lefts.length = d.sets.length := by simp [DS.lefts]
theorem lefts_get {d : DS} {q : Nat} (hq : q < d.sets.length) : d.lefts.getD q [] = d.left q := by
  unfold DS.lefts
  rw [List.getD_eq_getElem?_getD, List.getElem?_map, List.getElem?_range hq]; rfl
theorem lfX_took {d : DS} (hd : d.ok) {x p : Nat} (hn : Next d x p) : lfX d.lefts (d.left p) (holds d.sets (x : Int)) = (d.took x p).lefts := by
  have hx := hn.lt hd
  apply List.ext_getElem?
  intro i
  have hl : (lfX d.lefts (d.left p) (holds d.sets (x : Int))).length = d.sets.length := by rw [lfX_length, lefts_length]
  have hl2 : (d.took x p).lefts.length = d.sets.length := lefts_length _
  rcases Nat.lt_or_ge i d.sets.length with hi | hi
  · have h1 := lfX_get (d.left p) (holds d.sets (x : Int)) d.lefts i (holds_nodup _ _) (fun q hq => by
      obtain ⟨a, rfl, ha, _⟩ := mem_holds.1 hq
      rw [lefts_length]; omega)
    have h2 : (d.took x p).lefts.getD i [] = (d.took x p).left i := lefts_get (d := d.took x p) hi
    have h3 : (d.took x p).left i = if (x : Int) ∈ d.set i then xorL (d.left i) (d.left p) else d.left i :=
      lv_set (by rw [hd.kl]; exact hx) (by rw [hd.vl]; exact hx) hn.mem.2 (d.left p) (d.set i) (d.pay i) (hd.sset hi).nodup fun y hy => ((hd.sset hi).inr y hy).1
    have h4 : ((i : Int) ∈ holds d.sets (x : Int)) ↔ ((x : Int) ∈ d.set i) := by
      constructor
      · intro h
        obtain ⟨a, ha, _, hm⟩ := mem_holds.1 h
        obtain rfl : i = a := by omega
        exact hm
      · intro h
        exact mem_holds.2 ⟨i, rfl, hi, h⟩
    rw [lefts_get hi] at h1
    simp only [h4] at h1
    rw [← h3, ← h2] at h1
    rw [List.getD_eq_getElem?_getD, List.getD_eq_getElem?_getD, List.getElem?_eq_getElem (by rw [hl]; exact hi), List.getElem?_eq_getElem (by rw [hl2]; exact hi)] at h1
    rw [List.getElem?_eq_getElem (by rw [hl]; exact hi), List.getElem?_eq_getElem (by rw [hl2]; exact hi)]
    simpa using h1
  · rw [List.getElem?_eq_none (by rw [hl]; exact hi), List.getElem?_eq_none (by rw [hl2]; exact hi)]
def DS.dc (d : DS) (rl : List HE) : DC := { s := d.s, k := d.k, most := d.most, kn := d.kn, sets := d.sets, ids := d.ids, lefts := d.lefts, sk := d.kn, vals := d.vals, rl := rl }
section
variable {w w' w0 w1 w2 w3 : World} {base D : Nat} {m m1 m2 m3 : DM} {c c1 c2 : DC} {F F1 F2 F3 : Nat → Prop}
/-- From one state of a decoder's memory to another one. -/
def Turn (w1 : World) (m1 : DM) (F1 : Nat → Prop) (w2 : World) (m2 : DM) (F2 : Nat → Prop) : Prop := Chg (m1.all F1) w1 w2 ∧ ∀ b, m2.all F2 b → m1.all F1 b ∨ w1.heap.size ≤ b
theorem Turn.below (hb : Below w1.heap.size w1 w2) : Turn w1 m F w2 m F := ⟨Chg.of_below hb, fun b h => .inl h⟩
theorem Turn.refl : Turn w1 m F w1 m F := ⟨Chg.refl _ _, fun b h => .inl h⟩
theorem Turn.trans (h : Turn w1 m1 F1 w2 m2 F2) (h' : Turn w2 m2 F2 w3 m3 F3) : Turn w1 m1 F1 w3 m3 F3 := by
  have hz := h.1.size
  refine ⟨h.1.trans h'.1 fun b hb ha => (h.2 b ha).elim id fun e => absurd hb (by omega), fun b hb => ?_⟩
  rcases h'.2 b hb with e | e
  · exact h.2 b e
  · exact .inr (Nat.le_trans hz e)
theorem Turn.apart (h : Turn w1 m1 F1 w2 m2 F2) {b : Nat} (hb : b < w1.heap.size) (hn : ¬ m1.all F1 b) : ¬ m2.all F2 b := fun e => (h.2 b e).elim hn (fun e => by omega)
theorem Turn.of (hc : Chg (m1.all F1) w1 w2) (hF : ∀ b, F2 b → F1 b ∨ w1.heap.size ≤ b) (ht : ∀ b, m2.tag b ≠ none → m1.tag b ≠ none ∨ w1.heap.size ≤ b) : Turn w1 m1 F1 w2 m2 F2 := ⟨hc, fun b hb => by
  rcases hb with hb | hb
  · exact (hF b hb).elim (fun e => .inl (.inl e)) .inr
  · exact (ht b hb).elim (fun e => .inl (.inr e)) .inr⟩
theorem Turn.same (hc : Chg F1 w1 w2) (hF : ∀ b, F2 b → F1 b ∨ w1.heap.size ≤ b) (ht : m2.tag = m1.tag) : Turn w1 m1 F1 w2 m2 F2 := Turn.of (hc.mono fun b _ hb => .inl hb) hF fun b hb => .inl (by rw [← ht]; exact hb)
/-- A row of numbers beside it. -/
def Hl (w : World) (b0 : Nat) (A : Nat → Prop) (v : Value) (l : List Int) : Prop := w.ownsRow b0 3 1 v l.length (nums l) ∧ ∀ b, v.ownBlock = some b → ¬ A b
theorem Hl.step {b0 : Nat} {v : Value} {l : List Int} (h : Hl w1 b0 (m1.all F1) v l) (t : Turn w1 m1 F1 w2 m2 F2) : Hl w2 b0 (m2.all F2) v l := by
  refine ⟨?_, fun b hb => t.apart ?_ (h.2 b hb)⟩
  · obtain ⟨A, cc, rfl⟩ := own_sl h.1
    exact t.1.own h.1 fun a ha => h.2 a.block (own_b1 ha)
  obtain ⟨⟨cs, hk⟩, _⟩ := own_ty h.1 hb
  exact hk.lt
theorem Hl.new {b0 : Nat} {v : Value} {l : List Int} (h : Dp w1 base D m1 c F1) (ho : w2.ownsRow w1.heap.size 3 1 v l.length (nums l)) (hb : b0 ≤ w1.heap.size) : Hl w2 b0 (m1.all F1) v l :=
  ⟨own_mono ho hb, fun b e hA => by have := (own_ty ho e).2; have := (h.all_lt hA).2; omega⟩
/-- A popped element's place. -/
def Bx (w : World) (K : Nat) (A : Nat → Prop) (x p : Nat) : Prop := w.cell? ⟨K, 0, none⟩ = some (.int .i64 (x : Nat)) ∧ w.cell? ⟨K, 1, none⟩ = some (.int .i64 (p : Nat)) ∧ K < w.heap.size ∧ ¬ A K
theorem Bx.step {K x p : Nat} (h : Bx w1 K (m1.all F1) x p) (t : Turn w1 m1 F1 w2 m2 F2) : Bx w2 K (m2.all F2) x p :=
  ⟨t.1.cell' h.1 h.2.2.2, t.1.cell' h.2.1 h.2.2.2, Nat.lt_of_lt_of_le h.2.2.1 t.1.size, t.apart h.2.2.1 h.2.2.2⟩
/-- The ripple is popped. -/
theorem Dp.pop (h : Dp w base D m c F) {q cc : Nat} {A : Option Addr} {l' : List HE} (hv : m.v = .slice A (q + 1) cc) (hf : HF w' base D ((dcells c m).set 5 (.slice A q cc)) 5 (.slice A q cc) l') (hp : (gx c.rl 0 :: l').Perm c.rl) (hH : Hp (keys l')) (hc : Chg (fun k => k = D ∨ (Value.slice A (q + 1) cc).ownBlock = some k) w w') :
    Dp w' base D { m with v := .slice A q cc } { c with rl := l' } (Gw F w w') ∧ Turn w m F w' { m with v := .slice A q cc } (Gw F w w') := by
  rw [← hv] at hc
  obtain ⟨h1, h2⟩ := h.rip hf hH (fun e he => h.ft e (hp.mem_iff.1 (List.mem_cons_of_mem _ he))) hc fun b hb => .inl (by rw [hv]; cases A <;> exact hb)
  exact ⟨h1, Turn.same h2 (fun b hb => hb.elim .inl fun e => .inr e.1) rfl⟩
/-- A symbol is stored. -/
theorem Dp.stored (h : Dp w base D m c F) (h1 : Dp w1 base D m c F) {x : Nat} (hx : x < c.k) (hsk : c.sk.length = c.k) (hk : knw c.sk (x : Int) = false) (hvl : c.vals.length = c.k) {A : Option Addr} {cc : Nat} {u : List UInt8} (ho : w1.ownsRow w.heap.size 5 1 (.slice A c.s cc) c.s (bys u)) (hb : Below w.heap.size w w1) :
    Dp (w1.setCell ⟨m.SB, x, none⟩ (.slice A c.s cc)) base D { m with sy := fun i => if i = x then (A, cc) else m.sy i } { c with sk := c.sk.set x true, vals := c.vals.set x u } (fun b => F b ∨ ∃ a, A = some a ∧ a.block = b) ∧ Turn w m F (w1.setCell ⟨m.SB, x, none⟩ (.slice A c.s cc)) { m with sy := fun i => if i = x then (A, cc) else m.sy i } (fun b => F b ∨ ∃ a, A = some a ∧ a.block = b) := by
  have hlt := own_lt ho
  obtain ⟨h2, h3⟩ := h1.sym (w0 := w) hx hsk hk hvl (own_mono ho h.bs) (fun a ha => by
    have := (hlt a ha).1
    refine ⟨fun e => by have := (h.fb _ e).2; omega, h.tag_new this⟩)
  refine ⟨h2, Turn.same ((Chg.of_below hb).trans h3 fun b _ e => e) (fun b hb => ?_) rfl⟩
  rcases hb with hb | ⟨a, ha, rfl⟩
  · exact .inl hb
  · exact .inr (hlt a ha).1
/-- The graph takes it. -/
theorem Dp.taken (h : Dp w base D m c F) {x : Nat} (hx : x < c.k) (hk : knw c.kn (x : Int) = false) {L' : GL} (hg : Gr w' base m.G m.tag L' (tkK c.kn (x : Int)) c.sets c.most) (hc : Chg (fun b => m.tag b ≠ none) w w') :
    Dp w' base D { m with L := L' } { c with kn := c.kn.set x true } F ∧ Turn w m F w' { m with L := L' } F := by
  have e : tkK c.kn (x : Int) = c.kn.set x true := by
    unfold tkK inK
    rw [hk, decide_eq_true (by rw [h.gk]; omega)]; rfl
  rw [e] at hg
  obtain ⟨h1, h2⟩ := h.graph (tag' := m.tag) hg (by rw [List.length_set]; exact h.gk) hc fun b _ => rfl
  exact ⟨h1, Turn.of h2 (fun b hb => .inl hb) fun b hb => .inl hb⟩
theorem WtPost.turn {p : Nat} (h : WtPost w base D m c F p w') : ∃ m' F' l', Dp w' base D m' { c with rl := l' } F' ∧ Turn w m F w' m' F' ∧ l'.Perm (c.rl ++ wtL c.kn c.sets p) := by
  obtain ⟨v', l', h1, h2, h3⟩ := h
  exact ⟨_, _, l', h1, Turn.same h2 (fun b hb => hb.elim .inl fun e => .inr e.1) rfl, h3⟩
/-- What a left is in memory. -/
theorem Dp.lf (h : Dp w base D m c F) {p : Nat} (hp : p < c.lefts.length) : ∃ g cc LA, m.lp p = (some ⟨g, 0, none⟩, cc) ∧ m.LA = some ⟨LA, 0, none⟩ ∧ w.cell? ⟨LA, p, none⟩ = some (.slice (some ⟨g, 0, none⟩) c.s cc) ∧ c.s ≤ cc ∧ w.ownsRow base 5 1 (.slice (some ⟨g, 0, none⟩) c.s cc) c.s (bys (c.lefts.getD p [])) := by
  have ho := h.lx p hp
  obtain ⟨A, cc, hs⟩ : ∃ A cc, m.lp p = (A, cc) := ⟨_, _, rfl⟩
  rw [hs] at ho
  obtain ⟨g, cur, hA, _, _, _, hnc, _⟩ := own_formN (A := A) (c := cc) ho (by have := h.s1; omega)
  subst hA
  have hlw := h.lw
  obtain ⟨LA, curL, hLA, _, _, _, _, _⟩ := own_formN hlw (by omega)
  have hr := (Rd.of_own hlw)
  rw [hLA] at hr
  have hcell := hr.cells p (pbv c.s (some ⟨g, 0, none⟩, cc)) (by
    rw [List.getElem?_map]
    have : m.lf[p]? = some (m.lp p) := by
      unfold DM.lp
      rw [List.getD_eq_getElem?_getD, List.getElem?_eq_getElem (by rw [h.ll]; exact hp)]; rfl
    rw [this, hs]; rfl)
  refine ⟨g, cc, LA, hs, hLA, ?_, hnc, ho⟩
  rw [Addr.add_lit, Nat.zero_add] at hcell
  exact hcell
/-- A left less by a symbol. -/
theorem Dp.lessT (h : Dp w base D m c F) {q : Nat} (hq : q < c.lefts.length) {g cc : Nat} (hg : m.lp q = (some ⟨g, 0, none⟩, cc)) {new : List UInt8} (hn : new.length = c.s) (hl : (c.lefts.getD q []).length = c.s) (hu : Upd w w' g 0 (bys new)) :
    Dp w' base D m { c with lefts := c.lefts.set q new } F ∧ Turn w m F w' m F := by
  have hcg := upd_chg hu
  have ho := h.lx q hq
  rw [hg] at ho
  obtain ⟨g', hm, _, _, hup⟩ := Mut.of_own (A := some ⟨g, 0, none⟩) (c := cc) ho
  obtain ⟨hA, _⟩ := hm.2 (by have := h.s1; omega)
  injection hA with hA
  injection hA with hA
  subst hA
  have ho2 : w'.ownsRow base 5 1 (.slice (some ⟨g, 0, none⟩) c.s cc) c.s (bys new) := hup w' (bys new) (by rw [bys_length, hn]) hu
  obtain ⟨h1, h2⟩ := h.less hq (fun a ha => by rw [hg] at ha; injection ha with ha; rw [← ha]) ⟨_, by rw [hg]⟩ hcg (by rw [hg]; exact ho2)
  exact ⟨h1, Turn.same h2 (fun b hb => .inl hb) rfl⟩
theorem ow_holds {kn : List Bool} {sets : List (List Int)} {x : Nat} (hx : x < kn.length) (hk : knw kn (x : Int) = false) : owL kn sets (x : Int) = holds sets (x : Int) := by
  unfold owL inK
  rw [decide_eq_true (by omega), Int.toNat_natCast]
  exact wts_at hk
theorem tk_known {kn : List Bool} {x : Nat} (hx : x < kn.length) (hk : knw kn (x : Int) = false) : tkE kn (x : Int) = 0 := by
  unfold tkE inK
  rw [decide_eq_true (by omega), hk]; rfl
theorem into_step (h : Dp w base D m c F) {q x : Nat} (hq : q < c.lefts.length) (hx : x < c.k) (hk : knw c.sk (x : Int) = true) {A6 : Option Addr} {d6 : Nat} (hsy : m.sy x = (A6, d6)) (hl : (c.lefts.getD q []).length = c.s) (hv : (c.vals.getD x []).length = c.s) :
    ∃ g cc LA, m.LA = some ⟨LA, 0, none⟩ ∧ w.cell? ⟨LA, q, none⟩ = some (.slice (some ⟨g, 0, none⟩) c.s cc) ∧ Calls Tryz.prog 74 #[.slice (some ⟨g, 0, none⟩) c.s cc, .slice A6 c.s d6] w fun e w' => e = .returned (.int .i64 0) ∧
      Dp w' base D m { c with lefts := c.lefts.set q (xorL (c.lefts.getD q []) (c.vals.getD x [])) } F ∧ Turn w m F w' m F := by
  obtain ⟨g, cc, LA, e1, e2, e3, e4, e5⟩ := h.lf hq
  refine ⟨g, cc, LA, e2, e3, ?_⟩
  have hs := h.s1
  obtain ⟨g', hm, _, _, _⟩ := Mut.of_own (A := some ⟨g, 0, none⟩) (c := cc) e5
  obtain ⟨hA, _⟩ := hm.2 (by omega)
  injection hA with hA
  injection hA with hA
  subst hA
  have ho := h.sx x hx hk
  rw [hsy] at ho
  have hr := own_rdN (A := A6) (c := d6) ho
  rw [Nat.mul_one] at hr
  refine (into_any hm hr.1 (fun _ a ha => ?_) (by omega) e4 hr.2).mono ?_
  · exact (h.ds q x hq hx hk ⟨g, 0, none⟩ a (by rw [e1]) (by rw [hsy]; exact ha)).symm
  · rintro e w' ⟨rfl, hu⟩
    exact ⟨rfl, h.lessT hq e1 (by rw [xorL_length _ _ (by rw [hl, hv]), hl]) hl hu⟩
/-- A round's state: the decoder, what is told, the popped element. -/
structure RS (w0 : World) (base D : Nat) (m : DM) (F : Nat → Prop) (v : Value) (l : List Int) (K x p : Nat) (w1 : World) (m1 : DM) (F1 : Nat → Prop) (c1 : DC) : Prop where
  dp : Dp w1 base D m1 c1 F1
  tn : Turn w0 m F w1 m1 F1
  hl : Hl w1 w0.heap.size (m1.all F1) v l
  bx : Bx w1 K (m1.all F1) x p
theorem RS.step {v : Value} {l : List Int} {K x p : Nat} (h : RS w0 base D m F v l K x p w1 m1 F1 c1) (hd : Dp w2 base D m2 c2 F2) (t : Turn w1 m1 F1 w2 m2 F2) : RS w0 base D m F v l K x p w2 m2 F2 c2 := ⟨hd, h.tn.trans t, h.hl.step t, h.bx.step t⟩
theorem RS.below {v : Value} {l : List Int} {K x p : Nat} (h : RS w0 base D m F v l K x p w1 m1 F1 c1) (hb : Below w1.heap.size w1 w2) : RS w0 base D m F v l K x p w2 m1 F1 c1 := h.step (h.dp.below hb) (Turn.below hb)
theorem RS.drawn {v : Value} {l : List Int} {K x p : Nat} (h : RS w0 base D m F v l K x p w1 m1 F1 c1) (n : Nat) : RS w0 base D m F v l K x p (w1.drewN n) m1 F1 c1 := h.below (below_dN (Below.refl _ _) n)
theorem RS.made {v : Value} {l : List Int} {x p : Nat} (hd : Dp w1 base D m1 c1 F1) (ht : Turn w0 m F w1 m1 F1) (hl : Hl w1 w0.heap.size (m1.all F1) v l) :
    RS w0 base D m F v l w1.heap.size x p (w1.alloc (.cells #[.int .i64 (x : Nat), .int .i64 (p : Nat)] 171)) m1 F1 c1 := by
  have hb : Below w1.heap.size w1 (w1.alloc (.cells #[.int .i64 (x : Nat), .int .i64 (p : Nat)] 171)) := (Below.refl _ _).alloc (Nat.le_refl _) _
  have hk : Bk (w1.alloc (.cells #[.int .i64 (x : Nat), .int .i64 (p : Nat)] 171)) w1.heap.size 171 [.int .i64 (x : Nat), .int .i64 (p : Nat)] := Bk.new _ _ _
  exact ⟨hd.below hb, ht.trans (Turn.below hb), hl.step (Turn.below hb), hk.cell 0, hk.cell 1, hk.lt, fun e => by have := (hd.all_lt e).2; omega⟩
end
end Go.Proofs.YtlhipaffhehcnaaGreat
