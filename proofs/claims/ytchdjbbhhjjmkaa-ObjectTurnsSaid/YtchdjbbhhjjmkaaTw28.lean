/- Chapter 28: ObjectTurns' walk. -/
import Derived.Test.YtchdjbbhhjjmkaaFv28
import Derived.Test.YtchdjbbhhjjmkaaTp28
namespace Go.Proofs.Ytchdjbbhhjjmkaa
open Go.RowKit
set_option linter.unusedVariables false
theorem bool_info : (Try.prog.info? 4).map (fun i => (i.zero, i.size, i.bytes)) = some (some (.bool false), 1, 1) := by kernel_rfl
theorem zeros_bools (N : Nat) : (madeCells (Value.bool false).cells (N * 1)).toList = bools (List.replicate N false) := by
  rw [Nat.mul_one]; show (madeCells #[.bool false] N).toList = _
  rw [toList_madeCells_one]; simp [bools]
theorem run_make_bools (m : Nat) (hm : m ≤ 1000000) (w : World) : (Instr.makeSlice 26 (.int .i64 (m : Int)) (.int .i64 (m : Int))).run Try.prog w = .ok (.slice (some ⟨w.heap.size, 0, none⟩) m m) (w.alloc (.cells (bools (List.replicate m false)).toArray 4)) := by
  obtain ⟨i0, hi0, hz0, hz1, hz2⟩ := info_parts bool_info
  have := run_make (P := Try.prog) w 26 4 i0 (.bool false) Try.underlying26 hi0 hz0 .i64 .i64 m m (by omega) (by omega) (by rw [hz2]; omega) (by omega)
  rw [hz1] at this
  simp only [Int.toNat_natCast] at this
  rw [show madeCells (Value.bool false).cells (m * 1) = (bools (List.replicate m false)).toArray from by rw [← zeros_bools]] at this
  exact this
theorem bools_set (l : List Bool) (k : Nat) (b : Bool) : (bools l).set k (.bool b) = bools (l.set k b) := by simp [bools, List.map_set]
set_option maxRecDepth 100000 in
set_option maxHeartbeats 3200000 in
theorem objectTurns_any {w : World} {A : Option Addr} {n c : Nat} {l : List Bool} (h : Rd w A n (bools l)) (hn : n ≤ 140737488351232) {last : Int} (hl : R64 last) :
    Calls Try.prog 8 #[.slice A n c, .int .i64 last] w fun e w' => e = .returned (.bool true) ∧ Below w.heap.size w w' := by
  have hx : l.length = n := by have := h.1; simpa [bools_length] using this
  have HX := Lib.hid (And.intro hx (And.intro h hl))
  clear hx h hl
  by_cases hbig : 60 < n
  · have d1 : decide ((n : Int) > 60) = true := by simp; omega
    have d2 : decide (60 < n) = true := by simp; omega
    go_enter Try.func8, Try.ntmps8
    go_wp2_with fail
    refine objectKnown_any.mono ?_
    rintro e w1 ⟨rfl, hb1⟩
    have H1 := Lib.hid hb1
    clear hb1 hbig
    go_wp2
    go_ret
    exact ⟨rfl, H1.out⟩
  · have d1 : decide ((n : Int) > 60) = false := by simp; omega
    have d2 : decide (60 < n) = false := by simp; omega
    have hn60 : (n : Int) ≤ 60 := by omega
    have hmk := run_make_bools n (by omega)
    obtain ⟨Zs, hZs⟩ : ∃ X, (bools (List.replicate n false)) = X := ⟨_, rfl⟩
    rw [hZs] at hmk
    have HZ := Lib.hid hZs
    clear hZs hbig hn
    go_enter Try.func8, Try.ntmps8
    go_wp2_with fail
    refine objectKnown_any.mono ?_
    rintro e w1 ⟨rfl, hb1⟩
    have H1 := Lib.hid (And.intro hb1 (HX.out.2.1.below hb1))
    clear hb1
    go_wp2
    go_loopw [6, 7] (fun o i wr => ∃ k : Nat, k ≤ n ∧ i = .int .i64 (k : Int) ∧ o = .int .i64 (cntR k (opn l) : Nat) ∧ wr = w1) (fun o i wr => n - (intOf i).toNat)
    case atStart => exact ⟨0, by omega, rfl, rfl, rfl⟩
    case round =>
      obtain ⟨k, hk, rfl, rfl, rfl⟩ := hrel
      have hcb : cntR k (opn l) ≤ k := by
        have : ∀ k, cntR k (opn l) ≤ k := by
          intro k
          induction k with
          | zero => exact Nat.le_refl _
          | succ k ih => simp only [cntR]; split <;> omega
        exact this k
      by_cases hlt : k < n
      · obtain ⟨a, off, rfl, hbl, hc⟩ := H1.out.2.form (by omega)
        have hkl : k < l.length := by rw [HX.out.1]; exact hlt
        have cx := hc k _ (bools_get l k hkl)
        have km : (k : Int) < (n : Int) := by omega
        have hop : opn l k = !l[k] := by unfold opn; rw [getD_bool hkl]
        obtain ⟨b, hb⟩ : ∃ b, l[k] = b := ⟨_, rfl⟩
        rw [hb] at cx hop
        obtain ⟨q, hq⟩ : ∃ q, cntR k (opn l) = q := ⟨_, rfl⟩
        have hs : cntR (k + 1) (opn l) = q + (if opn l k = true then 1 else 0) := by rw [← hq]; rfl
        rw [hq] at hcb ⊢
        have HK := Lib.hid (And.intro hlt (And.intro hs hop))
        clear hlt hk hs hop hq hbl hc hb hkl
        cases b with
        | true =>
          go_wp2
          refine ⟨⟨k + 1, by have := HK.out.1; omega, by go_num, ?_, trivial⟩, by have := HK.out.1; simp [intOf]; omega⟩
          rw [HK.out.2.1, HK.out.2.2]; rfl
        | false =>
          go_wp2
          refine ⟨⟨k + 1, by have := HK.out.1; omega, by go_num, ?_, trivial⟩, by have := HK.out.1; simp [intOf]; omega⟩
          rw [HK.out.2.1, HK.out.2.2]
          simp
      · obtain rfl : k = n := by omega
        have hT := TnI.start l last
        have hN : cntR l.length (opn l) = cntR k (opn l) := by rw [HX.out.1]
        rw [HX.out.1] at hT
        obtain ⟨N, hNN⟩ : ∃ N, cntR k (opn l) = N := ⟨_, rfl⟩
        rw [hNN] at hcb hN ⊢
        have hbk : Bk (wr.alloc (.cells Zs.toArray 4)) wr.heap.size 4 (bools (List.replicate k false)) := by
          have := Bk.newA wr 4 Zs.toArray
          rw [List.toList_toArray] at this
          rw [HZ.out]; exact this
        have HS := Lib.hid (And.intro hT (And.intro hbk (And.intro hN ((Below.refl wr.heap.size wr).alloc (Nat.le_refl _) (.cells Zs.toArray 4)))))
        have HL := Lib.hid HX.out.2.2
        clear hT hbk hN hNN hlt hk
        obtain ⟨w2, hw2⟩ : ∃ w2, w2 = wr := ⟨_, rfl⟩
        subst hw2
        have hNb : (N : Int) ≤ 60 := by omega
        go_wp2
        go_loopw [1, 9] (fun lv i wq => ∃ (j o : Nat) (la : Int) (seen : List Bool), j ≤ N ∧ i = .int .i64 (j : Int) ∧ lv = .int .i64 la ∧ R64 la ∧ TnI l last j o la seen ∧ Bk wq w2.heap.size 4 (bools seen) ∧ Below w2.heap.size w2 wq) (fun lv i wq => N - (intOf i).toNat)
        case atStart => exact ⟨0, 0, last, _, by omega, rfl, rfl, HL.out, HS.out.1, HS.out.2.1, HS.out.2.2.2⟩
        case round =>
          obtain ⟨j, o, la, seen, hj, rfl, rfl, hla, hT, hbk, hbw⟩ := hrel
          have hdn := H1.out.2.below hbw
          have htc := turn_any (c := c) hdn (by omega) la hla
          by_cases hlt : j < N
          · obtain ⟨x, hx1, hx2, hx3, hx4, hx5, o', hT'⟩ := hT.step (by rw [HS.out.2.2.1]; exact hlt)
            rw [hx1, hx2] at htc
            rw [HX.out.1] at hx3
            have hxl : x < l.length := by rw [HX.out.1]; exact hx3
            have hxs : x < seen.length := by rw [hT.len]; exact hxl
            rw [getD_bool hxl] at hx4
            unfold sn at hx5
            rw [getD_bool hxs] at hx5
            obtain ⟨a, off, rfl, hbl, hc⟩ := hdn.form (by omega)
            have cx := hc x _ (bools_get l x hxl)
            rw [hx4] at cx
            have cs := (hbk.cell x).trans (bools_get seen x hxs)
            rw [hx5] at cs
            have fs := hbk.frozen x
            have km : (j : Int) < (N : Int) := by omega
            have e1 : decide ((x : Int) < 0) = false := by simp
            have e2 : decide ((x : Int) ≥ (k : Int)) = false := by simp; omega
            have e3 : decide ((k : Int) ≤ (x : Int)) = false := by simp; omega
            have e4 : decide (k ≤ x) = false := by simp; omega
            have xm : (x : Int) < (k : Int) := by omega
            have HK := Lib.hid (And.intro htc (And.intro hlt (And.intro hT' (And.intro (hbk.set_ x (.bool true)) (And.intro (hbw.setCell (p := ⟨w2.heap.size, x, none⟩) (Nat.le_refl _) (.bool true)) hx3)))))
            clear htc hlt hT hT' hbk hbw hdn hx1 hx2 hx3 hx4 hx5 hxl hxs hbl hc hla hj
            go_wp2_with fail
            refine HK.out.1.mono ?_
            rintro e w3 ⟨rfl, rfl⟩
            go_wp2
            refine ⟨⟨j + 1, o', (x : Int), seen.set x true, by have := HK.out.2.1; omega, by go_num, rfl, by have := HK.out.2.2.2.2.2; unfold R64; omega, HK.out.2.2.1, by rw [← bools_set]; exact HK.out.2.2.2.1, HK.out.2.2.2.2.1⟩, by have := HK.out.2.1; simp [intOf]; omega⟩
          · obtain rfl : j = N := by omega
            obtain ⟨f1, f2⟩ := hT.fin HS.out.2.2.1.symm
            have hsl := hT.len
            clear hlt hj hT
            cases hz : ((j : Int) == 0) with
            | true =>
              obtain ⟨t1, t2⟩ := f1 (by simpa using hz)
              rw [t1, t2] at htc
              have HK := Lib.hid (And.intro htc (below_base H1.out.1 hbw H1.out.1.size))
              clear htc f1 f2 t1 t2 hbk hbw hdn hla
              go_wp2_with fail
              refine HK.out.1.mono ?_
              rintro e w3 ⟨rfl, rfl⟩
              go_wp2
              go_ret
              exact ⟨rfl, HK.out.2⟩
            | false =>
              obtain ⟨t1, t2, t3⟩ := f2 (by simpa using hz)
              obtain ⟨x, hx⟩ : ∃ x, tnA l la = x := ⟨_, rfl⟩
              rw [hx] at htc t2 t3
              rw [t1] at htc
              rw [HX.out.1] at t2
              have hxs : x < seen.length := by rw [hsl, HX.out.1]; exact t2
              unfold sn at t3
              rw [getD_bool hxs] at t3
              have cs := (hbk.cell x).trans (bools_get seen x hxs)
              rw [t3] at cs
              have e1 : decide ((x : Int) ≥ 0) = true := by simp
              have e2 : decide ((x : Int) < (k : Int)) = true := by simp; omega
              have e4 : decide (x < k) = true := by simp; omega
              have xm : (x : Int) < (k : Int) := by omega
              have HK := Lib.hid (And.intro htc (below_base H1.out.1 hbw H1.out.1.size))
              clear htc f1 f2 t1 t2 t3 hbk hbw hdn hla hx hxs hsl
              go_wp2_with fail
              refine HK.out.1.mono ?_
              rintro e w3 ⟨rfl, rfl⟩
              go_wp2
              go_ret
              exact ⟨rfl, HK.out.2⟩
theorem objectTurns_walk {w : World} {A : Option Addr} {n c : Nat} {l : List Bool} {last : Int} (h : Rd w A n (bools l) ∧ n ≤ c ∧ n ≤ 140737488351232) (hl : (Lit.int .i64 last).wf = true) :
    Calls Try.prog 8 #[.slice A n c, .int .i64 last] w fun e w' => e = .returned (.bool true) ∧ Below w.heap.size w w' := objectTurns_any h.1 h.2.2 (bounds_i64 hl)
end Go.Proofs.Ytchdjbbhhjjmkaa
