/- OctetNone: its walk. -/
import Derived.Test.YtdepmogibhmdaaaNo10
namespace Go.Proofs.Ytdepmogibhmdaaa
open Go.RowKit
set_option linter.unusedVariables false
/-- What OctetNone's loop goes through. -/
def NnS (w0 w : World) (g0 gw gr : Nat) (pw pr : Option Addr) (wd nn : Int) (B : Option Addr) (m c : Nat) (raws : Bool) : Prop :=
  Bk w g0 34 [.bool raws, .int .i64 wd, .int .i64 nn, .slice B m c] ∧ Bk w gw 23 [.pointer none, .pointer pw] ∧ Bk w gr 42 [.pointer none, .pointer pr] ∧ NoW w pw ∧ NoR w pr ∧ Below w0.heap.size w0 w
theorem NnS.below {w0 w w' : World} {g0 gw gr m c : Nat} {pw pr B : Option Addr} {wd nn : Int} {raws : Bool} (h : NnS w0 w g0 gw gr pw pr wd nn B m c raws) (hb : Below w.heap.size w w') : NnS w0 w' g0 gw gr pw pr wd nn B m c raws :=
  ⟨h.1.belowS hb, h.2.1.belowS hb, h.2.2.1.belowS hb, h.2.2.2.1.below hb, h.2.2.2.2.1.below hb, below_base h.2.2.2.2.2 hb h.2.2.2.2.2.size⟩
set_option maxRecDepth 100000 in
set_option maxHeartbeats 1600000 in
/-- artesianlaw10.OctetNone -/
theorem none_walk {w : World} {B : Option Addr} {m c : Nat} {it : It} (h : Rd w B m (bys it.b) ∧ m ≤ c ∧ m ≤ 140737488351232 ∧ I64 it.wd ∧ I64 it.n) :
    Calls Try.prog 5 #[.agg #[.bool it.raws, .int .i64 it.wd, .int .i64 it.n, .slice B m c]] w fun e w' => e = .returned (.bool true) ∧ Below w.heap.size w w' := by
  obtain ⟨hr, hc, hm, hI1, hI2⟩ := h
  have hb1 := (Below.refl w.heap.size w).alloc (Nat.le_refl _) (.cells #[.bool it.raws, .int .i64 it.wd, .int .i64 it.n, .slice B m c] 34)
  have hk1 := Bk.newA w 34 #[.bool it.raws, .int .i64 it.wd, .int .i64 it.n, .slice B m c]
  have hb2 := (Below.refl _ _).alloc (Nat.le_refl (w.alloc (.cells #[.bool it.raws, .int .i64 it.wd, .int .i64 it.n, .slice B m c] 34)).heap.size) (.cells #[.bool it.raws, .int .i64 it.wd, .int .i64 it.n, .slice B m c] 34)
  have hk2 := Bk.newA (w.alloc (.cells #[.bool it.raws, .int .i64 it.wd, .int .i64 it.n, .slice B m c] 34)) 34 #[.bool it.raws, .int .i64 it.wd, .int .i64 it.n, .slice B m c]
  have hr2 := (hr.below hb1).below hb2
  have h1 : Its ((w.alloc (.cells #[.bool it.raws, .int .i64 it.wd, .int .i64 it.n, .slice B m c] 34)).alloc (.cells #[.bool it.raws, .int .i64 it.wd, .int .i64 it.n, .slice B m c] 34)) (some ⟨w.heap.size + 1, 0, none⟩) 1 [it] := by
    rw [World.size_alloc] at hk2
    refine ⟨rfl, fun _ => ⟨w.heap.size + 1, 0, rfl, by rw [World.size_alloc, World.size_alloc]; omega, fun i hi => ?_⟩⟩
    obtain rfl : i = 0 := by simpa using hi
    exact ⟨hk2.cell 0, hk2.cell 1, hk2.cell 2, B, m, c, hk2.cell 3, hr2, hc, hm, hI1, hI2⟩
  have H1 := Lib.hid (And.intro h1 (And.intro (hk1.belowS hb2) (below_base hb1 hb2 hb1.size)))
  have c0 := hk1.cell 0
  have c1 := hk1.cell 1
  have c2 := hk1.cell 2
  have c3 := hk1.cell 3
  clear hr hc hm hI1 hI2 hb1 hk1 hb2 hk2 hr2 h1
  go_enter Try.func5, Try.ntmps5
  go_wp2_with fail
  refine (long_any H1.out.1 (by omega)).mono ?_
  rintro e w1 ⟨rfl, hw⟩
  subst w1
  generalize hw2 : (w.alloc (.cells #[.bool it.raws, .int .i64 it.wd, .int .i64 it.n, .slice B m c] 34)).alloc (.cells #[.bool it.raws, .int .i64 it.wd, .int .i64 it.n, .slice B m c] 34) = w2 at H1 ⊢
  clear hw2 c0 c1 c2 c3
  cases hlv : longV [it] with
  | true =>
    clear hlv
    go_wp2_with fail
    refine awake_any.mono ?_
    rintro e w5 ⟨rfl, hb5⟩
    have H5 := Lib.hid (below_base H1.out.2.2 hb5 H1.out.2.2.size)
    clear hb5
    go_wp2
    go_ret
    exact ⟨rfl, H5.out⟩
  | false =>
    clear hlv
    have hst : ∃ w3, w3 = (((w2.alloc (.cells #[.slice none 0 0, .bool false, .int .i64 0, .int .i64 0] 56)).alloc (.cells #[.pointer none, .pointer (some ⟨w2.heap.size, 0, none⟩)] 23)).alloc (.cells #[.slice none 0 0, .bool false, .int .i64 0, .int .i64 0, .int .i64 0] 59)).alloc (.cells #[.pointer none, .pointer (some ⟨w2.heap.size + 1 + 1, 0, none⟩)] 42) ∧
        NnS w w3 w.heap.size (w2.heap.size + 1) (w2.heap.size + 1 + 1 + 1) (some ⟨w2.heap.size, 0, none⟩) (some ⟨w2.heap.size + 1 + 1, 0, none⟩) it.wd it.n B m c it.raws := by
      refine ⟨_, rfl, ?_⟩
      generalize ho1 : (Obj.cells #[.slice none 0 0, .bool false, .int .i64 0, .int .i64 0] 56 : Obj) = o1
      generalize ho2 : (Obj.cells #[.pointer none, .pointer (some ⟨w2.heap.size, 0, none⟩)] 23 : Obj) = o2
      generalize ho3 : (Obj.cells #[.slice none 0 0, .bool false, .int .i64 0, .int .i64 0, .int .i64 0] 59 : Obj) = o3
      generalize ho4 : (Obj.cells #[.pointer none, .pointer (some ⟨w2.heap.size + 1 + 1, 0, none⟩)] 42 : Obj) = o4
      have hb : Below w2.heap.size w2 ((((w2.alloc o1).alloc o2).alloc o3).alloc o4) := ((((Below.refl _ _).alloc (Nat.le_refl _) _).alloc (by rw [World.size_alloc]; omega) _).alloc (by rw [World.size_alloc, World.size_alloc]; omega) _).alloc (by rw [World.size_alloc, World.size_alloc, World.size_alloc]; omega) _
      have k1 : Bk (w2.alloc o1) w2.heap.size 56 [.slice none 0 0, .bool false, .int .i64 0, .int .i64 0] := by rw [← ho1]; exact Bk.newA w2 _ _
      have k2 : Bk ((w2.alloc o1).alloc o2) (w2.heap.size + 1) 23 [.pointer none, .pointer (some ⟨w2.heap.size, 0, none⟩)] := by
        rw [← ho2]
        have := Bk.newA (w2.alloc o1) 23 #[.pointer none, .pointer (some ⟨w2.heap.size, 0, none⟩)]
        rw [World.size_alloc] at this
        exact this
      have k3 : Bk (((w2.alloc o1).alloc o2).alloc o3) (w2.heap.size + 1 + 1) 59 [.slice none 0 0, .bool false, .int .i64 0, .int .i64 0, .int .i64 0] := by
        rw [← ho3]
        have := Bk.newA ((w2.alloc o1).alloc o2) 59 #[.slice none 0 0, .bool false, .int .i64 0, .int .i64 0, .int .i64 0]
        rw [World.size_alloc, World.size_alloc] at this
        exact this
      have k4 : Bk ((((w2.alloc o1).alloc o2).alloc o3).alloc o4) (w2.heap.size + 1 + 1 + 1) 42 [.pointer none, .pointer (some ⟨w2.heap.size + 1 + 1, 0, none⟩)] := by
        rw [← ho4]
        have := Bk.newA (((w2.alloc o1).alloc o2).alloc o3) 42 #[.pointer none, .pointer (some ⟨w2.heap.size + 1 + 1, 0, none⟩)]
        rw [World.size_alloc, World.size_alloc, World.size_alloc] at this
        exact this
      exact ⟨H1.out.2.1.belowS hb, (k2.alloc _).alloc _, k4, .inr ⟨_, rfl, ((k1.alloc _).alloc _).alloc _⟩, .inr ⟨_, rfl, k3.alloc _⟩, below_base H1.out.2.2 hb H1.out.2.2.size⟩
    obtain ⟨w3, hw3, hn⟩ := hst
    have H3 := Lib.hid hn
    clear hn
    go_wp2
    rw [← hw3]
    generalize w2.heap.size + 1 + 1 + 1 = gr at *
    generalize w2.heap.size + 1 + 1 = pr at *
    generalize w2.heap.size + 1 = gw at *
    generalize w2.heap.size = pw at *
    obtain ⟨g0, hg0⟩ : ∃ g, g = w.heap.size := ⟨_, rfl⟩
    rw [← hg0] at H3 ⊢
    clear hw3 H1 hg0
    go_loopw [5] (fun i wr => ∃ k : Nat, k ≤ 2 ∧ i = .int .i64 k ∧ NnS w wr g0 gw gr (some ⟨pw, 0, none⟩) (some ⟨pr, 0, none⟩) it.wd it.n B m c it.raws) (fun i wr => 2 - (intOf i).toNat)
    case atStart => exact ⟨0, by omega, rfl, H3.out⟩
    case round =>
      obtain ⟨k, hk, rfl, hn⟩ := hrel
      clear H3
      have H3 := Lib.hid hn
      clear hn
      by_cases hlt : k < 2
      · have km : (k : Int) < 2 := by omega
        obtain ⟨p, cw, hp⟩ : ∃ p, wr.cell? ⟨gw, k, none⟩ = some (.pointer p) ∧ NoW wr p := by
          match k, hlt with
          | 0, _ => exact ⟨none, H3.out.2.1.cell 0, .inl rfl⟩
          | 1, _ => exact ⟨_, H3.out.2.1.cell 1, H3.out.2.2.2.1⟩
        obtain ⟨q, cr, hq⟩ : ∃ q, wr.cell? ⟨gr, k, none⟩ = some (.pointer q) ∧ NoR wr q := by
          match k, hlt with
          | 0, _ => exact ⟨none, H3.out.2.2.1.cell 0, .inl rfl⟩
          | 1, _ => exact ⟨_, H3.out.2.2.1.cell 1, H3.out.2.2.2.2.1⟩
        have hlk := Lib.hid hlt
        have HP := Lib.hid (And.intro hp hq)
        clear hp hq hlt
        go_wp2_with fail
        go_quiet (fail)
        have hb4 := below_dN (Below.refl wr.heap.size wr) nq
        have H4 := Lib.hid (And.intro (H3.out.below hb4) (And.intro (HP.out.1.below hb4) (HP.out.2.below hb4)))
        clear hb4 cw cr
        generalize wr.drewN nq = w4 at H4 ⊢
        go_wp2_with fail
        refine (bytesW_no H4.out.2.1).mono ?_
        rintro e w5 ⟨rfl, rfl⟩
        have c1 := H4.out.1.1.cell 1
        have c2 := H4.out.1.1.cell 2
        go_wp2_with fail
        refine (putW_no H4.out.2.1 _ _).mono ?_
        rintro e w5 ⟨rfl, hb5⟩
        have H5 := Lib.hid (And.intro (H4.out.1.below hb5) (And.intro (H4.out.2.1.below hb5) (H4.out.2.2.below hb5)))
        clear hb5 c1 c2
        have c3 := H5.out.1.1.cell 3
        go_wp2_with fail
        refine (rawW_no H5.out.2.1 _ _ _).mono ?_
        rintro e w6 ⟨rfl, hb6⟩
        have H6 := Lib.hid (And.intro (H5.out.1.below hb6) (H5.out.2.2.below hb6))
        clear hb6 c3
        have c1 := H6.out.1.1.cell 1
        go_wp2_with fail
        refine (getR_no H6.out.2 _).mono ?_
        rintro e w7 ⟨rfl, rfl⟩
        have c2 := H6.out.1.1.cell 2
        go_wp2_with fail
        refine (rawR_no H6.out.2 _).mono ?_
        rintro e w7 ⟨rfl, rfl⟩
        go_wp2_with fail
        refine (restR_no H6.out.2).mono ?_
        rintro e w7 ⟨rfl, rfl⟩
        go_wp2_with fail
        refine (endR_no H6.out.2).mono ?_
        rintro e w8 ⟨rfl, hb8⟩
        have H8 := Lib.hid (H6.out.1.below hb8)
        clear hb8 c1 c2
        go_wp2
        exact ⟨⟨k + 1, by have := hlk.out; omega, by go_num, H8.out⟩, by have := hlk.out; simp [intOf]; omega⟩
      · obtain rfl : k = 2 := by omega
        clear hlt hk
        go_wp2_with fail
        refine awake_any.mono ?_
        rintro e w5 ⟨rfl, hb5⟩
        have H5 := Lib.hid (H3.out.below hb5).2.2.2.2.2
        clear hb5
        go_wp2
        go_ret
        exact ⟨rfl, H5.out⟩
end Go.Proofs.Ytdepmogibhmdaaa
