/- AliasPicks: CopyAlias, and its walk. -/
import Derived.Test.YtfcoeonabppjiaaKw14
namespace Go.Proofs.Ytfcoeonabppjiaa
open Go.RowKit
set_option linter.unusedVariables false
set_option maxRecDepth 100000 in
set_option maxHeartbeats 4000000 in
/-- artesiankit.CopyAlias -/
theorem copyAlias_any {w : World} {T : Int} {A B : Option Addr} {n c m d : Nat} {xs ys : List Int} (h1 : Rd w A n (nums xs)) (h2 : Rd w B m (nums ys)) (hn : n ≤ 17592186043904) (hm : m ≤ 17592186043904) :
    Calls Try.prog 18 #[.agg #[.int .i64 T, .slice A n c, .slice B m d]] w fun e w' => ∃ v, e = .returned v ∧ Al w' v T xs ys ∧ Below w.heap.size w w' := by
  have hS := (ckS_new (c := c) (d := d) (T := T) h1 h2).alloc (.cells #[.int .i64 0, .slice none 0 0, .slice none 0 0] 26)
  have k0 := (Bk.newA w 26 #[.int .i64 T, .slice A n c, .slice B m d]).alloc (.cells #[.int .i64 0, .slice none 0 0, .slice none 0 0] 26)
  have k1 := Bk.new2 w (.cells #[.int .i64 T, .slice A n c, .slice B m d] 26) 26 #[.int .i64 0, .slice none 0 0, .slice none 0 0]
  have HS := Lib.hid (And.intro hS (And.intro k0 k1))
  have c1 := k0.cell 1
  have c2 := k0.cell 2
  have f1 := k0.frozen 1
  have f2 := k0.frozen 2
  have HN := Lib.hid (And.intro hn hm)
  clear h1 h2 hn hm hS k0 k1
  go_enter Try.func18, Try.ntmps18
  go_wp2_with fail
  generalize (w.alloc (.cells #[.int .i64 T, .slice A n c, .slice B m d] 26)).alloc (.cells #[.int .i64 0, .slice none 0 0, .slice none 0 0] 26) = w1 at HS c1 c2 f1 f2 ⊢
  go_cut [] (fun wx => ∃ A' c' B' d', Bk wx w.heap.size 26 [.int .i64 T, .slice A' n c', .slice B' m d'] ∧ Bk wx (w.heap.size + 1) 26 [.int .i64 0, .slice none 0 0, .slice none 0 0] ∧ Rd wx A' n (nums xs) ∧ Rd wx B' m (nums ys) ∧ Below w.heap.size w wx ∧ (∀ a, A' = some a → a.block ≠ w.heap.size + 1) ∧ (∀ a, B' = some a → a.block ≠ w.heap.size + 1))
  case first =>
    go_region_with (first
      | (go_at_call_of 10 (Value.slice A n c); refine (copyInts_any (l := xs) HS.out.1.2.2.2.2.1.drew HN.out.1).mono ?_; rintro e w5 ⟨v5, rfl, ho5, hb5⟩; obtain ⟨A5, c5, rfl, _⟩ := own_form ho5; have hb5' := below_undrew hb5; have HS5 := Lib.hid hb5'.size; have q0 := HS.out.2.1.belowS hb5'; have S5 := Lib.hid (And.intro (HS.out.1.below hb5') (And.intro q0 (And.intro (HS.out.2.2.belowS hb5') ho5))); have g1 := q0.cell 1; have g2 := q0.cell 2; have gf1 := q0.frozen 1; have gf2 := q0.frozen 2; clear q0 hb5 hb5')
      | (go_at_call_of 10 (Value.slice B m d); refine (copyInts_any (l := ys) S5.out.1.2.2.2.2.2.1 HN.out.2).mono ?_; rintro e w8 ⟨v8, rfl, ho8, hb8⟩; obtain ⟨A8, c8, rfl, _⟩ := own_form ho8; have q8 := S5.out.2.1.belowS hb8; have S8 := Lib.hid (And.intro (S5.out.1.below hb8) (And.intro q8 (And.intro (S5.out.2.2.1.belowS hb8) (And.intro (own_below S5.out.2.2.2 hb8) ho8)))); have k1 := q8.cell 1; have k2 := q8.cell 2; have kf1 := q8.frozen 1; have kf2 := q8.frozen 2; clear q8 hb8))
    all_goals go_wp2_with fail
    all_goals go_meet
    all_goals (
      have hsz1 : w.heap.size + 1 < w1.heap.size := HS.out.2.2.lt
      have hg5 := own_ge S8.out.2.2.2.1
      have hg8 := own_ge S8.out.2.2.2.2
      have hs5 : w1.heap.size ≤ w5.heap.size := HS5.out
      have hch : Chg (fun x => x = w.heap.size) w8 ((w8.setCell ⟨w.heap.size, 1, none⟩ (.slice A5 n c5)).setCell ⟨w.heap.size, 2, none⟩ (.slice A8 m c8)) := ((Chg.refl (fun x => x = w.heap.size) w8).set_ (g := w.heap.size) (show (fun x => x = w.heap.size) w.heap.size from rfl) _ _).set_ (g := w.heap.size) (show (fun x => x = w.heap.size) w.heap.size from rfl) _ _
      refine ⟨A5, c5, A8, c8, (S8.out.2.1.set_ 1 _).set_ 2 _, hch.bk S8.out.2.2.1 (fun e => by omega), hch.rd (Rd.of_own S8.out.2.2.2.1) (fun a ha e => ?_), hch.rd (Rd.of_own S8.out.2.2.2.2) (fun a ha e => ?_), (S8.out.1.2.2.2.2.2.2.setCell (p := ⟨w.heap.size, 1, none⟩) (Nat.le_refl _) _).setCell (p := ⟨w.heap.size, 2, none⟩) (Nat.le_refl _) _, fun a ha e => ?_, fun a ha e => ?_⟩
      · have h1 := (hg5 a ha).1
        have h2 : w1.drew.heap.size = w1.heap.size := rfl
        omega
      · have h1 := (hg8 a ha).1
        omega
      · have h1 := (hg5 a ha).1
        have h2 : w1.drew.heap.size = w1.heap.size := rfl
        omega
      · have h1 := (hg8 a ha).1
        omega)
  case rest =>
    clear c1 c2 f1 f2
    obtain ⟨A', c', B', d', hP, hR, hx, hy, hb, ha, hb'⟩ := hcut
    have c0 := hP.cell 0
    have c1 := hP.cell 1
    have c2 := hP.cell 2
    have r0 := hR.cell 0
    have r1 := hR.cell 1
    have r2 := hR.cell 2
    have f0 := hR.frozen 0
    have f1 := hR.frozen 1
    have f2 := hR.frozen 2
    have HE := Lib.hid (And.intro hx (And.intro hy (And.intro hb (And.intro ha hb'))))
    clear hP hR hx hy hb ha hb'
    go_wp2
    refine bodyPost_ret (v := .agg #[.int .i64 T, .slice A' n c', .slice B' m d']) (by simp [results, Try.results18, go_sem, r0, r1, r2]) rfl ?_
    have hch := (((Chg.refl (fun x => x = w.heap.size + 1) wc).set_ (g := w.heap.size + 1) (show (fun x => x = w.heap.size + 1) (w.heap.size + 1) from rfl) 0 (.int .i64 T)).set_ (g := w.heap.size + 1) (show (fun x => x = w.heap.size + 1) (w.heap.size + 1) from rfl) 1 (.slice A' n c')).set_ (g := w.heap.size + 1) (show (fun x => x = w.heap.size + 1) (w.heap.size + 1) from rfl) 2 (.slice B' m d')
    exact ⟨_, rfl, ⟨A', n, c', B', m, d', rfl, hch.rd HE.out.1 HE.out.2.2.2.1, hch.rd HE.out.2.1 HE.out.2.2.2.2, by have := HN.out; omega, by have := HN.out; omega⟩, hch.below HE.out.2.2.1 (fun k _ hk => by omega) HE.out.2.2.1.size⟩
end Go.Proofs.Ytfcoeonabppjiaa
