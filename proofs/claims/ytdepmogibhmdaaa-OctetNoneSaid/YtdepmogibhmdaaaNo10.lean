/- Writers and readers that nobody made. -/
import Derived.Test.YtdepmogibhmdaaaLo10
namespace Go.Proofs.Ytdepmogibhmdaaa
open Go.ChangeShapes Go.WideShapes Go.ChangeAt Go.RowKit Go.Deep
set_option linter.unusedVariables false
def NoW (w : World) (p : Option Addr) : Prop := p = none ∨ ∃ P, p = some ⟨P, 0, none⟩ ∧ Bk w P 56 [.slice none 0 0, .bool false, .int .i64 0, .int .i64 0]
def NoR (w : World) (p : Option Addr) : Prop := p = none ∨ ∃ P, p = some ⟨P, 0, none⟩ ∧ Bk w P 59 [.slice none 0 0, .bool false, .int .i64 0, .int .i64 0, .int .i64 0]
theorem NoW.below {w w' : World} {p : Option Addr} (h : NoW w p) (hb : Below w.heap.size w w') : NoW w' p := by
  rcases h with e | ⟨P, e, hk⟩
  · exact .inl e
  · exact .inr ⟨P, e, hk.belowS hb⟩
theorem NoR.below {w w' : World} {p : Option Addr} (h : NoR w p) (hb : Below w.heap.size w w') : NoR w' p := by
  rcases h with e | ⟨P, e, hk⟩
  · exact .inl e
  · exact .inr ⟨P, e, hk.belowS hb⟩
theorem noneW_no {w : World} {p : Option Addr} (h : NoW w p) : Calls Try.prog 36 #[.pointer p] w fun e w' => e = .returned (.bool true) ∧ w = w' := by
  rcases h with rfl | ⟨P, rfl, hk⟩
  · go_enter Try.func36, Try.ntmps36
    go_wp2
    go_ret
    exact ⟨rfl, rfl⟩
  · have c1 := hk.cell 1
    clear hk
    go_enter Try.func36, Try.ntmps36
    go_wp2
    go_ret
    exact ⟨rfl, rfl⟩
theorem noneR_no {w : World} {p : Option Addr} (h : NoR w p) : Calls Try.prog 43 #[.pointer p] w fun e w' => e = .returned (.bool true) ∧ w = w' := by
  rcases h with rfl | ⟨P, rfl, hk⟩
  · exact noneR_nil
  · have c1 := hk.cell 1
    clear hk
    go_enter Try.func43, Try.ntmps43
    go_wp2
    go_ret
    exact ⟨rfl, rfl⟩
theorem bytesW_no {w : World} {p : Option Addr} (h : NoW w p) : Calls Try.prog 13 #[.pointer p] w fun e w' => e = .returned (.tuple #[.slice none 0 0, .int .i64 1]) ∧ w = w' := by
  have H := Lib.hid h
  clear h
  go_enter Try.func13, Try.ntmps13
  go_wp2_with fail
  refine (noneW_no H.out).mono ?_
  rintro e w1 ⟨rfl, rfl⟩
  go_wp2
  go_ret2
  exact ⟨rfl, rfl⟩
theorem does_no {w : World} {p : Option Addr} (h : NoW w p) (fv : Value) : Calls Try.prog 44 #[.pointer p, fv] w fun e w' => e = .returned (.int .i64 1) ∧ Below w.heap.size w w' := by
  have hmf : ∀ (fn : Fn) (first cap : Array Value) (w : World), (Instr.makeFunc fn first cap).run Try.prog w = .ok (.func fn first cap) w := fun _ _ _ _ => rfl
  have H := Lib.hid h
  clear h
  go_enter_defers Try.func44, Try.ntmps44
  go_wp2_with fail
  have hst : ∃ w2, w2 = (w.alloc (.cells #[.pointer p] 23)).alloc (.cells #[.int .i64 0] 24) ∧ Bk w2 (w.heap.size + 1) 24 [.int .i64 0] ∧ Below w.heap.size w w2 :=
    ⟨_, rfl, Bk.new2 w _ _ _, ((Below.refl _ _).alloc (Nat.le_refl _) _).alloc (by rw [World.size_alloc]; omega) _⟩
  obtain ⟨w2, hw2, hb1, hbl⟩ := hst
  rw [← hw2]
  obtain ⟨b1, hbb1⟩ : ∃ b, b = w.heap.size + 1 := ⟨_, rfl⟩
  rw [← hbb1] at hb1 ⊢
  have g1 := hb1.cell 0
  have e1 := hb1.frozen 0
  have HB := Lib.hid (And.intro hb1 (And.intro hbl hbb1))
  clear hw2 hb1 hbl hbb1
  refine (noneW_no (H.out.below HB.out.2.1)).mono ?_
  rintro e w3 ⟨rfl, rfl⟩
  go_wp2
  exact ⟨_, results_cell_int rfl _ _ b1 1 rfl ((HB.out.1.set_ 0 (.int .i64 1)).cell 0), rfl, HB.out.2.1.setCell (by have := HB.out.2.2; show w.heap.size ≤ b1; omega) _⟩
theorem putW_no {w : World} {p : Option Addr} (h : NoW w p) (wide n : Int) : Calls Try.prog 29 #[.pointer p, .int .i64 wide, .int .i64 n] w fun e w' => e = .returned (.int .i64 1) ∧ Below w.heap.size w w' := by
  have hmf : ∀ (fn : Fn) (first cap : Array Value) (w : World), (Instr.makeFunc fn first cap).run Try.prog w = .ok (.func fn first cap) w := fun _ _ _ _ => rfl
  have H := Lib.hid h
  clear h
  go_enter Try.func29, Try.ntmps29
  go_wp2_with fail
  have hb : Below w.heap.size w (((w.alloc (.cells #[.pointer p] 23)).alloc (.cells #[.int .i64 wide] 3)).alloc (.cells #[.int .i64 n] 3)) := (((Below.refl _ _).alloc (Nat.le_refl _) _).alloc (by rw [World.size_alloc]; omega) _).alloc (by rw [World.size_alloc, World.size_alloc]; omega) _
  have HB := Lib.hid hb
  refine (does_no (H.out.below hb) _).mono ?_
  rintro e w3 ⟨rfl, hb3⟩
  have H3 := Lib.hid (below_base HB.out hb3 hb.size)
  clear hb hb3
  go_wp2
  go_ret
  exact ⟨rfl, H3.out⟩
theorem rawW_no {w : World} {p : Option Addr} (h : NoW w p) (B : Option Addr) (m c : Nat) : Calls Try.prog 30 #[.pointer p, .slice B m c] w fun e w' => e = .returned (.int .i64 1) ∧ Below w.heap.size w w' := by
  have hmf : ∀ (fn : Fn) (first cap : Array Value) (w : World), (Instr.makeFunc fn first cap).run Try.prog w = .ok (.func fn first cap) w := fun _ _ _ _ => rfl
  have H := Lib.hid h
  clear h
  go_enter Try.func30, Try.ntmps30
  go_wp2_with fail
  have hb : Below w.heap.size w ((w.alloc (.cells #[.pointer p] 23)).alloc (.cells #[.slice B m c] 32)) := ((Below.refl _ _).alloc (Nat.le_refl _) _).alloc (by rw [World.size_alloc]; omega) _
  have HB := Lib.hid hb
  refine (does_no (H.out.below hb) _).mono ?_
  rintro e w3 ⟨rfl, hb3⟩
  have H3 := Lib.hid (below_base HB.out hb3 hb.size)
  clear hb hb3
  go_wp2
  go_ret
  exact ⟨rfl, H3.out⟩
theorem takes_no {w : World} {p : Option Addr} (h : NoR w p) (n : Int) (may : Bool) : Calls Try.prog 39 #[.pointer p, .int .i64 n, .bool may] w fun e w' => e = .returned (.slice none 0 0) ∧ w = w' := by
  have H := Lib.hid h
  clear h
  go_enter Try.func39, Try.ntmps39
  go_wp2_with fail
  refine (noneR_no H.out).mono ?_
  rintro e w1 ⟨rfl, rfl⟩
  go_wp2
  go_ret
  exact ⟨rfl, rfl⟩
theorem rawR_no {w : World} {p : Option Addr} (h : NoR w p) (n : Int) : Calls Try.prog 21 #[.pointer p, .int .i64 n] w fun e w' => e = .returned (.slice none 0 0) ∧ w = w' := by
  have H := Lib.hid h
  clear h
  go_enter Try.func21, Try.ntmps21
  go_wp2_with fail
  refine (takes_no H.out n true).mono ?_
  rintro e w1 ⟨rfl, rfl⟩
  go_wp2
  go_ret
  exact ⟨rfl, rfl⟩
theorem getR_no {w : World} {p : Option Addr} (h : NoR w p) (n : Int) : Calls Try.prog 23 #[.pointer p, .int .i64 n] w fun e w' => e = .returned (.int .i64 0) ∧ w = w' := by
  have H := Lib.hid h
  clear h
  go_enter Try.func23, Try.ntmps23
  go_wp2_with fail
  refine (width_any n).mono ?_
  rintro e w1 ⟨rfl, rfl⟩
  go_wp2_with fail
  refine (takes_no H.out n (wid n)).mono ?_
  rintro e w1 ⟨rfl, rfl⟩
  go_wp2
  go_loopw [5, 14] (fun x i wr => x = .int .u64 0 ∧ i = .int .i64 0 ∧ wr = w) (fun x i wr => 0)
  case atStart => exact ⟨rfl, rfl, rfl⟩
  case round =>
    obtain ⟨rfl, rfl, hw⟩ := hrel
    subst wr
    go_wp2
    go_ret
    exact ⟨rfl, rfl⟩
theorem restR_no {w : World} {p : Option Addr} (h : NoR w p) : Calls Try.prog 25 #[.pointer p] w fun e w' => e = .returned (.int .i64 0) ∧ w = w' := by
  have H := Lib.hid h
  clear h
  go_enter Try.func25, Try.ntmps25
  go_wp2_with fail
  refine (noneR_no H.out).mono ?_
  rintro e w1 ⟨rfl, rfl⟩
  go_wp2
  go_ret
  exact ⟨rfl, rfl⟩
theorem endR_no {w : World} {p : Option Addr} (h : NoR w p) : Calls Try.prog 27 #[.pointer p] w fun e w' => e = .returned (.agg #[.int .i64 1, .int .i64 0]) ∧ Below w.heap.size w w' := by
  have hb := (Below.refl w.heap.size w).alloc (Nat.le_refl _) (.cells #[.int .i64 0, .int .i64 0] 50)
  have hn := Bk.newA w 50 #[.int .i64 0, .int .i64 0]
  have H := Lib.hid (And.intro (h.below hb) (And.intro hb hn))
  have g0 := hn.cell 0
  have g1 := hn.cell 1
  have e0 := hn.frozen 0
  have e1 := hn.frozen 1
  clear h hn hb
  go_enter Try.func27, Try.ntmps27
  go_wp2_with fail
  refine (noneR_no H.out.1).mono ?_
  rintro e w1 ⟨rfl, rfl⟩
  go_wp2
  exact ret_fault rfl rfl rfl (Bk.newA w 50 #[.int .i64 1, .int .i64 0]) ⟨rfl, (Below.refl w.heap.size w).alloc (Nat.le_refl _) _⟩
section
variable {H : Type} {enc : TypeId × Value → H} {P : Program} {W : World} {spare : Nat → Bool} {held : Bool} {base : Nat}
theorem arg_item {r : Reach} {b0 : Nat} {e s b i u : TypeId} {v : Value} {d : DataW H} {p : List MemPlace} {f0 f1 f2 f3 : Field} (he : P.underlying e = some (.struct #[f0, f1, f2, f3])) (t0 : f0.type = b ∧ f0.offset = 0) (t1 : f1.type = i ∧ f1.offset = 1) (t2 : f2.type = i ∧ f2.offset = 2) (t3 : f3.type = s ∧ f3.offset = 3)
    (hb : P.underlying b = some .bool) (hi : P.underlying i = some (.int .i64)) (hs : P.underlying s = some (.slice u)) (hu : P.underlying u = some (.int .u8)) (ce : P.cellsOf e = 4) (cb : P.cellsOf b = 1) (ci : P.cellsOf i = 1) (cs : P.cellsOf s = 1) (cu : P.cellsOf u = 1) (bu : P.bytesOf u = 1)
    (hv : Value.okWide P W r b0 e v) (h : DataW.Trod enc P W base spare held e v d p) (hz : Sized P e d) :
    ∃ (B : Option Addr) (m c : Nat) (it : It), v = .agg #[.bool it.raws, .int .i64 it.wd, .int .i64 it.n, .slice B m c] ∧ Rd W B m (bys it.b) ∧ m ≤ c ∧ m ≤ 140737488351232 ∧ I64 it.wd ∧ I64 it.n := by
  obtain ⟨l, rfl, hsz⟩ := okWide_struct he hv
  obtain ⟨fuel, hf⟩ := h
  rw [ce] at hsz
  have hl : ∃ a b c d, l = #[a, b, c, d] := by
    obtain ⟨ll⟩ := l
    match ll, hsz with
    | [a, b, c, d], _ => exact ⟨a, b, c, d, rfl⟩
  obtain ⟨v0, v1, v2, v3, rfl⟩ := hl
  obtain ⟨it, B, m, c, rfl, rfl, rfl, rfl, h⟩ := item_cells he t0 t1 t2 t3 hb hi hs hu cb ci cs cu bu (show DataW.trod enc P W base spare held fuel e [v0, v1, v2, v3] = some (d, p) from hf) hz
  exact ⟨B, m, c, it, rfl, h⟩
end
end Go.Proofs.Ytdepmogibhmdaaa
