/- octet's writers: does, Put, Raw, Bytes, NewWriter. -/
import Derived.Test.YtpfamjgdfcnieaaWr10
namespace Go.Proofs.Ytpfamjgdfcnieaa
open Go.RowKit
set_option linter.unusedVariables false
/-- (*Writer).none -/
theorem noneW_made {w : World} {base P : Nat} {A : Option Addr} {c : Nat} {s : WS} (h : Wo w base P A c s) : Calls Try.prog 55 #[.pointer (some ⟨P, 0, none⟩)] w fun e w' => e = .returned (.bool false) ∧ w = w' := by
  have c1 := h.1.cell 1
  clear h
  go_enter Try.func55, Try.ntmps55
  go_wp2
  go_ret
  exact ⟨rfl, rfl⟩
/-- The deferred closure of does. -/
theorem keeps {w : World} {P b0 b1 : Nat} {x : Int} {v : Value} (h0 : w.cell? ⟨b0, 0, none⟩ = some (.pointer (some ⟨P, 0, none⟩))) (h1 : w.cell? ⟨b1, 0, none⟩ = some (.int .i64 x)) (c3 : w.cell? ⟨P, 3, none⟩ = some v) (f3 : w.frozen? ⟨P, 3, none⟩ = false) :
    CallsD Try.prog 62 #[.pointer (some ⟨b1, 0, none⟩), .pointer (some ⟨b0, 0, none⟩)] .returning w fun e u' w' => u' = .returning ∧ e = .returned (.tuple #[]) ∧ w' = w.setCell ⟨P, 3, none⟩ (.int .i64 x) := by
  go_enter_d Try.func62, Try.ntmps62
  go_wp2
  go_end0
  exact ⟨rfl, rfl⟩
theorem results_cell_int {fn : Func} {p : Tmp} (h : fn.results = #[.cell p 27]) (tmps : Array Value) (w : World) (g : Nat) (x : Int) (hp : tmps.getD p undef = .pointer (some ⟨g, 0, none⟩)) (hc : w.cell? ⟨g, 0, none⟩ = some (.int .i64 x)) :
    (results fn tmps).run Try.prog w = .ok (.int .i64 x) w := by
  have hp' : tmps[p]?.getD undef = .pointer (some ⟨g, 0, none⟩) := by simpa using hp
  simp [results, h, hp', asAddr, go_sem, hc]
set_option maxRecDepth 100000 in
set_option maxHeartbeats 2000000 in
/-- does, of a closure that comes to an error and leaves a writer. -/
theorem does_any {w : World} {base P c G : Nat} {A : Option Addr} {s s' : WS} {caps : Array Value} {x : Int} (h : Wo w base P A c s)
    (hcl : ∀ w1, Below w.heap.size w w1 → Calls Try.prog G caps w1 (LyPost w1 base P A x s')) (he : s.e = 0) (hcf : ∀ w, (callFunc G caps).run Try.prog w = .ok (.enter G caps) w) :
    Calls Try.prog 50 #[.pointer (some ⟨P, 0, none⟩), .func (.func G) #[] caps] w (LyPost w base P A x ⟨s'.m, s'.b, x⟩) := by
  have hmf : ∀ (fn : Fn) (first cap : Array Value) (w : World), (Instr.makeFunc fn first cap).run Try.prog w = .ok (.func fn first cap) w := fun _ _ _ _ => rfl
  have H := Lib.hid h
  have HC := Lib.hid hcl
  have c3 := h.1.cell 3
  rw [he] at c3
  clear h hcl
  go_enter_defers Try.func50, Try.ntmps50
  go_wp2_with fail
  have hst : ∃ w2, w2 = (w.alloc (.cells #[.pointer (some ⟨P, 0, none⟩)] 44)).alloc (.cells #[.int .i64 0] 27) ∧ Bk w2 w.heap.size 44 [.pointer (some ⟨P, 0, none⟩)] ∧ Bk w2 (w.heap.size + 1) 27 [.int .i64 0] ∧ Below w.heap.size w w2 :=
    ⟨_, rfl, (Bk.newA w _ _).alloc _, Bk.new2 w _ _ _, ((Below.refl _ _).alloc (Nat.le_refl _) _).alloc (by rw [World.size_alloc]; omega) _⟩
  obtain ⟨w2, hw2, hb0, hb1, hbl⟩ := hst
  rw [← hw2]
  have hPl := H.out.1.lt
  obtain ⟨b0, hbb0⟩ : ∃ b, b = w.heap.size := ⟨_, rfl⟩
  obtain ⟨b1, hbb1⟩ : ∃ b, b = w.heap.size + 1 := ⟨_, rfl⟩
  rw [← hbb1] at hb1 ⊢
  rw [← hbb0] at hb0 ⊢
  have HB := Lib.hid (And.intro hb0 (And.intro hb1 (And.intro hbl (And.intro hPl (And.intro hbb0 hbb1)))))
  have H2 := Lib.hid (H.out.below hbl)
  have C3 : w2.cell? ⟨P, 3, none⟩ = some (.int .i64 0) := by rw [hbl.cell (p := ⟨P, 3, none⟩) hPl]; exact c3
  have g0 := hb0.cell 0
  have g1 := hb1.cell 0
  have e1 := hb1.frozen 0
  clear hw2 hb0 hb1 hbl hPl hbb0 hbb1 c3 he
  refine (noneW_made H2.out).mono ?_
  rintro e w3 ⟨rfl, rfl⟩
  go_wp2_with fail
  refine (HC.out w2 HB.out.2.2.1).mono ?_
  rintro e w3 ⟨rfl, A', c', hwo, hA', hch⟩
  obtain ⟨hb0, hb1, hbl, hPl, hbb0, hbb1⟩ := HB.out
  have hn0 : ¬ Wset P A b0 := by
    rintro (e | ⟨a, ha, e⟩)
    · omega
    · have := (own_ge H.out.2.1 a ha).2; omega
  have hn1 : ¬ Wset P A b1 := by
    rintro (e | ⟨a, ha, e⟩)
    · omega
    · have := (own_ge H.out.2.1 a ha).2; omega
  have k0 := hch.bk hb0 hn0
  have k1 := hch.bk hb1 hn1
  have g0 := k0.cell 0
  have g1 := k1.cell 0
  have e1 := k1.frozen 0
  have c3 := hwo.1.cell 3
  have f3 := hwo.1.frozen 3
  have hne : ¬ P = b1 := by omega
  have hne0 : ¬ P = b0 := by omega
  have HE := Lib.hid (And.intro hwo (And.intro hA' (And.intro hch (And.intro k0 k1))))
  clear hwo hA' hch k0 k1 hb0 hb1 hbl hPl hbb0 hbb1 hn0 hn1
  go_wp2
  obtain ⟨hwo, hA', hch, k0, k1⟩ := HE.out
  obtain ⟨hb0, hb1, hbl, hPl, hbb0, hbb1⟩ := HB.out
  have hA1 : ∀ a, A' = some a → a.block ≠ b1 := fun a ha => by
    have hs2 := hb1.lt
    rcases hA' a ha with ⟨b, hb, e⟩ | e
    · have := (own_ge H.out.2.1 b hb).2; omega
    · omega
  have hcb : Chg (fun k => k = b1) w3 (w3.setCell ⟨b1, 0, none⟩ (.int .i64 x)) := (Chg.refl (fun k => k = b1) w3).set_ (show b1 = b1 from rfl) _ _
  have hw4 := hwo.chg hcb hne hA1
  have h5 := hw4.err x
  have j0 := (k0.far (p := ⟨b1, 0, none⟩) (by show b0 ≠ b1; omega) (.int .i64 x)).cell 0
  have j1 := (k1.set_ 0 (.int .i64 x)).cell 0
  refine leaves_cons (f := 62) (args := #[.pointer (some ⟨b1, 0, none⟩), .pointer (some ⟨b0, 0, none⟩)]) (by simp) (by simp [go_sem]) ?_
  refine (keeps (x := x) j0 j1 (hw4.1.cell 3) (hw4.1.frozen 3)).mono ?_
  rintro e u' w4 ⟨rfl, rfl, rfl⟩
  have j2 := ((k1.set_ 0 (.int .i64 x)).far (p := ⟨P, 3, none⟩) (fun e => hne e.symm) (.int .i64 x)).cell 0
  have hs := hbl.size
  refine ⟨_, results_cell_int rfl _ _ b1 x rfl j2, rfl, A', c', h5.1, fun a ha => ?_, ?_⟩
  · rcases hA' a ha with e | e
    · exact .inl e
    · exact .inr (by omega)
  · exact (((Chg.of_below (S := Wset P A) hbl).trans hch fun _ _ z => z).setN (by omega) 0 _).set_ (.inl rfl) _ _
set_option maxRecDepth 100000 in
set_option maxHeartbeats 2000000 in
/-- does, of a writer that has an error. -/
theorem does_err {w : World} {base P c : Nat} {A : Option Addr} {s : WS} (h : Wo w base P A c s) (fv : Value) (he : s.e ≠ 0) :
    Calls Try.prog 50 #[.pointer (some ⟨P, 0, none⟩), fv] w (LyPost w base P A s.e s) := by
  have hmf : ∀ (fn : Fn) (first cap : Array Value) (w : World), (Instr.makeFunc fn first cap).run Try.prog w = .ok (.func fn first cap) w := fun _ _ _ _ => rfl
  have d1 : (s.e != 0) = true := by simpa using he
  have H := Lib.hid h
  have c3 := h.1.cell 3
  clear h he
  go_enter_defers Try.func50, Try.ntmps50
  go_wp2_with fail
  have hst : ∃ w2, w2 = (w.alloc (.cells #[.pointer (some ⟨P, 0, none⟩)] 44)).alloc (.cells #[.int .i64 0] 27) ∧ Bk w2 w.heap.size 44 [.pointer (some ⟨P, 0, none⟩)] ∧ Bk w2 (w.heap.size + 1) 27 [.int .i64 0] ∧ Below w.heap.size w w2 :=
    ⟨_, rfl, (Bk.newA w _ _).alloc _, Bk.new2 w _ _ _, ((Below.refl _ _).alloc (Nat.le_refl _) _).alloc (by rw [World.size_alloc]; omega) _⟩
  obtain ⟨w2, hw2, hb0, hb1, hbl⟩ := hst
  rw [← hw2]
  have hPl := H.out.1.lt
  obtain ⟨b0, hbb0⟩ : ∃ b, b = w.heap.size := ⟨_, rfl⟩
  obtain ⟨b1, hbb1⟩ : ∃ b, b = w.heap.size + 1 := ⟨_, rfl⟩
  rw [← hbb1] at hb1 ⊢
  rw [← hbb0] at hb0 ⊢
  have HB := Lib.hid (And.intro hb0 (And.intro hb1 (And.intro hbl (And.intro hPl (And.intro hbb0 hbb1)))))
  have H2 := Lib.hid (H.out.below hbl)
  have C3 : w2.cell? ⟨P, 3, none⟩ = some (.int .i64 s.e) := by rw [hbl.cell (p := ⟨P, 3, none⟩) hPl]; exact c3
  have g0 := hb0.cell 0
  have g1 := hb1.cell 0
  have e1 := hb1.frozen 0
  have hne : ¬ P = b1 := by omega
  have hne0 : ¬ P = b0 := by omega
  clear hw2 hb0 hb1 hbl hPl hbb0 hbb1 c3
  refine (noneW_made H2.out).mono ?_
  rintro e w3 ⟨rfl, rfl⟩
  go_wp2
  obtain ⟨k0, k1, hbl, hPl, hbb0, hbb1⟩ := HB.out
  have hwo := H2.out
  have hA1 : ∀ a, A = some a → a.block ≠ b1 := fun a ha => by
    have := (own_ge H.out.2.1 a ha).2; omega
  have hcb : Chg (fun k => k = b1) w2 (w2.setCell ⟨b1, 0, none⟩ (.int .i64 s.e)) := (Chg.refl (fun k => k = b1) w2).set_ (show b1 = b1 from rfl) _ _
  have hw4 := hwo.chg hcb hne hA1
  have h5 := hw4.err s.e
  have j0 := (k0.far (p := ⟨b1, 0, none⟩) (by show b0 ≠ b1; omega) (.int .i64 s.e)).cell 0
  have j1 := (k1.set_ 0 (.int .i64 s.e)).cell 0
  refine leaves_cons (f := 62) (args := #[.pointer (some ⟨b1, 0, none⟩), .pointer (some ⟨b0, 0, none⟩)]) (by simp) (by simp [go_sem]) ?_
  refine (keeps (x := s.e) j0 j1 (hw4.1.cell 3) (hw4.1.frozen 3)).mono ?_
  rintro e u' w4 ⟨rfl, rfl, rfl⟩
  have j2 := ((k1.set_ 0 (.int .i64 s.e)).far (p := ⟨P, 3, none⟩) (fun e => hne e.symm) (.int .i64 s.e)).cell 0
  have hs := hbl.size
  exact ⟨_, results_cell_int rfl _ _ b1 s.e rfl j2, rfl, A, c, h5.1, fun a ha => .inl ⟨a, ha, rfl⟩, ((Chg.of_below (S := Wset P A) hbl).setN (by omega) 0 _).set_ (.inl rfl) _ _⟩
end Go.Proofs.Ytpfamjgdfcnieaa
