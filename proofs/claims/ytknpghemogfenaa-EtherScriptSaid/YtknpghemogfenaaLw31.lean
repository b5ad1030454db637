/- Chapter 31: an ether that a law has made. -/
import Derived.Test.YtknpghemogfenaaCo31
namespace Go.Proofs.Ytknpghemogfenaa
open Go.Conc Go.RowKit
set_option linter.unusedVariables false
/-- An ether that has been made since w0. -/
def Lw (w0 w : World) (E : Nat) (s : ES) : Prop := Below w0.heap.size w0 w ∧ ∃ base F, Ew w base E s F ∧ ∀ k, F k → w0.heap.size ≤ k ∧ k < w.heap.size
theorem Lw.eto {w0 w w' : World} {E : Nat} {s' : ES} {base : Nat} {F : Nat → Prop} (hb : Below w0.heap.size w0 w) (hF : ∀ k, F k → w0.heap.size ≤ k ∧ k < w.heap.size) (h : Eto w base E s' F w') : Lw w0 w' E s' := by
  obtain ⟨⟨F', h1, h2⟩, hc⟩ := h
  have hs := hc.1.size
  have hs0 := hb.size
  refine ⟨⟨hc.1.os.trans hb.os, hc.1.tape.trans hb.tape, hc.1.output.trans hb.output, Nat.le_trans hs0 hs, fun k hk => (hc.2 k (by omega) fun hf => by have := (hF k hf).1; omega).trans (hb.block k hk)⟩, base, F', h1, fun k hk => ?_⟩
  rcases h2 k hk with e | e
  · have := hF k e; omega
  · omega
theorem Lw.below {w0 w w' : World} {E : Nat} {s : ES} (h : Lw w0 w E s) (hb : Below w.heap.size w w') : Lw w0 w' E s := by
  obtain ⟨h1, base, F, h2, h3⟩ := h
  exact ⟨below_base h1 hb h1.size, base, F, h2.below hb, fun k hk => by have := h3 k hk; have := hb.size; omega⟩
/-- A law sends bytes of a literal. -/
theorem lw_send {w0 wp w : World} {E : Nat} {s : ES} (h : Lw w0 wp E s) (hb : Below wp.heap.size wp w) {a : Addr} {n c : Nat} {x : List UInt8} {d : Int} (hr : Rd w (some a) n (bys x)) (ha : wp.heap.size ≤ a.block) (hn : n ≤ 70000) (hd : d = 0 ∨ d = 1) (hnow : s.now ≤ 1000000) (hnb : s.number ≤ 900000) (hl : s.sky.length ≤ 900000) (hls : s.lost ≤ 900000000) :
    Calls Try.prog 13 #[.pointer (some ⟨E, 0, none⟩), .int .i64 d, .slice (some a) n c] w fun e w' => e = .returned (.int .i64 0) ∧ Lw w0 w' E (s.send d x) := by
  obtain ⟨h1, base, F, h2, h3⟩ := h
  have hb1 := below_base h1 hb h1.size
  refine (send_any (h2.below hb) hr (fun a' ha' _ hF => ?_) hn hd hnow hnb hl (by omega)).mono fun e w' ⟨e1, e2⟩ => ⟨e1, Lw.eto hb1 (fun k hk => ?_) e2⟩
  · cases ha'; have := (h3 _ hF).2; omega
  · have := h3 k hk; have := hb.size; omega
section
variable {w0 w : World} {E : Nat} {s : ES}
theorem lw_flying (h : Lw w0 w E s) : Calls Try.prog 15 #[.pointer (some ⟨E, 0, none⟩)] w fun e w' => e = .returned (.int .i64 (s.sky.length : Nat)) ∧ w' = w := by
  obtain ⟨h1, base, F, ⟨m, m1, m2, _⟩, h3⟩ := h
  rw [← m2.len]
  exact flying_any m1
theorem lw_lost (h : Lw w0 w E s) : Calls Try.prog 17 #[.pointer (some ⟨E, 0, none⟩)] w fun e w' => e = .returned (.int .i64 s.lost) ∧ w' = w := by
  obtain ⟨h1, base, F, ⟨m, m1, m2, _⟩, h3⟩ := h
  rw [← m2.lost]
  exact lost_any m1
theorem lw_now (h : Lw w0 w E s) : Calls Try.prog 23 #[.pointer (some ⟨E, 0, none⟩)] w fun e w' => e = .returned (.int .i64 s.now) ∧ w' = w := by
  obtain ⟨h1, base, F, ⟨m, m1, m2, _⟩, h3⟩ := h
  rw [← m2.now]
  exact now_any m1
theorem lw_comes {want : Int} (h : Lw w0 w E s) (hnow : s.now ≤ 1000000) (hlo : s.lost ≤ 900000000) (hsk : s.sky.length ≤ 900000) : Calls Try.prog 14 #[.pointer (some ⟨E, 0, none⟩), .int .i64 want] w fun e w' => e = .returned (.bool ((s.tickN : Int) == want)) ∧ Lw w0 w' E s.tick := by
  obtain ⟨h1, base, F, h2, h3⟩ := h
  exact (comes_any h2 hnow hlo hsk).mono fun e w' ⟨e1, e2⟩ => ⟨e1, Lw.eto h1 h3 e2⟩
end
theorem lw_gets {w0 wp w : World} {E : Nat} {s : ES} (h : Lw w0 wp E s) (hb : Below wp.heap.size wp w) {d err : Int} (hd : d = 0 ∨ d = 1) {x : List UInt8} {r : List (List UInt8)} (hbx : s.box d = x :: r) {a : Addr} {n c : Nat} {y : List UInt8} (hr : Rd w (some a) n (bys y)) (ha : wp.heap.size ≤ a.block) (herr : err = 0) :
    Calls Try.prog 16 #[.pointer (some ⟨E, 0, none⟩), .int .i64 d, .int .i64 err, .slice (some a) n c] w fun e w' => e = .returned (.bool (x == y)) ∧ Lw w0 w' E (s.got d) := by
  obtain ⟨h1, base, F, h2, h3⟩ := h
  have hb1 := below_base h1 hb h1.size
  refine (gets_some (h2.below hb) hd hbx hr (fun a' ha' _ hF => ?_) herr).mono fun e w' ⟨e1, ⟨F', g1, g2⟩, hc⟩ => ⟨e1, Lw.eto (s' := s.got d) hb1 (fun k hk => ?_) ⟨⟨F', g1, fun k hk => .inl (g2 k hk)⟩, hc⟩⟩
  · cases ha'; have := (h3 _ hF).2; omega
  · have := h3 k hk; have := hb.size; omega
theorem lw_gets_none {w0 w : World} {E : Nat} {s : ES} (h : Lw w0 w E s) {d err : Int} (hd : d = 0 ∨ d = 1) (hbx : s.box d = []) (herr : err = 14) :
    Calls Try.prog 16 #[.pointer (some ⟨E, 0, none⟩), .int .i64 d, .int .i64 err, .slice none 0 0] w fun e w' => e = .returned (.bool true) ∧ w' = w := by
  obtain ⟨h1, base, F, h2, h3⟩ := h
  exact gets_none h2 hd hbx herr
end Go.Proofs.Ytknpghemogfenaa
