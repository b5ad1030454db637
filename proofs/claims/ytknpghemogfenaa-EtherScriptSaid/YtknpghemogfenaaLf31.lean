/- Chapter 31: an ether that a law has made, beside memory of the law's own. -/
import Derived.Test.YtknpghemogfenaaAv31
namespace Go.Proofs.Ytknpghemogfenaa
open Go.Conc Go.RowKit
set_option linter.unusedVariables false
/-- An ether, made since w0, in the blocks of F. -/
def Lf (w0 w : World) (E : Nat) (s : ES) (F : Nat → Prop) : Prop := (∃ base, Ew w base E s F) ∧ (∀ k, F k → w0.heap.size ≤ k ∧ k < w.heap.size) ∧ w0.heap.size ≤ w.heap.size
/-- What a deed of it leaves. -/
def Deed (w0 : World) (E : Nat) (F : Nat → Prop) (s' : ES) (w w' : World) : Prop := ∃ F', Lf w0 w' E s' F' ∧ (∀ k, F' k → F k ∨ w.heap.size ≤ k) ∧ Chg F w w'
section
variable {w0 w w' : World} {E : Nat} {s s' : ES} {F : Nat → Prop}
theorem Lf.ok (h : Lf w0 w E s F) : s.ok := by obtain ⟨⟨base, m, _, _, h3, _⟩, _⟩ := h; exact h3
theorem Lf.eto {base : Nat} (hF : ∀ k, F k → w0.heap.size ≤ k ∧ k < w.heap.size) (hs : w0.heap.size ≤ w.heap.size) (h : Eto w base E s' F w') : Deed w0 E F s' w w' := by
  obtain ⟨⟨F', h1, h2⟩, hc⟩ := h
  have hz := hc.size
  refine ⟨F', ⟨⟨base, h1⟩, fun k hk => ?_, by omega⟩, fun k hk => (h2 k hk).imp id And.left, hc⟩
  rcases h2 k hk with e | e
  · have := hF k e; omega
  · omega
theorem Lf.other {S : Nat → Prop} (h : Lf w0 w E s F) (hc : Chg S w w') (hS : ∀ k, F k → ¬ S k) : Lf w0 w' E s F := by
  obtain ⟨⟨base, h1⟩, h2, h3⟩ := h
  have hz := hc.size
  exact ⟨⟨base, h1.other hc hS⟩, fun k hk => by have := h2 k hk; omega, by omega⟩
theorem Lf.below (h : Lf w0 w E s F) (hb : Below w.heap.size w w') : Lf w0 w' E s F := by
  obtain ⟨⟨base, h1⟩, h2, h3⟩ := h
  have hz := hb.size
  exact ⟨⟨base, h1.below hb⟩, fun k hk => by have := h2 k hk; omega, by omega⟩
theorem lf_send (h : Lf w0 w E s F) {A : Option Addr} {n c : Nat} {x : List UInt8} {d : Int} (hr : Rd w A n (bys x)) (ha : 0 < n → ∀ a, A = some a → a.block < w0.heap.size) (hn : n ≤ 70000) (hd : d = 0 ∨ d = 1) (hnow : s.now ≤ 1000000) (hnb : s.number ≤ 900000) (hl : s.sky.length ≤ 900000) (hls : s.lost ≤ 900000000) :
    Calls Try.prog 13 #[.pointer (some ⟨E, 0, none⟩), .int .i64 d, .slice A n c] w fun e w' => e = .returned (.int .i64 0) ∧ Deed w0 E F (s.send d x) w w' := by
  obtain ⟨⟨base, h1⟩, h2, h3⟩ := h
  refine (send_any h1 hr (fun a' ha' h0 hF => ?_) hn hd hnow hnb hl (by omega)).mono fun e w' ⟨e1, e2⟩ => ⟨e1, Lf.eto h2 h3 e2⟩
  have := (h2 _ hF).1; have := ha h0 _ ha'; omega
theorem lf_tick (h : Lf w0 w E s F) (hnow : s.now ≤ 1000000) (hlo : s.lost ≤ 900000000) (hsk : s.sky.length ≤ 900000) :
    Calls Try.prog 19 #[.pointer (some ⟨E, 0, none⟩)] w fun e w' => e = .returned (.tuple #[.int .i64 (s.tickN : Nat), .int .i64 0]) ∧ Deed w0 E F s.tick w w' := by
  obtain ⟨⟨base, h1⟩, h2, h3⟩ := h
  exact (tick_any h1 hnow hlo hsk).mono fun e w' ⟨e1, e2⟩ => ⟨e1, Lf.eto h2 h3 e2⟩
theorem lf_comes {want : Int} (h : Lf w0 w E s F) (hn : ((s.tickN : Int) == want) = true) (hnow : s.now ≤ 1000000) (hlo : s.lost ≤ 900000000) (hsk : s.sky.length ≤ 900000) :
    Calls Try.prog 14 #[.pointer (some ⟨E, 0, none⟩), .int .i64 want] w fun e w' => e = .returned (.bool true) ∧ Deed w0 E F s.tick w w' := by
  obtain ⟨⟨base, h1⟩, h2, h3⟩ := h
  exact (comes_any h1 hnow hlo hsk).mono fun e w' ⟨e1, e2⟩ => ⟨by rw [e1, hn], Lf.eto h2 h3 e2⟩
theorem lf_get (h : Lf w0 w E s F) {d : Int} (hd : d = 0 ∨ d = 1) {x : List UInt8} {r : List (List UInt8)} (hbx : s.box d = x :: r) :
    Calls Try.prog 20 #[.pointer (some ⟨E, 0, none⟩), .int .i64 d] w fun e w' => ∃ A n c, e = .returned (.tuple #[.slice A n c, .int .i64 0]) ∧ Rd w' A n (bys x) ∧ n ≤ 70000 ∧ (∀ a, A = some a → F a.block) ∧ ∃ F', Lf w0 w' E (s.got d) F' ∧ (∀ k, F' k → F k) ∧ (∀ a, A = some a → ¬ F' a.block) ∧ Chg F w w' := by
  obtain ⟨⟨base, h1⟩, h2, h3⟩ := h
  refine (get_some h1 hd hbx).mono ?_
  rintro e w' ⟨A, n, c, rfl, hp, ⟨F', g1, g2, g3⟩, hc⟩
  have hz := hc.size
  exact ⟨A, n, c, rfl, hp.rd, hp.2, fun a ha => (g3 _ (mem_blk.2 ⟨a, ha, rfl⟩)).2, F', ⟨⟨base, g1⟩, fun k hk => by have := h2 k (g2 k hk); omega, by omega⟩, g2, fun a ha => (g3 _ (mem_blk.2 ⟨a, ha, rfl⟩)).1, hc⟩
theorem lf_get_none (h : Lf w0 w E s F) {d : Int} (hd : d = 0 ∨ d = 1) (hbx : s.box d = []) :
    Calls Try.prog 20 #[.pointer (some ⟨E, 0, none⟩), .int .i64 d] w fun e w' => e = .returned (.tuple #[.slice none 0 0, .int .i64 14]) ∧ w' = w := by
  obtain ⟨⟨base, h1⟩, h2, h3⟩ := h
  exact get_none h1 hd hbx
theorem lf_gets (h : Lf w0 w E s F) {d err : Int} (hd : d = 0 ∨ d = 1) {x : List UInt8} {r : List (List UInt8)} (hbx : s.box d = x :: r) {A : Option Addr} {n c : Nat} (hr : Rd w A n (bys x)) (ha : 0 < n → ∀ a, A = some a → a.block < w0.heap.size) (herr : err = 0) :
    Calls Try.prog 16 #[.pointer (some ⟨E, 0, none⟩), .int .i64 d, .int .i64 err, .slice A n c] w fun e w' => e = .returned (.bool true) ∧ Deed w0 E F (s.got d) w w' := by
  obtain ⟨⟨base, h1⟩, h2, h3⟩ := h
  refine (gets_some h1 hd hbx hr (fun a' ha' h0 hF => ?_) herr).mono fun e w' ⟨e1, ⟨F', g1, g2⟩, hc⟩ => ⟨by simpa using e1, Lf.eto (base := base) h2 h3 ⟨⟨F', g1, fun k hk => .inl (g2 k hk)⟩, hc⟩⟩
  have := (h2 _ hF).1; have := ha h0 _ ha'; omega
theorem lf_gets_none (h : Lf w0 w E s F) {d err : Int} (hd : d = 0 ∨ d = 1) (hbx : s.box d = []) (herr : err = 14) :
    Calls Try.prog 16 #[.pointer (some ⟨E, 0, none⟩), .int .i64 d, .int .i64 err, .slice none 0 0] w fun e w' => e = .returned (.bool true) ∧ w' = w := by
  obtain ⟨⟨base, h1⟩, h2, h3⟩ := h
  exact gets_none h1 hd hbx herr
theorem lf_flying (h : Lf w0 w E s F) : Calls Try.prog 15 #[.pointer (some ⟨E, 0, none⟩)] w fun e w' => e = .returned (.int .i64 (s.sky.length : Nat)) ∧ w' = w := by
  obtain ⟨⟨base, m, m1, m2, _⟩, _⟩ := h
  rw [← m2.len]
  exact flying_any m1
theorem lf_lost (h : Lf w0 w E s F) : Calls Try.prog 17 #[.pointer (some ⟨E, 0, none⟩)] w fun e w' => e = .returned (.int .i64 s.lost) ∧ w' = w := by
  obtain ⟨⟨base, m, m1, m2, _⟩, _⟩ := h
  rw [← m2.lost]
  exact lost_any m1
theorem lf_now (h : Lf w0 w E s F) : Calls Try.prog 23 #[.pointer (some ⟨E, 0, none⟩)] w fun e w' => e = .returned (.int .i64 s.now) ∧ w' = w := by
  obtain ⟨⟨base, m, m1, m2, _⟩, _⟩ := h
  rw [← m2.now]
  exact now_any m1
def ES.wait (s : ES) (d : Int) : Nat := if d = 0 then s.b0.length else if d = 1 then s.b1.length else 0
theorem lf_waiting (h : Lf w0 w E s F) (d : Int) : Calls Try.prog 29 #[.pointer (some ⟨E, 0, none⟩), .int .i64 d] w fun e w' => e = .returned (.int .i64 (s.wait d : Nat)) ∧ w' = w := by
  obtain ⟨⟨base, m, m1, m2, _⟩, _⟩ := h
  have e0 : m.b0.length = s.b0.length := by rw [← m2.b0]; simp
  have e1 : m.b1.length = s.b1.length := by rw [← m2.b1]; simp
  have : s.wait d = waitN m d := by unfold ES.wait waitN; rw [e0, e1]
  rw [this]
  exact waiting_any m1 d
end
/-- New's ether, with its blocks. -/
theorem lf_new {w0 w : World} {A B : Option Addr} {c d : Nat} {fl : List FT} {sl : List SY} (hb : w0.heap.size ≤ w.heap.size) (hF : Rd w A (fl.length * 4) (fcs fl)) (hS : Rd w B (sl.length * 3) (ycs sl)) (hA : At0 A) (hB : At0 B) (hX : ∀ y ∈ sl, Rd w y.A y.n (bys y.x)) (hfl : fl.length ≤ 100000) (hsl : sl.length ≤ 100000) (h0 : newE fl sl = 0) :
    Calls Try.prog 11 #[.slice A fl.length c, .slice B sl.length d] w fun e w' => ∃ E, e = .returned (.tuple #[.pointer (some ⟨E, 0, none⟩), .int .i64 0]) ∧ Below w.heap.size w w' ∧ ∃ F, Lf w0 w' E (ES.new fl sl) F ∧ ∀ k, F k → w.heap.size ≤ k := by
  refine (new_any hF hS hA hB hX hfl hsl).mono ?_
  rintro e w1 ⟨hb1, ⟨h2, _⟩ | ⟨_, E, rfl, h1⟩⟩
  · rw [h0] at h2; exact absurd h2 (by decide)
  · exact ⟨E, rfl, hb1, _, ⟨⟨_, h1⟩, fun k hk => ⟨Nat.le_trans hb hk.1, hk.2⟩, Nat.le_trans hb hb1.size⟩, fun k hk => hk.1⟩
end Go.Proofs.Ytknpghemogfenaa
