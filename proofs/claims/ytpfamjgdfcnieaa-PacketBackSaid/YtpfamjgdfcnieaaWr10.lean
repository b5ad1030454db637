/- octet's writers: lay, does. -/
import Derived.Test.YtpfamjgdfcnieaaRe10
import Derived.Defers
namespace Go.Proofs.Ytpfamjgdfcnieaa
open Go.RowKit
set_option linter.unusedVariables false
/-- A writer in memory; its bytes are its own. -/
def Wo (w : World) (base P : Nat) (A : Option Addr) (c : Nat) (s : WS) : Prop :=
  Bk w P 74 [.slice A s.b.length c, .bool true, .int .i64 s.m, .int .i64 s.e] ∧ w.ownsRow base 5 1 (.slice A s.b.length c) s.b.length (bys s.b) ∧ (∀ a, A = some a → a.block ≠ P) ∧ base ≤ w.heap.size ∧ 0 ≤ s.m ∧ s.m ≤ 100000 ∧ (s.b.length : Int) ≤ s.m
theorem Wo.below {w w' : World} {base P c : Nat} {A : Option Addr} {s : WS} (h : Wo w base P A c s) (hb : Below w.heap.size w w') : Wo w' base P A c s := ⟨h.1.belowS hb, own_below h.2.1 hb, h.2.2.1, Nat.le_trans h.2.2.2.1 hb.size, h.2.2.2.2⟩
theorem Wo.chg {w w' : World} {S : Nat → Prop} {base P c : Nat} {A : Option Addr} {s : WS} (h : Wo w base P A c s) (hc : Chg S w w') (h1 : ¬ S P) (h2 : ∀ a, A = some a → ¬ S a.block) : Wo w' base P A c s :=
  ⟨hc.bk h.1 h1, hc.own h.2.1 h2, h.2.2.1, Nat.le_trans h.2.2.2.1 hc.size, h.2.2.2.2⟩
theorem Wo.err {w : World} {base P c : Nat} {A : Option Addr} {s : WS} (h : Wo w base P A c s) (e : Int) :
    Wo (w.setCell ⟨P, 3, none⟩ (.int .i64 e)) base P A c ⟨s.m, s.b, e⟩ ∧ Chg (fun k => k = P) w (w.setCell ⟨P, 3, none⟩ (.int .i64 e)) := by
  have hc : Chg (fun k => k = P) w (w.setCell ⟨P, 3, none⟩ (.int .i64 e)) := (Chg.refl (fun k => k = P) w).set_ (show P = P from rfl) _ _
  exact ⟨⟨h.1.set_ 3 _, hc.own h.2.1 h.2.2.1, h.2.2.1, Nat.le_trans h.2.2.2.1 hc.size, h.2.2.2.2⟩, hc⟩
/-- The blocks that a writer may write. -/
def Wset (P : Nat) (A : Option Addr) (k : Nat) : Prop := k = P ∨ ∃ a, A = some a ∧ a.block = k
def LyPost (w : World) (base P : Nat) (A : Option Addr) (x : Int) (s : WS) (e : Ending) (w' : World) : Prop :=
  e = .returned (.int .i64 x) ∧ ∃ A' c', Wo w' base P A' c' s ∧ (∀ a, A' = some a → (∃ b, A = some b ∧ a.block = b.block) ∨ w.heap.size ≤ a.block) ∧ Chg (Wset P A) w w'
theorem own_block (A : Option Addr) (n c : Nat) : (Value.slice A n c).ownBlock = A.map (·.block) := by cases A <;> rfl
theorem app_facts {wd w1 : World} {P : Nat} {t : TypeId} {cs : List Value} {A A' : Option Addr} {L N c c' : Nat} (hk : Bk wd P t cs) (hA : ∀ a, A = some a → a.block ≠ P) (hg : wd.grownBy w1 (Value.slice A L c).ownBlock)
    (hat : (Value.slice A' N c').ownBlock = (Value.slice A L c).ownBlock ∨ (Value.slice A' N c').ownBlock = some wd.heap.size) :
    Bk w1 P t cs ∧ (∀ a, A' = some a → a.block ≠ P ∧ ((∃ b, A = some b ∧ a.block = b.block) ∨ wd.heap.size ≤ a.block)) ∧ Chg (fun k => ∃ a, A = some a ∧ a.block = k) wd w1 := by
  rw [own_block, own_block] at hat
  rw [own_block] at hg
  refine ⟨hk.grown hg fun e => ?_, fun a ha => ?_, Chg.of_grown hg fun k hk => ?_⟩
  · rcases A with _ | a
    · cases e
    · injection e with e; exact hA a rfl e.symm
  · subst ha
    rcases hat with e | e
    · rcases A with _ | b
      · cases e
      · injection e with e
        replace e : a.block = b.block := e
        exact ⟨by rw [e]; exact hA b rfl, .inl ⟨b, rfl, e⟩⟩
    · injection e with e
      replace e : a.block = wd.heap.size := e
      have := hk.lt
      exact ⟨by omega, .inr (by omega)⟩
  · rcases A with _ | a
    · cases hk
    · injection hk with e; exact ⟨a, rfl, e⟩
theorem lay_done {w wd w1 : World} {base P c c' : Nat} {A A' : Option Addr} {s : WS} {l : List UInt8} {L n : Nat} (h : Wo wd base P A c s) (hb : Below w.heap.size w wd) (hL : s.b.length = L) (hl : l.length = n) (hm : (L : Int) + n ≤ s.m)
    (hown : w1.ownsRow base 5 1 (.slice A' (L + n) c') (L + n) (bys (s.b ++ l)))
    (hf : Bk w1 P 74 [.slice A s.b.length c, .bool true, .int .i64 s.m, .int .i64 s.e] ∧ (∀ a, A' = some a → a.block ≠ P ∧ ((∃ b, A = some b ∧ a.block = b.block) ∨ wd.heap.size ≤ a.block)) ∧ Chg (fun k => ∃ a, A = some a ∧ a.block = k) wd w1) :
    Wo (w1.setCell ⟨P, 0, none⟩ (.slice A' (L + n) c')) base P A' c' ⟨s.m, s.b ++ l, s.e⟩ ∧ (∀ a, A' = some a → (∃ b, A = some b ∧ a.block = b.block) ∨ w.heap.size ≤ a.block) ∧ Chg (Wset P A) w (w1.setCell ⟨P, 0, none⟩ (.slice A' (L + n) c')) := by
  obtain ⟨f1, f2, f3⟩ := hf
  have hlen : (s.b ++ l).length = L + n := by simp [hL, hl]
  have hc : Chg (fun k => k = P) w1 (w1.setCell ⟨P, 0, none⟩ (.slice A' (L + n) c')) := (Chg.refl (fun k => k = P) w1).set_ (show P = P from rfl) _ _
  have hw := hb.size
  have h1 := f3.size
  have h2 := hc.size
  have h3 := h.2.2.2.1
  refine ⟨⟨?_, ?_, fun a ha => (f2 a ha).1, by omega, h.2.2.2.2.1, h.2.2.2.2.2.1, ?_⟩, fun a ha => ?_, ?_⟩
  · have := f1.set_ 0 (.slice A' (L + n) c')
    show Bk _ _ _ [.slice A' (s.b ++ l).length c', _, _, _]
    rw [hlen]; exact this
  · show World.ownsRow _ base 5 1 (.slice A' (s.b ++ l).length c') (s.b ++ l).length _
    rw [hlen]
    exact hc.own hown fun a ha => (f2 a ha).1
  · show ((s.b ++ l).length : Int) ≤ s.m
    rw [hlen]; omega
  · rcases (f2 a ha).2 with e | e
    · exact .inl e
    · exact .inr (by omega)
  · refine ((Chg.of_below (S := Wset P A) hb).trans f3 fun k _ e => .inr e).trans hc fun k _ e => .inl e
set_option maxRecDepth 100000 in
set_option maxHeartbeats 2000000 in
/-- lay -/
theorem lay_any {w : World} {base P c : Nat} {A : Option Addr} {s : WS} (h : Wo w base P A c s) {B : Option Addr} {n d : Nat} {l : List UInt8} (hr : Rd w B n (bys l)) (hn : n ≤ 140737488351232) :
    Calls Try.prog 53 #[.pointer (some ⟨P, 0, none⟩), .slice B n d] w (LyPost w base P A (s.lay l).e ⟨s.m, (s.lay l).b, s.e⟩) := by
  have hl : l.length = n := by have := hr.1; simpa [bys_length] using this
  have H := Lib.hid h
  have HR := Lib.hid (And.intro hr hl)
  have c0 := h.1.cell 0
  have c2 := h.1.cell 2
  obtain ⟨_, _, _, hbs, hm0, hm1, hbl⟩ := h
  obtain ⟨L, hL⟩ : ∃ L, s.b.length = L := ⟨_, rfl⟩
  obtain ⟨m, hm⟩ : ∃ m, s.m = m := ⟨_, rfl⟩
  rw [hL] at c0 hbl
  rw [hm] at c2 hm0 hm1 hbl
  have HL := Lib.hid (And.intro hL hm)
  have hwr : IntKind.i64.wrap ((L : Int) + n) = (L : Int) + n := by rw [IntKind.wrap_i64]; omega
  clear hr hl hL hm
  by_cases hs : m < (L : Int) + n
  · have d1 : decide ((L : Int) + n > m) = true := by simpa using hs
    have d2 : decide (m < (L : Int) + n) = true := by simpa using hs
    have HS := Lib.hid (show s.lay l = ⟨s.m, s.b, 4⟩ from by unfold WS.lay; rw [if_pos (by rw [HL.out.1, HL.out.2, HR.out.2]; exact hs)])
    clear hs
    go_enter Try.func53, Try.ntmps53
    go_wp2_with fail
    go_quiet (fail)
    go_wp2
    go_ret
    rw [HS.out]
    have hb := below_dN (Below.refl w.heap.size w) nq
    exact ⟨rfl, A, c, H.out.below hb, fun a ha => .inl ⟨a, ha, rfl⟩, Chg.of_below hb⟩
  · have d1 : decide ((L : Int) + n > m) = false := by simpa using hs
    have d2 : decide (m < (L : Int) + n) = false := by simpa using hs
    have hs2 : (L : Int) + n ≤ 100000 := by omega
    have HS := Lib.hid (And.intro (show s.lay l = ⟨s.m, s.b ++ l, 0⟩ from by unfold WS.lay; rw [if_neg (by rw [HL.out.1, HL.out.2, HR.out.2]; exact hs)]) hs)
    clear hs
    go_enter Try.func53, Try.ntmps53
    go_wp2_with fail
    go_quiet (fail)
    have hb := below_dN (Below.refl w.heap.size w) nq
    have C0 : (w.drewN nq).cell? ⟨P, 0, none⟩ = some (.slice A L c) := c0
    have H2 := Lib.hid (And.intro (H.out.below hb) (And.intro (HR.out.1.below hb) hb))
    clear hb c0 c2 d1 d2
    generalize w.drewN nq = wd at C0 H2 ⊢
    obtain ⟨i0, hi0, hz0, hz1, hz2⟩ := info_parts u8_info
    have hown := H2.out.1.2.1
    have hbd := H2.out.1.2.2.2.1
    rw [HL.out.1] at hown
    have HO := Lib.hid (And.intro hown hbd)
    clear hown hbd
    go_wp2_with (at_builtin; refine wpList_append_rd _ rfl (.tmp 24) (.tmp 25) _ rfl base 5 i0 _ 1 1 Try.underlying22 hi0 hz0 hz1 hz2 rfl (by omega) _ L (bys s.b) rfl HO.out.1 B n d (bys l) rfl (by rw [Nat.mul_one]; exact H2.out.2.1) (bys_one l) (by simp only [maxLen]; omega) (by omega) HO.out.2 ?_; intro v1 w1 hown1 hg1 hat1; rw [← bys_append] at hown1; obtain ⟨A', c', rfl, hd, hd2, hd3, hB⟩ := own_form hown1; have hf := app_facts H2.out.1.1 H2.out.1.2.2.1 hg1 hat1; have C1 := hf.1.cell 0; have F1 := hf.1.frozen 0; have HF := Lib.hid (And.intro hown1 hf); clear hown1 hg1 hat1 hd hd2 hd3 hB hf)
    go_ret
    rw [HS.out.1]
    have hd := lay_done H2.out.1 H2.out.2.2 HL.out.1 HR.out.2 (by rw [HL.out.2]; have := HS.out.2; omega) HF.out.1 HF.out.2
    exact ⟨rfl, A', c', hd.1, hd.2.1, hd.2.2⟩
end Go.Proofs.Ytpfamjgdfcnieaa
