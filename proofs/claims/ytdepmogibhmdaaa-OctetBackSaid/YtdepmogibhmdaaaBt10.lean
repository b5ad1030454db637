/- octet's writers: Bytes, NewWriter; the document's writers: NewWriter, Raw, Bytes. -/
import Derived.Test.YtdepmogibhmdaaaPu10
namespace Go.Proofs.Ytdepmogibhmdaaa
open Go.RowKit
set_option linter.unusedVariables false
def WS.out (s : WS) : List UInt8 := if s.e = 0 then s.b else []
def BtPost (w : World) (s : WS) (e : Ending) (w' : World) : Prop :=
  ∃ v, e = .returned (.tuple #[v, .int .i64 s.e]) ∧ w'.ownsRow w.heap.size 5 1 v s.out.length (bys s.out) ∧ Below w.heap.size w w'
/-- (*Writer).Bytes -/
theorem bytesW_any {w : World} {base P c : Nat} {A : Option Addr} {s : WS} (h : Wo w base P A c s) :
    Calls Try.prog 13 #[.pointer (some ⟨P, 0, none⟩)] w (BtPost w s) := by
  have H := Lib.hid h
  have c0 := h.1.cell 0
  have c3 := h.1.cell 3
  clear h
  by_cases he : s.e = 0
  · rw [he] at c3
    have HE := Lib.hid (And.intro he (show s.out = s.b from by unfold WS.out; rw [if_pos he]))
    clear he
    go_enter Try.func13, Try.ntmps13
    go_wp2_with fail
    refine (noneW_made H.out).mono ?_
    rintro e w3 ⟨rfl, rfl⟩
    go_wp2_with fail
    refine (clone_any (Rd.of_own H.out.2.1) (by have := H.out.2.2.2.2.2; omega)).mono ?_
    rintro e w3 ⟨v, rfl, hown, hb⟩
    have H3 := Lib.hid (And.intro hown hb)
    clear hown hb
    go_wp2
    go_ret2
    exact ⟨v, by rw [HE.out.1]; rfl, by rw [HE.out.2]; exact H3.out.1, H3.out.2⟩
  · have d1 : (s.e != 0) = true := by simpa using he
    have HE := Lib.hid (show s.out = [] from by unfold WS.out; rw [if_neg he])
    clear he
    go_enter Try.func13, Try.ntmps13
    go_wp2_with fail
    refine (noneW_made H.out).mono ?_
    rintro e w3 ⟨rfl, rfl⟩
    go_wp2_with fail
    go_quiet (fail)
    go_wp2
    go_ret2
    exact ⟨_, rfl, by rw [HE.out]; exact World.ownsRow_nil _ _ _ _, below_dN (Below.refl _ _) _⟩
/-- What NewWriter tells. -/
def NwPost (w : World) (m : Int) (e : Ending) (w' : World) : Prop :=
  if m < 0 ∨ 100000 < m then e = .returned (.tuple #[.pointer none, .int .i64 2]) ∧ w' = w
  else ∃ P, e = .returned (.tuple #[.pointer (some ⟨P, 0, none⟩), .int .i64 0]) ∧ Wo w' w.heap.size P none 0 ⟨m, [], 0⟩ ∧ w.heap.size ≤ P ∧ Below w.heap.size w w'
theorem nw_no {w : World} {m : Int} (h : m < 0 ∨ 100000 < m) : NwPost w m (.returned (.tuple #[.pointer none, .int .i64 2])) w := by unfold NwPost; rw [if_pos h]; exact ⟨rfl, rfl⟩
theorem newW_any {w : World} (m : Int) : Calls Try.prog 9 #[.int .i64 m] w (NwPost w m) := by
  by_cases h0 : m < 0
  · have d1 : decide (m < 0) = true := by simpa using h0
    have HN := Lib.hid (nw_no (w := w) (.inl h0))
    clear h0
    go_enter Try.func9, Try.ntmps9
    go_wp2
    go_ret2
    exact HN.out
  · have d1 : decide (m < 0) = false := by simpa using h0
    by_cases h1 : 100000 < m
    · have d2 : decide (m > 100000) = true := by simpa using h1
      have d3 : decide (100000 < m) = true := by simpa using h1
      have HN := Lib.hid (nw_no (w := w) (.inr h1))
      clear h0 h1
      go_enter Try.func9, Try.ntmps9
      go_wp2
      go_ret2
      exact HN.out
    · have d2 : decide (m > 100000) = false := by simpa using h1
      have d3 : decide (100000 < m) = false := by simpa using h1
      have HN := Lib.hid (And.intro h0 h1)
      clear h0 h1
      go_enter Try.func9, Try.ntmps9
      go_wp2
      go_ret2
      unfold NwPost
      rw [if_neg (by have := HN.out; omega)]
      have hb := (Below.refl w.heap.size w).alloc (Nat.le_refl _) (.cells #[.slice none 0 0, .bool true, .int .i64 m, .int .i64 0] 56)
      exact ⟨w.heap.size, rfl, ⟨Bk.newA w _ _, World.ownsRow_nil _ _ _ _, fun a ha => (by cases ha), hb.size, by have := HN.out; show 0 ≤ m; omega, by have := HN.out; show m ≤ 100000; omega, by have := HN.out; show ((([] : List UInt8).length : Nat) : Int) ≤ m; simp; omega⟩, Nat.le_refl _, hb⟩
/-- A writer of the document in memory. -/
def Wf (w : World) (base P : Nat) (A : Option Addr) (c : Nat) (s : WS) : Prop :=
  Bk w P 69 [.int .i64 s.m, .slice A s.b.length c, .int .i64 s.e] ∧ w.ownsRow base 5 1 (.slice A s.b.length c) s.b.length (bys s.b) ∧ (∀ a, A = some a → a.block ≠ P) ∧ base ≤ w.heap.size ∧ 0 ≤ s.m ∧ s.m ≤ 100000 ∧ (s.b.length : Int) ≤ s.m
theorem Wf.below {w w' : World} {base P c : Nat} {A : Option Addr} {s : WS} (h : Wf w base P A c s) (hb : Below w.heap.size w w') : Wf w' base P A c s := ⟨h.1.belowS hb, own_below h.2.1 hb, h.2.2.1, Nat.le_trans h.2.2.2.1 hb.size, h.2.2.2.2⟩
theorem Wf.chg {w w' : World} {S : Nat → Prop} {base P c : Nat} {A : Option Addr} {s : WS} (h : Wf w base P A c s) (hc : Chg S w w') (h1 : ¬ S P) (h2 : ∀ a, A = some a → ¬ S a.block) : Wf w' base P A c s :=
  ⟨hc.bk h.1 h1, hc.own h.2.1 h2, h.2.2.1, Nat.le_trans h.2.2.2.1 hc.size, h.2.2.2.2⟩
theorem Wf.err {w : World} {base P c : Nat} {A : Option Addr} {s : WS} (h : Wf w base P A c s) (e : Int) :
    Wf (w.setCell ⟨P, 2, none⟩ (.int .i64 e)) base P A c ⟨s.m, s.b, e⟩ ∧ Chg (Wset P A) w (w.setCell ⟨P, 2, none⟩ (.int .i64 e)) := by
  have hc : Chg (fun k => k = P) w (w.setCell ⟨P, 2, none⟩ (.int .i64 e)) := (Chg.refl (fun k => k = P) w).set_ (show P = P from rfl) _ _
  exact ⟨⟨h.1.set_ 2 _, hc.own h.2.1 h.2.2.1, h.2.2.1, Nat.le_trans h.2.2.2.1 hc.size, h.2.2.2.2⟩, hc.mono fun k _ e => .inl e⟩
def LfPost (w : World) (base P : Nat) (A : Option Addr) (x : Int) (s : WS) (e : Ending) (w' : World) : Prop :=
  e = .returned (.int .i64 x) ∧ ∃ A' c', Wf w' base P A' c' s ∧ (∀ a, A' = some a → (∃ b, A = some b ∧ a.block = b.block) ∨ w.heap.size ≤ a.block) ∧ Chg (Wset P A) w w'
theorem layF_done {w wd w1 : World} {base P c c' : Nat} {A A' : Option Addr} {s : WS} {l : List UInt8} {L n : Nat} (h : Wf wd base P A c s) (hb : Below w.heap.size w wd) (hL : s.b.length = L) (hl : l.length = n) (hm : (L : Int) + n ≤ s.m)
    (hown : w1.ownsRow base 5 1 (.slice A' (L + n) c') (L + n) (bys (s.b ++ l)))
    (hf : Bk w1 P 69 [.int .i64 s.m, .slice A s.b.length c, .int .i64 s.e] ∧ (∀ a, A' = some a → a.block ≠ P ∧ ((∃ b, A = some b ∧ a.block = b.block) ∨ wd.heap.size ≤ a.block)) ∧ Chg (fun k => ∃ a, A = some a ∧ a.block = k) wd w1) :
    Wf (w1.setCell ⟨P, 1, none⟩ (.slice A' (L + n) c')) base P A' c' ⟨s.m, s.b ++ l, s.e⟩ ∧ (∀ a, A' = some a → (∃ b, A = some b ∧ a.block = b.block) ∨ w.heap.size ≤ a.block) ∧ Chg (Wset P A) w (w1.setCell ⟨P, 1, none⟩ (.slice A' (L + n) c')) := by
  obtain ⟨f1, f2, f3⟩ := hf
  have hlen : (s.b ++ l).length = L + n := by simp [hL, hl]
  have hc : Chg (fun k => k = P) w1 (w1.setCell ⟨P, 1, none⟩ (.slice A' (L + n) c')) := (Chg.refl (fun k => k = P) w1).set_ (show P = P from rfl) _ _
  have hw := hb.size
  have h1 := f3.size
  have h2 := hc.size
  have h3 := h.2.2.2.1
  refine ⟨⟨?_, ?_, fun a ha => (f2 a ha).1, by omega, h.2.2.2.2.1, h.2.2.2.2.2.1, ?_⟩, fun a ha => ?_, ?_⟩
  · have := f1.set_ 1 (.slice A' (L + n) c')
    show Bk _ _ _ [_, .slice A' (s.b ++ l).length c', _]
    rw [hlen]; exact this
  · show World.ownsRow _ base 5 1 (.slice A' (s.b ++ l).length c') (s.b ++ l).length _
    rw [hlen]
    exact hc.own hown fun a ha => (f2 a ha).1
  · show ((s.b ++ l).length : Int) ≤ s.m
    rw [hlen]; omega
  · rcases (f2 a ha).2 with e | e
    · exact .inl e
    · exact .inr (by omega)
  · refine ((Chg.of_below (S := Wset P A) hb).trans f3 fun k _ e => .inr e).trans hc fun k _ e => .inl e
set_option maxRecDepth 100000 in
set_option maxHeartbeats 2000000 in
/-- Raw -/
theorem rawWf_any {w : World} {base P c : Nat} {A : Option Addr} {s : WS} (h : Wf w base P A c s) {B : Option Addr} {n d : Nat} {l : List UInt8} (hr : Rd w B n (bys l)) (hn : n ≤ 140737488351232) :
    Calls Try.prog 34 #[.pointer (some ⟨P, 0, none⟩), .slice B n d] w (LfPost w base P A (s.raw l).e (s.raw l)) := by
  have hl : l.length = n := by have := hr.1; simpa [bys_length] using this
  have H := Lib.hid h
  have HR := Lib.hid (And.intro hr hl)
  have c1 := h.1.cell 1
  have c0 := h.1.cell 0
  have c2 := h.1.cell 2
  have f2 := h.1.frozen 2
  obtain ⟨_, _, _, hbs, hm0, hm1, hbl⟩ := h
  by_cases he : s.e = 0
  · rw [he] at c2
    have HE := Lib.hid (And.intro he (show s.raw l = s.lay l from by unfold WS.raw; rw [if_neg (by simpa using he)]))
    clear he
    obtain ⟨L, hL⟩ : ∃ L, s.b.length = L := ⟨_, rfl⟩
    obtain ⟨m, hm⟩ : ∃ m, s.m = m := ⟨_, rfl⟩
    rw [hL] at c1 hbl
    rw [hm] at c0 hm0 hm1 hbl
    have HL := Lib.hid (And.intro hL hm)
    have hwr : IntKind.i64.wrap ((L : Int) + n) = (L : Int) + n := by rw [IntKind.wrap_i64]; omega
    clear hr hl hL hm
    by_cases hs : m < (L : Int) + n
    · have d1 : decide ((L : Int) + n > m) = true := by simpa using hs
      have d2 : decide (m < (L : Int) + n) = true := by simpa using hs
      have HS := Lib.hid (show s.lay l = ⟨s.m, s.b, 4⟩ from by unfold WS.lay; rw [if_pos (by rw [HL.out.1, HL.out.2, HR.out.2]; exact hs)])
      clear hs
      go_enter Try.func34, Try.ntmps34
      go_wp2_with fail
      go_quiet (fail)
      go_wp2
      go_ret
      rw [HE.out.2, HS.out]
      have hb := below_dN (Below.refl w.heap.size w) nq
      have h9 := (H.out.below hb).err 4
      exact ⟨rfl, A, c, h9.1, fun a ha => .inl ⟨a, ha, rfl⟩, (Chg.of_below (S := Wset P A) hb).trans h9.2 fun _ _ z => z⟩
    · have d1 : decide ((L : Int) + n > m) = false := by simpa using hs
      have d2 : decide (m < (L : Int) + n) = false := by simpa using hs
      have hs2 : (L : Int) + n ≤ 100000 := by omega
      have HS := Lib.hid (And.intro (show s.lay l = ⟨s.m, s.b ++ l, 0⟩ from by unfold WS.lay; rw [if_neg (by rw [HL.out.1, HL.out.2, HR.out.2]; exact hs)]) hs)
      clear hs
      go_enter Try.func34, Try.ntmps34
      go_wp2_with fail
      go_quiet (fail)
      have hb := below_dN (Below.refl w.heap.size w) nq
      have C1 : (w.drewN nq).cell? ⟨P, 1, none⟩ = some (.slice A L c) := c1
      have H2 := Lib.hid (And.intro (H.out.below hb) (And.intro (HR.out.1.below hb) hb))
      clear hb c0 c1 c2 f2 d1 d2
      generalize w.drewN nq = wd at C1 H2 ⊢
      obtain ⟨i0, hi0, hz0, hz1, hz2⟩ := info_parts u8_info
      have hown := H2.out.1.2.1
      have hbd := H2.out.1.2.2.2.1
      rw [HL.out.1] at hown
      have HO := Lib.hid (And.intro hown hbd)
      clear hown hbd
      go_wp2_with (at_builtin; refine wpList_append_rd _ rfl (.tmp 9) (.tmp 10) _ rfl base 5 i0 _ 1 1 Try.underlying32 hi0 hz0 hz1 hz2 rfl (by omega) _ L (bys s.b) rfl HO.out.1 B n d (bys l) rfl (by rw [Nat.mul_one]; exact H2.out.2.1) (bys_one l) (by simp only [maxLen]; omega) (by omega) HO.out.2 ?_; intro v1 w1 hown1 hg1 hat1; rw [← bys_append] at hown1; obtain ⟨A', c', rfl, hd, hd2, hd3, hB⟩ := own_form hown1; have hf := app_facts H2.out.1.1 H2.out.1.2.2.1 hg1 hat1; have C1 := hf.1.cell 1; have C2 := hf.1.cell 2; rw [HE.out.1] at C2; have F1 := hf.1.frozen 1; have HF := Lib.hid (And.intro hown1 hf); clear hown1 hg1 hat1 hd hd2 hd3 hB hf)
      go_ret
      rw [HE.out.2, HS.out.1]
      have hd := layF_done H2.out.1 H2.out.2.2 HL.out.1 HR.out.2 (by rw [HL.out.2]; have := HS.out.2; omega) HF.out.1 HF.out.2
      rw [HE.out.1] at hd
      exact ⟨rfl, A', c', hd.1, hd.2.1, hd.2.2⟩
  · have d1 : (s.e != 0) = true := by simpa using he
    have HE := Lib.hid (show s.raw l = s from by unfold WS.raw; rw [if_pos (by simpa using he)])
    clear he
    go_enter Try.func34, Try.ntmps34
    go_wp2
    go_ret
    rw [HE.out]
    exact ⟨rfl, A, c, H.out, fun a ha => .inl ⟨a, ha, rfl⟩, Chg.refl _ _⟩
end Go.Proofs.Ytdepmogibhmdaaa
