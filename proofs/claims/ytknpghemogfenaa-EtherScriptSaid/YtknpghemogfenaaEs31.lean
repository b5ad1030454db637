/- Chapter 31: an ether, plain; how memory says it. -/
import Derived.Test.YtknpghemogfenaaEl31
namespace Go.Proofs.Ytknpghemogfenaa
open Go.Conc Go.RowKit
set_option linter.unusedVariables false
structure GR where
  a : Int
  b : Int
  d : Int
  x : List UInt8
structure ES where
  fates : List FT
  strays : List (Int × Int × List UInt8)
  now : Int
  number : Int
  lost : Int
  sky : List GR
  b0 : List (List UInt8)
  b1 : List (List UInt8)
def FT.zero : FT := ⟨false, 0, false, 0⟩
def ES.fly (s : ES) (d wait : Int) (x : List UInt8) : ES := { s with sky := s.sky ++ [⟨s.now + 1 + wait, s.number, d, x⟩], number := s.number + 1 }
def ES.send (s : ES) (d : Int) (x : List UInt8) : ES :=
  let f := s.fates.headD FT.zero
  let s1 : ES := { s with fates := s.fates.tail }
  if f.lost then { s1 with lost := s1.lost + 1 }
  else
    let s2 := s1.fly d f.late x
    if f.twice then s2.fly d f.again x else s2
def ES.come (s : ES) (d : Int) (x : List UInt8) : ES :=
  if d = 0 then (if s.b0.length < 1000 then { s with b0 := s.b0 ++ [x] } else { s with lost := s.lost + 1 })
  else (if s.b1.length < 1000 then { s with b1 := s.b1 ++ [x] } else { s with lost := s.lost + 1 })
/-- What holds of an ether at any time. -/
structure ES.ok (s : ES) : Prop where
  now : 0 ≤ s.now
  number : 0 ≤ s.number
  lost : 0 ≤ s.lost
  ft : ∀ f ∈ s.fates, (0 ≤ f.late ∧ f.late ≤ 10000) ∧ (0 ≤ f.again ∧ f.again ≤ 10000)
  st : ∀ y ∈ s.strays, 1 ≤ y.1 ∧ (y.2.1 = 0 ∨ y.2.1 = 1)
  sky : ∀ g ∈ s.sky, s.now < g.a ∧ 0 ≤ g.b ∧ g.b < s.number ∧ (g.d = 0 ∨ g.d = 1)
  ord : s.sky.Pairwise (fun g h => g.b < h.b)
theorem pairwise_snoc {α : Type} {r : α → α → Prop} {l : List α} {x : α} (h : l.Pairwise r) (hx : ∀ y ∈ l, r y x) : (l ++ [x]).Pairwise r :=
  List.pairwise_append.2 ⟨h, List.pairwise_singleton .., fun y hy z hz => by rw [List.mem_singleton.1 hz]; exact hx y hy⟩
theorem ES.ok.fly {s : ES} (h : s.ok) {d wait : Int} (hd : d = 0 ∨ d = 1) (hw : 0 ≤ wait) (x : List UInt8) : (s.fly d wait x).ok := by
  refine { h with number := ?_, sky := fun g hg => ?_, ord := ?_ }
  · show 0 ≤ s.number + 1; have := h.number; omega
  · show s.now < g.a ∧ 0 ≤ g.b ∧ g.b < s.number + 1 ∧ _
    rcases List.mem_append.1 hg with hg | hg
    · have := h.sky g hg; exact ⟨this.1, this.2.1, by omega, this.2.2.2⟩
    · rw [List.mem_singleton.1 hg]; exact ⟨by show s.now < s.now + 1 + wait; omega, h.number, by show s.number < s.number + 1; omega, hd⟩
  · exact pairwise_snoc h.ord fun y hy => (h.sky y hy).2.2.1
theorem ES.ok.tail {s : ES} (h : s.ok) : ({ s with fates := s.fates.tail } : ES).ok := { h with ft := fun f hf => h.ft f (List.mem_of_mem_tail hf) }
theorem ES.ok.gone {s : ES} (h : s.ok) : ({ s with lost := s.lost + 1 } : ES).ok := { h with lost := by show 0 ≤ s.lost + 1; have := h.lost; omega }
theorem ES.ok.head {s : ES} (h : s.ok) : (0 ≤ (s.fates.headD FT.zero).late ∧ (s.fates.headD FT.zero).late ≤ 10000) ∧ (0 ≤ (s.fates.headD FT.zero).again ∧ (s.fates.headD FT.zero).again ≤ 10000) := by
  cases hf : s.fates with
  | nil => exact ⟨⟨by decide, by decide⟩, ⟨by decide, by decide⟩⟩
  | cons f r => exact h.ft f (by rw [hf]; exact List.mem_cons_self ..)
theorem ES.ok.send {s : ES} (h : s.ok) {d : Int} (hd : d = 0 ∨ d = 1) (x : List UInt8) : (s.send d x).ok := by
  have hh := h.head
  unfold ES.send
  simp only
  split
  · exact h.tail.gone
  · split
    · exact (h.tail.fly hd hh.1.1 x).fly hd hh.2.1 x
    · exact h.tail.fly hd hh.1.1 x
theorem ES.ok.come {s : ES} (h : s.ok) (d : Int) (x : List UInt8) : (s.come d x).ok := by
  unfold ES.come
  split
  · split
    · exact { h with }
    · exact h.gone
  · split
    · exact { h with }
    · exact h.gone
/-- What memory says. -/
structure Ab (m : EM) (s : ES) : Prop where
  fates : m.fates = s.fates
  strays : m.strays.map (fun y => (y.at_, y.dst, y.x)) = s.strays
  now : m.now = s.now
  number : m.number = s.number
  lost : m.lost = s.lost
  sky : (m.l.map (fun e => (⟨e.a, e.b, e.d, m.pay e.b⟩ : GR))).Perm s.sky
  b0 : m.b0.map BX.x = s.b0
  b1 : m.b1.map BX.x = s.b1
theorem Ab.mem {m : EM} {s : ES} (h : Ab m s) (hs : s.ok) {e : HE} (he : e ∈ m.l) : s.now < e.a ∧ 0 ≤ e.b ∧ e.b < s.number ∧ (e.d = 0 ∨ e.d = 1) :=
  hs.sky ⟨e.a, e.b, e.d, m.pay e.b⟩ (h.sky.mem_iff.1 (List.mem_map.2 ⟨e, he, rfl⟩))
theorem Ab.len {m : EM} {s : ES} (h : Ab m s) : m.l.length = s.sky.length := by have := h.sky.length_eq; simpa using this
theorem Ab.num {m : EM} {s : ES} (h : Ab m s) (hs : s.ok) : ∀ f ∈ m.l, f.b ≠ m.number := fun f hf e => by
  have := (h.mem hs hf).2.2.1
  rw [e, h.number] at this
  omega
theorem Ab.fly {m : EM} {s : ES} (h : Ab m s) (hs : s.ok) {d wait : Int} {x : List UInt8} {v' : Value} {l' : List HE} {g : HE} (ha : g.a = m.now + 1 + wait) (hb : g.b = m.number) (hd : g.d = d) (hp : l'.Perm (m.l ++ [g])) : Ab (m.push v' l' x) (s.fly d wait x) := by
  refine { h with number := ?_, sky := ?_ }
  · show m.number + 1 = s.number + 1; rw [h.number]
  · have h1 : ((m.push v' l' x).l.map (fun e => (⟨e.a, e.b, e.d, (m.push v' l' x).pay e.b⟩ : GR))).Perm ((m.l ++ [g]).map (fun e => (⟨e.a, e.b, e.d, if e.b = m.number then x else m.pay e.b⟩ : GR))) := hp.map _
    refine h1.trans ?_
    rw [List.map_append]
    have h2 : m.l.map (fun e => (⟨e.a, e.b, e.d, if e.b = m.number then x else m.pay e.b⟩ : GR)) = m.l.map (fun e => (⟨e.a, e.b, e.d, m.pay e.b⟩ : GR)) := List.map_congr_left fun e he => by rw [if_neg (h.num hs e he)]
    rw [h2]
    show (_ ++ [(⟨g.a, g.b, g.d, if g.b = m.number then x else m.pay g.b⟩ : GR)]).Perm (s.sky ++ [⟨s.now + 1 + wait, s.number, d, x⟩])
    rw [if_pos hb, ha, hb, hd, h.now, h.number]
    exact List.Perm.append_right _ h.sky
/-- An ether in memory, within blocks of F. -/
def Ew (w : World) (base E : Nat) (s : ES) (F : Nat → Prop) : Prop := ∃ m, Em w base E m ∧ Ab m s ∧ s.ok ∧ ∀ k, m.foot E k → F k
/-- What a deed leaves. -/
def Eto (w : World) (base E : Nat) (s' : ES) (F : Nat → Prop) (w' : World) : Prop :=
  (∃ F', Ew w' base E s' F' ∧ ∀ k, F' k → F k ∨ (w.heap.size ≤ k ∧ k < w'.heap.size)) ∧ Chg F w w'
theorem Ew.other {w w' : World} {base E : Nat} {s : ES} {F S : Nat → Prop} (h : Ew w base E s F) (hc : Chg S w w') (hS : ∀ k, F k → ¬ S k) : Ew w' base E s F := by
  obtain ⟨m, h1, h2, h3, h4⟩ := h
  exact ⟨m, h1.other hc fun k hk => hS k (h4 k hk), h2, h3, h4⟩
theorem Ew.below {w w' : World} {base E : Nat} {s : ES} {F : Nat → Prop} (h : Ew w base E s F) (hb : Below w.heap.size w w') : Ew w' base E s F := by
  obtain ⟨m, h1, h2, h3, h4⟩ := h
  exact ⟨m, h1.below hb, h2, h3, h4⟩
/-- A deed on memory, as one of an ether. -/
theorem eto_of {w w' : World} {base E : Nat} {s' : ES} {F : Nat → Prop} {m m' : EM} (h : ∀ k, m.foot E k → F k) (he : Em w' base E m') (ha : Ab m' s') (hs : s'.ok) (hc : Chg (m.foot E) w w') (hf : ∀ k, m'.foot E k → m.foot E k ∨ w.heap.size ≤ k) : Eto w base E s' F w' :=
  ⟨⟨m'.foot E, ⟨m', he, ha, hs, fun _ hk => hk⟩, fun k hk => (hf k hk).elim (fun e => .inl (h k e)) fun e => .inr ⟨e, (he.foot_base hk).2⟩⟩, hc.mono fun k _ hk => h k hk⟩
end Go.Proofs.Ytknpghemogfenaa
