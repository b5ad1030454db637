/- Chapter 31: (*Ether).Tick: what comes out of the sky. -/
import Derived.Test.YtknpghemogfenaaTi31
namespace Go.Proofs.Ytknpghemogfenaa
open Go.Conc Go.RowKit
set_option linter.unusedVariables false
def ES.mid (s : ES) (k : Nat) : ES :=
  { (s.now1.comeAll (s.st (s.now + 1))).comeAll (((s.ar (s.now + 1)).take k).map GR.p) with sky := (s.ar (s.now + 1)).drop k ++ s.ot (s.now + 1) }
theorem mid_last (s : ES) : s.mid (s.ar (s.now + 1)).length = s.tick := by
  unfold ES.mid
  rw [List.take_length, List.drop_length, List.nil_append]
  have e1 := comeAll_withsky (s.st (s.now + 1)) s.now1 (s.ot (s.now + 1))
  have e2 := comeAll_withsky ((s.ar (s.now + 1)).map GR.p) (s.now1.comeAll (s.st (s.now + 1))) (s.ot (s.now + 1))
  rw [← e2, ← e1]
  rfl
theorem mid_now (s : ES) (k : Nat) : (s.mid k).now = s.now + 1 := by
  show ((s.now1.comeAll _).comeAll _).now = _
  rw [(comeAll_same _ _).2.2.1, (comeAll_same _ _).2.2.1]; rfl
theorem mid_lost {s : ES} (h0 : 0 ≤ s.lost) (hl : s.lost ≤ 900000000) (hs : s.strays.length ≤ 1000000) (hk : s.sky.length ≤ 1000000) (k : Nat) : 0 ≤ (s.mid k).lost ∧ (s.mid k).lost ≤ 1000000000 := by
  have h1 := comeAll_lost (s.st (s.now + 1)) s.now1
  have h2 := comeAll_lost (((s.ar (s.now + 1)).take k).map GR.p) (s.now1.comeAll (s.st (s.now + 1)))
  have h3 : s.now1.lost = s.lost := rfl
  have h4 : (s.st (s.now + 1)).length ≤ s.strays.length := by unfold ES.st; rw [List.length_map]; exact List.length_filter_le _ _
  have h5 : (((s.ar (s.now + 1)).take k).map GR.p).length ≤ s.sky.length := by
    rw [List.length_map, List.length_take]
    have : (s.ar (s.now + 1)).length ≤ s.sky.length := List.length_filter_le _ _
    omega
  show 0 ≤ ((s.now1.comeAll _).comeAll _).lost ∧ ((s.now1.comeAll _).comeAll _).lost ≤ 1000000000
  omega
def T2 (w wx : World) (base E : Nat) (m : EM) (s : ES) (k : Nat) : Prop :=
  ∃ m', Em wx base E m' ∧ Ab m' (s.mid k) ∧ Chg (m.foot E) w wx ∧ (∀ k, m'.foot E k → m.foot E k ∨ w.heap.size ≤ k) ∧ k ≤ (s.ar (s.now + 1)).length
theorem t2_start {w wx : World} {base E : Nat} {m : EM} {s : ES} (hab : Ab m s) (h : T1 w wx base E m s m.strays.length) : T2 w wx base E m s 0 := by
  obtain ⟨m', h1, h2, h3, h4, h5, h6, h7⟩ := h
  have hsl : m.strays.length = s.strays.length := by rw [← hab.strays]; simp
  rw [hsl, stj_all] at h2
  refine ⟨m', h1, ?_, h6, h7, Nat.zero_le _⟩
  have hsky : (s.now1.comeAll (s.st (s.now + 1))).sky = s.sky := (comeAll_same _ _).2.2.2.2
  have hp := h2.sky
  rw [hsky] at hp
  have hq : (m'.l.map (fun e => (⟨e.a, e.b, e.d, m'.pay e.b⟩ : GR))).Perm (s.mid 0).sky := hp.trans (s.sky_perm _).symm
  exact { h2 with sky := hq }
theorem gx_min {l : List HE} (hf : FitL l) (hm : ∀ e ∈ l, (gx l 0).key ≤ e.key) (h0 : 0 < l.length) : ∀ e ∈ l, (gx l 0).a < e.a ∨ ((gx l 0).a = e.a ∧ (gx l 0).b ≤ e.b) :=
  fun e he => key_lex (hf.gx h0) (hf e he) (hm e he)
theorem t2_min {m' : EM} {k : List GR} (hp : (m'.l.map (fun e => (⟨e.a, e.b, e.d, m'.pay e.b⟩ : GR))).Perm k) (hf : FitL m'.l) (hh : Hp (keys m'.l)) (h0 : 0 < m'.l.length) :
    (⟨(gx m'.l 0).a, (gx m'.l 0).b, (gx m'.l 0).d, m'.pay (gx m'.l 0).b⟩ : GR) ∈ k ∧ ∀ h ∈ k, (gx m'.l 0).a < h.a ∨ ((gx m'.l 0).a = h.a ∧ (gx m'.l 0).b ≤ h.b) := by
  have hmin : ∀ e ∈ m'.l, (gx m'.l 0).key ≤ e.key := fun e he => by
    obtain ⟨q, hq, he'⟩ := List.mem_iff_getElem.1 he
    have := hh.min q (by rw [keys_length]; exact hq)
    rw [gi_keys h0, gi_keys hq, gx_get hq, he'] at this
    exact this
  refine ⟨hp.mem_iff.1 (List.mem_map.2 ⟨_, gx_mem h0, rfl⟩), fun h hh' => ?_⟩
  obtain ⟨e, he, rfl⟩ := List.mem_map.1 (hp.mem_iff.2 hh')
  exact gx_min hf hmin h0 e he
theorem drop_mem {α : Type} {l : List α} {k : Nat} {x : α} (h : x ∈ l.drop k) : x ∈ l := List.mem_of_mem_drop h
/-- The heap's first is the next one to come. -/
theorem t2_next {m' : EM} {s : ES} (hs : s.ok) {k : Nat} (hab : Ab m' (s.mid k)) (hf : FitL m'.l) (hh : Hp (keys m'.l)) (h0 : 0 < m'.l.length) (ht : (gx m'.l 0).a ≤ s.now + 1) :
    ∃ q, (s.ar (s.now + 1)).drop k = (⟨(gx m'.l 0).a, (gx m'.l 0).b, (gx m'.l 0).d, m'.pay (gx m'.l 0).b⟩ : GR) :: q := by
  obtain ⟨h1, h2⟩ := t2_min hab.sky hf hh h0
  refine first_comes (t := s.now + 1) ((ar_sorted hs _).sublist (List.drop_sublist _ _)) (fun h hh' => (ES.ar_mem (drop_mem hh')).1) (fun h hh' => ?_) h1 ht h2
  have hm := ES.ot_mem hh'
  have := (hs.sky h hm.2).1
  have := hm.1
  omega
theorem t2_end {m' : EM} {s : ES} {k : Nat} (hab : Ab m' (s.mid k)) (hf : FitL m'.l) (hh : Hp (keys m'.l)) (ht : m'.l.length = 0 ∨ (0 < m'.l.length ∧ s.now + 1 < (gx m'.l 0).a)) : (s.ar (s.now + 1)).drop k = [] := by
  rcases ht with h | ⟨h0, ht⟩
  · have := hab.sky.length_eq
    rw [List.length_map, h] at this
    have h2 : ((s.ar (s.now + 1)).drop k ++ s.ot (s.now + 1)).length = 0 := this.symm
    rw [List.length_append] at h2
    exact List.eq_nil_of_length_eq_zero (by omega)
  · obtain ⟨h1, h2⟩ := t2_min hab.sky hf hh h0
    exact none_comes (t := s.now + 1) (fun h hh' => (ES.ar_mem (drop_mem hh')).1) h1 ht h2
/-- One out of the sky comes. -/
theorem t2_step {w wx w2 w3 : World} {base E : Nat} {m m' : EM} {s : ES} (hs : s.ok) (hlo : s.lost ≤ 900000000) (hst : s.strays.length ≤ 1000000) (hsk : s.sky.length ≤ 1000000) {k : Nat} (h1 : Em wx base E m') (hab : Ab m' (s.mid k)) (hch : Chg (m.foot E) w wx) (hft : ∀ k, m'.foot E k → m.foot E k ∨ w.heap.size ≤ k) (hk : k ≤ (s.ar (s.now + 1)).length)
    (ht : (gx m'.l 0).a ≤ s.now + 1) {A : Option Addr} {q c : Nat} {l' : List HE} (hv : m'.v = .slice A (q + 1) c) (hlen : m'.l.length = q + 1)
    (hf : HF w2 base E (m'.cells.set 4 (.slice A q c)) 4 (.slice A q c) l') (hp : (gx m'.l 0 :: l').Perm m'.l) (hh : Hp (keys l')) (hc : Chg (fun k => k = E ∨ (Value.slice A (q + 1) c).ownBlock = some k) wx w2) (hb : Below w2.heap.size w2 w3) :
    Calls Try.prog 38 #[.pointer (some ⟨E, 0, none⟩), .int .i64 (gx m'.l 0).d, .slice (gx m'.l 0).A (gx m'.l 0).n (gx m'.l 0).c] w3 fun e w' => e = .returned (.tuple #[]) ∧ T2 w w' base E m s (k + 1) := by
  obtain ⟨p1, p2, p3, p4, p5⟩ := h1.popped hv hf hp hh hc
  obtain ⟨q9, hq9⟩ := t2_next hs hab h1.fit h1.hp (by omega) ht
  have hp3 := p1.below hb
  have hpx : PX w3 base (gx m'.l 0).A (gx m'.l 0).n (gx m'.l 0).c (m'.pay (gx m'.l 0).b) := p2.chg (Chg.of_below (S := fun _ => False) hb) (fun _ _ x => x)
  have hg : (⟨(gx m'.l 0).a, (gx m'.l 0).b, (gx m'.l 0).d, m'.pay (gx m'.l 0).b⟩ : GR) ∈ s.ar (s.now + 1) := drop_mem (k := k) (by rw [hq9]; exact List.mem_cons_self ..)
  have hd := (hs.sky _ (ES.ar_mem hg).2).2.2.2
  simp only at hd
  obtain ⟨dn, hdn, hd2⟩ : ∃ dn : Nat, (gx m'.l 0).d = (dn : Int) ∧ dn < 2 := by
    rcases hd with e | e
    · exact ⟨0, by rw [e]; rfl, by decide⟩
    · exact ⟨1, by rw [e]; rfl, by decide⟩
  have hml := mid_lost hs.lost hlo hst hsk k
  have hpl : (m'.pop (.slice A q c) l').lost = (s.mid k).lost := hab.lost
  rw [hdn]
  refine (ecomes_any (b := ⟨(gx m'.l 0).A, (gx m'.l 0).n, (gx m'.l 0).c, m'.pay (gx m'.l 0).b⟩) hp3 hpx (fun k hk => (p3 k hk).1) (by rw [hpl]; exact hml.1) (by rw [hpl]; exact hml.2) hd2).mono ?_
  rintro e w' ⟨rfl, g1, g2, g3⟩
  have hklt : k < (s.ar (s.now + 1)).length := by
    have := congrArg List.length hq9
    rw [List.length_drop, List.length_cons] at this
    omega
  have hget : (s.ar (s.now + 1))[k] = (⟨(gx m'.l 0).a, (gx m'.l 0).b, (gx m'.l 0).d, m'.pay (gx m'.l 0).b⟩ : GR) := by
    have := congrArg (fun l => l[0]?) hq9
    simp only [List.getElem?_drop, Nat.add_zero, List.getElem?_cons_zero] at this
    rw [List.getElem?_eq_getElem hklt] at this
    injection this
  have hdrop : (s.ar (s.now + 1)).drop (k + 1) = q9 := by
    have := congrArg (List.drop 1) hq9
    rw [List.drop_drop] at this
    exact this
  refine ⟨rfl, _, g1, ?_, (hch.trans (p4.mono (T := m'.foot E) fun _ _ x => x) fun j hj hT => (hft j hT).elim id fun e => by omega).trans ((Chg.of_below (S := (m'.pop (.slice A q c) l').foot E) hb).trans g2 fun _ _ x => x) fun j hj hT => (hft j (p5 j hT)).elim id fun e => by omega, fun j hj => ?_, hklt⟩
  · have h9 := hp.map (fun e => (⟨e.a, e.b, e.d, m'.pay e.b⟩ : GR))
    rw [List.map_cons] at h9
    have h8 := h9.trans hab.sky
    have h7 : (s.mid k).sky = (⟨(gx m'.l 0).a, (gx m'.l 0).b, (gx m'.l 0).d, m'.pay (gx m'.l 0).b⟩ : GR) :: (q9 ++ s.ot (s.now + 1)) := by
      show (s.ar (s.now + 1)).drop k ++ s.ot (s.now + 1) = _
      rw [hq9]; rfl
    rw [h7] at h8
    have h6 := (List.perm_cons _).1 h8
    have habp : Ab (m'.pop (.slice A q c) l') { s.mid k with sky := q9 ++ s.ot (s.now + 1) } := { hab with sky := h6 }
    have hcm := habp.come (b := ⟨(gx m'.l 0).A, (gx m'.l 0).n, (gx m'.l 0).c, m'.pay (gx m'.l 0).b⟩) hd2
    have hmid : s.mid (k + 1) = ({ s.mid k with sky := q9 ++ s.ot (s.now + 1) } : ES).come (dn : Int) (m'.pay (gx m'.l 0).b) := by
      rw [come_withsky]
      unfold ES.mid
      rw [hdrop, List.take_succ_eq_append_getElem hklt, List.map_append, ES.comeAll_append, hget]
      rw [come_withsky]
      show _ = _
      simp only [List.map_cons, List.map_nil, GR.p, hdn]
      rfl
    rw [hmid]
    exact hcm
  · rcases g3 j hj with e | e
    · exact hft j (p5 j e)
    · exact hft j (p3 j e).2
end Go.Proofs.Ytknpghemogfenaa
