/- The document's readers: what each of their functions comes to. -/
import Derived.Test.YtdepmogibhmdaaaRe10
namespace Go.Proofs.Ytdepmogibhmdaaa
open Go.RowKit
set_option linter.unusedVariables false
/-- A reader of the document in memory. -/
def Rf (w : World) (P : Nat) (A : Option Addr) (c : Nat) (s : RS) : Prop :=
  Bk w P 72 [.slice A s.l.length c, .int .i64 s.p, .int .i64 s.e, .int .i64 s.f] ∧ Rd w A s.l.length (bys s.l) ∧ s.p ≤ s.l.length ∧ s.l.length ≤ c ∧ s.l.length ≤ 140737488351232 ∧ (∀ a, A = some a → a.block ≠ P)
theorem Rf.below {w w' : World} {P c : Nat} {A : Option Addr} {s : RS} (h : Rf w P A c s) (hb : Below w.heap.size w w') : Rf w' P A c s := ⟨h.1.belowS hb, h.2.1.below hb, h.2.2⟩
theorem Rf.chg {w w' : World} {S : Nat → Prop} {P c : Nat} {A : Option Addr} {s : RS} (h : Rf w P A c s) (hc : Chg S w w') (h1 : ¬ S P) (h2 : ∀ a, A = some a → ¬ S a.block) : Rf w' P A c s := ⟨hc.bk h.1 h1, hc.rd h.2.1 h2, h.2.2⟩
theorem Rf.fault {w : World} {P c : Nat} {A : Option Addr} {s : RS} (h : Rf w P A c s) (e f : Int) :
    Rf ((w.setCell ⟨P, 2, none⟩ (.int .i64 e)).setCell ⟨P, 3, none⟩ (.int .i64 f)) P A c ⟨s.l, s.p, e, f⟩ ∧ Chg (fun k => k = P) w ((w.setCell ⟨P, 2, none⟩ (.int .i64 e)).setCell ⟨P, 3, none⟩ (.int .i64 f)) := by
  have hc : Chg (fun k => k = P) w ((w.setCell ⟨P, 2, none⟩ (.int .i64 e)).setCell ⟨P, 3, none⟩ (.int .i64 f)) := ((Chg.refl (fun k => k = P) w).set_ (show P = P from rfl) _ _).set_ (show P = P from rfl) _ _
  exact ⟨⟨(h.1.set_ 2 _).set_ 3 _, hc.rd h.2.1 h.2.2.2.2.2, h.2.2⟩, hc⟩
theorem Rf.step {w : World} {P c : Nat} {A : Option Addr} {s : RS} (h : Rf w P A c s) (p : Nat) (hp : p ≤ s.l.length) :
    Rf (w.setCell ⟨P, 1, none⟩ (.int .i64 p)) P A c ⟨s.l, p, s.e, s.f⟩ ∧ Chg (fun k => k = P) w (w.setCell ⟨P, 1, none⟩ (.int .i64 p)) := by
  have hc : Chg (fun k => k = P) w (w.setCell ⟨P, 1, none⟩ (.int .i64 p)) := (Chg.refl (fun k => k = P) w).set_ (show P = P from rfl) _ _
  exact ⟨⟨h.1.set_ 1 _, hc.rd h.2.1 h.2.2.2.2.2, hp, h.2.2.2⟩, hc⟩
def RfPost (w : World) (P : Nat) (A : Option Addr) (c : Nat) (r : List UInt8 × RS) (e : Ending) (w' : World) : Prop :=
  ∃ v, e = .returned v ∧ w'.ownsRow w.heap.size 5 1 v r.1.length (bys r.1) ∧ Rf w' P A c r.2 ∧ Chg (fun k => k = P) w w'
/-- width -/
theorem refWidth_any {w : World} (n : Int) : Calls Try.prog 42 #[.int .i64 n] w fun e w' => e = .returned (.bool (wid n)) ∧ w = w' := by
  by_cases h1 : n = 1
  · subst h1
    go_enter Try.func42, Try.ntmps42
    go_wp2
    go_ret
    exact ⟨rfl, rfl⟩
  · have d1 : (n == 1) = false := by simpa using h1
    by_cases h2 : n = 2
    · subst h2
      go_enter Try.func42, Try.ntmps42
      go_wp2
      go_ret
      exact ⟨rfl, rfl⟩
    · have d2 : (n == 2) = false := by simpa using h2
      by_cases h3 : n = 4
      · subst h3
        go_enter Try.func42, Try.ntmps42
        go_wp2
        go_ret
        exact ⟨rfl, rfl⟩
      · have d3 : (n == 4) = false := by simpa using h3
        have HW : Hid (wid n = (n == 8)) := by unfold wid; rw [d1, d2, d3]; rfl
        clear h1 h2 h3
        go_enter Try.func42, Try.ntmps42
        go_wp2
        go_ret
        exact ⟨ret_bool (by rw [HW.out]), rfl⟩
/-- fails, where there is no fault yet -/
theorem fails_first {w : World} {P : Nat} {A : Option Addr} {c : Nat} {s : RS} (h : Rf w P A c s) (he : s.e = 0) (e f : Int) :
    Calls Try.prog 40 #[.pointer (some ⟨P, 0, none⟩), .int .i64 e, .int .i64 f] w fun x w' => x = .returned (.tuple #[]) ∧ Rf w' P A c ⟨s.l, s.p, e, f⟩ ∧ Chg (fun k => k = P) w w' := by
  have H := Lib.hid h
  have c2 := h.1.cell 2
  have c3 := h.1.cell 3
  have f2 := h.1.frozen 2
  have f3 := h.1.frozen 3
  rw [he] at c2
  clear h he
  go_enter Try.func40, Try.ntmps40
  go_wp2
  go_end0
  exact ⟨rfl, H.out.fault e f⟩
theorem fails_not {w : World} {P : Nat} {A : Option Addr} {c : Nat} {s : RS} (h : Rf w P A c s) (he : s.e ≠ 0) (e f : Int) :
    Calls Try.prog 40 #[.pointer (some ⟨P, 0, none⟩), .int .i64 e, .int .i64 f] w fun x w' => x = .returned (.tuple #[]) ∧ w = w' := by
  have c2 := h.1.cell 2
  have d1 : (s.e == 0) = false := by simpa using he
  clear h he
  go_enter Try.func40, Try.ntmps40
  go_wp2
  go_end0
  exact ⟨rfl, rfl⟩
set_option maxRecDepth 100000 in
set_option maxHeartbeats 2000000 in
/-- Raw -/
theorem rawF_any {w : World} {P : Nat} {A : Option Addr} {c : Nat} {s : RS} (h : Rf w P A c s) (n : Int) :
    Calls Try.prog 22 #[.pointer (some ⟨P, 0, none⟩), .int .i64 n] w (RfPost w P A c (s.take n true)) := by
  have H := Lib.hid h
  have c0 := h.1.cell 0
  have c1 := h.1.cell 1
  have c2 := h.1.cell 2
  have f1 := h.1.frozen 1
  clear h
  by_cases he : s.e = 0
  · rw [he] at c2
    have HE := Lib.hid he
    clear he
    have hP := H.out.2.2.1
    have hL := H.out.2.2.2.2.1
    have hLc := H.out.2.2.2.1
    obtain ⟨L, hLL⟩ : ∃ L, s.l.length = L := ⟨_, rfl⟩
    obtain ⟨p, hp⟩ : ∃ p, s.p = p := ⟨_, rfl⟩
    rw [hLL] at c0 hP hL hLc
    rw [hp] at c1 hP
    have HLP := Lib.hid (And.intro hLL hp)
    clear hLL hp
    by_cases hn : n < 0
    · have d1 : decide (n < 0) = true := by simpa using hn
      have HN := Lib.hid hn
      clear hn
      go_enter Try.func22, Try.ntmps22
      go_wp2_with fail
      refine (fails_first H.out HE.out 2 p).mono ?_
      rintro e w1 ⟨rfl, h9, h10⟩
      have H9 := Lib.hid (And.intro h9 h10)
      clear h9 h10
      go_wp2
      go_ret
      rw [RS.take_no HE.out (.inr HN.out), HLP.out.2]
      have h9 := H9.out
      rw [HLP.out.2] at h9
      exact ⟨_, rfl, World.ownsRow_nil _ _ _ _, h9.1, h9.2⟩
    · obtain ⟨m, rfl⟩ : ∃ m : Nat, n = m := ⟨n.toNat, by omega⟩
      have HM := Lib.hid (show ¬ (true = false ∨ (m : Int) < 0) from by simp)
      have d1 : decide ((m : Int) < 0) = false := by simp
      clear hn
      by_cases hs : (L : Int) - p < m
      · have d2 : decide ((m : Int) > (L : Int) - p) = true := by simpa using hs
        have d3 : decide ((L : Int) - p < (m : Int)) = true := by simpa using hs
        have HS := Lib.hid hs
        clear hs
        go_enter Try.func22, Try.ntmps22
        go_wp2_with fail
        go_quiet (fail)
        have hb := below_dN (Below.refl w.heap.size w) nq
        have H2 := Lib.hid (And.intro (H.out.below hb) hb)
        clear hb
        go_wp2_with fail
        refine (fails_first H2.out.1 HE.out 7 L).mono ?_
        rintro e w1 ⟨rfl, h9, h10⟩
        have H9 := Lib.hid (And.intro h9 h10)
        clear h9 h10
        go_wp2
        go_ret
        rw [RS.take_short HE.out HM.out (by rw [HLP.out.1, HLP.out.2]; exact HS.out), HLP.out.1]
        exact ⟨_, rfl, World.ownsRow_nil _ _ _ _, H9.out.1, (Chg.of_below H2.out.2).trans H9.out.2 fun _ _ x => x⟩
      · have d2 : decide ((m : Int) > (L : Int) - p) = false := by simpa using hs
        have d3 : decide ((L : Int) - p < (m : Int)) = false := by simpa using hs
        have HS := Lib.hid hs
        have hwr : IntKind.i64.wrap ((p : Int) + m) = (p : Int) + m := by rw [IntKind.wrap_i64]; omega
        clear hs
        go_enter Try.func22, Try.ntmps22
        go_wp2_with fail
        go_quiet (fail)
        go_wp2_with fail
        have hb := below_dN (Below.refl w.heap.size w) nq
        have hst := (H.out.below hb).step (p + m) (by rw [HLP.out.1]; have := HS.out; omega)
        rw [show ((p + m : Nat) : Int) = (p : Int) + m from by omega] at hst
        have H2 := Lib.hid (And.intro hst.1 ((Chg.of_below hb).trans hst.2 fun _ _ x => x))
        have C0 := hst.1.1.cell 0
        have C1 := hst.1.1.cell 1
        obtain ⟨q, hq⟩ : ∃ q, q = p + m := ⟨_, rfl⟩
        replace C0 : ((w.drewN nq).setCell ⟨P, 1, none⟩ (.int .i64 ((p : Int) + m))).cell? ⟨P, 0, none⟩ = some (.slice A L c) := by rw [C0, ← HLP.out.1]; rfl
        replace C1 : ((w.drewN nq).setCell ⟨P, 1, none⟩ (.int .i64 ((p : Int) + m))).cell? ⟨P, 1, none⟩ = some (.int .i64 q) := by rw [C1, hq]; rfl
        clear hb hst c0 c1
        generalize (w.drewN nq).setCell ⟨P, 1, none⟩ (.int .i64 ((p : Int) + m)) = wd at H2 C0 C1 ⊢
        obtain ⟨i0, hi0, hz0, hz1, hz2⟩ := info_parts u8_info
        obtain ⟨A', hmid, hA'⟩ := run_mid (P := Try.prog) (t := 32) Try.underlying32 hi0 hz1 A L c p q .i64 .i64 ((q : Int) - m) q (by omega) rfl (by omega) (by have := HS.out; omega)
        rw [show q - p = m from by omega] at hmid
        have b0 : (0 : Int) ≤ (q : Int) - m := by omega
        have b1 : (q : Int) ≤ (c : Int) := by have := HS.out; omega
        have b2 : (q : Int) - m ≤ (q : Int) := by omega
        have hw2 : IntKind.i64.wrap ((q : Int) - m) = (q : Int) - m := by rw [IntKind.wrap_i64]; have := HS.out; omega
        have hm47 : m ≤ 140737488351232 := by have := HS.out; omega
        have hrm : Rd wd A' m (bys ((s.l.drop p).take m)) := H2.out.1.2.1.mid (by show p + m ≤ s.l.length; rw [HLP.out.1]; have := HS.out; omega) (fun h => hA' (by omega))
        have HA := Lib.hid (And.intro hrm hq)
        clear hA' d1 d2 d3 c2 f1 hrm hq hwr
        go_cut [4] (fun s4 wx => wx.ownsRow w.heap.size 5 1 s4 m (bys ((s.l.drop p).take m)) ∧ Below wd.heap.size wd wx)
        case first =>
          go_region_held3 (fun w' => w'.cell? ⟨P, 0, none⟩ = some (.slice A L c) ∧ w'.cell? ⟨P, 1, none⟩ = some (.int .i64 q))
            (first | go_keep | exact S2.out | exact ⟨C0, C1⟩)
            ((refine step_append_rd (by rfl) (.tmp 14) (.tmp 29) _ (by rfl) wd.heap.size 5 i0 _ 1 1 Try.underlying32 hi0 hz0 hz1 hz2 rfl (by omega) _ 0 [] (by rfl) (own_new0 wd _ _ (Nat.le_refl _)) A' m (c - p) _ (by rfl) (by rw [Nat.mul_one]; exact HA.out.1.drew.alloc _) (bys_one _) (by simp only [maxLen]; omega) (by omega) (by show wd.heap.size ≤ (wd.alloc _).heap.size; rw [World.size_alloc]; exact Nat.le_succ _) ?_; intro v1 w3 hown1 hg1 hat1; have hbw := ((Below.refl wd.heap.size wd).alloc (Nat.le_refl _) (.cells #[] 5)).drew.grown hg1 (by show wd.heap.size ≤ (wd.alloc _).heap.size; rw [World.size_alloc]; exact Nat.le_succ _) (fun k hk => ((own_new0 wd 5 _ (Nat.le_refl _)).lt k hk).1); have S1 := Lib.hid (And.intro hown1 hbw); have S2 := Lib.hid (And.intro ((hbw.cell (p := ⟨P, 0, none⟩) H2.out.1.1.lt).trans C0) ((hbw.cell (p := ⟨P, 1, none⟩) H2.out.1.1.lt).trans C1)); clear hown1 hg1 hat1 hbw))
          all_goals go_wp2_with fail
          all_goals go_meet
          all_goals (obtain ⟨o1, o2⟩ := S1.out; rw [Nat.zero_add, List.nil_append] at o1; exact ⟨own_mono o1 H2.out.2.size, o2⟩)
        case rest =>
          obtain ⟨hown, hbl⟩ := hcut
          have H3 := Lib.hid (And.intro hown hbl)
          clear hown hbl C0 C1
          go_wp2
          go_ret
          rw [RS.take_ok HE.out HM.out (by rw [HLP.out.1, HLP.out.2]; have := HS.out; omega), HLP.out.2, Int.toNat_natCast]
          have hlen : ((s.l.drop p).take m).length = m := by simp; have := HLP.out.1; have := HS.out; omega
          refine ⟨_, rfl, ?_, H2.out.1.below H3.out.2, H2.out.2.trans (Chg.of_below (S := fun k => k = P) H3.out.2) fun _ _ x => x⟩
          rw [hlen]
          exact H3.out.1
  · have d1 : (s.e != 0) = true := by simpa using he
    have HE := Lib.hid he
    clear he
    go_enter Try.func22, Try.ntmps22
    go_wp2
    go_ret
    rw [RS.take_e HE.out]
    exact ⟨_, rfl, World.ownsRow_nil _ _ _ _, H.out, Chg.refl _ _⟩
end Go.Proofs.Ytdepmogibhmdaaa
