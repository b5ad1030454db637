/- takes: items, read one behind the other. -/
import Derived.Test.YtdepmogibhmdaaaLo10
namespace Go.Proofs.Ytdepmogibhmdaaa
open Go.RowKit
set_option linter.unusedVariables false
/-- One item read: is it as it is, and what is left. -/
def tkB (s : RS) (it : It) : Bool := if it.raws then (s.take (it.b.length : Int) true).1 == it.b else (s.get it.wd).1 == it.n
def tkR (s : RS) (it : It) : RS := if it.raws then (s.take (it.b.length : Int) true).2 else (s.get it.wd).2
def tkA (s : RS) (its : List It) : RS := its.foldl tkR s
def tkV (s : RS) : List It → Bool
  | [] => true
  | it :: its => tkB s it && tkV (tkR s it) its
theorem tkA_snoc (s : RS) (its : List It) (it : It) : tkA s (its ++ [it]) = tkR (tkA s its) it := by simp [tkA]
theorem tkV_snoc : ∀ (s : RS) (its : List It) (it : It), tkV s (its ++ [it]) = (tkV s its && tkB (tkA s its) it)
  | s, [], it => by simp [tkV, tkA]
  | s, x :: its, it => by
    rw [List.cons_append]
    show (tkB s x && tkV (tkR s x) (its ++ [it])) = _
    rw [tkV_snoc (tkR s x) its it, ← Bool.and_assoc]
    rfl
theorem tkA_take {s : RS} {its : List It} {k : Nat} (h : k < its.length) : tkA s (its.take (k + 1)) = tkR (tkA s (its.take k)) its[k] := by
  rw [List.take_succ_eq_append_getElem h, tkA_snoc]
theorem tkV_take {s : RS} {its : List It} {k : Nat} (h : k < its.length) : tkV s (its.take (k + 1)) = (tkV s (its.take k) && tkB (tkA s (its.take k)) its[k]) := by
  rw [List.take_succ_eq_append_getElem h, tkV_snoc]
/-- Items in memory of one's own, whose bytes lie in a world's own memory. -/
def ItAtK (w0 w : World) (a off : Nat) (it : It) : Prop :=
  w.cell? ⟨a, off, none⟩ = some (.bool it.raws) ∧ w.cell? ⟨a, off + 1, none⟩ = some (.int .i64 it.wd) ∧ w.cell? ⟨a, off + 2, none⟩ = some (.int .i64 it.n) ∧
    ∃ B m c, w.cell? ⟨a, off + 3, none⟩ = some (.slice B m c) ∧ Rd w0 B m (bys it.b) ∧ m ≤ c ∧ m ≤ 140737488351232
def ItsK (w0 w : World) (A : Option Addr) (n : Nat) (its : List It) : Prop :=
  its.length = n ∧ (0 < n → ∃ a off, A = some ⟨a, off, none⟩ ∧ a < w.heap.size ∧ ∀ (i : Nat) (h : i < its.length), ItAtK w0 w a (off + i * 4) its[i])
theorem Chg.cell {S : Nat → Prop} {w w' : World} (h : Chg S w w') {a o : Nat} (ha : a < w.heap.size) (hS : ¬ S a) : w'.cell? ⟨a, o, none⟩ = w.cell? ⟨a, o, none⟩ := World.cell?_of_block (h.2 a ha hS)
theorem fault_field (a b : Int) (w : World) : (Instr.field 50 (.agg #[.int .i64 a, .int .i64 b]) 0).run Try.prog w = .ok (.int .i64 a) w := by kernel_rfl
def TksPost (w : World) (Q : Nat) (B : Option Addr) (d : Nat) (s : RS) (its : List It) (e : Ending) (w' : World) : Prop :=
  e = .returned (.bool (tkV s its && (tkA s its).fin.1 != 7)) ∧ Ro w' Q B d (tkA s its) ∧ Chg (fun k => k = Q) w w'
set_option maxRecDepth 100000 in
set_option maxHeartbeats 1600000 in
theorem tks_any {w0 w : World} {Q d : Nat} {B : Option Addr} {s : RS} (h : Ro w Q B d s) {A : Option Addr} {n c : Nat} {its : List It} (hits : ItsK w0 w A n its) (hA : ∀ a, A = some a → a.block ≠ Q) (hQ : w0.heap.size ≤ Q) (hb : Below w0.heap.size w0 w) (hn : n ≤ 2932031007402) :
    Calls Try.prog 32 #[.pointer (some ⟨Q, 0, none⟩), .slice A n c] w (TksPost w Q B d s its) := by
  have H := Lib.hid h
  have HI := Lib.hid (And.intro hits.2 (And.intro hA (And.intro hQ hb)))
  have HN := Lib.hid hits.1
  have hlow : ∀ w', Chg (fun k => k = Q) w w' → Below w0.heap.size w0 w' := fun w' hc => hc.below hb (fun k _ e => by omega) hb.size
  have HLow := Lib.hid hlow
  clear h hits hA hQ hb hlow
  go_enter Try.func32, Try.ntmps32
  go_wp2
  go_loopw [5, 6] (fun v i wr => ∃ k : Nat, k ≤ n ∧ i = .int .i64 k ∧ v = .bool (tkV s (its.take k)) ∧ Ro wr Q B d (tkA s (its.take k)) ∧ Chg (fun k => k = Q) w wr) (fun v i wr => n - (intOf i).toNat)
  case atStart => exact ⟨0, by omega, rfl, rfl, H.out, Chg.refl _ _⟩
  case round =>
    obtain ⟨k, hk, rfl, rfl, hro, hch⟩ := hrel
    have H3 := Lib.hid (And.intro hro hch)
    clear hro hch
    by_cases hlt : k < n
    · have hkl : k < its.length := by rw [HN.out]; exact hlt
      obtain ⟨a, off, rfl, hal, hel⟩ := HI.out.1 (by omega)
      obtain ⟨g0, g1, g2, BB, mm, cc, g3, hrd, hmc, hmm⟩ := hel k hkl
      have haQ : ¬ a = Q := HI.out.2.1 _ rfl
      have c0 := (H3.out.2.cell (o := off + k * 4) hal haQ).trans g0
      have c1 := (H3.out.2.cell (o := off + k * 4 + 1) hal haQ).trans g1
      have c2 := (H3.out.2.cell (o := off + k * 4 + 2) hal haQ).trans g2
      have c3 := (H3.out.2.cell (o := off + k * 4 + 3) hal haQ).trans g3
      have km : (k : Int) < (n : Int) := by omega
      have hbl : its[k].b.length = mm := by have := hrd.1; simpa [bys_length] using this
      obtain ⟨all, hall⟩ : ∃ b, tkV s (its.take k) = b := ⟨_, rfl⟩
      rw [hall]
      obtain ⟨s0, hs0⟩ : ∃ s0, tkA s (its.take k) = s0 := ⟨_, rfl⟩
      have h4 := H3.out.1
      rw [hs0] at h4
      have HE := Lib.hid (And.intro (tkA_take (s := s) hkl) (And.intro (tkV_take (s := s) hkl) (And.intro hall (And.intro hs0 (And.intro hbl hlt)))))
      have H4 := Lib.hid (And.intro h4 (And.intro H3.out.2 (And.intro hrd (And.intro hal haQ))))
      have HG := Lib.hid (And.intro g3 (And.intro g1 g2))
      clear hall hs0 hbl hlt hel hmc hrd h4 g0 g1 g2 g3 hal haQ
      cases hraw : its[k].raws with
      | true =>
        rw [hraw] at c0
        have hB : tkB s0 its[k] = ((s0.take (mm : Int) true).1 == its[k].b) := by unfold tkB; rw [hraw, HE.out.2.2.2.2.1]; rfl
        have hR : tkR s0 its[k] = (s0.take (mm : Int) true).2 := by unfold tkR; rw [hraw, HE.out.2.2.2.2.1]; rfl
        obtain ⟨X, hX⟩ : ∃ X, (s0.take (mm : Int) true).1 = X := ⟨_, rfl⟩
        obtain ⟨s1, hs1⟩ : ∃ s1, (s0.take (mm : Int) true).2 = s1 := ⟨_, rfl⟩
        obtain ⟨L, hL⟩ : ∃ L, X.length = L := ⟨_, rfl⟩
        rw [hX] at hB
        rw [hs1] at hR
        have HX := Lib.hid (And.intro hX (And.intro hs1 (And.intro hL (And.intro hB hR))))
        clear hX hs1 hL hB hR hraw c1 c2
        cases hq : (X == its[k].b) with
        | true =>
          have HQ := Lib.hid hq
          clear hq
          go_upto_region 6 with fail
          go_region_held3 (fun w' => w'.cell? ⟨a, off + k * 4 + 3, none⟩ = some (.slice BB mm cc))
            (first | exact K5 | exact c3)
            ((first
              | (go_at_call 21; refine (rawR_any (H4.out.1.below (Below.refl _ _).drew) (mm : Int)).mono ?_; rintro e w5 ⟨v, rfl, ho, h5, hc5⟩; rw [HX.out.1, HX.out.2.2.1] at ho; rw [HX.out.2.1] at h5; obtain ⟨P1, k1, rfl, _⟩ := own_form ho; have hc6 : Chg (fun k => k = Q) w w5 := (H4.out.2.1.trans hc5.undrew fun _ _ z => z); have K5 : w5.cell? ⟨a, off + k * 4 + 3, none⟩ = some (.slice BB mm cc) := (hc6.cell H4.out.2.2.2.1 H4.out.2.2.2.2).trans HG.out.1; have H5 := Lib.hid (And.intro h5 (And.intro hc6 (Rd.of_own ho))); clear ho h5 hc5 hc6)
              | (go_at_call 15; refine (same_any H5.out.2.2 (H4.out.2.2.1.below (HLow.out _ H5.out.2.1))).mono ?_; rintro e w6 ⟨rfl, rfl⟩; rw [HQ.out])))
          go_wp2
          refine ⟨⟨k + 1, by have := HE.out.2.2.2.2.2; omega, by go_num, ?_, ?_, H5.out.2.1⟩, by have := HE.out.2.2.2.2.2; simp [intOf]; omega⟩
          · rw [HE.out.2.1, HE.out.2.2.1, HE.out.2.2.2.1, HX.out.2.2.2.1, HQ.out, Bool.and_true]
          · rw [HE.out.1, HE.out.2.2.2.1, HX.out.2.2.2.2]; exact H5.out.1
        | false =>
          have HQ := Lib.hid hq
          clear hq
          go_upto_region 6 with fail
          first
            | (go_region_with (first
                  | (go_at_call 21; refine (rawR_any (H4.out.1.below (Below.refl _ _).drew) (mm : Int)).mono ?_; rintro e w5 ⟨v, rfl, ho, h5, hc5⟩; rw [HX.out.1, HX.out.2.2.1] at ho; rw [HX.out.2.1] at h5; obtain ⟨P1, k1, rfl, _⟩ := own_form ho; have hc6 : Chg (fun k => k = Q) w w5 := (H4.out.2.1.trans hc5.undrew fun _ _ z => z); have K5 : w5.cell? ⟨a, off + k * 4 + 3, none⟩ = some (.slice BB mm cc) := (hc6.cell H4.out.2.2.2.1 H4.out.2.2.2.2).trans HG.out.1; have H5 := Lib.hid (And.intro h5 (And.intro hc6 (Rd.of_own ho))); clear ho h5 hc5 hc6)
                  | (go_at_call 15; refine (same_any H5.out.2.2 (H4.out.2.2.1.below (HLow.out _ H5.out.2.1))).mono ?_; rintro e w6 ⟨rfl, rfl⟩; rw [HQ.out])))
            | fail
          all_goals go_wp2
          all_goals exact ⟨⟨k + 1, by have := HE.out.2.2.2.2.2; omega, by go_num, by rw [HE.out.2.1, HE.out.2.2.1, HE.out.2.2.2.1, HX.out.2.2.2.1, HQ.out, Bool.and_false], by rw [HE.out.1, HE.out.2.2.2.1, HX.out.2.2.2.2]; exact H5.out.1, H5.out.2.1⟩, by have := HE.out.2.2.2.2.2; simp [intOf]; omega⟩
      | false =>
        rw [hraw] at c0
        have hB : tkB s0 its[k] = ((s0.get its[k].wd).1 == its[k].n) := by unfold tkB; rw [hraw]; rfl
        have hR : tkR s0 its[k] = (s0.get its[k].wd).2 := by unfold tkR; rw [hraw]; rfl
        obtain ⟨X, hX⟩ : ∃ X, (s0.get its[k].wd).1 = X := ⟨_, rfl⟩
        obtain ⟨s1, hs1⟩ : ∃ s1, (s0.get its[k].wd).2 = s1 := ⟨_, rfl⟩
        rw [hX] at hB
        rw [hs1] at hR
        have HX := Lib.hid (And.intro hX (And.intro hs1 (And.intro hB hR)))
        clear hX hs1 hB hR hraw c3
        generalize hwd : its[k].wd = wd at c1
        generalize hnn : its[k].n = nn at c2
        have HW := Lib.hid (And.intro hwd hnn)
        clear hwd hnn
        cases hq : (X == nn) with
        | true =>
          go_upto_region 7 with fail
          go_region_held3 (fun w' => w'.cell? ⟨a, off + k * 4 + 1, none⟩ = some (.int .i64 wd) ∧ w'.cell? ⟨a, off + k * 4 + 2, none⟩ = some (.int .i64 nn))
            (first | exact K5 | exact ⟨c1, c2⟩)
            ((first
              | (go_at_call 23; refine (getR_any (H4.out.1.below (Below.refl _ _).drew) wd).mono ?_; rintro e w5 ⟨rfl, h5, hc5⟩; rw [← HW.out.1, HX.out.2.1] at h5; rw [← HW.out.1, HX.out.1]; have hc6 : Chg (fun k => k = Q) w w5 := (H4.out.2.1.trans hc5.undrew fun _ _ z => z); have K5 : w5.cell? ⟨a, off + k * 4 + 1, none⟩ = some (.int .i64 wd) ∧ w5.cell? ⟨a, off + k * 4 + 2, none⟩ = some (.int .i64 nn) := (by rw [← HW.out.1, ← HW.out.2]; exact ⟨(hc6.cell H4.out.2.2.2.1 H4.out.2.2.2.2).trans HG.out.2.1, (hc6.cell H4.out.2.2.2.1 H4.out.2.2.2.2).trans HG.out.2.2⟩); have H5 := Lib.hid (And.intro h5 hc6); clear h5 hc5 hc6)))
          go_wp2
          refine ⟨⟨k + 1, by have := HE.out.2.2.2.2.2; omega, by go_num, ?_, ?_, H5.out.2⟩, by have := HE.out.2.2.2.2.2; simp [intOf]; omega⟩
          · rw [HE.out.2.1, HE.out.2.2.1, HE.out.2.2.2.1, HX.out.2.2.1, HW.out.2, hq, Bool.and_true]
          · rw [HE.out.1, HE.out.2.2.2.1, HX.out.2.2.2]; exact H5.out.1
        | false =>
          go_upto_region 7 with fail
          first
            | (go_region_with (first
                  | (go_at_call 23; refine (getR_any (H4.out.1.below (Below.refl _ _).drew) wd).mono ?_; rintro e w5 ⟨rfl, h5, hc5⟩; rw [← HW.out.1, HX.out.2.1] at h5; rw [← HW.out.1, HX.out.1]; have hc6 : Chg (fun k => k = Q) w w5 := (H4.out.2.1.trans hc5.undrew fun _ _ z => z); have K5 : w5.cell? ⟨a, off + k * 4 + 1, none⟩ = some (.int .i64 wd) ∧ w5.cell? ⟨a, off + k * 4 + 2, none⟩ = some (.int .i64 nn) := (by rw [← HW.out.1, ← HW.out.2]; exact ⟨(hc6.cell H4.out.2.2.2.1 H4.out.2.2.2.2).trans HG.out.2.1, (hc6.cell H4.out.2.2.2.1 H4.out.2.2.2.2).trans HG.out.2.2⟩); have H5 := Lib.hid (And.intro h5 hc6); clear h5 hc5 hc6)))
            | fail
          all_goals go_wp2
          all_goals exact ⟨⟨k + 1, by have := HE.out.2.2.2.2.2; omega, by go_num, by rw [HE.out.2.1, HE.out.2.2.1, HE.out.2.2.2.1, HX.out.2.2.1, HW.out.2, hq, Bool.and_false], by rw [HE.out.1, HE.out.2.2.2.1, HX.out.2.2.2]; exact H5.out.1, H5.out.2⟩, by have := HE.out.2.2.2.2.2; simp [intOf]; omega⟩
    · obtain rfl : k = n := by omega
      have h4 := H3.out.1
      rw [show its.take k = its from List.take_of_length_le (by rw [HN.out]; exact Nat.le_refl _)] at h4 ⊢
      have H4 := Lib.hid (And.intro h4 H3.out.2)
      clear h4 hlt hk
      obtain ⟨all, hall⟩ : ∃ b, tkV s its = b := ⟨_, rfl⟩
      rw [hall]
      have HA := Lib.hid hall
      clear hall
      cases all with
      | false =>
        go_wp2
        go_ret
        exact ⟨ret_bool (by rw [HA.out]; rfl), H4.out.1, H4.out.2⟩
      | true =>
        go_wp2_with fail
        refine (endR_any H4.out.1).mono ?_
        rintro e w5 ⟨rfl, hb5⟩
        have H5 := Lib.hid (And.intro (H4.out.1.below hb5) (H4.out.2.trans (Chg.of_below (S := fun k => k = Q) hb5) fun _ _ z => z))
        clear hb5
        obtain ⟨x7, hx7⟩ : ∃ x, (tkA s its).fin.1 = x := ⟨_, rfl⟩
        rw [hx7]
        have HX7 := Lib.hid hx7
        clear hx7
        have hfl := fault_field
        go_wp2
        all_goals go_ret
        all_goals exact ⟨ret_bool (by rw [HA.out, HX7.out]; rfl), H5.out.1, H5.out.2⟩
end Go.Proofs.Ytdepmogibhmdaaa
