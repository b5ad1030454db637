/- Chapter 31: long. -/
import Derived.Test.YtknpghemogfenaaAr31
import Derived.Deep.CutBlock
import Derived.Deep.DeepCutAuto
namespace Go.Proofs.Ytknpghemogfenaa
open Go.Conc Go.RowKit
set_option linter.unusedVariables false
theorem rd_block {w : World} {A : Option Addr} {n : Nat} {xs : List Value} (h : Rd w A n xs) : 0 < n → ∀ a, A = some a → a.block < w.heap.size := fun h0 a ha => by
  obtain ⟨b, off, e, hb, _⟩ := h.form h0
  rw [ha] at e; cases e; exact hb
theorem rd_cell {α : Type} {f : α → List Value} {k : Nat} (hf : ∀ a, (f a).length = k) {w : World} {A : Option Addr} {l : List α} (h : Rd w A (l.length * k) (l.flatMap f)) {j : Nat} (hj : j < l.length) (hk : 0 < k) :
    ∃ g off, A = some ⟨g, off, none⟩ ∧ ∀ r u, (f l[j])[r]? = some u → w.cell? ⟨g, off + j * k + r, none⟩ = some u := by
  obtain ⟨b, off, e, _, hc⟩ := h.form (Nat.mul_pos (by omega) hk)
  refine ⟨b, off, e, fun r u hu => ?_⟩
  have hr : r < k := by have := (List.getElem?_eq_some_iff.1 hu).1; rwa [hf] at this
  have := hc (j * k + r) u (by rw [flat_get hf hj hr]; exact hu)
  rwa [← Nat.add_assoc] at this
def big31 (n : Nat) : Bool := decide (100 < n) && decide (n ≤ 70000)
def long31 (nf : Nat) (sl : List SY) (al : List AC) : Bool := (sl.take 21).any (fun y => big31 y.n) || (al.take 61).any (fun y => big31 y.n) || (decide (60 < nf) || decide (20 < sl.length) || decide (60 < al.length))
theorem any_succ {α : Type} {p : α → Bool} {l : List α} {k : Nat} (hk : k < l.length) (h : (l.take k).any p = false) (h1 : p l[k] = false) : (l.take (k + 1)).any p = false := by
  rw [List.take_succ_eq_append_getElem hk, List.any_append, h]; simp [h1]
theorem any_big {α : Type} {p : α → Bool} {l : List α} {k n : Nat} (hk : k < l.length) (hn : k < n) (h1 : p l[k] = true) : (l.take n).any p = true := by
  rw [List.any_eq_true]
  refine ⟨l[k], ?_, h1⟩
  rw [List.mem_take_iff_getElem]
  exact ⟨k, by omega, rfl⟩
theorem take_all {α : Type} {p : α → Bool} {l : List α} {k n : Nat} (h : (l.take k).any p = false) (hk : k = l.length ∨ k = n) : (l.take n).any p = false := by
  rcases hk with rfl | rfl
  · rw [List.take_length] at h
    rw [List.any_eq_false] at h ⊢
    exact fun x hx => h x (List.mem_of_mem_take hx)
  · exact h
set_option maxRecDepth 100000 in
set_option maxHeartbeats 6400000 in
theorem long_any {w : World} {A0 A1 A2 : Option Addr} {nf c0 c1 c2 : Nat} {sl : List SY} {al : List AC} (h1 : Rd w A1 (sl.length * 3) (sl.flatMap SY.cells)) (h2 : Rd w A2 (al.length * 4) (al.flatMap AC.cells)) :
    Calls Try.prog 10 #[.slice A0 nf c0, .slice A1 sl.length c1, .slice A2 al.length c2] w fun e w' => e = .returned (.bool (long31 nf sl al)) ∧ w' = w := by
  obtain ⟨n1, hn1⟩ : ∃ n, sl.length = n := ⟨_, rfl⟩
  obtain ⟨n2, hn2⟩ : ∃ n, al.length = n := ⟨_, rfl⟩
  have H := Lib.hid (And.intro h1 (And.intro h2 (And.intro hn1 hn2)))
  rw [hn1, hn2]
  clear h1 h2 hn1 hn2
  go_enter Try.func10, Try.ntmps10
  go_upto_block 0 with fail
  go_cut [] (fun wx => wx = w ∧ (sl.take 21).any (fun y => big31 y.n) = false)
  case first =>
    go_wp2_with fail
    go_loopw [7] (fun i wx => ∃ j : Nat, j ≤ n1 ∧ j ≤ 21 ∧ i = .int .i64 j ∧ wx = w ∧ (sl.take j).any (fun y => big31 y.n) = false) (fun i wx => n1 - (intOf i).toNat)
    case atStart => exact ⟨0, Nat.zero_le _, Nat.zero_le _, rfl, rfl, rfl⟩
    case round =>
      obtain ⟨j, hj, hj2, rfl, rfl, hany⟩ := hrel
      have HA := Lib.hid hany
      clear hany
      by_cases hlt : j < n1
      · have km : (j : Int) < (n1 : Int) := by omega
        have kd : decide ((j : Int) < (n1 : Int)) = true := decide_eq_true km
        have kd' : decide (j < n1) = true := decide_eq_true hlt
        by_cases h21 : j < 21
        · have lm : (j : Int) < 21 := by omega
          have ld : decide ((j : Int) < 21) = true := decide_eq_true lm
          have ld' : decide (j < 21) = true := decide_eq_true h21
          have hjl : j < sl.length := by rw [H.out.2.2.1]; exact hlt
          obtain ⟨g, off, rfl, hc⟩ := rd_cell (f := SY.cells) (k := 3) (fun _ => rfl) H.out.1 hjl (by decide)
          have hcell := hc 2 _ rfl
          obtain ⟨B, m, c, hy⟩ : ∃ B m c, sl[j].A = B ∧ sl[j].n = m ∧ sl[j].c = c := ⟨_, _, _, rfl, rfl, rfl⟩
          rw [hy.1, hy.2.1, hy.2.2] at hcell
          have HK := Lib.hid (And.intro hjl (And.intro hlt (And.intro h21 hy.2.1)))
          clear hc hy
          by_cases hb1 : 100 < m
          · have b1 : decide ((m : Int) > 100) = true := by simp; omega
            have b2 : decide ((100 : Int) < (m : Int)) = true := by simp; omega
            have b3 : decide (100 < m) = true := by simpa using hb1
            by_cases hb2 : m ≤ 70000
            · have q1 : decide ((m : Int) ≤ 70000) = true := by simp; omega
              have q2 : decide (m ≤ 70000) = true := by simpa using hb2
              have HL := Lib.hid (any_big (p := fun y => big31 y.n) hjl (n := 21) h21 (by show big31 sl[j].n = true; rw [HK.out.2.2.2]; unfold big31; rw [b3, q2]; rfl))
              clear hlt h21 hb1 hb2 hj hj2
              go_wp2_with fail
              go_ret
              exact ⟨by unfold long31; rw [HL.out]; rfl, rfl⟩
            · have q1 : decide ((m : Int) ≤ 70000) = false := by simp; omega
              have q2 : decide (m ≤ 70000) = false := by simpa using hb2
              have HL := Lib.hid (any_succ (p := fun y => big31 y.n) hjl HA.out (by show big31 sl[j].n = false; rw [HK.out.2.2.2]; unfold big31; rw [q2, Bool.and_false]))
              clear hlt h21 hb1 hb2 hj hj2
              go_wp2_with fail
              exact ⟨⟨j + 1, by have := HK.out; omega, by have := HK.out; omega, by go_num, trivial, HL.out⟩, by have := HK.out; simp [intOf]; omega⟩
          · have b1 : decide ((m : Int) > 100) = false := by simp; omega
            have b2 : decide ((100 : Int) < (m : Int)) = false := by simp; omega
            have b3 : decide (100 < m) = false := by simpa using hb1
            have HL := Lib.hid (any_succ (p := fun y => big31 y.n) hjl HA.out (by show big31 sl[j].n = false; rw [HK.out.2.2.2]; unfold big31; rw [b3, Bool.false_and]))
            clear hlt h21 hb1 hj hj2
            go_wp2_with fail
            exact ⟨⟨j + 1, by have := HK.out; omega, by have := HK.out; omega, by go_num, trivial, HL.out⟩, by have := HK.out; simp [intOf]; omega⟩
        · have lm : ¬ (j : Int) < 21 := by omega
          have ld : decide ((j : Int) < 21) = false := decide_eq_false lm
          have ld' : decide (j < 21) = false := decide_eq_false h21
          obtain rfl : j = 21 := by omega
          clear hlt hj hj2
          go_wp2_with fail
          go_meet
          exact ⟨rfl, HA.out⟩
      · obtain rfl : j = n1 := by omega
        have kd : decide ((j : Int) < (j : Int)) = false := decide_eq_false (by omega)
        have kd' : decide (j < j) = false := decide_eq_false (by omega)
        clear hlt hj hj2
        go_wp2_with fail
        go_meet
        exact ⟨rfl, take_all HA.out (.inl (by rw [H.out.2.2.1]))⟩
  case rest =>
    obtain ⟨rfl, hs⟩ := hcut
    have HS := Lib.hid hs
    clear hs
    go_upto_block 2 with fail
    go_cut [] (fun wx => wx = wc ∧ (al.take 61).any (fun y => big31 y.n) = false)
    case first =>
      go_wp2_with fail
      go_loopw [9] (fun i wx => ∃ j : Nat, j ≤ n2 ∧ j ≤ 61 ∧ i = .int .i64 j ∧ wx = wc ∧ (al.take j).any (fun y => big31 y.n) = false) (fun i wx => n2 - (intOf i).toNat)
      case atStart => exact ⟨0, Nat.zero_le _, Nat.zero_le _, rfl, rfl, rfl⟩
      case round =>
        obtain ⟨j, hj, hj2, rfl, rfl, hany⟩ := hrel
        have HA := Lib.hid hany
        clear hany
        by_cases hlt : j < n2
        · have km : (j : Int) < (n2 : Int) := by omega
          have kd : decide ((j : Int) < (n2 : Int)) = true := decide_eq_true km
          have kd' : decide (j < n2) = true := decide_eq_true hlt
          by_cases h21 : j < 61
          · have lm : (j : Int) < 61 := by omega
            have ld : decide ((j : Int) < 61) = true := decide_eq_true lm
            have ld' : decide (j < 61) = true := decide_eq_true h21
            have hjl : j < al.length := by rw [H.out.2.2.2]; exact hlt
            obtain ⟨g, off, rfl, hc⟩ := rd_cell (f := AC.cells) (k := 4) (fun _ => rfl) H.out.2.1 hjl (by decide)
            have hcell := hc 3 _ rfl
            obtain ⟨B, m, c, hy⟩ : ∃ B m c, al[j].A = B ∧ al[j].n = m ∧ al[j].c = c := ⟨_, _, _, rfl, rfl, rfl⟩
            rw [hy.1, hy.2.1, hy.2.2] at hcell
            have HK := Lib.hid (And.intro hjl (And.intro hlt (And.intro h21 hy.2.1)))
            clear hc hy
            by_cases hb1 : 100 < m
            · have b1 : decide ((m : Int) > 100) = true := by simp; omega
              have b2 : decide ((100 : Int) < (m : Int)) = true := by simp; omega
              have b3 : decide (100 < m) = true := by simpa using hb1
              by_cases hb2 : m ≤ 70000
              · have q1 : decide ((m : Int) ≤ 70000) = true := by simp; omega
                have q2 : decide (m ≤ 70000) = true := by simpa using hb2
                have HL := Lib.hid (any_big (p := fun y => big31 y.n) hjl (n := 61) h21 (by show big31 al[j].n = true; rw [HK.out.2.2.2]; unfold big31; rw [b3, q2]; rfl))
                clear hlt h21 hb1 hb2 hj hj2
                go_wp2_with fail
                go_ret
                exact ⟨by unfold long31; rw [HL.out]; simp, rfl⟩
              · have q1 : decide ((m : Int) ≤ 70000) = false := by simp; omega
                have q2 : decide (m ≤ 70000) = false := by simpa using hb2
                have HL := Lib.hid (any_succ (p := fun y => big31 y.n) hjl HA.out (by show big31 al[j].n = false; rw [HK.out.2.2.2]; unfold big31; rw [q2, Bool.and_false]))
                clear hlt h21 hb1 hb2 hj hj2
                go_wp2_with fail
                exact ⟨⟨j + 1, by have := HK.out; omega, by have := HK.out; omega, by go_num, trivial, HL.out⟩, by have := HK.out; simp [intOf]; omega⟩
            · have b1 : decide ((m : Int) > 100) = false := by simp; omega
              have b2 : decide ((100 : Int) < (m : Int)) = false := by simp; omega
              have b3 : decide (100 < m) = false := by simpa using hb1
              have HL := Lib.hid (any_succ (p := fun y => big31 y.n) hjl HA.out (by show big31 al[j].n = false; rw [HK.out.2.2.2]; unfold big31; rw [b3, Bool.false_and]))
              clear hlt h21 hb1 hj hj2
              go_wp2_with fail
              exact ⟨⟨j + 1, by have := HK.out; omega, by have := HK.out; omega, by go_num, trivial, HL.out⟩, by have := HK.out; simp [intOf]; omega⟩
          · have lm : ¬ (j : Int) < 61 := by omega
            have ld : decide ((j : Int) < 61) = false := decide_eq_false lm
            have ld' : decide (j < 61) = false := decide_eq_false h21
            obtain rfl : j = 61 := by omega
            clear hlt hj hj2
            go_wp2_with fail
            go_meet
            exact ⟨rfl, HA.out⟩
        · obtain rfl : j = n2 := by omega
          have kd : decide ((j : Int) < (j : Int)) = false := decide_eq_false (by omega)
          have kd' : decide (j < j) = false := decide_eq_false (by omega)
          clear hlt hj hj2
          go_wp2_with fail
          go_meet
          exact ⟨rfl, take_all HA.out (.inl (by rw [H.out.2.2.2]))⟩
    case rest =>
      obtain ⟨rfl, ha⟩ := hcut
      have HE := Lib.hid (show long31 nf sl al = (decide (60 < nf) || decide (20 < n1) || decide (60 < n2)) from by unfold long31; rw [HS.out, ha, H.out.2.2.1, H.out.2.2.2]; rfl)
      clear ha
      by_cases g1 : 60 < nf
      · have d1 : decide ((nf : Int) > 60) = true := by simp; omega
        have d2 : decide ((60 : Int) < (nf : Int)) = true := by simp; omega
        have d3 : decide (60 < nf) = true := by simpa using g1
        have HF := Lib.hid d3
        clear g1
        go_wp2_with fail
        go_ret
        exact ⟨by rw [HE.out, HF.out]; rfl, rfl⟩
      · have d1 : decide ((nf : Int) > 60) = false := by simp; omega
        have d2 : decide ((60 : Int) < (nf : Int)) = false := by simp; omega
        have d3 : decide (60 < nf) = false := by simpa using g1
        by_cases g2 : 20 < n1
        · have e1 : decide ((n1 : Int) > 20) = true := by simp; omega
          have e2 : decide ((20 : Int) < (n1 : Int)) = true := by simp; omega
          have e3 : decide (20 < n1) = true := by simpa using g2
          have HF := Lib.hid e3
          clear g1 g2
          go_wp2_with fail
          go_ret
          exact ⟨by rw [HE.out, HF.out]; simp, rfl⟩
        · have e1 : decide ((n1 : Int) > 20) = false := by simp; omega
          have e2 : decide ((20 : Int) < (n1 : Int)) = false := by simp; omega
          have e3 : decide (20 < n1) = false := by simpa using g2
          have HF := Lib.hid (And.intro d3 e3)
          clear g1 g2
          go_wp2_with fail
          go_ret
          exact ⟨by rw [HE.out, HF.out.1, HF.out.2]; simp; omega, rfl⟩
end Go.Proofs.Ytknpghemogfenaa
