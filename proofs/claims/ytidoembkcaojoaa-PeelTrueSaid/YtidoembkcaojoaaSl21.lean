/- SameLists of artesiankit. -/
import Derived.Test.YtidoembkcaojoaaBg21
namespace Go.Proofs.Ytidoembkcaojoaa
open Go.RowKit
set_option linter.unusedVariables false
set_option maxRecDepth 100000 in
set_option maxHeartbeats 1600000 in
theorem sameLists_any {w : World} {A A' : Option Addr} {n n' c c' : Nat} {xss yss : List (List UInt8)} (h : Syms w A n xss) (h' : Syms w A' n' yss) (hn : n ≤ 1000000) :
    Calls Try.prog 24 #[.slice A n c, .slice A' n' c'] w fun e w' => e = .returned (.bool (xss == yss)) ∧ Below w.heap.size w w' := by
  have H := Lib.hid (And.intro h (And.intro h' (And.intro h.len h'.len)))
  have hn' : (n : Int) ≤ 1000000 := by omega
  clear h h' hn
  by_cases hne : n = n'
  · subst hne
    go_enter Try.func24, Try.ntmps24
    go_wp2
    go_loopw [5, 6] (fun s i wr => ∃ (k : Nat) (q : Bool), k ≤ n ∧ s = .bool q ∧ i = .int .i64 k ∧ (q = true → xss.take k = yss.take k) ∧ (q = false → (xss == yss) = false) ∧ Below w.heap.size w wr) (fun s i wr => n - (intOf i).toNat)
    case atStart => exact ⟨0, true, by omega, by simp, rfl, fun _ => rfl, fun h => absurd h (by simp), Below.refl _ _⟩
    case round =>
      obtain ⟨k, q, hk, rfl, rfl, ht, hf, hb⟩ := hrel
      cases q with
      | false =>
        have HT := Lib.hid (And.intro (hf rfl) hb)
        clear ht hf hb hk
        go_wp2_with fail
        go_ret
        exact ⟨ret_bool (by rw [HT.out.1]), HT.out.2⟩
      | true =>
        have ht := ht rfl
        by_cases hlt : k < n
        · have km : (k : Int) < (n : Int) := by omega
          have kd : decide ((k : Int) < (n : Int)) = true := decide_eq_true km
          have kd' : decide (k < n) = true := decide_eq_true hlt
          have k0 : (0 : Int) ≤ (k : Int) := by omega
          obtain ⟨a, off, B, cc, rfl, ha, c1, hr1, _, _⟩ := H.out.1.at_ hlt
          obtain ⟨a', off', B', cc', rfl, ha', c2, hr2, _, _⟩ := H.out.2.1.at_ hlt
          have c1 := (hb.cell (p := ⟨a, off + k, none⟩) ha).trans c1
          have c2 := (hb.cell (p := ⟨a', off' + k, none⟩) ha').trans c2
          have hx : k < xss.length := by rw [H.out.2.2.1]; exact hlt
          have hy : k < yss.length := by rw [H.out.2.2.2]; exact hlt
          have HQ := Lib.hid (same_any (c := cc) (c' := cc') ((hr1.below hb).drew) ((hr2.below hb).drew))
          have HT := Lib.hid (show ∀ b : Bool, (xss.getD k [] == yss.getD k []) = b → (b = true → xss.take (k + 1) = yss.take (k + 1)) ∧ (b = false → (xss == yss) = false) from fun b e => by
            rw [getD_at hx, getD_at hy] at e
            constructor
            · intro hb; subst hb
              rw [List.take_succ_eq_append_getElem hx, List.take_succ_eq_append_getElem hy, ht, eq_of_beq e]
            · intro hb; subst hb
              rw [beq_eq_false_iff_ne] at e ⊢
              intro e2; subst e2; exact e rfl)
          obtain ⟨q, hq⟩ : ∃ q, (xss.getD k [] == yss.getD k []) = q := ⟨_, rfl⟩
          have HT := Lib.hid (HT.out q hq)
          rw [hq] at HQ
          generalize (xss.getD k []).length = m1 at c1 HQ
          generalize (yss.getD k []).length = m2 at c2 HQ
          have HB := Lib.hid (And.intro hb hlt)
          clear hr1 hr2 hx hy hq hb hlt ht hf ha ha' hk
          go_wp2_with fail
          go_still_tail 8, (by kernel_rfl)
          change wpList _ _ _ _ _ wr.drew
          go_wp2_with fail
          refine HQ.out.mono ?_
          rintro e w8 ⟨rfl, rfl⟩
          go_wp2_with fail
          exact ⟨⟨k + 1, q, by have := HB.out.2; omega, rfl, by go_num, HT.out.1, HT.out.2, HB.out.1.drew⟩, by have := HB.out.2; simp [intOf]; omega⟩
        · obtain rfl : k = n := by omega
          have kd : decide ((k : Int) < (k : Int)) = false := decide_eq_false (by omega)
          have kd' : decide (k < k) = false := decide_eq_false (by omega)
          have HT := Lib.hid (And.intro (show (xss == yss) = true from by
            rw [List.take_of_length_le (by rw [H.out.2.2.1]; exact Nat.le_refl _), List.take_of_length_le (by rw [H.out.2.2.2]; exact Nat.le_refl _)] at ht
            rw [ht]; simp) hb)
          clear hlt hk ht hf hb
          go_wp2_with fail
          go_ret
          exact ⟨ret_bool (by rw [HT.out.1]), HT.out.2⟩
  · have hd : ((n : Int) == (n' : Int)) = false := by simp; omega
    have hd1 : decide ((n : Int) = (n' : Int)) = false := decide_eq_false (by omega)
    have hd2 : decide (n = n') = false := decide_eq_false hne
    have HT := Lib.hid (show (xss == yss) = false from by
      rw [beq_eq_false_iff_ne]
      intro e; subst e
      have := H.out.2.2.1; have := H.out.2.2.2; omega)
    clear hne
    go_enter Try.func24, Try.ntmps24
    go_wp2
    go_loopw [5, 6] (fun s i wr => s = .bool false ∧ i = .int .i64 0 ∧ wr = w) (fun s i wr => 0)
    case atStart => exact ⟨rfl, rfl, by first | rfl | trivial⟩
    case round =>
      obtain ⟨rfl, rfl, rfl⟩ := hrel
      go_wp2_with fail
      go_ret
      exact ⟨ret_bool (by rw [HT.out]), Below.refl _ _⟩
end Go.Proofs.Ytidoembkcaojoaa
