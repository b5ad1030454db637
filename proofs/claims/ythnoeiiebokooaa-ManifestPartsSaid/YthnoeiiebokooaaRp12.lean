/- Chapter 12: the document's put, Put. -/
import Derived.Test.YthnoeiiebokooaaPv12
namespace Go.Proofs.Ythnoeiiebokooaa
open Go.RowKit
set_option linter.unusedVariables false
theorem bebs_get (n : Int) {wd k : Nat} (h0 : 0 < k) (hk : k ≤ wd) : (bebs wd n).take (wd - (k - 1)) = (bebs wd n).take (wd - k) ++ [byt n (k - 1)] := by
  have h1 : wd - k < (bebs wd n).length := by rw [bebs_length]; omega
  rw [show wd - (k - 1) = (wd - k) + 1 from by omega, List.take_succ_eq_append_getElem h1]
  congr 2
  simp only [bebs, List.getElem_map, List.getElem_range]
  congr 1
  omega
def RpPost (w : World) (base : Nat) (l : List UInt8) (e : Ending) (w' : World) : Prop :=
  ∃ A' c', e = .returned (.slice A' l.length c') ∧ w'.ownsRow base 5 1 (.slice A' l.length c') l.length (bys l) ∧ Below base w w'
set_option maxRecDepth 100000 in
set_option maxHeartbeats 1600000 in
/-- put -/
theorem rput_any {w : World} {base c L : Nat} {A : Option Addr} {l : List UInt8} (h : w.ownsRow base 5 1 (.slice A L c) L (bys l)) (hL : l.length = L) (hb : base ≤ w.heap.size) {wd : Nat} (hw : wd ≤ 8) (hl : L + wd ≤ 100000) {n : Int} (n0 : 0 ≤ n) (n1 : n ≤ 9223372036854775807) :
    Calls Try.prog 40 #[.slice A L c, .int .i64 wd, .int .i64 n] w (RpPost w base (l ++ bebs wd n)) := by
  have H := Lib.hid (And.intro h (And.intro hL hb))
  obtain ⟨i0, hi0, hz0, hz1, hz2⟩ := info_parts u8_info
  clear h hL hb
  go_enter Try.func40, Try.ntmps40
  go_wp2
  go_loopw [0, 7] (fun v x wr => ∃ (k : Nat) (A' : Option Addr) (c' : Nat), k ≤ wd ∧ x = .int .i64 ((k : Int) - 1) ∧ v = .slice A' (L + (wd - k)) c' ∧ wr.ownsRow base 5 1 (.slice A' (L + (wd - k)) c') (L + (wd - k)) (bys (l ++ (bebs wd n).take (wd - k))) ∧ Below base w wr) (fun v x wr => ((intOf x) + 1).toNat)
  case atStart => exact ⟨wd, A, c, Nat.le_refl _, by first | rfl | (congr 1; omega), by rw [Nat.sub_self]; rfl, by rw [Nat.sub_self, List.take_zero, List.append_nil]; exact H.out.1, Below.refl _ _⟩
  case round =>
    obtain ⟨k, A', c', hk, rfl, rfl, hown, hbl⟩ := hrel
    by_cases h0 : 0 < k
    · have d4 : decide ((k : Int) - 1 ≥ 0) = true := by simp; omega
      have d5 : decide (0 ≤ (k : Int) - 1) = true := by simp; omega
      obtain ⟨M, hM⟩ : ∃ M, L + (wd - k) = M := ⟨_, rfl⟩
      rw [hM] at hown ⊢
      obtain ⟨X, hX⟩ : ∃ X, l ++ (bebs wd n).take (wd - k) = X := ⟨_, rfl⟩
      rw [hX] at hown
      have hya : bys X ++ [Value.int .u8 (n / 2 ^ (8 * (k - 1)) % 256)] = bys (X ++ [byt n (k - 1)]) := by rw [bys_append, ← byt_toNat]; rfl
      have HO := Lib.hid (And.intro hown (And.intro hbl (And.intro hM (And.intro hX hya))))
      have hM1 : M ≤ 100000 := by omega
      have hBs : base ≤ wr.heap.size := Nat.le_trans H.out.2.2 hbl.size
      clear hown hbl hM hX hya
      have hba : Below wr.heap.size wr (wr.alloc (.cells #[.int .u8 (n / 2 ^ (8 * (k - 1)) % 256)] 5)) := (Below.refl wr.heap.size wr).alloc (Nat.le_refl _) _
      have HA := Lib.hid hba
      clear hba
      go_wp2_with (at_builtin; refine wpList_append_rd _ rfl (.tmp 14) (.tmp 21) _ rfl base 5 i0 _ 1 1 Try.underlying22 hi0 hz0 hz1 hz2 rfl (by omega) _ M _ rfl (own_below HO.out.1 HA.out) (some ⟨wr.heap.size, 0, none⟩) 1 1 _ rfl (Rd.one _ _ _) (by simp [Value.oneCell']) (by simp only [maxLen]; omega) (by omega) (by rw [World.size_alloc]; exact Nat.le_succ_of_le hBs) ?_; intro v1 w1 hown1 hg1 hat1; rw [HO.out.2.2.2.2] at hown1; obtain ⟨A1, c1', rfl, hd, hd2, hd3, hB⟩ := own_form hown1; have hb := (HO.out.2.1.alloc hBs (.cells #[.int .u8 (n / 2 ^ (8 * (k - 1)) % 256)] 5)).grown hg1 (by rw [World.size_alloc]; exact Nat.le_succ_of_le hBs) (fun g hk => ((own_below HO.out.1 HA.out).lt g hk).1); have HF := Lib.hid (And.intro hown1 hb); clear hown1 hg1 hat1 hd hd2 hd3 hB hb)
      refine ⟨⟨k - 1, A1, c1', by omega, by congr 1; omega, by congr 1; have := HO.out.2.2.1; omega, ?_, HF.out.2⟩, by simp [intOf]; omega⟩
      have ho := HF.out.1
      rw [← HO.out.2.2.2.1, List.append_assoc, ← bebs_get n h0 hk] at ho
      rw [show L + (wd - (k - 1)) = M + 1 from by have := HO.out.2.2.1; omega]
      exact ho
    · obtain rfl : k = 0 := by omega
      have d4 : decide ((((0 : Nat) : Int)) - 1 ≥ 0) = false := by simp
      have HO := Lib.hid (And.intro hown hbl)
      clear hown hbl
      go_wp2
      go_ret
      have ho := HO.out.1
      rw [Nat.sub_zero, List.take_of_length_le (by rw [bebs_length]; omega), ← H.out.2.1, show l.length + wd = (l ++ bebs wd n).length from by rw [List.length_append, bebs_length]] at ho
      exact ⟨_, _, by rw [Nat.sub_zero, List.length_append, bebs_length, H.out.2.1]; rfl, ho, HO.out.2⟩
end Go.Proofs.Ythnoeiiebokooaa
