/- Chapter 20: a graph, by what is known and the sets: what each call comes to. -/
import Derived.Test.YtidoembkcaojoaaPl20
namespace Go.Proofs.Ytidoembkcaojoaa
open Go.RowKit
set_option linter.unusedVariables false
structure Gr (w : World) (base G : Nat) (tag : Nat → Option Nat) (L : GL) (kn : List Bool) (sets : List (List Int)) (most : Int) : Prop where
  gm : Gm w base G tag L (gOf kn sets most)
  ss : Ssets kn.length sets
  sz : sets.length ≤ 100000
section
variable {w w' : World} {base G : Nat} {tag : Nat → Option Nat} {L : GL} {kn : List Bool} {sets : List (List Int)} {most : Int}
theorem Gr.below (h : Gr w base G tag L kn sets most) (hb : Below w.heap.size w w') : Gr w' base G tag L kn sets most := ⟨h.gm.below hb, h.ss, h.sz⟩
theorem Gr.other (h : Gr w base G tag L kn sets most) {S : Nat → Prop} (hc : Chg S w w') (hS : ∀ b, tag b ≠ none → ¬ S b) : Gr w' base G tag L kn sets most := ⟨h.gm.other hc hS, h.ss, h.sz⟩
theorem Gr.kz (h : Gr w base G tag L kn sets most) : kn.length ≤ 65536 := h.gm.kz
theorem Gr.pl (h : Gr w base G tag L kn sets most) : (gOf kn sets most).packs.length = sets.length := by simp [gOf]
end
theorem edg_le {kn : List Bool} {sets : List (List Int)} (h : ∀ l ∈ sets, l.length ≤ 65536) : edg kn sets ≤ sets.length * 65536 := by
  unfold edg
  induction sets with
  | nil => simp
  | cons l r ih =>
    have h1 : (rst kn l).length ≤ l.length := List.length_filter_le _ _
    have h2 := h l (List.mem_cons_self ..)
    have := ih (fun m hm => h m (List.mem_cons_of_mem _ hm))
    rw [List.map_cons, List.sum_cons, List.length_cons]
    omega
theorem holds_le (sets : List (List Int)) (i : Int) : (holds sets i).length ≤ sets.length := by
  rw [holds_len]; exact List.countP_le_length
theorem wts_le (kn : List Bool) (sets : List (List Int)) (i : Nat) : (wts kn sets i).length ≤ sets.length := by
  unfold wts
  split
  · simp
  · exact holds_le _ _
/-- A strictly increasing list of numbers below k has at most k. -/
theorem asc_len {k : Nat} : ∀ {l : List Int} {last : Int}, -1 ≤ last → okS k last l = true → (l.length : Int) ≤ (k : Int) - 1 - last ∨ l = []
  | [], _, _, _ => .inr rfl
  | x :: l, last, h0, h => by
    unfold okS at h
    split at h
    · cases h
    · rename_i hc
      left
      rcases asc_len (last := x) (by omega) h with e | e
      · rw [List.length_cons]; omega
      · subst e; simp; omega
theorem Sset.len {k : Nat} {l : List Int} (h : Sset k l) : l.length ≤ k := by
  rcases asc_len (by omega) h.ok.1 with e | e
  · omega
  · rw [e]; simp
theorem unk_le (kn : List Bool) : unk kn ≤ kn.length := List.length_filter_le _ _
theorem knw_at {kn : List Bool} {i : Nat} (hi : i < kn.length) : kn[i]? = some (knw kn (i : Int)) := by
  unfold knw
  rw [Int.toNat_natCast, List.getD_eq_getElem?_getD, List.getElem?_eq_getElem hi]; rfl
section
variable {w : World} {base G : Nat} {tag : Nat → Option Nat} {L : GL} {kn : List Bool} {sets : List (List Int)} {most : Int}
def inK (kn : List Bool) (x : Int) : Bool := decide (0 ≤ x ∧ x < kn.length)
def tkE (kn : List Bool) (x : Int) : Int := if inK kn x then (if knw kn x then 11 else 0) else 3
def tkK (kn : List Bool) (x : Int) : List Bool := if inK kn x && !knw kn x then kn.set x.toNat true else kn
def tkL (kn : List Bool) (sets : List (List Int)) (x : Int) : List Int := if inK kn x && !knw kn x then (holds sets x).filter fun n => (rst (kn.set x.toNat true) (sets.getD n.toNat [])).length == 1 else []
theorem tkK_len (kn : List Bool) (x : Int) : (tkK kn x).length = kn.length := by unfold tkK; split <;> simp
def TgPost (w : World) (base G : Nat) (tag : Nat → Option Nat) (kn : List Bool) (sets : List (List Int)) (most x : Int) (e : Ending) (w' : World) : Prop :=
  ∃ v L', e = .returned (.tuple #[v, .int .i64 (tkE kn x)]) ∧ w'.ownsRow w.heap.size 3 1 v (tkL kn sets x).length (nums (tkL kn sets x)) ∧ Gr w' base G tag L' (tkK kn x) sets most ∧ Chg (fun b => tag b ≠ none) w w'
theorem last_one (h : Gr w base G tag L kn sets most) {i : Nat} (hi : i < kn.length) (hk : knw kn (i : Int) = false) {n : Int} (hn : n ∈ holds sets i) :
    lastOne (gOf kn sets most) n = ((rst (kn.set i true) (sets.getD n.toNat [])).length == 1) := by
  obtain ⟨p, rfl, hp, hm⟩ := mem_holds.1 hn
  have hS := h.ss _ (getD_mem hp)
  unfold lastOne
  rw [Int.toNat_natCast, pk_gOf, rst_set hi (hS.inR h.kz)]
  have h1 := filter_away_len (i := (i : Int)) (rst_nodup (kn := kn) hS.nodup)
  rw [if_pos (mem_rst.2 ⟨hm, hk⟩)] at h1
  rw [Bool.eq_iff_iff, beq_iff_eq, beq_iff_eq]
  show ((rst kn (sets.getD p [])).length : Int) - 1 = 1 ↔ _
  omega
theorem take_gr (h : Gr w base G tag L kn sets most) (x : Int) : Calls Try.prog 65 #[.pointer (some ⟨G, 0, none⟩), .int .i64 x] w (TgPost w base G tag kn sets most x) := by
  by_cases hx : 0 ≤ x ∧ x < kn.length
  · obtain ⟨i, rfl⟩ : ∃ i : Nat, x = i := ⟨x.toNat, by omega⟩
    have hi : i < kn.length := by omega
    have hin : inK kn (i : Int) = true := decide_eq_true hx
    have hg := knw_at hi
    cases hk : knw kn (i : Int) with
    | true =>
      rw [hk] at hg
      refine (take_known h.gm hi hg).mono ?_
      rintro e w' ⟨rfl, rfl⟩
      refine ⟨.slice none 0 0, L, ?_, ?_, ?_, Chg.refl _ _⟩
      · unfold tkE; rw [hin, hk]; rfl
      · unfold tkL; rw [hin, hk]; exact World.ownsRow_nil _ _ _ _
      · unfold tkK; rw [hin, hk]; exact h
    | false =>
      rw [hk] at hg
      have hw : (gOf kn sets most).waits i = holds sets i := wts_at hk
      have hlen := h.pl
      have hmem : ∀ n ∈ holds sets i, ∃ p : Nat, n = p ∧ p < sets.length ∧ (i : Int) ∈ sets.getD p [] := fun n hn => mem_holds.1 hn
      refine (take_ok h.gm hi hg ⟨by rw [hw]; exact holds_nodup _ _, fun n hn => ?_, fun n hn => ?_⟩ ?_ ?_).mono ?_
      · rw [hw] at hn
        obtain ⟨p, rfl, hp, _⟩ := hmem n hn
        rw [hlen]; omega
      · rw [hw] at hn
        obtain ⟨p, rfl, hp, hm⟩ := hmem n hn
        have hS := h.ss _ (getD_mem hp)
        rw [Int.toNat_natCast, pk_gOf]
        have h1 : 0 < (rst kn (sets.getD p [])).length := List.length_pos_of_mem (mem_rst.2 ⟨hm, hk⟩)
        have h2 : (rst kn (sets.getD p [])).length ≤ (sets.getD p []).length := List.length_filter_le _ _
        have h3 := hS.len
        have h4 := h.kz
        show (1 : Int) ≤ ((rst kn (sets.getD p [])).length : Int) ∧ ((rst kn (sets.getD p [])).length : Int) ≤ 1000000
        omega
      · have := edg_le (kn := kn) (sets := sets) (fun l hl => Nat.le_trans (h.ss l hl).len h.kz)
        have h2 := h.sz
        show -1000000000000 ≤ (edg kn sets : Int) ∧ (edg kn sets : Int) ≤ 1000000000000
        omega
      · have := unk_le kn
        have h2 := h.kz
        show 0 ≤ (unk kn : Int) ∧ (unk kn : Int) ≤ 1000000
        omega
      · rintro e w' ⟨v, L', rfl, h1, h2, h3⟩
        rw [hw] at h1
        have hf : (holds sets i).filter (lastOne (gOf kn sets most)) = tkL kn sets (i : Int) := by
          unfold tkL
          rw [hin, hk, Int.toNat_natCast]
          exact List.filter_congr fun n hn => last_one h hi hk hn
        rw [hf] at h1
        rw [gOf_take hi h.kz h.ss hk] at h2
        refine ⟨v, L', ?_, h1, ?_, h3⟩
        · unfold tkE; rw [hin, hk]; rfl
        · unfold tkK
          rw [hin, hk]
          exact ⟨h2, by rw [show (if (true && !false) = true then kn.set ((i : Int)).toNat true else kn).length = kn.length from by simp]; exact h.ss, h.sz⟩
  · have hin : inK kn x = false := decide_eq_false hx
    refine (take_range h.gm hx).mono ?_
    rintro e w' ⟨rfl, rfl⟩
    refine ⟨.slice none 0 0, L, ?_, ?_, ?_, Chg.refl _ _⟩
    · unfold tkE; rw [hin]; rfl
    · unfold tkL; rw [hin]; exact World.ownsRow_nil _ _ _ _
    · unfold tkK; rw [hin]; exact h
def rsL (kn : List Bool) (sets : List (List Int)) (x : Int) : List Int := if 0 ≤ x ∧ x < sets.length then rst kn (sets.getD x.toNat []) else []
def rsE (sets : List (List Int)) (x : Int) : Int := if 0 ≤ x ∧ x < sets.length then 0 else 3
theorem rest_gr (h : Gr w base G tag L kn sets most) (x : Int) : Calls Try.prog 60 #[.pointer (some ⟨G, 0, none⟩), .int .i64 x] w (LsPost w (rsL kn sets x) (rsE sets x)) := by
  have hlen := h.pl
  by_cases hx : 0 ≤ x ∧ x < sets.length
  · obtain ⟨p, rfl⟩ : ∃ p : Nat, x = p := ⟨x.toNat, by omega⟩
    have hp : p < sets.length := by omega
    have hS := h.ss _ (getD_mem hp)
    have hle : (rst kn (sets.getD p [])).length ≤ (sets.getD p []).length := List.length_filter_le _ _
    have h3 := hS.len
    have h4 := h.kz
    have e1 : rsL kn sets (p : Int) = restO (gOf kn sets most) p := by
      unfold rsL restO
      rw [if_pos hx, Int.toNat_natCast, pk_gOf]
      simp only []
      by_cases c0 : ((rst kn (sets.getD p [])).length : Int) = 0
      · rw [if_pos c0]; exact List.eq_nil_of_length_eq_zero (by omega)
      · rw [if_neg c0]
        by_cases c1 : ((rst kn (sets.getD p [])).length : Int) = 1
        · rw [if_pos c1]
          obtain ⟨a, ha⟩ := List.length_eq_one_iff.1 (show (rst kn (sets.getD p [])).length = 1 by omega)
          rw [ha, sumX_one]
          have : a ∈ rst kn (sets.getD p []) := by rw [ha]; exact List.mem_cons_self ..
          exact hS.inR h.kz a (mem_rst.1 this).1
        · rw [if_neg c1]; rfl
    have e2 : rsE sets (p : Int) = 0 := if_pos hx
    rw [e1, e2]
    refine rest_ok h.gm (by rw [hlen]; exact hp) ⟨?_, ?_, ?_⟩
    · rw [pk_gOf]
      show 0 ≤ ((rst kn (sets.getD p [])).length : Int) ∧ ((rst kn (sets.getD p [])).length : Int) ≤ 1000000
      omega
    · rw [pk_gOf]; exact ⟨hS.ok.2, by show (sets.getD p []).length ≤ _; omega⟩
    · rw [pk_gOf]; exact hS.inr
  · have e1 : rsL kn sets x = [] := if_neg hx
    have e2 : rsE sets x = 3 := if_neg hx
    rw [e1, e2]
    refine (rest_range h.gm (by rw [hlen]; exact hx)).mono ?_
    rintro e w' ⟨rfl, hb⟩
    exact ⟨_, rfl, World.ownsRow_nil _ _ _ _, hb⟩
def owL (kn : List Bool) (sets : List (List Int)) (x : Int) : List Int := if inK kn x then wts kn sets x.toNat else []
def owE (kn : List Bool) (x : Int) : Int := if inK kn x then 0 else 3
theorem of_gr (h : Gr w base G tag L kn sets most) (x : Int) : Calls Try.prog 64 #[.pointer (some ⟨G, 0, none⟩), .int .i64 x] w (LsPost w (owL kn sets x) (owE kn x)) := by
  have := of_any h.gm x
  have e1 : ofL (gOf kn sets most) x = owL kn sets x := by
    unfold ofL owL inK
    simp only [decide_eq_true_eq]; rfl
  have e2 : ofE (gOf kn sets most) x = owE kn x := by
    unfold ofE owE inK
    simp only [decide_eq_true_eq]; rfl
  rw [e1, e2] at this
  exact this
theorem unknown_gr (h : Gr w base G tag L kn sets most) : Calls Try.prog 55 #[.pointer (some ⟨G, 0, none⟩)] w fun e w' => e = .returned (.int .i64 (unk kn : Nat)) ∧ w = w' := unknown_any h.gm
theorem packets_gr (h : Gr w base G tag L kn sets most) : Calls Try.prog 40 #[.pointer (some ⟨G, 0, none⟩)] w fun e w' => e = .returned (.int .i64 (sets.length : Nat)) ∧ w = w' := by
  have := packets_any h.gm
  rw [h.pl] at this
  exact this
end
/-- What adding answers: a number, a rest, an error; the sets. -/
def adR (kn : List Bool) (sets : List (List Int)) (most : Int) (l : List Int) : Int × Int × Int :=
  if setB kn.length l = false then (0, 0, 2) else if (sets.length : Int) = most then (0, 0, 9) else (sets.length, (rst kn l).length, 0)
def adS (kn : List Bool) (sets : List (List Int)) (most : Int) (l : List Int) : List (List Int) :=
  if setB kn.length l = false then sets else if (sets.length : Int) = most then sets else sets ++ [l]
def AgrPost (w : World) (base G : Nat) (tag : Nat → Option Nat) (kn : List Bool) (sets : List (List Int)) (most : Int) (l : List Int) (e : Ending) (w' : World) : Prop :=
  e = .returned (.tuple #[.int .i64 (adR kn sets most l).1, .int .i64 (adR kn sets most l).2.1, .int .i64 (adR kn sets most l).2.2]) ∧ ∃ tag' L', Gr w' base G tag' L' kn (adS kn sets most l) most ∧ Chg (fun b => tag b ≠ none) w w' ∧ ∀ b, b < w.heap.size → tag' b = tag b
section
variable {w : World} {base G : Nat} {tag : Nat → Option Nat} {L : GL} {kn : List Bool} {sets : List (List Int)} {most : Int}
set_option maxRecDepth 100000 in
set_option maxHeartbeats 1600000 in
theorem add_bad {s : GM} (h : Gm w base G tag L s) {A : Option Addr} {n c : Nat} {l : List Int} (hr : Rd w A n (nums l)) (hn : n ≤ 1000000) (hs : setB s.known.length l = false) :
    Calls Try.prog 41 #[.pointer (some ⟨G, 0, none⟩), .slice A n c] w fun e w' => e = .returned (.tuple #[.int .i64 0, .int .i64 0, .int .i64 2]) ∧ w = w' := by
  have H := Lib.hid (And.intro h (And.intro hr (And.intro hn hs)))
  clear h hr hn hs
  go_enter Try.func41, Try.ntmps41
  go_wp2_with fail
  refine (none_made H.out.1).mono ?_
  rintro e w1 ⟨rfl, rfl⟩
  go_wp2_with fail
  refine (set_any H.out.1 H.out.2.1 H.out.2.2.1).mono ?_
  rintro e w1 ⟨rfl, rfl⟩
  rw [H.out.2.2.2]
  go_wp2
  go_ret3
  exact ⟨rfl, rfl⟩
set_option maxRecDepth 100000 in
set_option maxHeartbeats 1600000 in
theorem add_full {s : GM} (h : Gm w base G tag L s) {A : Option Addr} {n c : Nat} {l : List Int} (hr : Rd w A n (nums l)) (hn : n ≤ 1000000) (hs : setB s.known.length l = true) (hf : (s.packs.length : Int) = s.most) :
    Calls Try.prog 41 #[.pointer (some ⟨G, 0, none⟩), .slice A n c] w fun e w' => e = .returned (.tuple #[.int .i64 0, .int .i64 0, .int .i64 9]) ∧ Below w.heap.size w w' := by
  have H := Lib.hid (And.intro h (And.intro hr (And.intro hn hs)))
  have c2 := h.g.cell 2
  have c3 := h.g.cell 3
  obtain ⟨np, hnp⟩ : ∃ np, s.packs.length = np := ⟨_, rfl⟩
  obtain ⟨ms, hms⟩ : ∃ ms, s.most = ms := ⟨_, rfl⟩
  rw [hnp] at c2 hf
  rw [hms] at c3 hf
  have dm : ((np : Int) == ms) = true := by simpa using hf
  clear h hr hn hs hnp hms hf
  go_enter Try.func41, Try.ntmps41
  go_wp2_with fail
  refine (none_made H.out.1).mono ?_
  rintro e w1 ⟨rfl, rfl⟩
  go_wp2_with fail
  refine (set_any H.out.1 H.out.2.1 H.out.2.2.1).mono ?_
  rintro e w1 ⟨rfl, rfl⟩
  rw [H.out.2.2.2]
  go_wp2_with fail
  go_quiet (fail)
  go_wp2
  go_ret3
  exact ⟨rfl, below_dN (Below.refl _ _) _⟩
theorem add_gr (h : Gr w base G tag L kn sets most) {A : Option Addr} {n c : Nat} {l : List Int} (hr : Rd w A n (nums l)) (hn : n ≤ 1000000) (hA : 0 < n → ∀ a, A = some a → tag a.block = none) (hs : sets.length < 100000) :
    Calls Try.prog 41 #[.pointer (some ⟨G, 0, none⟩), .slice A n c] w (AgrPost w base G tag kn sets most l) := by
  have hl : l.length = n := by have := hr.1; simpa [nums_length] using this
  have hlen := h.pl
  cases hb : setB kn.length l with
  | false =>
    refine (add_bad h.gm hr hn hb).mono ?_
    rintro e w' ⟨rfl, rfl⟩
    refine ⟨?_, tag, L, ?_, Chg.refl _ _, fun _ _ => rfl⟩
    · unfold adR; rw [if_pos hb]
    · unfold adS; rw [if_pos hb]; exact h
  | true =>
    by_cases hf : (sets.length : Int) = most
    · refine (add_full h.gm hr hn hb (by rw [hlen]; exact hf)).mono ?_
      rintro e w' ⟨rfl, hbl⟩
      refine ⟨?_, tag, L, ?_, Chg.of_below hbl, fun _ _ => rfl⟩
      · unfold adR; rw [if_neg (by rw [hb]; simp), if_pos hf]
      · unfold adS; rw [if_neg (by rw [hb]; simp), if_pos hf]; exact h.below hbl
    · have hS : Sset kn.length l := hb
      have h3 := hS.len
      have h4 := h.kz
      refine (add_ok h.gm hr (by omega) (hA (by have := hS.ok.2; omega)) hb (by rw [hlen]; exact hf) (by rw [hlen]; exact h.sz) (fun i => Nat.le_trans (wts_le _ _ _) h.sz) ?_).mono ?_
      · have := edg_le (kn := kn) (sets := sets) (fun l hl => Nat.le_trans (h.ss l hl).len h.kz)
        have h2 := h.sz
        show -1000000000000 ≤ (edg kn sets : Int) ∧ (edg kn sets : Int) ≤ 1000000000000
        omega
      · rintro e w' ⟨rfl, tag', L', h1, h2, h5⟩
        rw [gOf_add hS] at h1
        refine ⟨?_, tag', L', ?_, h2, h5⟩
        · unfold adR; rw [if_neg (by rw [hb]; simp), if_neg hf, hlen]; rfl
        · unfold adS
          rw [if_neg (by rw [hb]; simp), if_neg hf]
          exact ⟨h1, fun m hm => by
            rcases List.mem_append.1 hm with e | e
            · exact h.ss m e
            · rw [List.mem_singleton] at e; subst e; exact hS, by simp; omega⟩
end
def NgrPost (w : World) (k most : Int) (e : Ending) (w' : World) : Prop :=
  if bad k most then e = .returned (.tuple #[.pointer none, .int .i64 3]) ∧ w' = w
  else ∃ G tag L, e = .returned (.tuple #[.pointer (some ⟨G, 0, none⟩), .int .i64 0]) ∧ Gr w' w.heap.size G tag L (List.replicate k.toNat false) [] most ∧ Below w.heap.size w w'
theorem new_gr {w : World} (k most : Int) : Calls Try.prog 37 #[.int .i64 k, .int .i64 most] w (NgrPost w k most) := by
  refine (new_any k most).mono ?_
  intro e w' h
  unfold NgPost at h
  unfold NgrPost
  split
  · rename_i hb; rw [if_pos hb] at h; exact h
  · rename_i hb
    rw [if_neg hb] at h
    obtain ⟨G, KB, WB, rfl, h1, h2⟩ := h
    rw [gOf_zero] at h1
    exact ⟨G, _, _, rfl, ⟨h1, fun l hl => by simp at hl, by simp⟩, h2⟩
end Go.Proofs.Ytidoembkcaojoaa
