/- Chapter 20: a graph in memory; what its readers come to. -/
import Derived.Test.YtidoembkcaojoaaE14
namespace Go.Proofs.Ytidoembkcaojoaa
open Go.RowKit
set_option linter.unusedVariables false
/-- A graph: what is known, who waits, the packets (set, how many are unknown, their sum), three numbers. -/
structure GM where
  known : List Bool
  waits : Nat → List Int
  packs : List (List Int × Int × Int)
  most : Int
  unknown : Int
  edges : Int
/-- Where its parts lie. -/
structure GL where
  KB : Nat
  WB : Nat
  wa : Nat → Option Addr
  wc : Nat → Nat
  PA : Option Addr
  pc : Nat
  sa : Nat → Option Addr
  sc : Nat → Nat
def pk (s : GM) (p : Nat) : List Int × Int × Int := s.packs.getD p ([], 0, 0)
def wcell (L : GL) (s : GM) (i : Nat) : Value := .slice (L.wa i) (s.waits i).length (L.wc i)
def pcell (L : GL) (s : GM) (p : Nat) : List Value := [.slice (L.sa p) (pk s p).1.length (L.sc p), .int .i64 (pk s p).2.1, .int .i64 (pk s p).2.2]
def pcells (L : GL) (s : GM) : List Value := (List.range s.packs.length).flatMap (pcell L s)
def bools (l : List Bool) : List Value := l.map .bool
theorem flat3_length {f : Nat → List Value} (hf : ∀ i, (f i).length = 3) : ∀ n, ((List.range n).flatMap f).length = n * 3
  | 0 => rfl
  | n + 1 => by rw [List.range_succ, List.flatMap_append, List.length_append, flat3_length hf n]; simp [hf]; omega
theorem flat3_get {f : Nat → List Value} (hf : ∀ i, (f i).length = 3) : ∀ {n p j : Nat}, p < n → j < 3 → ((List.range n).flatMap f)[p * 3 + j]? = (f p)[j]?
  | 0, p, j, h, _ => by omega
  | n + 1, p, j, h, hj => by
    rw [List.range_succ, List.flatMap_append]
    rcases Nat.lt_or_ge p n with h1 | h1
    · rw [List.getElem?_append_left (by rw [flat3_length hf]; omega)]
      exact flat3_get hf h1 hj
    · obtain rfl : p = n := by omega
      rw [List.getElem?_append_right (by rw [flat3_length hf]; omega), flat3_length hf, show p * 3 + j - p * 3 = j from by omega]
      simp
theorem pcells_length (L : GL) (s : GM) : (pcells L s).length = s.packs.length * 3 := flat3_length (fun _ => rfl) _
theorem pcells_get (L : GL) (s : GM) {p j : Nat} (h : p < s.packs.length) (hj : j < 3) : (pcells L s)[p * 3 + j]? = (pcell L s p)[j]? := flat3_get (fun _ => rfl) h hj
/-- A graph in memory. 'tag' tells each block of it apart. -/
structure Gm (w : World) (base G : Nat) (tag : Nat → Option Nat) (L : GL) (s : GM) : Prop where
  g : Bk w G 93 [.slice (some ⟨L.KB, 0, none⟩) s.known.length s.known.length, .slice (some ⟨L.WB, 0, none⟩) s.known.length s.known.length, .slice L.PA s.packs.length L.pc, .int .i64 s.most, .int .i64 s.unknown, .int .i64 s.edges]
  kn : Bk w L.KB 4 (bools s.known)
  wt : Bk w L.WB 23 ((List.range s.known.length).map (wcell L s))
  wo : ∀ i, i < s.known.length → w.ownsRow base 3 1 (wcell L s i) (s.waits i).length (nums (s.waits i))
  po : w.ownsRow base 95 3 (.slice L.PA s.packs.length L.pc) s.packs.length (pcells L s)
  so : ∀ p, p < s.packs.length → Rd w (L.sa p) (pk s p).1.length (nums (pk s p).1)
  tG : tag G = some 0
  tK : tag L.KB = some 1
  tW : tag L.WB = some 2
  tP : ∀ a, L.PA = some a → tag a.block = some 3
  tS : ∀ p a, p < s.packs.length → L.sa p = some a → tag a.block = some 4
  tw : ∀ i a, i < s.known.length → L.wa i = some a → tag a.block = some (5 + i)
  lt : ∀ b, tag b ≠ none → base ≤ b ∧ b < w.heap.size
  bs : base ≤ w.heap.size
  most0 : s.most ≠ 0
  kz : s.known.length ≤ 65536
  pz : s.packs.length ≤ 1048576
  wz : ∀ i, (s.waits i).length ≤ 1048576
section
variable {w w' : World} {base G : Nat} {tag : Nat → Option Nat} {L : GL} {s : GM}
theorem Gm.below (h : Gm w base G tag L s) (hb : Below w.heap.size w w') : Gm w' base G tag L s :=
  { h with
    g := h.g.belowS hb, kn := h.kn.belowS hb, wt := h.wt.belowS hb, wo := fun i hi => own_below (h.wo i hi) hb, po := own_below h.po hb, so := fun p hp => (h.so p hp).below hb
    lt := fun b e => ⟨(h.lt b e).1, Nat.lt_of_lt_of_le (h.lt b e).2 hb.size⟩, bs := Nat.le_trans h.bs hb.size }
theorem own_chgv {S : Nat → Prop} {w w' : World} {base size n : Nat} {e : TypeId} {v : Value} {xs : List Value} (h : w.ownsRow base e size v n xs) (hc : Chg S w w') (hn : ∀ g, v.ownBlock = some g → ¬ S g) : w'.ownsRow base e size v n xs := by
  refine ⟨h.1, ?_⟩
  rcases h.2 with h2 | ⟨g, cap, cur, rfl, hb, hh, r⟩
  · exact .inl h2
  · exact .inr ⟨g, cap, cur, rfl, hb, (hc.2 g (Array.getElem?_eq_some_iff.1 hh).1 (hn g rfl)).trans hh, r⟩
theorem slice_block {A : Option Addr} {n c g : Nat} (h : (Value.slice A n c).ownBlock = some g) : ∃ a, A = some a ∧ a.block = g := by
  rcases A with _ | a
  · cases h
  · injection h with h; exact ⟨a, rfl, h⟩
/-- What else changes leaves a graph as it was. -/
theorem Gm.other (h : Gm w base G tag L s) {S : Nat → Prop} (hc : Chg S w w') (hS : ∀ b, tag b ≠ none → ¬ S b) : Gm w' base G tag L s :=
  { h with
    g := hc.bk h.g (hS _ (by rw [h.tG]; simp)), kn := hc.bk h.kn (hS _ (by rw [h.tK]; simp)), wt := hc.bk h.wt (hS _ (by rw [h.tW]; simp))
    wo := fun i hi => own_chgv (h.wo i hi) hc (fun g e => by obtain ⟨a, ha, rfl⟩ := slice_block e; exact hS _ (by rw [h.tw i a hi ha]; simp))
    po := own_chgv h.po hc (fun g e => by obtain ⟨a, ha, rfl⟩ := slice_block e; exact hS _ (by rw [h.tP a ha]; simp))
    so := fun p hp => hc.rd (h.so p hp) (fun a ha => hS _ (by rw [h.tS p a hp ha]; simp))
    lt := fun b e => ⟨(h.lt b e).1, Nat.lt_of_lt_of_le (h.lt b e).2 hc.size⟩, bs := Nat.le_trans h.bs hc.size }
end
/-- none -/
theorem none_made {w : World} {base G : Nat} {tag : Nat → Option Nat} {L : GL} {s : GM} (h : Gm w base G tag L s) : Calls Try.prog 56 #[.pointer (some ⟨G, 0, none⟩)] w fun e w' => e = .returned (.bool false) ∧ w = w' := by
  have c3 := h.g.cell 3
  have d0 : (s.most == 0) = false := by simpa using h.most0
  clear h
  go_enter Try.func56, Try.ntmps56
  go_wp2
  go_ret
  exact ⟨rfl, rfl⟩
/-- Unknown, Packets, Edges -/
theorem unknown_any {w : World} {base G : Nat} {tag : Nat → Option Nat} {L : GL} {s : GM} (h : Gm w base G tag L s) : Calls Try.prog 55 #[.pointer (some ⟨G, 0, none⟩)] w fun e w' => e = .returned (.int .i64 s.unknown) ∧ w = w' := by
  have H := Lib.hid h
  have c4 := h.g.cell 4
  clear h
  go_enter Try.func55, Try.ntmps55
  go_wp2_with fail
  refine (none_made H.out).mono ?_
  rintro e w1 ⟨rfl, rfl⟩
  go_wp2
  go_ret
  exact ⟨rfl, rfl⟩
theorem packets_any {w : World} {base G : Nat} {tag : Nat → Option Nat} {L : GL} {s : GM} (h : Gm w base G tag L s) : Calls Try.prog 40 #[.pointer (some ⟨G, 0, none⟩)] w fun e w' => e = .returned (.int .i64 (s.packs.length : Nat)) ∧ w = w' := by
  have H := Lib.hid h
  have c2 := h.g.cell 2
  obtain ⟨n, hn⟩ : ∃ n, s.packs.length = n := ⟨_, rfl⟩
  rw [hn] at c2 ⊢
  clear h hn
  go_enter Try.func40, Try.ntmps40
  go_wp2_with fail
  refine (none_made H.out).mono ?_
  rintro e w1 ⟨rfl, rfl⟩
  go_wp2
  go_ret
  exact ⟨rfl, rfl⟩
/-- slices.Clone of numbers -/
theorem cloneI_any {w : World} {A : Option Addr} {n c : Nat} {l : List Int} (h : Rd w A n (nums l)) (hn : n ≤ 1000000000) :
    Calls Try.prog 58 #[.slice A n c] w fun e w' => ∃ v, e = .returned v ∧ w'.ownsRow w.heap.size 3 1 v n (nums l) ∧ Below w.heap.size w w' := by
  obtain ⟨i0, hi0, hz0, hz1, hz2⟩ := info_parts u3_info
  have hnil := Lib.run_eql_slice_nil (P := Try.prog) w 23 3 A n c 0 0 Try.underlying23
  rcases A with _ | a
  · have h0 : n = 0 := by
      rcases Nat.eq_zero_or_pos n with h0 | h0
      · exact h0
      · obtain ⟨b, off, e, _⟩ := h.form h0; cases e
    subst h0
    have hl : l = [] := List.eq_nil_of_length_eq_zero (by have := h.1; simpa [nums_length] using this)
    subst hl
    go_enter Try.func58, Try.ntmps58
    go_wp2
    go_ret
    exact ⟨_, rfl, World.ownsRow_nil _ _ _ _, Below.refl _ _⟩
  · go_enter Try.func58, Try.ntmps58
    go_wp2_with (at_builtin; refine wpList_append_rd _ rfl (.tmp 5) (.tmp 6) _ rfl w.heap.size 3 i0 _ 1 8 Try.underlying23 hi0 hz0 hz1 hz2 rfl (by omega) _ 0 [] rfl (own_new0 w _ _ (Nat.le_refl _)) (some a) n c (nums l) rfl (by simpa using h.alloc _) (nums_one l) (by simp only [maxLen]; omega) (by omega) (by simp) ?_; intro v1 w1 hown1 hg1 hat1)
    go_ret
    exact ⟨v1, rfl, by simpa using hown1, ((Below.refl _ _).alloc (Nat.le_refl _) _).grown hg1 (by simp) (fun k hk => ((own_new0 w 3 _ (Nat.le_refl _)).lt k hk).1)⟩
end Go.Proofs.Ytidoembkcaojoaa
