/- Chapter 20: Rest. -/
import Derived.Test.YtidoembkcaojoaaRs20
namespace Go.Proofs.Ytidoembkcaojoaa
open Go.RowKit
set_option linter.unusedVariables false
def restO (s : GM) (p : Nat) : List Int := if (pk s p).2.1 = 0 then [] else if (pk s p).2.1 = 1 then [(pk s p).2.2] else rst s.known (pk s p).1
structure Ok1 (s : GM) (p : Nat) : Prop where
  many : 0 ≤ (pk s p).2.1 ∧ (pk s p).2.1 ≤ 1000000
  set0 : 0 < (pk s p).1.length ∧ (pk s p).1.length ≤ 1000000
  inr : ∀ x ∈ (pk s p).1, 0 ≤ x ∧ x < s.known.length
set_option maxRecDepth 100000 in
set_option maxHeartbeats 1600000 in
theorem rest_range {w : World} {base G : Nat} {tag : Nat → Option Nat} {L : GL} {s : GM} (h : Gm w base G tag L s) {x : Int} (hx : ¬ (0 ≤ x ∧ x < s.packs.length)) :
    Calls Try.prog 60 #[.pointer (some ⟨G, 0, none⟩), .int .i64 x] w fun e w' => e = .returned (.tuple #[.slice none 0 0, .int .i64 3]) ∧ Below w.heap.size w w' := by
  have hb1 := (Below.refl w.heap.size w).alloc (Nat.le_refl _) (.cells #[.pointer (some ⟨G, 0, none⟩)] 62)
  have h1 := h.below hb1
  have H := Lib.hid (And.intro h1 hb1)
  have c2 := h1.g.cell 2
  have hkz := h.pz
  obtain ⟨k, hk⟩ : ∃ k, s.packs.length = k := ⟨_, rfl⟩
  rw [hk] at c2 hkz hx
  clear h hk h1 hb1
  by_cases h0 : x < 0
  · have d1 : decide (x < 0) = true := by simpa using h0
    clear hx h0
    go_enter Try.func60, Try.ntmps60
    go_wp2_with fail
    refine (none_made H.out.1).mono ?_
    rintro e w1 ⟨rfl, rfl⟩
    go_wp2
    go_ret2
    exact ⟨rfl, H.out.2⟩
  · have d1 : decide (x < 0) = false := by simpa using h0
    have d2 : decide (x ≥ (k : Int)) = true := by simp; omega
    have d3 : decide ((k : Int) ≤ x) = true := by simp; omega
    clear hx h0
    go_enter Try.func60, Try.ntmps60
    go_wp2_with fail
    refine (none_made H.out.1).mono ?_
    rintro e w1 ⟨rfl, rfl⟩
    go_wp2
    go_ret2
    exact ⟨rfl, H.out.2⟩
set_option maxRecDepth 100000 in
set_option maxHeartbeats 1600000 in
theorem rest_ok {w : World} {base G : Nat} {tag : Nat → Option Nat} {L : GL} {s : GM} (h : Gm w base G tag L s) {p : Nat} (hp : p < s.packs.length) (ho : Ok1 s p) :
    Calls Try.prog 60 #[.pointer (some ⟨G, 0, none⟩), .int .i64 p] w (LsPost w (restO s p) 0) := by
  have hmf : ∀ (fn : Fn) (first cap : Array Value) (w : World), (Instr.makeFunc fn first cap).run Try.prog w = .ok (.func fn first cap) w := fun _ _ _ _ => rfl
  have hb1 := (Below.refl w.heap.size w).alloc (Nat.le_refl _) (.cells #[.pointer (some ⟨G, 0, none⟩)] 62)
  have h1 := h.below hb1
  have hbox := Bk.newA w 62 #[.pointer (some ⟨G, 0, none⟩)]
  have hpo := h1.po
  obtain ⟨g, cur, hPA, hpo1⟩ := own_formN hpo (by omega)
  have c2 := h1.g.cell 2
  rw [hPA] at c2 hpo
  have k0 := own_cellN hpo (i := p * 3) (by rw [pcells_length]; omega)
  have k1 := own_cellN hpo (i := p * 3 + 1) (by rw [pcells_length]; omega)
  have k2 := own_cellN hpo (i := p * 3 + 2) (by rw [pcells_length]; omega)
  rw [show (pcells L s)[p * 3]? = (pcells L s)[p * 3 + 0]? from rfl, pcells_get _ _ hp (by omega)] at k0
  rw [pcells_get _ _ hp (by omega)] at k1 k2
  unfold pcell at k0 k1 k2
  replace k0 := k0.1
  replace k1 := k1.1
  replace k2 := k2.1
  have hso := h1.so p hp
  have hkc : Kc (w.alloc (.cells #[.pointer (some ⟨G, 0, none⟩)] 62)) w.heap.size G L.KB s.known.length s.known := ⟨hbox.cell 0, h1.g.cell 0, h1.kn, rfl, h1.kz⟩
  have hGl := (h.lt G (by rw [h.tG]; simp)).2
  have hKl := (h.lt L.KB (by rw [h.tK]; simp)).2
  obtain ⟨S, hS⟩ : ∃ S, (pk s p).1 = S := ⟨_, rfl⟩
  obtain ⟨m, hm⟩ : ∃ m, (pk s p).2.1 = m := ⟨_, rfl⟩
  obtain ⟨y, hy⟩ : ∃ y, (pk s p).2.2 = y := ⟨_, rfl⟩
  obtain ⟨B, hB⟩ : ∃ B, L.sa p = B := ⟨_, rfl⟩
  obtain ⟨n, hn⟩ : ∃ n, S.length = n := ⟨_, rfl⟩
  rw [hS, hn, hB] at k0
  rw [hm] at k1
  rw [hy] at k2
  rw [hS, hB, hn] at hso
  obtain ⟨o1, o2, o3⟩ := ho
  rw [hm] at o1
  rw [hS, hn] at o2
  rw [hS] at o3
  have HR := Lib.hid (show restO s p = if m = 0 then [] else if m = 1 then [y] else rst s.known S from by unfold restO; rw [hS, hm, hy])
  obtain ⟨np, hnp⟩ : ∃ np, s.packs.length = np := ⟨_, rfl⟩
  have hnz := h.pz
  rw [hnp] at c2 hp hnz
  have d1 : decide ((p : Int) < 0) = false := by simp
  have d2 : decide ((p : Int) ≥ (np : Int)) = false := by simp; omega
  have d3 : decide ((np : Int) ≤ (p : Int)) = false := by simp; omega
  have d4 : decide (np ≤ p) = false := by simp; omega
  have hpn : (p : Int) < (np : Int) := by omega
  have H := Lib.hid (And.intro h1 (And.intro hb1 (And.intro hso (And.intro hkc (And.intro hGl (And.intro hKl (And.intro o1 (And.intro o2 (And.intro o3 hn)))))))))
  clear h h1 hb1 hbox hpo hPA hpo1 hso hkc hGl hKl hS hm hy hB hn hnp o1 o2 o3
  go_enter Try.func60, Try.ntmps60
  go_wp2_with fail
  refine (none_made H.out.1).mono ?_
  rintro e w1 ⟨rfl, rfl⟩
  by_cases h0 : m = 0
  · subst h0
    rw [if_pos rfl] at HR
    go_wp2
    go_ret2
    exact ⟨_, rfl, by rw [HR.out]; exact World.ownsRow_nil _ _ _ _, H.out.2.1.alloc H.out.2.1.size _⟩
  · by_cases h1 : m = 1
    · subst h1
      rw [if_neg h0, if_pos rfl] at HR
      go_wp2
      go_ret2
      have hb2 := H.out.2.1.alloc H.out.2.1.size (.cells #[.slice B n (L.sc p), .int .i64 1, .int .i64 y] 95)
      refine ⟨_, rfl, ?_, hb2.alloc hb2.size _⟩
      rw [HR.out]
      have hbk := Bk.newA ((w.alloc (.cells #[.pointer (some ⟨G, 0, none⟩)] 62)).alloc (.cells #[.slice B n (L.sc p), .int .i64 1, .int .i64 y] 95)) 3 #[.int .i64 y]
      rw [World.size_alloc, World.size_alloc] at hbk
      exact own_mkN (cur := [.int .i64 y]) hbk (by omega) (Nat.le_refl _) (by simp [maxLen]) rfl rfl
    · have e0 : (m == 0) = false := by simpa using h0
      have e1 : (m == 1) = false := by simpa using h1
      rw [if_neg h0, if_neg h1] at HR
      go_wp2_with fail
      have hb2 := H.out.2.1.alloc H.out.2.1.size (.cells #[.slice B n (L.sc p), .int .i64 m, .int .i64 y] 95)
      have hso2 := H.out.2.2.1.alloc (.cells #[.slice B n (L.sc p), .int .i64 m, .int .i64 y] 95)
      have hk2 := H.out.2.2.2.1.chg (Chg.of_below (S := fun _ => False) ((Below.refl _ _).alloc (Nat.le_refl _) (.cells #[.slice B n (L.sc p), .int .i64 m, .int .i64 y] 95))) (by simp)
      have H2 := Lib.hid (And.intro hb2 (And.intro hso2 hk2))
      clear hb2 hso2 hk2
      have hsz : w.heap.size < (((w.alloc (.cells #[.pointer (some ⟨G, 0, none⟩)] 62)).alloc (.cells #[.slice B n (L.sc p), .int .i64 m, .int .i64 y] 95))).heap.size := by rw [World.size_alloc, World.size_alloc]; omega
      generalize ((w.alloc (.cells #[.pointer (some ⟨G, 0, none⟩)] 62)).alloc (.cells #[.slice B n (L.sc p), .int .i64 m, .int .i64 y] 95)) = w2 at H2 hsz ⊢
      have HZ := Lib.hid hsz
      clear hsz
      refine (cloneI_any H2.out.2.1 (by have := H.out.2.2.2.2.2.2.2.1; omega)).mono ?_
      rintro e w3 ⟨v, rfl, hown, hb3⟩
      obtain ⟨g3, c3, tl, rfl, hg3, hbk3, hl3, hc3, hm3⟩ := bk_of_ownv hown (by have := H.out.2.2.2.2.2.2.2.1; omega)
      have hk3 := H2.out.2.2.chg (Chg.of_below (S := fun _ => False) hb3) (by simp)
      have H3 := Lib.hid (And.intro hk3 (And.intro hbk3 (And.intro hg3 (And.intro hl3 (And.intro hc3 (And.intro hm3 hb3))))))
      clear hown hb3 hg3 hbk3 hl3 hc3 hm3 hk3
      go_wp2_with fail
      refine (deleteKn_any (base := w.heap.size) H3.out.2.1 (by have := H3.out.2.2.1; have := HZ.out; omega) H3.out.2.2.2.1 H3.out.2.2.2.2.1 H3.out.2.2.2.2.2.1 (by have := H.out.2.2.2.2.2.2.2.1; omega) (by have := H.out.2.2.2.2.2.2.2.1; omega) H.out.2.2.2.2.2.2.2.2.1 H3.out.1 (by have := H3.out.2.2.1; have := HZ.out; have := H.out.2.2.2.2.1; have := H.out.2.2.2.2.2.1; exact ⟨by omega, by omega, by omega⟩)).mono ?_
      rintro e w4 ⟨v4, rfl, hown4, hch4⟩
      have H4 := Lib.hid (And.intro hown4 hch4)
      clear hown4 hch4
      go_wp2
      go_ret2
      refine ⟨v4, rfl, by rw [HR.out]; exact H4.out.1, ?_⟩
      have hb3 := below_base H2.out.1 H3.out.2.2.2.2.2.2 H2.out.1.size
      exact H4.out.2.below hb3 (fun q _ e => by have e' : q = g3 := e; have := H3.out.2.2.1; have := HZ.out; omega) hb3.size
end Go.Proofs.Ytidoembkcaojoaa
