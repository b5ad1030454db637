/- Chapter 31: two rows of slices in a law's own memory. -/
import Derived.Test.YtknpghemogfenaaPw31
import Derived.Test.YtknpghemogfenaaLn31
namespace Go.Proofs.Ytknpghemogfenaa
open Go.Conc Go.RowKit
set_option linter.unusedVariables false
theorem ss_info : (Try.prog.info? 32).map (fun i => (i.zero, i.size, i.bytes)) = some (some (.slice none 0 0), 1, 24) := by kernel_rfl
def upd {α : Type} (f : Nat → α) (k : Nat) (v : α) : Nat → α := fun j => if j = k then v else f j
theorem upd_self {α : Type} (f : Nat → α) (k : Nat) (v : α) : upd f k v k = v := by simp [upd]
theorem upd_ne {α : Type} (f : Nat → α) {k j : Nat} (v : α) (h : j ≠ k) : upd f k v j = f j := by simp [upd, h]
/-- What the rows hold: slices of bytes that lay there before. -/
def BOK (w0 w : World) (b : BX) : Prop := Rd w b.A b.n (bys b.x) ∧ b.n ≤ 100 ∧ (0 < b.n → ∀ a, b.A = some a → a.block < w0.heap.size)
structure BW (w0 w : World) (P : Nat) (A : Nat → Option Addr) (c : Nat → Nat) (bs : Nat → List BX) : Prop where
  p : Bk w P 30 [.slice (A 0) (bs 0).length (c 0), .slice (A 1) (bs 1).length (c 1)]
  r : ∀ k, k < 2 → w.ownsRow w0.heap.size 32 1 (.slice (A k) (bs k).length (c k)) (bs k).length ((bs k).map BX.v)
  nd : ∀ a0 a1, A 0 = some a0 → A 1 = some a1 → a0.block ≠ a1.block
  p0 : w0.heap.size ≤ P
  x : ∀ k, k < 2 → ∀ b ∈ bs k, BOK w0 w b
/-- Their blocks. -/
def BG (P : Nat) (A : Nat → Option Addr) (k : Nat) : Prop := k = P ∨ k ∈ blk (A 0) ∨ k ∈ blk (A 1)
section
variable {w0 w w' : World} {P : Nat} {A : Nat → Option Addr} {c : Nat → Nat} {bs : Nat → List BX}
theorem BG.row {k : Nat} (hk : k < 2) {a : Addr} (ha : A k = some a) : BG P A a.block := by
  rcases (show k = 0 ∨ k = 1 by omega) with rfl | rfl
  · exact .inr (.inl (mem_blk.2 ⟨a, ha, rfl⟩))
  · exact .inr (.inr (mem_blk.2 ⟨a, ha, rfl⟩))
theorem BW.cell (h : BW w0 w P A c bs) {k : Nat} (hk : k < 2) : w.cell? ⟨P, k, none⟩ = some (.slice (A k) (bs k).length (c k)) := by
  rcases (show k = 0 ∨ k = 1 by omega) with rfl | rfl
  · exact h.p.cell 0
  · exact h.p.cell 1
theorem BW.rowTy (h : BW w0 w P A c bs) {k : Nat} (hk : k < 2) {a : Addr} (ha : A k = some a) : Ty w a.block 32 ∧ w0.heap.size ≤ a.block :=
  own_ty (h.r k hk) (g := a.block) (by rw [ha]; rfl)
theorem BW.rowP (h : BW w0 w P A c bs) {k : Nat} (hk : k < 2) {a : Addr} (ha : A k = some a) : a.block ≠ P :=
  (h.rowTy hk ha).1.ne ⟨_, h.p⟩ (by decide)
theorem BW.bg (h : BW w0 w P A c bs) {k : Nat} (hk : BG P A k) : w0.heap.size ≤ k ∧ k < w.heap.size := by
  rcases hk with rfl | hk | hk
  · exact ⟨h.p0, h.p.lt⟩
  · obtain ⟨a, ha, rfl⟩ := mem_blk.1 hk
    obtain ⟨⟨cs, h1⟩, h2⟩ := h.rowTy (k := 0) (by decide) ha
    exact ⟨h2, h1.lt⟩
  · obtain ⟨a, ha, rfl⟩ := mem_blk.1 hk
    obtain ⟨⟨cs, h1⟩, h2⟩ := h.rowTy (k := 1) (by decide) ha
    exact ⟨h2, h1.lt⟩
theorem BOK.chg {S : Nat → Prop} {b : BX} (h : BOK w0 w b) (hc : Chg S w w') (hS : ∀ k, S k → w0.heap.size ≤ k) : BOK w0 w' b :=
  ⟨hc.rd0 h.1 fun a ha h0 hs => by have := h.2.2 h0 a ha; have := hS _ hs; omega, h.2⟩
theorem BW.chg {S : Nat → Prop} (h : BW w0 w P A c bs) (hc : Chg S w w') (hS : ∀ k, S k → w0.heap.size ≤ k ∧ ¬ BG P A k) : BW w0 w' P A c bs where
  p := hc.bk h.p fun hs => (hS _ hs).2 (.inl rfl)
  r := fun k hk => hc.own (h.r k hk) fun a ha hs => (hS _ hs).2 (BG.row hk ha)
  nd := h.nd
  p0 := h.p0
  x := fun k hk b hb => (h.x k hk b hb).chg hc fun k hs => (hS _ hs).1
/-- A row is put in a row's place. -/
theorem BW.put {T : Nat → Prop} {k : Nat} (h : BW w0 w P A c bs) (hk : k < 2) (hc : Chg T w w') (hT : ∀ j, T j → j ∈ blk (A k)) {A1 : Option Addr} {c1 : Nat} {l : List BX} (ho : w'.ownsRow w0.heap.size 32 1 (.slice A1 l.length c1) l.length (l.map BX.v))
    (hat : ∀ a, A1 = some a → a.block ∈ blk (A k) ∨ w.heap.size ≤ a.block) (hx : ∀ b ∈ l, BOK w0 w' b) :
    BW w0 (w'.setCell ⟨P, k, none⟩ (.slice A1 l.length c1)) P (upd A k A1) (upd c k c1) (upd bs k l) ∧ Chg (BG P A) w (w'.setCell ⟨P, k, none⟩ (.slice A1 l.length c1)) ∧ ∀ j, BG P (upd A k A1) j → BG P A j ∨ w.heap.size ≤ j := by
  have hTP : ¬ T P := fun hs => by
    obtain ⟨a, ha, e⟩ := mem_blk.1 (hT _ hs)
    exact h.rowP hk ha e
  have hp := hc.bk h.p hTP
  have hz := hc.size
  have hPl := h.p.lt
  have hcs : Chg (fun j => j = P) w' (w'.setCell ⟨P, k, none⟩ (.slice A1 l.length c1)) := (Chg.refl (fun j => j = P) w').set_ (show P = P from rfl) k _
  have hA1 : ∀ a, A1 = some a → a.block ≠ P := fun a ha e => by
    rcases hat a ha with h1 | h1
    · obtain ⟨a', ha', e'⟩ := mem_blk.1 h1
      exact h.rowP hk ha' (e'.trans e)
    · omega
  have other : ∀ j, j < 2 → j ≠ k → w'.ownsRow w0.heap.size 32 1 (.slice (A j) (bs j).length (c j)) (bs j).length ((bs j).map BX.v) := fun j hj hjk => hc.own (h.r j hj) fun a ha hs => by
    obtain ⟨a', ha', e'⟩ := mem_blk.1 (hT _ hs)
    rcases (show (j = 0 ∧ k = 1) ∨ (j = 1 ∧ k = 0) by omega) with ⟨rfl, rfl⟩ | ⟨rfl, rfl⟩
    · exact h.nd a a' ha ha' e'.symm
    · exact h.nd a' a ha' ha e'
  have apart : ∀ j, j < 2 → j ≠ k → ∀ a a1, A j = some a → A1 = some a1 → a.block ≠ a1.block := fun j hj hjk a a1 ha ha1 e => by
    rcases hat a1 ha1 with h1 | h1
    · obtain ⟨a', ha', e'⟩ := mem_blk.1 h1
      rcases (show (j = 0 ∧ k = 1) ∨ (j = 1 ∧ k = 0) by omega) with ⟨rfl, rfl⟩ | ⟨rfl, rfl⟩
      · exact h.nd a a' ha ha' (e.trans e'.symm)
      · exact h.nd a' a ha' ha (e'.trans e.symm)
    · obtain ⟨⟨cs, h2⟩, _⟩ := h.rowTy hj ha
      have := h2.lt
      omega
  refine ⟨⟨?_, fun j hj => ?_, ?_, h.p0, fun j hj b hb => ?_⟩, ?_, fun j hj => ?_⟩
  · have := hp.set_ k (.slice A1 l.length c1)
    rcases (show k = 0 ∨ k = 1 by omega) with rfl | rfl
    · exact this
    · exact this
  · by_cases hjk : j = k
    · subst hjk
      rw [upd_self, upd_self, upd_self]
      exact hcs.own ho fun a ha e => hA1 a ha e
    · rw [upd_ne _ _ hjk, upd_ne _ _ hjk, upd_ne _ _ hjk]
      exact hcs.own (other j hj hjk) fun a ha e => h.rowP hj ha e
  · intro a0 a1 h0 h1
    rcases (show k = 0 ∨ k = 1 by omega) with rfl | rfl
    · rw [upd_self] at h0
      rw [upd_ne _ _ (by decide)] at h1
      exact fun e => apart 1 (by decide) (by decide) a1 a0 h1 h0 e.symm
    · rw [upd_self] at h1
      rw [upd_ne _ _ (by decide)] at h0
      exact apart 0 (by decide) (by decide) a0 a1 h0 h1
  · have hxx : BOK w0 w' b := by
      by_cases hjk : j = k
      · subst hjk
        rw [upd_self] at hb
        exact hx b hb
      · rw [upd_ne _ _ hjk] at hb
        exact (h.x j hj b hb).chg hc fun i hs => by
          obtain ⟨a', ha', e'⟩ := mem_blk.1 (hT _ hs)
          have := (h.rowTy hk ha').2
          omega
    exact hxx.chg hcs fun i hs => by rw [hs]; exact h.p0
  · exact (hc.mono (T := BG P A) fun j _ hs => by obtain ⟨a', ha', e'⟩ := mem_blk.1 (hT _ hs); rw [← e']; exact BG.row hk ha').trans hcs fun j _ hs => by rw [hs]; exact .inl rfl
  · rcases hj with e | e | e
    · exact .inl (.inl e)
    · obtain ⟨a, ha, e⟩ := mem_blk.1 e
      subst e
      rcases (show k = 0 ∨ k = 1 by omega) with rfl | rfl
      · rw [upd_self] at ha
        rcases hat a ha with h1 | h1
        · exact .inl (.inr (.inl h1))
        · exact .inr h1
      · rw [upd_ne _ _ (by decide)] at ha
        exact .inl (.inr (.inl (mem_blk.2 ⟨a, ha, rfl⟩)))
    · obtain ⟨a, ha, e⟩ := mem_blk.1 e
      subst e
      rcases (show k = 0 ∨ k = 1 by omega) with rfl | rfl
      · rw [upd_ne _ _ (by decide)] at ha
        exact .inl (.inr (.inr (mem_blk.2 ⟨a, ha, rfl⟩)))
      · rw [upd_self] at ha
        rcases hat a ha with h1 | h1
        · exact .inl (.inr (.inr h1))
        · exact .inr h1
end
/-- New boxes. -/
theorem BW.new {w0 w : World} (hb : w0.heap.size ≤ w.heap.size) : BW w0 (w.alloc (.cells #[.slice none 0 0, .slice none 0 0] 30)) w.heap.size (fun _ => none) (fun _ => 0) (fun _ => []) where
  p := Bk.newA w _ _
  r := fun k _ => ⟨rfl, .inl ⟨rfl, rfl⟩⟩
  nd := fun a0 a1 h => by cases h
  p0 := hb
  x := fun k _ b hb => by cases hb
end Go.Proofs.Ytknpghemogfenaa
