/- Words for memory of chapter 21 (as in chapter 31). Printed by mk_Wd21.py. -/
import Derived.Test.YtidoembkcaojoaaPd21
import Derived.Test.YtidoembkcaojoaaLk
import Derived.Test.YtidoembkcaojoaaSm
import Derived.Maps.Own
import Derived.Maps.OwnSet
import Derived.Maps.Views
import Derived.Carry
namespace Go.Proofs.Ytidoembkcaojoaa
open Go.RowKit
set_option linter.unusedVariables false
def Ty (w : World) (g : Nat) (t : TypeId) : Prop := ∃ cs, Bk w g t cs
theorem Ty.ne {w : World} {g g' : Nat} {t t' : TypeId} (h : Ty w g t) (h' : Ty w g' t') (ht : t ≠ t') : g ≠ g' := fun e => by
  obtain ⟨a, h⟩ := h
  obtain ⟨b, h'⟩ := h'
  subst e
  unfold Bk at h h'
  rw [h] at h'
  injection h' with h'
  injection h' with h1 h2 h3
  exact ht h2
theorem Ty.chg {S : Nat → Prop} {w w' : World} {g : Nat} {t : TypeId} (h : Ty w g t) (hc : Chg S w w') (hS : ¬ S g) : Ty w' g t := by
  obtain ⟨a, h⟩ := h; exact ⟨a, hc.bk h hS⟩
theorem own_ty {w : World} {base n : Nat} {e : TypeId} {size : Nat} {v : Value} {xs : List Value} (h : w.ownsRow base e size v n xs) {g : Nat} (hg : v.ownBlock = some g) : Ty w g e ∧ base ≤ g := by
  rcases h.2 with ⟨rfl, _⟩ | ⟨g', cap, cur, rfl, hb, hh, _⟩
  · cases hg
  · injection hg with hg
    subst hg
    exact ⟨⟨cur.toList, hh⟩, hb⟩
def blk (A : Option Addr) : List Nat := match A with
  | some a => [a.block]
  | none => []
theorem mem_blk {A : Option Addr} {k : Nat} : k ∈ blk A ↔ ∃ a, A = some a ∧ a.block = k := by
  cases A <;> simp [blk, eq_comm]
theorem own_b1 {A : Option Addr} {a : Addr} {n c : Nat} (ha : A = some a) : (Value.slice A n c).ownBlock = some a.block := by rw [ha]; rfl
theorem own_rdN {w : World} {base size n c : Nat} {e : TypeId} {A : Option Addr} {xs : List Value} (h : w.ownsRow base e size (.slice A n c) n xs) : Rd w A (n * size) xs ∧ n ≤ c := by
  rcases h.2 with ⟨hv, h0⟩ | ⟨g, cap, cur, hv, hb, hh, hnc, hcm, hcs, ht⟩
  · injection hv with e1 e2 e3
    have h0' : n = 0 := h0
    subst h0'
    refine ⟨⟨h.1, fun h => absurd h (by omega)⟩, by omega⟩
  · injection hv with e1 e2 e3
    subst e1; subst e3
    have hbk : Bk w g e cur.toList := hh
    refine ⟨Rd.of_bk hbk ?_ (by simpa using ht), hnc⟩
    rw [Array.length_toList, hcs, Nat.zero_add]
    exact Nat.mul_le_mul_right _ hnc
theorem own_sl {w : World} {base size n : Nat} {e : TypeId} {v : Value} {xs : List Value} (h : w.ownsRow base e size v n xs) : ∃ A c, v = .slice A n c := by
  rcases h.2 with ⟨rfl, h0⟩ | ⟨g, cap, cur, rfl, _⟩
  · have h0' : n = 0 := h0
    exact ⟨none, 0, by rw [h0']⟩
  · exact ⟨_, cap, rfl⟩
theorem below_frozen {w w' : World} {p : Addr} {u : Value} {b : Bool} (hb : Below w.heap.size w w') (h : w.cell? p = some u) (hf : w.frozen? p = b) : w'.frozen? p = b := (hb.frozen (World.block_lt_of_cell? w p h)).trans hf
theorem own_at0 {w : World} {base n c : Nat} {e : TypeId} {size : Nat} {A : Option Addr} {xs : List Value} (h : w.ownsRow base e size (.slice A n c) n xs) : ∀ a, A = some a → ∃ g, a = ⟨g, 0, none⟩ := fun a ha => by
  rcases h.2 with ⟨h1, _⟩ | ⟨g, cap, cur, h1, _⟩
  · injection h1 with h1; rw [ha] at h1; cases h1
  · injection h1 with h1; rw [ha] at h1; injection h1 with h1; exact ⟨g, h1⟩
theorem own_lt {w : World} {base n c : Nat} {e : TypeId} {size : Nat} {A : Option Addr} {xs : List Value} (h : w.ownsRow base e size (.slice A n c) n xs) : ∀ a, A = some a → base ≤ a.block ∧ a.block < w.heap.size := fun a ha => by
  obtain ⟨⟨cs, h1⟩, h2⟩ := own_ty h (g := a.block) (by rw [ha]; rfl)
  exact ⟨h2, h1.lt⟩
theorem Chg.cell' {S : Nat → Prop} {w w' : World} {p : Addr} {v : Value} (h : Chg S w w') (hc : w.cell? p = some v) (hp : ¬ S p.block) : w'.cell? p = some v := by
  have hl := World.block_lt_of_cell? _ _ hc
  have := h.2 p.block hl hp
  rw [← hc]
  unfold World.cell?
  rw [this]
theorem Rd.mul1 {w : World} {A : Option Addr} {n : Nat} {xs : List Value} (h : Rd w A n xs) : Rd w A (n * 1) xs := by rw [Nat.mul_one]; exact h
theorem cell_below {w w' : World} {p : Addr} {u : Value} (hb : Below w.heap.size w w') (h : w.cell? p = some u) : w'.cell? p = some u := (hb.cell (World.block_lt_of_cell? w p h)).trans h
theorem Chg.rd0 {S : Nat → Prop} {w w' : World} {A : Option Addr} {n : Nat} {xs : List Value} (h : Chg S w w') (hr : Rd w A n xs) (hA : ∀ a, A = some a → 0 < n → ¬ S a.block) : Rd w' A n xs := by
  rcases Nat.eq_zero_or_pos n with h0 | h0
  · subst h0; exact ⟨hr.1, fun h => absurd h (Nat.lt_irrefl _)⟩
  · exact h.rd hr fun a ha => hA a ha h0
theorem upd_chg {w w' : World} {g off : Nat} {new : List Value} (h : Upd w w' g off new) : Chg (fun k => k = g) w w' := Chg.of_grown h.1 fun k hk => by injection hk with hk; exact hk.symm
theorem Mut.pre {w : World} {A : Option Addr} {n m g off : Nat} {xs : List Value} (h : Mut w A (n + m) g off xs) : Mut w A n g off (xs.take n) := by
  refine ⟨by rw [List.length_take, h.1]; omega, fun hn => ?_⟩
  obtain ⟨h1, t, cur, h2, h3, h4⟩ := h.2 (by omega)
  exact ⟨h1, t, cur, h2, by omega, by rw [← h4, List.take_take, Nat.min_eq_left (by omega)]⟩
end Go.Proofs.Ytidoembkcaojoaa
