/- Chapter 21: a packet with one symbol left is put into the ripple. -/
import Derived.Test.YtidoembkcaojoaaPn21
namespace Go.Proofs.Ytidoembkcaojoaa
open Go.RowKit Go.Maps
set_option linter.unusedVariables false
section
variable {w w' w'' : World} {base D : Nat} {m : DM} {c : DC} {F F' : Nat → Prop}
theorem Dp.wide (h : Dp w base D m c F) (hF : ∀ b, F b → F' b) (ht : ∀ b, F' b → m.tag b = none) (hb : ∀ b, F' b → base ≤ b ∧ b < w.heap.size) : Dp w base D m c F' :=
  { h with
    fD := hF _ h.fD, fM := hF _ h.fM, fS := hF _ h.fS, fL := fun a ha => hF _ (h.fL a ha), fv := fun b hb => hF _ (h.fv b hb), fl := fun p hp a ha => hF _ (h.fl p hp a ha)
    fy := fun i hi hk a ha => hF _ (h.fy i hi hk a ha), tg := ht, fb := hb }
theorem Dp.hf (h : Dp w base D m c F) : HF w base D (dcells c m) 5 m.v c.rl :=
  ⟨h.e, rfl, h.rp, fun e => (h.tv e).ne h.tD (by decide) rfl, h.bs⟩
def wtL (kn : List Bool) (sets : List (List Int)) (p : Nat) : List HE := match rst kn (sets.getD p []) with
  | [x] => [⟨x, p⟩]
  | _ => []
theorem wtL_one {kn : List Bool} {sets : List (List Int)} {p : Nat} {x : Int} (h : rst kn (sets.getD p []) = [x]) : wtL kn sets p = [⟨x, p⟩] := by unfold wtL; rw [h]
theorem wtL_no {kn : List Bool} {sets : List (List Int)} {p : Nat} (h : (rst kn (sets.getD p [])).length ≠ 1) : wtL kn sets p = [] := by
  unfold wtL
  split
  · rename_i x hx; rw [hx] at h; exact absurd rfl h
  · rfl
def WtPost (w : World) (base D : Nat) (m : DM) (c : DC) (F : Nat → Prop) (p : Nat) (w' : World) : Prop :=
  ∃ v' l', Dp w' base D { m with v := v' } { c with rl := l' } (Gw F w w') ∧ Chg F w w' ∧ l'.Perm (c.rl ++ wtL c.kn c.sets p)
theorem wt_no (h : Dp w base D m c F) (hb : Below w.heap.size w w') {p : Nat} (hr : (rst c.kn (c.sets.getD p [])).length ≠ 1) : WtPost w base D m c F p w' := by
  have h1 := h.below hb
  obtain ⟨g1, g2⟩ := h.gw (w' := w') hb.size
  refine ⟨m.v, c.rl, h1.wide (fun b hb => .inl hb) g1 g2, Chg.of_below hb, ?_⟩
  rw [wtL_no hr, List.append_nil]
theorem wt_yes (h : Dp w base D m c F) (hb : Below w.heap.size w w') {p : Nat} {x : Int} (hr : rst c.kn (c.sets.getD p []) = [x]) (hp : p < c.sets.length) {v' : Value} {l' : List HE} (hf : HF w'' base D ((dcells c m).set 5 v') 5 v' l') (hpm : l'.Perm (c.rl ++ [⟨x, p⟩])) (hH : Hp (keys l')) (hc : Chg (fun k => k = D ∨ m.v.ownBlock = some k) w' w'') (hv : ∀ b, v'.ownBlock = some b → m.v.ownBlock = some b ∨ w'.heap.size ≤ b) : WtPost w base D m c F p w'' := by
  have h1 := h.below hb
  have hsz := h.gr.sz
  have hfit : FitL l' := fun e he => by
    rcases List.mem_append.1 (hpm.mem_iff.1 he) with e1 | e1
    · exact h.ft e e1
    · rw [List.mem_singleton.1 e1]; exact ⟨by show (0 : Int) ≤ (p : Int); omega, by show (p : Int) < _; omega⟩
  obtain ⟨h2, h3⟩ := h1.rip hf hH hfit hc hv
  have hz := hb.size
  have hz2 := hc.size
  obtain ⟨g1, g2⟩ := h.gw (w' := w'') (Nat.le_trans hz hz2)
  refine ⟨v', l', h2.wide (fun b hb' => ?_) g1 g2, ?_, ?_⟩
  · rcases hb' with hb' | hb'
    · exact .inl hb'
    · exact .inr ⟨by omega, hb'.2⟩
  · exact (Chg.of_below hb).trans h3 fun b _ hb => hb
  · rw [wtL_one hr]; exact hpm
set_option maxRecDepth 100000 in
set_option maxHeartbeats 1600000 in
theorem waits_any (h : Dp w base D m c F) (hl : c.rl.length ≤ 1000000) {p : Nat} (hp : p < c.sets.length) :
    Calls Try.prog 44 #[.pointer (some ⟨D, 0, none⟩), .int .i64 (p : Nat)] w fun e w' => e = .returned (.tuple #[]) ∧ WtPost w base D m c F p w' := by
  have c0 := h.c0
  have H := Lib.hid (And.intro h (And.intro hl hp))
  clear h hl hp
  go_enter Try.func44, Try.ntmps44
  go_wp2_with fail
  refine (rest_gr H.out.1.gr (p : Int)).mono ?_
  rintro e w1 ⟨v, rfl, ho, hb⟩
  have e1 : rsL c.kn c.sets (p : Int) = rst c.kn (c.sets.getD p []) := by
    unfold rsL
    rw [if_pos ⟨by omega, by have := H.out.2.2; omega⟩, Int.toNat_natCast]
  rw [e1] at ho
  obtain ⟨A, d, rfl, hd, hx⟩ := own_form ho
  obtain ⟨n, hn⟩ : ∃ n, (rst c.kn (c.sets.getD p [])).length = n := ⟨_, rfl⟩
  have HN := Lib.hid hn
  have hr := Rd.of_own ho
  have hnz : n ≤ 1000000 := by
    have hS := H.out.1.gr.ss _ (getD_mem H.out.2.2)
    have hle : (rst c.kn (c.sets.getD p [])).length ≤ (c.sets.getD p []).length := List.length_filter_le _ _
    have h3 := hS.len
    have h4 := H.out.1.gr.kz
    omega
  rw [hn] at hr ⊢
  have HB := Lib.hid (And.intro ho hb)
  clear ho hb e1 hx hd
  by_cases h1 : n = 1
  · subst h1
    obtain ⟨x, hx⟩ := List.length_eq_one_iff.1 hn
    rw [hx] at hr
    have ho := HB.out.1
    rw [hn] at ho
    obtain ⟨g, cur, rfl, hg0, hg1, _, _, _⟩ := own_formN ho (by omega)
    have cx : w1.cell? ⟨g, 0, none⟩ = some (.int .i64 x) := hr.cells 0 _ rfl
    have HX := Lib.hid hx
    have c0' := cell_below HB.out.2 c0
    have HG := Lib.hid (show ∀ w2, Chg (fun k => k = D ∨ m.v.ownBlock = some k) w1.drew w2 → w2.cell? ⟨g, 0, none⟩ = some (.int .i64 x) from fun w2 hc => hc.cell' cx fun e => by
      rcases e with e | e
      · have := (H.out.1.fb _ H.out.1.fD).2; have e' : g = D := e; omega
      · have := (H.out.1.fb _ (H.out.1.fv _ e)).2; have e' : g < w.heap.size := this; omega)
    clear hr hx hn ho hg0 hg1
    go_wp2_with fail
    go_region_held3 (fun w' => w'.cell? ⟨g, 0, none⟩ = some (.int .i64 x)) (first | exact S2.out.2 | exact cx | go_keep)
      (first
        | (go_at_call 61; refine (heapPush_any (o := 5) ⟨x, p⟩ (H.out.1.below HB.out.2.drew).hf H.out.1.hp H.out.1.ft ⟨by show (0 : Int) ≤ (p : Int); omega, by have := H.out.1.gr.sz; have := H.out.2.2; show (p : Int) < _; omega⟩ H.out.2.1).mono ?_; rintro e w2 ⟨rfl, v', l', hf, hp, hh, hc, hv⟩; have S2 := Lib.hid (And.intro (And.intro hf (And.intro hp (And.intro hh (And.intro hc hv)))) (HG.out _ hc)); clear hf hp hh hc hv))
    go_end0
    exact ⟨rfl, wt_yes H.out.1 HB.out.2.drew HX.out H.out.2.2 S2.out.1.1 S2.out.1.2.1 S2.out.1.2.2.1 S2.out.1.2.2.2.1 S2.out.1.2.2.2.2⟩
  · have d1 : decide (n = 1) = false := decide_eq_false h1
    have d2 : ((n : Int) == 1) = false := by simpa using (by omega : ¬ (n : Int) = 1)
    have d3 : decide ((n : Int) = 1) = false := decide_eq_false (by omega)
    have H1 := Lib.hid h1
    clear h1 hr hn
    go_wp2_with fail
    go_end0
    exact ⟨rfl, wt_no H.out.1 HB.out.2 (by rw [HN.out]; exact H1.out)⟩
end
end Go.Proofs.Ytidoembkcaojoaa
