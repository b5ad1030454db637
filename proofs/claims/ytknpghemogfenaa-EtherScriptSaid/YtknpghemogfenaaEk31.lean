/- Chapter 31: what a change of an ether's own blocks leaves; Get, comes of an ether. -/
import Derived.Test.YtknpghemogfenaaEn31
import Derived.Test.YtknpghemogfenaaEg31
import Derived.Test.YtknpghemogfenaaEc31
namespace Go.Proofs.Ytknpghemogfenaa
open Go.Conc Go.RowKit
set_option linter.unusedVariables false
theorem Ty.ne_ck {w : World} {g C : Nat} {t : TypeId} {vs : List Value} (h : Ty w g t) (hc : Ck w C vs) : g ≠ C := by
  obtain ⟨cs, hb⟩ := h; exact hc.ne_bk hb
theorem chg_setChan {S : Nat → Prop} {w : World} {C : Nat} (hC : S C) (cap : Nat) (buf : Array Value) (cl : Bool) (s r : Nat) (tm : Bool) : Chg S w (w.setChan C cap buf cl s r tm) :=
  ⟨⟨rfl, rfl, rfl, by simp [World.setChan], fun k hk => absurd hk (Nat.not_lt_zero _)⟩, fun k hk hS => by simp only [World.setChan]; rw [Array.getElem?_setIfInBounds_ne (fun e => hS (by rw [← e]; exact hC))]⟩
theorem ck_setChan {w : World} {C : Nat} (h : C < w.heap.size) (vs : List Value) (s r : Nat) : Ck (w.setChan C 1000 vs.toArray false s r false) C vs := ⟨s, r, heap_setChan w C 1000 vs.toArray false s r false h⟩
section
variable {w w' : World} {base E : Nat} {m : EM}
/-- What is no block of its own that it writes. -/
theorem Em.far (h : Em w base E m) {S : Nat → Prop} (hS : ∀ k, S k → k = E ∨ k = m.C0 ∨ k = m.C1 ∨ m.v.ownBlock = some k) {g : Nat} {t : TypeId} (hg : Ty w g t) (h1 : t ≠ 66) (h2 : t ≠ 75) : ¬ S g := fun hs => by
  rcases hS g hs with e | e | e | e
  · exact hg.ne ⟨_, h.e⟩ h1 e
  · exact hg.ne_ck h.c0 e
  · exact hg.ne_ck h.c1 e
  · exact hg.ne (own_ty h.k e).1 h2 rfl
theorem Em.px (h : Em w base E m) {S : Nat → Prop} (hc : Chg S w w') (hS : ∀ k, S k → k = E ∨ k = m.C0 ∨ k = m.C1 ∨ m.v.ownBlock = some k) {A : Option Addr} {n c : Nat} {x : List UInt8} (hp : PX w base A n c x) : PX w' base A n c x :=
  hp.chg hc fun a ha => h.far hS (own_ty hp.1 (g := a.block) (by rw [ha]; rfl)).1 (by decide) (by decide)
theorem Em.keep (h : Em w base E m) {S : Nat → Prop} (hc : Chg S w w') (hS : ∀ k, S k → k = E ∨ k = m.C0 ∨ k = m.C1 ∨ m.v.ownBlock = some k) :
    Rd w' m.FA (m.fates.length * 4) (fcs m.fates) ∧ (∀ a, m.FA = some a → Ty w' a.block 53 ∧ base ≤ a.block) ∧ w'.ownsRow base 45 3 (.slice m.SA m.strays.length m.sc) m.strays.length (ycs m.strays) ∧
    (∀ y ∈ m.strays, PX w' base y.A y.n y.c y.x) ∧ (∀ e ∈ m.l, PX w' base e.A e.n e.c (m.pay e.b)) ∧ (∀ b ∈ m.b0, PX w' base b.A b.n b.c b.x) ∧ (∀ b ∈ m.b1, PX w' base b.A b.n b.c b.x) :=
  ⟨hc.rd h.f (fun a ha => h.far hS (h.ft a ha).1 (by decide) (by decide)), fun a ha => ⟨(h.ft a ha).1.chg hc (h.far hS (h.ft a ha).1 (by decide) (by decide)), (h.ft a ha).2⟩,
   hc.own h.s (fun a ha => h.far hS (own_ty h.s (g := a.block) (by rw [ha]; rfl)).1 (by decide) (by decide)), fun y hy => h.px hc hS (h.sx y hy), fun y hy => h.px hc hS (h.kx y hy), fun y hy => h.px hc hS (h.x0 y hy), fun y hy => h.px hc hS (h.x1 y hy)⟩
theorem Em.neE (h : Em w base E m) : E ≠ m.C0 ∧ E ≠ m.C1 ∧ m.v.ownBlock ≠ some E ∧ m.v.ownBlock ≠ some m.C0 ∧ m.v.ownBlock ≠ some m.C1 := by
  refine ⟨h.c0.ne_bk h.e, h.c1.ne_bk h.e, fun e => ?_, fun e => ?_, fun e => ?_⟩
  · exact (own_ty h.k e).1.ne ⟨_, h.e⟩ (by decide) rfl
  · exact (own_ty h.k e).1.ne_ck h.c0 rfl
  · exact (own_ty h.k e).1.ne_ck h.c1 rfl
/-- A box is another one. -/
theorem Em.box0 (h : Em w base E m) {bs : List BX} {S : Nat → Prop} (hc : Chg S w w') (hS : ∀ k, S k → k = m.C0) (hk : Ck w' m.C0 (bs.map BX.v)) (hx : ∀ b ∈ bs, PX w' base b.A b.n b.c b.x) (hn : ({ m with b0 := bs } : EM).bl.Nodup) : Em w' base E { m with b0 := bs } := by
  have hS' : ∀ k, S k → k = E ∨ k = m.C0 ∨ k = m.C1 ∨ m.v.ownBlock = some k := fun k hk => .inr (.inl (hS k hk))
  obtain ⟨z1, z2, z3, z4, z5, z6, z7⟩ := h.keep hc hS'
  obtain ⟨n1, n2, n3, n4, n5⟩ := h.neE
  exact { h with e := hc.bk h.e (fun hs => n1 (hS _ hs)), f := z1, ft := z2, s := z3, sx := z4, k := h.k.chg hc (fun g hg hs => n4 (by rw [hg, hS _ hs])), kx := z5, c0 := hk, c1 := h.c1.chg hc (fun hs => h.cc (hS _ hs).symm), x0 := hx, x1 := z7, nd := hn, bs := ⟨h.bs.1, h.bs.2.1, h.bs.2.2.1, Nat.le_trans h.bs.2.2.2 hc.size⟩ }
theorem Em.box1 (h : Em w base E m) {bs : List BX} {S : Nat → Prop} (hc : Chg S w w') (hS : ∀ k, S k → k = m.C1) (hk : Ck w' m.C1 (bs.map BX.v)) (hx : ∀ b ∈ bs, PX w' base b.A b.n b.c b.x) (hn : ({ m with b1 := bs } : EM).bl.Nodup) : Em w' base E { m with b1 := bs } := by
  have hS' : ∀ k, S k → k = E ∨ k = m.C0 ∨ k = m.C1 ∨ m.v.ownBlock = some k := fun k hk => .inr (.inr (.inl (hS k hk)))
  obtain ⟨z1, z2, z3, z4, z5, z6, z7⟩ := h.keep hc hS'
  obtain ⟨n1, n2, n3, n4, n5⟩ := h.neE
  exact { h with e := hc.bk h.e (fun hs => n2 (hS _ hs)), f := z1, ft := z2, s := z3, sx := z4, k := h.k.chg hc (fun g hg hs => n5 (by rw [hg, hS _ hs])), kx := z5, c1 := hk, c0 := h.c0.chg hc (fun hs => h.cc (hS _ hs)), x0 := z6, x1 := hx, nd := hn, bs := ⟨h.bs.1, h.bs.2.1, h.bs.2.2.1, Nat.le_trans h.bs.2.2.2 hc.size⟩ }
/-- What Get takes out. -/
def EGot (w : World) (base E : Nat) (m m' : EM) (b : BX) (e : Ending) (w' : World) : Prop :=
  e = .returned (.tuple #[b.v, .int .i64 0]) ∧ Em w' base E m' ∧ Chg (m.foot E) w w' ∧ PX w' base b.A b.n b.c b.x ∧ (∀ k ∈ blk b.A, ¬ m'.foot E k) ∧ (∀ k ∈ blk b.A, m.foot E k) ∧ ∀ k, m'.foot E k → m.foot E k
theorem got_apart (h : Em w base E m) {m' : EM} {b : BX} (hp : PX w base b.A b.n b.c b.x) (h1 : m'.C0 = m.C0 ∧ m'.C1 = m.C1 ∧ m'.v = m.v ∧ m'.FA = m.FA ∧ m'.SA = m.SA) (hb : ∀ k ∈ blk b.A, k ∉ m'.bl) : ∀ k ∈ blk b.A, ¬ m'.foot E k := by
  intro k hk hf
  obtain ⟨a, ha, rfl⟩ := mem_blk.1 hk
  have ht := (own_ty hp.1 (g := a.block) (by rw [ha]; rfl)).1
  obtain ⟨e1, e2, e3, e4, e5⟩ := h1
  rcases hf with e | e | e | e | e | e | e
  · exact ht.ne ⟨_, h.e⟩ (by decide) e
  · rw [e1] at e; exact ht.ne_ck h.c0 e
  · rw [e2] at e; exact ht.ne_ck h.c1 e
  · rw [e3] at e; exact ht.ne (own_ty h.k e).1 (by decide) rfl
  · rw [e4] at e; obtain ⟨a', ha', e⟩ := mem_blk.1 e; exact ht.ne (h.ft a' ha').1 (by decide) e.symm
  · rw [e5] at e; obtain ⟨a', ha', e⟩ := mem_blk.1 e; exact ht.ne (own_ty h.s (g := a'.block) (by rw [ha']; rfl)).1 (by decide) e.symm
  · exact hb _ hk e
theorem eget_some0 (h : Em w base E m) {b : BX} {r : List BX} (hb : m.b0 = b :: r) : Calls Try.prog 20 #[.pointer (some ⟨E, 0, none⟩), .int .i64 0] w (EGot w base E m { m with b0 := r } b) := by
  obtain ⟨s0, r0, q0⟩ := h.c0
  rw [hb] at q0
  refine (get0_some (C5 := 0) h.cell.2.2.2.2.2.1 (x := b.v) (xs := r.map BX.v) q0).mono ?_
  rintro e w' ⟨rfl, rfl⟩
  have hc : Chg (fun k => k = m.C0) w (w.setChan m.C0 1000 (r.map BX.v).toArray false s0 (r0 + 1) false) := chg_setChan (S := fun k => k = m.C0) rfl _ _ _ _ _ _
  have hS : ∀ k, k = m.C0 → k = E ∨ k = m.C0 ∨ k = m.C1 ∨ m.v.ownBlock = some k := fun k hk => .inr (.inl hk)
  have hpb := h.x0 b (by rw [hb]; exact List.mem_cons_self ..)
  have hnd := h.nd
  unfold EM.bl at hnd
  rw [hb, List.flatMap_cons, List.append_assoc] at hnd
  obtain ⟨a1, a2, a3⟩ := List.nodup_append.1 hnd
  obtain ⟨a4, a5, a6⟩ := List.nodup_append.1 a2
  obtain ⟨a7, a8, a9⟩ := List.nodup_append.1 a5
  have hn : ({ m with b0 := r } : EM).bl.Nodup := by
    unfold EM.bl
    exact List.nodup_append.2 ⟨a1, List.nodup_append.2 ⟨a4, a8, fun x hx y hy => a6 x hx y (List.mem_append_right _ hy)⟩, fun x hx y hy => a3 x hx y (by
      rcases List.mem_append.1 hy with hy | hy
      · exact List.mem_append_left _ hy
      · exact List.mem_append_right _ (List.mem_append_right _ hy))⟩
  refine ⟨rfl, h.box0 hc (fun _ hk => hk) (ck_setChan h.c0.lt _ _ _) (fun y hy => h.px hc hS (h.x0 y (by rw [hb]; exact List.mem_cons_of_mem _ hy))) hn, hc.mono (fun k _ hk => by rw [hk]; exact EM.fC0), h.px hc hS hpb, ?_, fun k hk => EM.fb (EM.b0' (y := b) (by rw [hb]; exact List.mem_cons_self ..) hk), ?_⟩
  · refine got_apart h hpb ⟨rfl, rfl, rfl, rfl, rfl⟩ fun k hk hin => ?_
    rcases List.mem_append.1 hin with hin | hin
    · exact a3 k hin k (List.mem_append_right _ (List.mem_append_left _ hk)) rfl
    · rcases List.mem_append.1 hin with hin | hin
      · exact a6 k hin k (List.mem_append_left _ hk) rfl
      · exact a9 k hk k hin rfl
  · intro k hk
    rcases hk with e | e | e | e | e | e | e
    · exact .inl e
    · exact .inr (.inl e)
    · exact .inr (.inr (.inl e))
    · exact .inr (.inr (.inr (.inl e)))
    · exact .inr (.inr (.inr (.inr (.inl e))))
    · exact .inr (.inr (.inr (.inr (.inr (.inl e)))))
    · refine EM.fb ?_
      unfold EM.bl
      rw [hb, List.flatMap_cons, List.append_assoc]
      rcases List.mem_append.1 e with e | e
      · exact List.mem_append_left _ e
      · rcases List.mem_append.1 e with e | e
        · exact List.mem_append_right _ (List.mem_append_left _ e)
        · exact List.mem_append_right _ (List.mem_append_right _ (List.mem_append_right _ e))
theorem eget_some1 (h : Em w base E m) {b : BX} {r : List BX} (hb : m.b1 = b :: r) : Calls Try.prog 20 #[.pointer (some ⟨E, 0, none⟩), .int .i64 1] w (EGot w base E m { m with b1 := r } b) := by
  obtain ⟨s0, r0, q0⟩ := h.c1
  rw [hb] at q0
  refine (get1_some h.cell.2.2.2.2.2.2.1 h.cell.2.2.2.2.2.1 (x := b.v) (xs := r.map BX.v) q0).mono ?_
  rintro e w' ⟨rfl, rfl⟩
  have hc : Chg (fun k => k = m.C1) w (w.setChan m.C1 1000 (r.map BX.v).toArray false s0 (r0 + 1) false) := chg_setChan (S := fun k => k = m.C1) rfl _ _ _ _ _ _
  have hS : ∀ k, k = m.C1 → k = E ∨ k = m.C0 ∨ k = m.C1 ∨ m.v.ownBlock = some k := fun k hk => .inr (.inr (.inl hk))
  have hpb := h.x1 b (by rw [hb]; exact List.mem_cons_self ..)
  have hnd := h.nd
  unfold EM.bl at hnd
  rw [hb, List.flatMap_cons] at hnd
  obtain ⟨a1, a2, a3⟩ := List.nodup_append.1 hnd
  obtain ⟨a4, a5, a6⟩ := List.nodup_append.1 a2
  obtain ⟨a7, a8, a9⟩ := List.nodup_append.1 a5
  obtain ⟨a10, a11, a12⟩ := List.nodup_append.1 a8
  have hn : ({ m with b1 := r } : EM).bl.Nodup := by
    unfold EM.bl
    refine List.nodup_append.2 ⟨a1, List.nodup_append.2 ⟨a4, List.nodup_append.2 ⟨a7, a11, fun x hx y hy => a9 x hx y (List.mem_append_right _ hy)⟩, fun x hx y hy => a6 x hx y ?_⟩, fun x hx y hy => a3 x hx y ?_⟩
    · rcases List.mem_append.1 hy with hy | hy
      · exact List.mem_append_left _ hy
      · exact List.mem_append_right _ (List.mem_append_right _ hy)
    · rcases List.mem_append.1 hy with hy | hy
      · exact List.mem_append_left _ hy
      · rcases List.mem_append.1 hy with hy | hy
        · exact List.mem_append_right _ (List.mem_append_left _ hy)
        · exact List.mem_append_right _ (List.mem_append_right _ (List.mem_append_right _ hy))
  refine ⟨rfl, h.box1 hc (fun _ hk => hk) (ck_setChan h.c1.lt _ _ _) (fun y hy => h.px hc hS (h.x1 y (by rw [hb]; exact List.mem_cons_of_mem _ hy))) hn, hc.mono (fun k _ hk => by rw [hk]; exact EM.fC1), h.px hc hS hpb, ?_, fun k hk => EM.fb (EM.b1' (y := b) (by rw [hb]; exact List.mem_cons_self ..) hk), ?_⟩
  · refine got_apart h hpb ⟨rfl, rfl, rfl, rfl, rfl⟩ fun k hk hin => ?_
    rcases List.mem_append.1 hin with hin | hin
    · exact a3 k hin k (List.mem_append_right _ (List.mem_append_right _ (List.mem_append_left _ hk))) rfl
    · rcases List.mem_append.1 hin with hin | hin
      · exact a6 k hin k (List.mem_append_right _ (List.mem_append_left _ hk)) rfl
      · rcases List.mem_append.1 hin with hin | hin
        · exact a9 k hin k (List.mem_append_left _ hk) rfl
        · exact a12 k hk k hin rfl
  · intro k hk
    rcases hk with e | e | e | e | e | e | e
    · exact .inl e
    · exact .inr (.inl e)
    · exact .inr (.inr (.inl e))
    · exact .inr (.inr (.inr (.inl e)))
    · exact .inr (.inr (.inr (.inr (.inl e))))
    · exact .inr (.inr (.inr (.inr (.inr (.inl e)))))
    · refine EM.fb ?_
      unfold EM.bl
      rw [hb, List.flatMap_cons]
      rcases List.mem_append.1 e with e | e
      · exact List.mem_append_left _ e
      · rcases List.mem_append.1 e with e | e
        · exact List.mem_append_right _ (List.mem_append_left _ e)
        · rcases List.mem_append.1 e with e | e
          · exact List.mem_append_right _ (List.mem_append_right _ (List.mem_append_left _ e))
          · exact List.mem_append_right _ (List.mem_append_right _ (List.mem_append_right _ (List.mem_append_right _ e)))
theorem eget_none0 (h : Em w base E m) (hb : m.b0 = []) : Calls Try.prog 20 #[.pointer (some ⟨E, 0, none⟩), .int .i64 0] w fun e w' => e = .returned (.tuple #[.slice none 0 0, .int .i64 14]) ∧ w' = w := by
  obtain ⟨s0, r0, q0⟩ := h.c0
  rw [hb] at q0
  exact get0_none (C5 := 0) h.cell.2.2.2.2.2.1 q0
theorem eget_none1 (h : Em w base E m) (hb : m.b1 = []) : Calls Try.prog 20 #[.pointer (some ⟨E, 0, none⟩), .int .i64 1] w fun e w' => e = .returned (.tuple #[.slice none 0 0, .int .i64 14]) ∧ w' = w := by
  obtain ⟨s0, r0, q0⟩ := h.c1
  rw [hb] at q0
  exact get1_none h.cell.2.2.2.2.2.2.1 h.cell.2.2.2.2.2.1 q0
theorem eget_bad (h : Em w base E m) {d : Int} (hd : isEnd d = false) : Calls Try.prog 20 #[.pointer (some ⟨E, 0, none⟩), .int .i64 d] w fun e w' => e = .returned (.tuple #[.slice none 0 0, .int .i64 2]) ∧ w' = w :=
  get_bad h.cell.2.2.2.2.2.1 hd
end
end Go.Proofs.Ytknpghemogfenaa
