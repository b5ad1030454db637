/- Chapter 11: packet.Get. -/
import Derived.Test.YtpfamjgdfcnieaaGp11
namespace Go.Proofs.Ytpfamjgdfcnieaa
open Go.RowKit
set_option linter.unusedVariables false
def pz : PK := ⟨0, 0, 0, 0, 0, []⟩
def geP (b : List UInt8) : PK := if openE tableL b = 0 ∧ gpB (openB tableL b) = true then psP (openB tableL b) else pz
def geE (b : List UInt8) : Int := if openE tableL b = 0 then (if gpB (openB tableL b) then 0 else 6) else openE tableL b
/-- What a Get tells. -/
def GePost (w : World) (p : PK) (E : Int) (e : Ending) (w' : World) : Prop :=
  ∃ A n c g, e = .returned (.tuple #[p.v A n c, .int .i64 E]) ∧ n ≤ c ∧ p.dat.length = n ∧ Mut w' A n g 0 (bys p.dat) ∧ w.heap.size ≤ g ∧ Below w.heap.size w w'
theorem ge_no {w w' : World} {b : List UInt8} {E : Int} (hb : Below w.heap.size w w') (hp : geP b = pz) (hE : geE b = E) : GePost w (geP b) (geE b) (.returned (.tuple #[.agg #[.int .i64 0, .int .i64 0, .int .i64 0, .int .i64 0, .int .i64 0, .slice none 0 0], .int .i64 E])) w' := by
  rw [hp, hE]
  exact ⟨none, 0, 0, w.heap.size, rfl, Nat.le_refl _, rfl, mut_nil _ _, Nat.le_refl _, hb⟩
/-- A return of a packet that lies in a block, and a number. -/
theorem ret_pkE {R : Ending → World → Prop} {fn : Func} {p q : Tmp} (h : fn.results = #[.cell p 24, .tmp q]) {a : Act} {w : World} {g : Nat} {t : TypeId} {v0 v1 v2 v3 v4 v5 v6 : Value} (hp : a.tmps.getD p undef = .pointer (some ⟨g, 0, none⟩)) (hq : a.tmps.getD q undef = v6) (hd : a.defers = [])
    (hg : Bk w g t [v0, v1, v2, v3, v4, v5]) (hR : R (.returned (.tuple #[.agg #[v0, v1, v2, v3, v4, v5], v6])) w) : bodyPost Try.prog fn R .ret a w := by
  have hp' : a.tmps[p]?.getD undef = .pointer (some ⟨g, 0, none⟩) := by simpa using hp
  have hq' : a.tmps[q]?.getD undef = v6 := by simpa using hq
  refine bodyPost_ret (v := .tuple #[.agg #[v0, v1, v2, v3, v4, v5], v6]) ?_ hd hR
  have hl := run_loadVar_row (ty := 24) w g t #[v0, v1, v2, v3, v4, v5] (0, 0) _ hg Try.underlying24 rfl (by kernel_rfl)
  simp only [results, h, hp, hq, asAddr, List.mapM_toArray, List.mapM_cons, List.mapM_nil, Sem.run_bind, Sem.run_pure]
  simp [hl]
/-- The six cells of new memory laid anew. -/
theorem set6 {w w' : World} {t : TypeId} {x0 x1 x2 x3 x4 x5 : Value} (hb : Below w.heap.size w w') (h : Bk w' w.heap.size t [x0, x1, x2, x3, x4, x5]) (u0 u1 u2 u3 u4 u5 : Value) :
    Bk ((((((w'.setCell ⟨w.heap.size, 0, none⟩ u0).setCell ⟨w.heap.size, 1, none⟩ u1).setCell ⟨w.heap.size, 2, none⟩ u2).setCell ⟨w.heap.size, 3, none⟩ u3).setCell ⟨w.heap.size, 4, none⟩ u4).setCell ⟨w.heap.size, 5, none⟩ u5) w.heap.size t [u0, u1, u2, u3, u4, u5] ∧
    Below w.heap.size w ((((((w'.setCell ⟨w.heap.size, 0, none⟩ u0).setCell ⟨w.heap.size, 1, none⟩ u1).setCell ⟨w.heap.size, 2, none⟩ u2).setCell ⟨w.heap.size, 3, none⟩ u3).setCell ⟨w.heap.size, 4, none⟩ u4).setCell ⟨w.heap.size, 5, none⟩ u5) ∧
    Chg (fun k => k = w.heap.size) w' ((((((w'.setCell ⟨w.heap.size, 0, none⟩ u0).setCell ⟨w.heap.size, 1, none⟩ u1).setCell ⟨w.heap.size, 2, none⟩ u2).setCell ⟨w.heap.size, 3, none⟩ u3).setCell ⟨w.heap.size, 4, none⟩ u4).setCell ⟨w.heap.size, 5, none⟩ u5) := by
  refine ⟨(((((h.set_ 0 u0).set_ 1 u1).set_ 2 u2).set_ 3 u3).set_ 4 u4).set_ 5 u5, ?_, ?_⟩
  · exact (((((hb.setCell (Nat.le_refl _) u0).setCell (Nat.le_refl _) u1).setCell (Nat.le_refl _) u2).setCell (Nat.le_refl _) u3).setCell (Nat.le_refl _) u4).setCell (Nat.le_refl _) u5
  · exact ((((((Chg.refl (fun k => k = w.heap.size) w').set_ (show w.heap.size = w.heap.size from rfl) 0 u0).set_ (show w.heap.size = w.heap.size from rfl) 1 u1).set_ (show w.heap.size = w.heap.size from rfl) 2 u2).set_ (show w.heap.size = w.heap.size from rfl) 3 u3).set_ (show w.heap.size = w.heap.size from rfl) 4 u4).set_ (show w.heap.size = w.heap.size from rfl) 5 u5
theorem fr6 {w : World} {g : Nat} {T : TypeId} {xs : List Value} (h : Bk w g T xs) :
    w.frozen? ⟨g, 0, none⟩ = false ∧ w.frozen? ⟨g, 1, none⟩ = false ∧ w.frozen? ⟨g, 2, none⟩ = false ∧ w.frozen? ⟨g, 3, none⟩ = false ∧ w.frozen? ⟨g, 4, none⟩ = false ∧ w.frozen? ⟨g, 5, none⟩ = false :=
  ⟨h.frozen 0, h.frozen 1, h.frozen 2, h.frozen 3, h.frozen 4, h.frozen 5⟩
theorem ge_bad {b l : List UInt8} (hE : openE tableL b = 0) (hl : openB tableL b = l) (hg : gpB l = false) : geP b = pz ∧ geE b = 6 := by
  unfold geP geE; rw [hl, hE, hg]; exact ⟨rfl, rfl⟩
theorem ge_shut {b : List UInt8} (hE : openE tableL b ≠ 0) : geP b = pz ∧ geE b = openE tableL b := by
  unfold geP geE; rw [if_neg hE, if_neg (fun h => hE h.1)]; exact ⟨rfl, rfl⟩
theorem ge_good {b l : List UInt8} (hE : openE tableL b = 0) (hl : openB tableL b = l) (hg : gpB l = true) : geP b = psP l ∧ geE b = 0 := by
  unfold geP geE; rw [hl, hE, hg]; exact ⟨rfl, rfl⟩
/-- A reader, where it is told, and what else was. -/
def RV (w4 wx : World) (P : Nat) (B : Option Addr) (d : Nat) (s : RS) (V : Nat) : Prop := Ro wx P B d s ∧ Bk wx V 60 [.pointer (some ⟨P, 0, none⟩)] ∧ Chg (fun k => k = P) w4 wx
theorem RV.ro {w4 wx : World} {P d V : Nat} {B : Option Addr} {s : RS} (h : RV w4 wx P B d s V) : Ro wx P B d s := h.1
theorem RV.below {w4 wx wy : World} {P d V : Nat} {B : Option Addr} {s : RS} (h : RV w4 wx P B d s V) (hb : Below wx.heap.size wx wy) : RV w4 wy P B d s V :=
  ⟨h.1.below hb, h.2.1.belowS hb, h.2.2.trans (Chg.of_below (S := fun k => k = P) hb) fun _ _ x => x⟩
theorem RV.get {w4 wx wy : World} {P d V : Nat} {B : Option Addr} {s : RS} {r : Int × RS} {e : Ending} (h : RV w4 wx P B d s V) (hV : V ≠ P) (hg : GtPost wx P B d r e wy) : e = .returned (.int .i64 r.1) ∧ RV w4 wy P B d r.2 V :=
  ⟨hg.1, hg.2.1, hg.2.2.bk h.2.1 hV, h.2.2.trans hg.2.2 fun _ _ x => x⟩
def KQ (w4 wx : World) (P : Nat) (B : Option Addr) (d : Nat) (l : List UInt8) (v : Value) : Prop :=
  ∃ K, v = .pointer (some ⟨K, 0, none⟩) ∧ Bk wx K 24 [.int .i64 (gKd l), .int .i64 (gSes l), .int .i64 0, .int .i64 0, .int .i64 0, .slice none 0 0] ∧ Ro wx P B d (gS2 l) ∧ w4.heap.size ≤ K ∧ Chg (fun k => k = P) w4 wx
theorem kq_new {w4 wq : World} {P d V : Nat} {B : Option Addr} {l : List UInt8} (h : RV w4 wq P B d (gS2 l) V) :
    KQ w4 (wq.alloc (.cells #[.int .i64 (gKd l), .int .i64 (gSes l), .int .i64 0, .int .i64 0, .int .i64 0, .slice none 0 0] 24)) P B d l (.pointer (some ⟨wq.heap.size, 0, none⟩)) :=
  ⟨wq.heap.size, rfl, Bk.newA wq _ _, h.1.below ((Below.refl _ _).alloc (Nat.le_refl _) _), h.2.2.size, h.2.2.alloc _⟩
theorem kq_set {w4 wq : World} {P d V K : Nat} {B : Option Addr} {l : List UInt8} {x0 x1 x2 x3 x4 x5 : Value} (h : RV w4 wq P B d (gS2 l) V) (hK : Bk wq K 24 [x0, x1, x2, x3, x4, x5]) (h4 : w4.heap.size ≤ K) (hP : P < w4.heap.size) (hB : ∀ a, B = some a → a.block < w4.heap.size) :
    KQ w4 ((((((wq.setCell ⟨K, 0, none⟩ (.int .i64 (gKd l))).setCell ⟨K, 1, none⟩ (.int .i64 (gSes l))).setCell ⟨K, 2, none⟩ (.int .i64 0)).setCell ⟨K, 3, none⟩ (.int .i64 0)).setCell ⟨K, 4, none⟩ (.int .i64 0)).setCell ⟨K, 5, none⟩ (.slice none 0 0)) P B d l (.pointer (some ⟨K, 0, none⟩)) := by
  have hc : Chg (fun k => k = K) wq ((((((wq.setCell ⟨K, 0, none⟩ (.int .i64 (gKd l))).setCell ⟨K, 1, none⟩ (.int .i64 (gSes l))).setCell ⟨K, 2, none⟩ (.int .i64 0)).setCell ⟨K, 3, none⟩ (.int .i64 0)).setCell ⟨K, 4, none⟩ (.int .i64 0)).setCell ⟨K, 5, none⟩ (.slice none 0 0)) :=
    ((((((Chg.refl (fun k => k = K) wq).set_ (show K = K from rfl) 0 _).set_ (show K = K from rfl) 1 _).set_ (show K = K from rfl) 2 _).set_ (show K = K from rfl) 3 _).set_ (show K = K from rfl) 4 _).set_ (show K = K from rfl) 5 _
  refine ⟨K, rfl, (((((hK.set_ 0 _).set_ 1 _).set_ 2 _).set_ 3 _).set_ 4 _).set_ 5 _, h.1.chg hc (by omega) (fun a ha e => by have := hB a ha; omega), h4, ?_⟩
  exact (((((h.2.2.setN h4 0 _).setN h4 1 _).setN h4 2 _).setN h4 3 _).setN h4 4 _).setN h4 5 _
set_option maxRecDepth 100000 in
set_option maxHeartbeats 6400000 in
theorem pget_any {w : World} {A : Option Addr} {n c : Nat} {b : List UInt8} (h : Rd w A n (bys b)) (hn : n ≤ 17592186044416) (hc : n ≤ c) :
    Calls Try.prog 22 #[.slice A n c] w (GePost w (geP b) (geE b)) := by
  have hmf : ∀ (fn : Fn) (first cap : Array Value) (w : World), (Instr.makeFunc fn first cap).run Try.prog w = .ok (.func fn first cap) w := fun _ _ _ _ => rfl
  have hb1 := (Below.refl w.heap.size w).alloc (Nat.le_refl _) (.cells #[.int .i64 0, .int .i64 0, .int .i64 0, .int .i64 0, .int .i64 0, .slice none 0 0] 24)
  have hz := Bk.newA w 24 #[.int .i64 0, .int .i64 0, .int .i64 0, .int .i64 0, .int .i64 0, .slice none 0 0]
  have H := Lib.hid (And.intro hb1 (And.intro hz (h.below hb1)))
  have hwa : ∃ wa, wa = w.alloc (.cells #[.int .i64 0, .int .i64 0, .int .i64 0, .int .i64 0, .int .i64 0, .slice none 0 0] 24) := ⟨_, rfl⟩
  obtain ⟨wa, hwa⟩ := hwa
  have hws : wa.heap.size = w.heap.size + 1 := by rw [hwa, World.size_alloc]
  rw [← hwa] at H
  clear h hb1 hz
  have HWS := Lib.hid hws
  clear hws
  go_enter Try.func22, Try.ntmps22
  go_wp2_with fail
  rw [← hwa]
  clear hwa
  refine (crcOpen_any (t := tableL) (.inl ⟨rfl, rfl⟩) H.out.2.2 hn hc).mono ?_
  rintro e w2 ⟨A1, n1, c1, g1, rfl, hnc, hm, hg1, hb2⟩
  have hB2 := below_base H.out.1 hb2 H.out.1.size
  have hK2 := H.out.2.1.belowS hb2
  have hl1 : (openB tableL b).length = n1 := by have := hm.1; simpa [bys_length] using this
  have hn1 : (openB tableL b).length ≤ b.length := by
    unfold openB; split
    · rw [List.length_take]; omega
    · exact Nat.zero_le _
  have hbl : b.length = n := by have := H.out.2.2.1; simpa [bys_length] using this
  have H2 := Lib.hid (And.intro hm (And.intro hB2 (And.intro hK2 (And.intro hl1 (And.intro hnc hb2)))))
  have hn2 : n1 ≤ 140737488351232 := by omega
  obtain ⟨c0, c1', c2, c3, c4, c5⟩ := cells6 hK2
  obtain ⟨f0, f1, f2, f3, f4, f5⟩ := fr6 hK2
  clear hm hB2 hK2 hl1 hn1 hbl hnc hg1 hb2
  by_cases hE : openE tableL b = 0
  · have HE := Lib.hid hE
    rw [hE]
    clear hE
    obtain ⟨l, hl⟩ : ∃ l, openB tableL b = l := ⟨_, rfl⟩
    rw [hl] at H2
    have HL := Lib.hid hl
    clear hl c0 c1' c2 c3 c4 c5 f0 f1 f2 f3 f4 f5
    go_wp2_with fail
    refine (newR_any H2.out.1.rd hn2).mono ?_
    rintro e w3 ⟨P, B, d, rfl, hro, hb3, hP, hB⟩
    have hba := (Below.refl w3.heap.size w3).alloc (Nat.le_refl _) (.cells #[.pointer (some ⟨P, 0, none⟩)] 60)
    have hV := Bk.newA w3 60 #[.pointer (some ⟨P, 0, none⟩)]
    have hPl := hro.1.lt
    have H3 := Lib.hid (And.intro (hro.below hba) (And.intro hV (And.intro (below_base H2.out.2.1 (below_base hb3 hba hb3.size) H2.out.2.1.size) (And.intro (H2.out.2.2.1.belowS (below_base hb3 hba hb3.size)) (And.intro hP (And.intro hPl (And.intro hB (below_base H2.out.2.2.2.2.2 (below_base hb3 hba hb3.size) H2.out.2.2.2.2.2.size))))))))
    clear hro hb3 hP hB hba hV hPl hn2
    go_wp2_with fail
    generalize hw4 : w3.alloc (.cells #[.pointer (some ⟨P, 0, none⟩)] 60) = w4 at H3 ⊢
    have k0 := (H3.out.2.1.cell 0).trans (show _ = some (Value.pointer (some ⟨P, 0, none⟩)) from rfl)
    have HW4 := Lib.hid hw4
    clear hw4
    go_cut [7] (fun v wx => KQ w4 wx P B d l v)
    case first =>
      have HR := Lib.hid (show RV w4 w4 P B d ⟨l, 0, 0, 0⟩ w3.heap.size from ⟨H3.out.1, H3.out.2.1, Chg.refl _ _⟩)
      have HP := Lib.hid (show P < w4.heap.size from H3.out.1.1.lt)
      have HBb := Lib.hid (show ∀ a, B = some a → a.block < w4.heap.size from fun a ha => by rw [← HW4.out, World.size_alloc]; exact Nat.lt_succ_of_lt (H3.out.2.2.2.2.2.2.1 a ha).2)
      have HVP := Lib.hid (show w3.heap.size ≠ P from Nat.ne_of_gt H3.out.2.2.2.2.2.1)
      have hne := World.new_ne w4 ⟨w3.heap.size, 0, none⟩ k0
      simp only at hne
      have hne2 : w3.heap.size ≠ w4.heap.size := fun e => hne e.symm
      have HA5 := Lib.hid (((Below.refl w4.heap.size w4).alloc (Nat.le_refl _) (.cells #[.int .i64 0, .int .i64 0, .int .i64 0, .int .i64 0, .int .i64 0, .slice none 0 0] 24)).drew)
      have HA4 := Lib.hid ((Below.refl w4.heap.size w4).drew.alloc (Nat.le_refl _) (.cells #[.int .i64 0, .int .i64 0, .int .i64 0, .int .i64 0, .int .i64 0, .slice none 0 0] 24))
      go_region_held3 (fun w' => w'.cell? ⟨w3.heap.size, 0, none⟩ = some (.pointer (some ⟨P, 0, none⟩)))
        (first | go_keep | exact k0q)
        (first
          | (go_at_call 42; (with_reducible refine Calls.mono (getR_any S1.out.ro 4) ?_); intro e wy hg; obtain ⟨rfl, h2⟩ : e = .returned (.int .i64 (gSes l)) ∧ RV w4 wy P B d (gS2 l) w3.heap.size := S1.out.get HVP.out hg; have zb := hg.2.2.bk KZ.out (Nat.ne_of_gt HP.out); clear z0 z1 z2 z3 z4 z5 y0 y1 y2 y3 y4 y5 KZ; obtain ⟨z0, z1, z2, z3, z4, z5⟩ := cells6 zb; obtain ⟨y0, y1, y2, y3, y4, y5⟩ := fr6 zb; have KZ := Lib.hid zb; clear zb; have k0q := h2.2.1.cell 0; have S4 := Lib.hid h2; clear hg h2)
          | (go_at_call 42; (with_reducible refine Calls.mono (getR_any S1.out.ro 4) ?_); intro e wy hg; obtain ⟨rfl, h2⟩ : e = .returned (.int .i64 (gSes l)) ∧ RV w4 wy P B d (gS2 l) w3.heap.size := S1.out.get HVP.out hg; have k0q := h2.2.1.cell 0; have S4 := Lib.hid h2; clear hg h2)
          | (go_at_call 42; (with_reducible refine Calls.mono (getR_any (S1.out.below (Below.refl _ _).drew).ro 4) ?_); intro e wy hg; obtain ⟨rfl, h2⟩ : e = .returned (.int .i64 (gSes l)) ∧ RV w4 wy P B d (gS2 l) w3.heap.size := (S1.out.below (Below.refl _ _).drew).get HVP.out hg; skip; have k0q := h2.2.1.cell 0; have S4 := Lib.hid h2; clear hg h2)
          | (go_at_call 42; (with_reducible refine Calls.mono (getR_any (S1.out.below HAz.out).ro 4) ?_); intro e wy hg; obtain ⟨rfl, h2⟩ : e = .returned (.int .i64 (gSes l)) ∧ RV w4 wy P B d (gS2 l) w3.heap.size := (S1.out.below HAz.out).get HVP.out hg; have zb : Bk wy wx.heap.size 24 [.int .i64 0, .int .i64 0, .int .i64 0, .int .i64 0, .int .i64 0, .slice none 0 0] := hg.2.2.bk (Bk.newA wx 24 #[.int .i64 0, .int .i64 0, .int .i64 0, .int .i64 0, .int .i64 0, .slice none 0 0]) (Nat.ne_of_gt S1.out.1.1.lt); obtain ⟨z0, z1, z2, z3, z4, z5⟩ := cells6 zb; obtain ⟨y0, y1, y2, y3, y4, y5⟩ := fr6 zb; have KZ := Lib.hid zb; clear zb; have HK4 := Lib.hid (show w4.heap.size ≤ wx.heap.size from S1.out.2.2.size); have k0q := h2.2.1.cell 0; have S4 := Lib.hid h2; clear hg h2)
          | (go_at_call 42; (with_reducible refine Calls.mono (getR_any (S1.out.below HAx.out).ro 4) ?_); intro e wy hg; obtain ⟨rfl, h2⟩ : e = .returned (.int .i64 (gSes l)) ∧ RV w4 wy P B d (gS2 l) w3.heap.size := (S1.out.below HAx.out).get HVP.out hg; have zb : Bk wy wx.heap.size 24 [.int .i64 0, .int .i64 0, .int .i64 0, .int .i64 0, .int .i64 0, .slice none 0 0] := hg.2.2.bk (Bk.newA wx.drew 24 #[.int .i64 0, .int .i64 0, .int .i64 0, .int .i64 0, .int .i64 0, .slice none 0 0]) (Nat.ne_of_gt S1.out.1.1.lt); obtain ⟨z0, z1, z2, z3, z4, z5⟩ := cells6 zb; obtain ⟨y0, y1, y2, y3, y4, y5⟩ := fr6 zb; have KZ := Lib.hid zb; clear zb; have HK4 := Lib.hid (show w4.heap.size ≤ wx.heap.size from S1.out.2.2.size); have k0q := h2.2.1.cell 0; have S4 := Lib.hid h2; clear hg h2)
          | (go_at_call 42; (with_reducible refine Calls.mono (getR_any (S1.out.below HAy.out).ro 4) ?_); intro e wy hg; obtain ⟨rfl, h2⟩ : e = .returned (.int .i64 (gSes l)) ∧ RV w4 wy P B d (gS2 l) w3.heap.size := (S1.out.below HAy.out).get HVP.out hg; have zb : Bk wy wx.heap.size 24 [.int .i64 0, .int .i64 0, .int .i64 0, .int .i64 0, .int .i64 0, .slice none 0 0] := hg.2.2.bk (Bk.newA wx 24 #[.int .i64 0, .int .i64 0, .int .i64 0, .int .i64 0, .int .i64 0, .slice none 0 0]) (Nat.ne_of_gt S1.out.1.1.lt); obtain ⟨z0, z1, z2, z3, z4, z5⟩ := cells6 zb; obtain ⟨y0, y1, y2, y3, y4, y5⟩ := fr6 zb; have KZ := Lib.hid zb; clear zb; have HK4 := Lib.hid (show w4.heap.size ≤ wx.heap.size from S1.out.2.2.size); have k0q := h2.2.1.cell 0; have S4 := Lib.hid h2; clear hg h2)
          | (go_at_call 42; (with_reducible refine Calls.mono (getR_any (HR.out.below (Below.refl _ _).drew).ro 1) ?_); intro e wx hg; obtain ⟨rfl, h2⟩ : e = .returned (.int .i64 (gKd l)) ∧ RV w4 wx P B d (gS1 l) w3.heap.size := (HR.out.below (Below.refl _ _).drew).get HVP.out hg; skip; have k0q := h2.2.1.cell 0; have hne3 := World.new_ne wx ⟨w3.heap.size, 0, none⟩ k0q; simp only at hne3; have hne4 : w3.heap.size ≠ wx.heap.size := fun e => hne3 e.symm; have S1 := Lib.hid h2; have HAz := Lib.hid (((Below.refl wx.heap.size wx).alloc (Nat.le_refl _) (.cells #[.int .i64 0, .int .i64 0, .int .i64 0, .int .i64 0, .int .i64 0, .slice none 0 0] 24)).drew); have HAx := Lib.hid ((Below.refl wx.heap.size wx).drew.alloc (Nat.le_refl _) (.cells #[.int .i64 0, .int .i64 0, .int .i64 0, .int .i64 0, .int .i64 0, .slice none 0 0] 24)); have HAy := Lib.hid ((Below.refl wx.heap.size wx).alloc (Nat.le_refl _) (.cells #[.int .i64 0, .int .i64 0, .int .i64 0, .int .i64 0, .int .i64 0, .slice none 0 0] 24)); clear hg h2)
          | (go_at_call 42; (with_reducible refine Calls.mono (getR_any (HR.out.below HA5.out).ro 1) ?_); intro e wx hg; obtain ⟨rfl, h2⟩ : e = .returned (.int .i64 (gKd l)) ∧ RV w4 wx P B d (gS1 l) w3.heap.size := (HR.out.below HA5.out).get HVP.out hg; have zb : Bk wx w4.heap.size 24 [.int .i64 0, .int .i64 0, .int .i64 0, .int .i64 0, .int .i64 0, .slice none 0 0] := hg.2.2.bk (Bk.newA w4 24 #[.int .i64 0, .int .i64 0, .int .i64 0, .int .i64 0, .int .i64 0, .slice none 0 0]) (Nat.ne_of_gt HP.out); obtain ⟨z0, z1, z2, z3, z4, z5⟩ := cells6 zb; obtain ⟨y0, y1, y2, y3, y4, y5⟩ := fr6 zb; have KZ := Lib.hid zb; clear zb; have HK4 := Lib.hid (Nat.le_refl w4.heap.size); have k0q := h2.2.1.cell 0; have hne3 := World.new_ne wx ⟨w3.heap.size, 0, none⟩ k0q; simp only at hne3; have hne4 : w3.heap.size ≠ wx.heap.size := fun e => hne3 e.symm; have S1 := Lib.hid h2; have HAz := Lib.hid (((Below.refl wx.heap.size wx).alloc (Nat.le_refl _) (.cells #[.int .i64 0, .int .i64 0, .int .i64 0, .int .i64 0, .int .i64 0, .slice none 0 0] 24)).drew); have HAx := Lib.hid ((Below.refl wx.heap.size wx).drew.alloc (Nat.le_refl _) (.cells #[.int .i64 0, .int .i64 0, .int .i64 0, .int .i64 0, .int .i64 0, .slice none 0 0] 24)); have HAy := Lib.hid ((Below.refl wx.heap.size wx).alloc (Nat.le_refl _) (.cells #[.int .i64 0, .int .i64 0, .int .i64 0, .int .i64 0, .int .i64 0, .slice none 0 0] 24)); clear hg h2)
          | (go_at_call 42; (with_reducible refine Calls.mono (getR_any (HR.out.below HA4.out).ro 1) ?_); intro e wx hg; obtain ⟨rfl, h2⟩ : e = .returned (.int .i64 (gKd l)) ∧ RV w4 wx P B d (gS1 l) w3.heap.size := (HR.out.below HA4.out).get HVP.out hg; have zb : Bk wx w4.heap.size 24 [.int .i64 0, .int .i64 0, .int .i64 0, .int .i64 0, .int .i64 0, .slice none 0 0] := hg.2.2.bk (Bk.newA w4.drew 24 #[.int .i64 0, .int .i64 0, .int .i64 0, .int .i64 0, .int .i64 0, .slice none 0 0]) (Nat.ne_of_gt HP.out); obtain ⟨z0, z1, z2, z3, z4, z5⟩ := cells6 zb; obtain ⟨y0, y1, y2, y3, y4, y5⟩ := fr6 zb; have KZ := Lib.hid zb; clear zb; have HK4 := Lib.hid (Nat.le_refl w4.heap.size); have k0q := h2.2.1.cell 0; have hne3 := World.new_ne wx ⟨w3.heap.size, 0, none⟩ k0q; simp only at hne3; have hne4 : w3.heap.size ≠ wx.heap.size := fun e => hne3 e.symm; have S1 := Lib.hid h2; have HAz := Lib.hid (((Below.refl wx.heap.size wx).alloc (Nat.le_refl _) (.cells #[.int .i64 0, .int .i64 0, .int .i64 0, .int .i64 0, .int .i64 0, .slice none 0 0] 24)).drew); have HAx := Lib.hid ((Below.refl wx.heap.size wx).drew.alloc (Nat.le_refl _) (.cells #[.int .i64 0, .int .i64 0, .int .i64 0, .int .i64 0, .int .i64 0, .slice none 0 0] 24)); have HAy := Lib.hid ((Below.refl wx.heap.size wx).alloc (Nat.le_refl _) (.cells #[.int .i64 0, .int .i64 0, .int .i64 0, .int .i64 0, .int .i64 0, .slice none 0 0] 24)); clear hg h2))
      all_goals go_wp2_with fail
      all_goals go_meet
      all_goals first
        | (with_reducible exact kq_new S4.out)
        | (with_reducible exact kq_set S4.out KZ.out HK4.out HP.out HBb.out)
        | trace_state
    case rest =>
      obtain ⟨K, rfl, hKb, hro5, hK4, hc5⟩ := hcut
      have hP4 : P < w4.heap.size := H3.out.1.1.lt
      have hVe : w3.heap.size < w4.heap.size := H3.out.2.1.lt
      have hVP : w3.heap.size ≠ P := Nat.ne_of_gt H3.out.2.2.2.2.2.1
      have hPa : wa.heap.size ≤ P := Nat.le_trans H2.out.2.2.2.2.2.size H3.out.2.2.2.2.1
      have hBa := hc5.below H3.out.2.2.2.2.2.2.2 (fun k _ e => by subst e; exact hPa) H3.out.2.2.2.2.2.2.2.size
      have hBk : ∀ a, B = some a → a.block < w4.heap.size := fun a ha => by rw [← HW4.out, World.size_alloc]; exact Nat.lt_succ_of_lt (H3.out.2.2.2.2.2.2.1 a ha).2
      have hVb := hc5.bk H3.out.2.1 hVP
      have H5 := Lib.hid (And.intro hKb (And.intro hro5 (And.intro hVb (And.intro hBa (And.intro hK4 (And.intro hP4 (And.intro hVe (And.intro hVP (And.intro hPa hBk)))))))))
      clear hKb hro5 hK4 hc5 hP4 hVe hVP hPa hBa hBk hVb k0
      obtain ⟨c0, c1', c2, c3, c4, c5⟩ := cells6 H5.out.1
      go_wp2_with fail
      refine (pwithin_any (gKd l) 1 5).mono ?_
      rintro e w6 ⟨rfl, rfl⟩
      cases hw : win (gKd l) 1 5 with
      | false =>
        have HG := Lib.hid (show gpB l = false from by rw [← (gOk_eq l).1]; unfold gOk; rw [hw]; rfl)
        have hR := H.out.2.1.below H5.out.2.2.2.1 (by rw [HWS.out]; exact Nat.lt_succ_self _)
        obtain ⟨m0, m1, m2, m3, m4, m5⟩ := cells6 hR
        obtain ⟨y0, y1, y2, y3, y4, y5⟩ := fr6 hR
        have HR := Lib.hid hR
        clear hw hR
        go_wp2_with fail
        have hB := below_base H.out.1 H5.out.2.2.2.1 H.out.1.size
        have h9 := set6 hB HR.out (.int .i64 0) (.int .i64 0) (.int .i64 0) (.int .i64 0) (.int .i64 0) (.slice none 0 0)
        exact ret_pkE (v6 := .int .i64 6) rfl rfl rfl rfl h9.1 (ge_no h9.2.1 (ge_bad HE.out HL.out HG.out).1 (ge_bad HE.out HL.out HG.out).2)
      | true =>
        have HW := Lib.hid hw
        have HI := Lib.hid (ixf hw)
        clear hw
        go_wp2_with fail
        go_cut [8] (fun v wx => FmQ w6 wx (gKd l) v)
        case first =>
          obtain ⟨B0, hB0⟩ : ∃ B, fmB (gKd l) = B := ⟨_, rfl⟩
          obtain ⟨D0, hD0⟩ : ∃ B, fmD (gKd l) = B := ⟨_, rfl⟩
          obtain ⟨R0, hR0⟩ : ∃ B, fmR (gKd l) = B := ⟨_, rfl⟩
          have hix := HI.out
          rw [hB0, hD0, hR0] at hix
          have hne := World.new_ne w6 ⟨K, 0, none⟩ c0
          simp only at hne
          have hne2 : K ≠ w6.heap.size := fun e => hne e.symm
          go_region_held3 (fun w' => w'.cell? ⟨K, 0, none⟩ = some (.int .i64 (gKd l)))
            (first | go_keep | exact c0q)
            (first
              | (go_at_call 29; refine forms_any.mono ?_; rintro e wq ⟨rfl, hbq⟩; have K1 := Lib.hid (below_undrew hbq); have c0q := (H5.out.1.belowS K1.out).cell 0; clear hbq)
              | (go_at_call 29; refine forms_any.mono ?_; rintro e wq ⟨rfl, hbq⟩; have K1 := Lib.hid (below_base (((Below.refl w6.heap.size w6).drew).alloc (Nat.le_refl _) _) hbq (by rw [World.size_alloc]; exact Nat.le_succ _)); have c0q := (H5.out.1.belowS K1.out).cell 0; have zb : Bk wq w6.heap.size 48 [.bool false, .bool false, .int .i64 0] := (Bk.newA w6.drew 48 #[.bool false, .bool false, .int .i64 0]).belowS hbq; obtain ⟨z0, z1, z2⟩ := cells3 zb; have y0 := zb.frozen 0; have y1 := zb.frozen 1; have y2 := zb.frozen 2; have KZ := Lib.hid zb; clear hbq zb))
          all_goals go_wp2_with fail
          all_goals go_meet
          all_goals first
            | exact fq_new K1.out B0 D0 R0 hB0 hD0 hR0
            | exact fq_set K1.out KZ.out B0 D0 R0 hB0 hD0 hR0
        case rest =>
          obtain ⟨F, rfl, hg, hGs, hb6⟩ := hcut
          obtain ⟨x1, x2, x3, x4, x5, x6, x7, x8, x9, x10⟩ := H5.out
          have hK6 := x1.lt
          have H6 := Lib.hid (show GP wa _ P B d (gS2 l) w3.heap.size K F [.int .i64 (gKd l), .int .i64 (gSes l), .int .i64 0, .int .i64 0, .int .i64 0, .slice none 0 0] [.bool (fmB (gKd l)), .bool (fmD (gKd l)), .int .i64 (fmR (gKd l))] from
            ⟨x2.below hb6, x3.belowS hb6, x1.belowS hb6, hg, ⟨x9, by omega⟩, ⟨x8, by omega, by omega, by omega, by omega⟩, fun a ha => by have := x10 a ha; omega, below_base x4 hb6 x4.size⟩)
          have HKP := Lib.hid (show K ≠ P ∧ w.heap.size < P ∧ w.heap.size < K from by have := HWS.out; omega)
          have HLn := Lib.hid (show l.length ≤ 140737488351232 from by have := H3.out.1.2.2.2.2.1; exact this)
          clear c0 c1' c2 c3 c4 c5 hg hGs hb6 HI x1 x2 x3 x4 x5 x6 x7 x8 x9 x10 hK6 H5 H3
          obtain ⟨bB, hbB⟩ : ∃ B, fmB (gKd l) = B := ⟨_, rfl⟩
          obtain ⟨bD, hbD⟩ : ∃ B, fmD (gKd l) = B := ⟨_, rfl⟩
          obtain ⟨bR, hbR⟩ : ∃ B, fmR (gKd l) = B := ⟨_, rfl⟩
          rw [hbB, hbD, hbR] at H6
          have t3 : gT3 l = tkS bB 4 (gS2 l) := by unfold gT3; rw [hbB]
          have t4 : gT4 l = tkS (bB && bD) 4 (gT3 l).2 := by unfold gT4; rw [hbB, hbD]
          have t5 : gT5 l = tkS (decide (0 < bR)) 1 (gT4 l).2 := by unfold gT5; rw [hbR]
          have HT := Lib.hid (And.intro t3 (And.intro t4 (And.intro t5 hbD)))
          clear hbB hbD hbR t3 t4 t5
          obtain ⟨e0, e1, e2⟩ := cells3 H6.out.2.2.2.1
          go_wp2_with fail
          refine (take_any H6.out bB 4 2 rfl).mono ?_
          rintro e w7 ⟨⟨v7, rfl⟩, h7⟩
          rw [← HT.out.1] at h7
          have H7 := Lib.hid h7
          clear h7 e0 e1 e2
          obtain ⟨e0, e1, e2⟩ := cells3 H7.out.2.2.2.1
          go_upto_region 11 with (fail)
          go_cut [49] (fun v wx => GP wa wx P B d (gT4 l).2 w3.heap.size K F [.int .i64 (gKd l), .int .i64 (gSes l), .int .i64 (gT3 l).1, .int .i64 (gT4 l).1, .int .i64 0, .slice none 0 0] [.bool bB, .bool bD, .int .i64 bR])
          case first =>
            cases bB with
            | false =>
              go_wp2_with fail
              refine (take_any H7.out false 4 3 rfl).mono ?_
              rintro e w8 ⟨⟨v8, rfl⟩, h8⟩
              have h8' : GP wa w8 P B d (gT4 l).2 w3.heap.size K F [.int .i64 (gKd l), .int .i64 (gSes l), .int .i64 (gT3 l).1, .int .i64 (gT4 l).1, .int .i64 0, .slice none 0 0] [.bool false, .bool bD, .int .i64 bR] := by rw [HT.out.2.1]; exact h8
              have H8 := Lib.hid h8'
              clear h8 h8'
              go_wp2_with fail
              go_meet
              exact H8.out
            | true =>
              go_wp2_with fail
              refine (take_any H7.out bD 4 3 rfl).mono ?_
              rintro e w8 ⟨⟨v8, rfl⟩, h8⟩
              have h8' : GP wa w8 P B d (gT4 l).2 w3.heap.size K F [.int .i64 (gKd l), .int .i64 (gSes l), .int .i64 (gT3 l).1, .int .i64 (gT4 l).1, .int .i64 0, .slice none 0 0] [.bool true, .bool bD, .int .i64 bR] := by rw [HT.out.2.1]; exact h8
              have H8 := Lib.hid h8'
              clear h8 h8'
              go_wp2_with fail
              go_meet
              exact H8.out
          case rest =>
            have H8 := Lib.hid hcut
            clear hcut e0 e1 e2
            obtain ⟨e0, e1, e2⟩ := cells3 H8.out.2.2.2.1
            go_wp2_with fail
            refine (take_any H8.out (decide (0 < bR)) 1 4 rfl).mono ?_
            rintro e w9 ⟨⟨v9, rfl⟩, h9⟩
            rw [← HT.out.2.2.1] at h9
            have H9 := Lib.hid (show GP wa w9 P B d (gT5 l).2 w3.heap.size K F [.int .i64 (gKd l), .int .i64 (gSes l), .int .i64 (gT3 l).1, .int .i64 (gT4 l).1, .int .i64 (gT5 l).1, .slice none 0 0] [.bool bB, .bool bD, .int .i64 bR] from h9)
            clear h9 e0 e1 e2
            obtain ⟨e0, e1, e2⟩ := cells3 H9.out.2.2.2.1
            go_upto_if 57 with (fail)
            go_cut [61] (fun v wx => GF wa wx P B d (gT6 l).2 w3.heap.size K F (gKd l) (gSes l) (gT3 l).1 (gT4 l).1 (gT5 l).1 [.bool bB, .bool bD, .int .i64 bR] (gT6 l).1)
            case first =>
              cases bD with
              | false =>
                have h6 : gT6 l = ([], (gT5 l).2) := by unfold gT6; rw [HT.out.2.2.2]; rfl
                have HD := Lib.hid (show GF wa w9 P B d (gT6 l).2 w3.heap.size K F (gKd l) (gSes l) (gT3 l).1 (gT4 l).1 (gT5 l).1 [.bool bB, .bool false, .int .i64 bR] (gT6 l).1 from by
                  rw [h6]
                  exact ⟨none, 0, 0, wa.heap.size + K + P + 1, H9.out, Nat.le_refl _, rfl, mut_nil _ _, by omega, by omega, by omega⟩)
                clear h6
                go_wp2_with fail
                go_meet
                exact HD.out
              | true =>
                have h6 : gT6 l = (gT5 l).2.take (gT5 l).2.rest true := by unfold gT6; rw [HT.out.2.2.2]; rfl
                have HD := Lib.hid h6
                have k0 := (H9.out.2.1.cell 0).trans (show _ = some (Value.pointer (some ⟨P, 0, none⟩)) from rfl)
                have hvk : w3.heap.size ≠ K := H9.out.2.2.2.2.2.1.2.2.2.1
                have hkv : K ≠ w3.heap.size := fun e => hvk e.symm
                clear h6
                go_wp2_with fail
                go_region_held3 (fun w' => w'.cell? ⟨w3.heap.size, 0, none⟩ = some (.pointer (some ⟨P, 0, none⟩)))
                  (first | go_keep | exact k0q)
                  (first
                    | (go_at_call 45; refine (restR_any (H9.out.below (Below.refl _ _).drew).1).mono ?_; rintro e wx ⟨rfl, hbx⟩; have hbx' := below_undrew hbx; have h10 := H9.out.below hbx'; have k0q := (h10.2.1.cell 0).trans (show _ = some (Value.pointer (some ⟨P, 0, none⟩)) from rfl); have S1 := Lib.hid h10; clear hbx hbx' h10)
                    | (go_at_call 44; refine (rawR_any S1.out.1 _).mono ?_; rintro e wy ⟨v, rfl, hown, hro, hch⟩; rw [← HD.out] at hown hro; have h11 := S1.out.chg hro hch; have k0q := (h11.2.1.cell 0).trans (show _ = some (Value.pointer (some ⟨P, 0, none⟩)) from rfl); obtain ⟨A', c', rfl, hd1, hd2, _⟩ := own_form hown; have k5 := (h11.2.2.1.cell 5).trans (show _ = some (Value.slice none 0 0) from rfl); have f5 := h11.2.2.1.frozen 5; have S2 := Lib.hid (gf_of h11 hown hd1 S1.out.2.2.1.lt S1.out.1.1.lt S1.out.2.2.2.2.2.2.2.size); clear hown hro hch h11 hd1 hd2))
                all_goals go_wp2_with fail
                all_goals go_meet
                all_goals exact S2.out
            case rest =>
              obtain ⟨A3, n3, c3, g3, hgp, hnc3, hl3, hm3, hg3, hgK, hgP⟩ := hcut
              have H10 := Lib.hid (And.intro hgp (And.intro hnc3 (And.intro hl3 (And.intro hm3 (And.intro hg3 (And.intro hgK hgP))))))
              clear hgp hnc3 hl3 hm3 hg3 hgK hgP e0 e1 e2
              obtain ⟨c0, c1', c2, c3', c4, c5⟩ := cells6 H10.out.1.2.2.1
              have k0 := (H10.out.1.2.1.cell 0).trans (show _ = some (Value.pointer (some ⟨P, 0, none⟩)) from rfl)
              go_wp2_with fail
              refine (endR_any H10.out.1.1).mono ?_
              rintro e w11 ⟨rfl, hb11⟩
              have H11 := Lib.hid (And.intro (H10.out.1.below hb11) (H10.out.2.2.2.1.below hb11))
              clear c0 c1' c2 c3' c4 c5 hb11
              obtain ⟨c0, c1', c2, c3', c4, c5⟩ := cells6 H11.out.1.2.2.1
              obtain ⟨g1, hg1⟩ : ∃ g1, (gT6 l).2.fin.1 = g1 := ⟨_, rfl⟩
              obtain ⟨g2, hg2⟩ : ∃ g2, (gT6 l).2.fin.2 = g2 := ⟨_, rfl⟩
              rw [hg1, hg2]
              have HFn := Lib.hid (show (gT6 l).2.fin = (g1, g2) from by rw [← hg1, ← hg2])
              clear hg1 hg2
              have hR := H.out.2.1.below H11.out.1.2.2.2.2.2.2.2 (by rw [HWS.out]; exact Nat.lt_succ_self _)
              obtain ⟨m0, m1, m2, m3, m4, m5⟩ := cells6 hR
              obtain ⟨y0, y1, y2, y3, y4, y5⟩ := fr6 hR
              have HR := Lib.hid hR
              clear hR
              by_cases e1 : g1 = 0
              · by_cases e2 : g2 = 0
                · subst e1 e2
                  go_wp2_with fail
                  have hpa : PA w11 A3 n3 c3 (gPk l) := ⟨H11.out.2.rd, H10.out.2.1, by have h7 := gT6_len l; have h8 := H10.out.2.2.1; have h9 := HLn.out; omega, H10.out.2.2.1, gPk_i64 l⟩
                  refine (pcheck_any hpa).mono ?_
                  rintro e w12 ⟨rfl, hb12⟩
                  have H12 := Lib.hid (And.intro (H11.out.1.below hb12) (H11.out.2.below hb12))
                  clear c0 c1' c2 c3' c4 c5 m0 m1 m2 m3 m4 m5 y0 y1 y2 y3 y4 y5 k0 hb12 hpa HR
                  obtain ⟨c0, c1', c2, c3', c4, c5⟩ := cells6 H12.out.1.2.2.1
                  obtain ⟨f0, f1, f2, f3, f4, f5⟩ := fr6 H12.out.1.2.2.1
                  have hR := H.out.2.1.below H12.out.1.2.2.2.2.2.2.2 (by rw [HWS.out]; exact Nat.lt_succ_self _)
                  obtain ⟨m0, m1, m2, m3, m4, m5⟩ := cells6 hR
                  obtain ⟨y0, y1, y2, y3, y4, y5⟩ := fr6 hR
                  have HR := Lib.hid hR
                  clear hR
                  cases hq : pkB (gPk l) with
                  | false =>
                    have HG := Lib.hid (show gpB l = false from by rw [← (gOk_eq l).1]; unfold gOk; rw [hq]; simp)
                    rw [show pkE (gPk l) = 2 from by unfold pkE; rw [hq]; rfl]
                    clear hq
                    go_wp2_with fail
                    have hB := below_base H.out.1 H12.out.1.2.2.2.2.2.2.2 H.out.1.size
                    have h9 := set6 hB HR.out (.int .i64 0) (.int .i64 0) (.int .i64 0) (.int .i64 0) (.int .i64 0) (.slice none 0 0)
                    exact ret_pkE (v6 := .int .i64 6) rfl rfl rfl rfl h9.1 (ge_no h9.2.1 (ge_bad HE.out HL.out HG.out).1 (ge_bad HE.out HL.out HG.out).2)
                  | true =>
                    have hgo : gOk l = true := by unfold gOk; rw [hq, HW.out, HFn.out]; rfl
                    have HG := Lib.hid (And.intro (show gpB l = true from by rw [← (gOk_eq l).1]; exact hgo) ((gOk_eq l).2 hgo))
                    rw [show pkE (gPk l) = 0 from by unfold pkE; rw [hq]; rfl]
                    have hne1 : w.heap.size ≠ K := Nat.ne_of_lt HKP.out.2.2
                    have hne2 : K ≠ w.heap.size := Nat.ne_of_gt HKP.out.2.2
                    clear hq hgo
                    go_wp2_with fail
                    refine (clip_any H10.out.2.1).mono ?_
                    rintro e w13 ⟨rfl, rfl⟩
                    go_wp2_with fail
                    have hcK : Chg (fun k => k = K) w12 (w12.setCell ⟨K, 5, none⟩ (.slice A3 n3 n3)) := (Chg.refl (fun k => k = K) w12).set_ (show K = K from rfl) _ _
                    have hB := (below_base H.out.1 H12.out.1.2.2.2.2.2.2.2 H.out.1.size).setCell (p := ⟨K, 5, none⟩) (Nat.le_of_lt HKP.out.2.2) (.slice A3 n3 n3)
                    have h9 := set6 hB (hcK.bk HR.out hne1) (.int .i64 (gKd l)) (.int .i64 (gSes l)) (.int .i64 (gT3 l).1) (.int .i64 (gT4 l).1) (.int .i64 (gT5 l).1) (.slice A3 n3 n3)
                    have hgd := ge_good HE.out HL.out HG.out.1
                    refine ret_pkE (v6 := .int .i64 0) rfl rfl rfl rfl h9.1 ?_
                    rw [hgd.1, hgd.2, ← HG.out.2]
                    have hgw : g3 ≠ w.heap.size := by have := H10.out.2.2.2.2.1; have := HWS.out; omega
                    exact ⟨A3, n3, n3, g3, rfl, Nat.le_refl _, H10.out.2.2.1, H12.out.2.keep fun t cs hb => h9.2.2.bk (hcK.bk hb H10.out.2.2.2.2.2.1) hgw, by have := H10.out.2.2.2.2.1; have := HWS.out; omega, h9.2.1⟩
                · have d2 : (g2 == 0) = false := by simpa using e2
                  have d3 : decide (g2 = 0) = false := by simpa using e2
                  have HG := Lib.hid (show gpB l = false from by rw [← (gOk_eq l).1]; exact gOk_no (by rw [HFn.out]; simp [e2]))
                  subst e1
                  go_wp2_with fail
                  have hB := below_base H.out.1 H11.out.1.2.2.2.2.2.2.2 H.out.1.size
                  have h9 := set6 hB HR.out (.int .i64 0) (.int .i64 0) (.int .i64 0) (.int .i64 0) (.int .i64 0) (.slice none 0 0)
                  exact ret_pkE (v6 := .int .i64 6) rfl rfl rfl rfl h9.1 (ge_no h9.2.1 (ge_bad HE.out HL.out HG.out).1 (ge_bad HE.out HL.out HG.out).2)
              · have d2 : (g1 == 0) = false := by simpa using e1
                have d3 : decide (g1 = 0) = false := by simpa using e1
                have HG := Lib.hid (show gpB l = false from by rw [← (gOk_eq l).1]; exact gOk_no (by rw [HFn.out]; simp [e1]))
                go_wp2_with fail
                have hB := below_base H.out.1 H11.out.1.2.2.2.2.2.2.2 H.out.1.size
                have h9 := set6 hB HR.out (.int .i64 0) (.int .i64 0) (.int .i64 0) (.int .i64 0) (.int .i64 0) (.slice none 0 0)
                exact ret_pkE (v6 := .int .i64 6) rfl rfl rfl rfl h9.1 (ge_no h9.2.1 (ge_bad HE.out HL.out HG.out).1 (ge_bad HE.out HL.out HG.out).2)
  · have d1 : (openE tableL b != 0) = true := by simpa using hE
    have HE := Lib.hid hE
    obtain ⟨x, hx⟩ : ∃ x, openE tableL b = x := ⟨_, rfl⟩
    rw [hx] at d1 ⊢
    have HX := Lib.hid hx
    clear hE hx
    go_wp2_with fail
    have h9 := set6 H2.out.2.1 H2.out.2.2.1 (.int .i64 0) (.int .i64 0) (.int .i64 0) (.int .i64 0) (.int .i64 0) (.slice none 0 0)
    exact ret_pkE (v6 := .int .i64 x) rfl rfl rfl rfl h9.1 (ge_no h9.2.1 (ge_shut HE.out).1 ((ge_shut HE.out).2.trans HX.out))
end Go.Proofs.Ytpfamjgdfcnieaa
