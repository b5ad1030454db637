/- octet's readers: what each of their functions comes to. -/
import Derived.Test.YtpfamjgdfcnieaaPa10
namespace Go.Proofs.Ytpfamjgdfcnieaa
open Go.RowKit
set_option linter.unusedVariables false
/-- A reader in memory. -/
def Ro (w : World) (P : Nat) (A : Option Addr) (c : Nat) (s : RS) : Prop :=
  Bk w P 82 [.slice A s.l.length c, .bool true, .int .i64 s.p, .int .i64 s.e, .int .i64 s.f] ∧ Rd w A s.l.length (bys s.l) ∧ s.p ≤ s.l.length ∧ s.l.length ≤ c ∧ s.l.length ≤ 140737488351232 ∧ (∀ a, A = some a → a.block ≠ P)
theorem Ro.below {w w' : World} {P c : Nat} {A : Option Addr} {s : RS} (h : Ro w P A c s) (hb : Below w.heap.size w w') : Ro w' P A c s := ⟨h.1.belowS hb, h.2.1.below hb, h.2.2⟩
theorem Ro.chg {w w' : World} {S : Nat → Prop} {P c : Nat} {A : Option Addr} {s : RS} (h : Ro w P A c s) (hc : Chg S w w') (h1 : ¬ S P) (h2 : ∀ a, A = some a → ¬ S a.block) : Ro w' P A c s := ⟨hc.bk h.1 h1, hc.rd h.2.1 h2, h.2.2⟩
/-- What a reader's function leaves: bytes, new; the reader; nothing else of what was. -/
def TkPost (w : World) (P : Nat) (A : Option Addr) (c : Nat) (r : List UInt8 × RS) (e : Ending) (w' : World) : Prop :=
  ∃ v, e = .returned v ∧ w'.ownsRow w.heap.size 5 1 v r.1.length (bys r.1) ∧ Ro w' P A c r.2 ∧ Chg (fun k => k = P) w w'
theorem Ro.fault {w : World} {P c : Nat} {A : Option Addr} {s : RS} (h : Ro w P A c s) (e f : Int) :
    Ro ((w.setCell ⟨P, 3, none⟩ (.int .i64 e)).setCell ⟨P, 4, none⟩ (.int .i64 f)) P A c ⟨s.l, s.p, e, f⟩ ∧ Chg (fun k => k = P) w ((w.setCell ⟨P, 3, none⟩ (.int .i64 e)).setCell ⟨P, 4, none⟩ (.int .i64 f)) := by
  have hc : Chg (fun k => k = P) w ((w.setCell ⟨P, 3, none⟩ (.int .i64 e)).setCell ⟨P, 4, none⟩ (.int .i64 f)) := ((Chg.refl (fun k => k = P) w).set_ (show P = P from rfl) _ _).set_ (show P = P from rfl) _ _
  exact ⟨⟨(h.1.set_ 3 _).set_ 4 _, hc.rd h.2.1 h.2.2.2.2.2, h.2.2⟩, hc⟩
theorem Ro.step {w : World} {P c : Nat} {A : Option Addr} {s : RS} (h : Ro w P A c s) (p : Nat) (hp : p ≤ s.l.length) :
    Ro (w.setCell ⟨P, 2, none⟩ (.int .i64 p)) P A c ⟨s.l, p, s.e, s.f⟩ ∧ Chg (fun k => k = P) w (w.setCell ⟨P, 2, none⟩ (.int .i64 p)) := by
  have hc : Chg (fun k => k = P) w (w.setCell ⟨P, 2, none⟩ (.int .i64 p)) := (Chg.refl (fun k => k = P) w).set_ (show P = P from rfl) _ _
  exact ⟨⟨h.1.set_ 2 _, hc.rd h.2.1 h.2.2.2.2.2, hp, h.2.2.2⟩, hc⟩
/-- width -/
theorem width_any {w : World} (n : Int) : Calls Try.prog 52 #[.int .i64 n] w fun e w' => e = .returned (.bool (wid n)) ∧ w = w' := by
  by_cases h1 : n = 1
  · subst h1
    go_enter Try.func52, Try.ntmps52
    go_wp2
    go_ret
    exact ⟨rfl, rfl⟩
  · have d1 : (n == 1) = false := by simpa using h1
    by_cases h2 : n = 2
    · subst h2
      go_enter Try.func52, Try.ntmps52
      go_wp2
      go_ret
      exact ⟨rfl, rfl⟩
    · have d2 : (n == 2) = false := by simpa using h2
      by_cases h3 : n = 4
      · subst h3
        go_enter Try.func52, Try.ntmps52
        go_wp2
        go_ret
        exact ⟨rfl, rfl⟩
      · have d3 : (n == 4) = false := by simpa using h3
        have HW : Hid (wid n = (n == 8)) := by unfold wid; rw [d1, d2, d3]; rfl
        clear h1 h2 h3
        go_enter Try.func52, Try.ntmps52
        go_wp2
        go_ret
        exact ⟨ret_bool (by rw [HW.out]), rfl⟩
/-- (*Reader).none -/
theorem noneR_made {w : World} {P : Nat} {A : Option Addr} {c : Nat} {s : RS} (h : Ro w P A c s) : Calls Try.prog 61 #[.pointer (some ⟨P, 0, none⟩)] w fun e w' => e = .returned (.bool false) ∧ w = w' := by
  have c1 := h.1.cell 1
  clear h
  go_enter Try.func61, Try.ntmps61
  go_wp2
  go_ret
  exact ⟨rfl, rfl⟩
theorem noneR_nil {w : World} : Calls Try.prog 61 #[.pointer none] w fun e w' => e = .returned (.bool true) ∧ w = w' := by
  go_enter Try.func61, Try.ntmps61
  go_wp2
  go_ret
  exact ⟨rfl, rfl⟩
set_option maxRecDepth 100000 in
set_option maxHeartbeats 2000000 in
/-- (*Reader).takes -/
theorem takes_any {w : World} {P : Nat} {A : Option Addr} {c : Nat} {s : RS} (h : Ro w P A c s) (n : Int) (may : Bool) :
    Calls Try.prog 60 #[.pointer (some ⟨P, 0, none⟩), .int .i64 n, .bool may] w (TkPost w P A c (s.take n may)) := by
  have H := Lib.hid h
  have c0 := h.1.cell 0
  have c2 := h.1.cell 2
  have c3 := h.1.cell 3
  have c4 := h.1.cell 4
  have f2 := h.1.frozen 2
  have f3 := h.1.frozen 3
  have f4 := h.1.frozen 4
  clear h
  by_cases he : s.e = 0
  · rw [he] at c3
    have HE := Lib.hid he
    clear he
    have hP := H.out.2.2.1
    have hL := H.out.2.2.2.2.1
    have hLc := H.out.2.2.2.1
    obtain ⟨L, hLL⟩ : ∃ L, s.l.length = L := ⟨_, rfl⟩
    obtain ⟨p, hp⟩ : ∃ p, s.p = p := ⟨_, rfl⟩
    rw [hLL] at c0 hP hL hLc
    rw [hp] at c2 hP
    have HLP := Lib.hid (And.intro hLL hp)
    clear hLL hp
    by_cases hm : may = false ∨ n < 0
    · have HM := Lib.hid hm
      cases may with
      | false =>
        clear hm
        go_enter Try.func60, Try.ntmps60
        go_wp2_with fail
        refine (noneR_made H.out).mono ?_
        rintro e w1 ⟨rfl, rfl⟩
        go_wp2
        go_ret
        rw [RS.take_no HE.out (.inl rfl), HLP.out.2]
        have h9 := H.out.fault 2 p
        rw [HLP.out.2] at h9
        exact ⟨_, rfl, World.ownsRow_nil _ _ _ _, h9.1, h9.2⟩
      | true =>
        have hn : n < 0 := by simpa using hm
        have d1 : decide (n < 0) = true := by simpa using hn
        clear hm hn
        go_enter Try.func60, Try.ntmps60
        go_wp2_with fail
        refine (noneR_made H.out).mono ?_
        rintro e w1 ⟨rfl, rfl⟩
        go_wp2
        go_ret
        rw [RS.take_no HE.out HM.out, HLP.out.2]
        have h9 := H.out.fault 2 p
        rw [HLP.out.2] at h9
        exact ⟨_, rfl, World.ownsRow_nil _ _ _ _, h9.1, h9.2⟩
    · have HM := Lib.hid hm
      obtain rfl : may = true := by cases may <;> simp_all
      have hn : ¬ n < 0 := by simpa using hm
      clear hm
      obtain ⟨m, rfl⟩ : ∃ m : Nat, n = m := ⟨n.toNat, by omega⟩
      have d1 : decide ((m : Int) < 0) = false := by simp
      clear hn
      by_cases hs : (L : Int) - p < m
      · have d2 : decide ((m : Int) > (L : Int) - p) = true := by simpa using hs
        have d3 : decide ((L : Int) - p < (m : Int)) = true := by simpa using hs
        have HS := Lib.hid hs
        clear hs
        go_enter Try.func60, Try.ntmps60
        go_wp2_with fail
        refine (noneR_made H.out).mono ?_
        rintro e w1 ⟨rfl, rfl⟩
        go_wp2_with fail
        go_quiet (fail)
        go_wp2
        go_ret
        rw [RS.take_short HE.out HM.out (by rw [HLP.out.1, HLP.out.2]; exact HS.out), HLP.out.1]
        have hb := below_dN (Below.refl w.heap.size w) nq
        have h9 := (H.out.below hb).fault 7 L
        exact ⟨_, rfl, World.ownsRow_nil _ _ _ _, h9.1, (Chg.of_below hb).trans h9.2 fun _ _ x => x⟩
      · have d2 : decide ((m : Int) > (L : Int) - p) = false := by simpa using hs
        have d3 : decide ((L : Int) - p < (m : Int)) = false := by simpa using hs
        have HS := Lib.hid hs
        clear hs
        go_enter Try.func60, Try.ntmps60
        go_wp2_with fail
        refine (noneR_made H.out).mono ?_
        rintro e w1 ⟨rfl, rfl⟩
        go_wp2_with fail
        go_quiet (fail)
        go_wp2_with fail
        have hb := below_dN (Below.refl w.heap.size w) nq
        have H2 := Lib.hid (And.intro (H.out.below hb) hb)
        have C0 : (w.drewN nq).cell? ⟨P, 0, none⟩ = some (.slice A L c) := c0
        have C2 : (w.drewN nq).cell? ⟨P, 2, none⟩ = some (.int .i64 p) := c2
        clear hb c0 c2
        generalize w.drewN nq = wd at H2 C0 C2 ⊢
        obtain ⟨i0, hi0, hz0, hz1, hz2⟩ := info_parts u8_info
        obtain ⟨A', hmid, hA'⟩ := run_mid (P := Try.prog) (t := 22) Try.underlying22 hi0 hz1 A L c p (p + m) .i64 .i64 p ((p : Int) + m) rfl (by omega) (by have := HS.out; omega) (by have := HS.out; omega)
        rw [Nat.add_sub_cancel_left] at hmid
        have b0 : (p : Int) ≤ (p : Int) + m := by omega
        have hwr : IntKind.i64.wrap ((p : Int) + m) = (p : Int) + m := by rw [IntKind.wrap_i64]; have := HS.out; omega
        have b1 : (p : Int) + m ≤ (c : Int) := by have := HS.out; omega
        have b2 : (p : Int) + m ≤ (L : Int) := by have := HS.out; omega
        have b3 : (L : Int) ≤ 140737488351232 := by omega
        have hrm : Rd wd A' m (bys ((s.l.drop p).take m)) := H2.out.1.2.1.mid (by rw [HLP.out.1]; omega) (fun h => hA' (by omega))
        have HA := Lib.hid hrm
        clear hA' hi0 hz0 hz1 hz2 d1 d2 d3 f3 f4 c3 c4 hrm
        go_cut [6] (fun s6 wx => wx.ownsRow w.heap.size 5 1 s6 m (bys ((s.l.drop p).take m)) ∧ Ro wx P A c s ∧ Below w.heap.size w wx)
        case first =>
          go_region_held3 (fun w' => w'.cell? ⟨P, 0, none⟩ = some (.slice A L c) ∧ w'.cell? ⟨P, 2, none⟩ = some (.int .i64 p))
            (first | exact S2.out | exact ⟨C0, C2⟩)
            ((first | (go_at_call 56; refine (clone_any HA.out.drew (by omega)).mono ?_; rintro e w4 ⟨v, rfl, hown, hb4⟩; have hb5 := below_undrew hb4; have S1 := Lib.hid (And.intro hown (And.intro (H2.out.1.below hb5) (below_base H2.out.2 hb5 H2.out.2.size))); have S2 := Lib.hid (And.intro ((hb5.cell (p := ⟨P, 0, none⟩) H2.out.1.1.lt).trans C0) ((hb5.cell (p := ⟨P, 2, none⟩) H2.out.1.1.lt).trans C2)); clear hb4 hb5 hown)))
          all_goals go_wp2_with fail
          all_goals go_meet
          all_goals exact ⟨own_mono S1.out.1 H2.out.2.size, S1.out.2.1, S1.out.2.2⟩
        case rest =>
          obtain ⟨hown, hro, hbl⟩ := hcut
          have H3 := Lib.hid (And.intro hown (And.intro hro hbl))
          have c2 := hro.1.cell 2
          rw [HLP.out.2] at c2
          have f2 := hro.1.frozen 2
          clear hown hro hbl C0 C2
          go_wp2
          go_ret
          rw [RS.take_ok HE.out HM.out (by rw [HLP.out.1, HLP.out.2]; have := HS.out; omega), HLP.out.2, Int.toNat_natCast]
          have h9 := H3.out.2.1.step (p + m) (by rw [HLP.out.1]; omega)
          rw [show ((p + m : Nat) : Int) = (p : Int) + m from by omega] at h9
          have hlen : ((s.l.drop p).take m).length = m := by simp; have := HLP.out.1; omega
          refine ⟨_, rfl, ?_, h9.1, (Chg.of_below H3.out.2.2).trans h9.2 fun _ _ x => x⟩
          rw [hlen]
          have hPl := H.out.1.lt
          exact h9.2.own_new H3.out.1 (fun k hk => by subst hk; exact hPl)
  · have d1 : (s.e != 0) = true := by simpa using he
    have HE := Lib.hid he
    clear he
    go_enter Try.func60, Try.ntmps60
    go_wp2_with fail
    refine (noneR_made H.out).mono ?_
    rintro e w1 ⟨rfl, rfl⟩
    go_wp2
    go_ret
    rw [RS.take_e HE.out]
    exact ⟨_, rfl, World.ownsRow_nil _ _ _ _, H.out, Chg.refl _ _⟩
/-- (*Reader).Raw -/
theorem rawR_any {w : World} {P : Nat} {A : Option Addr} {c : Nat} {s : RS} (h : Ro w P A c s) (n : Int) :
    Calls Try.prog 44 #[.pointer (some ⟨P, 0, none⟩), .int .i64 n] w (TkPost w P A c (s.take n true)) := by
  have H := Lib.hid h
  clear h
  go_enter Try.func44, Try.ntmps44
  go_wp2_with fail
  refine (takes_any H.out n true).mono ?_
  rintro e w1 ⟨v, rfl, h1⟩
  have H1 := Lib.hid h1
  clear h1
  go_wp2
  go_ret
  exact ⟨_, rfl, H1.out⟩
/-- What Get leaves. -/
def GtPost (w : World) (P : Nat) (A : Option Addr) (c : Nat) (r : Int × RS) (e : Ending) (w' : World) : Prop :=
  e = .returned (.int .i64 r.1) ∧ Ro w' P A c r.2 ∧ Chg (fun k => k = P) w w'
set_option maxRecDepth 100000 in
set_option maxHeartbeats 2000000 in
/-- (*Reader).Get -/
theorem getR_any {w : World} {P : Nat} {A : Option Addr} {c : Nat} {s : RS} (h : Ro w P A c s) (n : Int) :
    Calls Try.prog 42 #[.pointer (some ⟨P, 0, none⟩), .int .i64 n] w (GtPost w P A c (s.get n)) := by
  have H := Lib.hid h
  clear h
  go_enter Try.func42, Try.ntmps42
  go_wp2_with fail
  refine (width_any n).mono ?_
  rintro e w1 ⟨rfl, rfl⟩
  go_wp2_with fail
  refine (takes_any H.out n (wid n)).mono ?_
  rintro e w1 ⟨v, rfl, hown, hro, hch⟩
  have hlen := RS.take_len s n (wid n)
  obtain ⟨r, hr⟩ : ∃ r, s.take n (wid n) = r := ⟨_, rfl⟩
  rw [hr] at hown hro hlen
  obtain ⟨B, d, rfl, hd, _, hl, _⟩ := own_form hown
  have hrd := Rd.of_own hown
  have HR := Lib.hid (And.intro hr (And.intro hro (And.intro hch (And.intro hrd hlen))))
  obtain ⟨m, hm⟩ : ∃ m, r.1.length = m := ⟨_, rfl⟩
  rw [hm] at hd ⊢
  have hm8 : m ≤ 8 := by
    rcases hlen with e | ⟨e1, e2, e3, _⟩
    · rw [e] at hm; simp at hm; omega
    · rw [wid_iff] at e1; omega
  have HM := Lib.hid hm
  clear hr hown hro hch hrd hlen hl hm
  go_wp2
  go_loopw [5, 14] (fun x i wr => ∃ k : Nat, k ≤ m ∧ i = .int .i64 k ∧ x = .int .u64 (be (r.1.take k) : Nat) ∧ Below w1.heap.size w1 wr) (fun x i wr => m - (intOf i).toNat)
  case atStart => exact ⟨0, by omega, rfl, by simp [be], Below.refl _ _⟩
  case round =>
    obtain ⟨k, hk, rfl, rfl, hbl⟩ := hrel
    have hrd := HR.out.2.2.2.1.below hbl
    by_cases hlt : k < m
    · have hkl : k < r.1.length := by rw [HM.out]; exact hlt
      obtain ⟨b, off, rfl, hb0, hcc⟩ := hrd.form (by omega)
      have cx := hcc k _ (bys_get _ _ hkl)
      have km : (k : Int) < (m : Int) := by omega
      have hbe : be (r.1.take k) < 256 ^ 7 := by
        have h1 := be_lt k (r.1.take k) (by simp; omega)
        have h2 : 256 ^ k ≤ 256 ^ 7 := Nat.pow_le_pow_right (by omega) (by omega)
        omega
      have hj := be_join (be (r.1.take k)) r.1[k] (by omega)
      rw [← be_take_succ hkl] at hj
      have HJ := Lib.hid (And.intro hj (And.intro hlt hbl))
      clear hj hcc hrd hb0 hbe hbl
      go_wp2
      have hb := r.1[k].toNat_lt
      rw [show IntKind.u64.wrap (r.1[k].toNat : Int) = (r.1[k].toNat : Int) from by rw [IntKind.wrap_u64]; omega, HJ.out.1]
      exact ⟨⟨k + 1, by have := HJ.out.2.1; omega, by go_num, rfl, HJ.out.2.2⟩, by have := HJ.out.2.1; simp [intOf]; omega⟩
    · obtain rfl : k = m := by omega
      rw [show r.1.take k = r.1 from List.take_of_length_le (by rw [HM.out]; exact Nat.le_refl _)]
      have hro := HR.out.2.1.below hbl
      have H3 := Lib.hid (And.intro hro ((HR.out.2.2.1.trans (Chg.of_below (S := fun k => k = P) hbl) fun _ _ x => x)))
      obtain ⟨N, hN⟩ : ∃ N, be r.1 = N := ⟨_, rfl⟩
      rw [hN]
      clear hrd hlt hk hbl
      by_cases hbig : 9223372036854775808 ≤ N
      · have d1 : decide ((N : Int) ≥ 9223372036854775808) = true := by simp; omega
        have d2 : decide ((9223372036854775808 : Int) ≤ (N : Int)) = true := by simp; omega
        have d3 : decide (9223372036854775808 ≤ N) = true := by simpa using hbig
        rcases HR.out.2.2.2.2 with e | ⟨e1, e2, e3, e4, e5⟩
        · rw [e] at hN; simp [be] at hN; omega
        · obtain rfl : n = (k : Int) := by have := HM.out; omega
          have hg : s.get (k : Int) = (0, ⟨r.2.l, r.2.p - k, 3, ((r.2.p - k : Nat) : Int)⟩) := by
            unfold RS.get
            rw [HR.out.1, hN, if_pos hbig, Int.toNat_natCast]
          have hq : k ≤ r.2.p := by rw [e4]; show k ≤ s.p + (k : Int).toNat; omega
          have hq2 := hro.2.2.1
          have hq3 := hro.2.2.2.2.1
          obtain ⟨q, hqq⟩ : ∃ q, r.2.p = q := ⟨_, rfl⟩
          have c2 := hro.1.cell 2
          have c3 := hro.1.cell 3
          have c4 := hro.1.cell 4
          rw [hqq] at c2 hq hq2 hg
          have f2 := hro.1.frozen 2
          have f3 := hro.1.frozen 3
          have f4 := hro.1.frozen 4
          have hwr : IntKind.i64.wrap ((q : Int) - k) = (q : Int) - k := by rw [IntKind.wrap_i64]; omega
          have HG := Lib.hid (And.intro hg (And.intro hq hq2))
          clear e1 e2 e3 e4 e5 hro hbig hN hqq hq hq2 hq3 hg
          go_wp2
          go_ret
          rw [HG.out.1]
          have h9 := H3.out.1.step (q - k) (by have := HG.out.2; omega)
          rw [show ((q - k : Nat) : Int) = (q : Int) - k from by have := HG.out.2; omega] at h9
          have h10 := h9.1.fault 3 ((q : Int) - k)
          refine ⟨rfl, ?_, (H3.out.2.trans h9.2 fun _ _ x => x).trans h10.2 fun _ _ x => x⟩
          rw [show ((q - k : Nat) : Int) = (q : Int) - k from by have := HG.out.2; omega]
          exact h10.1
      · have d1 : decide ((N : Int) ≥ 9223372036854775808) = false := by simp; omega
        have d2 : decide ((9223372036854775808 : Int) ≤ (N : Int)) = false := by simp; omega
        have d3 : decide (9223372036854775808 ≤ N) = false := by simpa using hbig
        have hg : s.get n = ((N : Int), r.2) := by
          unfold RS.get
          rw [HR.out.1, hN, if_neg hbig]
        have hN63 : (N : Int) ≤ 9223372036854775807 := by omega
        have HG := Lib.hid hg
        clear hg hro hN hbig
        go_wp2
        go_ret
        rw [HG.out]
        exact ⟨rfl, H3.out.1, H3.out.2⟩
/-- (*Reader).Rest -/
theorem restR_any {w : World} {P : Nat} {A : Option Addr} {c : Nat} {s : RS} (h : Ro w P A c s) :
    Calls Try.prog 45 #[.pointer (some ⟨P, 0, none⟩)] w fun e w' => e = .returned (.int .i64 s.rest) ∧ Below w.heap.size w w' := by
  have H := Lib.hid h
  have c0 := h.1.cell 0
  have c2 := h.1.cell 2
  have c3 := h.1.cell 3
  have hP := h.2.2.1
  have hL := h.2.2.2.2.1
  clear h
  by_cases he : s.e = 0
  · rw [he] at c3
    have HE := Lib.hid (show s.rest = (s.l.length : Int) - s.p from by unfold RS.rest; rw [if_neg (by simpa using he)])
    clear he
    obtain ⟨L, hLL⟩ : ∃ L, s.l.length = L := ⟨_, rfl⟩
    obtain ⟨p, hp⟩ : ∃ p, s.p = p := ⟨_, rfl⟩
    rw [hLL] at c0 hP hL HE
    rw [hp] at c2 hP HE
    clear hLL hp
    go_enter Try.func45, Try.ntmps45
    go_wp2_with fail
    refine (noneR_made H.out).mono ?_
    rintro e w1 ⟨rfl, rfl⟩
    go_wp2_with fail
    go_quiet (fail)
    go_wp2
    go_ret
    exact ⟨ret_int HE.out.symm, below_dN (Below.refl _ _) _⟩
  · have d1 : (s.e != 0) = true := by simpa using he
    have HE := Lib.hid (show s.rest = 0 from by unfold RS.rest; rw [if_pos (by simpa using he)])
    clear he
    go_enter Try.func45, Try.ntmps45
    go_wp2_with fail
    refine (noneR_made H.out).mono ?_
    rintro e w1 ⟨rfl, rfl⟩
    go_wp2
    go_ret
    exact ⟨ret_int HE.out.symm, Below.refl _ _⟩
end Go.Proofs.Ytpfamjgdfcnieaa
