/- the document's Cut; OverSymbols. -/
import Derived.Test.YtchdjbbhhjjmkaaSu18
namespace Go.Proofs.Ytchdjbbhhjjmkaa
open Go.RowKit
set_option linter.unusedVariables false
def cutAt (row : List UInt8) (s j : Nat) : List UInt8 := row.take j ++ List.replicate (s - j) 0
theorem cutAt_len {row : List UInt8} {s j : Nat} (hr : row.length = s) (hj : j ≤ s) : (cutAt row s j).length = s := by unfold cutAt; simp; omega
theorem cutAt_set {row : List UInt8} {s j : Nat} (hr : row.length = s) (hj : j < s) (x : UInt8) (hx : row[j]? = some x) : (cutAt row s j).set j x = cutAt row s (j + 1) := by
  unfold cutAt
  have hl : (row.take j).length = j := by simp; omega
  rw [List.set_append_right _ _ (by omega), hl, Nat.sub_self]
  obtain ⟨r, hr'⟩ : ∃ r, s - j = r + 1 := ⟨s - j - 1, by omega⟩
  rw [hr', List.replicate_succ, List.set_cons_zero, List.take_add_one, hx, show s - (j + 1) = r by omega]
  simp
theorem cutAt_end {data : List UInt8} {s i j : Nat} (hj : j ≤ s) (he : j = s ∨ data.length ≤ i * s + j) : cutAt (cutR data s i) s j = cutR data s i := by
  have hlen : (cutR data s i).length = s := evenL_length _ _
  rcases he with e | e
  · subst e
    unfold cutAt
    rw [List.take_of_length_le (by omega), Nat.sub_self]; simp
  · have hd : ((data.drop (i * s)).take s).length ≤ j := by rw [List.length_take, List.length_drop]; omega
    have e1 : cutR data s i = ((data.drop (i * s)).take s) ++ List.replicate (s - ((data.drop (i * s)).take s).length) 0 := by
      unfold cutR evenL
      rw [List.take_of_length_le (by rw [List.length_take]; omega)]
    unfold cutAt
    rw [e1, List.take_append, List.take_of_length_le hd, List.take_replicate, List.append_assoc, List.replicate_append_replicate]
    congr 2
    rw [List.length_take, List.length_drop] at hd ⊢
    omega
theorem cutR_at {data : List UInt8} {s i j : Nat} (hj : j < s) (h : i * s + j < data.length) : (cutR data s i)[j]? = data[i * s + j]? := by
  unfold cutR evenL
  have hl : j < ((data.drop (i * s)).take s).length := by rw [List.length_take, List.length_drop]; omega
  rw [List.getElem?_append_left (by rw [List.length_take]; omega), List.getElem?_take_of_lt hj, List.getElem?_take_of_lt hj, List.getElem?_drop]
theorem rc_app {w wo wr w6 : World} {A : Option Addr} {n c s : Nat} {vs : List Value} {xss : List (List UInt8)} {row : List UInt8} {o : Obj} (hor : ORows wo w.heap.size vs xss) (how : wo.ownsRow w.heap.size 32 1 (.slice A n c) n vs) (hb : Below w.heap.size w wo) (hbo : Below wo.heap.size wo wr)
    (hbk : Bk wr wo.heap.size 5 (bys row)) (hr : row.length = s) (hs : 1 ≤ s ∧ s ≤ 65535) (hg : (wr.alloc o).grownBy w6 (Value.slice A n c).ownBlock) :
    ORows w6 w.heap.size (vs ++ [.slice (some ⟨wo.heap.size, 0, none⟩) s s]) (xss ++ [row]) ∧ Below w.heap.size w w6 ∧ True := by
  subst hr
  have hc6 : Chg (fun b => (Value.slice A n c).ownBlock = some b) wr w6 := ((Chg.refl _ wr).alloc o).trans (Chg.of_grown hg (S := fun b => (Value.slice A n c).ownBlock = some b) fun k e => e) fun _ _ x => x
  have how5 := own_below how hbo
  have hor5 := hor.below hbo
  have hnew : wr.ownsRow wo.heap.size 5 1 (.slice (some ⟨wo.heap.size, 0, none⟩) row.length row.length) row.length (bys row) :=
    ⟨by simp [bys], .inr ⟨wo.heap.size, row.length, (bys row).toArray, rfl, Nat.le_refl _, hbk, Nat.le_refl _, by simp only [maxLen]; omega, by simp [bys], by rw [Nat.mul_one]; exact List.take_of_length_le (by simp [bys])⟩⟩
  refine ⟨ORows.snoc (B := wo.heap.size) ⟨hor5.1, fun i y hy => ?_, hor5.2.2⟩ ?_ hb.size fun i v b hv e => (hor.blk i v b hv e).2, hc6.below (below_base hb hbo hb.size) (fun b _ e => (how5.lt b e).1) (Nat.le_trans hb.size hbo.size), trivial⟩
  · obtain ⟨A', c', h1, h2⟩ := hor5.2.1 i y hy
    exact ⟨A', c', h1, hc6.own h2 fun a ha e => own_apart how5 h2 (by decide) a ha e⟩
  · exact hc6.own hnew fun a ha e => own_apart how5 hnew (by decide) a ha e
theorem own_chgS {S : Nat → Prop} {w w' : World} {base size n : Nat} {e : TypeId} {v : Value} {xs : List Value} (h : w.ownsRow base e size v n xs) (hc : Chg S w w') (hn : ∀ g, v.ownBlock = some g → ¬ S g) : w'.ownsRow base e size v n xs := by
  refine ⟨h.1, ?_⟩
  rcases h.2 with h0 | ⟨g, cap, cur, hv, hbg, hh, h3, h4, h5, h6⟩
  · exact .inl h0
  · have hk : Bk w g e cur.toList := hh
    exact .inr ⟨g, cap, cur, hv, hbg, hc.bk hk (hn g (by rw [hv]; rfl)), h3, h4, h5, h6⟩
set_option maxRecDepth 100000 in
set_option maxHeartbeats 6400000 in
/-- the document's Cut -/
theorem rcut_any {w : World} {A : Option Addr} {len cap : Nat} {data : List UInt8} (h : Rd w A len (bys data)) (hcap : len ≤ cap) (hlen : len ≤ 1000000000) (k s : Int) (hkw : (Lit.int .i64 k).wf = true) (hsw : (Lit.int .i64 s).wf = true) :
    Calls Try.prog 44 #[.slice A len cap, .int .i64 k, .int .i64 s] w (ToldL w (cutV data k s) (cutE data k s)) := by
  have hl : data.length = len := by have := h.1; simpa [bys_length] using this
  have no : ∀ {E : Int}, cutE data k s = E → E ≠ 0 → cutV data k s = [] := fun e h0 => by unfold cutV; rw [e, if_neg h0]
  by_cases hok : 1 ≤ k ∧ k ≤ 65536 ∧ 1 ≤ s ∧ s ≤ 65535
  · obtain ⟨K, hK⟩ : ∃ K : Nat, k = K := ⟨k.toNat, by omega⟩
    obtain ⟨Z, hZ⟩ : ∃ Z : Nat, s = Z := ⟨s.toNat, by omega⟩
    subst hK; subst hZ
    have hsz : 1 ≤ K ∧ K ≤ 65536 ∧ 1 ≤ Z ∧ Z ≤ 65535 := by omega
    have hmul : K * Z ≤ 4294967296 := by
      have := Nat.mul_le_mul hsz.2.1 hsz.2.2.2
      omega
    have hw : IntKind.i64.wrap ((K : Int) * (Z : Int)) = ((K * Z : Nat) : Int) := by rw [← Int.natCast_mul, IntKind.wrap_i64]; omega
    have q1 : decide ((K : Int) < 1) = false := by simp; omega
    have q1' : decide (K < 1) = false := by simp; omega
    have q2 : decide ((K : Int) > 65536) = false := by simp; omega
    have q2' : decide ((65536 : Int) < (K : Int)) = false := by simp; omega
    have q2'' : decide (65536 < K) = false := by simp; omega
    have q3 : decide ((Z : Int) < 1) = false := by simp; omega
    have q3' : decide (Z < 1) = false := by simp; omega
    have q4 : decide ((Z : Int) > 65535) = false := by simp; omega
    have q4' : decide ((65535 : Int) < (Z : Int)) = false := by simp; omega
    have q4'' : decide (65535 < Z) = false := by simp; omega
    by_cases hlong : K * Z < len
    · have hE : cutE data K Z = 4 := by unfold cutE; rw [if_pos hok, if_pos (by rw [hl, ← Int.natCast_mul]; omega)]
      rw [no hE (by omega), hE]
      have d3 : decide (((K * Z : Nat) : Int) < (len : Int)) = true := by simp; omega
      have d4 : decide (K * Z < len) = true := by simpa using hlong
      have d5 : decide ((len : Int) > (K : Int) * (Z : Int)) = true := by rw [← Int.natCast_mul]; exact d3
      have d6 : decide ((K : Int) * (Z : Int) < (len : Int)) = true := by rw [← Int.natCast_mul]; exact d3
      clear hok hE no hlong hmul hsz h hl
      go_enter Try.func44, Try.ntmps44
      go_wp2
      go_ret2
      exact ⟨_, [], rfl, World.ownsRow_nil _ _ _ _, ORows.nil _ _, Below.refl _ _⟩
    · have hE : cutE data K Z = 0 := by unfold cutE; rw [if_pos hok, if_neg (by rw [hl, ← Int.natCast_mul]; omega)]
      have hV : cutV data K Z = cutL data K Z := by unfold cutV; rw [hE, if_pos rfl, Int.toNat_natCast, Int.toNat_natCast]
      rw [hE, hV]
      have d3 : decide (((K * Z : Nat) : Int) < (len : Int)) = false := by simp; omega
      have d4 : decide (K * Z < len) = false := by simpa using hlong
      have d5 : decide ((len : Int) > (K : Int) * (Z : Int)) = false := by rw [← Int.natCast_mul]; exact d3
      have d6 : decide ((K : Int) * (Z : Int) < (len : Int)) = false := by rw [← Int.natCast_mul]; exact d3
      have HS := Lib.hid (And.intro hsz (And.intro (show len ≤ K * Z by omega) (And.intro h hl)))
      have hmk := run_make_bytes Z (by omega)
      obtain ⟨Zs, hZs⟩ : ∃ X, (bys (List.replicate Z 0)) = X := ⟨_, rfl⟩
      rw [hZs] at hmk
      have HZs := Lib.hid hZs
      obtain ⟨i0, hi0, hz0, hz1, hz2⟩ := info_parts ints2_info
      have hKi : (K : Int) ≤ 65536 := by omega
      have hZi : (Z : Int) ≤ 65535 := by omega
      clear hok hE hV hlong hmul hsz hl no hZs h
      go_enter Try.func44, Try.ntmps44
      go_wp2
      clear q1 q1' q2 q2' q2'' q3 q3' q4 q4' q4'' d3 d4 d5 d6 hw
      go_loopw [8, 9] (fun v i wr => ∃ (i' : Nat) (vs : List Value), i' ≤ K ∧ i = .int .i64 i' ∧ wr.ownsRow w.heap.size 32 1 v i' vs ∧ ORows wr w.heap.size vs (cutL data i' Z) ∧ Below w.heap.size w wr) (fun v i wr => K - (intOf i).toNat)
      case atStart => exact ⟨0, [], by omega, rfl, World.ownsRow_nil _ _ _ _, ORows.nil _ _, Below.refl _ _⟩
      case round =>
        obtain ⟨i, vs, hi, rfl, how, hor, hb⟩ := hrel
        by_cases hlt : i < K
        · have km : (i : Int) < (K : Int) := by omega
          obtain ⟨row, hrow⟩ : ∃ r, cutR data Z i = r := ⟨_, rfl⟩
          have hrl : row.length = Z := by rw [← hrow]; exact evenL_length _ _
          have hiZ : i * Z + Z ≤ K * Z := by rw [← Nat.succ_mul]; exact Nat.mul_le_mul_right _ hlt
          have hKZ : K * Z ≤ 4294967296 := by
            have := Nat.mul_le_mul HS.out.1.2.1 HS.out.1.2.2.2
            omega
          have hX : Bk (wr.alloc (.cells Zs.toArray 5)) wr.heap.size 5 (bys (List.replicate Z 0)) := by
            have := Bk.newA wr 5 Zs.toArray
            rw [List.toList_toArray] at this
            rw [HZs.out]; exact this
          have hbX : Below wr.heap.size wr (wr.alloc (.cells Zs.toArray 5)) := (Below.refl _ _).alloc (Nat.le_refl _) _
          have H0 := Lib.hid (And.intro how (And.intro hor (And.intro hb (And.intro hlt (And.intro hrow hrl)))))
          have HXX := Lib.hid (And.intro hX hbX)
          obtain ⟨q, hq⟩ : ∃ q, i * Z = q := ⟨_, rfl⟩
          have hw0 : IntKind.i64.wrap ((i : Int) * (Z : Int)) = (q : Int) := by rw [← Int.natCast_mul, hq, IntKind.wrap_i64]; omega
          have hqb : q ≤ 4294967296 := by omega
          have HQ := Lib.hid (And.intro hq hiZ)
          have hqe : (i : Int) * (Z : Int) = (q : Int) := by rw [← Int.natCast_mul, hq]
          obtain ⟨Av, cv, rfl, _⟩ := own_form how
          clear how hor hb hlt hrow hX hbX hi hrl hiZ hKZ hq
          obtain ⟨wo, hwo⟩ : ∃ wo, wo = wr := ⟨_, rfl⟩
          subst hwo
          go_wp2
          go_loopw [11] (fun jv wq => ∃ j : Nat, j ≤ Z ∧ jv = .int .i64 j ∧ Bk wq wo.heap.size 5 (bys (cutAt row Z j)) ∧ Below wo.heap.size wo wq) (fun jv wq => Z - (intOf jv).toNat)
          case atStart => exact ⟨0, by omega, rfl, by unfold cutAt; simp only [List.take_zero, List.nil_append, Nat.sub_zero]; exact HXX.out.1, HXX.out.2⟩
          case round =>
            obtain ⟨j, hj, rfl, hbk, hbo⟩ := hrel
            by_cases hjz : j < Z
            · have kz : (j : Int) < (Z : Int) := by omega
              by_cases hin : q + j < len
              · have hw1 : IntKind.i64.wrap ((q : Int) + (j : Int)) = ((q + j : Nat) : Int) := by rw [IntKind.wrap_i64]; omega
                have e1 : decide (((q + j : Nat) : Int) < (len : Int)) = true := by simp; omega
                have e2 : decide (q + j < len) = true := by simpa using hin
                have e3 : ((q + j : Nat) : Int) < (len : Int) := by omega
                have e4 : (q : Int) + (j : Int) < (len : Int) := by omega
                obtain ⟨b, off, rfl, hbl, hcc⟩ := (HS.out.2.2.1.below (below_base H0.out.2.2.1 hbo H0.out.2.2.1.size)).form (by omega)
                have hjd : q + j < data.length := by rw [HS.out.2.2.2]; exact hin
                have cx := hcc (q + j) _ (bys_get data (q + j) hjd)
                have fl := hbk.frozen j
                have hcl : j < (cutAt row Z j).length := by rw [cutAt_len H0.out.2.2.2.2.2 hj]; exact hjz
                obtain ⟨v0, cl⟩ : ∃ v0, wr.cell? ⟨wo.heap.size, j, none⟩ = some v0 := ⟨_, (hbk.cell j).trans (bys_get _ j hcl)⟩
                have HR := Lib.hid (And.intro hbk (And.intro hbo (And.intro hjz (show row[j]? = some data[q + j] from by rw [← H0.out.2.2.2.2.1, cutR_at hjz (by rw [HQ.out.1]; exact hjd), HQ.out.1]; exact List.getElem?_eq_getElem hjd))))
                have lx := byte_lt data[q + j]
                obtain ⟨y, hy⟩ : ∃ y, (data[q + j]).toNat = y := ⟨_, rfl⟩
                have HY := Lib.hid hy
                rw [hy] at cx lx
                clear hbk hbo hjz hin hcl hbl hcc hj hy
                go_wp2
                refine ⟨⟨j + 1, by have := HR.out.2.2.1; omega, by go_num, ?_, HR.out.2.1.setCell (p := ⟨wo.heap.size, j, none⟩) (Nat.le_refl _) _⟩, by have := HR.out.2.2.1; simp [intOf]; omega⟩
                have := HR.out.1.set_ j (.int .u8 (y : Int))
                rw [← HY.out, bys_set, cutAt_set H0.out.2.2.2.2.2 HR.out.2.2.1 _ HR.out.2.2.2] at this
                rw [← HY.out]
                exact this
              · have hw1 : IntKind.i64.wrap ((q : Int) + (j : Int)) = ((q + j : Nat) : Int) := by rw [IntKind.wrap_i64]; omega
                have e1 : decide (((q + j : Nat) : Int) < (len : Int)) = false := by simp; omega
                have e2 : decide (q + j < len) = false := by simpa using hin
                have e4 : decide ((q : Int) + (j : Int) < (len : Int)) = false := by simp; omega
                have he : cutAt row Z j = row := by rw [← H0.out.2.2.2.2.1]; exact cutAt_end hj (.inr (by rw [HQ.out.1, HS.out.2.2.2]; omega))
                rw [he] at hbk
                have HE := Lib.hid (And.intro hbk hbo)
                have how5 := own_below H0.out.1 hbo
                clear hbk hbo he hjz hin hj
                go_wp2_with (at_builtin; refine wpList_append_rd _ rfl (.tmp 65) (.tmp 67) _ rfl w.heap.size 32 i0 _ 1 24 Try.underlying25 hi0 hz0 hz1 hz2 rfl (by omega) _ i vs rfl (own_below how5 ((Below.refl _ _).alloc (Nat.le_refl _) _)) (some ⟨wr.heap.size, 0, none⟩) 1 1 [.slice (some ⟨wo.heap.size, 0, none⟩) Z Z] rfl (Rd.lit _ _ _ _ rfl 1 rfl _ rfl) slice_one (by simp only [maxLen]; omega) (by omega) (by have := H0.out.2.2.1.size; have := HE.out.2.size; rw [World.size_alloc]; omega) ?_; intro v6 w6 hown6 hg6 hat6)
                obtain ⟨p1, p2, p3⟩ := rc_app H0.out.2.1 H0.out.1 H0.out.2.2.1 HE.out.2 HE.out.1 H0.out.2.2.2.2.2 HS.out.1.2.2 hg6
                exact ⟨⟨i + 1, _, by have := H0.out.2.2.2.1; omega, by go_num, hown6, by rw [cutL_succ, H0.out.2.2.2.2.1]; exact p1, p2⟩, by have := H0.out.2.2.2.1; simp [intOf]; omega⟩
            · obtain rfl : j = Z := by omega
              have he : cutAt row j j = row := by rw [← H0.out.2.2.2.2.1]; exact cutAt_end hj (.inl rfl)
              rw [he] at hbk
              have HE := Lib.hid (And.intro hbk hbo)
              have how5 := own_below H0.out.1 hbo
              clear hbk hbo he hjz hj
              go_wp2_with (at_builtin; refine wpList_append_rd _ rfl (.tmp 65) (.tmp 67) _ rfl w.heap.size 32 i0 _ 1 24 Try.underlying25 hi0 hz0 hz1 hz2 rfl (by omega) _ i vs rfl (own_below how5 ((Below.refl _ _).alloc (Nat.le_refl _) _)) (some ⟨wr.heap.size, 0, none⟩) 1 1 [.slice (some ⟨wo.heap.size, 0, none⟩) j j] rfl (Rd.lit _ _ _ _ rfl 1 rfl _ rfl) slice_one (by simp only [maxLen]; omega) (by omega) (by have := H0.out.2.2.1.size; have := HE.out.2.size; rw [World.size_alloc]; omega) ?_; intro v6 w6 hown6 hg6 hat6)
              obtain ⟨p1, p2, p3⟩ := rc_app H0.out.2.1 H0.out.1 H0.out.2.2.1 HE.out.2 HE.out.1 H0.out.2.2.2.2.2 HS.out.1.2.2 hg6
              exact ⟨⟨i + 1, _, by have := H0.out.2.2.2.1; omega, by go_num, hown6, by rw [cutL_succ, H0.out.2.2.2.2.1]; exact p1, p2⟩, by have := H0.out.2.2.2.1; simp [intOf]; omega⟩
        · obtain rfl : i = K := by omega
          have HW := Lib.hid (And.intro how (And.intro hor hb))
          clear how hor hb hlt hi
          go_wp2
          go_ret2
          exact ⟨_, vs, rfl, by rw [cutL_len]; exact HW.out.1, HW.out.2.1, HW.out.2.2⟩
  · have hE : cutE data k s = 3 := by unfold cutE; rw [if_neg hok]
    rw [no hE (by omega), hE]
    by_cases h1 : k < 1
    · have d1 : decide (k < 1) = true := by simpa using h1
      clear hok h1 hE no h
      go_enter Try.func44, Try.ntmps44
      go_wp2
      go_ret2
      exact ⟨_, [], rfl, World.ownsRow_nil _ _ _ _, ORows.nil _ _, Below.refl _ _⟩
    · have d1 : decide (k < 1) = false := by simpa using h1
      by_cases h2 : 65536 < k
      · have d2 : decide (k > 65536) = true := by simpa using h2
        have d2' : decide (65536 < k) = true := by simpa using h2
        clear hok h1 h2 hE no h
        go_enter Try.func44, Try.ntmps44
        go_wp2
        go_ret2
        exact ⟨_, [], rfl, World.ownsRow_nil _ _ _ _, ORows.nil _ _, Below.refl _ _⟩
      · have d2 : decide (k > 65536) = false := by simpa using h2
        have d2' : decide (65536 < k) = false := by simpa using h2
        by_cases h3 : s < 1
        · have d3 : decide (s < 1) = true := by simpa using h3
          clear hok h1 h2 h3 hE no h
          go_enter Try.func44, Try.ntmps44
          go_wp2
          go_ret2
          exact ⟨_, [], rfl, World.ownsRow_nil _ _ _ _, ORows.nil _ _, Below.refl _ _⟩
        · have d3 : decide (s < 1) = false := by simpa using h3
          have d4 : decide (s > 65535) = true := by simp; omega
          have d4' : decide (65535 < s) = true := by simp; omega
          clear hok h1 h2 h3 hE no h
          go_enter Try.func44, Try.ntmps44
          go_wp2
          go_ret2
          exact ⟨_, [], rfl, World.ownsRow_nil _ _ _ _, ORows.nil _ _, Below.refl _ _⟩
theorem own_base {w : World} {base n c : Nat} {A : Option Addr} {vs : List Value} {xss : List (List UInt8)} (ho : w.ownsRow base 32 1 (.slice A n c) n vs) (hr : ORows w base vs xss) {k : Nat} (hk : k < n) : base ≤ w.heap.size := by
  rcases ho.2 with ⟨hv, h0⟩ | ⟨g, cap, cur, hv, hbg, hh, _⟩
  · omega
  · have := (Array.getElem?_eq_some_iff.1 hh).1
    omega
set_option maxRecDepth 100000 in
/-- OverSymbols -/
theorem overSymbols_any {w : World} {base n c : Nat} {A : Option Addr} {vs : List Value} {xss : List (List UInt8)} (ho : w.ownsRow base 32 1 (.slice A n c) n vs) (hr : ORows w base vs xss) (hn : n ≤ 1000000) (hx : ∀ x ∈ xss, x.length ≤ 1000000) :
    Calls Try.prog 29 #[.slice A n c] w fun e w' => e = .returned (.tuple #[]) ∧ Chg (fun b => base ≤ b) w w' := by
  have hvl : vs.length = n := by have := ho.1; simpa using this
  have hxl : xss.length = n := by rw [← hr.1]; exact hvl
  have H := Lib.hid (And.intro ho (And.intro hr (And.intro hx (And.intro hvl hxl))))
  have hn' : (n : Int) ≤ 1000000 := by omega
  clear ho hr hx hvl hxl
  go_enter Try.func29, Try.ntmps29
  go_wp2
  go_loopw [2] (fun i wr => ∃ k : Nat, k ≤ n ∧ i = .int .i64 k ∧ Chg (fun b => ∃ (j : Nat) (u : Value), j < k ∧ vs[j]? = some u ∧ u.ownBlock = some b) w wr ∧ w.heap.size ≤ wr.heap.size) (fun i wr => n - (intOf i).toNat)
  case atStart => exact ⟨0, by omega, rfl, Chg.refl _ _, Nat.le_refl _⟩
  case round =>
    obtain ⟨k, hk, rfl, hc, hsz⟩ := hrel
    by_cases hlt : k < n
    · have hkl : k < xss.length := by rw [H.out.2.2.2.2]; exact hlt
      obtain ⟨B, cc, hv, hob⟩ := H.out.2.1.2.1 k _ (List.getElem?_eq_getElem hkl)
      have hno : ∀ (b : Nat), (∃ (j : Nat) (u : Value), j < k ∧ vs[j]? = some u ∧ u.ownBlock = some b) → ¬ ((Value.slice B xss[k].length cc).ownBlock = some b) := fun b ⟨j, u, h1, h2, h3⟩ e => H.out.2.1.2.2 j k u _ b h1 h2 hv h3 e
      have hob2 := own_chgS hob hc fun b e hS => hno b hS e
      have hrow : ∀ b, (∃ (j : Nat) (u : Value), j < k ∧ vs[j]? = some u ∧ u.ownBlock = some b) → ¬ ((Value.slice A n c).ownBlock = some b) := fun b ⟨j, u, h1, h2, h3⟩ e => by
        have hjl : j < xss.length := by have := H.out.2.2.2.2; omega
        obtain ⟨B', c', hv', hob'⟩ := H.out.2.1.2.1 j _ (List.getElem?_eq_getElem hjl)
        rw [h2] at hv'; injection hv' with hv'; subst hv'
        obtain ⟨a, ha, ha'⟩ := ownB h3
        exact own_apart H.out.1 hob' (by decide) a ha (by rw [ha']; exact e)
      have how2 := own_chgS H.out.1 hc fun b e hS => hrow b hS e
      obtain ⟨g, hm, hgb, hgl⟩ := Mut.of_own_below hob2 (Below.refl _ _) (Nat.le_trans (by have := H.out.1; exact own_base H.out.1 H.out.2.1 hlt) hsz)
      have hxk := H.out.2.2.1 _ (List.getElem_mem hkl)
      obtain ⟨b, off, hA, hb, hcc⟩ := (Rd.of_own how2).form (by omega)
      subst hA
      have cx := hcc k _ hv
      have km : (k : Int) < (n : Int) := by omega
      have HO := Lib.hid (over_any (c := cc) hm (by omega))
      have HC := Lib.hid (And.intro hc (And.intro hsz (And.intro hlt (show ∀ b, some b = some g → 0 < xss[k].length → (Value.slice B xss[k].length cc).ownBlock = some b from fun b e h0 => by
        injection e with e
        subst e
        have := (hm.2 h0).1
        rw [this]; rfl))))
      have HV := Lib.hid (And.intro hv hob2)
      have HG := Lib.hid hgl
      clear hc hsz hno hob2 hrow how2 hm hxk hb hcc hlt hob hv hgl hgb
      obtain ⟨m, hmm⟩ : ∃ m, xss[k].length = m := ⟨_, rfl⟩
      rw [hmm] at cx HO HC HV HG
      clear hmm
      go_wp2_with fail
      refine HO.out.mono ?_
      rintro e w4 ⟨rfl, hu⟩
      have HU := Lib.hid hu
      clear hu
      go_wp2
      refine ⟨⟨k + 1, by have := HC.out.2.2.1; omega, by go_num, ?_, Nat.le_trans HC.out.2.1 HU.out.1.size⟩, by have := HC.out.2.2.1; simp [intOf]; omega⟩
      refine (HC.out.1.mono fun b _ ⟨j, u, h1, h2, h3⟩ => ⟨j, u, by omega, h2, h3⟩).trans (Chg.of_grown HU.out.1 (S := fun b => (∃ (j : Nat) (u : Value), j < k + 1 ∧ vs[j]? = some u ∧ u.ownBlock = some b) ∨ wr.heap.size ≤ b) fun b e => ?_) fun b hb hS => hS.elim id fun h => absurd h (by have := HC.out.2.1; omega)
      rcases HG.out with ⟨h0, h1⟩ | ⟨h0, h1⟩
      · exact .inl ⟨k, _, by omega, HV.out.1, HC.out.2.2.2 b e.symm h0⟩
      · right
        injection e with e
        omega
    · obtain rfl : k = n := by omega
      have HC := Lib.hid hc
      clear hc hlt hk hsz
      go_wp2
      go_end0
      exact ⟨rfl, HC.out.mono fun b hb ⟨j, u, h1, h2, h3⟩ => (H.out.2.1.blk j u b h2 h3).1⟩
end Go.Proofs.Ytchdjbbhhjjmkaa
