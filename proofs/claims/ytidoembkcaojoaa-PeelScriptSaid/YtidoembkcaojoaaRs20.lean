/- Chapter 20: Rest. -/
import Derived.Test.YtidoembkcaojoaaTl20
namespace Go.Proofs.Ytidoembkcaojoaa
open Go.RowKit
set_option linter.unusedVariables false
def knw (l : List Bool) (x : Int) : Bool := l.getD x.toNat false
theorem Bk.setCells {g : Nat} {t : TypeId} : ∀ (vs : List Value) (o : Nat) {w : World} {cs : List Value}, Bk w g t cs → o + vs.length ≤ cs.length → Bk (w.setCells g o vs) g t (spl cs o vs)
  | [], o, w, cs, h, _ => by rw [spl_nil]; exact h
  | v :: r, o, w, cs, h, hl => by
    simp only [List.length_cons] at hl
    have ih := Bk.setCells r (o + 1) (h.set_ o v) (by rw [List.length_set]; omega)
    show Bk ((w.setCell ⟨g, o, none⟩ v).setCells g (o + 1) r) g t _
    have e : spl (cs.set o v) (o + 1) r = spl cs o (v :: r) := by
      refine List.ext_getElem? fun i => ?_
      rw [spl_getElem? (by rw [List.length_set]; omega), spl_getElem? (by simp; omega), List.getElem?_set]
      simp only [List.length_cons]
      by_cases c1 : o = i
      · subst c1
        rw [if_neg (by omega), if_pos rfl, if_pos (by omega), if_pos (by omega)]; simp
      · by_cases c2 : o + 1 ≤ i ∧ i < o + 1 + r.length
        · rw [if_pos c2, if_pos (by omega), show i - o = (i - (o + 1)) + 1 from by omega, List.getElem?_cons_succ]
        · rw [if_neg c2, if_neg c1, if_neg (by omega)]
    rw [← e]
    exact ih
theorem Chg.setCells {S : Nat → Prop} {g : Nat} (hS : S g) : ∀ (vs : List Value) (o : Nat) {w w' : World}, Chg S w w' → Chg S w (w'.setCells g o vs)
  | [], o, w, w', h => h
  | v :: r, o, w, w', h => Chg.setCells hS r (o + 1) (h.set_ hS o v)
theorem run_fromI {P : Program} {t e : TypeId} {i : TypeInfo} (ht : P.underlying t = some (.slice e)) (hi : P.info? e = some i) (h1 : i.size = 1) (A : Option Addr) (n c k : Nat) (kk : IntKind) (hk : k ≤ n) (hc : n ≤ c) :
    ∃ A', (∀ w, (Instr.slice t (.slice A n c) (some (.int kk k)) none none).run P w = .ok (.slice A' (n - k) (c - k)) w) ∧ (k < n → A' = A.map (fun a => a.add k)) := by
  refine ⟨if c = k then A else A.map (·.add (k * 1)), fun w => ?_, fun h => by rw [if_neg (by omega), Nat.mul_one]⟩
  have hb : (Instr.sliceBound (.int kk (k : Int)) n .sliceB).run P w = .ok k w := by
    rw [run_sliceBound _ kk k n .sliceB (by omega) (by omega)]; simp
  simp [Instr.slice, Instr.sliceBounds, run_underlying ht, sizeOf, typeInfo, hi, h1, hb]
theorem run_toI {P : Program} {t e : TypeId} {i : TypeInfo} (ht : P.underlying t = some (.slice e)) (hi : P.info? e = some i) (h1 : i.size = 1) (A : Option Addr) (n c k : Nat) (kk : IntKind) (hk : k ≤ c) (w : World) :
    (Instr.slice t (.slice A n c) none (some (.int kk k)) none).run P w = .ok (.slice A k c) w := by
  have hb2 : (Instr.sliceBound (.int kk (k : Int)) c .sliceAcap).run P w = .ok k w := by
    rw [run_sliceBound _ kk k c .sliceAcap (by omega) (by omega)]; simp
  simp [Instr.slice, Instr.sliceBounds, run_underlying ht, sizeOf, typeInfo, hi, hb2]
  cases A <;> simp [Addr.add]
/-- Is a symbol known, as a closure. -/
theorem knIn_any {w : World} {b G : Nat} {KB k : Nat} {kn : List Bool} {x : Int} (hb : w.cell? ⟨b, 0, none⟩ = some (.pointer (some ⟨G, 0, none⟩))) (hG : w.cell? ⟨G, 0, none⟩ = some (.slice (some ⟨KB, 0, none⟩) k k)) (hK : Bk w KB 4 (bools kn)) (hk : kn.length = k) (hx : 0 ≤ x ∧ x < k) (hkz : k ≤ 65536) :
    Calls Try.prog 67 #[.int .i64 x, .pointer (some ⟨b, 0, none⟩)] w fun e w' => e = .returned (.bool (knw kn x)) ∧ w = w' := by
  obtain ⟨i, rfl⟩ : ∃ i : Nat, x = i := ⟨x.toNat, by omega⟩
  have ck := hK.cell i
  have e : (bools kn)[i]? = some (.bool (knw kn (i : Int))) := by
    unfold bools knw
    rw [List.getElem?_map, List.getD_eq_getElem?_getD, Int.toNat_natCast, List.getElem?_eq_getElem (by omega)]; rfl
  rw [e] at ck
  have hi : i < k := by omega
  have hi' : (i : Int) < (k : Int) := by omega
  clear hK hk e hx
  go_enter Try.func67, Try.ntmps67
  go_wp2
  go_ret
  exact ⟨rfl, rfl⟩
/-- What the closure reads. -/
structure Kc (w : World) (b G KB k : Nat) (kn : List Bool) : Prop where
  c : w.cell? ⟨b, 0, none⟩ = some (.pointer (some ⟨G, 0, none⟩))
  g : w.cell? ⟨G, 0, none⟩ = some (.slice (some ⟨KB, 0, none⟩) k k)
  b : Bk w KB 4 (bools kn)
  l : kn.length = k
  z : k ≤ 65536
theorem Kc.chg {w w' : World} {b G KB k : Nat} {kn : List Bool} (h : Kc w b G KB k kn) {S : Nat → Prop} (hc : Chg S w w') (hb : ¬ S b ∧ ¬ S G ∧ ¬ S KB) : Kc w' b G KB k kn := by
  have c1 : ∀ {g : Nat} {v : Value}, w.cell? ⟨g, 0, none⟩ = some v → ¬ S g → w'.cell? ⟨g, 0, none⟩ = some v := fun {g v} e hg => by
    have hlt : g < w.heap.size := World.block_lt_of_cell? w _ e
    exact (World.cell?_of_block (hc.2 g hlt hg)).trans e
  exact ⟨c1 h.c hb.1, c1 h.g hb.2.1, hc.bk h.b hb.2.2, h.l, h.z⟩
set_option maxRecDepth 100000 in
/-- slices.IndexFunc, of that. -/
theorem indexKn_any {w : World} {A : Option Addr} {n c b G KB k : Nat} {xs : List Int} {kn : List Bool} (h : Rd w A n (nums xs)) (hn : n ≤ 1000000) (hx : ∀ x ∈ xs, 0 ≤ x ∧ x < (k : Int)) (hk : Kc w b G KB k kn) :
    Calls Try.prog 71 #[.slice A n c, .func (.func 67) #[] #[.pointer (some ⟨b, 0, none⟩)]] w fun e w' => (∃ z : Int, e = .returned (.int .i64 z) ∧ (z = -1 ∧ (∀ j, j < n → knw kn (gi xs j) = false) ∨ ∃ q : Nat, z = q ∧ q < n ∧ knw kn (gi xs q) = true ∧ ∀ j, j < q → knw kn (gi xs j) = false)) ∧ w = w' := by
  have hl : xs.length = n := by have := h.1; simpa [nums_length] using this
  have HX := Lib.hid (And.intro hl (And.intro h (And.intro hx hk)))
  have hn' : (n : Int) ≤ 1000000 := by omega
  clear hl h hn hx hk
  go_enter Try.func71, Try.ntmps71
  go_wp2
  go_loopw [8] (fun i wr => ∃ (q : Nat), q ≤ n ∧ i = .int .i64 q ∧ (∀ j, j < q → knw kn (gi xs j) = false) ∧ wr = w) (fun i wr => n - (intOf i).toNat)
  case atStart => exact ⟨0, by omega, rfl, fun j hj => by omega, rfl⟩
  case round =>
    obtain ⟨q, hq, rfl, hall, rfl⟩ := hrel
    have HA := Lib.hid hall
    clear hall
    by_cases hlt : q < n
    · obtain ⟨a, off, rfl, hbl, hc⟩ := HX.out.2.1.form (by omega)
      have hkl : q < xs.length := by have := HX.out.1; omega
      have cx := hc q _ (nums_gi hkl)
      have km : (q : Int) < (n : Int) := by omega
      have HL := Lib.hid (And.intro hlt hkl)
      clear hc hbl hq hlt hkl
      go_wp2_with fail
      refine (knIn_any HX.out.2.2.2.c HX.out.2.2.2.g HX.out.2.2.2.b HX.out.2.2.2.l (HX.out.2.2.1 _ (gi_mem HL.out.2)) HX.out.2.2.2.z).mono ?_
      rintro e w' ⟨rfl, rfl⟩
      cases hf : knw kn (gi xs q) with
      | true =>
        have HF := Lib.hid hf
        clear hf
        go_wp2
        go_ret
        exact ⟨⟨q, rfl, .inr ⟨q, rfl, HL.out.1, HF.out, HA.out⟩⟩, rfl⟩
      | false =>
        have HF := Lib.hid hf
        clear hf
        go_wp2
        refine ⟨⟨q + 1, by have := HL.out.1; omega, by go_num, fun j hj => ?_, trivial⟩, by have := HL.out.1; simp [intOf]; omega⟩
        rcases (show j < q ∨ j = q from by omega) with y | y
        · exact HA.out j y
        · subst y; exact HF.out
    · obtain rfl : q = n := by omega
      clear hlt hq
      go_wp2
      go_ret
      exact ⟨⟨-1, rfl, .inl ⟨rfl, HA.out⟩⟩, rfl⟩
def rst (kn : List Bool) (l : List Int) : List Int := l.filter fun x => !knw kn x
theorem rst_none {kn : List Bool} {l : List Int} (h : ∀ j, j < l.length → knw kn (gi l j) = false) : rst kn l = l := by
  unfold rst
  rw [List.filter_eq_self]
  intro x hx
  obtain ⟨j, hj, rfl⟩ := mem_gi hx
  rw [h j hj]; rfl
theorem rst_take {kn : List Bool} {l : List Int} {j : Nat} (h : j < l.length) : rst kn (l.take (j + 1)) = rst kn (l.take j) ++ (if knw kn (gi l j) then [] else [gi l j]) := by
  unfold rst
  rw [filter_take_succ h]
  cases knw kn (gi l j) <;> rfl
theorem clear_nums {w : World} {g o n c : Nat} {ty : TypeId} {cs : List Value} {t : TypeId} (hn : 0 < n) (hb : Bk w g t cs) (hl : o + n ≤ cs.length) : (Builtin.clear_ #[23] ty #[.slice (some ⟨g, o, none⟩) n c]).run Try.prog w = .ok (.tuple #[]) (w.setCells g o (List.replicate n (.int .i64 0))) :=
  Lib.run_clear_slice w 23 3 ty (.int .i64 0) Try.underlying23 (fun w => by kernel_rfl) rfl rfl g o n c hn (fun j hj => by rw [hb.cell, List.getElem?_eq_getElem (by omega)]; rfl) (fun j hj => hb.frozen _)
/-- What the loop keeps. -/
structure DfR (w0 : World) (g n : Nat) (kn : List Bool) (xs : List Int) (tl : List Value) (i j : Nat) (w : World) : Prop where
  ex : ∃ ys, Bk w g 3 (nums ys ++ tl) ∧ ys.length = n ∧ ys.take i = rst kn (xs.take j) ∧ (∀ q, j ≤ q → gi ys q = gi xs q)
  ij : i < j
  jn : j ≤ n
  ch : Chg (fun b => b = g) w0 w
theorem take_set_succ {ys : List Int} {i : Nat} (h : i < ys.length) (x : Int) : (ys.set i x).take (i + 1) = ys.take i ++ [x] := by
  rw [List.take_succ_eq_append_getElem (by simpa using h), List.take_set_of_le (Nat.le_refl _)]
  simp
set_option maxRecDepth 100000 in
set_option maxHeartbeats 4000000 in
/-- slices.DeleteFunc, of that, of a row of the call's own. -/
theorem deleteKn_any {w : World} {base n c g b G KB k : Nat} {xs : List Int} {tl : List Value} {kn : List Bool} (h : Bk w g 3 (nums xs ++ tl)) (hb : base ≤ g) (hxl : xs.length = n) (hc : n + tl.length = c) (hcm : c ≤ maxLen) (hn0 : 0 < n) (hn : n ≤ 1000000) (hx : ∀ x ∈ xs, 0 ≤ x ∧ x < (k : Int)) (hk : Kc w b G KB k kn) (hg : g ≠ b ∧ g ≠ G ∧ g ≠ KB) :
    Calls Try.prog 66 #[.slice (some ⟨g, 0, none⟩) n c, .func (.func 67) #[] #[.pointer (some ⟨b, 0, none⟩)]] w fun e w' => ∃ v, e = .returned v ∧ w'.ownsRow base 3 1 v (rst kn xs).length (nums (rst kn xs)) ∧ Chg (fun b => b = g) w w' := by
  have hown := own_of_bk h hb hxl hc hcm
  have HO := Lib.hid hown
  have HI := Lib.hid (indexKn_any (c := c) (Rd.of_own hown) hn hx hk)
  have HX := Lib.hid (And.intro hxl (And.intro hx (And.intro hk (And.intro hg (And.intro h (And.intro hb (And.intro hc hcm)))))))
  have hn' : (n : Int) ≤ 1000000 := by omega
  clear h hown hxl hx hk hg hb hcm hn
  go_enter Try.func66, Try.ntmps66
  go_wp2_with fail
  refine HI.out.mono ?_
  rintro e w' ⟨⟨z, rfl, hz⟩, rfl⟩
  rcases hz with ⟨rfl, hall⟩ | ⟨q, rfl, hqn, hq1, hq2⟩
  · have HA := Lib.hid hall
    clear hall
    go_wp2
    go_ret
    refine ⟨_, rfl, ?_, Chg.refl _ _⟩
    rw [rst_none (fun j hj => HA.out j (by have := HX.out.1; omega)), HX.out.1]
    exact HO.out
  · have dq : ((q : Int) == -1) = false := by simp
    have HA := Lib.hid (And.intro hqn (And.intro hq1 hq2))
    have hqn' : (q : Int) ≤ 1000000 := by omega
    have H0 : Hid (DfR w g n kn xs tl q (q + 1) w) := Lib.hid ⟨⟨xs, HX.out.2.2.2.2.1, HX.out.1, by
      rw [rst_take (by rw [HX.out.1]; exact hqn), hq1, if_pos rfl, List.append_nil]
      exact (rst_none fun j hj => by
        have hj' : j < q := by rw [List.length_take] at hj; omega
        rw [gi_take hj']; exact hq2 j hj').symm, fun _ _ => rfl⟩, by omega, by omega, Chg.refl _ _⟩
    clear hqn hq1 hq2
    go_wp2
    go_loopw [5, 6] (fun a d wr => ∃ (i j : Nat), a = .int .i64 i ∧ d = .int .i64 j ∧ DfR w g n kn xs tl i j wr) (fun a d wr => n - (intOf d).toNat)
    case atStart => exact ⟨q, q + 1, rfl, by go_num, H0.out⟩
    case round =>
      obtain ⟨i, j, rfl, rfl, hD⟩ := hrel
      have HD := Lib.hid hD
      obtain ⟨⟨ys, hy, hyl, hyt, hyd⟩, hij, hjn, hch⟩ := hD
      have hin' : (i : Int) ≤ 1000000 := by omega
      by_cases hlt : j < n
      · have jm : (j : Int) < (n : Int) := by omega
        have cx := hy.cell j
        rw [cell_left (by omega), hyd j (Nat.le_refl _)] at cx
        have ci := hy.cell i
        rw [cell_left (by omega)] at ci
        have fi := hy.frozen i
        have ii : (i : Int) < (n : Int) := by omega
        have hkc := HX.out.2.2.1.chg hch (And.intro (fun e => HX.out.2.2.2.1.1 e.symm) (And.intro (fun e => HX.out.2.2.2.1.2.1 e.symm) (fun e => HX.out.2.2.2.1.2.2 e.symm)))
        have HK := Lib.hid hkc
        have HY := Lib.hid (And.intro hy (And.intro hyl (And.intro hyt (And.intro hyd (And.intro hij (And.intro hlt hch))))))
        clear hkc hy hyl hyt hyd hij hlt hch hjn
        go_wp2_with fail
        refine (knIn_any HK.out.c HK.out.g HK.out.b HK.out.l (HX.out.2.1 _ (gi_mem (by rw [HX.out.1]; exact HY.out.2.2.2.2.2.1))) HK.out.z).mono ?_
        rintro e w' ⟨rfl, rfl⟩
        have HR := Lib.hid (rst_take (kn := kn) (l := xs) (j := j) (by rw [HX.out.1]; exact HY.out.2.2.2.2.2.1))
        cases hf : knw kn (gi xs j) with
        | true =>
          rw [hf, if_pos rfl, List.append_nil] at HR
          clear hf
          go_wp2
          exact ⟨⟨i, j + 1, rfl, by go_num, ⟨⟨ys, HY.out.1, HY.out.2.1, by rw [HR.out]; exact HY.out.2.2.1, fun q hq => HY.out.2.2.2.1 q (by omega)⟩, by have := HY.out.2.2.2.2.1; omega, HY.out.2.2.2.2.2.1, HY.out.2.2.2.2.2.2⟩⟩, by have := HY.out.2.2.2.2.2.1; simp [intOf]; omega⟩
        | false =>
          rw [hf, if_neg (by simp)] at HR
          clear hf
          go_wp2
          have hil : i < ys.length := by have := HY.out.2.1; have := HY.out.2.2.2.2.1; have := HY.out.2.2.2.2.2.1; omega
          refine ⟨⟨i + 1, j + 1, by go_num, by go_num, ⟨⟨ys.set i (gi xs j), ?_, by rw [List.length_set]; exact HY.out.2.1, by rw [HR.out, take_set_succ hil, HY.out.2.2.1], fun q hq => ?_⟩, by have := HY.out.2.2.2.2.1; omega, HY.out.2.2.2.2.2.1, ?_⟩⟩, by have := HY.out.2.2.2.2.2.1; simp [intOf]; omega⟩
          · have := HY.out.1.set_ i (.int .i64 (gi xs j))
            rw [set_left _ _ _ hil] at this
            exact this
          · rw [gi_set hil, if_neg (by have := HY.out.2.2.2.2.1; omega)]
            exact HY.out.2.2.2.1 q (by omega)
          · exact HY.out.2.2.2.2.2.2.set_ (g := g) (show (fun b => b = g) g from rfl) _ _
      · obtain rfl : j = n := by omega
        have e1 : xs.take j = xs := List.take_of_length_le (by rw [HX.out.1]; exact Nat.le_refl _)
        rw [e1] at hyt
        have hcc := HX.out.2.2.2.2.2.2
        have hi0 : i ≤ j := by omega
        obtain ⟨iI, hI0, hI1, hI2, hI3⟩ := info_parts u3_info
        obtain ⟨A', hs1, hs2⟩ := run_fromI (P := Try.prog) (t := 23) (e := 3) (i := iI) Try.underlying23 hI0 hI2 (some ⟨g, 0, none⟩) j c i .i64 hi0 (by omega)
        have hA' := hs2 hij
        rw [show (some (⟨g, 0, none⟩ : Addr)).map (fun a => a.add i) = some ⟨g, i, none⟩ from by simp [Addr.add]; try (intro e; exact e.symm)] at hA'
        subst hA'
        have hs3 := fun w => run_toI (P := Try.prog) (t := 23) (e := 3) (i := iI) Try.underlying23 hI0 hI2 (some ⟨g, 0, none⟩) j c i .i64 (by omega) w
        have hcl := fun ty => clear_nums (c := c - i) (ty := ty) (n := j - i) (o := i) (by omega) hy (by simp [nums_length]; omega)
        have hy2 := Bk.setCells (List.replicate (j - i) (.int .i64 0)) i hy (by simp [nums_length]; omega)
        have hch2 := Chg.setCells (S := fun b => b = g) (g := g) rfl (List.replicate (j - i) (.int .i64 0)) i hch
        have hlen : (rst kn xs).length = i := by rw [← hyt, List.length_take]; omega
        have HE := Lib.hid (And.intro hy2 (And.intro hch2 (And.intro hlen (And.intro hyt (And.intro hyl hij)))))
        clear hy2 hch2 hlen hyt hyd hyl hij hlt hjn hi0 hcc hs2 hch e1 hy
        go_wp2_with (simp only [hcl])
        go_ret
        refine ⟨_, rfl, ?_, HE.out.2.1⟩
        rw [HE.out.2.2.1]
        have hjl := HE.out.2.2.2.2.1
        have hij := HE.out.2.2.2.2.2
        have hcc := HX.out.2.2.2.2.2.2
        refine own_mkN HE.out.1 HX.out.2.2.2.2.2.1 (by omega) hcc.2 ?_ ?_
        · rw [spl_length (by simp [nums_length]; omega)]; simp [nums_length]; omega
        · unfold spl
          rw [List.append_assoc, List.take_append_of_le_length (by simp [nums_length]; omega), List.take_take, Nat.mul_one, Nat.min_self, List.take_append_of_le_length (by simp [nums_length]; omega), nums_take, HE.out.2.2.2.1]
end Go.Proofs.Ytidoembkcaojoaa
