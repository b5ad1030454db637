/- Chapter 20: Rest. Chapter 20: Rest. Chapter 20: Add: what its loop keeps. -/
import Derived.Test.YtlhipaffhehcnaaGreatT05
namespace Go.Proofs.YtlhipaffhehcnaaGreat
open Go.RowKit
set_option linter.unusedVariables false
def knw (l : List Bool) (x : Int) : Bool := l.getD x.toNat false
theorem Bk.setCells {g : Nat} {t : TypeId} : ∀ (vs : List Value) (o : Nat) {w : World} {cs : List Value}, Bk w g t cs → o + vs.length ≤ cs.length → Bk (w.setCells g o vs) g t (spl cs o vs)
  | [], o, w, cs, h, _ => by rw [spl_nil]; exact h
  | v :: r, o, w, cs, h, hl => by
    simp only [List.length_cons] at hl
    have ih := Bk.setCells r (o + 1) (h.set_ o v) (by rw [List.length_set]; omega)
    show Bk ((w.setCell ⟨g, o, none⟩ v).setCells g (o + 1) r) g t _
    have e : spl (cs.set o v) (o + 1) r = spl cs o (v :: r) := by
      refine List.ext_getElem? fun i => ?_
      rw [spl_getElem? (by rw [List.length_set]; omega), spl_getElem? (by simp; omega), List.getElem?_set]
      simp only [List.length_cons]
      by_cases c1 : o = i
      · subst c1
        rw [if_neg (by omega), if_pos rfl, if_pos (by omega), if_pos (by omega)]; simp
      · by_cases c2 : o + 1 ≤ i ∧ i < o + 1 + r.length
        · rw [if_pos c2, if_pos (by omega), show i - o = (i - (o + 1)) + 1 from by omega, List.getElem?_cons_succ]
        · rw [if_neg c2, if_neg c1, if_neg (by omega)]
    rw [← e]
    exact ih
theorem Chg.setCells {S : Nat → Prop} {g : Nat} (hS : S g) : ∀ (vs : List Value) (o : Nat) {w w' : World}, Chg S w w' → Chg S w (w'.setCells g o vs)
  | [], o, w, w', h => h
  | v :: r, o, w, w', h => Chg.setCells hS r (o + 1) (h.set_ hS o v)
theorem run_fromI {P : Program} {t e : TypeId} {i : TypeInfo} (ht : P.underlying t = some (.slice e)) (hi : P.info? e = some i) (h1 : i.size = 1) (A : Option Addr) (n c k : Nat) (kk : IntKind) (hk : k ≤ n) (hc : n ≤ c) :
    ∃ A', (∀ w, (Instr.slice t (.slice A n c) (some (.int kk k)) none none).run P w = .ok (.slice A' (n - k) (c - k)) w) ∧ (k < n → A' = A.map (fun a => a.add k)) := by
  refine ⟨if c = k then A else A.map (·.add (k * 1)), fun w => ?_, fun h => by rw [if_neg (by omega), Nat.mul_one]⟩
  have hb : (Instr.sliceBound (.int kk (k : Int)) n .sliceB).run P w = .ok k w := by
    rw [run_sliceBound _ kk k n .sliceB (by omega) (by omega)]; simp
  simp [Instr.slice, Instr.sliceBounds, run_underlying ht, sizeOf, typeInfo, hi, h1, hb]
theorem run_toI {P : Program} {t e : TypeId} {i : TypeInfo} (ht : P.underlying t = some (.slice e)) (hi : P.info? e = some i) (h1 : i.size = 1) (A : Option Addr) (n c k : Nat) (kk : IntKind) (hk : k ≤ c) (w : World) :
    (Instr.slice t (.slice A n c) none (some (.int kk k)) none).run P w = .ok (.slice A k c) w := by
  have hb2 : (Instr.sliceBound (.int kk (k : Int)) c .sliceAcap).run P w = .ok k w := by
    rw [run_sliceBound _ kk k c .sliceAcap (by omega) (by omega)]; simp
  simp [Instr.slice, Instr.sliceBounds, run_underlying ht, sizeOf, typeInfo, hi, hb2]
  cases A <;> simp [Addr.add]
/-- Is a symbol known, as a closure. -/
theorem knIn_any {w : World} {b G : Nat} {KB k : Nat} {kn : List Bool} {x : Int} (hb : w.cell? ⟨b, 0, none⟩ = some (.pointer (some ⟨G, 0, none⟩))) (hG : w.cell? ⟨G, 0, none⟩ = some (.slice (some ⟨KB, 0, none⟩) k k)) (hK : Bk w KB 4 (bools kn)) (hk : kn.length = k) (hx : 0 ≤ x ∧ x < k) (hkz : k ≤ 65536) :
    Calls Tryz.prog 143 #[.int .i64 x, .pointer (some ⟨b, 0, none⟩)] w fun e w' => e = .returned (.bool (knw kn x)) ∧ w = w' := by
  obtain ⟨i, rfl⟩ : ∃ i : Nat, x = i := ⟨x.toNat, by omega⟩
  have ck := hK.cell i
  have e : (bools kn)[i]? = some (.bool (knw kn (i : Int))) := by
    unfold bools knw
    rw [List.getElem?_map, List.getD_eq_getElem?_getD, Int.toNat_natCast, List.getElem?_eq_getElem (by omega)]; rfl
  rw [e] at ck
  have hi : i < k := by omega
  have hi' : (i : Int) < (k : Int) := by omega
  clear hK hk e hx
  go_enter Tryz.func143, Tryz.ntmps143
  go_wp2
  go_ret
  exact ⟨rfl, rfl⟩
/-- What the closure reads. -/
structure Kc (w : World) (b G KB k : Nat) (kn : List Bool) : Prop where
  c : w.cell? ⟨b, 0, none⟩ = some (.pointer (some ⟨G, 0, none⟩))
  g : w.cell? ⟨G, 0, none⟩ = some (.slice (some ⟨KB, 0, none⟩) k k)
  b : Bk w KB 4 (bools kn)
  l : kn.length = k
  z : k ≤ 65536
theorem Kc.chg {w w' : World} {b G KB k : Nat} {kn : List Bool} (h : Kc w b G KB k kn) {S : Nat → Prop} (hc : Chg S w w') (hb : ¬ S b ∧ ¬ S G ∧ ¬ S KB) : Kc w' b G KB k kn := by
  have c1 : ∀ {g : Nat} {v : Value}, w.cell? ⟨g, 0, none⟩ = some v → ¬ S g → w'.cell? ⟨g, 0, none⟩ = some v := fun {g v} e hg => by
    have hlt : g < w.heap.size := World.block_lt_of_cell? w _ e
    exact (World.cell?_of_block (hc.2 g hlt hg)).trans e
  exact ⟨c1 h.c hb.1, c1 h.g hb.2.1, hc.bk h.b hb.2.2, h.l, h.z⟩
set_option maxRecDepth 100000 in
/-- slices.IndexFunc, of that. -/
theorem indexKn_any {w : World} {A : Option Addr} {n c b G KB k : Nat} {xs : List Int} {kn : List Bool} (h : Rd w A n (nums xs)) (hn : n ≤ 1000000) (hx : ∀ x ∈ xs, 0 ≤ x ∧ x < (k : Int)) (hk : Kc w b G KB k kn) :
    Calls Tryz.prog 162 #[.slice A n c, .func (.func 143) #[] #[.pointer (some ⟨b, 0, none⟩)]] w fun e w' => (∃ z : Int, e = .returned (.int .i64 z) ∧ (z = -1 ∧ (∀ j, j < n → knw kn (gi xs j) = false) ∨ ∃ q : Nat, z = q ∧ q < n ∧ knw kn (gi xs q) = true ∧ ∀ j, j < q → knw kn (gi xs j) = false)) ∧ w = w' := by
  have hl : xs.length = n := by have := h.1; simpa [nums_length] using this
  have HX := Lib.hid (And.intro hl (And.intro h (And.intro hx hk)))
  have hn' : (n : Int) ≤ 1000000 := by omega
  clear hl h hn hx hk
  go_enter Tryz.func162, Tryz.ntmps162
  go_wp2
  go_loopw [8] (fun i wr => ∃ (q : Nat), q ≤ n ∧ i = .int .i64 q ∧ (∀ j, j < q → knw kn (gi xs j) = false) ∧ wr = w) (fun i wr => n - (intOf i).toNat)
  case atStart => exact ⟨0, by omega, rfl, fun j hj => by omega, rfl⟩
  case round =>
    obtain ⟨q, hq, rfl, hall, rfl⟩ := hrel
    have HA := Lib.hid hall
    clear hall
    by_cases hlt : q < n
    · obtain ⟨a, off, rfl, hbl, hc⟩ := HX.out.2.1.form (by omega)
      have hkl : q < xs.length := by have := HX.out.1; omega
      have cx := hc q _ (nums_gi hkl)
      have km : (q : Int) < (n : Int) := by omega
      have HL := Lib.hid (And.intro hlt hkl)
      clear hc hbl hq hlt hkl
      go_wp2_with fail
      refine (knIn_any HX.out.2.2.2.c HX.out.2.2.2.g HX.out.2.2.2.b HX.out.2.2.2.l (HX.out.2.2.1 _ (gi_mem HL.out.2)) HX.out.2.2.2.z).mono ?_
      rintro e w' ⟨rfl, rfl⟩
      cases hf : knw kn (gi xs q) with
      | true =>
        have HF := Lib.hid hf
        clear hf
        go_wp2
        go_ret
        exact ⟨⟨q, rfl, .inr ⟨q, rfl, HL.out.1, HF.out, HA.out⟩⟩, rfl⟩
      | false =>
        have HF := Lib.hid hf
        clear hf
        go_wp2
        refine ⟨⟨q + 1, by have := HL.out.1; omega, by go_num, fun j hj => ?_, trivial⟩, by have := HL.out.1; simp [intOf]; omega⟩
        rcases (show j < q ∨ j = q from by omega) with y | y
        · exact HA.out j y
        · subst y; exact HF.out
    · obtain rfl : q = n := by omega
      clear hlt hq
      go_wp2
      go_ret
      exact ⟨⟨-1, rfl, .inl ⟨rfl, HA.out⟩⟩, rfl⟩
def rst (kn : List Bool) (l : List Int) : List Int := l.filter fun x => !knw kn x
theorem rst_none {kn : List Bool} {l : List Int} (h : ∀ j, j < l.length → knw kn (gi l j) = false) : rst kn l = l := by
  unfold rst
  rw [List.filter_eq_self]
  intro x hx
  obtain ⟨j, hj, rfl⟩ := mem_gi hx
  rw [h j hj]; rfl
theorem rst_take {kn : List Bool} {l : List Int} {j : Nat} (h : j < l.length) : rst kn (l.take (j + 1)) = rst kn (l.take j) ++ (if knw kn (gi l j) then [] else [gi l j]) := by
  unfold rst
  rw [filter_take_succ h]
  cases knw kn (gi l j) <;> rfl
theorem clear_nums {w : World} {g o n c : Nat} {ty : TypeId} {cs : List Value} {t : TypeId} (hn : 0 < n) (hb : Bk w g t cs) (hl : o + n ≤ cs.length) : (Builtin.clear_ #[22] ty #[.slice (some ⟨g, o, none⟩) n c]).run Tryz.prog w = .ok (.tuple #[]) (w.setCells g o (List.replicate n (.int .i64 0))) :=
  Lib.run_clear_slice w 22 3 ty (.int .i64 0) Tryz.underlying22 (fun w => by kernel_rfl) rfl rfl g o n c hn (fun j hj => by rw [hb.cell, List.getElem?_eq_getElem (by omega)]; rfl) (fun j hj => hb.frozen _)
/-- What the loop keeps. -/
structure DfR (w0 : World) (g n : Nat) (kn : List Bool) (xs : List Int) (tl : List Value) (i j : Nat) (w : World) : Prop where
  ex : ∃ ys, Bk w g 3 (nums ys ++ tl) ∧ ys.length = n ∧ ys.take i = rst kn (xs.take j) ∧ (∀ q, j ≤ q → gi ys q = gi xs q)
  ij : i < j
  jn : j ≤ n
  ch : Chg (fun b => b = g) w0 w
theorem take_set_succ {ys : List Int} {i : Nat} (h : i < ys.length) (x : Int) : (ys.set i x).take (i + 1) = ys.take i ++ [x] := by
  rw [List.take_succ_eq_append_getElem (by simpa using h), List.take_set_of_le (Nat.le_refl _)]
  simp
set_option maxRecDepth 100000 in
set_option maxHeartbeats 4000000 in
/-- slices.DeleteFunc, of that, of a row of the call's own. -/
theorem deleteKn_any {w : World} {base n c g b G KB k : Nat} {xs : List Int} {tl : List Value} {kn : List Bool} (h : Bk w g 3 (nums xs ++ tl)) (hb : base ≤ g) (hxl : xs.length = n) (hc : n + tl.length = c) (hcm : c ≤ maxLen) (hn0 : 0 < n) (hn : n ≤ 1000000) (hx : ∀ x ∈ xs, 0 ≤ x ∧ x < (k : Int)) (hk : Kc w b G KB k kn) (hg : g ≠ b ∧ g ≠ G ∧ g ≠ KB) :
    Calls Tryz.prog 142 #[.slice (some ⟨g, 0, none⟩) n c, .func (.func 143) #[] #[.pointer (some ⟨b, 0, none⟩)]] w fun e w' => ∃ v, e = .returned v ∧ w'.ownsRow base 3 1 v (rst kn xs).length (nums (rst kn xs)) ∧ Chg (fun b => b = g) w w' := by
  have hown := own_of_bk h hb hxl hc hcm
  have HO := Lib.hid hown
  have HI := Lib.hid (indexKn_any (c := c) (Rd.of_own hown) hn hx hk)
  have HX := Lib.hid (And.intro hxl (And.intro hx (And.intro hk (And.intro hg (And.intro h (And.intro hb (And.intro hc hcm)))))))
  have hn' : (n : Int) ≤ 1000000 := by omega
  clear h hown hxl hx hk hg hb hcm hn
  go_enter Tryz.func142, Tryz.ntmps142
  go_wp2_with fail
  refine HI.out.mono ?_
  rintro e w' ⟨⟨z, rfl, hz⟩, rfl⟩
  rcases hz with ⟨rfl, hall⟩ | ⟨q, rfl, hqn, hq1, hq2⟩
  · have HA := Lib.hid hall
    clear hall
    go_wp2
    go_ret
    refine ⟨_, rfl, ?_, Chg.refl _ _⟩
    rw [rst_none (fun j hj => HA.out j (by have := HX.out.1; omega)), HX.out.1]
    exact HO.out
  · have dq : ((q : Int) == -1) = false := by simp
    have HA := Lib.hid (And.intro hqn (And.intro hq1 hq2))
    have hqn' : (q : Int) ≤ 1000000 := by omega
    have H0 : Hid (DfR w g n kn xs tl q (q + 1) w) := Lib.hid ⟨⟨xs, HX.out.2.2.2.2.1, HX.out.1, by
      rw [rst_take (by rw [HX.out.1]; exact hqn), hq1, if_pos rfl, List.append_nil]
      exact (rst_none fun j hj => by
        have hj' : j < q := by rw [List.length_take] at hj; omega
        rw [gi_take hj']; exact hq2 j hj').symm, fun _ _ => rfl⟩, by omega, by omega, Chg.refl _ _⟩
    clear hqn hq1 hq2
    go_wp2
    go_loopw [5, 6] (fun a d wr => ∃ (i j : Nat), a = .int .i64 i ∧ d = .int .i64 j ∧ DfR w g n kn xs tl i j wr) (fun a d wr => n - (intOf d).toNat)
    case atStart => exact ⟨q, q + 1, rfl, by go_num, H0.out⟩
    case round =>
      obtain ⟨i, j, rfl, rfl, hD⟩ := hrel
      have HD := Lib.hid hD
      obtain ⟨⟨ys, hy, hyl, hyt, hyd⟩, hij, hjn, hch⟩ := hD
      have hin' : (i : Int) ≤ 1000000 := by omega
      by_cases hlt : j < n
      · have jm : (j : Int) < (n : Int) := by omega
        have cx := hy.cell j
        rw [cell_left (by omega), hyd j (Nat.le_refl _)] at cx
        have ci := hy.cell i
        rw [cell_left (by omega)] at ci
        have fi := hy.frozen i
        have ii : (i : Int) < (n : Int) := by omega
        have hkc := HX.out.2.2.1.chg hch (And.intro (fun e => HX.out.2.2.2.1.1 e.symm) (And.intro (fun e => HX.out.2.2.2.1.2.1 e.symm) (fun e => HX.out.2.2.2.1.2.2 e.symm)))
        have HK := Lib.hid hkc
        have HY := Lib.hid (And.intro hy (And.intro hyl (And.intro hyt (And.intro hyd (And.intro hij (And.intro hlt hch))))))
        clear hkc hy hyl hyt hyd hij hlt hch hjn
        go_wp2_with fail
        refine (knIn_any HK.out.c HK.out.g HK.out.b HK.out.l (HX.out.2.1 _ (gi_mem (by rw [HX.out.1]; exact HY.out.2.2.2.2.2.1))) HK.out.z).mono ?_
        rintro e w' ⟨rfl, rfl⟩
        have HR := Lib.hid (rst_take (kn := kn) (l := xs) (j := j) (by rw [HX.out.1]; exact HY.out.2.2.2.2.2.1))
        cases hf : knw kn (gi xs j) with
        | true =>
          rw [hf, if_pos rfl, List.append_nil] at HR
          clear hf
          go_wp2
          exact ⟨⟨i, j + 1, rfl, by go_num, ⟨⟨ys, HY.out.1, HY.out.2.1, by rw [HR.out]; exact HY.out.2.2.1, fun q hq => HY.out.2.2.2.1 q (by omega)⟩, by have := HY.out.2.2.2.2.1; omega, HY.out.2.2.2.2.2.1, HY.out.2.2.2.2.2.2⟩⟩, by have := HY.out.2.2.2.2.2.1; simp [intOf]; omega⟩
        | false =>
          rw [hf, if_neg (by simp)] at HR
          clear hf
          go_wp2
          have hil : i < ys.length := by have := HY.out.2.1; have := HY.out.2.2.2.2.1; have := HY.out.2.2.2.2.2.1; omega
          refine ⟨⟨i + 1, j + 1, by go_num, by go_num, ⟨⟨ys.set i (gi xs j), ?_, by rw [List.length_set]; exact HY.out.2.1, by rw [HR.out, take_set_succ hil, HY.out.2.2.1], fun q hq => ?_⟩, by have := HY.out.2.2.2.2.1; omega, HY.out.2.2.2.2.2.1, ?_⟩⟩, by have := HY.out.2.2.2.2.2.1; simp [intOf]; omega⟩
          · have := HY.out.1.set_ i (.int .i64 (gi xs j))
            rw [set_left _ _ _ hil] at this
            exact this
          · rw [gi_set hil, if_neg (by have := HY.out.2.2.2.2.1; omega)]
            exact HY.out.2.2.2.1 q (by omega)
          · exact HY.out.2.2.2.2.2.2.set_ (g := g) (show (fun b => b = g) g from rfl) _ _
      · obtain rfl : j = n := by omega
        have e1 : xs.take j = xs := List.take_of_length_le (by rw [HX.out.1]; exact Nat.le_refl _)
        rw [e1] at hyt
        have hcc := HX.out.2.2.2.2.2.2
        have hi0 : i ≤ j := by omega
        obtain ⟨iI, hI0, hI1, hI2, hI3⟩ := info_parts u3_info
        obtain ⟨A', hs1, hs2⟩ := run_fromI (P := Tryz.prog) (t := 22) (e := 3) (i := iI) Tryz.underlying22 hI0 hI2 (some ⟨g, 0, none⟩) j c i .i64 hi0 (by omega)
        have hA' := hs2 hij
        rw [show (some (⟨g, 0, none⟩ : Addr)).map (fun a => a.add i) = some ⟨g, i, none⟩ from by simp [Addr.add]; try (intro e; exact e.symm)] at hA'
        subst hA'
        have hs3 := fun w => run_toI (P := Tryz.prog) (t := 22) (e := 3) (i := iI) Tryz.underlying22 hI0 hI2 (some ⟨g, 0, none⟩) j c i .i64 (by omega) w
        have hcl := fun ty => clear_nums (c := c - i) (ty := ty) (n := j - i) (o := i) (by omega) hy (by simp [nums_length]; omega)
        have hy2 := Bk.setCells (List.replicate (j - i) (.int .i64 0)) i hy (by simp [nums_length]; omega)
        have hch2 := Chg.setCells (S := fun b => b = g) (g := g) rfl (List.replicate (j - i) (.int .i64 0)) i hch
        have hlen : (rst kn xs).length = i := by rw [← hyt, List.length_take]; omega
        have HE := Lib.hid (And.intro hy2 (And.intro hch2 (And.intro hlen (And.intro hyt (And.intro hyl hij)))))
        clear hy2 hch2 hlen hyt hyd hyl hij hlt hjn hi0 hcc hs2 hch e1 hy
        go_wp2_with (simp only [hcl])
        go_ret
        refine ⟨_, rfl, ?_, HE.out.2.1⟩
        rw [HE.out.2.2.1]
        have hjl := HE.out.2.2.2.2.1
        have hij := HE.out.2.2.2.2.2
        have hcc := HX.out.2.2.2.2.2.2
        refine own_mkN HE.out.1 HX.out.2.2.2.2.2.1 (by omega) hcc.2 ?_ ?_
        · rw [spl_length (by simp [nums_length]; omega)]; simp [nums_length]; omega
        · unfold spl
          rw [List.append_assoc, List.take_append_of_le_length (by simp [nums_length]; omega), List.take_take, Nat.mul_one, Nat.min_self, List.take_append_of_le_length (by simp [nums_length]; omega), nums_take, HE.out.2.2.2.1]
end Go.Proofs.YtlhipaffhehcnaaGreat
namespace Go.Proofs.YtlhipaffhehcnaaGreat
open Go.RowKit
set_option linter.unusedVariables false
def restO (s : GM) (p : Nat) : List Int := if (pk s p).2.1 = 0 then [] else if (pk s p).2.1 = 1 then [(pk s p).2.2] else rst s.known (pk s p).1
structure Ok1 (s : GM) (p : Nat) : Prop where
  many : 0 ≤ (pk s p).2.1 ∧ (pk s p).2.1 ≤ 1000000
  set0 : 0 < (pk s p).1.length ∧ (pk s p).1.length ≤ 1000000
  inr : ∀ x ∈ (pk s p).1, 0 ≤ x ∧ x < s.known.length
set_option maxRecDepth 100000 in
set_option maxHeartbeats 1600000 in
theorem rest_range {w : World} {base G : Nat} {tag : Nat → Option Nat} {L : GL} {s : GM} (h : Gm w base G tag L s) {x : Int} (hx : ¬ (0 ≤ x ∧ x < s.packs.length)) :
    Calls Tryz.prog 111 #[.pointer (some ⟨G, 0, none⟩), .int .i64 x] w fun e w' => e = .returned (.tuple #[.slice none 0 0, .int .i64 3]) ∧ Below w.heap.size w w' := by
  have hb1 := (Below.refl w.heap.size w).alloc (Nat.le_refl _) (.cells #[.pointer (some ⟨G, 0, none⟩)] 121)
  have h1 := h.below hb1
  have H := Lib.hid (And.intro h1 hb1)
  have c2 := h1.g.cell 2
  have hkz := h.pz
  obtain ⟨k, hk⟩ : ∃ k, s.packs.length = k := ⟨_, rfl⟩
  rw [hk] at c2 hkz hx
  clear h hk h1 hb1
  by_cases h0 : x < 0
  · have d1 : decide (x < 0) = true := by simpa using h0
    clear hx h0
    go_enter Tryz.func111, Tryz.ntmps111
    go_wp2_with fail
    refine (none_made H.out.1).mono ?_
    rintro e w1 ⟨rfl, rfl⟩
    go_wp2
    go_ret2
    exact ⟨rfl, H.out.2⟩
  · have d1 : decide (x < 0) = false := by simpa using h0
    have d2 : decide (x ≥ (k : Int)) = true := by simp; omega
    have d3 : decide ((k : Int) ≤ x) = true := by simp; omega
    clear hx h0
    go_enter Tryz.func111, Tryz.ntmps111
    go_wp2_with fail
    refine (none_made H.out.1).mono ?_
    rintro e w1 ⟨rfl, rfl⟩
    go_wp2
    go_ret2
    exact ⟨rfl, H.out.2⟩
set_option maxRecDepth 100000 in
set_option maxHeartbeats 1600000 in
theorem rest_ok {w : World} {base G : Nat} {tag : Nat → Option Nat} {L : GL} {s : GM} (h : Gm w base G tag L s) {p : Nat} (hp : p < s.packs.length) (ho : Ok1 s p) :
    Calls Tryz.prog 111 #[.pointer (some ⟨G, 0, none⟩), .int .i64 p] w (LsPost w (restO s p) 0) := by
  have hmf : ∀ (fn : Fn) (first cap : Array Value) (w : World), (Instr.makeFunc fn first cap).run Tryz.prog w = .ok (.func fn first cap) w := fun _ _ _ _ => rfl
  have hb1 := (Below.refl w.heap.size w).alloc (Nat.le_refl _) (.cells #[.pointer (some ⟨G, 0, none⟩)] 121)
  have h1 := h.below hb1
  have hbox := Bk.newA w 121 #[.pointer (some ⟨G, 0, none⟩)]
  have hpo := h1.po
  obtain ⟨g, cur, hPA, hpo1⟩ := own_formN hpo (by omega)
  have c2 := h1.g.cell 2
  rw [hPA] at c2 hpo
  have k0 := own_cellN hpo (i := p * 3) (by rw [pcells_length]; omega)
  have k1 := own_cellN hpo (i := p * 3 + 1) (by rw [pcells_length]; omega)
  have k2 := own_cellN hpo (i := p * 3 + 2) (by rw [pcells_length]; omega)
  rw [show (pcells L s)[p * 3]? = (pcells L s)[p * 3 + 0]? from rfl, pcells_get _ _ hp (by omega)] at k0
  rw [pcells_get _ _ hp (by omega)] at k1 k2
  unfold pcell at k0 k1 k2
  replace k0 := k0.1
  replace k1 := k1.1
  replace k2 := k2.1
  have hso := h1.so p hp
  have hkc : Kc (w.alloc (.cells #[.pointer (some ⟨G, 0, none⟩)] 121)) w.heap.size G L.KB s.known.length s.known := ⟨hbox.cell 0, h1.g.cell 0, h1.kn, rfl, h1.kz⟩
  have hGl := (h.lt G (by rw [h.tG]; simp)).2
  have hKl := (h.lt L.KB (by rw [h.tK]; simp)).2
  obtain ⟨S, hS⟩ : ∃ S, (pk s p).1 = S := ⟨_, rfl⟩
  obtain ⟨m, hm⟩ : ∃ m, (pk s p).2.1 = m := ⟨_, rfl⟩
  obtain ⟨y, hy⟩ : ∃ y, (pk s p).2.2 = y := ⟨_, rfl⟩
  obtain ⟨B, hB⟩ : ∃ B, L.sa p = B := ⟨_, rfl⟩
  obtain ⟨n, hn⟩ : ∃ n, S.length = n := ⟨_, rfl⟩
  rw [hS, hn, hB] at k0
  rw [hm] at k1
  rw [hy] at k2
  rw [hS, hB, hn] at hso
  obtain ⟨o1, o2, o3⟩ := ho
  rw [hm] at o1
  rw [hS, hn] at o2
  rw [hS] at o3
  have HR := Lib.hid (show restO s p = if m = 0 then [] else if m = 1 then [y] else rst s.known S from by unfold restO; rw [hS, hm, hy])
  obtain ⟨np, hnp⟩ : ∃ np, s.packs.length = np := ⟨_, rfl⟩
  have hnz := h.pz
  rw [hnp] at c2 hp hnz
  have d1 : decide ((p : Int) < 0) = false := by simp
  have d2 : decide ((p : Int) ≥ (np : Int)) = false := by simp; omega
  have d3 : decide ((np : Int) ≤ (p : Int)) = false := by simp; omega
  have d4 : decide (np ≤ p) = false := by simp; omega
  have hpn : (p : Int) < (np : Int) := by omega
  have H := Lib.hid (And.intro h1 (And.intro hb1 (And.intro hso (And.intro hkc (And.intro hGl (And.intro hKl (And.intro o1 (And.intro o2 (And.intro o3 hn)))))))))
  clear h h1 hb1 hbox hpo hPA hpo1 hso hkc hGl hKl hS hm hy hB hn hnp o1 o2 o3
  go_enter Tryz.func111, Tryz.ntmps111
  go_wp2_with fail
  refine (none_made H.out.1).mono ?_
  rintro e w1 ⟨rfl, rfl⟩
  by_cases h0 : m = 0
  · subst h0
    rw [if_pos rfl] at HR
    go_wp2
    go_ret2
    exact ⟨_, rfl, by rw [HR.out]; exact World.ownsRow_nil _ _ _ _, H.out.2.1.alloc H.out.2.1.size _⟩
  · by_cases h1 : m = 1
    · subst h1
      rw [if_neg h0, if_pos rfl] at HR
      go_wp2
      go_ret2
      have hb2 := H.out.2.1.alloc H.out.2.1.size (.cells #[.slice B n (L.sc p), .int .i64 1, .int .i64 y] 166)
      refine ⟨_, rfl, ?_, hb2.alloc hb2.size _⟩
      rw [HR.out]
      have hbk := Bk.newA ((w.alloc (.cells #[.pointer (some ⟨G, 0, none⟩)] 121)).alloc (.cells #[.slice B n (L.sc p), .int .i64 1, .int .i64 y] 166)) 3 #[.int .i64 y]
      rw [World.size_alloc, World.size_alloc] at hbk
      exact own_mkN (cur := [.int .i64 y]) hbk (by omega) (Nat.le_refl _) (by simp [maxLen]) rfl rfl
    · have e0 : (m == 0) = false := by simpa using h0
      have e1 : (m == 1) = false := by simpa using h1
      rw [if_neg h0, if_neg h1] at HR
      go_wp2_with fail
      have hb2 := H.out.2.1.alloc H.out.2.1.size (.cells #[.slice B n (L.sc p), .int .i64 m, .int .i64 y] 166)
      have hso2 := H.out.2.2.1.alloc (.cells #[.slice B n (L.sc p), .int .i64 m, .int .i64 y] 166)
      have hk2 := H.out.2.2.2.1.chg (Chg.of_below (S := fun _ => False) ((Below.refl _ _).alloc (Nat.le_refl _) (.cells #[.slice B n (L.sc p), .int .i64 m, .int .i64 y] 166))) (by simp)
      have H2 := Lib.hid (And.intro hb2 (And.intro hso2 hk2))
      clear hb2 hso2 hk2
      have hsz : w.heap.size < (((w.alloc (.cells #[.pointer (some ⟨G, 0, none⟩)] 121)).alloc (.cells #[.slice B n (L.sc p), .int .i64 m, .int .i64 y] 166))).heap.size := by rw [World.size_alloc, World.size_alloc]; omega
      generalize ((w.alloc (.cells #[.pointer (some ⟨G, 0, none⟩)] 121)).alloc (.cells #[.slice B n (L.sc p), .int .i64 m, .int .i64 y] 166)) = w2 at H2 hsz ⊢
      have HZ := Lib.hid hsz
      clear hsz
      refine (cloneI_any H2.out.2.1 (by have := H.out.2.2.2.2.2.2.2.1; omega)).mono ?_
      rintro e w3 ⟨v, rfl, hown, hb3⟩
      obtain ⟨g3, c3, tl, rfl, hg3, hbk3, hl3, hc3, hm3⟩ := bk_of_ownv hown (by have := H.out.2.2.2.2.2.2.2.1; omega)
      have hk3 := H2.out.2.2.chg (Chg.of_below (S := fun _ => False) hb3) (by simp)
      have H3 := Lib.hid (And.intro hk3 (And.intro hbk3 (And.intro hg3 (And.intro hl3 (And.intro hc3 (And.intro hm3 hb3))))))
      clear hown hb3 hg3 hbk3 hl3 hc3 hm3 hk3
      go_wp2_with fail
      refine (deleteKn_any (base := w.heap.size) H3.out.2.1 (by have := H3.out.2.2.1; have := HZ.out; omega) H3.out.2.2.2.1 H3.out.2.2.2.2.1 H3.out.2.2.2.2.2.1 (by have := H.out.2.2.2.2.2.2.2.1; omega) (by have := H.out.2.2.2.2.2.2.2.1; omega) H.out.2.2.2.2.2.2.2.2.1 H3.out.1 (by have := H3.out.2.2.1; have := HZ.out; have := H.out.2.2.2.2.1; have := H.out.2.2.2.2.2.1; exact ⟨by omega, by omega, by omega⟩)).mono ?_
      rintro e w4 ⟨v4, rfl, hown4, hch4⟩
      have H4 := Lib.hid (And.intro hown4 hch4)
      clear hown4 hch4
      go_wp2
      go_ret2
      refine ⟨v4, rfl, by rw [HR.out]; exact H4.out.1, ?_⟩
      have hb3 := below_base H2.out.1 H3.out.2.2.2.2.2.2 H2.out.1.size
      exact H4.out.2.below hb3 (fun q _ e => by have e' : q = g3 := e; have := H3.out.2.2.1; have := HZ.out; omega) hb3.size
end Go.Proofs.YtlhipaffhehcnaaGreat
namespace Go.Proofs.YtlhipaffhehcnaaGreat
open Go.RowKit
set_option linter.unusedVariables false
def addW (n : Nat) (s : GM) (x : Int) : GM := { s with waits := fun j => if j = x.toNat then s.waits j ++ [(n : Int)] else s.waits j }
def addL (n : Nat) (s : GM) (l : List Int) : GM := l.foldl (addW n) s
def GL.setW (L : GL) (i : Nat) (A : Option Addr) (c : Nat) : GL := { L with wa := fun j => if j = i then A else L.wa j, wc := fun j => if j = i then c else L.wc j }
theorem addL_snoc (n : Nat) (s : GM) (l : List Int) (x : Int) : addL n s (l ++ [x]) = addW n (addL n s l) x := by unfold addL; rw [List.foldl_append]; rfl
theorem addL_parts (n : Nat) : ∀ (l : List Int) (s : GM), (addL n s l).known = s.known ∧ (addL n s l).packs = s.packs ∧ (addL n s l).most = s.most ∧ (addL n s l).unknown = s.unknown ∧ (addL n s l).edges = s.edges
  | [], s => ⟨rfl, rfl, rfl, rfl, rfl⟩
  | x :: l, s => addL_parts n l (addW n s x)
def tagW (tag : Nat → Option Nat) (g t : Nat) (b : Nat) : Option Nat := if b = g then some t else tag b
theorem tagW_ne {tag : Nat → Option Nat} {g t b : Nat} (h : b ≠ g) : tagW tag g t b = tag b := if_neg h
theorem tagW_eq {tag : Nat → Option Nat} {g t : Nat} : tagW tag g t g = some t := if_pos rfl
/-- One more waits for a symbol: append, and the field's store. -/
theorem Gm.appW {w w1 : World} {base G i n g c : Nat} {tag : Nat → Option Nat} {L : GL} {s : GM} {o : Obj} (h : Gm w base G tag L s) (hi : i < s.known.length)
    (ho : w1.ownsRow base 3 1 (.slice (some ⟨g, 0, none⟩) ((s.waits i).length + 1) c) ((s.waits i).length + 1) (nums (s.waits i ++ [(n : Int)]))) (hg : (w.alloc o).grownBy w1 (wcell L s i).ownBlock) (hat : some g = (wcell L s i).ownBlock ∨ some g = some (w.alloc o).heap.size) (hz : (s.waits i).length + 1 ≤ 1048576) :
    Gm (w1.setCell ⟨L.WB, i, none⟩ (.slice (some ⟨g, 0, none⟩) ((s.waits i).length + 1) c)) base G (tagW tag g (5 + i)) (L.setW i (some ⟨g, 0, none⟩) c) (addW n s i) ∧
      Chg (fun b => tag b ≠ none) w (w1.setCell ⟨L.WB, i, none⟩ (.slice (some ⟨g, 0, none⟩) ((s.waits i).length + 1) c)) ∧ (∀ b, b < w.heap.size → tagW tag g (5 + i) b = tag b) ∧ base ≤ g := by
  have hgt : tag g = some (5 + i) ∨ w.heap.size ≤ g := by
    rcases hat with e | e
    · obtain ⟨a, ha, ha'⟩ := slice_block e.symm
      left; rw [← ha']; exact h.tw i a hi ha
    · right; injection e with e; rw [e, World.size_alloc]; omega
  have htg : ∀ {b u}, tag b = some u → u ≠ 5 + i → b ≠ g := fun {b u} hb hu e => by
    subst e
    rcases hgt with e | e
    · rw [hb] at e; injection e with e; exact hu e
    · have := (h.lt b (by rw [hb]; simp)).2; omega
  have hold : ∀ b, b < w.heap.size → tagW tag g (5 + i) b = tag b := fun b hb => by
    by_cases e : b = g
    · subst e
      rcases hgt with e | e
      · rw [tagW_eq, e]
      · omega
    · exact tagW_ne e
  have hc1 : Chg (fun b => tag b = some (5 + i)) w w1 := ((Chg.refl _ w).alloc o).trans (Chg.of_grown hg (S := fun b => tag b = some (5 + i)) fun k e => by
    obtain ⟨a, ha, ha'⟩ := slice_block e
    rw [← ha']; exact h.tw i a hi ha) fun _ _ x => x
  obtain ⟨p1, p2, p3, p4, p5, p6, p7, p8⟩ := h.parts hc1 (5 + i) (fun b e => e)
  have hgl := ho.lt g rfl
  have hgW : g ≠ L.WB := fun e => htg h.tW (by omega) e.symm
  have hWl := (h.lt L.WB (by rw [h.tW]; simp)).2
  have hc2 : Chg (fun b => b = L.WB) w1 (w1.setCell ⟨L.WB, i, none⟩ (.slice (some ⟨g, 0, none⟩) ((s.waits i).length + 1) c)) := (Chg.refl (fun b => b = L.WB) w1).set_ (g := L.WB) (show (fun b => b = L.WB) L.WB from rfl) _ _
  have ne : ∀ {b u}, tag b = some u → u ≠ 2 → ¬ (b = L.WB) := fun hb hu e => by subst e; rw [h.tW] at hb; injection hb with hb; exact hu hb.symm
  refine ⟨⟨hc2.bk (p1 (by omega)) (ne h.tG (by omega)), hc2.bk (p2 (by omega)) (ne h.tK (by omega)), ?_, fun j hj => ?_, own_chgv (p5 (by omega)) hc2 (fun k hk => ?_), fun p hp => hc2.rd (p6 (by omega) p hp) (fun a ha => ne (h.tS p a hp ha) (by omega)), ?_, ?_, ?_, fun a ha => ?_, fun p a hp ha => ?_, fun j a hj ha => ?_, fun b hb => ?_, Nat.le_trans p8 hc2.size, h.most0, h.kz, h.pz, fun j => ?_⟩, ?_, hold, hgl.1⟩
  · have := (p3 (by omega)).set_ i (.slice (some ⟨g, 0, none⟩) ((s.waits i).length + 1) c)
    rw [map_range_set (f' := wcell (L.setW i (some ⟨g, 0, none⟩) c) (addW n s i)) _ (by simp [wcell, GL.setW, addW]) (fun j hj => by simp [wcell, GL.setW, addW, hj])] at this
    exact this
  · by_cases e : j = i
    · subst e
      have := own_chgv ho hc2 (fun k hk => by injection hk with hk; rw [← hk]; exact hgW)
      simpa [wcell, GL.setW, addW] using this
    · have := own_chgv (p4 j hj (by omega)) hc2 (fun k hk => by
        obtain ⟨a, ha, ha'⟩ := slice_block hk
        rw [← ha']; exact ne (h.tw j a hj ha) (by omega))
      simpa [wcell, GL.setW, addW, e] using this
  · obtain ⟨a, ha, ha'⟩ := slice_block hk
    rw [← ha']; exact ne (h.tP a ha) (by omega)
  · rw [tagW_ne (htg h.tG (by omega))]; exact h.tG
  · show tagW tag g (5 + i) L.KB = _
    rw [tagW_ne (htg h.tK (by omega))]; exact h.tK
  · show tagW tag g (5 + i) L.WB = _
    rw [tagW_ne (htg h.tW (by omega))]; exact h.tW
  · rw [tagW_ne (htg (h.tP a ha) (by omega))]; exact h.tP a ha
  · rw [tagW_ne (htg (h.tS p a hp ha) (by omega))]; exact h.tS p a hp ha
  · by_cases e : j = i
    · subst e
      simp only [GL.setW, if_true] at ha
      injection ha with ha; subst ha
      exact tagW_eq
    · simp only [GL.setW, if_neg e] at ha
      rw [tagW_ne (htg (h.tw j a hj ha) (by omega))]; exact h.tw j a hj ha
  · by_cases e : b = g
    · subst e; exact ⟨hgl.1, Nat.lt_of_lt_of_le hgl.2 hc2.size⟩
    · rw [tagW_ne e] at hb
      exact ⟨(p7 b hb).1, Nat.lt_of_lt_of_le (p7 b hb).2 hc2.size⟩
  · by_cases e : j = i
    · subst e; simp [addW]; omega
    · simp [addW, e]; exact h.wz j
  · exact (hc1.mono fun b _ e => by rw [e]; simp).trans hc2 fun b _ e => by rw [e, h.tW]; simp
def GL.addP (L : GL) (p g c gB cB : Nat) : GL := { L with PA := some ⟨g, 0, none⟩, pc := c, sa := fun q => if q = p then some ⟨gB, 0, none⟩ else L.sa q, sc := fun q => if q = p then cB else L.sc q }
def GM.addP (s : GM) (l : List Int) (m x : Int) : GM := { s with packs := s.packs ++ [(l, m, x)] }
theorem pk_old {s : GM} {l : List Int} {m x : Int} {q : Nat} (h : q < s.packs.length) : pk (s.addP l m x) q = pk s q := by
  unfold pk GM.addP
  simp only [List.getD_eq_getElem?_getD, List.getElem?_append_left h]
theorem pk_new {s : GM} {l : List Int} {m x : Int} : pk (s.addP l m x) s.packs.length = (l, m, x) := by
  unfold pk GM.addP
  simp [List.getD_eq_getElem?_getD]
theorem pcells_add {L : GL} {s : GM} {l : List Int} {m x : Int} {g c gB cB : Nat} : pcells (L.addP s.packs.length g c gB cB) (s.addP l m x) = pcells L s ++ [.slice (some ⟨gB, 0, none⟩) l.length cB, .int .i64 m, .int .i64 x] := by
  unfold pcells
  rw [show (s.addP l m x).packs.length = s.packs.length + 1 from by simp [GM.addP], List.range_succ, List.flatMap_append]
  congr 1
  · rw [List.flatMap_def, List.flatMap_def]
    congr 1
    refine List.map_congr_left fun q hq => ?_
    have hq' := List.mem_range.1 hq
    unfold pcell
    rw [pk_old hq']
    simp [GL.addP, Nat.ne_of_lt hq']
  · simp only [List.flatMap_cons, List.flatMap_nil, List.append_nil]
    unfold pcell
    rw [pk_new]
    simp [GL.addP]
/-- One more packet. -/
theorem Gm.appP {w w1 : World} {base G g c gB cB N : Nat} {tag : Nat → Option Nat} {L : GL} {s : GM} {o : Obj} {l : List Int} {m x : Int} (h : Gm w base G tag L s)
    (hB : Rd w (some ⟨gB, 0, none⟩) l.length (nums l)) (tB : tag gB = none) (hbB : base ≤ gB) (hBl : gB < w.heap.size) (hNB : N ≤ gB) (hN : N ≤ w.heap.size)
    (ho : w1.ownsRow base 166 3 (.slice (some ⟨g, 0, none⟩) (s.packs.length + 1) c) (s.packs.length + 1) (pcells L s ++ [.slice (some ⟨gB, 0, none⟩) l.length cB, .int .i64 m, .int .i64 x]))
    (hg : (w.alloc o).grownBy w1 (Value.slice L.PA s.packs.length L.pc).ownBlock) (hat : some g = (Value.slice L.PA s.packs.length L.pc).ownBlock ∨ some g = some (w.alloc o).heap.size) (hz : s.packs.length + 1 ≤ 1048576) :
    Gm (w1.setCell ⟨G, 2, none⟩ (.slice (some ⟨g, 0, none⟩) (s.packs.length + 1) c)) base G (tagW (tagW tag g 3) gB 4) (L.addP s.packs.length g c gB cB) (s.addP l m x) ∧
      Chg (fun b => tag b ≠ none) w (w1.setCell ⟨G, 2, none⟩ (.slice (some ⟨g, 0, none⟩) (s.packs.length + 1) c)) ∧ (∀ b, b < N → tagW (tagW tag g 3) gB 4 b = tag b) := by
  have hgt : tag g = some 3 ∨ w.heap.size ≤ g := by
    rcases hat with e | e
    · obtain ⟨a, ha, ha'⟩ := slice_block e.symm
      left; rw [← ha']; exact h.tP a ha
    · right; injection e with e; rw [e, World.size_alloc]; omega
  have htg : ∀ {b u}, tag b = some u → u ≠ 3 → b ≠ g := fun {b u} hb hu e => by
    subst e
    rcases hgt with e | e
    · rw [hb] at e; injection e with e; exact hu e
    · have := (h.lt b (by rw [hb]; simp)).2; omega
  have htB : ∀ {b u}, tag b = some u → b ≠ gB := fun hb e => by subst e; rw [tB] at hb; cases hb
  have hgB : g ≠ gB := fun e => by
    subst e
    rcases hgt with e | e
    · rw [tB] at e; cases e
    · omega
  have hc1 : Chg (fun b => tag b = some 3) w w1 := ((Chg.refl _ w).alloc o).trans (Chg.of_grown hg (S := fun b => tag b = some 3) fun k e => by
    obtain ⟨a, ha, ha'⟩ := slice_block e
    rw [← ha']; exact h.tP a ha) fun _ _ x => x
  obtain ⟨p1, p2, p3, p4, p5, p6, p7, p8⟩ := h.parts hc1 3 (fun b e => e)
  have hgl := ho.lt g rfl
  have hgG : g ≠ G := fun e => htg h.tG (by omega) e.symm
  have hc2 : Chg (fun b => b = G) w1 (w1.setCell ⟨G, 2, none⟩ (.slice (some ⟨g, 0, none⟩) (s.packs.length + 1) c)) := (Chg.refl (fun b => b = G) w1).set_ (g := G) (show (fun b => b = G) G from rfl) _ _
  have ne : ∀ {b u}, tag b = some u → u ≠ 0 → ¬ (b = G) := fun hb hu e => by subst e; rw [h.tG] at hb; injection hb with hb; exact hu hb.symm
  have hBG : gB ≠ G := fun e => htB h.tG e.symm
  have tt : ∀ {b u}, tag b = some u → u ≠ 3 → tagW (tagW tag g 3) gB 4 b = some u := fun hb hu => by rw [tagW_ne (htB hb), tagW_ne (htg hb hu)]; exact hb
  have hl : (s.addP l m x).packs.length = s.packs.length + 1 := by simp [GM.addP]
  refine ⟨⟨?_, hc2.bk (p2 (by omega)) (ne h.tK (by omega)), hc2.bk (p3 (by omega)) (ne h.tW (by omega)), fun j hj => own_chgv (p4 j hj (by omega)) hc2 (fun k hk => ?_), ?_, fun p hp => ?_, tt h.tG (by omega), tt h.tK (by omega), tt h.tW (by omega), fun a ha => ?_, fun p a hp ha => ?_, fun j a hj ha => tt (h.tw j a hj ha) (by omega), fun b hb => ?_, Nat.le_trans p8 hc2.size, h.most0, h.kz, by rw [hl]; exact hz, h.wz⟩, ?_, fun b hb => ?_⟩
  · rw [hl]
    exact (p1 (by omega)).set_ 2 _
  · obtain ⟨a, ha, ha'⟩ := slice_block hk
    rw [← ha']; exact ne (h.tw j a hj ha) (by omega)
  · rw [hl, pcells_add]
    exact own_chgv ho hc2 (fun k hk => by injection hk with hk; rw [← hk]; exact hgG)
  · rw [hl] at hp
    rcases Nat.lt_or_ge p s.packs.length with e | e
    · rw [pk_old e]
      have := hc2.rd (p6 (by omega) p e) (fun a ha => ne (h.tS p a e ha) (by omega))
      simpa [GL.addP, Nat.ne_of_lt e] using this
    · obtain rfl : p = s.packs.length := by omega
      rw [pk_new]
      have h1 := hc2.rd (hc1.rd hB (fun a ha => by injection ha with ha; subst ha; rw [tB]; simp)) (fun a ha => by injection ha with ha; subst ha; exact hBG)
      simpa [GL.addP] using h1
  · simp only [GL.addP] at ha
    injection ha with ha; subst ha
    rw [tagW_ne hgB]; exact tagW_eq
  · rw [hl] at hp
    rcases Nat.lt_or_ge p s.packs.length with e | e
    · simp only [GL.addP, if_neg (Nat.ne_of_lt e)] at ha
      exact tt (h.tS p a e ha) (by omega)
    · obtain rfl : p = s.packs.length := by omega
      simp only [GL.addP, if_true] at ha
      injection ha with ha; subst ha
      exact tagW_eq
  · by_cases e : b = gB
    · subst e; exact ⟨hbB, Nat.lt_of_lt_of_le hBl (Nat.le_trans hc1.size hc2.size)⟩
    · rw [tagW_ne e] at hb
      by_cases e2 : b = g
      · subst e2; exact ⟨hgl.1, Nat.lt_of_lt_of_le hgl.2 hc2.size⟩
      · rw [tagW_ne e2] at hb
        exact ⟨(p7 b hb).1, Nat.lt_of_lt_of_le (p7 b hb).2 hc2.size⟩
  · exact (hc1.mono fun b _ e => by rw [e]; simp).trans hc2 fun b _ e => by rw [e, h.tG]; simp
  · rw [tagW_ne (by omega)]
    by_cases e : b = g
    · subst e
      rcases hgt with e | e
      · rw [tagW_eq, e]
      · omega
    · exact tagW_ne e
end Go.Proofs.YtlhipaffhehcnaaGreat
