/- Chapter 31: the last region of a round of EtherTrue, by itself. -/
import Derived.Test.YtknpghemogfenaaTe31
namespace Go.Proofs.Ytknpghemogfenaa
open Go.Conc Go.RowKit
set_option linter.unusedVariables false
/-- The region of this number in a code. -/
def regionOf (n : Nat) : Code → Option Code
  | .region k ops b => if k = n then some (.region k ops b) else none
  | .loop c => regionOf n c
  | .seq a b => match regionOf n a with
    | some c => some c
    | none => regionOf n b
  | .block _ c => regionOf n c
  | .scope c => regionOf n c
  | .cond _ a b => match regionOf n a with
    | some c => some c
    | none => regionOf n b
  | _ => none
/-- The normal way alone. -/
def NormalR (R : Act → World → Prop) : Exit → Act → World → Prop
  | .normal, a, w => R a w
  | _, _, _ => False
theorem NormalR.imp {Q : Exit → Act → World → Prop} : ∀ (e : Exit) (a : Act) (w : World), NormalR (fun a w => Q .normal a w) e a w → Q e a w := fun e a w h => by
  cases e <;> first | exact h | exact (h : False).elim
noncomputable def reg37 : Code := ((Try.f4.body.bind (regionOf 37)).getD .skip)
variable {v0 v1 v2 v3 v4 v5 v6 v7 v8 v9 v10 v11 v12 v13 v15 v16 v17 v19 v20 v21 v22 v24 v25 v26 v27 v28 v29 v30 v31 v32 v33 v34 v35 v36 v37 v38 v39 v40 v41 v42 v43 v44 v45 v46 v47 v48 v49 v50 v51 v52 v53 v54 v55 v56 v57 v58 v59 v60 v61 v62 v63 v64 v65 v66 v67 v68 v69 v70 v71 v72 v73 v74 v75 v76 v77 v78 v79 v80 v81 v82 v83 v84 v85 v86 v87 v88 v89 v90 v91 v92 v93 v94 v95 v96 v97 v98 v99 v100 v101 v102 v103 v104 v105 v106 v107 v108 v109 v110 v111 v112 v113 v114 v115 v116 v117 v118 v119 v120 v121 v122 v123 v124 v125 v126 v127 v128 v129 v130 v131 v132 v133 v134 v135 v136 v137 v138 v139 v140 v141 v142 v143 v144 v145 v146 v147 v148 v149 v150 v151 v152 v153 v154 v155 v156 v157 v158 v159 v160 v161 v162 v163 v164 v165 v166 v167 v168 v169 v170 v171 v172 v173 v174 v175 v176 v177 v178 v179 v180 v181 v182 v183 v184 v185 v186 v187 v188 v189 v190 v191 v192 v193 v194 v195 v196 v197 v198 v199 v200 v201 v202 v203 v204 v205 v206 v207 v208 v209 v210 v211 v212 : Value}
set_option maxRecDepth 1000000 in
set_option maxHeartbeats 6400000 in
theorem reg37_any {wr : World} {P kk a qb qo qn qc : Nat} {l : List BX} {Ad : Option Addr} {R : Act → World → Prop}
    (hk3 : (kk : Int) < 2) (c5 : wr.cell? ⟨P, kk, none⟩ = some (.slice (some ⟨qb, qo, none⟩) qn qc)) (f5 : wr.frozen? ⟨P, kk, none⟩ = false) (hr : Rd wr (some ⟨qb, qo, none⟩) qn (l.map BX.v)) (hrd : Rd wr Ad (qn - (a + 1)) ((l.map BX.v).drop (a + 1)))
    (hif : (if qc = a + 1 then some (⟨qb, qo, none⟩ : Addr) else some ⟨qb, qo + (a + 1), none⟩) = Ad) (ha : a < qn) (hqc : qn ≤ qc) (hq : qn ≤ 200)
    (hQ : ∀ (A5 : Option Addr) (d5 : Nat) (w14 : World), Hid (w14.ownsRow wr.heap.size 32 1 (.slice A5 (a + (qn - (a + 1))) d5) (a + (qn - (a + 1))) ((l.map BX.v).take a ++ (l.map BX.v).drop (a + 1)) ∧ Below wr.heap.size wr w14) → ∀ (f196 f197 f198 f199 f200 f201 f202 f203 f204 f205 f206 f207 f208 f209 f210 f211 : Value), R ⟨#[v0, v1, v2, v3, v4, v5, v6, v7, v8, v9, v10, v11, v12, v13, .pointer (some ⟨P, 0, none⟩), v15, v16, v17, .int .i64 (kk : Int), v19, v20, v21, v22, .int .i64 (a : Int), v24, v25, v26, v27, v28, v29, v30, v31, v32, v33, v34, v35, v36, v37, v38, v39, v40, v41, v42, v43, v44, v45, v46, v47, v48, v49, v50, v51, v52, v53, v54, v55, v56, v57, v58, v59, v60, v61, v62, v63, v64, v65, v66, v67, v68, v69, v70, v71, v72, v73, v74, v75, v76, v77, v78, v79, v80, v81, v82, v83, v84, v85, v86, v87, v88, v89, v90, v91, v92, v93, v94, v95, v96, v97, v98, v99, v100, v101, v102, v103, v104, v105, v106, v107, v108, v109, v110, v111, v112, v113, v114, v115, v116, v117, v118, v119, v120, v121, v122, v123, v124, v125, v126, v127, v128, v129, v130, v131, v132, v133, v134, v135, v136, v137, v138, v139, v140, v141, v142, v143, v144, v145, v146, v147, v148, v149, v150, v151, v152, v153, v154, v155, v156, v157, v158, v159, v160, v161, v162, v163, v164, v165, v166, v167, v168, v169, v170, v171, v172, v173, v174, v175, v176, v177, v178, v179, v180, v181, v182, v183, v184, v185, v186, v187, v188, v189, v190, v191, v192, v193, v194, v195, f196, f197, f198, f199, f200, f201, f202, f203, f204, f205, f206, f207, f208, f209, f210, f211, v212], []⟩ (w14.setCell ⟨P, kk, none⟩ (.slice A5 (a + (qn - (a + 1))) d5))) :
    Code.wp Try.prog reg37 (NormalR R) ⟨#[v0, v1, v2, v3, v4, v5, v6, v7, v8, v9, v10, v11, v12, v13, .pointer (some ⟨P, 0, none⟩), v15, v16, v17, .int .i64 (kk : Int), v19, v20, v21, v22, .int .i64 (a : Int), v24, v25, v26, v27, v28, v29, v30, v31, v32, v33, v34, v35, v36, v37, v38, v39, v40, v41, v42, v43, v44, v45, v46, v47, v48, v49, v50, v51, v52, v53, v54, v55, v56, v57, v58, v59, v60, v61, v62, v63, v64, v65, v66, v67, v68, v69, v70, v71, v72, v73, v74, v75, v76, v77, v78, v79, v80, v81, v82, v83, v84, v85, v86, v87, v88, v89, v90, v91, v92, v93, v94, v95, v96, v97, v98, v99, v100, v101, v102, v103, v104, v105, v106, v107, v108, v109, v110, v111, v112, v113, v114, v115, v116, v117, v118, v119, v120, v121, v122, v123, v124, v125, v126, v127, v128, v129, v130, v131, v132, v133, v134, v135, v136, v137, v138, v139, v140, v141, v142, v143, v144, v145, v146, v147, v148, v149, v150, v151, v152, v153, v154, v155, v156, v157, v158, v159, v160, v161, v162, v163, v164, v165, v166, v167, v168, v169, v170, v171, v172, v173, v174, v175, v176, v177, v178, v179, v180, v181, v182, v183, v184, v185, v186, v187, v188, v189, v190, v191, v192, v193, v194, v195, v196, v197, v198, v199, v200, v201, v202, v203, v204, v205, v206, v207, v208, v209, v210, v211, v212], []⟩ wr := by
  have em : IntKind.i64.wrap ((a : Int) + 1) = ((a + 1 : Nat) : Int) := by rw [IntKind.wrap_i64]; omega
  have n1 : (a : Int) ≤ (qc : Int) := by omega
  have n2 : (a : Int) + 1 ≤ (qn : Int) := by omega
  have n3 : a ≤ qc := by omega
  have n4 : a + 1 ≤ qn := by omega
  have n5 : ((a + 1 : Nat) : Int) ≤ (qn : Int) := by omega
  have n6 : (qn : Int) ≤ (qc : Int) := by omega
  have n8 : (0 : Int) ≤ (a : Int) + 1 := by omega
  have n9 : (0 : Int) ≤ ((a + 1 : Nat) : Int) := by omega
  have n10 : ((a : Int) + 1).toNat = a + 1 := by omega
  have n7 : ¬ qc = 0 := by omega
  have HN20 := Lib.hid (show a + (qn - (a + 1)) ≤ 400 by omega)
  have HN21 := Lib.hid (show a ≤ qn by omega)
  have HC5 := Lib.hid (And.intro c5 (And.intro f5 (And.intro hr hrd)))
  have c5z := cell_below ((Below.refl wr.heap.size wr).alloc (Nat.le_refl _) (.cells #[] 32)) c5
  have HFin := Lib.hid hQ
  clear hQ hr hrd ha hqc f5
  conv => arg 2; whnf
  go_region_law (first
    | (refine step_row2 (wr := wr) (p := ⟨P, kk, none⟩) (l := l) (k := a + 1) (.tmp 203) (.tmp 209) (by rfl) (by rfl) (by rfl) (Ax := Ad) (n := qn - (a + 1)) (c := qc - (a + 1)) (by rfl) H13 HC5.out.2.2.2 HN20.out HC5.out.1 HC5.out.2.1 ?_; intro A5 d5 w14 H14 c5b f5b)
    | (refine step_row1 (wr := wr) (p := ⟨P, kk, none⟩) (l := l) (.tmp 197) (.tmp 202) (by rfl) (by rfl) (by rfl) (qb := qb) (qo := qo) (qc := qc) (m := a) (by rfl) HC5.out.2.2.1 HN21.out hq HC5.out.1 ?_; intro A4 d4 w13 H13 c5a))
  all_goals go_wp2_with fail
  all_goals exact HFin.out A5 d5 w14 H14 _ _ _ _ _ _ _ _ _ _ _ _ _ _ _ _
end Go.Proofs.Ytknpghemogfenaa
