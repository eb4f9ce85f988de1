/- A loop of the document's Text, walked. (ahead of it: What the document's Text calls; its loops' code. A loop of the document's Text, walked. A loop of the document's Text, walked.) -/
import Derived.Test.YtggogenhakdhiaaDoorStTexts
import Derived.Deep.RegionHeldLaw
import Derived.Deep.DrawnRows
section
set_option linter.unusedVariables false
set_option linter.unusedSimpArgs false
attribute [local go_sem ↓] Go.wp_at_zero Go.wp_at_succ
namespace Go.Proofs.YtggogenhakdhiaaDoor.PSnapTexts
open Go.RowKit Go.Proofs.YtggogenhakdhiaaDoorW.PrintWords Go.Proofs.YtggogenhakdhiaaDoorW.PrintLast Go.Proofs.YtggogenhakdhiaaDoorW.PrintMore
open Classical

theorem lt_false {n : Nat} (h : n ≤ 200000000000000) : (9223372036854775807 < n) = False := eq_false (by omega)
def Str (s : ByteArray) (l : List UInt8) : Prop := s = B l
theorem Str.size {s : ByteArray} {l : List UInt8} (h : Str s l) : s.size = l.length := by rw [h, B_size]
/-- what a call that gives a string does -/
abbrev Gives (P : Program) (f : Nat) (args : Array Value) (s : ByteArray) (w : World) : Prop := Calls P f args w fun e w' => e = .returned (.string s) ∧ Below w.heap.size w w'
theorem whole_calls (n : Int) (h : InR n) (w : World) : Gives Tryd.prog 82 #[.int .i64 n] (B (Lib.itoa n)) w := bursarref02_Whole.calls 21 n _ w (Whole.is 21 n (by omega) h)
theorem text2_calls (a : S115) (h : InId a) (w : World) : Gives Tryd.prog 85 #[.agg #[.int .i64 a.f0, .int .i64 a.f1]] (B (idL a)) w := bursarref02_Text.calls 21 a.f0 a.f1 _ w (Text2.is 21 a (by omega) h)
theorem quote2_calls (s : ByteArray) (h : s.size ≤ 1048576) (w : World) : Gives Tryd.prog 84 #[.string s] (B (quoteL s.data.toList)) w := bursarref08_Quote.calls 1048577 s _ w (Quote.is 1048577 s (by omega) (by omega))
theorem value2_calls (s : ByteArray) (d : Bool) (h : s.size ≤ 1048576) (w : World) : Gives Tryd.prog 86 #[.string s, .bool d] (B (valueL s d)) w := bursarref19_value.calls 1048577 s d _ w (value.is 1048577 s d (by omega) (by omega))
theorem locks2_calls {M : Nat} (hM : M ≤ 1048576) (word : List UInt8) (hw : word.length ≤ 10) (w : World) (A : Option Addr) (c : Nat) (l : List S135) (hr : Kd.C k135 w A l.length l) (hc : l.length ≤ c) (hl : ∀ x ∈ l, LockOk M x) (hll : l.length ≤ 1048576) :
    Gives Tryd.prog 83 #[.string (B word), .slice A l.length c] (B (l.flatMap (lockLine word))) w := bursarref19_locksText.calls 3000000 (B word) A c l _ w hr hc (locksText.is hM word hw l hl hll)

/-- what a loop that is left by its condition alone answers -/
def LQ (n : Nat) (X : Act → World → Prop) : Exit → Act → World → Prop := fun e a w => match e with | .exit m => m = n ∧ X a w | _ => False
/-- the loops of a code, the first ahead, those within a loop behind it -/
def loopsOf : Code → List Code
  | .loop c => .loop c :: loopsOf c
  | .seq a b => loopsOf a ++ loopsOf b
  | .block _ c => loopsOf c
  | .scope c => loopsOf c
  | .cond _ a b => loopsOf a ++ loopsOf b
  | _ => []
noncomputable def loopAt (f : Func) (n : Nat) : Code := ((f.body.map loopsOf).getD []).getD n .skip
theorem wp_of_LQ {P : Program} {c : Code} {n : Nat} {Q : Exit → Act → World → Prop} {a : Act} {w : World} (h : Code.wp P c (LQ n (fun a w => Q (.exit n) a w)) a w) : Code.wp P c Q a w :=
  wp_mono h (fun e a w h => by
    cases e with
    | exit m => obtain ⟨rfl, h⟩ := h; exact h
    | _ => exact h.elim)
noncomputable def rtLoop1 : Code := loopAt Tryd.f36 0
noncomputable def rtLoop2 : Code := loopAt Tryd.f36 1
noncomputable def rtLoop3 : Code := loopAt Tryd.f36 2
noncomputable def rtLoop4 : Code := loopAt Tryd.f36 3
noncomputable def rtLoop5 : Code := loopAt Tryd.f36 4
noncomputable def rtLoop6 : Code := loopAt Tryd.f36 5
end Go.Proofs.YtggogenhakdhiaaDoor.PSnapTexts
end
section
set_option linter.unusedVariables false
set_option linter.unusedSimpArgs false
attribute [local go_sem ↓] Go.wp_at_zero Go.wp_at_succ
namespace Go.Proofs.YtggogenhakdhiaaDoor.PSnapTexts
open Go.RowKit Go.Proofs.YtggogenhakdhiaaDoorW.PrintWords Go.Proofs.YtggogenhakdhiaaDoorW.PrintLast Go.Proofs.YtggogenhakdhiaaDoorW.PrintMore
open Classical

set_option maxHeartbeats 8000000 in
set_option maxRecDepth 20000 in
theorem rt_loop1 {M : Nat} (hM : M ≤ 1048576) (W w : World) (g : Nat) (A : Option Addr) (c : Nat) (l : List S138) (S0 : List UInt8) (a0 : W.cell? ⟨g, 3, none⟩ = some (.slice A l.length c)) (hg : Kd.C k138 W A l.length l) (hc : l.length ≤ c)
    (hl : ∀ x ∈ l, VersionOk M x) (hll : l.length ≤ M) (hS : S0.length ≤ 50000000000000) (hB0 : Below W.heap.size W w) {X : Act → World → Prop} (u0 u2 u5 u6 u7 u8 u9 u10 u11 u12 u13 u14 u15 u16 u17 u18 u19 u20 u21 u22 u23 u24 u25 u26 u27 u28 u29 u30 u31 u32 u33 u34 u35 u36 u37 u38 u39 u40 u41 u42 u43 u44 u45 u46 u47 u48 u49 u50 u51 u52 u53 u54 u55 u56 u57 u58 u59 u60 u61 u62 u63 u64 u65 u66 u67 u68 u69 u70 u71 u72 u73 u74 u75 u76 u77 u78 u79 u80 u81 u82 u83 u84 u85 u86 u87 u88 u89 u90 u91 u92 u93 u94 u95 u96 u97 u98 u99 u100 u101 u102 u103 u104 u105 u106 u107 u108 u109 u110 u111 u112 u113 u114 u115 u116 u117 u118 u119 u120 u121 u122 u123 u124 u125 u126 u127 u128 u129 u130 u131 u132 u133 u134 u135 u136 u137 u138 u139 u140 u141 u142 u143 u144 u145 u146 u147 u148 u149 u150 u151 u152 u153 u154 u155 u156 u157 u158 u159 u160 u161 u162 u163 u164 u165 u166 u167 u168 u169 u170 u171 u172 u173 u174 u175 u176 u177 u178 u179 u180 u181 u182 u183 u184 u185 u186 u187 u188 u189 u190 u191 u192 u193 u194 u195 u196 u197 u198 u199 u200 u201 u202 u203 u204 : Value)
    (hexit : ∀ (v0 v2 v5 v6 v7 v8 v9 v10 v11 v12 v13 v14 v15 v16 v17 v18 v19 v20 v21 v22 v23 v24 v25 v26 v27 v28 v29 v30 v31 v32 v33 v34 v35 v36 v37 v38 v39 v40 v41 v42 v43 v44 v45 v46 v47 v48 v49 v50 v51 v52 v53 v54 v55 v56 v57 v58 v59 v60 v61 v62 v63 v64 v65 v66 v67 v68 v69 v70 v71 v72 v73 v74 v75 v76 v77 v78 v79 v80 v81 v82 v83 v84 v85 v86 v87 v88 v89 v90 v91 v92 v93 v94 v95 v96 v97 v98 v99 v100 v101 v102 v103 v104 v105 v106 v107 v108 v109 v110 v111 v112 v113 v114 v115 v116 v117 v118 v119 v120 v121 v122 v123 v124 v125 v126 v127 v128 v129 v130 v131 v132 v133 v134 v135 v136 v137 v138 v139 v140 v141 v142 v143 v144 v145 v146 v147 v148 v149 v150 v151 v152 v153 v154 v155 v156 v157 v158 v159 v160 v161 v162 v163 v164 v165 v166 v167 v168 v169 v170 v171 v172 v173 v174 v175 v176 v177 v178 v179 v180 v181 v182 v183 v184 v185 v186 v187 v188 v189 v190 v191 v192 v193 v194 v195 v196 v197 v198 v199 v200 v201 v202 v203 v204 : Value) w', Below W.heap.size W w' → X ⟨List.toArray (v0 :: .pointer (some ⟨g, 0, none⟩) :: v2 :: .string (B (S0 ++ l.flatMap versionLine)) :: .int .i64 (l.length : Int) :: v5 :: v6 :: v7 :: v8 :: v9 :: v10 :: v11 :: v12 :: v13 :: v14 :: v15 :: v16 :: v17 :: v18 :: v19 :: v20 :: v21 :: v22 :: v23 :: v24 :: v25 :: v26 :: v27 :: v28 :: v29 :: v30 :: v31 :: v32 :: v33 :: v34 :: v35 :: v36 :: v37 :: v38 :: v39 :: v40 :: v41 :: v42 :: v43 :: v44 :: v45 :: v46 :: v47 :: v48 :: v49 :: v50 :: v51 :: v52 :: v53 :: v54 :: v55 :: v56 :: v57 :: v58 :: v59 :: v60 :: v61 :: v62 :: v63 :: v64 :: v65 :: v66 :: v67 :: v68 :: v69 :: v70 :: v71 :: v72 :: v73 :: v74 :: v75 :: v76 :: v77 :: v78 :: v79 :: v80 :: v81 :: v82 :: v83 :: v84 :: v85 :: v86 :: v87 :: v88 :: v89 :: v90 :: v91 :: v92 :: v93 :: v94 :: v95 :: v96 :: v97 :: v98 :: v99 :: v100 :: v101 :: v102 :: v103 :: v104 :: v105 :: v106 :: v107 :: v108 :: v109 :: v110 :: v111 :: v112 :: v113 :: v114 :: v115 :: v116 :: v117 :: v118 :: v119 :: v120 :: v121 :: v122 :: v123 :: v124 :: v125 :: v126 :: v127 :: v128 :: v129 :: v130 :: v131 :: v132 :: v133 :: v134 :: v135 :: v136 :: v137 :: v138 :: v139 :: v140 :: v141 :: v142 :: v143 :: v144 :: v145 :: v146 :: v147 :: v148 :: v149 :: v150 :: v151 :: v152 :: v153 :: v154 :: v155 :: v156 :: v157 :: v158 :: v159 :: v160 :: v161 :: v162 :: v163 :: v164 :: v165 :: v166 :: v167 :: v168 :: v169 :: v170 :: v171 :: v172 :: v173 :: v174 :: v175 :: v176 :: v177 :: v178 :: v179 :: v180 :: v181 :: v182 :: v183 :: v184 :: v185 :: v186 :: v187 :: v188 :: v189 :: v190 :: v191 :: v192 :: v193 :: v194 :: v195 :: v196 :: v197 :: v198 :: v199 :: v200 :: v201 :: v202 :: v203 :: v204 :: []), []⟩ w') :
    Code.wp Tryd.prog rtLoop1 (LQ 0 X) ⟨List.toArray (u0 :: .pointer (some ⟨g, 0, none⟩) :: u2 :: .string (B S0) :: .int .i64 0 :: u5 :: u6 :: u7 :: u8 :: u9 :: u10 :: u11 :: u12 :: u13 :: u14 :: u15 :: u16 :: u17 :: u18 :: u19 :: u20 :: u21 :: u22 :: u23 :: u24 :: u25 :: u26 :: u27 :: u28 :: u29 :: u30 :: u31 :: u32 :: u33 :: u34 :: u35 :: u36 :: u37 :: u38 :: u39 :: u40 :: u41 :: u42 :: u43 :: u44 :: u45 :: u46 :: u47 :: u48 :: u49 :: u50 :: u51 :: u52 :: u53 :: u54 :: u55 :: u56 :: u57 :: u58 :: u59 :: u60 :: u61 :: u62 :: u63 :: u64 :: u65 :: u66 :: u67 :: u68 :: u69 :: u70 :: u71 :: u72 :: u73 :: u74 :: u75 :: u76 :: u77 :: u78 :: u79 :: u80 :: u81 :: u82 :: u83 :: u84 :: u85 :: u86 :: u87 :: u88 :: u89 :: u90 :: u91 :: u92 :: u93 :: u94 :: u95 :: u96 :: u97 :: u98 :: u99 :: u100 :: u101 :: u102 :: u103 :: u104 :: u105 :: u106 :: u107 :: u108 :: u109 :: u110 :: u111 :: u112 :: u113 :: u114 :: u115 :: u116 :: u117 :: u118 :: u119 :: u120 :: u121 :: u122 :: u123 :: u124 :: u125 :: u126 :: u127 :: u128 :: u129 :: u130 :: u131 :: u132 :: u133 :: u134 :: u135 :: u136 :: u137 :: u138 :: u139 :: u140 :: u141 :: u142 :: u143 :: u144 :: u145 :: u146 :: u147 :: u148 :: u149 :: u150 :: u151 :: u152 :: u153 :: u154 :: u155 :: u156 :: u157 :: u158 :: u159 :: u160 :: u161 :: u162 :: u163 :: u164 :: u165 :: u166 :: u167 :: u168 :: u169 :: u170 :: u171 :: u172 :: u173 :: u174 :: u175 :: u176 :: u177 :: u178 :: u179 :: u180 :: u181 :: u182 :: u183 :: u184 :: u185 :: u186 :: u187 :: u188 :: u189 :: u190 :: u191 :: u192 :: u193 :: u194 :: u195 :: u196 :: u197 :: u198 :: u199 :: u200 :: u201 :: u202 :: u203 :: u204 :: []), []⟩ w := by
  conv => arg 2; whnf
  go_loopw [3, 4] (fun v i wr => ∃ j : Nat, j ≤ l.length ∧ i = .int .i64 j ∧ v = .string (B (S0 ++ (l.take j).flatMap versionLine)) ∧ Below W.heap.size W wr) (fun _ i _ => l.length - (intOf i).toNat)
  case atStart => exact ⟨0, by omega, rfl, by simp, hB0⟩
  case round =>
    obtain ⟨j, hj, rfl, rfl, hBr⟩ := hrel
    have p0 := pw_cell_below hBr a0
    by_cases hlt : j < l.length
    · have hltz : (j : Int) < (l.length : Int) := by omega
      have hw64 : wrap64 ((j : Int) + 1) = ((j + 1 : Nat) : Int) := by unfold wrap64; omega
      obtain ⟨G, O, rfl, hcA⟩ := version_plain hg (by omega)
      obtain ⟨b0, b1, b2, b3, b4, b5⟩ := hcA j hlt
      have hok := hl _ (List.getElem_mem hlt)
      have htk := take_flat versionLine l j hlt
      have hpl : ((l.take j).flatMap versionLine).length ≤ 8000000000000 := version_part hM hl hll j
      generalize l[j] = x at *
      replace b0 := pw_cell_below hBr b0
      replace b1 := pw_cell_below hBr b1
      replace b2 := pw_cell_below hBr b2
      replace b3 := pw_cell_below hBr b3
      replace b4 := pw_cell_below hBr b4
      replace b5 := pw_cell_below hBr b5
      have zx : (B (S0 ++ (l.take j).flatMap versionLine)).size ≤ 58000000000000 := by rw [B_size, List.length_append]; omega
      have Hsq := quote2_calls x.f0 (by have := hok.s; omega)
      have zsq : (B (quoteL x.f0.data.toList)).size ≤ 3145730 := by rw [B_size]; exact by have := quoteL_length x.f0.data.toList; have := toList_len x.f0; have := hok.s; omega
      have Hsw := whole_calls x.f3 hok.n
      have zsw : (B (Lib.itoa x.f3)).size ≤ 21 := by rw [B_size]; exact itoa_len hok.n
      have Hsi := text2_calls x.f4 hok.i
      have zsi : (B (idL x.f4)).size ≤ 43 := by rw [B_size]; exact idL_len hok.i
      have Hsv := value2_calls x.f1 x.f2 (by have := hok.v; omega)
      have zsv : (B (valueL x.f1 x.f2)).size ≤ 3145730 := by rw [B_size]; exact by have := valueL_len x.f1 x.f2; have := hok.v; omega
      have hnew : B (S0 ++ (l.take j).flatMap versionLine) ++ (⟨#[118, 101, 114, 115, 105, 111, 110, 32]⟩ : ByteArray) ++ B (quoteL x.f0.data.toList) ++ (⟨#[32]⟩ : ByteArray) ++ B (Lib.itoa x.f3) ++ (⟨#[32]⟩ : ByteArray) ++ B (idL x.f4) ++ (⟨#[32]⟩ : ByteArray) ++ B (valueL x.f1 x.f2) ++ (⟨#[10]⟩ : ByteArray) = B (S0 ++ (l.take (j + 1)).flatMap versionLine) := by
        rw [show (⟨#[118, 101, 114, 115, 105, 111, 110, 32]⟩ : ByteArray) = B [118, 101, 114, 115, 105, 111, 110, 32] from rfl, show (⟨#[32]⟩ : ByteArray) = B [32] from rfl, show (⟨#[10]⟩ : ByteArray) = B [10] from rfl]
        simp only [B_append]
        rw [htk]
        congr 1
        simp [versionLine, versionWords, wVersion, lineL_cons]
      generalize B (quoteL x.f0.data.toList) = sq at *
      generalize B (Lib.itoa x.f3) = sw at *
      generalize B (idL x.f4) = si at *
      generalize B (valueL x.f1 x.f2) = sv at *
      generalize B (S0 ++ (l.take j).flatMap versionLine) = sx at *
      have r1 := lt_false (n := sx.size + 8) (by omega)
      have r2 := lt_false (n := sx.size + 8 + sq.size) (by omega)
      have r3 := lt_false (n := sx.size + 8 + sq.size + 1) (by omega)
      have r4 := lt_false (n := sx.size + 8 + sq.size + 1 + sw.size) (by omega)
      have r5 := lt_false (n := sx.size + 8 + sq.size + 1 + sw.size + 1) (by omega)
      have r6 := lt_false (n := sx.size + 8 + sq.size + 1 + sw.size + 1 + si.size) (by omega)
      have r7 := lt_false (n := sx.size + 8 + sq.size + 1 + sw.size + 1 + si.size + 1) (by omega)
      have r8 := lt_false (n := sx.size + 8 + sq.size + 1 + sw.size + 1 + si.size + 1 + sv.size) (by omega)
      have r9 := lt_false (n := sx.size + 8 + sq.size + 1 + sw.size + 1 + si.size + 1 + sv.size + 1) (by omega)
      replace hnew := Go.Lib.hid hnew
      replace zx := Go.Lib.hid zx
      replace zsq := Go.Lib.hid zsq
      replace zsw := Go.Lib.hid zsw
      replace zsi := Go.Lib.hid zsi
      replace zsv := Go.Lib.hid zsv
      clear htk hcA hpl
      have hzr := hBr.size
      go_upto_region 6 with fail
      have hB1 : Below wr.heap.size wr (wr.alloc (.cells #[.string x.f0, .string x.f1, .bool x.f2, .int .i64 x.f3, .int .i64 x.f4.f0, .int .i64 x.f4.f1] 138)) := below_alloc (Below.refl _ _) _
      have hx := heap_alloc_new wr (.cells #[.string x.f0, .string x.f1, .bool x.f2, .int .i64 x.f3, .int .i64 x.f4.f0, .int .i64 x.f4.f1] 138)
      obtain ⟨gx, hgx⟩ : ∃ y, y = wr.heap.size := ⟨_, rfl⟩
      rw [← hgx] at hx ⊢
      generalize wr.alloc (.cells #[.string x.f0, .string x.f1, .bool x.f2, .int .i64 x.f3, .int .i64 x.f4.f0, .int .i64 x.f4.f1] 138) = V at *
      clear hgx b0 b1 b2 b3 b4 b5
      have e0 := blk_cell hx 0
      have e1 := blk_cell hx 1
      have e2 := blk_cell hx 2
      have e3 := blk_cell hx 3
      have e4 := blk_cell hx 4
      have e5 := blk_cell hx 5
      simp only [List.getElem?_toArray, List.getElem?_cons_zero, List.getElem?_cons_succ] at e0 e1 e2 e3 e4 e5
      clear hx
      have hv1 : Below V.heap.size V V.drew := below_drew (Below.refl _ _)
      go_region_held_law (fun w' => w'.cell? ⟨gx, 0, none⟩ = some (.string x.f0) ∧ w'.cell? ⟨gx, 1, none⟩ = some (.string x.f1) ∧ w'.cell? ⟨gx, 2, none⟩ = some (.bool x.f2) ∧ w'.cell? ⟨gx, 3, none⟩ = some (.int .i64 x.f3) ∧ w'.cell? ⟨gx, 4, none⟩ = some (.int .i64 x.f4.f0) ∧ w'.cell? ⟨gx, 5, none⟩ = some (.int .i64 x.f4.f1))
        (first | go_keep | exact ⟨pw_cell_below hv5 e0, pw_cell_below hv5 e1, pw_cell_below hv5 e2, pw_cell_below hv5 e3, pw_cell_below hv5 e4, pw_cell_below hv5 e5⟩ | exact ⟨pw_cell_below hv4 e0, pw_cell_below hv4 e1, pw_cell_below hv4 e2, pw_cell_below hv4 e3, pw_cell_below hv4 e4, pw_cell_below hv4 e5⟩ | exact ⟨pw_cell_below hv3 e0, pw_cell_below hv3 e1, pw_cell_below hv3 e2, pw_cell_below hv3 e3, pw_cell_below hv3 e4, pw_cell_below hv3 e5⟩ | exact ⟨pw_cell_below hv2 e0, pw_cell_below hv2 e1, pw_cell_below hv2 e2, pw_cell_below hv2 e3, pw_cell_below hv2 e4, pw_cell_below hv2 e5⟩ | exact ⟨pw_cell_below hv1 e0, pw_cell_below hv1 e1, pw_cell_below hv1 e2, pw_cell_below hv1 e3, pw_cell_below hv1 e4, pw_cell_below hv1 e5⟩)
        ((first
          | (go_at_call 86; refine (Hsv u_4).mono ?_; rintro e u_5 ⟨rfl, hu5⟩; have hv5 := hv4.trans (hu5.mono hv4.size))
          | (go_at_call 85; refine (Hsi u_3).mono ?_; rintro e u_4 ⟨rfl, hu4⟩; have hv4 := hv3.trans (hu4.mono hv3.size))
          | (go_at_call 82; refine (Hsw u_2).mono ?_; rintro e u_3 ⟨rfl, hu3⟩; have hv3 := hv2.trans (hu3.mono hv2.size))
          | (go_at_call 84; refine (Hsq _).mono ?_; rintro e u_2 ⟨rfl, hu2⟩; have hv2 := hv1.trans (hu2.mono hv1.size))))
      have hBe := hBr.trans ((hB1.trans (hv5.mono hB1.size)).mono hzr)
      clear r1 r2 r3 r4 r5 r6 r7 r8 r9
      go_wp2_with fail
      go_roundw
      case rel => exact ⟨j + 1, hlt, by first | rfl | rw [hw64], by rw [hnew.out], hBe⟩
      case measure => simp only [intOf]; first | omega | (rw [hw64]; omega)
    · have hjl : j = l.length := by omega
      subst hjl
      rw [List.take_length] at *
      have hltf : ¬ ((l.length : Int) < (l.length : Int)) := by omega
      go_wp2_with fail
      exact ⟨rfl, hexit _ _ _ _ _ _ _ _ _ _ _ _ _ _ _ _ _ _ _ _ _ _ _ _ _ _ _ _ _ _ _ _ _ _ _ _ _ _ _ _ _ _ _ _ _ _ _ _ _ _ _ _ _ _ _ _ _ _ _ _ _ _ _ _ _ _ _ _ _ _ _ _ _ _ _ _ _ _ _ _ _ _ _ _ _ _ _ _ _ _ _ _ _ _ _ _ _ _ _ _ _ _ _ _ _ _ _ _ _ _ _ _ _ _ _ _ _ _ _ _ _ _ _ _ _ _ _ _ _ _ _ _ _ _ _ _ _ _ _ _ _ _ _ _ _ _ _ _ _ _ _ _ _ _ _ _ _ _ _ _ _ _ _ _ _ _ _ _ _ _ _ _ _ _ _ _ _ _ _ _ _ _ _ _ _ _ _ _ _ _ _ _ _ _ _ _ _ _ _ _ _ _ _ hBr⟩
end Go.Proofs.YtggogenhakdhiaaDoor.PSnapTexts
end
section
set_option linter.unusedVariables false
set_option linter.unusedSimpArgs false
attribute [local go_sem ↓] Go.wp_at_zero Go.wp_at_succ
namespace Go.Proofs.YtggogenhakdhiaaDoor.PSnapTexts
open Go.RowKit Go.Proofs.YtggogenhakdhiaaDoorW.PrintWords Go.Proofs.YtggogenhakdhiaaDoorW.PrintLast Go.Proofs.YtggogenhakdhiaaDoorW.PrintMore
open Classical

set_option maxHeartbeats 8000000 in
set_option maxRecDepth 20000 in
theorem rt_loop2 {M : Nat} (hM : M ≤ 1048576) (W w : World) (g : Nat) (A : Option Addr) (c : Nat) (l : List S140) (S0 : List UInt8) (a0 : W.cell? ⟨g, 4, none⟩ = some (.slice A l.length c)) (hg : Kd.C k140 W A l.length l) (hc : l.length ≤ c)
    (hl : ∀ x ∈ l, IntentOk M x) (hll : l.length ≤ M) (hS : S0.length ≤ 50000000000000) (hB0 : Below W.heap.size W w) {X : Act → World → Prop} (u0 u2 u4 u5 u7 u8 u9 u10 u11 u12 u13 u14 u15 u16 u17 u18 u19 u20 u21 u22 u23 u24 u25 u26 u27 u28 u29 u30 u31 u32 u33 u34 u35 u36 u37 u38 u39 u40 u41 u42 u43 u44 u45 u46 u47 u48 u49 u50 u51 u52 u53 u54 u55 u56 u57 u58 u59 u60 u61 u62 u63 u64 u65 u66 u67 u68 u69 u70 u71 u72 u73 u74 u75 u76 u77 u78 u79 u80 u81 u82 u83 u84 u85 u86 u87 u88 u89 u90 u91 u92 u93 u94 u95 u96 u97 u98 u99 u100 u101 u102 u103 u104 u105 u106 u107 u108 u109 u110 u111 u112 u113 u114 u115 u116 u117 u118 u119 u120 u121 u122 u123 u124 u125 u126 u127 u128 u129 u130 u131 u132 u133 u134 u135 u136 u137 u138 u139 u140 u141 u142 u143 u144 u145 u146 u147 u148 u149 u150 u151 u152 u153 u154 u155 u156 u157 u158 u159 u160 u161 u162 u163 u164 u165 u166 u167 u168 u169 u170 u171 u172 u173 u174 u175 u176 u177 u178 u179 u180 u181 u182 u183 u184 u185 u186 u187 u188 u189 u190 u191 u192 u193 u194 u195 u196 u197 u198 u199 u200 u201 u202 u203 u204 : Value)
    (hexit : ∀ (v0 v2 v4 v5 v7 v8 v9 v10 v11 v12 v13 v14 v15 v16 v17 v18 v19 v20 v21 v22 v23 v24 v25 v26 v27 v28 v29 v30 v31 v32 v33 v34 v35 v36 v37 v38 v39 v40 v41 v42 v43 v44 v45 v46 v47 v48 v49 v50 v51 v52 v53 v54 v55 v56 v57 v58 v59 v60 v61 v62 v63 v64 v65 v66 v67 v68 v69 v70 v71 v72 v73 v74 v75 v76 v77 v78 v79 v80 v81 v82 v83 v84 v85 v86 v87 v88 v89 v90 v91 v92 v93 v94 v95 v96 v97 v98 v99 v100 v101 v102 v103 v104 v105 v106 v107 v108 v109 v110 v111 v112 v113 v114 v115 v116 v117 v118 v119 v120 v121 v122 v123 v124 v125 v126 v127 v128 v129 v130 v131 v132 v133 v134 v135 v136 v137 v138 v139 v140 v141 v142 v143 v144 v145 v146 v147 v148 v149 v150 v151 v152 v153 v154 v155 v156 v157 v158 v159 v160 v161 v162 v163 v164 v165 v166 v167 v168 v169 v170 v171 v172 v173 v174 v175 v176 v177 v178 v179 v180 v181 v182 v183 v184 v185 v186 v187 v188 v189 v190 v191 v192 v193 v194 v195 v196 v197 v198 v199 v200 v201 v202 v203 v204 : Value) w', Below W.heap.size W w' → X ⟨List.toArray (v0 :: .pointer (some ⟨g, 0, none⟩) :: v2 :: .string (B (S0 ++ l.flatMap intentLine)) :: v4 :: v5 :: .int .i64 (l.length : Int) :: v7 :: v8 :: v9 :: v10 :: v11 :: v12 :: v13 :: v14 :: v15 :: v16 :: v17 :: v18 :: v19 :: v20 :: v21 :: v22 :: v23 :: v24 :: v25 :: v26 :: v27 :: v28 :: v29 :: v30 :: v31 :: v32 :: v33 :: v34 :: v35 :: v36 :: v37 :: v38 :: v39 :: v40 :: v41 :: v42 :: v43 :: v44 :: v45 :: v46 :: v47 :: v48 :: v49 :: v50 :: v51 :: v52 :: v53 :: v54 :: v55 :: v56 :: v57 :: v58 :: v59 :: v60 :: v61 :: v62 :: v63 :: v64 :: v65 :: v66 :: v67 :: v68 :: v69 :: v70 :: v71 :: v72 :: v73 :: v74 :: v75 :: v76 :: v77 :: v78 :: v79 :: v80 :: v81 :: v82 :: v83 :: v84 :: v85 :: v86 :: v87 :: v88 :: v89 :: v90 :: v91 :: v92 :: v93 :: v94 :: v95 :: v96 :: v97 :: v98 :: v99 :: v100 :: v101 :: v102 :: v103 :: v104 :: v105 :: v106 :: v107 :: v108 :: v109 :: v110 :: v111 :: v112 :: v113 :: v114 :: v115 :: v116 :: v117 :: v118 :: v119 :: v120 :: v121 :: v122 :: v123 :: v124 :: v125 :: v126 :: v127 :: v128 :: v129 :: v130 :: v131 :: v132 :: v133 :: v134 :: v135 :: v136 :: v137 :: v138 :: v139 :: v140 :: v141 :: v142 :: v143 :: v144 :: v145 :: v146 :: v147 :: v148 :: v149 :: v150 :: v151 :: v152 :: v153 :: v154 :: v155 :: v156 :: v157 :: v158 :: v159 :: v160 :: v161 :: v162 :: v163 :: v164 :: v165 :: v166 :: v167 :: v168 :: v169 :: v170 :: v171 :: v172 :: v173 :: v174 :: v175 :: v176 :: v177 :: v178 :: v179 :: v180 :: v181 :: v182 :: v183 :: v184 :: v185 :: v186 :: v187 :: v188 :: v189 :: v190 :: v191 :: v192 :: v193 :: v194 :: v195 :: v196 :: v197 :: v198 :: v199 :: v200 :: v201 :: v202 :: v203 :: v204 :: []), []⟩ w') :
    Code.wp Tryd.prog rtLoop2 (LQ 2 X) ⟨List.toArray (u0 :: .pointer (some ⟨g, 0, none⟩) :: u2 :: .string (B S0) :: u4 :: u5 :: .int .i64 0 :: u7 :: u8 :: u9 :: u10 :: u11 :: u12 :: u13 :: u14 :: u15 :: u16 :: u17 :: u18 :: u19 :: u20 :: u21 :: u22 :: u23 :: u24 :: u25 :: u26 :: u27 :: u28 :: u29 :: u30 :: u31 :: u32 :: u33 :: u34 :: u35 :: u36 :: u37 :: u38 :: u39 :: u40 :: u41 :: u42 :: u43 :: u44 :: u45 :: u46 :: u47 :: u48 :: u49 :: u50 :: u51 :: u52 :: u53 :: u54 :: u55 :: u56 :: u57 :: u58 :: u59 :: u60 :: u61 :: u62 :: u63 :: u64 :: u65 :: u66 :: u67 :: u68 :: u69 :: u70 :: u71 :: u72 :: u73 :: u74 :: u75 :: u76 :: u77 :: u78 :: u79 :: u80 :: u81 :: u82 :: u83 :: u84 :: u85 :: u86 :: u87 :: u88 :: u89 :: u90 :: u91 :: u92 :: u93 :: u94 :: u95 :: u96 :: u97 :: u98 :: u99 :: u100 :: u101 :: u102 :: u103 :: u104 :: u105 :: u106 :: u107 :: u108 :: u109 :: u110 :: u111 :: u112 :: u113 :: u114 :: u115 :: u116 :: u117 :: u118 :: u119 :: u120 :: u121 :: u122 :: u123 :: u124 :: u125 :: u126 :: u127 :: u128 :: u129 :: u130 :: u131 :: u132 :: u133 :: u134 :: u135 :: u136 :: u137 :: u138 :: u139 :: u140 :: u141 :: u142 :: u143 :: u144 :: u145 :: u146 :: u147 :: u148 :: u149 :: u150 :: u151 :: u152 :: u153 :: u154 :: u155 :: u156 :: u157 :: u158 :: u159 :: u160 :: u161 :: u162 :: u163 :: u164 :: u165 :: u166 :: u167 :: u168 :: u169 :: u170 :: u171 :: u172 :: u173 :: u174 :: u175 :: u176 :: u177 :: u178 :: u179 :: u180 :: u181 :: u182 :: u183 :: u184 :: u185 :: u186 :: u187 :: u188 :: u189 :: u190 :: u191 :: u192 :: u193 :: u194 :: u195 :: u196 :: u197 :: u198 :: u199 :: u200 :: u201 :: u202 :: u203 :: u204 :: []), []⟩ w := by
  conv => arg 2; whnf
  go_loopw [3, 6] (fun v i wr => ∃ j : Nat, j ≤ l.length ∧ i = .int .i64 j ∧ v = .string (B (S0 ++ (l.take j).flatMap intentLine)) ∧ Below W.heap.size W wr) (fun _ i _ => l.length - (intOf i).toNat)
  case atStart => exact ⟨0, by omega, rfl, by simp, hB0⟩
  case round =>
    obtain ⟨j, hj, rfl, rfl, hBr⟩ := hrel
    have p0 := pw_cell_below hBr a0
    by_cases hlt : j < l.length
    · have hltz : (j : Int) < (l.length : Int) := by omega
      have hw64 : wrap64 ((j : Int) + 1) = ((j + 1 : Nat) : Int) := by unfold wrap64; omega
      obtain ⟨G, O, rfl, hcA⟩ := intent_plain hg (by omega)
      obtain ⟨b0, b1, b2, b3, b4⟩ := hcA j hlt
      have hok := hl _ (List.getElem_mem hlt)
      have htk := take_flat intentLine l j hlt
      have hpl : ((l.take j).flatMap intentLine).length ≤ 8000000000000 := intent_part hM hl hll j
      generalize l[j] = x at *
      replace b0 := pw_cell_below hBr b0
      replace b1 := pw_cell_below hBr b1
      replace b2 := pw_cell_below hBr b2
      replace b3 := pw_cell_below hBr b3
      replace b4 := pw_cell_below hBr b4
      have zx : (B (S0 ++ (l.take j).flatMap intentLine)).size ≤ 58000000000000 := by rw [B_size, List.length_append]; omega
      have Hsq := quote2_calls x.f0 (by have := hok.s; omega)
      have zsq : (B (quoteL x.f0.data.toList)).size ≤ 3145730 := by rw [B_size]; exact by have := quoteL_length x.f0.data.toList; have := toList_len x.f0; have := hok.s; omega
      have Hsi := text2_calls x.f3 hok.i
      have zsi : (B (idL x.f3)).size ≤ 43 := by rw [B_size]; exact idL_len hok.i
      have Hsv := value2_calls x.f1 x.f2 (by have := hok.v; omega)
      have zsv : (B (valueL x.f1 x.f2)).size ≤ 3145730 := by rw [B_size]; exact by have := valueL_len x.f1 x.f2; have := hok.v; omega
      have hnew : B (S0 ++ (l.take j).flatMap intentLine) ++ (⟨#[105, 110, 116, 101, 110, 116, 32]⟩ : ByteArray) ++ B (quoteL x.f0.data.toList) ++ (⟨#[32]⟩ : ByteArray) ++ B (idL x.f3) ++ (⟨#[32]⟩ : ByteArray) ++ B (valueL x.f1 x.f2) ++ (⟨#[10]⟩ : ByteArray) = B (S0 ++ (l.take (j + 1)).flatMap intentLine) := by
        rw [show (⟨#[105, 110, 116, 101, 110, 116, 32]⟩ : ByteArray) = B [105, 110, 116, 101, 110, 116, 32] from rfl, show (⟨#[32]⟩ : ByteArray) = B [32] from rfl, show (⟨#[10]⟩ : ByteArray) = B [10] from rfl]
        simp only [B_append]
        rw [htk]
        congr 1
        simp [intentLine, intentWords, wIntent, lineL_cons]
      generalize B (quoteL x.f0.data.toList) = sq at *
      generalize B (idL x.f3) = si at *
      generalize B (valueL x.f1 x.f2) = sv at *
      generalize B (S0 ++ (l.take j).flatMap intentLine) = sx at *
      have r1 := lt_false (n := sx.size + 7) (by omega)
      have r2 := lt_false (n := sx.size + 7 + sq.size) (by omega)
      have r3 := lt_false (n := sx.size + 7 + sq.size + 1) (by omega)
      have r4 := lt_false (n := sx.size + 7 + sq.size + 1 + si.size) (by omega)
      have r5 := lt_false (n := sx.size + 7 + sq.size + 1 + si.size + 1) (by omega)
      have r6 := lt_false (n := sx.size + 7 + sq.size + 1 + si.size + 1 + sv.size) (by omega)
      have r7 := lt_false (n := sx.size + 7 + sq.size + 1 + si.size + 1 + sv.size + 1) (by omega)
      replace hnew := Go.Lib.hid hnew
      replace zx := Go.Lib.hid zx
      replace zsq := Go.Lib.hid zsq
      replace zsi := Go.Lib.hid zsi
      replace zsv := Go.Lib.hid zsv
      clear htk hcA hpl
      have hzr := hBr.size
      go_upto_region 11 with fail
      have hB1 : Below wr.heap.size wr (wr.alloc (.cells #[.string x.f0, .string x.f1, .bool x.f2, .int .i64 x.f3.f0, .int .i64 x.f3.f1] 140)) := below_alloc (Below.refl _ _) _
      have hx := heap_alloc_new wr (.cells #[.string x.f0, .string x.f1, .bool x.f2, .int .i64 x.f3.f0, .int .i64 x.f3.f1] 140)
      obtain ⟨gx, hgx⟩ : ∃ y, y = wr.heap.size := ⟨_, rfl⟩
      rw [← hgx] at hx ⊢
      generalize wr.alloc (.cells #[.string x.f0, .string x.f1, .bool x.f2, .int .i64 x.f3.f0, .int .i64 x.f3.f1] 140) = V at *
      clear hgx b0 b1 b2 b3 b4
      have e0 := blk_cell hx 0
      have e1 := blk_cell hx 1
      have e2 := blk_cell hx 2
      have e3 := blk_cell hx 3
      have e4 := blk_cell hx 4
      simp only [List.getElem?_toArray, List.getElem?_cons_zero, List.getElem?_cons_succ] at e0 e1 e2 e3 e4
      clear hx
      have hv1 : Below V.heap.size V V.drew := below_drew (Below.refl _ _)
      go_region_held_law (fun w' => w'.cell? ⟨gx, 0, none⟩ = some (.string x.f0) ∧ w'.cell? ⟨gx, 1, none⟩ = some (.string x.f1) ∧ w'.cell? ⟨gx, 2, none⟩ = some (.bool x.f2) ∧ w'.cell? ⟨gx, 3, none⟩ = some (.int .i64 x.f3.f0) ∧ w'.cell? ⟨gx, 4, none⟩ = some (.int .i64 x.f3.f1))
        (first | go_keep | exact ⟨pw_cell_below hv4 e0, pw_cell_below hv4 e1, pw_cell_below hv4 e2, pw_cell_below hv4 e3, pw_cell_below hv4 e4⟩ | exact ⟨pw_cell_below hv3 e0, pw_cell_below hv3 e1, pw_cell_below hv3 e2, pw_cell_below hv3 e3, pw_cell_below hv3 e4⟩ | exact ⟨pw_cell_below hv2 e0, pw_cell_below hv2 e1, pw_cell_below hv2 e2, pw_cell_below hv2 e3, pw_cell_below hv2 e4⟩ | exact ⟨pw_cell_below hv1 e0, pw_cell_below hv1 e1, pw_cell_below hv1 e2, pw_cell_below hv1 e3, pw_cell_below hv1 e4⟩)
        ((first
          | (go_at_call 86; refine (Hsv u_3).mono ?_; rintro e u_4 ⟨rfl, hu4⟩; have hv4 := hv3.trans (hu4.mono hv3.size))
          | (go_at_call 85; refine (Hsi u_2).mono ?_; rintro e u_3 ⟨rfl, hu3⟩; have hv3 := hv2.trans (hu3.mono hv2.size))
          | (go_at_call 84; refine (Hsq _).mono ?_; rintro e u_2 ⟨rfl, hu2⟩; have hv2 := hv1.trans (hu2.mono hv1.size))))
      have hBe := hBr.trans ((hB1.trans (hv4.mono hB1.size)).mono hzr)
      clear r1 r2 r3 r4 r5 r6 r7
      go_wp2_with fail
      go_roundw
      case rel => exact ⟨j + 1, hlt, by first | rfl | rw [hw64], by rw [hnew.out], hBe⟩
      case measure => simp only [intOf]; first | omega | (rw [hw64]; omega)
    · have hjl : j = l.length := by omega
      subst hjl
      rw [List.take_length] at *
      have hltf : ¬ ((l.length : Int) < (l.length : Int)) := by omega
      go_wp2_with fail
      exact ⟨rfl, hexit _ _ _ _ _ _ _ _ _ _ _ _ _ _ _ _ _ _ _ _ _ _ _ _ _ _ _ _ _ _ _ _ _ _ _ _ _ _ _ _ _ _ _ _ _ _ _ _ _ _ _ _ _ _ _ _ _ _ _ _ _ _ _ _ _ _ _ _ _ _ _ _ _ _ _ _ _ _ _ _ _ _ _ _ _ _ _ _ _ _ _ _ _ _ _ _ _ _ _ _ _ _ _ _ _ _ _ _ _ _ _ _ _ _ _ _ _ _ _ _ _ _ _ _ _ _ _ _ _ _ _ _ _ _ _ _ _ _ _ _ _ _ _ _ _ _ _ _ _ _ _ _ _ _ _ _ _ _ _ _ _ _ _ _ _ _ _ _ _ _ _ _ _ _ _ _ _ _ _ _ _ _ _ _ _ _ _ _ _ _ _ _ _ _ _ _ _ _ _ _ _ _ _ hBr⟩
end Go.Proofs.YtggogenhakdhiaaDoor.PSnapTexts
end
section
set_option linter.unusedVariables false
set_option linter.unusedSimpArgs false
attribute [local go_sem ↓] Go.wp_at_zero Go.wp_at_succ
namespace Go.Proofs.YtggogenhakdhiaaDoor.PSnapTexts
open Go.RowKit Go.Proofs.YtggogenhakdhiaaDoorW.PrintWords Go.Proofs.YtggogenhakdhiaaDoorW.PrintLast Go.Proofs.YtggogenhakdhiaaDoorW.PrintMore
open Classical

set_option maxHeartbeats 8000000 in
set_option maxRecDepth 20000 in
theorem rt_loop3 {M : Nat} (hM : M ≤ 1048576) (W w : World) (g : Nat) (A : Option Addr) (c : Nat) (l : List S142) (S0 : List UInt8) (a0 : W.cell? ⟨g, 5, none⟩ = some (.slice A l.length c)) (hg : Kd.C k142 W A l.length l) (hc : l.length ≤ c)
    (hl : ∀ x ∈ l, TxOk x) (hll : l.length ≤ M) (hS : S0.length ≤ 50000000000000) (hB0 : Below W.heap.size W w) {X : Act → World → Prop} (u0 u2 u4 u5 u6 u7 u9 u10 u11 u12 u13 u14 u15 u16 u17 u18 u19 u20 u21 u22 u23 u24 u25 u26 u27 u28 u29 u30 u31 u32 u33 u34 u35 u36 u37 u38 u39 u40 u41 u42 u43 u44 u45 u46 u47 u48 u49 u50 u51 u52 u53 u54 u55 u56 u57 u58 u59 u60 u61 u62 u63 u64 u65 u66 u67 u68 u69 u70 u71 u72 u73 u74 u75 u76 u77 u78 u79 u80 u81 u82 u83 u84 u85 u86 u87 u88 u89 u90 u91 u92 u93 u94 u95 u96 u97 u98 u99 u100 u101 u102 u103 u104 u105 u106 u107 u108 u109 u110 u111 u112 u113 u114 u115 u116 u117 u118 u119 u120 u121 u122 u123 u124 u125 u126 u127 u128 u129 u130 u131 u132 u133 u134 u135 u136 u137 u138 u139 u140 u141 u142 u143 u144 u145 u146 u147 u148 u149 u150 u151 u152 u153 u154 u155 u156 u157 u158 u159 u160 u161 u162 u163 u164 u165 u166 u167 u168 u169 u170 u171 u172 u173 u174 u175 u176 u177 u178 u179 u180 u181 u182 u183 u184 u185 u186 u187 u188 u189 u190 u191 u192 u193 u194 u195 u196 u197 u198 u199 u200 u201 u202 u203 u204 : Value)
    (hexit : ∀ (v0 v2 v4 v5 v6 v7 v9 v10 v11 v12 v13 v14 v15 v16 v17 v18 v19 v20 v21 v22 v23 v24 v25 v26 v27 v28 v29 v30 v31 v32 v33 v34 v35 v36 v37 v38 v39 v40 v41 v42 v43 v44 v45 v46 v47 v48 v49 v50 v51 v52 v53 v54 v55 v56 v57 v58 v59 v60 v61 v62 v63 v64 v65 v66 v67 v68 v69 v70 v71 v72 v73 v74 v75 v76 v77 v78 v79 v80 v81 v82 v83 v84 v85 v86 v87 v88 v89 v90 v91 v92 v93 v94 v95 v96 v97 v98 v99 v100 v101 v102 v103 v104 v105 v106 v107 v108 v109 v110 v111 v112 v113 v114 v115 v116 v117 v118 v119 v120 v121 v122 v123 v124 v125 v126 v127 v128 v129 v130 v131 v132 v133 v134 v135 v136 v137 v138 v139 v140 v141 v142 v143 v144 v145 v146 v147 v148 v149 v150 v151 v152 v153 v154 v155 v156 v157 v158 v159 v160 v161 v162 v163 v164 v165 v166 v167 v168 v169 v170 v171 v172 v173 v174 v175 v176 v177 v178 v179 v180 v181 v182 v183 v184 v185 v186 v187 v188 v189 v190 v191 v192 v193 v194 v195 v196 v197 v198 v199 v200 v201 v202 v203 v204 : Value) w', Below W.heap.size W w' → X ⟨List.toArray (v0 :: .pointer (some ⟨g, 0, none⟩) :: v2 :: .string (B (S0 ++ l.flatMap txLine)) :: v4 :: v5 :: v6 :: v7 :: .int .i64 (l.length : Int) :: v9 :: v10 :: v11 :: v12 :: v13 :: v14 :: v15 :: v16 :: v17 :: v18 :: v19 :: v20 :: v21 :: v22 :: v23 :: v24 :: v25 :: v26 :: v27 :: v28 :: v29 :: v30 :: v31 :: v32 :: v33 :: v34 :: v35 :: v36 :: v37 :: v38 :: v39 :: v40 :: v41 :: v42 :: v43 :: v44 :: v45 :: v46 :: v47 :: v48 :: v49 :: v50 :: v51 :: v52 :: v53 :: v54 :: v55 :: v56 :: v57 :: v58 :: v59 :: v60 :: v61 :: v62 :: v63 :: v64 :: v65 :: v66 :: v67 :: v68 :: v69 :: v70 :: v71 :: v72 :: v73 :: v74 :: v75 :: v76 :: v77 :: v78 :: v79 :: v80 :: v81 :: v82 :: v83 :: v84 :: v85 :: v86 :: v87 :: v88 :: v89 :: v90 :: v91 :: v92 :: v93 :: v94 :: v95 :: v96 :: v97 :: v98 :: v99 :: v100 :: v101 :: v102 :: v103 :: v104 :: v105 :: v106 :: v107 :: v108 :: v109 :: v110 :: v111 :: v112 :: v113 :: v114 :: v115 :: v116 :: v117 :: v118 :: v119 :: v120 :: v121 :: v122 :: v123 :: v124 :: v125 :: v126 :: v127 :: v128 :: v129 :: v130 :: v131 :: v132 :: v133 :: v134 :: v135 :: v136 :: v137 :: v138 :: v139 :: v140 :: v141 :: v142 :: v143 :: v144 :: v145 :: v146 :: v147 :: v148 :: v149 :: v150 :: v151 :: v152 :: v153 :: v154 :: v155 :: v156 :: v157 :: v158 :: v159 :: v160 :: v161 :: v162 :: v163 :: v164 :: v165 :: v166 :: v167 :: v168 :: v169 :: v170 :: v171 :: v172 :: v173 :: v174 :: v175 :: v176 :: v177 :: v178 :: v179 :: v180 :: v181 :: v182 :: v183 :: v184 :: v185 :: v186 :: v187 :: v188 :: v189 :: v190 :: v191 :: v192 :: v193 :: v194 :: v195 :: v196 :: v197 :: v198 :: v199 :: v200 :: v201 :: v202 :: v203 :: v204 :: []), []⟩ w') :
    Code.wp Tryd.prog rtLoop3 (LQ 4 X) ⟨List.toArray (u0 :: .pointer (some ⟨g, 0, none⟩) :: u2 :: .string (B S0) :: u4 :: u5 :: u6 :: u7 :: .int .i64 0 :: u9 :: u10 :: u11 :: u12 :: u13 :: u14 :: u15 :: u16 :: u17 :: u18 :: u19 :: u20 :: u21 :: u22 :: u23 :: u24 :: u25 :: u26 :: u27 :: u28 :: u29 :: u30 :: u31 :: u32 :: u33 :: u34 :: u35 :: u36 :: u37 :: u38 :: u39 :: u40 :: u41 :: u42 :: u43 :: u44 :: u45 :: u46 :: u47 :: u48 :: u49 :: u50 :: u51 :: u52 :: u53 :: u54 :: u55 :: u56 :: u57 :: u58 :: u59 :: u60 :: u61 :: u62 :: u63 :: u64 :: u65 :: u66 :: u67 :: u68 :: u69 :: u70 :: u71 :: u72 :: u73 :: u74 :: u75 :: u76 :: u77 :: u78 :: u79 :: u80 :: u81 :: u82 :: u83 :: u84 :: u85 :: u86 :: u87 :: u88 :: u89 :: u90 :: u91 :: u92 :: u93 :: u94 :: u95 :: u96 :: u97 :: u98 :: u99 :: u100 :: u101 :: u102 :: u103 :: u104 :: u105 :: u106 :: u107 :: u108 :: u109 :: u110 :: u111 :: u112 :: u113 :: u114 :: u115 :: u116 :: u117 :: u118 :: u119 :: u120 :: u121 :: u122 :: u123 :: u124 :: u125 :: u126 :: u127 :: u128 :: u129 :: u130 :: u131 :: u132 :: u133 :: u134 :: u135 :: u136 :: u137 :: u138 :: u139 :: u140 :: u141 :: u142 :: u143 :: u144 :: u145 :: u146 :: u147 :: u148 :: u149 :: u150 :: u151 :: u152 :: u153 :: u154 :: u155 :: u156 :: u157 :: u158 :: u159 :: u160 :: u161 :: u162 :: u163 :: u164 :: u165 :: u166 :: u167 :: u168 :: u169 :: u170 :: u171 :: u172 :: u173 :: u174 :: u175 :: u176 :: u177 :: u178 :: u179 :: u180 :: u181 :: u182 :: u183 :: u184 :: u185 :: u186 :: u187 :: u188 :: u189 :: u190 :: u191 :: u192 :: u193 :: u194 :: u195 :: u196 :: u197 :: u198 :: u199 :: u200 :: u201 :: u202 :: u203 :: u204 :: []), []⟩ w := by
  conv => arg 2; whnf
  go_loopw [3, 8] (fun v i wr => ∃ j : Nat, j ≤ l.length ∧ i = .int .i64 j ∧ v = .string (B (S0 ++ (l.take j).flatMap txLine)) ∧ Below W.heap.size W wr) (fun _ i _ => l.length - (intOf i).toNat)
  case atStart => exact ⟨0, by omega, rfl, by simp, hB0⟩
  case round =>
    obtain ⟨j, hj, rfl, rfl, hBr⟩ := hrel
    have p0 := pw_cell_below hBr a0
    by_cases hlt : j < l.length
    · have hltz : (j : Int) < (l.length : Int) := by omega
      have hw64 : wrap64 ((j : Int) + 1) = ((j + 1 : Nat) : Int) := by unfold wrap64; omega
      obtain ⟨G, O, rfl, hcA⟩ := tx_plain hg (by omega)
      obtain ⟨b0, b1, b2, b3, b4, b5⟩ := hcA j hlt
      have hok := hl _ (List.getElem_mem hlt)
      have htk := take_flat txLine l j hlt
      have hpl : ((l.take j).flatMap txLine).length ≤ 1000000000 := tx_part hM hl hll j
      generalize l[j] = x at *
      replace b0 := pw_cell_below hBr b0
      replace b1 := pw_cell_below hBr b1
      replace b2 := pw_cell_below hBr b2
      replace b3 := pw_cell_below hBr b3
      replace b4 := pw_cell_below hBr b4
      replace b5 := pw_cell_below hBr b5
      have zx : (B (S0 ++ (l.take j).flatMap txLine)).size ≤ 50001000000000 := by rw [B_size, List.length_append]; omega
      have Hsi := text2_calls x.f0 hok.i
      have zsi : (B (idL x.f0)).size ≤ 43 := by rw [B_size]; exact idL_len hok.i
      have Hsa := whole_calls x.f1 hok.a
      have zsa : (B (Lib.itoa x.f1)).size ≤ 21 := by rw [B_size]; exact itoa_len hok.a
      have Hsb := whole_calls x.f2 hok.b
      have zsb : (B (Lib.itoa x.f2)).size ≤ 21 := by rw [B_size]; exact itoa_len hok.b
      have Hsn := whole_calls x.f4 hok.n
      have zsn : (B (Lib.itoa x.f4)).size ≤ 21 := by rw [B_size]; exact itoa_len hok.n
      have hwd : x.f3 = true → B (S0 ++ (l.take j).flatMap txLine) ++ (⟨#[116, 120, 32]⟩ : ByteArray) ++ B (idL x.f0) ++ (⟨#[32]⟩ : ByteArray) ++ B (Lib.itoa x.f1) ++ (⟨#[32]⟩ : ByteArray) ++ B (Lib.itoa x.f2) ++ (⟨#[32]⟩ : ByteArray) ++ B (Lib.itoa x.f4) ++ (⟨#[32, 119, 111, 117, 110, 100, 101, 100]⟩ : ByteArray) ++ (⟨#[10]⟩ : ByteArray) = B (S0 ++ (l.take (j + 1)).flatMap txLine) := by
        intro hcond
        rw [show (⟨#[116, 120, 32]⟩ : ByteArray) = B [116, 120, 32] from rfl, show (⟨#[32]⟩ : ByteArray) = B [32] from rfl, show (⟨#[32, 119, 111, 117, 110, 100, 101, 100]⟩ : ByteArray) = B [32, 119, 111, 117, 110, 100, 101, 100] from rfl, show (⟨#[10]⟩ : ByteArray) = B [10] from rfl]
        simp only [B_append]
        rw [htk]
        congr 1
        simp [txLine, txWords, wTx, wWounded, lineL_cons, hcond]
      have hnw : x.f3 = false → B (S0 ++ (l.take j).flatMap txLine) ++ (⟨#[116, 120, 32]⟩ : ByteArray) ++ B (idL x.f0) ++ (⟨#[32]⟩ : ByteArray) ++ B (Lib.itoa x.f1) ++ (⟨#[32]⟩ : ByteArray) ++ B (Lib.itoa x.f2) ++ (⟨#[32]⟩ : ByteArray) ++ B (Lib.itoa x.f4) ++ (⟨#[10]⟩ : ByteArray) = B (S0 ++ (l.take (j + 1)).flatMap txLine) := by
        intro hcond
        rw [show (⟨#[116, 120, 32]⟩ : ByteArray) = B [116, 120, 32] from rfl, show (⟨#[32]⟩ : ByteArray) = B [32] from rfl, show (⟨#[10]⟩ : ByteArray) = B [10] from rfl]
        simp only [B_append]
        rw [htk]
        congr 1
        simp [txLine, txWords, wTx, wWounded, lineL_cons, hcond]
      generalize B (idL x.f0) = si at *
      generalize B (Lib.itoa x.f1) = sa at *
      generalize B (Lib.itoa x.f2) = sb at *
      generalize B (Lib.itoa x.f4) = sn at *
      generalize B (S0 ++ (l.take j).flatMap txLine) = sx at *
      have r1 := lt_false (n := sx.size + 3) (by omega)
      have r2 := lt_false (n := sx.size + 3 + si.size) (by omega)
      have r3 := lt_false (n := sx.size + 3 + si.size + 1) (by omega)
      have r4 := lt_false (n := sx.size + 3 + si.size + 1 + sa.size) (by omega)
      have r5 := lt_false (n := sx.size + 3 + si.size + 1 + sa.size + 1) (by omega)
      have r6 := lt_false (n := sx.size + 3 + si.size + 1 + sa.size + 1 + sb.size) (by omega)
      have r7 := lt_false (n := sx.size + 3 + si.size + 1 + sa.size + 1 + sb.size + 1) (by omega)
      have r8 := lt_false (n := sx.size + 3 + si.size + 1 + sa.size + 1 + sb.size + 1 + sn.size) (by omega)
      have twd9 := lt_false (n := sx.size + 3 + si.size + 1 + sa.size + 1 + sb.size + 1 + sn.size + 8) (by omega)
      have twd10 := lt_false (n := sx.size + 3 + si.size + 1 + sa.size + 1 + sb.size + 1 + sn.size + 8 + 1) (by omega)
      replace hwd := Go.Lib.hid hwd
      have tnw9 := lt_false (n := sx.size + 3 + si.size + 1 + sa.size + 1 + sb.size + 1 + sn.size + 1) (by omega)
      replace hnw := Go.Lib.hid hnw
      replace zx := Go.Lib.hid zx
      replace zsi := Go.Lib.hid zsi
      replace zsa := Go.Lib.hid zsa
      replace zsb := Go.Lib.hid zsb
      replace zsn := Go.Lib.hid zsn
      clear htk hcA hpl
      have hzr := hBr.size
      go_upto_region 16 with fail
      have hB1 : Below wr.heap.size wr (wr.alloc (.cells #[.int .i64 x.f0.f0, .int .i64 x.f0.f1, .int .i64 x.f1, .int .i64 x.f2, .bool x.f3, .int .i64 x.f4] 142)) := below_alloc (Below.refl _ _) _
      have hx := heap_alloc_new wr (.cells #[.int .i64 x.f0.f0, .int .i64 x.f0.f1, .int .i64 x.f1, .int .i64 x.f2, .bool x.f3, .int .i64 x.f4] 142)
      obtain ⟨gx, hgx⟩ : ∃ y, y = wr.heap.size := ⟨_, rfl⟩
      rw [← hgx] at hx ⊢
      generalize wr.alloc (.cells #[.int .i64 x.f0.f0, .int .i64 x.f0.f1, .int .i64 x.f1, .int .i64 x.f2, .bool x.f3, .int .i64 x.f4] 142) = V at *
      clear hgx b0 b1 b2 b3 b4 b5
      have e0 := blk_cell hx 0
      have e1 := blk_cell hx 1
      have e2 := blk_cell hx 2
      have e3 := blk_cell hx 3
      have e4 := blk_cell hx 4
      have e5 := blk_cell hx 5
      simp only [List.getElem?_toArray, List.getElem?_cons_zero, List.getElem?_cons_succ] at e0 e1 e2 e3 e4 e5
      clear hx
      have hv1 : Below V.heap.size V V.drew := below_drew (Below.refl _ _)
      go_region_held_law (fun w' => w'.cell? ⟨gx, 0, none⟩ = some (.int .i64 x.f0.f0) ∧ w'.cell? ⟨gx, 1, none⟩ = some (.int .i64 x.f0.f1) ∧ w'.cell? ⟨gx, 2, none⟩ = some (.int .i64 x.f1) ∧ w'.cell? ⟨gx, 3, none⟩ = some (.int .i64 x.f2) ∧ w'.cell? ⟨gx, 4, none⟩ = some (.bool x.f3) ∧ w'.cell? ⟨gx, 5, none⟩ = some (.int .i64 x.f4))
        (first | go_keep | exact ⟨pw_cell_below hv5 e0, pw_cell_below hv5 e1, pw_cell_below hv5 e2, pw_cell_below hv5 e3, pw_cell_below hv5 e4, pw_cell_below hv5 e5⟩ | exact ⟨pw_cell_below hv4 e0, pw_cell_below hv4 e1, pw_cell_below hv4 e2, pw_cell_below hv4 e3, pw_cell_below hv4 e4, pw_cell_below hv4 e5⟩ | exact ⟨pw_cell_below hv3 e0, pw_cell_below hv3 e1, pw_cell_below hv3 e2, pw_cell_below hv3 e3, pw_cell_below hv3 e4, pw_cell_below hv3 e5⟩ | exact ⟨pw_cell_below hv2 e0, pw_cell_below hv2 e1, pw_cell_below hv2 e2, pw_cell_below hv2 e3, pw_cell_below hv2 e4, pw_cell_below hv2 e5⟩ | exact ⟨pw_cell_below hv1 e0, pw_cell_below hv1 e1, pw_cell_below hv1 e2, pw_cell_below hv1 e3, pw_cell_below hv1 e4, pw_cell_below hv1 e5⟩)
        ((first
          | (go_at_call 82; refine (Hsn u_4).mono ?_; rintro e u_5 ⟨rfl, hu5⟩; have hv5 := hv4.trans (hu5.mono hv4.size))
          | (go_at_call 82; refine (Hsb u_3).mono ?_; rintro e u_4 ⟨rfl, hu4⟩; have hv4 := hv3.trans (hu4.mono hv3.size))
          | (go_at_call 82; refine (Hsa u_2).mono ?_; rintro e u_3 ⟨rfl, hu3⟩; have hv3 := hv2.trans (hu3.mono hv2.size))
          | (go_at_call 85; refine (Hsi _).mono ?_; rintro e u_2 ⟨rfl, hu2⟩; have hv2 := hv1.trans (hu2.mono hv1.size))))
      have hBe := hBr.trans ((hB1.trans (hv5.mono hB1.size)).mono hzr)
      have y4 := pw_cell_below hv5 e4
      cases hwc : x.f3
      · rw [hwc] at y4
        replace hnw := hnw.out hwc
        replace hnw := Go.Lib.hid hnw
        go_wp2_with fail
        go_roundw
        case rel => exact ⟨j + 1, hlt, by first | rfl | rw [hw64], by rw [hnw.out], hBe⟩
        case measure => simp only [intOf]; first | omega | (rw [hw64]; omega)
      · rw [hwc] at y4
        replace hwd := hwd.out hwc
        replace hwd := Go.Lib.hid hwd
        go_wp2_with fail
        go_roundw
        case rel => exact ⟨j + 1, hlt, by first | rfl | rw [hw64], by rw [hwd.out], hBe⟩
        case measure => simp only [intOf]; first | omega | (rw [hw64]; omega)
    · have hjl : j = l.length := by omega
      subst hjl
      rw [List.take_length] at *
      have hltf : ¬ ((l.length : Int) < (l.length : Int)) := by omega
      go_wp2_with fail
      exact ⟨rfl, hexit _ _ _ _ _ _ _ _ _ _ _ _ _ _ _ _ _ _ _ _ _ _ _ _ _ _ _ _ _ _ _ _ _ _ _ _ _ _ _ _ _ _ _ _ _ _ _ _ _ _ _ _ _ _ _ _ _ _ _ _ _ _ _ _ _ _ _ _ _ _ _ _ _ _ _ _ _ _ _ _ _ _ _ _ _ _ _ _ _ _ _ _ _ _ _ _ _ _ _ _ _ _ _ _ _ _ _ _ _ _ _ _ _ _ _ _ _ _ _ _ _ _ _ _ _ _ _ _ _ _ _ _ _ _ _ _ _ _ _ _ _ _ _ _ _ _ _ _ _ _ _ _ _ _ _ _ _ _ _ _ _ _ _ _ _ _ _ _ _ _ _ _ _ _ _ _ _ _ _ _ _ _ _ _ _ _ _ _ _ _ _ _ _ _ _ _ _ _ _ _ _ _ _ hBr⟩
end Go.Proofs.YtggogenhakdhiaaDoor.PSnapTexts
end
