/- The program's Text, walked: it gives the state's lines. (ahead of it: The loop over the transactions in the program's Text, walked. The loop over a record's groups in the program's Text, walked. The loop over the records in the program's Text, walked.) -/
import Derived.Test.YtggogenhakdhiaaDoorPsP0
import Derived.Deep.RegionHeldLaw
import Derived.Deep.DrawnRows
import Derived.Test.YtggogenhakdhiaaDoorPsP1
section
set_option linter.unusedVariables false
set_option linter.unusedSimpArgs false
attribute [local go_sem ↓] Go.wp_at_zero Go.wp_at_succ
namespace Go.Proofs.YtggogenhakdhiaaDoor.PSnapTexts
open Go.RowKit Go.Proofs.YtggogenhakdhiaaDoorW.PrintWords Go.Proofs.YtggogenhakdhiaaDoorW.PrintLast Go.Proofs.YtggogenhakdhiaaDoorW.PrintMore
open Classical

set_option maxHeartbeats 8000000 in
set_option maxRecDepth 20000 in
theorem pt_loop5 {M : Nat} (hM : M ≤ 1048576) (W w : World) (b : Nat) (hbW : b = W.heap.size) (hpow : Pow W) (A : Option Addr) (c : Nat) (l : List S142) (S0 : List UInt8) (hg : Kd.C k142 W A l.length l) (hc : l.length ≤ c)
    (hl : ∀ x ∈ l, TxOk x) (hll : l.length ≤ M) (hS : S0.length ≤ 50000000000000) (hB0 : Below b W w) (hD0 : Bld b S0 w) {X : Act → World → Prop} (u0 u1 u2 u7 u8 u9 u10 u11 u12 u13 u14 u15 u16 u17 u18 u19 u20 u21 u22 u23 u24 u25 u26 u27 u28 u29 u30 u31 u32 u33 u34 u35 u36 u37 u38 u39 u40 u41 u42 u43 u44 u45 u46 u47 u48 u49 u50 u51 u52 u53 u54 u55 u56 u57 u58 u59 u60 u61 u62 u63 u64 u65 u66 u67 u68 u69 u70 u71 u72 u73 u74 u75 u76 u77 u78 u79 u80 u81 u82 u83 u84 u85 u86 u87 u88 u89 u90 u91 u92 u93 u94 u95 u96 u97 u98 u99 u100 u101 u102 u103 u104 u105 u106 u107 u108 u109 u110 u111 u112 u113 u114 u115 u116 u117 u118 u119 u120 u121 u122 u123 u124 u128 u129 u130 u131 u132 u133 u134 u135 u136 u137 u138 u139 u140 u141 u142 u143 u144 u145 u146 u147 u148 u149 u150 u151 u152 u153 u154 u155 u156 u157 u158 u159 u160 u161 u162 u163 u164 u165 u166 u167 u168 u169 u170 u171 u172 u173 u174 u175 u176 u177 u178 u179 u180 u181 u182 u183 u184 u185 u186 u187 u188 u189 u190 u191 u192 u193 u194 u195 u196 u197 u198 u199 u200 u201 u202 u203 u204 : Value)
    (hexit : ∀ (v16 v17 v128 v129 v130 v131 v132 v133 v134 v135 v136 v137 v138 v139 v140 v141 v142 v143 v144 v145 v146 v147 v148 v149 v150 v151 v152 v153 v154 v155 : Value) w', Below b W w' → Bld b (S0 ++ l.flatMap txLine) w' → X ⟨List.toArray (u0 :: u1 :: u2 :: .pointer (some ⟨b, 0, none⟩) :: .func (.func 72) #[] #[.pointer (some ⟨b, 0, none⟩)] :: .func (.func 76) #[] #[] :: .func (.func 77) #[] #[] :: u7 :: u8 :: u9 :: u10 :: u11 :: u12 :: u13 :: u14 :: u15 :: v16 :: v17 :: u18 :: u19 :: u20 :: u21 :: u22 :: u23 :: u24 :: u25 :: u26 :: u27 :: u28 :: u29 :: u30 :: u31 :: u32 :: u33 :: u34 :: u35 :: u36 :: u37 :: u38 :: u39 :: u40 :: u41 :: u42 :: u43 :: u44 :: u45 :: u46 :: u47 :: u48 :: u49 :: u50 :: u51 :: u52 :: u53 :: u54 :: u55 :: u56 :: u57 :: u58 :: u59 :: u60 :: u61 :: u62 :: u63 :: u64 :: u65 :: u66 :: u67 :: u68 :: u69 :: u70 :: u71 :: u72 :: u73 :: u74 :: u75 :: u76 :: u77 :: u78 :: u79 :: u80 :: u81 :: u82 :: u83 :: u84 :: u85 :: u86 :: u87 :: u88 :: u89 :: u90 :: u91 :: u92 :: u93 :: u94 :: u95 :: u96 :: u97 :: u98 :: u99 :: u100 :: u101 :: u102 :: u103 :: u104 :: u105 :: u106 :: u107 :: u108 :: u109 :: u110 :: u111 :: u112 :: u113 :: u114 :: u115 :: u116 :: u117 :: u118 :: u119 :: u120 :: u121 :: u122 :: u123 :: u124 :: .slice A l.length c :: .int .i64 (l.length : Int) :: .int .i64 (l.length : Int) :: v128 :: v129 :: v130 :: v131 :: v132 :: v133 :: v134 :: v135 :: v136 :: v137 :: v138 :: v139 :: v140 :: v141 :: v142 :: v143 :: v144 :: v145 :: v146 :: v147 :: v148 :: v149 :: v150 :: v151 :: v152 :: v153 :: v154 :: v155 :: u156 :: u157 :: u158 :: u159 :: u160 :: u161 :: u162 :: u163 :: u164 :: u165 :: u166 :: u167 :: u168 :: u169 :: u170 :: u171 :: u172 :: u173 :: u174 :: u175 :: u176 :: u177 :: u178 :: u179 :: u180 :: u181 :: u182 :: u183 :: u184 :: u185 :: u186 :: u187 :: u188 :: u189 :: u190 :: u191 :: u192 :: u193 :: u194 :: u195 :: u196 :: u197 :: u198 :: u199 :: u200 :: u201 :: u202 :: u203 :: u204 :: []), []⟩ w') :
    Code.wp Tryd.prog ptLoop5 (LQ 8 X) ⟨List.toArray (u0 :: u1 :: u2 :: .pointer (some ⟨b, 0, none⟩) :: .func (.func 72) #[] #[.pointer (some ⟨b, 0, none⟩)] :: .func (.func 76) #[] #[] :: .func (.func 77) #[] #[] :: u7 :: u8 :: u9 :: u10 :: u11 :: u12 :: u13 :: u14 :: u15 :: u16 :: u17 :: u18 :: u19 :: u20 :: u21 :: u22 :: u23 :: u24 :: u25 :: u26 :: u27 :: u28 :: u29 :: u30 :: u31 :: u32 :: u33 :: u34 :: u35 :: u36 :: u37 :: u38 :: u39 :: u40 :: u41 :: u42 :: u43 :: u44 :: u45 :: u46 :: u47 :: u48 :: u49 :: u50 :: u51 :: u52 :: u53 :: u54 :: u55 :: u56 :: u57 :: u58 :: u59 :: u60 :: u61 :: u62 :: u63 :: u64 :: u65 :: u66 :: u67 :: u68 :: u69 :: u70 :: u71 :: u72 :: u73 :: u74 :: u75 :: u76 :: u77 :: u78 :: u79 :: u80 :: u81 :: u82 :: u83 :: u84 :: u85 :: u86 :: u87 :: u88 :: u89 :: u90 :: u91 :: u92 :: u93 :: u94 :: u95 :: u96 :: u97 :: u98 :: u99 :: u100 :: u101 :: u102 :: u103 :: u104 :: u105 :: u106 :: u107 :: u108 :: u109 :: u110 :: u111 :: u112 :: u113 :: u114 :: u115 :: u116 :: u117 :: u118 :: u119 :: u120 :: u121 :: u122 :: u123 :: u124 :: .slice A l.length c :: .int .i64 (l.length : Int) :: .int .i64 0 :: u128 :: u129 :: u130 :: u131 :: u132 :: u133 :: u134 :: u135 :: u136 :: u137 :: u138 :: u139 :: u140 :: u141 :: u142 :: u143 :: u144 :: u145 :: u146 :: u147 :: u148 :: u149 :: u150 :: u151 :: u152 :: u153 :: u154 :: u155 :: u156 :: u157 :: u158 :: u159 :: u160 :: u161 :: u162 :: u163 :: u164 :: u165 :: u166 :: u167 :: u168 :: u169 :: u170 :: u171 :: u172 :: u173 :: u174 :: u175 :: u176 :: u177 :: u178 :: u179 :: u180 :: u181 :: u182 :: u183 :: u184 :: u185 :: u186 :: u187 :: u188 :: u189 :: u190 :: u191 :: u192 :: u193 :: u194 :: u195 :: u196 :: u197 :: u198 :: u199 :: u200 :: u201 :: u202 :: u203 :: u204 :: []), []⟩ w := by
  conv => arg 2; whnf
  replace hbW := Go.Lib.hid hbW
  go_loopw [127] (fun i wr => ∃ j : Nat, j ≤ l.length ∧ i = .int .i64 j ∧ Bld b (S0 ++ (l.take j).flatMap txLine) wr ∧ Below b W wr) (fun i _ => l.length - (intOf i).toNat)
  case atStart => exact ⟨0, by omega, rfl, by simpa using hD0, hB0⟩
  case round =>
    obtain ⟨j, hj, rfl, hDr, hBr⟩ := hrel
    have hBW : Below W.heap.size W wr := by rw [← hbW.out]; exact hBr
    by_cases hlt : j < l.length
    · have hltz : (j : Int) < (l.length : Int) := by omega
      have hw64 : wrap64 ((j : Int) + 1) = ((j + 1 : Nat) : Int) := by unfold wrap64; omega
      obtain ⟨G, O, rfl, hcA⟩ := tx_plain hg (by omega)
      obtain ⟨b0, b1, b2, b3, b4, b5⟩ := hcA j hlt
      have hok := hl _ (List.getElem_mem hlt)
      have htk := take_flat txLine l j hlt
      have hpl : ((l.take j).flatMap txLine).length ≤ 1000000000 := tx_part hM hl hll j
      have hrl := tx_len (hl _ (List.getElem_mem hlt))
      generalize l[j] = x at *
      replace b0 := pw_cell_below hBW b0
      replace b1 := pw_cell_below hBW b1
      replace b2 := pw_cell_below hBW b2
      replace b3 := pw_cell_below hBW b3
      replace b4 := pw_cell_below hBW b4
      replace b5 := pw_cell_below hBW b5
      have hPr := hpow.below hBW
      have H0 := fun (u : World) (hu : Pow u) => page_walk u x.f0 hok.i hu
      have H1 := fun (u : World) (hu : Pow u) => itoa_calls x.f1 hok.a u hu
      have H2 := fun (u : World) (hu : Pow u) => itoa_calls x.f2 hok.b u hu
      have H3 := fun (u : World) (hu : Pow u) => itoa_calls x.f4 hok.n u hu
      have hnw : x.f3 = false → S0 ++ (l.take j).flatMap txLine ++ lineL [wTx, idL x.f0, Lib.itoa x.f1, Lib.itoa x.f2, Lib.itoa x.f4] = S0 ++ (l.take (j + 1)).flatMap txLine := by intro hcond; rw [htk]; simp [txLine, txWords, hcond]
      have fnw : x.f3 = false → (S0 ++ (l.take j).flatMap txLine).length + (lineL [wTx, idL x.f0, Lib.itoa x.f1, Lib.itoa x.f2, Lib.itoa x.f4]).length ≤ 140737488355328 := by
        intro hcond
        have h_ := hnw hcond
        have h2 := congrArg List.length h_
        have h3 := tx_part hM hl hll (j + 1)
        rw [List.length_append] at h2; rw [h2, List.length_append]; omega
      have hwd : x.f3 = true → S0 ++ (l.take j).flatMap txLine ++ lineL [wTx, idL x.f0, Lib.itoa x.f1, Lib.itoa x.f2, Lib.itoa x.f4, wWounded] = S0 ++ (l.take (j + 1)).flatMap txLine := by intro hcond; rw [htk]; simp [txLine, txWords, hcond]
      have fwd : x.f3 = true → (S0 ++ (l.take j).flatMap txLine).length + (lineL [wTx, idL x.f0, Lib.itoa x.f1, Lib.itoa x.f2, Lib.itoa x.f4, wWounded]).length ≤ 140737488355328 := by
        intro hcond
        have h_ := hwd hcond
        have h2 := congrArg List.length h_
        have h3 := tx_part hM hl hll (j + 1)
        rw [List.length_append] at h2; rw [h2, List.length_append]; omega
      generalize idL x.f0 = q0 at *
      generalize Lib.itoa x.f1 = q1 at *
      generalize Lib.itoa x.f2 = q2 at *
      generalize Lib.itoa x.f4 = q3 at *
      generalize S0 ++ (l.take j).flatMap txLine = sx at *
      replace htk := Go.Lib.hid htk
      replace hrl := Go.Lib.hid hrl
      replace hpl := Go.Lib.hid hpl
      have hbr : b ≤ wr.heap.size := by have := hDr.lt; omega
      replace hnw := Go.Lib.hid hnw
      replace hwd := Go.Lib.hid hwd
      replace fnw := Go.Lib.hid fnw
      replace fwd := Go.Lib.hid fwd
      clear hcA
      go_upto_region 29 with fail
      have hB1 : Below wr.heap.size wr (wr.alloc (.cells #[.int .i64 x.f0.f0, .int .i64 x.f0.f1, .int .i64 x.f1, .int .i64 x.f2, .bool x.f3, .int .i64 x.f4] 142)) := below_alloc (Below.refl _ _) _
      have hx := heap_alloc_new wr (.cells #[.int .i64 x.f0.f0, .int .i64 x.f0.f1, .int .i64 x.f1, .int .i64 x.f2, .bool x.f3, .int .i64 x.f4] 142)
      obtain ⟨gx, hgx⟩ : ∃ y, y = wr.heap.size := ⟨_, rfl⟩
      have hgb : gx ≠ b := by have := hDr.lt; omega
      rw [← hgx] at hx ⊢
      generalize wr.alloc (.cells #[.int .i64 x.f0.f0, .int .i64 x.f0.f1, .int .i64 x.f1, .int .i64 x.f2, .bool x.f3, .int .i64 x.f4] 142) = V at *
      clear hgx b0 b1 b2 b3 b4 b5
      have e0 := blk_cell hx 0
      have e1 := blk_cell hx 1
      have e2 := blk_cell hx 2
      have e3 := blk_cell hx 3
      have e4 := blk_cell hx 4
      have e5 := blk_cell hx 5
      simp only [List.getElem?_toArray, List.getElem?_cons_zero, List.getElem?_cons_succ] at e0 e1 e2 e3 e4 e5
      replace hx := Go.Lib.hid hx
      have hv1 : Below V.heap.size V V.drew := below_drew (Below.refl _ _)
      replace hDr := hDr.below hB1
      replace hPr := hPr.below hB1
      have hbV := hDr.lt
      have hBV : Below b W V := hBr.trans (hB1.mono hbr)
      go_region_held_law (fun w' => w'.cell? ⟨gx, 0, none⟩ = some (.int .i64 x.f0.f0) ∧ w'.cell? ⟨gx, 1, none⟩ = some (.int .i64 x.f0.f1) ∧ w'.cell? ⟨gx, 2, none⟩ = some (.int .i64 x.f1) ∧ w'.cell? ⟨gx, 3, none⟩ = some (.int .i64 x.f2) ∧ w'.cell? ⟨gx, 4, none⟩ = some (.bool x.f3) ∧ w'.cell? ⟨gx, 5, none⟩ = some (.int .i64 x.f4))
        (first | go_keep | exact ⟨pw_cell_below hv5 e0, pw_cell_below hv5 e1, pw_cell_below hv5 e2, pw_cell_below hv5 e3, pw_cell_below hv5 e4, pw_cell_below hv5 e5⟩ | exact ⟨pw_cell_below hv4 e0, pw_cell_below hv4 e1, pw_cell_below hv4 e2, pw_cell_below hv4 e3, pw_cell_below hv4 e4, pw_cell_below hv4 e5⟩ | exact ⟨pw_cell_below hv3 e0, pw_cell_below hv3 e1, pw_cell_below hv3 e2, pw_cell_below hv3 e3, pw_cell_below hv3 e4, pw_cell_below hv3 e5⟩ | exact ⟨pw_cell_below hv2 e0, pw_cell_below hv2 e1, pw_cell_below hv2 e2, pw_cell_below hv2 e3, pw_cell_below hv2 e4, pw_cell_below hv2 e5⟩ | exact ⟨pw_cell_below hv1 e0, pw_cell_below hv1 e1, pw_cell_below hv1 e2, pw_cell_below hv1 e3, pw_cell_below hv1 e4, pw_cell_below hv1 e5⟩)
        ((first
          | (go_at_call 76; refine (H3 u_4 (hPr.below hv4)).mono ?_; rintro e u_5 ⟨rfl, hu5⟩; have hv5 := hv4.trans (hu5.mono hv4.size))
          | (go_at_call 76; refine (H2 u_3 (hPr.below hv3)).mono ?_; rintro e u_4 ⟨rfl, hu4⟩; have hv4 := hv3.trans (hu4.mono hv3.size))
          | (go_at_call 76; refine (H1 u_2 (hPr.below hv2)).mono ?_; rintro e u_3 ⟨rfl, hu3⟩; have hv3 := hv2.trans (hu3.mono hv2.size))
          | (go_at_call 79; refine (H0 _ (hPr.below hv1)).mono ?_; rintro e u_2 ⟨rfl, hu2⟩; have hv2 := hv1.trans (hu2.mono hv1.size))))
      have hVz := hv5.size
      have hown := own_strs u_5 #[.string ⟨#[116, 120]⟩, .string (B q0), .string (B q1), .string (B q2), .string (B q3)] [wTx, q0, q1, q2, q3] V.heap.size 5 rfl hVz rfl (by decide)
      have hvA : Below V.heap.size V (u_5.alloc (.cells #[.string ⟨#[116, 120]⟩, .string (B q0), .string (B q1), .string (B q2), .string (B q3)] 9)) := hv5.trans ((below_alloc (Below.refl _ _) _).mono hVz)
      have hDU := hDr.below hvA
      have hVU := hvA.size
      obtain ⟨gw, hgw⟩ : ∃ y, y = u_5.heap.size := ⟨_, rfl⟩
      rw [← hgw] at hown ⊢
      generalize u_5.alloc (.cells #[.string ⟨#[116, 120]⟩, .string (B q0), .string (B q1), .string (B q2), .string (B q3)] 9) = U at *
      clear hgw
      have y4 := pw_cell_below hvA e4
      generalize hwc : x.f3 = bw at *
      replace hwc := Go.Lib.hid hwc
      cases bw
      · skip
        replace hnw := hnw.out rfl
        replace fnw := fnw.out rfl
        replace hnw := Go.Lib.hid hnw
        clear hwd fwd
        obtain ⟨g5, k5, he5, hk5, hw5, hn5, hg5⟩ := own_words hown (by decide)
        cases he5
        go_wp2_with ((first | (go_at_call 72; go_loud (refine (line_at _ b _ 5 _ sx [wTx, q0, q1, q2, q3] hDU hw5 rfl (by decide) hk5 fnw).mono ?_; rintro e u_9 ⟨rfl, hD9, hu9, hk9⟩))))
        have hBe := hBV.trans ((hvA.mono (by omega)).trans hu9)
        rw [hnw.out] at hD9
        go_wp2_with fail
        go_roundw
        case rel => exact ⟨j + 1, hlt, by first | rfl | rw [hw64], hD9, hBe⟩
        case measure => simp only [intOf]; first | omega | (rw [hw64]; omega)
      · skip
        replace hwd := hwd.out rfl
        replace fwd := fwd.out rfl
        replace hwd := Go.Lib.hid hwd
        clear hnw fnw
        have hB5 : Below U.heap.size U (U.alloc (.cells #[.string (⟨#[119, 111, 117, 110, 100, 101, 100]⟩)] 9)) := below_alloc (Below.refl _ _) _
        have hR5 : Rdv (U.alloc (.cells #[.string (⟨#[119, 111, 117, 110, 100, 101, 100]⟩)] 9)) (some ⟨U.heap.size, 0, none⟩) 1 (strs [wWounded]) := rd_str U wWounded
        have hO5 := own_below hown hB5
        have hBw5 := hvA.trans (hB5.mono hVU)
        have hz5 := hBw5.size
        go_upto_region 32 with ((first | (at_builtin; refine wpList_append_rd (o := ⟨some 151, _, _, _, _, _⟩) V V.heap.size rfl (.tmp 149) (.tmp 150) 123 9 (.string ⟨#[]⟩) 16 rfl Tryd.underlying123 info_s rfl _ 5 (strs [wTx, q0, q1, q2, q3]) rfl hO5 _ 1 _ (strs [wWounded]) rfl hR5 (strs_one _) hBw5 hz5 (by omega) (by omega) ?_; intro v1 w1 hown1 hB11 hg1 hz11)))
        rw [← strs_append] at hown1
        have hD1 := hDr.below hB11
        have hlb : b ≤ w1.heap.size := by have := hD1.lt; omega
        obtain ⟨g5, k5, rfl, hk5, hw5, hn5, hg5⟩ := own_words hown1 (by decide)
        have hBA := hBV.trans (hB11.mono (by omega))
        clear hn5 hg5 hO5 hB5 hR5 hown hown1 hBw5 hz5 hg1 hz11 hDU hvA hVU
        simp only [show (5 + 1 : Nat) = 6 from rfl] at *
        go_wp2_with ((first | (go_at_call 72; refine (line_at _ b g5 6 k5 sx [wTx, q0, q1, q2, q3, wWounded] hD1 hw5 rfl (by decide) hk5 fwd).mono ?_; rintro e u_9 ⟨rfl, hD9, hu9, hk9⟩)))
        have hBe := hBA.trans hu9
        rw [hwd.out] at hD9
        go_wp2_with fail
        go_roundw
        case rel => exact ⟨j + 1, hlt, by first | rfl | rw [hw64], hD9, hBe⟩
        case measure => simp only [intOf]; first | omega | (rw [hw64]; omega)
    · have hjl : j = l.length := by omega
      subst hjl
      rw [List.take_length] at *
      have hltf : ¬ ((l.length : Int) < (l.length : Int)) := by omega
      go_wp2_with fail
      exact ⟨rfl, hexit _ _ _ _ _ _ _ _ _ _ _ _ _ _ _ _ _ _ _ _ _ _ _ _ _ _ _ _ _ _ _ hBr hDr⟩
end Go.Proofs.YtggogenhakdhiaaDoor.PSnapTexts
end
section
set_option linter.unusedVariables false
set_option linter.unusedSimpArgs false
attribute [local go_sem ↓] Go.wp_at_zero Go.wp_at_succ
namespace Go.Proofs.YtggogenhakdhiaaDoor.PSnapTexts
open Go.RowKit Go.Proofs.YtggogenhakdhiaaDoorW.PrintWords Go.Proofs.YtggogenhakdhiaaDoorW.PrintLast Go.Proofs.YtggogenhakdhiaaDoorW.PrintMore
open Classical

set_option maxHeartbeats 8000000 in
set_option maxRecDepth 20000 in
theorem pt_loop7 (V w : World) (hpow : Pow V) (gx : Nat) (A2 A7 : Option Addr) (c2 c7 : Nat) (gs acks : List Int) (e7 : V.cell? ⟨gx, 7, none⟩ = some (.slice A7 acks.length c7)) (hg2 : (Kd.int .i64).C V A2 gs.length gs) (hc2 : gs.length ≤ c2) (hg7 : (Kd.int .i64).C V A7 acks.length acks) (hn2 : gs.length ≤ 1048576) (hn7 : acks.length ≤ 1048576) (hr : ∀ n ∈ gs, InR n)
    (ws0 : List (List UInt8)) (hw0 : ws0.length ≤ 100) (v0 : Value) (hO : w.ownsRow V.heap.size 9 1 v0 ws0.length (strs ws0)) (hB0 : Below V.heap.size V w) {X : Act → World → Prop} (u0 u1 u2 u3 u4 u6 u7 u8 u9 u10 u11 u12 u13 u14 u15 u16 u17 u18 u21 u22 u23 u24 u25 u26 u27 u28 u29 u30 u31 u32 u33 u34 u35 u36 u37 u38 u39 u40 u41 u42 u43 u44 u45 u46 u47 u48 u49 u50 u51 u52 u53 u54 u55 u56 u57 u58 u59 u60 u61 u62 u63 u64 u65 u66 u67 u68 u69 u70 u71 u72 u73 u74 u75 u76 u77 u78 u79 u80 u81 u82 u83 u84 u85 u86 u87 u88 u89 u90 u91 u92 u93 u94 u95 u96 u97 u98 u99 u100 u101 u102 u103 u104 u105 u106 u107 u108 u109 u110 u111 u112 u113 u114 u115 u116 u117 u118 u119 u120 u121 u122 u123 u124 u125 u126 u127 u128 u129 u130 u131 u132 u133 u134 u135 u136 u137 u138 u139 u140 u141 u142 u143 u144 u145 u146 u147 u148 u149 u150 u151 u152 u153 u154 u155 u156 u157 u158 u159 u160 u161 u162 u163 u164 u165 u166 u167 u168 u169 u170 u171 u172 u173 u174 u175 u176 u177 u178 u179 u183 u184 u185 u186 u187 u188 u189 u190 u191 u192 u193 u194 u195 u196 u197 u198 u199 u200 u201 u202 u203 u204 : Value)
    (hexit : ∀ (v1 v22 v23 v183 v184 v185 v186 v187 v188 v189 v190 v191 v192 v193 v194 v195 v196 v197 v198 v199 : Value) w', Below V.heap.size V w' → w'.ownsRow V.heap.size 9 1 v1 (ws0.length + gs.length) (strs (ws0 ++ gs.map (groupWord acks))) → X ⟨List.toArray (u0 :: u1 :: u2 :: u3 :: u4 :: .func (.func 76) #[] #[] :: u6 :: u7 :: u8 :: u9 :: u10 :: u11 :: u12 :: u13 :: u14 :: u15 :: u16 :: u17 :: u18 :: .pointer (some ⟨gx, 0, none⟩) :: v1 :: u21 :: v22 :: v23 :: u24 :: u25 :: u26 :: u27 :: u28 :: u29 :: u30 :: u31 :: u32 :: u33 :: u34 :: u35 :: u36 :: u37 :: u38 :: u39 :: u40 :: u41 :: u42 :: u43 :: u44 :: u45 :: u46 :: u47 :: u48 :: u49 :: u50 :: u51 :: u52 :: u53 :: u54 :: u55 :: u56 :: u57 :: u58 :: u59 :: u60 :: u61 :: u62 :: u63 :: u64 :: u65 :: u66 :: u67 :: u68 :: u69 :: u70 :: u71 :: u72 :: u73 :: u74 :: u75 :: u76 :: u77 :: u78 :: u79 :: u80 :: u81 :: u82 :: u83 :: u84 :: u85 :: u86 :: u87 :: u88 :: u89 :: u90 :: u91 :: u92 :: u93 :: u94 :: u95 :: u96 :: u97 :: u98 :: u99 :: u100 :: u101 :: u102 :: u103 :: u104 :: u105 :: u106 :: u107 :: u108 :: u109 :: u110 :: u111 :: u112 :: u113 :: u114 :: u115 :: u116 :: u117 :: u118 :: u119 :: u120 :: u121 :: u122 :: u123 :: u124 :: u125 :: u126 :: u127 :: u128 :: u129 :: u130 :: u131 :: u132 :: u133 :: u134 :: u135 :: u136 :: u137 :: u138 :: u139 :: u140 :: u141 :: u142 :: u143 :: u144 :: u145 :: u146 :: u147 :: u148 :: u149 :: u150 :: u151 :: u152 :: u153 :: u154 :: u155 :: u156 :: u157 :: u158 :: u159 :: u160 :: u161 :: u162 :: u163 :: u164 :: u165 :: u166 :: u167 :: u168 :: u169 :: u170 :: u171 :: u172 :: u173 :: u174 :: u175 :: u176 :: u177 :: u178 :: u179 :: .slice A2 gs.length c2 :: .int .i64 (gs.length : Int) :: .int .i64 (gs.length : Int) :: v183 :: v184 :: v185 :: v186 :: v187 :: v188 :: v189 :: v190 :: v191 :: v192 :: v193 :: v194 :: v195 :: v196 :: v197 :: v198 :: v199 :: u200 :: u201 :: u202 :: u203 :: u204 :: []), []⟩ w') :
    Code.wp Tryd.prog ptLoop7 (LQ 12 X) ⟨List.toArray (u0 :: u1 :: u2 :: u3 :: u4 :: .func (.func 76) #[] #[] :: u6 :: u7 :: u8 :: u9 :: u10 :: u11 :: u12 :: u13 :: u14 :: u15 :: u16 :: u17 :: u18 :: .pointer (some ⟨gx, 0, none⟩) :: v0 :: u21 :: u22 :: u23 :: u24 :: u25 :: u26 :: u27 :: u28 :: u29 :: u30 :: u31 :: u32 :: u33 :: u34 :: u35 :: u36 :: u37 :: u38 :: u39 :: u40 :: u41 :: u42 :: u43 :: u44 :: u45 :: u46 :: u47 :: u48 :: u49 :: u50 :: u51 :: u52 :: u53 :: u54 :: u55 :: u56 :: u57 :: u58 :: u59 :: u60 :: u61 :: u62 :: u63 :: u64 :: u65 :: u66 :: u67 :: u68 :: u69 :: u70 :: u71 :: u72 :: u73 :: u74 :: u75 :: u76 :: u77 :: u78 :: u79 :: u80 :: u81 :: u82 :: u83 :: u84 :: u85 :: u86 :: u87 :: u88 :: u89 :: u90 :: u91 :: u92 :: u93 :: u94 :: u95 :: u96 :: u97 :: u98 :: u99 :: u100 :: u101 :: u102 :: u103 :: u104 :: u105 :: u106 :: u107 :: u108 :: u109 :: u110 :: u111 :: u112 :: u113 :: u114 :: u115 :: u116 :: u117 :: u118 :: u119 :: u120 :: u121 :: u122 :: u123 :: u124 :: u125 :: u126 :: u127 :: u128 :: u129 :: u130 :: u131 :: u132 :: u133 :: u134 :: u135 :: u136 :: u137 :: u138 :: u139 :: u140 :: u141 :: u142 :: u143 :: u144 :: u145 :: u146 :: u147 :: u148 :: u149 :: u150 :: u151 :: u152 :: u153 :: u154 :: u155 :: u156 :: u157 :: u158 :: u159 :: u160 :: u161 :: u162 :: u163 :: u164 :: u165 :: u166 :: u167 :: u168 :: u169 :: u170 :: u171 :: u172 :: u173 :: u174 :: u175 :: u176 :: u177 :: u178 :: u179 :: .slice A2 gs.length c2 :: .int .i64 (gs.length : Int) :: .int .i64 0 :: u183 :: u184 :: u185 :: u186 :: u187 :: u188 :: u189 :: u190 :: u191 :: u192 :: u193 :: u194 :: u195 :: u196 :: u197 :: u198 :: u199 :: u200 :: u201 :: u202 :: u203 :: u204 :: []), []⟩ w := by
  conv => arg 2; whnf
  go_loopw [20, 182] (fun v i wr => ∃ k : Nat, k ≤ gs.length ∧ i = .int .i64 k ∧ wr.ownsRow V.heap.size 9 1 v (ws0.length + k) (strs (ws0 ++ (gs.take k).map (groupWord acks))) ∧ Below V.heap.size V wr) (fun _ i _ => gs.length - (intOf i).toNat)
  case atStart => exact ⟨0, by omega, rfl, by simpa using hO, hB0⟩
  case round =>
    obtain ⟨k, hk, rfl, hOw, hBr⟩ := hrel
    have b7 := pw_cell_below hBr e7
    by_cases hlt : k < gs.length
    · have hltz : (k : Int) < (gs.length : Int) := by omega
      have hw64 : wrap64 ((k : Int) + 1) = ((k + 1 : Nat) : Int) := by unfold wrap64; omega
      obtain ⟨G2, O2, rfl, hcA⟩ := ints_plain hg2 (by omega)
      have b2 := pw_cell_below hBr (hcA k hlt)
      have hir := hr _ (List.getElem_mem hlt)
      have htk : gs.take (k + 1) = gs.take k ++ [gs[k]] := List.take_succ_eq_append_getElem hlt
      have hmk : ws0 ++ (gs.take k).map (groupWord acks) ++ [groupWord acks gs[k]] = ws0 ++ (gs.take (k + 1)).map (groupWord acks) := by rw [htk, List.map_append, List.append_assoc]; rfl
      have hgw : groupWord acks gs[k] = Lib.itoa gs[k] ++ if acks.contains gs[k] = true then [43] else [] := rfl
      have hPr := hpow.below hBr
      have HI := fun (u : World) (hu : Pow u) => itoa_calls gs[k] hir u hu
      have zi : (B (Lib.itoa gs[k])).size ≤ 21 := by rw [B_size]; exact itoa_len hir
      generalize gs[k] = gk at *
      generalize hws : ws0 ++ (gs.take k).map (groupWord acks) = ws at *
      have hwl : ws.length ≤ 1100000 := by rw [← hws, List.length_append, List.length_map, List.length_take]; omega
      have hplus : B (Lib.itoa gk) ++ (⟨#[43]⟩ : ByteArray) = B (Lib.itoa gk ++ [43]) := by rw [show (⟨#[43]⟩ : ByteArray) = B [43] from rfl, B_append]
      have r1 := lt_false (n := (B (Lib.itoa gk)).size + 1) (by omega)
      replace hws := Go.Lib.hid hws
      replace htk := Go.Lib.hid htk
      replace hmk := Go.Lib.hid hmk
      replace hgw := Go.Lib.hid hgw
      replace zi := Go.Lib.hid zi
      replace hplus := Go.Lib.hid hplus
      clear hcA
      have hzr := hBr.size
      generalize hbb : acks.contains gk = bb at *
      have HC := fun (u : World) (hb : Below V.heap.size V u) => contains_calls u A7 c7 acks (Kd.C_below hg7 hb) hn7 gk
      rw [hbb] at HC
      replace hbb := Go.Lib.hid hbb
      go_upto_region 42 with (go_at_call 76; refine (HI _ hPr).mono ?_; rintro e w2 ⟨rfl, hB2⟩)
      have hB3 := hBr.trans (hB2.mono hzr)
      replace b7 := pw_cell_below hB2 b7
      have hO2 := own_below hOw hB2
      clear hOw b2
      cases bb
      · have hword : groupWord acks gk = Lib.itoa gk := by rw [hgw.out]; simp
        replace hword := Go.Lib.hid hword
        go_upto_region 44 with (go_at_call 80; refine (HC _ hB3).mono ?_; rintro e w3 ⟨rfl, rfl⟩)
        generalize Lib.itoa gk = wd at *
        have hB5 : Below w3.heap.size w3 (w3.alloc (.cells #[.string (B wd)] 9)) := below_alloc (Below.refl _ _) _
        have hR5 : Rdv (w3.alloc (.cells #[.string (B wd)] 9)) (some ⟨w3.heap.size, 0, none⟩) 1 (strs [wd]) := rd_str w3 wd
        have hO5 := own_below hO2 hB5
        have hBw5 := hB3.trans (hB5.mono hB3.size)
        have hz5 := hBw5.size
        go_upto_region 45 with ((first | (at_builtin; refine wpList_append_rd (o := ⟨some 198, _, _, _, _, _⟩) V V.heap.size rfl (.tmp 195) (.tmp 197) 123 9 (.string ⟨#[]⟩) 16 rfl Tryd.underlying123 info_s rfl _ (ws0.length + k) (strs ws) rfl hO5 _ 1 _ (strs [wd]) rfl hR5 (strs_one _) hBw5 hz5 (by omega) (by omega) ?_; intro v1 w1 hown1 hB11 hg1 hz11)))
        rw [← strs_append] at hown1
        rw [← hword.out, hmk.out] at hown1
        clear hO5 hB5 hR5 hO2 hBw5 hz5 hg1 hz11
        go_wp2_with fail
        go_roundw
        case rel => exact ⟨k + 1, hlt, by first | rfl | rw [hw64], hown1, hB11⟩
        case measure => simp only [intOf]; first | omega | (rw [hw64]; omega)
      · have hword : groupWord acks gk = (Lib.itoa gk ++ [43]) := by rw [hgw.out]; simp
        replace hword := Go.Lib.hid hword
        go_upto_region 44 with (go_at_call 80; refine (HC _ hB3).mono ?_; rintro e w3 ⟨rfl, rfl⟩)
        rw [hplus.out]
        generalize (Lib.itoa gk ++ [43]) = wd at *
        have hB5 : Below w3.heap.size w3 (w3.alloc (.cells #[.string (B wd)] 9)) := below_alloc (Below.refl _ _) _
        have hR5 : Rdv (w3.alloc (.cells #[.string (B wd)] 9)) (some ⟨w3.heap.size, 0, none⟩) 1 (strs [wd]) := rd_str w3 wd
        have hO5 := own_below hO2 hB5
        have hBw5 := hB3.trans (hB5.mono hB3.size)
        have hz5 := hBw5.size
        go_upto_region 45 with ((first | (at_builtin; refine wpList_append_rd (o := ⟨some 198, _, _, _, _, _⟩) V V.heap.size rfl (.tmp 195) (.tmp 197) 123 9 (.string ⟨#[]⟩) 16 rfl Tryd.underlying123 info_s rfl _ (ws0.length + k) (strs ws) rfl hO5 _ 1 _ (strs [wd]) rfl hR5 (strs_one _) hBw5 hz5 (by omega) (by omega) ?_; intro v1 w1 hown1 hB11 hg1 hz11)))
        rw [← strs_append] at hown1
        rw [← hword.out, hmk.out] at hown1
        clear hO5 hB5 hR5 hO2 hBw5 hz5 hg1 hz11
        go_wp2_with fail
        go_roundw
        case rel => exact ⟨k + 1, hlt, by first | rfl | rw [hw64], hown1, hB11⟩
        case measure => simp only [intOf]; first | omega | (rw [hw64]; omega)
    · have hkl : k = gs.length := by omega
      subst hkl
      rw [List.take_length] at hOw
      have hltf : ¬ ((gs.length : Int) < (gs.length : Int)) := by omega
      go_wp2_with fail
      exact ⟨rfl, hexit _ _ _ _ _ _ _ _ _ _ _ _ _ _ _ _ _ _ _ _ _ hBr hOw⟩
end Go.Proofs.YtggogenhakdhiaaDoor.PSnapTexts
end
section
set_option linter.unusedVariables false
set_option linter.unusedSimpArgs false
attribute [local go_sem ↓] Go.wp_at_zero Go.wp_at_succ
namespace Go.Proofs.YtggogenhakdhiaaDoor.PSnapTexts
open Go.RowKit Go.Proofs.YtggogenhakdhiaaDoorW.PrintWords Go.Proofs.YtggogenhakdhiaaDoorW.PrintLast Go.Proofs.YtggogenhakdhiaaDoorW.PrintMore
open Classical

set_option maxHeartbeats 8000000 in
set_option maxRecDepth 20000 in
theorem pt_loop6 {M : Nat} (hM : M ≤ 1048576) (W w : World) (b : Nat) (hbW : b = W.heap.size) (hpow : Pow W) (A : Option Addr) (c : Nat) (l : List S118) (S0 : List UInt8) (hg : Kd.C k118 W A l.length l) (hc : l.length ≤ c)
    (hl : ∀ x ∈ l, RecOk M x) (hll : l.length ≤ M) (hS : S0.length ≤ 50000000000000) (hB0 : Below b W w) (hD0 : Bld b S0 w) {X : Act → World → Prop} (u0 u1 u2 u7 u8 u9 u10 u11 u12 u13 u14 u15 u16 u17 u18 u19 u20 u21 u22 u23 u24 u25 u26 u27 u28 u29 u30 u31 u32 u33 u34 u35 u36 u37 u38 u39 u40 u41 u42 u43 u44 u45 u46 u47 u48 u49 u50 u51 u52 u53 u54 u55 u56 u57 u58 u59 u60 u61 u62 u63 u64 u65 u66 u67 u68 u69 u70 u71 u72 u73 u74 u75 u76 u77 u78 u79 u80 u81 u82 u83 u84 u85 u86 u87 u88 u89 u90 u91 u92 u93 u94 u95 u96 u97 u98 u99 u100 u101 u102 u103 u104 u105 u106 u107 u108 u109 u110 u111 u112 u113 u114 u115 u116 u117 u118 u119 u120 u121 u122 u123 u124 u125 u126 u127 u128 u129 u130 u131 u132 u133 u134 u135 u136 u137 u138 u139 u140 u141 u142 u143 u144 u145 u146 u147 u148 u149 u150 u151 u152 u153 u154 u155 u156 u160 u161 u162 u163 u164 u165 u166 u167 u168 u169 u170 u171 u172 u173 u174 u175 u176 u177 u178 u179 u180 u181 u182 u183 u184 u185 u186 u187 u188 u189 u190 u191 u192 u193 u194 u195 u196 u197 u198 u199 u200 u201 u202 u203 u204 : Value)
    (hexit : ∀ (v19 v20 v22 v23 v160 v161 v162 v163 v164 v165 v166 v167 v168 v169 v170 v171 v172 v173 v174 v175 v176 v177 v178 v179 v180 v181 v182 v183 v184 v185 v186 v187 v188 v189 v190 v191 v192 v193 v194 v195 v196 v197 v198 v199 v200 v201 v202 v203 : Value) w', Below b W w' → Bld b (S0 ++ l.flatMap recLine) w' → X ⟨List.toArray (u0 :: u1 :: u2 :: .pointer (some ⟨b, 0, none⟩) :: .func (.func 72) #[] #[.pointer (some ⟨b, 0, none⟩)] :: .func (.func 76) #[] #[] :: .func (.func 77) #[] #[] :: u7 :: u8 :: u9 :: u10 :: u11 :: u12 :: u13 :: u14 :: u15 :: u16 :: u17 :: u18 :: v19 :: v20 :: u21 :: v22 :: v23 :: u24 :: u25 :: u26 :: u27 :: u28 :: u29 :: u30 :: u31 :: u32 :: u33 :: u34 :: u35 :: u36 :: u37 :: u38 :: u39 :: u40 :: u41 :: u42 :: u43 :: u44 :: u45 :: u46 :: u47 :: u48 :: u49 :: u50 :: u51 :: u52 :: u53 :: u54 :: u55 :: u56 :: u57 :: u58 :: u59 :: u60 :: u61 :: u62 :: u63 :: u64 :: u65 :: u66 :: u67 :: u68 :: u69 :: u70 :: u71 :: u72 :: u73 :: u74 :: u75 :: u76 :: u77 :: u78 :: u79 :: u80 :: u81 :: u82 :: u83 :: u84 :: u85 :: u86 :: u87 :: u88 :: u89 :: u90 :: u91 :: u92 :: u93 :: u94 :: u95 :: u96 :: u97 :: u98 :: u99 :: u100 :: u101 :: u102 :: u103 :: u104 :: u105 :: u106 :: u107 :: u108 :: u109 :: u110 :: u111 :: u112 :: u113 :: u114 :: u115 :: u116 :: u117 :: u118 :: u119 :: u120 :: u121 :: u122 :: u123 :: u124 :: u125 :: u126 :: u127 :: u128 :: u129 :: u130 :: u131 :: u132 :: u133 :: u134 :: u135 :: u136 :: u137 :: u138 :: u139 :: u140 :: u141 :: u142 :: u143 :: u144 :: u145 :: u146 :: u147 :: u148 :: u149 :: u150 :: u151 :: u152 :: u153 :: u154 :: u155 :: u156 :: .slice A l.length c :: .int .i64 (l.length : Int) :: .int .i64 (l.length : Int) :: v160 :: v161 :: v162 :: v163 :: v164 :: v165 :: v166 :: v167 :: v168 :: v169 :: v170 :: v171 :: v172 :: v173 :: v174 :: v175 :: v176 :: v177 :: v178 :: v179 :: v180 :: v181 :: v182 :: v183 :: v184 :: v185 :: v186 :: v187 :: v188 :: v189 :: v190 :: v191 :: v192 :: v193 :: v194 :: v195 :: v196 :: v197 :: v198 :: v199 :: v200 :: v201 :: v202 :: v203 :: u204 :: []), []⟩ w') :
    Code.wp Tryd.prog ptLoop6 (LQ 10 X) ⟨List.toArray (u0 :: u1 :: u2 :: .pointer (some ⟨b, 0, none⟩) :: .func (.func 72) #[] #[.pointer (some ⟨b, 0, none⟩)] :: .func (.func 76) #[] #[] :: .func (.func 77) #[] #[] :: u7 :: u8 :: u9 :: u10 :: u11 :: u12 :: u13 :: u14 :: u15 :: u16 :: u17 :: u18 :: u19 :: u20 :: u21 :: u22 :: u23 :: u24 :: u25 :: u26 :: u27 :: u28 :: u29 :: u30 :: u31 :: u32 :: u33 :: u34 :: u35 :: u36 :: u37 :: u38 :: u39 :: u40 :: u41 :: u42 :: u43 :: u44 :: u45 :: u46 :: u47 :: u48 :: u49 :: u50 :: u51 :: u52 :: u53 :: u54 :: u55 :: u56 :: u57 :: u58 :: u59 :: u60 :: u61 :: u62 :: u63 :: u64 :: u65 :: u66 :: u67 :: u68 :: u69 :: u70 :: u71 :: u72 :: u73 :: u74 :: u75 :: u76 :: u77 :: u78 :: u79 :: u80 :: u81 :: u82 :: u83 :: u84 :: u85 :: u86 :: u87 :: u88 :: u89 :: u90 :: u91 :: u92 :: u93 :: u94 :: u95 :: u96 :: u97 :: u98 :: u99 :: u100 :: u101 :: u102 :: u103 :: u104 :: u105 :: u106 :: u107 :: u108 :: u109 :: u110 :: u111 :: u112 :: u113 :: u114 :: u115 :: u116 :: u117 :: u118 :: u119 :: u120 :: u121 :: u122 :: u123 :: u124 :: u125 :: u126 :: u127 :: u128 :: u129 :: u130 :: u131 :: u132 :: u133 :: u134 :: u135 :: u136 :: u137 :: u138 :: u139 :: u140 :: u141 :: u142 :: u143 :: u144 :: u145 :: u146 :: u147 :: u148 :: u149 :: u150 :: u151 :: u152 :: u153 :: u154 :: u155 :: u156 :: .slice A l.length c :: .int .i64 (l.length : Int) :: .int .i64 0 :: u160 :: u161 :: u162 :: u163 :: u164 :: u165 :: u166 :: u167 :: u168 :: u169 :: u170 :: u171 :: u172 :: u173 :: u174 :: u175 :: u176 :: u177 :: u178 :: u179 :: u180 :: u181 :: u182 :: u183 :: u184 :: u185 :: u186 :: u187 :: u188 :: u189 :: u190 :: u191 :: u192 :: u193 :: u194 :: u195 :: u196 :: u197 :: u198 :: u199 :: u200 :: u201 :: u202 :: u203 :: u204 :: []), []⟩ w := by
  conv => arg 2; whnf
  replace hbW := Go.Lib.hid hbW
  go_loopw [159] (fun i wr => ∃ j : Nat, j ≤ l.length ∧ i = .int .i64 j ∧ Bld b (S0 ++ (l.take j).flatMap recLine) wr ∧ Below b W wr) (fun i _ => l.length - (intOf i).toNat)
  case atStart => exact ⟨0, by omega, rfl, by simpa using hD0, hB0⟩
  case round =>
    obtain ⟨j, hj, rfl, hDr, hBr⟩ := hrel
    have hBW : Below W.heap.size W wr := by rw [← hbW.out]; exact hBr
    by_cases hlt : j < l.length
    · have hltz : (j : Int) < (l.length : Int) := by omega
      have hw64 : wrap64 ((j : Int) + 1) = ((j + 1 : Nat) : Int) := by unfold wrap64; omega
      obtain ⟨G, O, rfl, hcA⟩ := rec_plain hg (by omega)
      obtain ⟨A2, c2, A3, c3, A7, c7, b0, b1, b2, b3, b4, b5, b6, b7, hl2, q2, hl3, q3, hl7, q7⟩ := hcA j hlt
      have hok := hl _ (List.getElem_mem hlt)
      have htk := take_flat recLine l j hlt
      have hpl : ((l.take j).flatMap recLine).length ≤ 30000000000000 := rec_part6 hM hl hll j
      have hrl := rec_len (hl _ (List.getElem_mem hlt))
      generalize l[j] = x at *
      replace b0 := pw_cell_below hBW b0
      replace b1 := pw_cell_below hBW b1
      replace b2 := pw_cell_below hBW b2
      replace b3 := pw_cell_below hBW b3
      replace b4 := pw_cell_below hBW b4
      replace b5 := pw_cell_below hBW b5
      replace b6 := pw_cell_below hBW b6
      replace b7 := pw_cell_below hBW b7
      have hPr := hpow.below hBW
      replace q2 := Kd.C_below q2 hBW
      replace q7 := Kd.C_below q7 hBW
      have H0 := fun (u : World) (hu : Pow u) => page_walk u x.f0 hok.i hu
      have H1 := fun (u : World) (hu : Pow u) => itoa_calls x.f3 hok.a u hu
      have H2 := fun (u : World) (hu : Pow u) => itoa_calls x.f4 hok.b u hu
      have H3 := fun (u : World) (hu : Pow u) => itoa_calls x.f5 hok.c u hu
      have hnew : S0 ++ (l.take j).flatMap recLine ++ lineL ([wRecord, idL x.f0, Lib.itoa x.f3, Lib.itoa x.f4, Lib.itoa x.f5] ++ x.f1.map (groupWord x.f6)) = S0 ++ (l.take (j + 1)).flatMap recLine := by rw [htk, show recLine x = lineL ([wRecord, idL x.f0, Lib.itoa x.f3, Lib.itoa x.f4, Lib.itoa x.f5] ++ x.f1.map (groupWord x.f6)) from rfl, List.append_assoc]
      have hfit : (S0 ++ (l.take j).flatMap recLine).length + (lineL ([wRecord, idL x.f0, Lib.itoa x.f3, Lib.itoa x.f4, Lib.itoa x.f5] ++ x.f1.map (groupWord x.f6))).length ≤ 140737488355328 := by
        have h_ : (lineL ([wRecord, idL x.f0, Lib.itoa x.f3, Lib.itoa x.f4, Lib.itoa x.f5] ++ x.f1.map (groupWord x.f6))).length ≤ 25000000 := Nat.le_trans hrl (by omega)
        rw [List.length_append]; omega
      generalize idL x.f0 = y0 at *
      generalize Lib.itoa x.f3 = y1 at *
      generalize Lib.itoa x.f4 = y2 at *
      generalize Lib.itoa x.f5 = y3 at *
      generalize S0 ++ (l.take j).flatMap recLine = sx at *
      replace hnew := Go.Lib.hid hnew
      replace hfit := Go.Lib.hid hfit
      replace htk := Go.Lib.hid htk
      replace hrl := Go.Lib.hid hrl
      replace hpl := Go.Lib.hid hpl
      have hbr : b ≤ wr.heap.size := by have := hDr.lt; omega
      have hgl := hok.g
      have hkl := hok.k
      have hgr := hok.r
      clear hcA
      go_upto_region 37 with fail
      have hB1 : Below wr.heap.size wr (wr.alloc (.cells #[.int .i64 x.f0.f0, .int .i64 x.f0.f1, .slice A2 x.f1.length c2, .slice A3 x.f2.length c3, .int .i64 x.f3, .int .i64 x.f4, .int .i64 x.f5, .slice A7 x.f6.length c7] 118)) := below_alloc (Below.refl _ _) _
      have hx := heap_alloc_new wr (.cells #[.int .i64 x.f0.f0, .int .i64 x.f0.f1, .slice A2 x.f1.length c2, .slice A3 x.f2.length c3, .int .i64 x.f3, .int .i64 x.f4, .int .i64 x.f5, .slice A7 x.f6.length c7] 118)
      obtain ⟨gx, hgx⟩ : ∃ y, y = wr.heap.size := ⟨_, rfl⟩
      have hgb : gx ≠ b := by have := hDr.lt; omega
      rw [← hgx] at hx ⊢
      replace q2 := Kd.C_below q2 hB1
      replace q7 := Kd.C_below q7 hB1
      generalize wr.alloc (.cells #[.int .i64 x.f0.f0, .int .i64 x.f0.f1, .slice A2 x.f1.length c2, .slice A3 x.f2.length c3, .int .i64 x.f3, .int .i64 x.f4, .int .i64 x.f5, .slice A7 x.f6.length c7] 118) = V at *
      clear hgx b0 b1 b2 b3 b4 b5 b6 b7
      have e0 := blk_cell hx 0
      have e1 := blk_cell hx 1
      have e2 := blk_cell hx 2
      have e3 := blk_cell hx 3
      have e4 := blk_cell hx 4
      have e5 := blk_cell hx 5
      have e6 := blk_cell hx 6
      have e7 := blk_cell hx 7
      simp only [List.getElem?_toArray, List.getElem?_cons_zero, List.getElem?_cons_succ] at e0 e1 e2 e3 e4 e5 e6 e7
      replace hx := Go.Lib.hid hx
      have hv1 : Below V.heap.size V V.drew := below_drew (Below.refl _ _)
      replace hDr := hDr.below hB1
      replace hPr := hPr.below hB1
      have hbV := hDr.lt
      have hBV : Below b W V := hBr.trans (hB1.mono hbr)
      go_region_held_law (fun w' => w'.cell? ⟨gx, 0, none⟩ = some (.int .i64 x.f0.f0) ∧ w'.cell? ⟨gx, 1, none⟩ = some (.int .i64 x.f0.f1) ∧ w'.cell? ⟨gx, 2, none⟩ = some (.slice A2 x.f1.length c2) ∧ w'.cell? ⟨gx, 3, none⟩ = some (.slice A3 x.f2.length c3) ∧ w'.cell? ⟨gx, 4, none⟩ = some (.int .i64 x.f3) ∧ w'.cell? ⟨gx, 5, none⟩ = some (.int .i64 x.f4) ∧ w'.cell? ⟨gx, 6, none⟩ = some (.int .i64 x.f5) ∧ w'.cell? ⟨gx, 7, none⟩ = some (.slice A7 x.f6.length c7))
        (first | go_keep | exact ⟨pw_cell_below hv5 e0, pw_cell_below hv5 e1, pw_cell_below hv5 e2, pw_cell_below hv5 e3, pw_cell_below hv5 e4, pw_cell_below hv5 e5, pw_cell_below hv5 e6, pw_cell_below hv5 e7⟩ | exact ⟨pw_cell_below hv4 e0, pw_cell_below hv4 e1, pw_cell_below hv4 e2, pw_cell_below hv4 e3, pw_cell_below hv4 e4, pw_cell_below hv4 e5, pw_cell_below hv4 e6, pw_cell_below hv4 e7⟩ | exact ⟨pw_cell_below hv3 e0, pw_cell_below hv3 e1, pw_cell_below hv3 e2, pw_cell_below hv3 e3, pw_cell_below hv3 e4, pw_cell_below hv3 e5, pw_cell_below hv3 e6, pw_cell_below hv3 e7⟩ | exact ⟨pw_cell_below hv2 e0, pw_cell_below hv2 e1, pw_cell_below hv2 e2, pw_cell_below hv2 e3, pw_cell_below hv2 e4, pw_cell_below hv2 e5, pw_cell_below hv2 e6, pw_cell_below hv2 e7⟩ | exact ⟨pw_cell_below hv1 e0, pw_cell_below hv1 e1, pw_cell_below hv1 e2, pw_cell_below hv1 e3, pw_cell_below hv1 e4, pw_cell_below hv1 e5, pw_cell_below hv1 e6, pw_cell_below hv1 e7⟩)
        ((first
          | (go_at_call 76; refine (H3 u_4 (hPr.below hv4)).mono ?_; rintro e u_5 ⟨rfl, hu5⟩; have hv5 := hv4.trans (hu5.mono hv4.size))
          | (go_at_call 76; refine (H2 u_3 (hPr.below hv3)).mono ?_; rintro e u_4 ⟨rfl, hu4⟩; have hv4 := hv3.trans (hu4.mono hv3.size))
          | (go_at_call 76; refine (H1 u_2 (hPr.below hv2)).mono ?_; rintro e u_3 ⟨rfl, hu3⟩; have hv3 := hv2.trans (hu3.mono hv2.size))
          | (go_at_call 79; refine (H0 _ (hPr.below hv1)).mono ?_; rintro e u_2 ⟨rfl, hu2⟩; have hv2 := hv1.trans (hu2.mono hv1.size))))
      have hVz := hv5.size
      have hown := own_strs u_5 #[.string ⟨#[114, 101, 99, 111, 114, 100]⟩, .string (B y0), .string (B y1), .string (B y2), .string (B y3)] [wRecord, y0, y1, y2, y3] V.heap.size 5 rfl hVz rfl (by decide)
      have hvA : Below V.heap.size V (u_5.alloc (.cells #[.string ⟨#[114, 101, 99, 111, 114, 100]⟩, .string (B y0), .string (B y1), .string (B y2), .string (B y3)] 9)) := hv5.trans ((below_alloc (Below.refl _ _) _).mono hVz)
      have hDU := hDr.below hvA
      have hVU := hvA.size
      obtain ⟨gw, hgw⟩ : ∃ y, y = u_5.heap.size := ⟨_, rfl⟩
      rw [← hgw] at hown ⊢
      generalize u_5.alloc (.cells #[.string ⟨#[114, 101, 99, 111, 114, 100]⟩, .string (B y0), .string (B y1), .string (B y2), .string (B y3)] 9) = U at *
      clear hgw
      have yy2 := pw_cell_below hvA e2
      clear H0 H1 H2 H3 hv1 hv2 hv3 hv4 hv5 hu2 hu3 hu4 hu5 hVz
      go_wp2_with fail
      refine wp_of_LQ (n := 12) (pt_loop7 V _ hPr gx A2 A7 c2 c7 x.f1 x.f6 e7 q2 hl2 q7 (by omega) (by omega) hgr [wRecord, y0, y1, y2, y3] (show (5 : Nat) ≤ 100 by omega) _ hown hvA _ _ _ _ _ _ _ _ _ _ _ _ _ _ _ _ _ _ _ _ _ _ _ _ _ _ _ _ _ _ _ _ _ _ _ _ _ _ _ _ _ _ _ _ _ _ _ _ _ _ _ _ _ _ _ _ _ _ _ _ _ _ _ _ _ _ _ _ _ _ _ _ _ _ _ _ _ _ _ _ _ _ _ _ _ _ _ _ _ _ _ _ _ _ _ _ _ _ _ _ _ _ _ _ _ _ _ _ _ _ _ _ _ _ _ _ _ _ _ _ _ _ _ _ _ _ _ _ _ _ _ _ _ _ _ _ _ _ _ _ _ _ _ _ _ _ _ _ _ _ _ _ _ _ _ _ _ _ _ _ _ _ _ _ _ _ _ _ _ _ _ _ _ _ _ _ _ _ _ _ _ _ _ _ _ _ _ _ _ _ _ _ _ _ _ _ _ _ _ ?_)
      intro v1 z22 z23 z183 z184 z185 z186 z187 z188 z189 z190 z191 z192 z193 z194 z195 z196 z197 z198 z199 w4 hB4 hown4
      have hD4 := hDr.below hB4
      obtain ⟨g5, k5, rfl, hk5, hw5, hn5, hg5⟩ := own_words hown4 (show 0 < 5 + x.f1.length by omega)
      replace hn5 := Go.Lib.hid hn5
      have hn6 : 5 + x.f1.length ≤ 1000000000 := by omega
      rw [show ([wRecord, y0, y1, y2, y3] : List (List UInt8)).length = 5 from rfl] at *
      have hB4V := hBV.trans (hB4.mono (by omega))
      generalize 5 + x.f1.length = n6 at *
      replace hfit := hfit.out
      clear hown4 hg5 hown hDU hvA hVU yy2
      go_wp2_with ((first | (go_at_call 72; refine (line_at _ b g5 n6 k5 sx ([wRecord, y0, y1, y2, y3] ++ x.f1.map (groupWord x.f6)) hD4 hw5 hn5.out hn6 hk5 hfit).mono ?_; rintro e u_9 ⟨rfl, hD9, hu9, hk9⟩)))
      have hBe := hB4V.trans hu9
      rw [hnew.out] at hD9
      go_wp2_with fail
      go_roundw
      case rel => exact ⟨j + 1, hlt, by first | rfl | rw [hw64], hD9, hBe⟩
      case measure => simp only [intOf]; first | omega | (rw [hw64]; omega)
    · have hjl : j = l.length := by omega
      subst hjl
      rw [List.take_length] at *
      have hltf : ¬ ((l.length : Int) < (l.length : Int)) := by omega
      go_wp2_with fail
      exact ⟨rfl, hexit _ _ _ _ _ _ _ _ _ _ _ _ _ _ _ _ _ _ _ _ _ _ _ _ _ _ _ _ _ _ _ _ _ _ _ _ _ _ _ _ _ _ _ _ _ _ _ _ _ hBr hDr⟩
end Go.Proofs.YtggogenhakdhiaaDoor.PSnapTexts
end
section
set_option linter.unusedVariables false
set_option linter.unusedSimpArgs false
attribute [local go_sem ↓] Go.wp_at_zero Go.wp_at_succ
namespace Go.Proofs.YtggogenhakdhiaaDoor.PSnapTexts
open Go.RowKit Go.Proofs.YtggogenhakdhiaaDoorW.PrintWords Go.Proofs.YtggogenhakdhiaaDoorW.PrintLast Go.Proofs.YtggogenhakdhiaaDoorW.PrintMore
open Classical

set_option maxHeartbeats 8000000 in
set_option maxRecDepth 20000 in
theorem ptext_walk {M : Nat} (w : World) (f : FoldV) (A1 A2 A3 A4 A5 A6 : Option Addr) (c1 c2 c3 c4 c5 c6 : Nat) (hf : FoldIn w f A1 A2 A3 A4 A5 A6 c1 c2 c3 c4 c5 c6) (hk : FoldOk M f) (hpow : Pow w) :
    Calls Tryd.prog 35 #[.agg #[.int .i64 f.c, .slice A1 f.l1.length c1, .slice A2 f.l2.length c2, .slice A3 f.l3.length c3, .slice A4 f.l4.length c4, .slice A5 f.l5.length c5, .slice A6 f.l6.length c6]] w fun e w' => e = .returned (.string (B (textL f))) ∧ Below w.heap.size w w' := by
  have hM := hk.m
  have hx := heap_alloc_new w (.cells #[.int .i64 f.c, .slice A1 f.l1.length c1, .slice A2 f.l2.length c2, .slice A3 f.l3.length c3, .slice A4 f.l4.length c4, .slice A5 f.l5.length c5, .slice A6 f.l6.length c6] 75)
  have hW : Below w.heap.size w (w.alloc (.cells #[.int .i64 f.c, .slice A1 f.l1.length c1, .slice A2 f.l2.length c2, .slice A3 f.l3.length c3, .slice A4 f.l4.length c4, .slice A5 f.l5.length c5, .slice A6 f.l6.length c6] 75)) := below_alloc (Below.refl _ _) _
  have hz : w.heap.size + 1 = (w.alloc (.cells #[.int .i64 f.c, .slice A1 f.l1.length c1, .slice A2 f.l2.length c2, .slice A3 f.l3.length c3, .slice A4 f.l4.length c4, .slice A5 f.l5.length c5, .slice A6 f.l6.length c6] 75)).heap.size := by simp
  replace hz := Go.Lib.hid hz
  replace hf := hf.below hW
  replace hpow := hpow.below hW
  go_enter Tryd.func35, Tryd.ntmps35
  go_upto_region 5 with fail
  replace hz := hz.out
  generalize w.alloc (.cells #[.int .i64 f.c, .slice A1 f.l1.length c1, .slice A2 f.l2.length c2, .slice A3 f.l3.length c3, .slice A4 f.l4.length c4, .slice A5 f.l5.length c5, .slice A6 f.l6.length c6] 75) = W at *
  have hD0 : Bld W.heap.size [] (W.alloc (.cells #[.pointer none, .slice none 0 0] 122)) := Lib.IsBuilderF.of (Lib.fresh_isBuilder 122 5 W)
  have hB0 : Below W.heap.size W (W.alloc (.cells #[.pointer none, .slice none 0 0] 122)) := below_alloc (Below.refl _ _) _
  obtain ⟨b, hbW⟩ : ∃ y, y = W.heap.size := ⟨_, rfl⟩
  rw [← hbW] at hz hD0 hB0
  rw [hz]
  clear hz
  obtain ⟨g, hg⟩ : ∃ y, y = w.heap.size := ⟨_, rfl⟩
  rw [← hg] at hx ⊢
  replace hg := Go.Lib.hid hg
  replace hbW := Go.Lib.hid hbW
  generalize W.alloc (.cells #[.pointer none, .slice none 0 0] 122) = W1 at *
  have a0 := blk_cell hx 0
  have a1 := blk_cell hx 1
  have a2 := blk_cell hx 2
  have a3 := blk_cell hx 3
  have a4 := blk_cell hx 4
  have a5 := blk_cell hx 5
  have a6 := blk_cell hx 6
  simp only [List.getElem?_toArray, List.getElem?_cons_zero, List.getElem?_cons_succ] at a0 a1 a2 a3 a4 a5 a6
  clear hx
  have hBW : Below W.heap.size W W1 := by rw [← hbW.out]; exact hB0
  have x0 := pw_cell_below hBW a0
  have hP1 := hpow.below hBW
  have y0 := clock_len hk.c
  have y1 := lock_part hM hk.o1 hk.n1 wLock (by decide) f.l1.length
  rw [List.take_length] at y1
  have y2 := lock_part hM hk.o2 hk.n2 wWait (by decide) f.l2.length
  rw [List.take_length] at y2
  have y3 := version_part hM hk.o3 hk.n3 f.l3.length
  rw [List.take_length] at y3
  have y4 := intent_part hM hk.o4 hk.n4 f.l4.length
  rw [List.take_length] at y4
  have y5 := tx_part hM hk.o5 hk.n5 f.l5.length
  rw [List.take_length] at y5
  have hfit0 : ([] : List UInt8).length + (lineL [wClock, Lib.itoa f.c]).length ≤ 140737488355328 := by show 0 + (clockLine f.c).length ≤ _; omega
  have hbs := hD0.lt
  go_upto_region 6 with ((first | (go_at_call 72; refine (line_at _ b _ 2 2 [] [wClock, Lib.itoa f.c] ((hD0.below hB2).below (below_alloc (Below.refl _ _) _)) (words_alloc _ _ _ _ rfl) rfl (by decide) (by decide) hfit0).mono ?_; rintro e w3 ⟨rfl, hD3, hB3, hO3⟩) | (go_at_call 76; refine (itoa_calls f.c hk.c _ hP1).mono ?_; rintro e w2 ⟨rfl, hB2⟩)))
  have hd10 : Below b W w3 := hB0.trans ((hB2.mono (by omega)).trans ((below_alloc (Below.refl _ _) _ |>.mono (by have := hB2.size; omega)).trans hB3))
  have hD10 : Bld b (clockLine f.c) w3 := hD3
  clear hD3 hB3 hO3 hB2 hP1 x0 hfit0 hbs
  have hBW1 : Below W.heap.size W w3 := by rw [← hbW.out]; exact hd10
  have x1 := pw_cell_below hBW1 a1
  go_wp2_with fail
  refine wp_of_LQ (n := 0) (pt_loop1 hM W _ b hbW.out hpow A1 c1 f.l1 (clockLine f.c) hf.g1 hf.n1 hk.o1 hk.n1 (by (try simp only [List.length_append]); omega) hd10 hD10 _ _ _ _ _ _ _ _ _ _ _ _ _ _ _ _ _ _ _ _ _ _ _ _ _ _ _ _ _ _ _ _ _ _ _ _ _ _ _ _ _ _ _ _ _ _ _ _ _ _ _ _ _ _ _ _ _ _ _ _ _ _ _ _ _ _ _ _ _ _ _ _ _ _ _ _ _ _ _ _ _ _ _ _ _ _ _ _ _ _ _ _ _ _ _ _ _ _ _ _ _ _ _ _ _ _ _ _ _ _ _ _ _ _ _ _ _ _ _ _ _ _ _ _ _ _ _ _ _ _ _ _ _ _ _ _ _ _ _ _ _ _ _ _ _ _ _ _ _ _ _ _ _ _ _ _ _ _ _ _ _ _ _ _ _ _ _ _ _ _ _ _ _ _ _ _ _ _ _ _ _ _ _ _ _ _ _ _ _ _ _ _ _ _ _ _ _ _ ?_)
  intro z8 z36 z37 z38 z39 z40 z41 z42 z43 z44 z45 z46 z47 z48 z49 z50 z51 z52 w11 hd11 hD11
  clear x1 hBW1
  have hBW2 : Below W.heap.size W w11 := by rw [← hbW.out]; exact hd11
  have x2 := pw_cell_below hBW2 a2
  go_wp2_with fail
  refine wp_of_LQ (n := 2) (pt_loop2 hM W _ b hbW.out hpow A2 c2 f.l2 (clockLine f.c ++ f.l1.flatMap (lockLine wLock)) hf.g2 hf.n2 hk.o2 hk.n2 (by (try simp only [List.length_append]); omega) hd11 hD11 _ _ _ _ _ _ _ _ _ _ _ _ _ _ _ _ _ _ _ _ _ _ _ _ _ _ _ _ _ _ _ _ _ _ _ _ _ _ _ _ _ _ _ _ _ _ _ _ _ _ _ _ _ _ _ _ _ _ _ _ _ _ _ _ _ _ _ _ _ _ _ _ _ _ _ _ _ _ _ _ _ _ _ _ _ _ _ _ _ _ _ _ _ _ _ _ _ _ _ _ _ _ _ _ _ _ _ _ _ _ _ _ _ _ _ _ _ _ _ _ _ _ _ _ _ _ _ _ _ _ _ _ _ _ _ _ _ _ _ _ _ _ _ _ _ _ _ _ _ _ _ _ _ _ _ _ _ _ _ _ _ _ _ _ _ _ _ _ _ _ _ _ _ _ _ _ _ _ _ _ _ _ _ _ _ _ _ _ _ _ _ _ _ _ _ _ _ _ ?_)
  intro z10 z57 z58 z59 z60 z61 z62 z63 z64 z65 z66 z67 z68 z69 z70 z71 z72 z73 w12 hd12 hD12
  clear x2 hBW2
  have hBW3 : Below W.heap.size W w12 := by rw [← hbW.out]; exact hd12
  have x3 := pw_cell_below hBW3 a3
  go_wp2_with fail
  refine wp_of_LQ (n := 4) (pt_loop3 hM W _ b hbW.out hpow A3 c3 f.l3 (clockLine f.c ++ f.l1.flatMap (lockLine wLock) ++ f.l2.flatMap (lockLine wWait)) hf.g3 hf.n3 hk.o3 hk.n3 (by (try simp only [List.length_append]); omega) hd12 hD12 _ _ _ _ _ _ _ _ _ _ _ _ _ _ _ _ _ _ _ _ _ _ _ _ _ _ _ _ _ _ _ _ _ _ _ _ _ _ _ _ _ _ _ _ _ _ _ _ _ _ _ _ _ _ _ _ _ _ _ _ _ _ _ _ _ _ _ _ _ _ _ _ _ _ _ _ _ _ _ _ _ _ _ _ _ _ _ _ _ _ _ _ _ _ _ _ _ _ _ _ _ _ _ _ _ _ _ _ _ _ _ _ _ _ _ _ _ _ _ _ _ _ _ _ _ _ _ _ _ _ _ _ _ _ _ _ _ _ _ _ _ _ _ _ _ _ _ _ _ _ _ _ _ _ _ _ _ _ _ _ _ _ _ _ _ _ _ _ _ _ _ _ _ _ _ _ _ _ _ _ _ _ _ _ _ _ _ _ _ _ _ _ _ _ _ _ _ _ ?_)
  intro z12 z78 z79 z80 z81 z82 z83 z84 z85 z86 z87 z88 z89 z90 z91 z92 z93 z94 z95 z96 z97 z98 z99 z100 w13 hd13 hD13
  clear x3 hBW3
  have hBW4 : Below W.heap.size W w13 := by rw [← hbW.out]; exact hd13
  have x4 := pw_cell_below hBW4 a4
  go_wp2_with fail
  refine wp_of_LQ (n := 6) (pt_loop4 hM W _ b hbW.out hpow A4 c4 f.l4 (clockLine f.c ++ f.l1.flatMap (lockLine wLock) ++ f.l2.flatMap (lockLine wWait) ++ f.l3.flatMap versionLine) hf.g4 hf.n4 hk.o4 hk.n4 (by (try simp only [List.length_append]); omega) hd13 hD13 _ _ _ _ _ _ _ _ _ _ _ _ _ _ _ _ _ _ _ _ _ _ _ _ _ _ _ _ _ _ _ _ _ _ _ _ _ _ _ _ _ _ _ _ _ _ _ _ _ _ _ _ _ _ _ _ _ _ _ _ _ _ _ _ _ _ _ _ _ _ _ _ _ _ _ _ _ _ _ _ _ _ _ _ _ _ _ _ _ _ _ _ _ _ _ _ _ _ _ _ _ _ _ _ _ _ _ _ _ _ _ _ _ _ _ _ _ _ _ _ _ _ _ _ _ _ _ _ _ _ _ _ _ _ _ _ _ _ _ _ _ _ _ _ _ _ _ _ _ _ _ _ _ _ _ _ _ _ _ _ _ _ _ _ _ _ _ _ _ _ _ _ _ _ _ _ _ _ _ _ _ _ _ _ _ _ _ _ _ _ _ _ _ _ _ _ _ _ ?_)
  intro z14 z105 z106 z107 z108 z109 z110 z111 z112 z113 z114 z115 z116 z117 z118 z119 z120 z121 z122 z123 w14 hd14 hD14
  clear x4 hBW4
  have hBW5 : Below W.heap.size W w14 := by rw [← hbW.out]; exact hd14
  have x5 := pw_cell_below hBW5 a5
  go_wp2_with fail
  refine wp_of_LQ (n := 8) (pt_loop5 hM W _ b hbW.out hpow A5 c5 f.l5 (clockLine f.c ++ f.l1.flatMap (lockLine wLock) ++ f.l2.flatMap (lockLine wWait) ++ f.l3.flatMap versionLine ++ f.l4.flatMap intentLine) hf.g5 hf.n5 hk.o5 hk.n5 (by (try simp only [List.length_append]); omega) hd14 hD14 _ _ _ _ _ _ _ _ _ _ _ _ _ _ _ _ _ _ _ _ _ _ _ _ _ _ _ _ _ _ _ _ _ _ _ _ _ _ _ _ _ _ _ _ _ _ _ _ _ _ _ _ _ _ _ _ _ _ _ _ _ _ _ _ _ _ _ _ _ _ _ _ _ _ _ _ _ _ _ _ _ _ _ _ _ _ _ _ _ _ _ _ _ _ _ _ _ _ _ _ _ _ _ _ _ _ _ _ _ _ _ _ _ _ _ _ _ _ _ _ _ _ _ _ _ _ _ _ _ _ _ _ _ _ _ _ _ _ _ _ _ _ _ _ _ _ _ _ _ _ _ _ _ _ _ _ _ _ _ _ _ _ _ _ _ _ _ _ _ _ _ _ _ _ _ _ _ _ _ _ _ _ _ _ _ _ _ _ _ _ _ _ _ _ _ _ _ _ ?_)
  intro z16 z17 z128 z129 z130 z131 z132 z133 z134 z135 z136 z137 z138 z139 z140 z141 z142 z143 z144 z145 z146 z147 z148 z149 z150 z151 z152 z153 z154 z155 w15 hd15 hD15
  clear x5 hBW5
  have hBW6 : Below W.heap.size W w15 := by rw [← hbW.out]; exact hd15
  have x6 := pw_cell_below hBW6 a6
  go_wp2_with fail
  refine wp_of_LQ (n := 10) (pt_loop6 hM W _ b hbW.out hpow A6 c6 f.l6 (clockLine f.c ++ f.l1.flatMap (lockLine wLock) ++ f.l2.flatMap (lockLine wWait) ++ f.l3.flatMap versionLine ++ f.l4.flatMap intentLine ++ f.l5.flatMap txLine) hf.g6 hf.n6 hk.o6 hk.n6 (by (try simp only [List.length_append]); omega) hd15 hD15 _ _ _ _ _ _ _ _ _ _ _ _ _ _ _ _ _ _ _ _ _ _ _ _ _ _ _ _ _ _ _ _ _ _ _ _ _ _ _ _ _ _ _ _ _ _ _ _ _ _ _ _ _ _ _ _ _ _ _ _ _ _ _ _ _ _ _ _ _ _ _ _ _ _ _ _ _ _ _ _ _ _ _ _ _ _ _ _ _ _ _ _ _ _ _ _ _ _ _ _ _ _ _ _ _ _ _ _ _ _ _ _ _ _ _ _ _ _ _ _ _ _ _ _ _ _ _ _ _ _ _ _ _ _ _ _ _ _ _ _ _ _ _ _ _ _ _ _ _ _ _ _ _ _ _ _ _ _ _ _ _ _ _ _ _ _ _ _ _ _ _ _ _ _ _ _ _ _ _ _ _ _ _ _ _ _ _ _ _ _ _ _ _ _ _ _ _ _ ?_)
  intro z19 z20 z22 z23 z160 z161 z162 z163 z164 z165 z166 z167 z168 z169 z170 z171 z172 z173 z174 z175 z176 z177 z178 z179 z180 z181 z182 z183 z184 z185 z186 z187 z188 z189 z190 z191 z192 z193 z194 z195 z196 z197 z198 z199 z200 z201 z202 z203 w16 hd16 hD16
  clear x6 hBW6
  go_wp2_with (go_at_call 81; refine (builderS b _ w16 hD16).mono ?_; rintro e w17 ⟨rfl, hB17⟩)
  go_ret
  have hd17 := hd16.trans hB17
  rw [hbW.out] at hd17
  have hT : textL f = clockLine f.c ++ (f.l1.flatMap (lockLine wLock) ++ (f.l2.flatMap (lockLine wWait) ++ (f.l3.flatMap versionLine ++ (f.l4.flatMap intentLine ++ (f.l5.flatMap txLine ++ f.l6.flatMap recLine))))) := by simp only [textL, head3, List.append_assoc]
  exact ⟨by rw [hT]; rfl, hW.trans (hd17.mono hW.size)⟩
end Go.Proofs.YtggogenhakdhiaaDoor.PSnapTexts
end
