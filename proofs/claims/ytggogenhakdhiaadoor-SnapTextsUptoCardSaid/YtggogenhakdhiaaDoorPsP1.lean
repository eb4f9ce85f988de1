/- A loop of the program's Text, walked. (ahead of it: A loop of the program's Text, walked. A loop of the program's Text, walked. A loop of the program's Text, walked.) -/
import Derived.Test.YtggogenhakdhiaaDoorPsP0
import Derived.Deep.RegionHeldLaw
import Derived.Deep.DrawnRows
section
set_option linter.unusedVariables false
set_option linter.unusedSimpArgs false
attribute [local go_sem ↓] Go.wp_at_zero Go.wp_at_succ
namespace Go.Proofs.YtggogenhakdhiaaDoor.PSnapTexts
open Go.RowKit Go.Proofs.YtggogenhakdhiaaDoorW.PrintWords Go.Proofs.YtggogenhakdhiaaDoorW.PrintLast Go.Proofs.YtggogenhakdhiaaDoorW.PrintMore
open Classical

set_option maxHeartbeats 8000000 in
set_option maxRecDepth 20000 in
theorem pt_loop1 {M : Nat} (hM : M ≤ 1048576) (W w : World) (b : Nat) (hbW : b = W.heap.size) (hpow : Pow W) (A : Option Addr) (c : Nat) (l : List S135) (S0 : List UInt8) (hg : Kd.C k135 W A l.length l) (hc : l.length ≤ c)
    (hl : ∀ x ∈ l, LockOk M x) (hll : l.length ≤ M) (hS : S0.length ≤ 50000000000000) (hB0 : Below b W w) (hD0 : Bld b S0 w) {X : Act → World → Prop} (u0 u1 u2 u7 u8 u9 u10 u11 u12 u13 u14 u15 u16 u17 u18 u19 u20 u21 u22 u23 u24 u25 u26 u27 u28 u29 u30 u31 u32 u36 u37 u38 u39 u40 u41 u42 u43 u44 u45 u46 u47 u48 u49 u50 u51 u52 u53 u54 u55 u56 u57 u58 u59 u60 u61 u62 u63 u64 u65 u66 u67 u68 u69 u70 u71 u72 u73 u74 u75 u76 u77 u78 u79 u80 u81 u82 u83 u84 u85 u86 u87 u88 u89 u90 u91 u92 u93 u94 u95 u96 u97 u98 u99 u100 u101 u102 u103 u104 u105 u106 u107 u108 u109 u110 u111 u112 u113 u114 u115 u116 u117 u118 u119 u120 u121 u122 u123 u124 u125 u126 u127 u128 u129 u130 u131 u132 u133 u134 u135 u136 u137 u138 u139 u140 u141 u142 u143 u144 u145 u146 u147 u148 u149 u150 u151 u152 u153 u154 u155 u156 u157 u158 u159 u160 u161 u162 u163 u164 u165 u166 u167 u168 u169 u170 u171 u172 u173 u174 u175 u176 u177 u178 u179 u180 u181 u182 u183 u184 u185 u186 u187 u188 u189 u190 u191 u192 u193 u194 u195 u196 u197 u198 u199 u200 u201 u202 u203 u204 : Value)
    (hexit : ∀ (v8 v36 v37 v38 v39 v40 v41 v42 v43 v44 v45 v46 v47 v48 v49 v50 v51 v52 : Value) w', Below b W w' → Bld b (S0 ++ l.flatMap (lockLine wLock)) w' → X ⟨List.toArray (u0 :: u1 :: u2 :: .pointer (some ⟨b, 0, none⟩) :: .func (.func 72) #[] #[.pointer (some ⟨b, 0, none⟩)] :: .func (.func 76) #[] #[] :: .func (.func 77) #[] #[] :: u7 :: v8 :: u9 :: u10 :: u11 :: u12 :: u13 :: u14 :: u15 :: u16 :: u17 :: u18 :: u19 :: u20 :: u21 :: u22 :: u23 :: u24 :: u25 :: u26 :: u27 :: u28 :: u29 :: u30 :: u31 :: u32 :: .slice A l.length c :: .int .i64 (l.length : Int) :: .int .i64 (l.length : Int) :: v36 :: v37 :: v38 :: v39 :: v40 :: v41 :: v42 :: v43 :: v44 :: v45 :: v46 :: v47 :: v48 :: v49 :: v50 :: v51 :: v52 :: u53 :: u54 :: u55 :: u56 :: u57 :: u58 :: u59 :: u60 :: u61 :: u62 :: u63 :: u64 :: u65 :: u66 :: u67 :: u68 :: u69 :: u70 :: u71 :: u72 :: u73 :: u74 :: u75 :: u76 :: u77 :: u78 :: u79 :: u80 :: u81 :: u82 :: u83 :: u84 :: u85 :: u86 :: u87 :: u88 :: u89 :: u90 :: u91 :: u92 :: u93 :: u94 :: u95 :: u96 :: u97 :: u98 :: u99 :: u100 :: u101 :: u102 :: u103 :: u104 :: u105 :: u106 :: u107 :: u108 :: u109 :: u110 :: u111 :: u112 :: u113 :: u114 :: u115 :: u116 :: u117 :: u118 :: u119 :: u120 :: u121 :: u122 :: u123 :: u124 :: u125 :: u126 :: u127 :: u128 :: u129 :: u130 :: u131 :: u132 :: u133 :: u134 :: u135 :: u136 :: u137 :: u138 :: u139 :: u140 :: u141 :: u142 :: u143 :: u144 :: u145 :: u146 :: u147 :: u148 :: u149 :: u150 :: u151 :: u152 :: u153 :: u154 :: u155 :: u156 :: u157 :: u158 :: u159 :: u160 :: u161 :: u162 :: u163 :: u164 :: u165 :: u166 :: u167 :: u168 :: u169 :: u170 :: u171 :: u172 :: u173 :: u174 :: u175 :: u176 :: u177 :: u178 :: u179 :: u180 :: u181 :: u182 :: u183 :: u184 :: u185 :: u186 :: u187 :: u188 :: u189 :: u190 :: u191 :: u192 :: u193 :: u194 :: u195 :: u196 :: u197 :: u198 :: u199 :: u200 :: u201 :: u202 :: u203 :: u204 :: []), []⟩ w') :
    Code.wp Tryd.prog ptLoop1 (LQ 0 X) ⟨List.toArray (u0 :: u1 :: u2 :: .pointer (some ⟨b, 0, none⟩) :: .func (.func 72) #[] #[.pointer (some ⟨b, 0, none⟩)] :: .func (.func 76) #[] #[] :: .func (.func 77) #[] #[] :: u7 :: u8 :: u9 :: u10 :: u11 :: u12 :: u13 :: u14 :: u15 :: u16 :: u17 :: u18 :: u19 :: u20 :: u21 :: u22 :: u23 :: u24 :: u25 :: u26 :: u27 :: u28 :: u29 :: u30 :: u31 :: u32 :: .slice A l.length c :: .int .i64 (l.length : Int) :: .int .i64 0 :: u36 :: u37 :: u38 :: u39 :: u40 :: u41 :: u42 :: u43 :: u44 :: u45 :: u46 :: u47 :: u48 :: u49 :: u50 :: u51 :: u52 :: u53 :: u54 :: u55 :: u56 :: u57 :: u58 :: u59 :: u60 :: u61 :: u62 :: u63 :: u64 :: u65 :: u66 :: u67 :: u68 :: u69 :: u70 :: u71 :: u72 :: u73 :: u74 :: u75 :: u76 :: u77 :: u78 :: u79 :: u80 :: u81 :: u82 :: u83 :: u84 :: u85 :: u86 :: u87 :: u88 :: u89 :: u90 :: u91 :: u92 :: u93 :: u94 :: u95 :: u96 :: u97 :: u98 :: u99 :: u100 :: u101 :: u102 :: u103 :: u104 :: u105 :: u106 :: u107 :: u108 :: u109 :: u110 :: u111 :: u112 :: u113 :: u114 :: u115 :: u116 :: u117 :: u118 :: u119 :: u120 :: u121 :: u122 :: u123 :: u124 :: u125 :: u126 :: u127 :: u128 :: u129 :: u130 :: u131 :: u132 :: u133 :: u134 :: u135 :: u136 :: u137 :: u138 :: u139 :: u140 :: u141 :: u142 :: u143 :: u144 :: u145 :: u146 :: u147 :: u148 :: u149 :: u150 :: u151 :: u152 :: u153 :: u154 :: u155 :: u156 :: u157 :: u158 :: u159 :: u160 :: u161 :: u162 :: u163 :: u164 :: u165 :: u166 :: u167 :: u168 :: u169 :: u170 :: u171 :: u172 :: u173 :: u174 :: u175 :: u176 :: u177 :: u178 :: u179 :: u180 :: u181 :: u182 :: u183 :: u184 :: u185 :: u186 :: u187 :: u188 :: u189 :: u190 :: u191 :: u192 :: u193 :: u194 :: u195 :: u196 :: u197 :: u198 :: u199 :: u200 :: u201 :: u202 :: u203 :: u204 :: []), []⟩ w := by
  conv => arg 2; whnf
  replace hbW := Go.Lib.hid hbW
  go_loopw [35] (fun i wr => ∃ j : Nat, j ≤ l.length ∧ i = .int .i64 j ∧ Bld b (S0 ++ (l.take j).flatMap (lockLine wLock)) wr ∧ Below b W wr) (fun i _ => l.length - (intOf i).toNat)
  case atStart => exact ⟨0, by omega, rfl, by simpa using hD0, hB0⟩
  case round =>
    obtain ⟨j, hj, rfl, hDr, hBr⟩ := hrel
    have hBW : Below W.heap.size W wr := by rw [← hbW.out]; exact hBr
    by_cases hlt : j < l.length
    · have hltz : (j : Int) < (l.length : Int) := by omega
      have hw64 : wrap64 ((j : Int) + 1) = ((j + 1 : Nat) : Int) := by unfold wrap64; omega
      obtain ⟨G, O, rfl, hcA⟩ := lock_plain hg (by omega)
      obtain ⟨b0, b1, b2, b3⟩ := hcA j hlt
      have hok := hl _ (List.getElem_mem hlt)
      have htk := take_flat (lockLine wLock) l j hlt
      have hpl : ((l.take j).flatMap (lockLine wLock)).length ≤ 4000000000000 := lock_part hM hl hll wLock (by decide) j
      have hrl := lock_len (hl _ (List.getElem_mem hlt)) wLock (by decide)
      generalize l[j] = x at *
      replace b0 := pw_cell_below hBW b0
      replace b1 := pw_cell_below hBW b1
      replace b2 := pw_cell_below hBW b2
      replace b3 := pw_cell_below hBW b3
      have hPr := hpow.below hBW
      have H0 := fun (u : World) (hu : Pow u) => quote_walk u x.f0 (by have := hok.s; omega)
      have H1 := fun (u : World) (hu : Pow u) => page_walk u x.f1 hok.i hu
      have H2 := fun (u : World) (hu : Pow u) => itoa_calls x.f2 hok.m u hu
      have hnew : S0 ++ (l.take j).flatMap (lockLine wLock) ++ lineL [wLock, quoteL x.f0.data.toList, idL x.f1, Lib.itoa x.f2] = S0 ++ (l.take (j + 1)).flatMap (lockLine wLock) := by rw [htk]; simp [lockLine, lockWords]
      have hfit : (S0 ++ (l.take j).flatMap (lockLine wLock)).length + (lineL [wLock, quoteL x.f0.data.toList, idL x.f1, Lib.itoa x.f2]).length ≤ 140737488355328 := by
        have h_ : (lineL [wLock, quoteL x.f0.data.toList, idL x.f1, Lib.itoa x.f2]).length ≤ 4000000 := Nat.le_trans hrl (by omega)
        rw [List.length_append]; omega
      generalize quoteL x.f0.data.toList = q0 at *
      generalize idL x.f1 = q1 at *
      generalize Lib.itoa x.f2 = q2 at *
      generalize S0 ++ (l.take j).flatMap (lockLine wLock) = sx at *
      replace hnew := Go.Lib.hid hnew
      replace htk := Go.Lib.hid htk
      replace hrl := Go.Lib.hid hrl
      replace hpl := Go.Lib.hid hpl
      have hbr : b ≤ wr.heap.size := by have := hDr.lt; omega
      clear hcA
      go_upto_region 9 with fail
      have hB1 : Below wr.heap.size wr (wr.alloc (.cells #[.string x.f0, .int .i64 x.f1.f0, .int .i64 x.f1.f1, .int .i64 x.f2] 135)) := below_alloc (Below.refl _ _) _
      have hx := heap_alloc_new wr (.cells #[.string x.f0, .int .i64 x.f1.f0, .int .i64 x.f1.f1, .int .i64 x.f2] 135)
      obtain ⟨gx, hgx⟩ : ∃ y, y = wr.heap.size := ⟨_, rfl⟩
      have hgb : gx ≠ b := by have := hDr.lt; omega
      rw [← hgx] at hx ⊢
      generalize wr.alloc (.cells #[.string x.f0, .int .i64 x.f1.f0, .int .i64 x.f1.f1, .int .i64 x.f2] 135) = V at *
      clear hgx b0 b1 b2 b3
      have e0 := blk_cell hx 0
      have e1 := blk_cell hx 1
      have e2 := blk_cell hx 2
      have e3 := blk_cell hx 3
      simp only [List.getElem?_toArray, List.getElem?_cons_zero, List.getElem?_cons_succ] at e0 e1 e2 e3
      replace hx := Go.Lib.hid hx
      have hv1 : Below V.heap.size V V.drew := below_drew (Below.refl _ _)
      replace hDr := hDr.below hB1
      replace hPr := hPr.below hB1
      have hbV := hDr.lt
      have hBV : Below b W V := hBr.trans (hB1.mono hbr)
      go_region_held_law (fun w' => w'.cell? ⟨gx, 0, none⟩ = some (.string x.f0) ∧ w'.cell? ⟨gx, 1, none⟩ = some (.int .i64 x.f1.f0) ∧ w'.cell? ⟨gx, 2, none⟩ = some (.int .i64 x.f1.f1) ∧ w'.cell? ⟨gx, 3, none⟩ = some (.int .i64 x.f2))
        (first | go_keep | exact ⟨kept_cell hk9 (hv4.trans ((below_alloc (Below.refl _ _) _).mono hv4.size)) hx hgb (by decide) e0, kept_cell hk9 (hv4.trans ((below_alloc (Below.refl _ _) _).mono hv4.size)) hx hgb (by decide) e1, kept_cell hk9 (hv4.trans ((below_alloc (Below.refl _ _) _).mono hv4.size)) hx hgb (by decide) e2, kept_cell hk9 (hv4.trans ((below_alloc (Below.refl _ _) _).mono hv4.size)) hx hgb (by decide) e3⟩ | exact ⟨pw_cell_below hv4 e0, pw_cell_below hv4 e1, pw_cell_below hv4 e2, pw_cell_below hv4 e3⟩ | exact ⟨pw_cell_below hv3 e0, pw_cell_below hv3 e1, pw_cell_below hv3 e2, pw_cell_below hv3 e3⟩ | exact ⟨pw_cell_below hv2 e0, pw_cell_below hv2 e1, pw_cell_below hv2 e2, pw_cell_below hv2 e3⟩ | exact ⟨pw_cell_below hv1 e0, pw_cell_below hv1 e1, pw_cell_below hv1 e2, pw_cell_below hv1 e3⟩)
        ((first
          | (go_at_call 72; refine (line_at _ b _ 4 4 sx [wLock, q0, q1, q2] ((hDr.below hv4).below (below_alloc (Below.refl _ _) _)) (words_alloc _ _ _ _ rfl) rfl (by decide) (by decide) hfit).mono ?_; rintro e u_9 ⟨rfl, hD9, hu9, hk9⟩; have hv9 := (hv4.mono (by omega)).trans ((below_alloc (Below.refl _ _) _ |>.mono (by have := hv4.size; omega)).trans hu9))
          | (go_at_call 76; refine (H2 u_3 (hPr.below hv3)).mono ?_; rintro e u_4 ⟨rfl, hu4⟩; have hv4 := hv3.trans (hu4.mono hv3.size))
          | (go_at_call 79; refine (H1 u_2 (hPr.below hv2)).mono ?_; rintro e u_3 ⟨rfl, hu3⟩; have hv3 := hv2.trans (hu3.mono hv2.size))
          | (go_at_call 78; refine (H0 _ (hPr.below hv1)).mono ?_; rintro e u_2 ⟨rfl, hu2⟩; have hv2 := hv1.trans (hu2.mono hv1.size))))
      have hBe := hBV.trans hv9
      rw [hnew.out] at hD9
      go_wp2_with fail
      go_roundw
      case rel => exact ⟨j + 1, hlt, by first | rfl | rw [hw64], hD9, hBe⟩
      case measure => simp only [intOf]; first | omega | (rw [hw64]; omega)
    · have hjl : j = l.length := by omega
      subst hjl
      rw [List.take_length] at *
      have hltf : ¬ ((l.length : Int) < (l.length : Int)) := by omega
      go_wp2_with fail
      exact ⟨rfl, hexit _ _ _ _ _ _ _ _ _ _ _ _ _ _ _ _ _ _ _ hBr hDr⟩
end Go.Proofs.YtggogenhakdhiaaDoor.PSnapTexts
end
section
set_option linter.unusedVariables false
set_option linter.unusedSimpArgs false
attribute [local go_sem ↓] Go.wp_at_zero Go.wp_at_succ
namespace Go.Proofs.YtggogenhakdhiaaDoor.PSnapTexts
open Go.RowKit Go.Proofs.YtggogenhakdhiaaDoorW.PrintWords Go.Proofs.YtggogenhakdhiaaDoorW.PrintLast Go.Proofs.YtggogenhakdhiaaDoorW.PrintMore
open Classical

set_option maxHeartbeats 8000000 in
set_option maxRecDepth 20000 in
theorem pt_loop2 {M : Nat} (hM : M ≤ 1048576) (W w : World) (b : Nat) (hbW : b = W.heap.size) (hpow : Pow W) (A : Option Addr) (c : Nat) (l : List S135) (S0 : List UInt8) (hg : Kd.C k135 W A l.length l) (hc : l.length ≤ c)
    (hl : ∀ x ∈ l, LockOk M x) (hll : l.length ≤ M) (hS : S0.length ≤ 50000000000000) (hB0 : Below b W w) (hD0 : Bld b S0 w) {X : Act → World → Prop} (u0 u1 u2 u7 u8 u9 u10 u11 u12 u13 u14 u15 u16 u17 u18 u19 u20 u21 u22 u23 u24 u25 u26 u27 u28 u29 u30 u31 u32 u33 u34 u35 u36 u37 u38 u39 u40 u41 u42 u43 u44 u45 u46 u47 u48 u49 u50 u51 u52 u53 u57 u58 u59 u60 u61 u62 u63 u64 u65 u66 u67 u68 u69 u70 u71 u72 u73 u74 u75 u76 u77 u78 u79 u80 u81 u82 u83 u84 u85 u86 u87 u88 u89 u90 u91 u92 u93 u94 u95 u96 u97 u98 u99 u100 u101 u102 u103 u104 u105 u106 u107 u108 u109 u110 u111 u112 u113 u114 u115 u116 u117 u118 u119 u120 u121 u122 u123 u124 u125 u126 u127 u128 u129 u130 u131 u132 u133 u134 u135 u136 u137 u138 u139 u140 u141 u142 u143 u144 u145 u146 u147 u148 u149 u150 u151 u152 u153 u154 u155 u156 u157 u158 u159 u160 u161 u162 u163 u164 u165 u166 u167 u168 u169 u170 u171 u172 u173 u174 u175 u176 u177 u178 u179 u180 u181 u182 u183 u184 u185 u186 u187 u188 u189 u190 u191 u192 u193 u194 u195 u196 u197 u198 u199 u200 u201 u202 u203 u204 : Value)
    (hexit : ∀ (v10 v57 v58 v59 v60 v61 v62 v63 v64 v65 v66 v67 v68 v69 v70 v71 v72 v73 : Value) w', Below b W w' → Bld b (S0 ++ l.flatMap (lockLine wWait)) w' → X ⟨List.toArray (u0 :: u1 :: u2 :: .pointer (some ⟨b, 0, none⟩) :: .func (.func 72) #[] #[.pointer (some ⟨b, 0, none⟩)] :: .func (.func 76) #[] #[] :: .func (.func 77) #[] #[] :: u7 :: u8 :: u9 :: v10 :: u11 :: u12 :: u13 :: u14 :: u15 :: u16 :: u17 :: u18 :: u19 :: u20 :: u21 :: u22 :: u23 :: u24 :: u25 :: u26 :: u27 :: u28 :: u29 :: u30 :: u31 :: u32 :: u33 :: u34 :: u35 :: u36 :: u37 :: u38 :: u39 :: u40 :: u41 :: u42 :: u43 :: u44 :: u45 :: u46 :: u47 :: u48 :: u49 :: u50 :: u51 :: u52 :: u53 :: .slice A l.length c :: .int .i64 (l.length : Int) :: .int .i64 (l.length : Int) :: v57 :: v58 :: v59 :: v60 :: v61 :: v62 :: v63 :: v64 :: v65 :: v66 :: v67 :: v68 :: v69 :: v70 :: v71 :: v72 :: v73 :: u74 :: u75 :: u76 :: u77 :: u78 :: u79 :: u80 :: u81 :: u82 :: u83 :: u84 :: u85 :: u86 :: u87 :: u88 :: u89 :: u90 :: u91 :: u92 :: u93 :: u94 :: u95 :: u96 :: u97 :: u98 :: u99 :: u100 :: u101 :: u102 :: u103 :: u104 :: u105 :: u106 :: u107 :: u108 :: u109 :: u110 :: u111 :: u112 :: u113 :: u114 :: u115 :: u116 :: u117 :: u118 :: u119 :: u120 :: u121 :: u122 :: u123 :: u124 :: u125 :: u126 :: u127 :: u128 :: u129 :: u130 :: u131 :: u132 :: u133 :: u134 :: u135 :: u136 :: u137 :: u138 :: u139 :: u140 :: u141 :: u142 :: u143 :: u144 :: u145 :: u146 :: u147 :: u148 :: u149 :: u150 :: u151 :: u152 :: u153 :: u154 :: u155 :: u156 :: u157 :: u158 :: u159 :: u160 :: u161 :: u162 :: u163 :: u164 :: u165 :: u166 :: u167 :: u168 :: u169 :: u170 :: u171 :: u172 :: u173 :: u174 :: u175 :: u176 :: u177 :: u178 :: u179 :: u180 :: u181 :: u182 :: u183 :: u184 :: u185 :: u186 :: u187 :: u188 :: u189 :: u190 :: u191 :: u192 :: u193 :: u194 :: u195 :: u196 :: u197 :: u198 :: u199 :: u200 :: u201 :: u202 :: u203 :: u204 :: []), []⟩ w') :
    Code.wp Tryd.prog ptLoop2 (LQ 2 X) ⟨List.toArray (u0 :: u1 :: u2 :: .pointer (some ⟨b, 0, none⟩) :: .func (.func 72) #[] #[.pointer (some ⟨b, 0, none⟩)] :: .func (.func 76) #[] #[] :: .func (.func 77) #[] #[] :: u7 :: u8 :: u9 :: u10 :: u11 :: u12 :: u13 :: u14 :: u15 :: u16 :: u17 :: u18 :: u19 :: u20 :: u21 :: u22 :: u23 :: u24 :: u25 :: u26 :: u27 :: u28 :: u29 :: u30 :: u31 :: u32 :: u33 :: u34 :: u35 :: u36 :: u37 :: u38 :: u39 :: u40 :: u41 :: u42 :: u43 :: u44 :: u45 :: u46 :: u47 :: u48 :: u49 :: u50 :: u51 :: u52 :: u53 :: .slice A l.length c :: .int .i64 (l.length : Int) :: .int .i64 0 :: u57 :: u58 :: u59 :: u60 :: u61 :: u62 :: u63 :: u64 :: u65 :: u66 :: u67 :: u68 :: u69 :: u70 :: u71 :: u72 :: u73 :: u74 :: u75 :: u76 :: u77 :: u78 :: u79 :: u80 :: u81 :: u82 :: u83 :: u84 :: u85 :: u86 :: u87 :: u88 :: u89 :: u90 :: u91 :: u92 :: u93 :: u94 :: u95 :: u96 :: u97 :: u98 :: u99 :: u100 :: u101 :: u102 :: u103 :: u104 :: u105 :: u106 :: u107 :: u108 :: u109 :: u110 :: u111 :: u112 :: u113 :: u114 :: u115 :: u116 :: u117 :: u118 :: u119 :: u120 :: u121 :: u122 :: u123 :: u124 :: u125 :: u126 :: u127 :: u128 :: u129 :: u130 :: u131 :: u132 :: u133 :: u134 :: u135 :: u136 :: u137 :: u138 :: u139 :: u140 :: u141 :: u142 :: u143 :: u144 :: u145 :: u146 :: u147 :: u148 :: u149 :: u150 :: u151 :: u152 :: u153 :: u154 :: u155 :: u156 :: u157 :: u158 :: u159 :: u160 :: u161 :: u162 :: u163 :: u164 :: u165 :: u166 :: u167 :: u168 :: u169 :: u170 :: u171 :: u172 :: u173 :: u174 :: u175 :: u176 :: u177 :: u178 :: u179 :: u180 :: u181 :: u182 :: u183 :: u184 :: u185 :: u186 :: u187 :: u188 :: u189 :: u190 :: u191 :: u192 :: u193 :: u194 :: u195 :: u196 :: u197 :: u198 :: u199 :: u200 :: u201 :: u202 :: u203 :: u204 :: []), []⟩ w := by
  conv => arg 2; whnf
  replace hbW := Go.Lib.hid hbW
  go_loopw [56] (fun i wr => ∃ j : Nat, j ≤ l.length ∧ i = .int .i64 j ∧ Bld b (S0 ++ (l.take j).flatMap (lockLine wWait)) wr ∧ Below b W wr) (fun i _ => l.length - (intOf i).toNat)
  case atStart => exact ⟨0, by omega, rfl, by simpa using hD0, hB0⟩
  case round =>
    obtain ⟨j, hj, rfl, hDr, hBr⟩ := hrel
    have hBW : Below W.heap.size W wr := by rw [← hbW.out]; exact hBr
    by_cases hlt : j < l.length
    · have hltz : (j : Int) < (l.length : Int) := by omega
      have hw64 : wrap64 ((j : Int) + 1) = ((j + 1 : Nat) : Int) := by unfold wrap64; omega
      obtain ⟨G, O, rfl, hcA⟩ := lock_plain hg (by omega)
      obtain ⟨b0, b1, b2, b3⟩ := hcA j hlt
      have hok := hl _ (List.getElem_mem hlt)
      have htk := take_flat (lockLine wWait) l j hlt
      have hpl : ((l.take j).flatMap (lockLine wWait)).length ≤ 4000000000000 := lock_part hM hl hll wWait (by decide) j
      have hrl := lock_len (hl _ (List.getElem_mem hlt)) wWait (by decide)
      generalize l[j] = x at *
      replace b0 := pw_cell_below hBW b0
      replace b1 := pw_cell_below hBW b1
      replace b2 := pw_cell_below hBW b2
      replace b3 := pw_cell_below hBW b3
      have hPr := hpow.below hBW
      have H0 := fun (u : World) (hu : Pow u) => quote_walk u x.f0 (by have := hok.s; omega)
      have H1 := fun (u : World) (hu : Pow u) => page_walk u x.f1 hok.i hu
      have H2 := fun (u : World) (hu : Pow u) => itoa_calls x.f2 hok.m u hu
      have hnew : S0 ++ (l.take j).flatMap (lockLine wWait) ++ lineL [wWait, quoteL x.f0.data.toList, idL x.f1, Lib.itoa x.f2] = S0 ++ (l.take (j + 1)).flatMap (lockLine wWait) := by rw [htk]; simp [lockLine, lockWords]
      have hfit : (S0 ++ (l.take j).flatMap (lockLine wWait)).length + (lineL [wWait, quoteL x.f0.data.toList, idL x.f1, Lib.itoa x.f2]).length ≤ 140737488355328 := by
        have h_ : (lineL [wWait, quoteL x.f0.data.toList, idL x.f1, Lib.itoa x.f2]).length ≤ 4000000 := Nat.le_trans hrl (by omega)
        rw [List.length_append]; omega
      generalize quoteL x.f0.data.toList = q0 at *
      generalize idL x.f1 = q1 at *
      generalize Lib.itoa x.f2 = q2 at *
      generalize S0 ++ (l.take j).flatMap (lockLine wWait) = sx at *
      replace hnew := Go.Lib.hid hnew
      replace htk := Go.Lib.hid htk
      replace hrl := Go.Lib.hid hrl
      replace hpl := Go.Lib.hid hpl
      have hbr : b ≤ wr.heap.size := by have := hDr.lt; omega
      clear hcA
      go_upto_region 14 with fail
      have hB1 : Below wr.heap.size wr (wr.alloc (.cells #[.string x.f0, .int .i64 x.f1.f0, .int .i64 x.f1.f1, .int .i64 x.f2] 135)) := below_alloc (Below.refl _ _) _
      have hx := heap_alloc_new wr (.cells #[.string x.f0, .int .i64 x.f1.f0, .int .i64 x.f1.f1, .int .i64 x.f2] 135)
      obtain ⟨gx, hgx⟩ : ∃ y, y = wr.heap.size := ⟨_, rfl⟩
      have hgb : gx ≠ b := by have := hDr.lt; omega
      rw [← hgx] at hx ⊢
      generalize wr.alloc (.cells #[.string x.f0, .int .i64 x.f1.f0, .int .i64 x.f1.f1, .int .i64 x.f2] 135) = V at *
      clear hgx b0 b1 b2 b3
      have e0 := blk_cell hx 0
      have e1 := blk_cell hx 1
      have e2 := blk_cell hx 2
      have e3 := blk_cell hx 3
      simp only [List.getElem?_toArray, List.getElem?_cons_zero, List.getElem?_cons_succ] at e0 e1 e2 e3
      replace hx := Go.Lib.hid hx
      have hv1 : Below V.heap.size V V.drew := below_drew (Below.refl _ _)
      replace hDr := hDr.below hB1
      replace hPr := hPr.below hB1
      have hbV := hDr.lt
      have hBV : Below b W V := hBr.trans (hB1.mono hbr)
      go_region_held_law (fun w' => w'.cell? ⟨gx, 0, none⟩ = some (.string x.f0) ∧ w'.cell? ⟨gx, 1, none⟩ = some (.int .i64 x.f1.f0) ∧ w'.cell? ⟨gx, 2, none⟩ = some (.int .i64 x.f1.f1) ∧ w'.cell? ⟨gx, 3, none⟩ = some (.int .i64 x.f2))
        (first | go_keep | exact ⟨kept_cell hk9 (hv4.trans ((below_alloc (Below.refl _ _) _).mono hv4.size)) hx hgb (by decide) e0, kept_cell hk9 (hv4.trans ((below_alloc (Below.refl _ _) _).mono hv4.size)) hx hgb (by decide) e1, kept_cell hk9 (hv4.trans ((below_alloc (Below.refl _ _) _).mono hv4.size)) hx hgb (by decide) e2, kept_cell hk9 (hv4.trans ((below_alloc (Below.refl _ _) _).mono hv4.size)) hx hgb (by decide) e3⟩ | exact ⟨pw_cell_below hv4 e0, pw_cell_below hv4 e1, pw_cell_below hv4 e2, pw_cell_below hv4 e3⟩ | exact ⟨pw_cell_below hv3 e0, pw_cell_below hv3 e1, pw_cell_below hv3 e2, pw_cell_below hv3 e3⟩ | exact ⟨pw_cell_below hv2 e0, pw_cell_below hv2 e1, pw_cell_below hv2 e2, pw_cell_below hv2 e3⟩ | exact ⟨pw_cell_below hv1 e0, pw_cell_below hv1 e1, pw_cell_below hv1 e2, pw_cell_below hv1 e3⟩)
        ((first
          | (go_at_call 72; refine (line_at _ b _ 4 4 sx [wWait, q0, q1, q2] ((hDr.below hv4).below (below_alloc (Below.refl _ _) _)) (words_alloc _ _ _ _ rfl) rfl (by decide) (by decide) hfit).mono ?_; rintro e u_9 ⟨rfl, hD9, hu9, hk9⟩; have hv9 := (hv4.mono (by omega)).trans ((below_alloc (Below.refl _ _) _ |>.mono (by have := hv4.size; omega)).trans hu9))
          | (go_at_call 76; refine (H2 u_3 (hPr.below hv3)).mono ?_; rintro e u_4 ⟨rfl, hu4⟩; have hv4 := hv3.trans (hu4.mono hv3.size))
          | (go_at_call 79; refine (H1 u_2 (hPr.below hv2)).mono ?_; rintro e u_3 ⟨rfl, hu3⟩; have hv3 := hv2.trans (hu3.mono hv2.size))
          | (go_at_call 78; refine (H0 _ (hPr.below hv1)).mono ?_; rintro e u_2 ⟨rfl, hu2⟩; have hv2 := hv1.trans (hu2.mono hv1.size))))
      have hBe := hBV.trans hv9
      rw [hnew.out] at hD9
      go_wp2_with fail
      go_roundw
      case rel => exact ⟨j + 1, hlt, by first | rfl | rw [hw64], hD9, hBe⟩
      case measure => simp only [intOf]; first | omega | (rw [hw64]; omega)
    · have hjl : j = l.length := by omega
      subst hjl
      rw [List.take_length] at *
      have hltf : ¬ ((l.length : Int) < (l.length : Int)) := by omega
      go_wp2_with fail
      exact ⟨rfl, hexit _ _ _ _ _ _ _ _ _ _ _ _ _ _ _ _ _ _ _ hBr hDr⟩
end Go.Proofs.YtggogenhakdhiaaDoor.PSnapTexts
end
section
set_option linter.unusedVariables false
set_option linter.unusedSimpArgs false
attribute [local go_sem ↓] Go.wp_at_zero Go.wp_at_succ
namespace Go.Proofs.YtggogenhakdhiaaDoor.PSnapTexts
open Go.RowKit Go.Proofs.YtggogenhakdhiaaDoorW.PrintWords Go.Proofs.YtggogenhakdhiaaDoorW.PrintLast Go.Proofs.YtggogenhakdhiaaDoorW.PrintMore
open Classical

set_option maxHeartbeats 8000000 in
set_option maxRecDepth 20000 in
theorem pt_loop3 {M : Nat} (hM : M ≤ 1048576) (W w : World) (b : Nat) (hbW : b = W.heap.size) (hpow : Pow W) (A : Option Addr) (c : Nat) (l : List S138) (S0 : List UInt8) (hg : Kd.C k138 W A l.length l) (hc : l.length ≤ c)
    (hl : ∀ x ∈ l, VersionOk M x) (hll : l.length ≤ M) (hS : S0.length ≤ 50000000000000) (hB0 : Below b W w) (hD0 : Bld b S0 w) {X : Act → World → Prop} (u0 u1 u2 u7 u8 u9 u10 u11 u12 u13 u14 u15 u16 u17 u18 u19 u20 u21 u22 u23 u24 u25 u26 u27 u28 u29 u30 u31 u32 u33 u34 u35 u36 u37 u38 u39 u40 u41 u42 u43 u44 u45 u46 u47 u48 u49 u50 u51 u52 u53 u54 u55 u56 u57 u58 u59 u60 u61 u62 u63 u64 u65 u66 u67 u68 u69 u70 u71 u72 u73 u74 u78 u79 u80 u81 u82 u83 u84 u85 u86 u87 u88 u89 u90 u91 u92 u93 u94 u95 u96 u97 u98 u99 u100 u101 u102 u103 u104 u105 u106 u107 u108 u109 u110 u111 u112 u113 u114 u115 u116 u117 u118 u119 u120 u121 u122 u123 u124 u125 u126 u127 u128 u129 u130 u131 u132 u133 u134 u135 u136 u137 u138 u139 u140 u141 u142 u143 u144 u145 u146 u147 u148 u149 u150 u151 u152 u153 u154 u155 u156 u157 u158 u159 u160 u161 u162 u163 u164 u165 u166 u167 u168 u169 u170 u171 u172 u173 u174 u175 u176 u177 u178 u179 u180 u181 u182 u183 u184 u185 u186 u187 u188 u189 u190 u191 u192 u193 u194 u195 u196 u197 u198 u199 u200 u201 u202 u203 u204 : Value)
    (hexit : ∀ (v12 v78 v79 v80 v81 v82 v83 v84 v85 v86 v87 v88 v89 v90 v91 v92 v93 v94 v95 v96 v97 v98 v99 v100 : Value) w', Below b W w' → Bld b (S0 ++ l.flatMap versionLine) w' → X ⟨List.toArray (u0 :: u1 :: u2 :: .pointer (some ⟨b, 0, none⟩) :: .func (.func 72) #[] #[.pointer (some ⟨b, 0, none⟩)] :: .func (.func 76) #[] #[] :: .func (.func 77) #[] #[] :: u7 :: u8 :: u9 :: u10 :: u11 :: v12 :: u13 :: u14 :: u15 :: u16 :: u17 :: u18 :: u19 :: u20 :: u21 :: u22 :: u23 :: u24 :: u25 :: u26 :: u27 :: u28 :: u29 :: u30 :: u31 :: u32 :: u33 :: u34 :: u35 :: u36 :: u37 :: u38 :: u39 :: u40 :: u41 :: u42 :: u43 :: u44 :: u45 :: u46 :: u47 :: u48 :: u49 :: u50 :: u51 :: u52 :: u53 :: u54 :: u55 :: u56 :: u57 :: u58 :: u59 :: u60 :: u61 :: u62 :: u63 :: u64 :: u65 :: u66 :: u67 :: u68 :: u69 :: u70 :: u71 :: u72 :: u73 :: u74 :: .slice A l.length c :: .int .i64 (l.length : Int) :: .int .i64 (l.length : Int) :: v78 :: v79 :: v80 :: v81 :: v82 :: v83 :: v84 :: v85 :: v86 :: v87 :: v88 :: v89 :: v90 :: v91 :: v92 :: v93 :: v94 :: v95 :: v96 :: v97 :: v98 :: v99 :: v100 :: u101 :: u102 :: u103 :: u104 :: u105 :: u106 :: u107 :: u108 :: u109 :: u110 :: u111 :: u112 :: u113 :: u114 :: u115 :: u116 :: u117 :: u118 :: u119 :: u120 :: u121 :: u122 :: u123 :: u124 :: u125 :: u126 :: u127 :: u128 :: u129 :: u130 :: u131 :: u132 :: u133 :: u134 :: u135 :: u136 :: u137 :: u138 :: u139 :: u140 :: u141 :: u142 :: u143 :: u144 :: u145 :: u146 :: u147 :: u148 :: u149 :: u150 :: u151 :: u152 :: u153 :: u154 :: u155 :: u156 :: u157 :: u158 :: u159 :: u160 :: u161 :: u162 :: u163 :: u164 :: u165 :: u166 :: u167 :: u168 :: u169 :: u170 :: u171 :: u172 :: u173 :: u174 :: u175 :: u176 :: u177 :: u178 :: u179 :: u180 :: u181 :: u182 :: u183 :: u184 :: u185 :: u186 :: u187 :: u188 :: u189 :: u190 :: u191 :: u192 :: u193 :: u194 :: u195 :: u196 :: u197 :: u198 :: u199 :: u200 :: u201 :: u202 :: u203 :: u204 :: []), []⟩ w') :
    Code.wp Tryd.prog ptLoop3 (LQ 4 X) ⟨List.toArray (u0 :: u1 :: u2 :: .pointer (some ⟨b, 0, none⟩) :: .func (.func 72) #[] #[.pointer (some ⟨b, 0, none⟩)] :: .func (.func 76) #[] #[] :: .func (.func 77) #[] #[] :: u7 :: u8 :: u9 :: u10 :: u11 :: u12 :: u13 :: u14 :: u15 :: u16 :: u17 :: u18 :: u19 :: u20 :: u21 :: u22 :: u23 :: u24 :: u25 :: u26 :: u27 :: u28 :: u29 :: u30 :: u31 :: u32 :: u33 :: u34 :: u35 :: u36 :: u37 :: u38 :: u39 :: u40 :: u41 :: u42 :: u43 :: u44 :: u45 :: u46 :: u47 :: u48 :: u49 :: u50 :: u51 :: u52 :: u53 :: u54 :: u55 :: u56 :: u57 :: u58 :: u59 :: u60 :: u61 :: u62 :: u63 :: u64 :: u65 :: u66 :: u67 :: u68 :: u69 :: u70 :: u71 :: u72 :: u73 :: u74 :: .slice A l.length c :: .int .i64 (l.length : Int) :: .int .i64 0 :: u78 :: u79 :: u80 :: u81 :: u82 :: u83 :: u84 :: u85 :: u86 :: u87 :: u88 :: u89 :: u90 :: u91 :: u92 :: u93 :: u94 :: u95 :: u96 :: u97 :: u98 :: u99 :: u100 :: u101 :: u102 :: u103 :: u104 :: u105 :: u106 :: u107 :: u108 :: u109 :: u110 :: u111 :: u112 :: u113 :: u114 :: u115 :: u116 :: u117 :: u118 :: u119 :: u120 :: u121 :: u122 :: u123 :: u124 :: u125 :: u126 :: u127 :: u128 :: u129 :: u130 :: u131 :: u132 :: u133 :: u134 :: u135 :: u136 :: u137 :: u138 :: u139 :: u140 :: u141 :: u142 :: u143 :: u144 :: u145 :: u146 :: u147 :: u148 :: u149 :: u150 :: u151 :: u152 :: u153 :: u154 :: u155 :: u156 :: u157 :: u158 :: u159 :: u160 :: u161 :: u162 :: u163 :: u164 :: u165 :: u166 :: u167 :: u168 :: u169 :: u170 :: u171 :: u172 :: u173 :: u174 :: u175 :: u176 :: u177 :: u178 :: u179 :: u180 :: u181 :: u182 :: u183 :: u184 :: u185 :: u186 :: u187 :: u188 :: u189 :: u190 :: u191 :: u192 :: u193 :: u194 :: u195 :: u196 :: u197 :: u198 :: u199 :: u200 :: u201 :: u202 :: u203 :: u204 :: []), []⟩ w := by
  conv => arg 2; whnf
  replace hbW := Go.Lib.hid hbW
  go_loopw [77] (fun i wr => ∃ j : Nat, j ≤ l.length ∧ i = .int .i64 j ∧ Bld b (S0 ++ (l.take j).flatMap versionLine) wr ∧ Below b W wr) (fun i _ => l.length - (intOf i).toNat)
  case atStart => exact ⟨0, by omega, rfl, by simpa using hD0, hB0⟩
  case round =>
    obtain ⟨j, hj, rfl, hDr, hBr⟩ := hrel
    have hBW : Below W.heap.size W wr := by rw [← hbW.out]; exact hBr
    by_cases hlt : j < l.length
    · have hltz : (j : Int) < (l.length : Int) := by omega
      have hw64 : wrap64 ((j : Int) + 1) = ((j + 1 : Nat) : Int) := by unfold wrap64; omega
      obtain ⟨G, O, rfl, hcA⟩ := version_plain hg (by omega)
      obtain ⟨b0, b1, b2, b3, b4, b5⟩ := hcA j hlt
      have hok := hl _ (List.getElem_mem hlt)
      have htk := take_flat versionLine l j hlt
      have hpl : ((l.take j).flatMap versionLine).length ≤ 8000000000000 := version_part hM hl hll j
      have hrl := version_len (hl _ (List.getElem_mem hlt))
      generalize l[j] = x at *
      replace b0 := pw_cell_below hBW b0
      replace b1 := pw_cell_below hBW b1
      replace b2 := pw_cell_below hBW b2
      replace b3 := pw_cell_below hBW b3
      replace b4 := pw_cell_below hBW b4
      replace b5 := pw_cell_below hBW b5
      have hPr := hpow.below hBW
      have H0 := fun (u : World) (hu : Pow u) => quote_walk u x.f0 (by have := hok.s; omega)
      have H1 := fun (u : World) (hu : Pow u) => itoa_calls x.f3 hok.n u hu
      have H2 := fun (u : World) (hu : Pow u) => page_walk u x.f4 hok.i hu
      have H3 := fun (u : World) (hu : Pow u) => pvalue_walk u x.f1 x.f2 (by have := hok.v; omega)
      have hnew : S0 ++ (l.take j).flatMap versionLine ++ lineL [wVersion, quoteL x.f0.data.toList, Lib.itoa x.f3, idL x.f4, valueL x.f1 x.f2] = S0 ++ (l.take (j + 1)).flatMap versionLine := by rw [htk]; simp [versionLine, versionWords]
      have hfit : (S0 ++ (l.take j).flatMap versionLine).length + (lineL [wVersion, quoteL x.f0.data.toList, Lib.itoa x.f3, idL x.f4, valueL x.f1 x.f2]).length ≤ 140737488355328 := by
        have h_ : (lineL [wVersion, quoteL x.f0.data.toList, Lib.itoa x.f3, idL x.f4, valueL x.f1 x.f2]).length ≤ 7000000 := Nat.le_trans hrl (by omega)
        rw [List.length_append]; omega
      generalize quoteL x.f0.data.toList = q0 at *
      generalize Lib.itoa x.f3 = q1 at *
      generalize idL x.f4 = q2 at *
      generalize valueL x.f1 x.f2 = q3 at *
      generalize S0 ++ (l.take j).flatMap versionLine = sx at *
      replace hnew := Go.Lib.hid hnew
      replace htk := Go.Lib.hid htk
      replace hrl := Go.Lib.hid hrl
      replace hpl := Go.Lib.hid hpl
      have hbr : b ≤ wr.heap.size := by have := hDr.lt; omega
      clear hcA
      go_upto_region 19 with fail
      have hB1 : Below wr.heap.size wr (wr.alloc (.cells #[.string x.f0, .string x.f1, .bool x.f2, .int .i64 x.f3, .int .i64 x.f4.f0, .int .i64 x.f4.f1] 138)) := below_alloc (Below.refl _ _) _
      have hx := heap_alloc_new wr (.cells #[.string x.f0, .string x.f1, .bool x.f2, .int .i64 x.f3, .int .i64 x.f4.f0, .int .i64 x.f4.f1] 138)
      obtain ⟨gx, hgx⟩ : ∃ y, y = wr.heap.size := ⟨_, rfl⟩
      have hgb : gx ≠ b := by have := hDr.lt; omega
      rw [← hgx] at hx ⊢
      generalize wr.alloc (.cells #[.string x.f0, .string x.f1, .bool x.f2, .int .i64 x.f3, .int .i64 x.f4.f0, .int .i64 x.f4.f1] 138) = V at *
      clear hgx b0 b1 b2 b3 b4 b5
      have e0 := blk_cell hx 0
      have e1 := blk_cell hx 1
      have e2 := blk_cell hx 2
      have e3 := blk_cell hx 3
      have e4 := blk_cell hx 4
      have e5 := blk_cell hx 5
      simp only [List.getElem?_toArray, List.getElem?_cons_zero, List.getElem?_cons_succ] at e0 e1 e2 e3 e4 e5
      replace hx := Go.Lib.hid hx
      have hv1 : Below V.heap.size V V.drew := below_drew (Below.refl _ _)
      replace hDr := hDr.below hB1
      replace hPr := hPr.below hB1
      have hbV := hDr.lt
      have hBV : Below b W V := hBr.trans (hB1.mono hbr)
      go_region_held_law (fun w' => w'.cell? ⟨gx, 0, none⟩ = some (.string x.f0) ∧ w'.cell? ⟨gx, 1, none⟩ = some (.string x.f1) ∧ w'.cell? ⟨gx, 2, none⟩ = some (.bool x.f2) ∧ w'.cell? ⟨gx, 3, none⟩ = some (.int .i64 x.f3) ∧ w'.cell? ⟨gx, 4, none⟩ = some (.int .i64 x.f4.f0) ∧ w'.cell? ⟨gx, 5, none⟩ = some (.int .i64 x.f4.f1))
        (first | go_keep | exact ⟨kept_cell hk9 (hv5.trans ((below_alloc (Below.refl _ _) _).mono hv5.size)) hx hgb (by decide) e0, kept_cell hk9 (hv5.trans ((below_alloc (Below.refl _ _) _).mono hv5.size)) hx hgb (by decide) e1, kept_cell hk9 (hv5.trans ((below_alloc (Below.refl _ _) _).mono hv5.size)) hx hgb (by decide) e2, kept_cell hk9 (hv5.trans ((below_alloc (Below.refl _ _) _).mono hv5.size)) hx hgb (by decide) e3, kept_cell hk9 (hv5.trans ((below_alloc (Below.refl _ _) _).mono hv5.size)) hx hgb (by decide) e4, kept_cell hk9 (hv5.trans ((below_alloc (Below.refl _ _) _).mono hv5.size)) hx hgb (by decide) e5⟩ | exact ⟨pw_cell_below hv5 e0, pw_cell_below hv5 e1, pw_cell_below hv5 e2, pw_cell_below hv5 e3, pw_cell_below hv5 e4, pw_cell_below hv5 e5⟩ | exact ⟨pw_cell_below hv4 e0, pw_cell_below hv4 e1, pw_cell_below hv4 e2, pw_cell_below hv4 e3, pw_cell_below hv4 e4, pw_cell_below hv4 e5⟩ | exact ⟨pw_cell_below hv3 e0, pw_cell_below hv3 e1, pw_cell_below hv3 e2, pw_cell_below hv3 e3, pw_cell_below hv3 e4, pw_cell_below hv3 e5⟩ | exact ⟨pw_cell_below hv2 e0, pw_cell_below hv2 e1, pw_cell_below hv2 e2, pw_cell_below hv2 e3, pw_cell_below hv2 e4, pw_cell_below hv2 e5⟩ | exact ⟨pw_cell_below hv1 e0, pw_cell_below hv1 e1, pw_cell_below hv1 e2, pw_cell_below hv1 e3, pw_cell_below hv1 e4, pw_cell_below hv1 e5⟩)
        ((first
          | (go_at_call 72; refine (line_at _ b _ 5 5 sx [wVersion, q0, q1, q2, q3] ((hDr.below hv5).below (below_alloc (Below.refl _ _) _)) (words_alloc _ _ _ _ rfl) rfl (by decide) (by decide) hfit).mono ?_; rintro e u_9 ⟨rfl, hD9, hu9, hk9⟩; have hv9 := (hv5.mono (by omega)).trans ((below_alloc (Below.refl _ _) _ |>.mono (by have := hv5.size; omega)).trans hu9))
          | (go_at_call 77; refine (H3 u_4 (hPr.below hv4)).mono ?_; rintro e u_5 ⟨rfl, hu5⟩; have hv5 := hv4.trans (hu5.mono hv4.size))
          | (go_at_call 79; refine (H2 u_3 (hPr.below hv3)).mono ?_; rintro e u_4 ⟨rfl, hu4⟩; have hv4 := hv3.trans (hu4.mono hv3.size))
          | (go_at_call 76; refine (H1 u_2 (hPr.below hv2)).mono ?_; rintro e u_3 ⟨rfl, hu3⟩; have hv3 := hv2.trans (hu3.mono hv2.size))
          | (go_at_call 78; refine (H0 _ (hPr.below hv1)).mono ?_; rintro e u_2 ⟨rfl, hu2⟩; have hv2 := hv1.trans (hu2.mono hv1.size))))
      have hBe := hBV.trans hv9
      rw [hnew.out] at hD9
      go_wp2_with fail
      go_roundw
      case rel => exact ⟨j + 1, hlt, by first | rfl | rw [hw64], hD9, hBe⟩
      case measure => simp only [intOf]; first | omega | (rw [hw64]; omega)
    · have hjl : j = l.length := by omega
      subst hjl
      rw [List.take_length] at *
      have hltf : ¬ ((l.length : Int) < (l.length : Int)) := by omega
      go_wp2_with fail
      exact ⟨rfl, hexit _ _ _ _ _ _ _ _ _ _ _ _ _ _ _ _ _ _ _ _ _ _ _ _ _ hBr hDr⟩
end Go.Proofs.YtggogenhakdhiaaDoor.PSnapTexts
end
section
set_option linter.unusedVariables false
set_option linter.unusedSimpArgs false
attribute [local go_sem ↓] Go.wp_at_zero Go.wp_at_succ
namespace Go.Proofs.YtggogenhakdhiaaDoor.PSnapTexts
open Go.RowKit Go.Proofs.YtggogenhakdhiaaDoorW.PrintWords Go.Proofs.YtggogenhakdhiaaDoorW.PrintLast Go.Proofs.YtggogenhakdhiaaDoorW.PrintMore
open Classical

set_option maxHeartbeats 8000000 in
set_option maxRecDepth 20000 in
theorem pt_loop4 {M : Nat} (hM : M ≤ 1048576) (W w : World) (b : Nat) (hbW : b = W.heap.size) (hpow : Pow W) (A : Option Addr) (c : Nat) (l : List S140) (S0 : List UInt8) (hg : Kd.C k140 W A l.length l) (hc : l.length ≤ c)
    (hl : ∀ x ∈ l, IntentOk M x) (hll : l.length ≤ M) (hS : S0.length ≤ 50000000000000) (hB0 : Below b W w) (hD0 : Bld b S0 w) {X : Act → World → Prop} (u0 u1 u2 u7 u8 u9 u10 u11 u12 u13 u14 u15 u16 u17 u18 u19 u20 u21 u22 u23 u24 u25 u26 u27 u28 u29 u30 u31 u32 u33 u34 u35 u36 u37 u38 u39 u40 u41 u42 u43 u44 u45 u46 u47 u48 u49 u50 u51 u52 u53 u54 u55 u56 u57 u58 u59 u60 u61 u62 u63 u64 u65 u66 u67 u68 u69 u70 u71 u72 u73 u74 u75 u76 u77 u78 u79 u80 u81 u82 u83 u84 u85 u86 u87 u88 u89 u90 u91 u92 u93 u94 u95 u96 u97 u98 u99 u100 u101 u105 u106 u107 u108 u109 u110 u111 u112 u113 u114 u115 u116 u117 u118 u119 u120 u121 u122 u123 u124 u125 u126 u127 u128 u129 u130 u131 u132 u133 u134 u135 u136 u137 u138 u139 u140 u141 u142 u143 u144 u145 u146 u147 u148 u149 u150 u151 u152 u153 u154 u155 u156 u157 u158 u159 u160 u161 u162 u163 u164 u165 u166 u167 u168 u169 u170 u171 u172 u173 u174 u175 u176 u177 u178 u179 u180 u181 u182 u183 u184 u185 u186 u187 u188 u189 u190 u191 u192 u193 u194 u195 u196 u197 u198 u199 u200 u201 u202 u203 u204 : Value)
    (hexit : ∀ (v14 v105 v106 v107 v108 v109 v110 v111 v112 v113 v114 v115 v116 v117 v118 v119 v120 v121 v122 v123 : Value) w', Below b W w' → Bld b (S0 ++ l.flatMap intentLine) w' → X ⟨List.toArray (u0 :: u1 :: u2 :: .pointer (some ⟨b, 0, none⟩) :: .func (.func 72) #[] #[.pointer (some ⟨b, 0, none⟩)] :: .func (.func 76) #[] #[] :: .func (.func 77) #[] #[] :: u7 :: u8 :: u9 :: u10 :: u11 :: u12 :: u13 :: v14 :: u15 :: u16 :: u17 :: u18 :: u19 :: u20 :: u21 :: u22 :: u23 :: u24 :: u25 :: u26 :: u27 :: u28 :: u29 :: u30 :: u31 :: u32 :: u33 :: u34 :: u35 :: u36 :: u37 :: u38 :: u39 :: u40 :: u41 :: u42 :: u43 :: u44 :: u45 :: u46 :: u47 :: u48 :: u49 :: u50 :: u51 :: u52 :: u53 :: u54 :: u55 :: u56 :: u57 :: u58 :: u59 :: u60 :: u61 :: u62 :: u63 :: u64 :: u65 :: u66 :: u67 :: u68 :: u69 :: u70 :: u71 :: u72 :: u73 :: u74 :: u75 :: u76 :: u77 :: u78 :: u79 :: u80 :: u81 :: u82 :: u83 :: u84 :: u85 :: u86 :: u87 :: u88 :: u89 :: u90 :: u91 :: u92 :: u93 :: u94 :: u95 :: u96 :: u97 :: u98 :: u99 :: u100 :: u101 :: .slice A l.length c :: .int .i64 (l.length : Int) :: .int .i64 (l.length : Int) :: v105 :: v106 :: v107 :: v108 :: v109 :: v110 :: v111 :: v112 :: v113 :: v114 :: v115 :: v116 :: v117 :: v118 :: v119 :: v120 :: v121 :: v122 :: v123 :: u124 :: u125 :: u126 :: u127 :: u128 :: u129 :: u130 :: u131 :: u132 :: u133 :: u134 :: u135 :: u136 :: u137 :: u138 :: u139 :: u140 :: u141 :: u142 :: u143 :: u144 :: u145 :: u146 :: u147 :: u148 :: u149 :: u150 :: u151 :: u152 :: u153 :: u154 :: u155 :: u156 :: u157 :: u158 :: u159 :: u160 :: u161 :: u162 :: u163 :: u164 :: u165 :: u166 :: u167 :: u168 :: u169 :: u170 :: u171 :: u172 :: u173 :: u174 :: u175 :: u176 :: u177 :: u178 :: u179 :: u180 :: u181 :: u182 :: u183 :: u184 :: u185 :: u186 :: u187 :: u188 :: u189 :: u190 :: u191 :: u192 :: u193 :: u194 :: u195 :: u196 :: u197 :: u198 :: u199 :: u200 :: u201 :: u202 :: u203 :: u204 :: []), []⟩ w') :
    Code.wp Tryd.prog ptLoop4 (LQ 6 X) ⟨List.toArray (u0 :: u1 :: u2 :: .pointer (some ⟨b, 0, none⟩) :: .func (.func 72) #[] #[.pointer (some ⟨b, 0, none⟩)] :: .func (.func 76) #[] #[] :: .func (.func 77) #[] #[] :: u7 :: u8 :: u9 :: u10 :: u11 :: u12 :: u13 :: u14 :: u15 :: u16 :: u17 :: u18 :: u19 :: u20 :: u21 :: u22 :: u23 :: u24 :: u25 :: u26 :: u27 :: u28 :: u29 :: u30 :: u31 :: u32 :: u33 :: u34 :: u35 :: u36 :: u37 :: u38 :: u39 :: u40 :: u41 :: u42 :: u43 :: u44 :: u45 :: u46 :: u47 :: u48 :: u49 :: u50 :: u51 :: u52 :: u53 :: u54 :: u55 :: u56 :: u57 :: u58 :: u59 :: u60 :: u61 :: u62 :: u63 :: u64 :: u65 :: u66 :: u67 :: u68 :: u69 :: u70 :: u71 :: u72 :: u73 :: u74 :: u75 :: u76 :: u77 :: u78 :: u79 :: u80 :: u81 :: u82 :: u83 :: u84 :: u85 :: u86 :: u87 :: u88 :: u89 :: u90 :: u91 :: u92 :: u93 :: u94 :: u95 :: u96 :: u97 :: u98 :: u99 :: u100 :: u101 :: .slice A l.length c :: .int .i64 (l.length : Int) :: .int .i64 0 :: u105 :: u106 :: u107 :: u108 :: u109 :: u110 :: u111 :: u112 :: u113 :: u114 :: u115 :: u116 :: u117 :: u118 :: u119 :: u120 :: u121 :: u122 :: u123 :: u124 :: u125 :: u126 :: u127 :: u128 :: u129 :: u130 :: u131 :: u132 :: u133 :: u134 :: u135 :: u136 :: u137 :: u138 :: u139 :: u140 :: u141 :: u142 :: u143 :: u144 :: u145 :: u146 :: u147 :: u148 :: u149 :: u150 :: u151 :: u152 :: u153 :: u154 :: u155 :: u156 :: u157 :: u158 :: u159 :: u160 :: u161 :: u162 :: u163 :: u164 :: u165 :: u166 :: u167 :: u168 :: u169 :: u170 :: u171 :: u172 :: u173 :: u174 :: u175 :: u176 :: u177 :: u178 :: u179 :: u180 :: u181 :: u182 :: u183 :: u184 :: u185 :: u186 :: u187 :: u188 :: u189 :: u190 :: u191 :: u192 :: u193 :: u194 :: u195 :: u196 :: u197 :: u198 :: u199 :: u200 :: u201 :: u202 :: u203 :: u204 :: []), []⟩ w := by
  conv => arg 2; whnf
  replace hbW := Go.Lib.hid hbW
  go_loopw [104] (fun i wr => ∃ j : Nat, j ≤ l.length ∧ i = .int .i64 j ∧ Bld b (S0 ++ (l.take j).flatMap intentLine) wr ∧ Below b W wr) (fun i _ => l.length - (intOf i).toNat)
  case atStart => exact ⟨0, by omega, rfl, by simpa using hD0, hB0⟩
  case round =>
    obtain ⟨j, hj, rfl, hDr, hBr⟩ := hrel
    have hBW : Below W.heap.size W wr := by rw [← hbW.out]; exact hBr
    by_cases hlt : j < l.length
    · have hltz : (j : Int) < (l.length : Int) := by omega
      have hw64 : wrap64 ((j : Int) + 1) = ((j + 1 : Nat) : Int) := by unfold wrap64; omega
      obtain ⟨G, O, rfl, hcA⟩ := intent_plain hg (by omega)
      obtain ⟨b0, b1, b2, b3, b4⟩ := hcA j hlt
      have hok := hl _ (List.getElem_mem hlt)
      have htk := take_flat intentLine l j hlt
      have hpl : ((l.take j).flatMap intentLine).length ≤ 8000000000000 := intent_part hM hl hll j
      have hrl := intent_len (hl _ (List.getElem_mem hlt))
      generalize l[j] = x at *
      replace b0 := pw_cell_below hBW b0
      replace b1 := pw_cell_below hBW b1
      replace b2 := pw_cell_below hBW b2
      replace b3 := pw_cell_below hBW b3
      replace b4 := pw_cell_below hBW b4
      have hPr := hpow.below hBW
      have H0 := fun (u : World) (hu : Pow u) => quote_walk u x.f0 (by have := hok.s; omega)
      have H1 := fun (u : World) (hu : Pow u) => page_walk u x.f3 hok.i hu
      have H2 := fun (u : World) (hu : Pow u) => pvalue_walk u x.f1 x.f2 (by have := hok.v; omega)
      have hnew : S0 ++ (l.take j).flatMap intentLine ++ lineL [wIntent, quoteL x.f0.data.toList, idL x.f3, valueL x.f1 x.f2] = S0 ++ (l.take (j + 1)).flatMap intentLine := by rw [htk]; simp [intentLine, intentWords]
      have hfit : (S0 ++ (l.take j).flatMap intentLine).length + (lineL [wIntent, quoteL x.f0.data.toList, idL x.f3, valueL x.f1 x.f2]).length ≤ 140737488355328 := by
        have h_ : (lineL [wIntent, quoteL x.f0.data.toList, idL x.f3, valueL x.f1 x.f2]).length ≤ 7000000 := Nat.le_trans hrl (by omega)
        rw [List.length_append]; omega
      generalize quoteL x.f0.data.toList = q0 at *
      generalize idL x.f3 = q1 at *
      generalize valueL x.f1 x.f2 = q2 at *
      generalize S0 ++ (l.take j).flatMap intentLine = sx at *
      replace hnew := Go.Lib.hid hnew
      replace htk := Go.Lib.hid htk
      replace hrl := Go.Lib.hid hrl
      replace hpl := Go.Lib.hid hpl
      have hbr : b ≤ wr.heap.size := by have := hDr.lt; omega
      clear hcA
      go_upto_region 24 with fail
      have hB1 : Below wr.heap.size wr (wr.alloc (.cells #[.string x.f0, .string x.f1, .bool x.f2, .int .i64 x.f3.f0, .int .i64 x.f3.f1] 140)) := below_alloc (Below.refl _ _) _
      have hx := heap_alloc_new wr (.cells #[.string x.f0, .string x.f1, .bool x.f2, .int .i64 x.f3.f0, .int .i64 x.f3.f1] 140)
      obtain ⟨gx, hgx⟩ : ∃ y, y = wr.heap.size := ⟨_, rfl⟩
      have hgb : gx ≠ b := by have := hDr.lt; omega
      rw [← hgx] at hx ⊢
      generalize wr.alloc (.cells #[.string x.f0, .string x.f1, .bool x.f2, .int .i64 x.f3.f0, .int .i64 x.f3.f1] 140) = V at *
      clear hgx b0 b1 b2 b3 b4
      have e0 := blk_cell hx 0
      have e1 := blk_cell hx 1
      have e2 := blk_cell hx 2
      have e3 := blk_cell hx 3
      have e4 := blk_cell hx 4
      simp only [List.getElem?_toArray, List.getElem?_cons_zero, List.getElem?_cons_succ] at e0 e1 e2 e3 e4
      replace hx := Go.Lib.hid hx
      have hv1 : Below V.heap.size V V.drew := below_drew (Below.refl _ _)
      replace hDr := hDr.below hB1
      replace hPr := hPr.below hB1
      have hbV := hDr.lt
      have hBV : Below b W V := hBr.trans (hB1.mono hbr)
      go_region_held_law (fun w' => w'.cell? ⟨gx, 0, none⟩ = some (.string x.f0) ∧ w'.cell? ⟨gx, 1, none⟩ = some (.string x.f1) ∧ w'.cell? ⟨gx, 2, none⟩ = some (.bool x.f2) ∧ w'.cell? ⟨gx, 3, none⟩ = some (.int .i64 x.f3.f0) ∧ w'.cell? ⟨gx, 4, none⟩ = some (.int .i64 x.f3.f1))
        (first | go_keep | exact ⟨kept_cell hk9 (hv4.trans ((below_alloc (Below.refl _ _) _).mono hv4.size)) hx hgb (by decide) e0, kept_cell hk9 (hv4.trans ((below_alloc (Below.refl _ _) _).mono hv4.size)) hx hgb (by decide) e1, kept_cell hk9 (hv4.trans ((below_alloc (Below.refl _ _) _).mono hv4.size)) hx hgb (by decide) e2, kept_cell hk9 (hv4.trans ((below_alloc (Below.refl _ _) _).mono hv4.size)) hx hgb (by decide) e3, kept_cell hk9 (hv4.trans ((below_alloc (Below.refl _ _) _).mono hv4.size)) hx hgb (by decide) e4⟩ | exact ⟨pw_cell_below hv4 e0, pw_cell_below hv4 e1, pw_cell_below hv4 e2, pw_cell_below hv4 e3, pw_cell_below hv4 e4⟩ | exact ⟨pw_cell_below hv3 e0, pw_cell_below hv3 e1, pw_cell_below hv3 e2, pw_cell_below hv3 e3, pw_cell_below hv3 e4⟩ | exact ⟨pw_cell_below hv2 e0, pw_cell_below hv2 e1, pw_cell_below hv2 e2, pw_cell_below hv2 e3, pw_cell_below hv2 e4⟩ | exact ⟨pw_cell_below hv1 e0, pw_cell_below hv1 e1, pw_cell_below hv1 e2, pw_cell_below hv1 e3, pw_cell_below hv1 e4⟩)
        ((first
          | (go_at_call 72; refine (line_at _ b _ 4 4 sx [wIntent, q0, q1, q2] ((hDr.below hv4).below (below_alloc (Below.refl _ _) _)) (words_alloc _ _ _ _ rfl) rfl (by decide) (by decide) hfit).mono ?_; rintro e u_9 ⟨rfl, hD9, hu9, hk9⟩; have hv9 := (hv4.mono (by omega)).trans ((below_alloc (Below.refl _ _) _ |>.mono (by have := hv4.size; omega)).trans hu9))
          | (go_at_call 77; refine (H2 u_3 (hPr.below hv3)).mono ?_; rintro e u_4 ⟨rfl, hu4⟩; have hv4 := hv3.trans (hu4.mono hv3.size))
          | (go_at_call 79; refine (H1 u_2 (hPr.below hv2)).mono ?_; rintro e u_3 ⟨rfl, hu3⟩; have hv3 := hv2.trans (hu3.mono hv2.size))
          | (go_at_call 78; refine (H0 _ (hPr.below hv1)).mono ?_; rintro e u_2 ⟨rfl, hu2⟩; have hv2 := hv1.trans (hu2.mono hv1.size))))
      have hBe := hBV.trans hv9
      rw [hnew.out] at hD9
      go_wp2_with fail
      go_roundw
      case rel => exact ⟨j + 1, hlt, by first | rfl | rw [hw64], hD9, hBe⟩
      case measure => simp only [intOf]; first | omega | (rw [hw64]; omega)
    · have hjl : j = l.length := by omega
      subst hjl
      rw [List.take_length] at *
      have hltf : ¬ ((l.length : Int) < (l.length : Int)) := by omega
      go_wp2_with fail
      exact ⟨rfl, hexit _ _ _ _ _ _ _ _ _ _ _ _ _ _ _ _ _ _ _ _ _ hBr hDr⟩
end Go.Proofs.YtggogenhakdhiaaDoor.PSnapTexts
end
