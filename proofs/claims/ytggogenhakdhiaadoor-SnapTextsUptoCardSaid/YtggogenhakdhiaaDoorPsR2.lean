/- The document's Text, walked: it gives the state's lines. (ahead of it: The innermost loop of the document's Text, walked. The loop over a record's groups in the document's Text, walked. The loop over the records in the document's Text, walked.) -/
import Derived.Test.YtggogenhakdhiaaDoorPsR1
import Derived.Deep.RegionHeldLaw
import Derived.Deep.DrawnRows
section
set_option linter.unusedVariables false
set_option linter.unusedSimpArgs false
attribute [local go_sem ↓] Go.wp_at_zero Go.wp_at_succ
namespace Go.Proofs.YtggogenhakdhiaaDoor.PSnapTexts
open Go.RowKit Go.Proofs.YtggogenhakdhiaaDoorW.PrintWords Go.Proofs.YtggogenhakdhiaaDoorW.PrintLast Go.Proofs.YtggogenhakdhiaaDoorW.PrintMore
open Classical

set_option maxHeartbeats 8000000 in
set_option maxRecDepth 20000 in
theorem rt_loop6 (W w : World) (gx : Nat) (p1 p10 : Value) (A2 A7 : Option Addr) (c2 c7 : Nat) (gs acks : List Int) (e1 : W.cell? ⟨gx, 2, none⟩ = some (.slice A2 gs.length c2)) (e6 : W.cell? ⟨gx, 7, none⟩ = some (.slice A7 acks.length c7)) (hg2 : (Kd.int .i64).C W A2 gs.length gs) (hg7 : (Kd.int .i64).C W A7 acks.length acks) (hn2 : gs.length ≤ 1048576) (hn7 : acks.length ≤ 1048576) (k : Nat) (hk : k < gs.length) (S0 : List UInt8) (hS : S0.length ≤ 100000000000000) (hB0 : Below W.heap.size W w) {X : Act → World → Prop} (u0 u2 u4 u5 u6 u7 u8 u9 u14 u15 u16 u17 u18 u19 u20 u21 u22 u23 u24 u25 u26 u27 u28 u29 u30 u31 u32 u33 u34 u35 u36 u37 u38 u39 u40 u41 u42 u43 u44 u45 u46 u47 u48 u49 u50 u51 u52 u53 u54 u55 u56 u57 u58 u59 u60 u61 u62 u63 u64 u65 u66 u67 u68 u69 u70 u71 u72 u73 u74 u75 u76 u77 u78 u79 u80 u81 u82 u83 u84 u85 u86 u87 u88 u89 u90 u91 u92 u93 u94 u95 u96 u97 u98 u99 u100 u101 u102 u103 u104 u105 u106 u107 u108 u109 u110 u111 u112 u113 u114 u115 u116 u117 u118 u119 u120 u121 u122 u123 u124 u125 u126 u127 u128 u129 u130 u131 u132 u133 u134 u135 u136 u137 u138 u139 u140 u141 u142 u143 u144 u145 u146 u147 u148 u149 u150 u151 u152 u153 u154 u155 u156 u157 u158 u159 u160 u161 u162 u163 u164 u165 u166 u167 u168 u169 u170 u171 u172 u173 u174 u175 u176 u177 u178 u179 u180 u181 u182 u183 u184 u185 u186 u187 u188 u189 u190 u191 u192 u193 u194 u195 u196 u197 u198 u199 u200 u201 u202 u203 u204 : Value)
    (hexit : ∀ (v13 v182 v183 v184 v185 v186 v187 v188 v189 v190 v191 v192 v193 v194 v195 v196 v197 v198 v199 v200 v201 : Value) w', Below W.heap.size W w' → X ⟨List.toArray (u0 :: p1 :: u2 :: .string (B (S0 ++ if acks.contains gs[k] = true then [43] else [])) :: u4 :: u5 :: u6 :: u7 :: u8 :: u9 :: p10 :: .pointer (some ⟨gx, 0, none⟩) :: .int .i64 (k : Nat) :: v13 :: u14 :: u15 :: u16 :: u17 :: u18 :: u19 :: u20 :: u21 :: u22 :: u23 :: u24 :: u25 :: u26 :: u27 :: u28 :: u29 :: u30 :: u31 :: u32 :: u33 :: u34 :: u35 :: u36 :: u37 :: u38 :: u39 :: u40 :: u41 :: u42 :: u43 :: u44 :: u45 :: u46 :: u47 :: u48 :: u49 :: u50 :: u51 :: u52 :: u53 :: u54 :: u55 :: u56 :: u57 :: u58 :: u59 :: u60 :: u61 :: u62 :: u63 :: u64 :: u65 :: u66 :: u67 :: u68 :: u69 :: u70 :: u71 :: u72 :: u73 :: u74 :: u75 :: u76 :: u77 :: u78 :: u79 :: u80 :: u81 :: u82 :: u83 :: u84 :: u85 :: u86 :: u87 :: u88 :: u89 :: u90 :: u91 :: u92 :: u93 :: u94 :: u95 :: u96 :: u97 :: u98 :: u99 :: u100 :: u101 :: u102 :: u103 :: u104 :: u105 :: u106 :: u107 :: u108 :: u109 :: u110 :: u111 :: u112 :: u113 :: u114 :: u115 :: u116 :: u117 :: u118 :: u119 :: u120 :: u121 :: u122 :: u123 :: u124 :: u125 :: u126 :: u127 :: u128 :: u129 :: u130 :: u131 :: u132 :: u133 :: u134 :: u135 :: u136 :: u137 :: u138 :: u139 :: u140 :: u141 :: u142 :: u143 :: u144 :: u145 :: u146 :: u147 :: u148 :: u149 :: u150 :: u151 :: u152 :: u153 :: u154 :: u155 :: u156 :: u157 :: u158 :: u159 :: u160 :: u161 :: u162 :: u163 :: u164 :: u165 :: u166 :: u167 :: u168 :: u169 :: u170 :: u171 :: u172 :: u173 :: u174 :: u175 :: u176 :: u177 :: u178 :: u179 :: u180 :: u181 :: v182 :: v183 :: v184 :: v185 :: v186 :: v187 :: v188 :: v189 :: v190 :: v191 :: v192 :: v193 :: v194 :: v195 :: v196 :: v197 :: v198 :: v199 :: v200 :: v201 :: u202 :: u203 :: u204 :: []), []⟩ w') :
    Code.wp Tryd.prog rtLoop6 (LQ 10 X) ⟨List.toArray (u0 :: p1 :: u2 :: .string (B S0) :: u4 :: u5 :: u6 :: u7 :: u8 :: u9 :: p10 :: .pointer (some ⟨gx, 0, none⟩) :: .int .i64 (k : Nat) :: .int .i64 0 :: u14 :: u15 :: u16 :: u17 :: u18 :: u19 :: u20 :: u21 :: u22 :: u23 :: u24 :: u25 :: u26 :: u27 :: u28 :: u29 :: u30 :: u31 :: u32 :: u33 :: u34 :: u35 :: u36 :: u37 :: u38 :: u39 :: u40 :: u41 :: u42 :: u43 :: u44 :: u45 :: u46 :: u47 :: u48 :: u49 :: u50 :: u51 :: u52 :: u53 :: u54 :: u55 :: u56 :: u57 :: u58 :: u59 :: u60 :: u61 :: u62 :: u63 :: u64 :: u65 :: u66 :: u67 :: u68 :: u69 :: u70 :: u71 :: u72 :: u73 :: u74 :: u75 :: u76 :: u77 :: u78 :: u79 :: u80 :: u81 :: u82 :: u83 :: u84 :: u85 :: u86 :: u87 :: u88 :: u89 :: u90 :: u91 :: u92 :: u93 :: u94 :: u95 :: u96 :: u97 :: u98 :: u99 :: u100 :: u101 :: u102 :: u103 :: u104 :: u105 :: u106 :: u107 :: u108 :: u109 :: u110 :: u111 :: u112 :: u113 :: u114 :: u115 :: u116 :: u117 :: u118 :: u119 :: u120 :: u121 :: u122 :: u123 :: u124 :: u125 :: u126 :: u127 :: u128 :: u129 :: u130 :: u131 :: u132 :: u133 :: u134 :: u135 :: u136 :: u137 :: u138 :: u139 :: u140 :: u141 :: u142 :: u143 :: u144 :: u145 :: u146 :: u147 :: u148 :: u149 :: u150 :: u151 :: u152 :: u153 :: u154 :: u155 :: u156 :: u157 :: u158 :: u159 :: u160 :: u161 :: u162 :: u163 :: u164 :: u165 :: u166 :: u167 :: u168 :: u169 :: u170 :: u171 :: u172 :: u173 :: u174 :: u175 :: u176 :: u177 :: u178 :: u179 :: u180 :: u181 :: u182 :: u183 :: u184 :: u185 :: u186 :: u187 :: u188 :: u189 :: u190 :: u191 :: u192 :: u193 :: u194 :: u195 :: u196 :: u197 :: u198 :: u199 :: u200 :: u201 :: u202 :: u203 :: u204 :: []), []⟩ w := by
  conv => arg 2; whnf
  obtain ⟨G2, O2, rfl, hc2⟩ := ints_plain hg2 (by omega)
  have q2 := hc2 k hk
  have hkz : ((k : Nat) : Int) < (gs.length : Int) := by omega
  generalize gs[k] = g at *
  have zs : (B S0).size ≤ 100000000000000 := by rw [B_size]; exact hS
  have hpl : B S0 ++ (⟨#[43]⟩ : ByteArray) = B (S0 ++ [43]) := by rw [show (⟨#[43]⟩ : ByteArray) = B [43] from rfl, B_append]
  have r1 := lt_false (n := (B S0).size + 1) (by omega)
  replace hpl := Go.Lib.hid hpl
  replace zs := Go.Lib.hid zs
  clear hc2
  go_loopw [3, 13] (fun v i wr => ∃ m : Nat, m ≤ acks.length ∧ i = .int .i64 m ∧ v = .string (B S0) ∧ (acks.take m).contains g = false ∧ Below W.heap.size W wr) (fun _ i _ => acks.length - (intOf i).toNat)
  case atStart => exact ⟨0, by omega, rfl, rfl, by simp, hB0⟩
  case round =>
    obtain ⟨m, hm, rfl, rfl, hnc, hBr⟩ := hrel
    replace hnc := Go.Lib.hid hnc
    have b1 := pw_cell_below hBr e1
    have b6 := pw_cell_below hBr e6
    have b2 := pw_cell_below hBr q2
    by_cases hlt : m < acks.length
    · have hltz : (m : Int) < (acks.length : Int) := by omega
      have hw64 : wrap64 ((m : Int) + 1) = ((m + 1 : Nat) : Int) := by unfold wrap64; omega
      obtain ⟨G7, O7, rfl, hc7⟩ := ints_plain hg7 (by omega)
      have b7 := pw_cell_below hBr (hc7 m hlt)
      have htk : acks.take (m + 1) = acks.take m ++ [acks[m]] := List.take_succ_eq_append_getElem hlt
      have hmem : acks[m] ∈ acks := List.getElem_mem hlt
      generalize acks[m] = a at *
      clear hc7
      have b1' := pw_cell_below (below_drew (Below.refl wr.heap.size wr)) b1
      by_cases he : a = g
      · have d1 : decide (a = g) = true := decide_eq_true he
        have d2 : (a == g) = true := by simpa using he
        have hcon : acks.contains g = true := by rw [he] at hmem; simpa using hmem
        rw [if_pos hcon] at hexit
        replace he := Go.Lib.hid he
        replace htk := Go.Lib.hid htk
        replace hmem := Go.Lib.hid hmem
        replace hcon := Go.Lib.hid hcon
        go_upto_region 32 with fail
        go_region_held_law (fun w' => w'.cell? ⟨gx, 2, none⟩ = some (.slice (some ⟨G2, O2, none⟩) gs.length c2) ∧ w'.cell? ⟨gx, 7, none⟩ = some (.slice (some ⟨G7, O7, none⟩) acks.length c7) ∧ w'.cell? ⟨G2, O2 + k, none⟩ = some (.int .i64 g) ∧ w'.cell? ⟨G7, O7 + m, none⟩ = some (.int .i64 a)) (go_keep) (fail)
        all_goals
          go_wp2_with fail
          rw [hpl.out]
          exact ⟨rfl, hexit _ _ _ _ _ _ _ _ _ _ _ _ _ _ _ _ _ _ _ _ _ _ (below_drew hBr)⟩
      · have d1 : decide (a = g) = false := decide_eq_false he
        have d2 : (a == g) = false := by simpa using he
        have hcon : (acks.take (m + 1)).contains g = false := by
          have h_ := hnc.out
          rw [htk]
          simp only [List.contains_eq_mem, List.mem_append, List.mem_singleton, decide_eq_false_iff_not] at h_ ⊢
          exact fun h => h.elim h_ (fun h => he h.symm)
        replace he := Go.Lib.hid he
        replace htk := Go.Lib.hid htk
        replace hmem := Go.Lib.hid hmem
        replace hcon := Go.Lib.hid hcon
        go_upto_region 32 with fail
        go_region_held_law (fun w' => w'.cell? ⟨gx, 2, none⟩ = some (.slice (some ⟨G2, O2, none⟩) gs.length c2) ∧ w'.cell? ⟨gx, 7, none⟩ = some (.slice (some ⟨G7, O7, none⟩) acks.length c7) ∧ w'.cell? ⟨G2, O2 + k, none⟩ = some (.int .i64 g) ∧ w'.cell? ⟨G7, O7 + m, none⟩ = some (.int .i64 a)) (go_keep) (fail)
        all_goals
          go_wp2_with fail
          go_roundw
          case rel => exact ⟨m + 1, hlt, by first | rfl | rw [hw64], rfl, hcon.out, below_drew hBr⟩
          case measure => simp only [intOf]; first | omega | (rw [hw64]; omega)
    · have hml : m = acks.length := by omega
      subst hml
      have hcon : acks.contains g = false := by have h_ := hnc.out; rwa [List.take_length] at h_
      have hltf : ¬ ((acks.length : Int) < (acks.length : Int)) := by omega
      rw [if_neg (by rw [hcon]; decide), List.append_nil] at hexit
      replace hcon := Go.Lib.hid hcon
      go_wp2_with fail
      exact ⟨rfl, hexit _ _ _ _ _ _ _ _ _ _ _ _ _ _ _ _ _ _ _ _ _ _ hBr⟩
end Go.Proofs.YtggogenhakdhiaaDoor.PSnapTexts
end
section
set_option linter.unusedVariables false
set_option linter.unusedSimpArgs false
attribute [local go_sem ↓] Go.wp_at_zero Go.wp_at_succ
namespace Go.Proofs.YtggogenhakdhiaaDoor.PSnapTexts
open Go.RowKit Go.Proofs.YtggogenhakdhiaaDoorW.PrintWords Go.Proofs.YtggogenhakdhiaaDoorW.PrintLast Go.Proofs.YtggogenhakdhiaaDoorW.PrintMore
open Classical

set_option maxHeartbeats 8000000 in
set_option maxRecDepth 20000 in
theorem rt_loop5 (W w : World) (gx : Nat) (p1 p10 : Value) (A2 A7 : Option Addr) (c2 c7 : Nat) (gs acks : List Int) (e1 : W.cell? ⟨gx, 2, none⟩ = some (.slice A2 gs.length c2)) (e6 : W.cell? ⟨gx, 7, none⟩ = some (.slice A7 acks.length c7)) (hg2 : (Kd.int .i64).C W A2 gs.length gs) (hg7 : (Kd.int .i64).C W A7 acks.length acks) (hn2 : gs.length ≤ 1048576) (hn7 : acks.length ≤ 1048576) (hr : ∀ n ∈ gs, InR n) (S0 : List UInt8) (hS : S0.length ≤ 90000000000000) (hB0 : Below W.heap.size W w) {X : Act → World → Prop} (u0 u2 u4 u5 u6 u7 u8 u9 u13 u14 u15 u16 u17 u18 u19 u20 u21 u22 u23 u24 u25 u26 u27 u28 u29 u30 u31 u32 u33 u34 u35 u36 u37 u38 u39 u40 u41 u42 u43 u44 u45 u46 u47 u48 u49 u50 u51 u52 u53 u54 u55 u56 u57 u58 u59 u60 u61 u62 u63 u64 u65 u66 u67 u68 u69 u70 u71 u72 u73 u74 u75 u76 u77 u78 u79 u80 u81 u82 u83 u84 u85 u86 u87 u88 u89 u90 u91 u92 u93 u94 u95 u96 u97 u98 u99 u100 u101 u102 u103 u104 u105 u106 u107 u108 u109 u110 u111 u112 u113 u114 u115 u116 u117 u118 u119 u120 u121 u122 u123 u124 u125 u126 u127 u128 u129 u130 u131 u132 u133 u134 u135 u136 u137 u138 u139 u140 u141 u142 u143 u144 u145 u146 u147 u148 u149 u150 u151 u152 u153 u154 u155 u156 u157 u158 u159 u160 u161 u162 u163 u164 u165 u166 u167 u168 u169 u170 u171 u172 u173 u174 u175 u176 u177 u178 u179 u180 u181 u182 u183 u184 u185 u186 u187 u188 u189 u190 u191 u192 u193 u194 u195 u196 u197 u198 u199 u200 u201 u202 u203 u204 : Value)
    (hexit : ∀ (v13 v166 v167 v168 v169 v170 v171 v172 v173 v174 v175 v176 v177 v178 v179 v180 v181 v182 v183 v184 v185 v186 v187 v188 v189 v190 v191 v192 v193 v194 v195 v196 v197 v198 v199 v200 v201 : Value) w', Below W.heap.size W w' → X ⟨List.toArray (u0 :: p1 :: u2 :: .string (B (S0 ++ gs.flatMap fun g => 32 :: groupWord acks g)) :: u4 :: u5 :: u6 :: u7 :: u8 :: u9 :: p10 :: .pointer (some ⟨gx, 0, none⟩) :: .int .i64 (gs.length : Int) :: v13 :: u14 :: u15 :: u16 :: u17 :: u18 :: u19 :: u20 :: u21 :: u22 :: u23 :: u24 :: u25 :: u26 :: u27 :: u28 :: u29 :: u30 :: u31 :: u32 :: u33 :: u34 :: u35 :: u36 :: u37 :: u38 :: u39 :: u40 :: u41 :: u42 :: u43 :: u44 :: u45 :: u46 :: u47 :: u48 :: u49 :: u50 :: u51 :: u52 :: u53 :: u54 :: u55 :: u56 :: u57 :: u58 :: u59 :: u60 :: u61 :: u62 :: u63 :: u64 :: u65 :: u66 :: u67 :: u68 :: u69 :: u70 :: u71 :: u72 :: u73 :: u74 :: u75 :: u76 :: u77 :: u78 :: u79 :: u80 :: u81 :: u82 :: u83 :: u84 :: u85 :: u86 :: u87 :: u88 :: u89 :: u90 :: u91 :: u92 :: u93 :: u94 :: u95 :: u96 :: u97 :: u98 :: u99 :: u100 :: u101 :: u102 :: u103 :: u104 :: u105 :: u106 :: u107 :: u108 :: u109 :: u110 :: u111 :: u112 :: u113 :: u114 :: u115 :: u116 :: u117 :: u118 :: u119 :: u120 :: u121 :: u122 :: u123 :: u124 :: u125 :: u126 :: u127 :: u128 :: u129 :: u130 :: u131 :: u132 :: u133 :: u134 :: u135 :: u136 :: u137 :: u138 :: u139 :: u140 :: u141 :: u142 :: u143 :: u144 :: u145 :: u146 :: u147 :: u148 :: u149 :: u150 :: u151 :: u152 :: u153 :: u154 :: u155 :: u156 :: u157 :: u158 :: u159 :: u160 :: u161 :: u162 :: u163 :: u164 :: u165 :: v166 :: v167 :: v168 :: v169 :: v170 :: v171 :: v172 :: v173 :: v174 :: v175 :: v176 :: v177 :: v178 :: v179 :: v180 :: v181 :: v182 :: v183 :: v184 :: v185 :: v186 :: v187 :: v188 :: v189 :: v190 :: v191 :: v192 :: v193 :: v194 :: v195 :: v196 :: v197 :: v198 :: v199 :: v200 :: v201 :: u202 :: u203 :: u204 :: []), []⟩ w') :
    Code.wp Tryd.prog rtLoop5 (LQ 8 X) ⟨List.toArray (u0 :: p1 :: u2 :: .string (B S0) :: u4 :: u5 :: u6 :: u7 :: u8 :: u9 :: p10 :: .pointer (some ⟨gx, 0, none⟩) :: .int .i64 0 :: u13 :: u14 :: u15 :: u16 :: u17 :: u18 :: u19 :: u20 :: u21 :: u22 :: u23 :: u24 :: u25 :: u26 :: u27 :: u28 :: u29 :: u30 :: u31 :: u32 :: u33 :: u34 :: u35 :: u36 :: u37 :: u38 :: u39 :: u40 :: u41 :: u42 :: u43 :: u44 :: u45 :: u46 :: u47 :: u48 :: u49 :: u50 :: u51 :: u52 :: u53 :: u54 :: u55 :: u56 :: u57 :: u58 :: u59 :: u60 :: u61 :: u62 :: u63 :: u64 :: u65 :: u66 :: u67 :: u68 :: u69 :: u70 :: u71 :: u72 :: u73 :: u74 :: u75 :: u76 :: u77 :: u78 :: u79 :: u80 :: u81 :: u82 :: u83 :: u84 :: u85 :: u86 :: u87 :: u88 :: u89 :: u90 :: u91 :: u92 :: u93 :: u94 :: u95 :: u96 :: u97 :: u98 :: u99 :: u100 :: u101 :: u102 :: u103 :: u104 :: u105 :: u106 :: u107 :: u108 :: u109 :: u110 :: u111 :: u112 :: u113 :: u114 :: u115 :: u116 :: u117 :: u118 :: u119 :: u120 :: u121 :: u122 :: u123 :: u124 :: u125 :: u126 :: u127 :: u128 :: u129 :: u130 :: u131 :: u132 :: u133 :: u134 :: u135 :: u136 :: u137 :: u138 :: u139 :: u140 :: u141 :: u142 :: u143 :: u144 :: u145 :: u146 :: u147 :: u148 :: u149 :: u150 :: u151 :: u152 :: u153 :: u154 :: u155 :: u156 :: u157 :: u158 :: u159 :: u160 :: u161 :: u162 :: u163 :: u164 :: u165 :: u166 :: u167 :: u168 :: u169 :: u170 :: u171 :: u172 :: u173 :: u174 :: u175 :: u176 :: u177 :: u178 :: u179 :: u180 :: u181 :: u182 :: u183 :: u184 :: u185 :: u186 :: u187 :: u188 :: u189 :: u190 :: u191 :: u192 :: u193 :: u194 :: u195 :: u196 :: u197 :: u198 :: u199 :: u200 :: u201 :: u202 :: u203 :: u204 :: []), []⟩ w := by
  conv => arg 2; whnf
  go_loopw [3, 12] (fun v i wr => ∃ k : Nat, k ≤ gs.length ∧ i = .int .i64 k ∧ v = .string (B (S0 ++ (gs.take k).flatMap fun g => 32 :: groupWord acks g)) ∧ Below W.heap.size W wr) (fun _ i _ => gs.length - (intOf i).toNat)
  case atStart => exact ⟨0, by omega, rfl, by simp, hB0⟩
  case round =>
    obtain ⟨k, hk, rfl, rfl, hBr⟩ := hrel
    have b1 := pw_cell_below hBr e1
    by_cases hlt : k < gs.length
    · have hltz : (k : Int) < (gs.length : Int) := by omega
      have hw64 : wrap64 ((k : Int) + 1) = ((k + 1 : Nat) : Int) := by unfold wrap64; omega
      obtain ⟨G2, O2, hA2, hc2⟩ := ints_plain hg2 (by omega)
      have b2 := pw_cell_below hBr (hc2 k hlt)
      rw [hA2] at b1
      have hir := hr _ (List.getElem_mem hlt)
      have htk := take_flat (fun g => 32 :: groupWord acks g) gs k hlt
      have hpl : ((gs.take k).flatMap fun g => 32 :: groupWord acks g).length ≤ 23 * gs.length := part_len _ 23 gs (fun g hg => by have := group_len (acks := acks) (hr g hg); simp only [List.length_cons]; omega) k
      have hgw : groupWord acks gs[k] = Lib.itoa gs[k] ++ if acks.contains gs[k] = true then [43] else [] := rfl
      have zi : (B (Lib.itoa gs[k])).size ≤ 21 := by rw [B_size]; exact itoa_len hir
      have HW := whole_calls gs[k] hir
      obtain ⟨S1, hS1⟩ : ∃ x, x = S0 ++ (gs.take k).flatMap fun g => 32 :: groupWord acks g := ⟨_, rfl⟩
      have zx : (B S1).size ≤ 90000100000000 := by rw [B_size, hS1, List.length_append]; omega
      have hnew : B S1 ++ (⟨#[32]⟩ : ByteArray) ++ B (Lib.itoa gs[k]) = B (S1 ++ 32 :: Lib.itoa gs[k]) := by
        rw [show (⟨#[32]⟩ : ByteArray) = B [32] from rfl]
        simp only [B_append]
        congr 1
        simp
      have hnl : (S1 ++ 32 :: Lib.itoa gs[k]).length ≤ 100000000000000 := by rw [← B_size, ← hnew]; simp only [ByteArray.size_append]; rw [show (⟨#[32]⟩ : ByteArray).size = 1 from rfl]; omega
      have hfin : S1 ++ 32 :: Lib.itoa gs[k] ++ (if acks.contains gs[k] = true then [43] else []) = S0 ++ (gs.take (k + 1)).flatMap fun g => 32 :: groupWord acks g := by
        rw [htk, hS1, hgw]
        simp
      rw [← hS1]
      have r1 := lt_false (n := (B S1).size + 1) (by omega)
      have r2 := lt_false (n := (B S1).size + 1 + (B (Lib.itoa gs[k])).size) (by omega)
      replace hA2 := Go.Lib.hid hA2
      replace hS1 := Go.Lib.hid hS1
      replace hnew := Go.Lib.hid hnew
      replace hfin := Go.Lib.hid hfin
      replace zi := Go.Lib.hid zi
      replace zx := Go.Lib.hid zx
      replace htk := Go.Lib.hid htk
      replace hgw := Go.Lib.hid hgw
      replace hnl := Go.Lib.hid hnl
      clear hpl hc2
      go_upto_region 29 with (go_at_call 82; refine (HW _).mono ?_; rintro e w2 ⟨rfl, hB2⟩)
      have hB3 := hBr.trans (hB2.mono hBr.size)
      rw [hnew.out]
      clear r1 r2 b1 b2
      go_wp2_with fail
      refine wp_of_LQ (n := 10) (rt_loop6 W _ gx p1 p10 A2 A7 c2 c7 gs acks e1 e6 hg2 hg7 hn2 hn7 k hlt _ hnl.out hB3 _ _ _ _ _ _ _ _ _ _ _ _ _ _ _ _ _ _ _ _ _ _ _ _ _ _ _ _ _ _ _ _ _ _ _ _ _ _ _ _ _ _ _ _ _ _ _ _ _ _ _ _ _ _ _ _ _ _ _ _ _ _ _ _ _ _ _ _ _ _ _ _ _ _ _ _ _ _ _ _ _ _ _ _ _ _ _ _ _ _ _ _ _ _ _ _ _ _ _ _ _ _ _ _ _ _ _ _ _ _ _ _ _ _ _ _ _ _ _ _ _ _ _ _ _ _ _ _ _ _ _ _ _ _ _ _ _ _ _ _ _ _ _ _ _ _ _ _ _ _ _ _ _ _ _ _ _ _ _ _ _ _ _ _ _ _ _ _ _ _ _ _ _ _ _ _ _ _ _ _ _ _ _ _ _ _ _ _ _ _ _ _ _ _ _ _ _ _ _ ?_)
      intro z13 z182 z183 z184 z185 z186 z187 z188 z189 z190 z191 z192 z193 z194 z195 z196 z197 z198 z199 z200 z201 w4 hB4
      rw [hfin.out]
      go_wp2_with fail
      go_roundw
      case rel => exact ⟨k + 1, hlt, by first | rfl | rw [hw64], rfl, hB4⟩
      case measure => simp only [intOf]; first | omega | (rw [hw64]; omega)
    · have hkl : k = gs.length := by omega
      subst hkl
      rw [List.take_length]
      have hltf : ¬ ((gs.length : Int) < (gs.length : Int)) := by omega
      go_wp2_with fail
      exact ⟨rfl, hexit _ _ _ _ _ _ _ _ _ _ _ _ _ _ _ _ _ _ _ _ _ _ _ _ _ _ _ _ _ _ _ _ _ _ _ _ _ _ hBr⟩
end Go.Proofs.YtggogenhakdhiaaDoor.PSnapTexts
end
section
set_option linter.unusedVariables false
set_option linter.unusedSimpArgs false
attribute [local go_sem ↓] Go.wp_at_zero Go.wp_at_succ
namespace Go.Proofs.YtggogenhakdhiaaDoor.PSnapTexts
open Go.RowKit Go.Proofs.YtggogenhakdhiaaDoorW.PrintWords Go.Proofs.YtggogenhakdhiaaDoorW.PrintLast Go.Proofs.YtggogenhakdhiaaDoorW.PrintMore
open Classical

def recPre (x : S118) : List UInt8 := wRecord ++ 32 :: idL x.f0 ++ 32 :: Lib.itoa x.f3 ++ 32 :: Lib.itoa x.f4 ++ 32 :: Lib.itoa x.f5
def recGroups (x : S118) : List UInt8 := x.f1.flatMap fun g => 32 :: groupWord x.f6 g
theorem rec_line3 (x : S118) : recLine x = recPre x ++ recGroups x ++ [10] := by rw [rec_lineL]; simp [recPre, recGroups]
set_option maxHeartbeats 8000000 in
set_option maxRecDepth 20000 in
theorem rt_loop4 {M : Nat} (hM : M ≤ 1048576) (W w : World) (g : Nat) (A : Option Addr) (c : Nat) (l : List S118) (S0 : List UInt8) (a0 : W.cell? ⟨g, 6, none⟩ = some (.slice A l.length c)) (hg : Kd.C k118 W A l.length l) (hc : l.length ≤ c)
    (hl : ∀ x ∈ l, RecOk M x) (hll : l.length ≤ M) (hS : S0.length ≤ 50000000000000) (hB0 : Below W.heap.size W w) {X : Act → World → Prop} (u0 u2 u4 u5 u6 u7 u8 u9 u11 u12 u13 u14 u15 u16 u17 u18 u19 u20 u21 u22 u23 u24 u25 u26 u27 u28 u29 u30 u31 u32 u33 u34 u35 u36 u37 u38 u39 u40 u41 u42 u43 u44 u45 u46 u47 u48 u49 u50 u51 u52 u53 u54 u55 u56 u57 u58 u59 u60 u61 u62 u63 u64 u65 u66 u67 u68 u69 u70 u71 u72 u73 u74 u75 u76 u77 u78 u79 u80 u81 u82 u83 u84 u85 u86 u87 u88 u89 u90 u91 u92 u93 u94 u95 u96 u97 u98 u99 u100 u101 u102 u103 u104 u105 u106 u107 u108 u109 u110 u111 u112 u113 u114 u115 u116 u117 u118 u119 u120 u121 u122 u123 u124 u125 u126 u127 u128 u129 u130 u131 u132 u133 u134 u135 u136 u137 u138 u139 u140 u141 u142 u143 u144 u145 u146 u147 u148 u149 u150 u151 u152 u153 u154 u155 u156 u157 u158 u159 u160 u161 u162 u163 u164 u165 u166 u167 u168 u169 u170 u171 u172 u173 u174 u175 u176 u177 u178 u179 u180 u181 u182 u183 u184 u185 u186 u187 u188 u189 u190 u191 u192 u193 u194 u195 u196 u197 u198 u199 u200 u201 u202 u203 u204 : Value)
    (hexit : ∀ (v0 v2 v4 v5 v6 v7 v8 v9 v11 v12 v13 v14 v15 v16 v17 v18 v19 v20 v21 v22 v23 v24 v25 v26 v27 v28 v29 v30 v31 v32 v33 v34 v35 v36 v37 v38 v39 v40 v41 v42 v43 v44 v45 v46 v47 v48 v49 v50 v51 v52 v53 v54 v55 v56 v57 v58 v59 v60 v61 v62 v63 v64 v65 v66 v67 v68 v69 v70 v71 v72 v73 v74 v75 v76 v77 v78 v79 v80 v81 v82 v83 v84 v85 v86 v87 v88 v89 v90 v91 v92 v93 v94 v95 v96 v97 v98 v99 v100 v101 v102 v103 v104 v105 v106 v107 v108 v109 v110 v111 v112 v113 v114 v115 v116 v117 v118 v119 v120 v121 v122 v123 v124 v125 v126 v127 v128 v129 v130 v131 v132 v133 v134 v135 v136 v137 v138 v139 v140 v141 v142 v143 v144 v145 v146 v147 v148 v149 v150 v151 v152 v153 v154 v155 v156 v157 v158 v159 v160 v161 v162 v163 v164 v165 v166 v167 v168 v169 v170 v171 v172 v173 v174 v175 v176 v177 v178 v179 v180 v181 v182 v183 v184 v185 v186 v187 v188 v189 v190 v191 v192 v193 v194 v195 v196 v197 v198 v199 v200 v201 v202 v203 v204 : Value) w', Below W.heap.size W w' → X ⟨List.toArray (v0 :: .pointer (some ⟨g, 0, none⟩) :: v2 :: .string (B (S0 ++ l.flatMap recLine)) :: v4 :: v5 :: v6 :: v7 :: v8 :: v9 :: .int .i64 (l.length : Int) :: v11 :: v12 :: v13 :: v14 :: v15 :: v16 :: v17 :: v18 :: v19 :: v20 :: v21 :: v22 :: v23 :: v24 :: v25 :: v26 :: v27 :: v28 :: v29 :: v30 :: v31 :: v32 :: v33 :: v34 :: v35 :: v36 :: v37 :: v38 :: v39 :: v40 :: v41 :: v42 :: v43 :: v44 :: v45 :: v46 :: v47 :: v48 :: v49 :: v50 :: v51 :: v52 :: v53 :: v54 :: v55 :: v56 :: v57 :: v58 :: v59 :: v60 :: v61 :: v62 :: v63 :: v64 :: v65 :: v66 :: v67 :: v68 :: v69 :: v70 :: v71 :: v72 :: v73 :: v74 :: v75 :: v76 :: v77 :: v78 :: v79 :: v80 :: v81 :: v82 :: v83 :: v84 :: v85 :: v86 :: v87 :: v88 :: v89 :: v90 :: v91 :: v92 :: v93 :: v94 :: v95 :: v96 :: v97 :: v98 :: v99 :: v100 :: v101 :: v102 :: v103 :: v104 :: v105 :: v106 :: v107 :: v108 :: v109 :: v110 :: v111 :: v112 :: v113 :: v114 :: v115 :: v116 :: v117 :: v118 :: v119 :: v120 :: v121 :: v122 :: v123 :: v124 :: v125 :: v126 :: v127 :: v128 :: v129 :: v130 :: v131 :: v132 :: v133 :: v134 :: v135 :: v136 :: v137 :: v138 :: v139 :: v140 :: v141 :: v142 :: v143 :: v144 :: v145 :: v146 :: v147 :: v148 :: v149 :: v150 :: v151 :: v152 :: v153 :: v154 :: v155 :: v156 :: v157 :: v158 :: v159 :: v160 :: v161 :: v162 :: v163 :: v164 :: v165 :: v166 :: v167 :: v168 :: v169 :: v170 :: v171 :: v172 :: v173 :: v174 :: v175 :: v176 :: v177 :: v178 :: v179 :: v180 :: v181 :: v182 :: v183 :: v184 :: v185 :: v186 :: v187 :: v188 :: v189 :: v190 :: v191 :: v192 :: v193 :: v194 :: v195 :: v196 :: v197 :: v198 :: v199 :: v200 :: v201 :: v202 :: v203 :: v204 :: []), []⟩ w') :
    Code.wp Tryd.prog rtLoop4 (LQ 6 X) ⟨List.toArray (u0 :: .pointer (some ⟨g, 0, none⟩) :: u2 :: .string (B S0) :: u4 :: u5 :: u6 :: u7 :: u8 :: u9 :: .int .i64 0 :: u11 :: u12 :: u13 :: u14 :: u15 :: u16 :: u17 :: u18 :: u19 :: u20 :: u21 :: u22 :: u23 :: u24 :: u25 :: u26 :: u27 :: u28 :: u29 :: u30 :: u31 :: u32 :: u33 :: u34 :: u35 :: u36 :: u37 :: u38 :: u39 :: u40 :: u41 :: u42 :: u43 :: u44 :: u45 :: u46 :: u47 :: u48 :: u49 :: u50 :: u51 :: u52 :: u53 :: u54 :: u55 :: u56 :: u57 :: u58 :: u59 :: u60 :: u61 :: u62 :: u63 :: u64 :: u65 :: u66 :: u67 :: u68 :: u69 :: u70 :: u71 :: u72 :: u73 :: u74 :: u75 :: u76 :: u77 :: u78 :: u79 :: u80 :: u81 :: u82 :: u83 :: u84 :: u85 :: u86 :: u87 :: u88 :: u89 :: u90 :: u91 :: u92 :: u93 :: u94 :: u95 :: u96 :: u97 :: u98 :: u99 :: u100 :: u101 :: u102 :: u103 :: u104 :: u105 :: u106 :: u107 :: u108 :: u109 :: u110 :: u111 :: u112 :: u113 :: u114 :: u115 :: u116 :: u117 :: u118 :: u119 :: u120 :: u121 :: u122 :: u123 :: u124 :: u125 :: u126 :: u127 :: u128 :: u129 :: u130 :: u131 :: u132 :: u133 :: u134 :: u135 :: u136 :: u137 :: u138 :: u139 :: u140 :: u141 :: u142 :: u143 :: u144 :: u145 :: u146 :: u147 :: u148 :: u149 :: u150 :: u151 :: u152 :: u153 :: u154 :: u155 :: u156 :: u157 :: u158 :: u159 :: u160 :: u161 :: u162 :: u163 :: u164 :: u165 :: u166 :: u167 :: u168 :: u169 :: u170 :: u171 :: u172 :: u173 :: u174 :: u175 :: u176 :: u177 :: u178 :: u179 :: u180 :: u181 :: u182 :: u183 :: u184 :: u185 :: u186 :: u187 :: u188 :: u189 :: u190 :: u191 :: u192 :: u193 :: u194 :: u195 :: u196 :: u197 :: u198 :: u199 :: u200 :: u201 :: u202 :: u203 :: u204 :: []), []⟩ w := by
  conv => arg 2; whnf
  go_loopw [3, 10] (fun v i wr => ∃ j : Nat, j ≤ l.length ∧ i = .int .i64 j ∧ v = .string (B (S0 ++ (l.take j).flatMap recLine)) ∧ Below W.heap.size W wr) (fun _ i _ => l.length - (intOf i).toNat)
  case atStart => exact ⟨0, by omega, rfl, by simp, hB0⟩
  case round =>
    obtain ⟨j, hj, rfl, rfl, hBr⟩ := hrel
    have p0 := pw_cell_below hBr a0
    by_cases hlt : j < l.length
    · have hltz : (j : Int) < (l.length : Int) := by omega
      have hw64 : wrap64 ((j : Int) + 1) = ((j + 1 : Nat) : Int) := by unfold wrap64; omega
      obtain ⟨G, O, rfl, hcA⟩ := rec_plain hg (by omega)
      obtain ⟨A2, c2, A3, c3, A7, c7, b0, b1, b2, b3, b4, b5, b6, b7, hl2, q2, hl3, q3, hl7, q7⟩ := hcA j hlt
      have hok := hl _ (List.getElem_mem hlt)
      have htk := take_flat recLine l j hlt
      have hpl : ((l.take j).flatMap recLine).length ≤ 30000000000000 := rec_part6 hM hl hll j
      have hrl := rec_len (hl _ (List.getElem_mem hlt))
      generalize l[j] = x at *
      replace b0 := pw_cell_below hBr b0
      replace b1 := pw_cell_below hBr b1
      replace b2 := pw_cell_below hBr b2
      replace b3 := pw_cell_below hBr b3
      replace b4 := pw_cell_below hBr b4
      replace b5 := pw_cell_below hBr b5
      replace b6 := pw_cell_below hBr b6
      replace b7 := pw_cell_below hBr b7
      replace q2 := Kd.C_below q2 hBr
      replace q7 := Kd.C_below q7 hBr
      have hx3 := rec_line3 x
      have hle : (recPre x).length + (recGroups x).length + 1 ≤ 25000000 := by rw [hx3] at hrl; simp only [List.length_append, List.length_cons, List.length_nil] at hrl; omega
      have zx : (B (S0 ++ (l.take j).flatMap recLine)).size ≤ 80000000000000 := by rw [B_size, List.length_append]; omega
      have Hsi := text2_calls x.f0 hok.i
      have zsi : (B (idL x.f0)).size ≤ 43 := by rw [B_size]; exact idL_len hok.i
      have Hsa := whole_calls x.f3 hok.a
      have zsa : (B (Lib.itoa x.f3)).size ≤ 21 := by rw [B_size]; exact itoa_len hok.a
      have Hsb := whole_calls x.f4 hok.b
      have zsb : (B (Lib.itoa x.f4)).size ≤ 21 := by rw [B_size]; exact itoa_len hok.b
      have Hsn := whole_calls x.f5 hok.c
      have zsn : (B (Lib.itoa x.f5)).size ≤ 21 := by rw [B_size]; exact itoa_len hok.c
      obtain ⟨S2, hS2⟩ : ∃ y, y = S0 ++ (l.take j).flatMap recLine ++ recPre x := ⟨_, rfl⟩
      have hnew : B (S0 ++ (l.take j).flatMap recLine) ++ (⟨#[114, 101, 99, 111, 114, 100, 32]⟩ : ByteArray) ++ B (idL x.f0) ++ (⟨#[32]⟩ : ByteArray) ++ B (Lib.itoa x.f3) ++ (⟨#[32]⟩ : ByteArray) ++ B (Lib.itoa x.f4) ++ (⟨#[32]⟩ : ByteArray) ++ B (Lib.itoa x.f5) = B S2 := by
        rw [hS2, show (⟨#[114, 101, 99, 111, 114, 100, 32]⟩ : ByteArray) = B [114, 101, 99, 111, 114, 100, 32] from rfl, show (⟨#[32]⟩ : ByteArray) = B [32] from rfl]
        simp only [B_append]
        congr 1
        simp [recPre, wRecord]
      have hS2l : S2.length ≤ 90000000000000 := by rw [hS2]; simp only [List.length_append]; omega
      have hfin : B (S2 ++ recGroups x) ++ (⟨#[10]⟩ : ByteArray) = B (S0 ++ (l.take (j + 1)).flatMap recLine) := by
        rw [show (⟨#[10]⟩ : ByteArray) = B [10] from rfl, B_append, hS2, htk, hx3]
        congr 1
        simp
      have zf : (B (S2 ++ recGroups x)).size ≤ 90000050000000 := by rw [B_size, List.length_append]; omega
      generalize B (idL x.f0) = si at *
      generalize B (Lib.itoa x.f3) = sa at *
      generalize B (Lib.itoa x.f4) = sb at *
      generalize B (Lib.itoa x.f5) = sn at *
      generalize B (S0 ++ (l.take j).flatMap recLine) = sx at *
      have r1 := lt_false (n := sx.size + 7) (by omega)
      have r2 := lt_false (n := sx.size + 7 + si.size) (by omega)
      have r3 := lt_false (n := sx.size + 7 + si.size + 1) (by omega)
      have r4 := lt_false (n := sx.size + 7 + si.size + 1 + sa.size) (by omega)
      have r5 := lt_false (n := sx.size + 7 + si.size + 1 + sa.size + 1) (by omega)
      have r6 := lt_false (n := sx.size + 7 + si.size + 1 + sa.size + 1 + sb.size) (by omega)
      have r7 := lt_false (n := sx.size + 7 + si.size + 1 + sa.size + 1 + sb.size + 1) (by omega)
      have r8 := lt_false (n := sx.size + 7 + si.size + 1 + sa.size + 1 + sb.size + 1 + sn.size) (by omega)
      replace hnew := Go.Lib.hid hnew
      replace zx := Go.Lib.hid zx
      replace hS2 := Go.Lib.hid hS2
      replace hfin := Go.Lib.hid hfin
      replace zf := Go.Lib.hid zf
      replace htk := Go.Lib.hid htk
      replace hx3 := Go.Lib.hid hx3
      replace hrl := Go.Lib.hid hrl
      replace hle := Go.Lib.hid hle
      replace hS2l := Go.Lib.hid hS2l
      replace zsi := Go.Lib.hid zsi
      replace zsa := Go.Lib.hid zsa
      replace zsb := Go.Lib.hid zsb
      replace zsn := Go.Lib.hid zsn
      clear hcA hpl
      have hzr := hBr.size
      go_upto_region 24 with fail
      have hB1 : Below wr.heap.size wr (wr.alloc (.cells #[.int .i64 x.f0.f0, .int .i64 x.f0.f1, .slice A2 x.f1.length c2, .slice A3 x.f2.length c3, .int .i64 x.f3, .int .i64 x.f4, .int .i64 x.f5, .slice A7 x.f6.length c7] 118)) := below_alloc (Below.refl _ _) _
      have hx := heap_alloc_new wr (.cells #[.int .i64 x.f0.f0, .int .i64 x.f0.f1, .slice A2 x.f1.length c2, .slice A3 x.f2.length c3, .int .i64 x.f3, .int .i64 x.f4, .int .i64 x.f5, .slice A7 x.f6.length c7] 118)
      obtain ⟨gx, hgx⟩ : ∃ y, y = wr.heap.size := ⟨_, rfl⟩
      rw [← hgx] at hx ⊢
      replace q2 := Kd.C_below q2 hB1
      replace q7 := Kd.C_below q7 hB1
      generalize wr.alloc (.cells #[.int .i64 x.f0.f0, .int .i64 x.f0.f1, .slice A2 x.f1.length c2, .slice A3 x.f2.length c3, .int .i64 x.f3, .int .i64 x.f4, .int .i64 x.f5, .slice A7 x.f6.length c7] 118) = V at *
      clear hgx b0 b1 b2 b3 b4 b5 b6 b7
      have e0 := blk_cell hx 0
      have e1 := blk_cell hx 1
      have e2 := blk_cell hx 2
      have e3 := blk_cell hx 3
      have e4 := blk_cell hx 4
      have e5 := blk_cell hx 5
      have e6 := blk_cell hx 6
      have e7 := blk_cell hx 7
      simp only [List.getElem?_toArray, List.getElem?_cons_zero, List.getElem?_cons_succ] at e0 e1 e2 e3 e4 e5 e6 e7
      clear hx
      have hv1 : Below V.heap.size V V.drew := below_drew (Below.refl _ _)
      go_region_held_law (fun w' => w'.cell? ⟨gx, 0, none⟩ = some (.int .i64 x.f0.f0) ∧ w'.cell? ⟨gx, 1, none⟩ = some (.int .i64 x.f0.f1) ∧ w'.cell? ⟨gx, 4, none⟩ = some (.int .i64 x.f3) ∧ w'.cell? ⟨gx, 5, none⟩ = some (.int .i64 x.f4) ∧ w'.cell? ⟨gx, 6, none⟩ = some (.int .i64 x.f5))
        (first | go_keep | exact ⟨pw_cell_below hv5 e0, pw_cell_below hv5 e1, pw_cell_below hv5 e4, pw_cell_below hv5 e5, pw_cell_below hv5 e6⟩ | exact ⟨pw_cell_below hv4 e0, pw_cell_below hv4 e1, pw_cell_below hv4 e4, pw_cell_below hv4 e5, pw_cell_below hv4 e6⟩ | exact ⟨pw_cell_below hv3 e0, pw_cell_below hv3 e1, pw_cell_below hv3 e4, pw_cell_below hv3 e5, pw_cell_below hv3 e6⟩ | exact ⟨pw_cell_below hv2 e0, pw_cell_below hv2 e1, pw_cell_below hv2 e4, pw_cell_below hv2 e5, pw_cell_below hv2 e6⟩ | exact ⟨pw_cell_below hv1 e0, pw_cell_below hv1 e1, pw_cell_below hv1 e4, pw_cell_below hv1 e5, pw_cell_below hv1 e6⟩)
        ((first
          | (go_at_call 82; refine (Hsn u_4).mono ?_; rintro e u_5 ⟨rfl, hu5⟩; have hv5 := hv4.trans (hu5.mono hv4.size))
          | (go_at_call 82; refine (Hsb u_3).mono ?_; rintro e u_4 ⟨rfl, hu4⟩; have hv4 := hv3.trans (hu4.mono hv3.size))
          | (go_at_call 82; refine (Hsa u_2).mono ?_; rintro e u_3 ⟨rfl, hu3⟩; have hv3 := hv2.trans (hu3.mono hv2.size))
          | (go_at_call 85; refine (Hsi _).mono ?_; rintro e u_2 ⟨rfl, hu2⟩; have hv2 := hv1.trans (hu2.mono hv1.size))))
      rw [hnew.out]
      clear r1 r2 r3 r4 r5 r6 r7 r8 hnew
      clear Hsi Hsa Hsb Hsn hv1 hv2 hv3 hv4 hu2 hu3 hu4 hu5
      go_wp2_with fail
      refine wp_of_LQ (n := 8) (rt_loop5 V _ gx _ _ A2 A7 c2 c7 x.f1 x.f6 e2 e7 q2 q7 (by have := hok.g; omega) (by have := hok.k; omega) hok.r S2 hS2l.out hv5 _ _ _ _ _ _ _ _ _ _ _ _ _ _ _ _ _ _ _ _ _ _ _ _ _ _ _ _ _ _ _ _ _ _ _ _ _ _ _ _ _ _ _ _ _ _ _ _ _ _ _ _ _ _ _ _ _ _ _ _ _ _ _ _ _ _ _ _ _ _ _ _ _ _ _ _ _ _ _ _ _ _ _ _ _ _ _ _ _ _ _ _ _ _ _ _ _ _ _ _ _ _ _ _ _ _ _ _ _ _ _ _ _ _ _ _ _ _ _ _ _ _ _ _ _ _ _ _ _ _ _ _ _ _ _ _ _ _ _ _ _ _ _ _ _ _ _ _ _ _ _ _ _ _ _ _ _ _ _ _ _ _ _ _ _ _ _ _ _ _ _ _ _ _ _ _ _ _ _ _ _ _ _ _ _ _ _ _ _ _ _ _ _ _ _ _ _ _ _ _ ?_)
      intro z13 z166 z167 z168 z169 z170 z171 z172 z173 z174 z175 z176 z177 z178 z179 z180 z181 z182 z183 z184 z185 z186 z187 z188 z189 z190 z191 z192 z193 z194 z195 z196 z197 z198 z199 z200 z201 w4 hB4
      have hBe := hBr.trans ((hB1.trans (hB4.mono hB1.size)).mono hzr)
      replace zf := zf.out
      rw [show (S2 ++ x.f1.flatMap fun g => 32 :: groupWord x.f6 g) = S2 ++ recGroups x from rfl]
      generalize B (S2 ++ recGroups x) = sf at *
      have r1 := lt_false (n := sf.size + 1) (by omega)
      replace zf := Go.Lib.hid zf
      go_wp2_with fail
      go_roundw
      case rel => exact ⟨j + 1, hlt, by first | rfl | rw [hw64], by rw [hfin.out], hBe⟩
      case measure => simp only [intOf]; first | omega | (rw [hw64]; omega)
    · have hjl : j = l.length := by omega
      subst hjl
      rw [List.take_length] at *
      have hltf : ¬ ((l.length : Int) < (l.length : Int)) := by omega
      go_wp2_with fail
      exact ⟨rfl, hexit _ _ _ _ _ _ _ _ _ _ _ _ _ _ _ _ _ _ _ _ _ _ _ _ _ _ _ _ _ _ _ _ _ _ _ _ _ _ _ _ _ _ _ _ _ _ _ _ _ _ _ _ _ _ _ _ _ _ _ _ _ _ _ _ _ _ _ _ _ _ _ _ _ _ _ _ _ _ _ _ _ _ _ _ _ _ _ _ _ _ _ _ _ _ _ _ _ _ _ _ _ _ _ _ _ _ _ _ _ _ _ _ _ _ _ _ _ _ _ _ _ _ _ _ _ _ _ _ _ _ _ _ _ _ _ _ _ _ _ _ _ _ _ _ _ _ _ _ _ _ _ _ _ _ _ _ _ _ _ _ _ _ _ _ _ _ _ _ _ _ _ _ _ _ _ _ _ _ _ _ _ _ _ _ _ _ _ _ _ _ _ _ _ _ _ _ _ _ _ _ _ _ _ hBr⟩
end Go.Proofs.YtggogenhakdhiaaDoor.PSnapTexts
end
section
set_option linter.unusedVariables false
set_option linter.unusedSimpArgs false
attribute [local go_sem ↓] Go.wp_at_zero Go.wp_at_succ
namespace Go.Proofs.YtggogenhakdhiaaDoor.PSnapTexts
open Go.RowKit Go.Proofs.YtggogenhakdhiaaDoorW.PrintWords Go.Proofs.YtggogenhakdhiaaDoorW.PrintLast Go.Proofs.YtggogenhakdhiaaDoorW.PrintMore
open Classical

set_option maxHeartbeats 8000000 in
set_option maxRecDepth 20000 in
theorem rtext_walk {M : Nat} (w : World) (f : FoldV) (A1 A2 A3 A4 A5 A6 : Option Addr) (c1 c2 c3 c4 c5 c6 : Nat) (hf : FoldIn w f A1 A2 A3 A4 A5 A6 c1 c2 c3 c4 c5 c6) (hk : FoldOk M f) :
    Gives Tryd.prog 36 #[.agg #[.int .i64 f.c, .slice A1 f.l1.length c1, .slice A2 f.l2.length c2, .slice A3 f.l3.length c3, .slice A4 f.l4.length c4, .slice A5 f.l5.length c5, .slice A6 f.l6.length c6]] (B (textL f)) w := by
  have hM := hk.m
  go_enter Tryd.func36, Tryd.ntmps36
  go_upto_region 1 with fail
  have hbx := heap_alloc_new w (.cells #[.int .i64 f.c, .slice A1 f.l1.length c1, .slice A2 f.l2.length c2, .slice A3 f.l3.length c3, .slice A4 f.l4.length c4, .slice A5 f.l5.length c5, .slice A6 f.l6.length c6] 75)
  have hW : Below w.heap.size w (w.alloc (.cells #[.int .i64 f.c, .slice A1 f.l1.length c1, .slice A2 f.l2.length c2, .slice A3 f.l3.length c3, .slice A4 f.l4.length c4, .slice A5 f.l5.length c5, .slice A6 f.l6.length c6] 75)) := below_alloc (Below.refl _ _) _
  generalize w.alloc (.cells #[.int .i64 f.c, .slice A1 f.l1.length c1, .slice A2 f.l2.length c2, .slice A3 f.l3.length c3, .slice A4 f.l4.length c4, .slice A5 f.l5.length c5, .slice A6 f.l6.length c6] 75) = W at *
  obtain ⟨g, hge⟩ : ∃ x, x = w.heap.size := ⟨_, rfl⟩
  rw [← hge] at hbx ⊢
  clear hge
  have a0 := blk_cell hbx 0
  have a1 := blk_cell hbx 1
  have a2 := blk_cell hbx 2
  have a3 := blk_cell hbx 3
  have a4 := blk_cell hbx 4
  have a5 := blk_cell hbx 5
  have a6 := blk_cell hbx 6
  simp only [List.getElem?_toArray, List.getElem?_cons_zero, List.getElem?_cons_succ] at a0 a1 a2 a3 a4 a5 a6
  clear hbx
  replace hf := hf.below hW
  have hd1 : Below W.heap.size W W.drew := below_drew (Below.refl _ _)
  have HC := whole_calls f.c hk.c
  have HL1 : ∀ V, Below W.heap.size W V → Gives Tryd.prog 83 #[.string ⟨#[108, 111, 99, 107]⟩, .slice A1 f.l1.length c1] (B (f.l1.flatMap (lockLine wLock))) V := fun V hV => locks2_calls hM wLock (by decide) V A1 c1 f.l1 (hf.below hV).g1 hf.n1 hk.o1 (by have := hk.n1; omega)
  have HL2 : ∀ V, Below W.heap.size W V → Gives Tryd.prog 83 #[.string ⟨#[119, 97, 105, 116]⟩, .slice A2 f.l2.length c2] (B (f.l2.flatMap (lockLine wWait))) V := fun V hV => locks2_calls hM wWait (by decide) V A2 c2 f.l2 (hf.below hV).g2 hf.n2 hk.o2 (by have := hk.n2; omega)
  have hh3 : (⟨#[99, 108, 111, 99, 107, 32]⟩ : ByteArray) ++ B (Lib.itoa f.c) ++ ⟨#[10]⟩ ++ B (f.l1.flatMap (lockLine wLock)) ++ B (f.l2.flatMap (lockLine wWait)) = B (head3 f) := by
    rw [show (⟨#[99, 108, 111, 99, 107, 32]⟩ : ByteArray) = B [99, 108, 111, 99, 107, 32] from rfl, show (⟨#[10]⟩ : ByteArray) = B [10] from rfl]
    simp only [B_append]
    congr 1
    simp [head3, clockLine, lineL_cons, wClock]
  have z1 : (B (Lib.itoa f.c)).size ≤ 21 := by rw [B_size]; exact itoa_len hk.c
  have z2 : (B (f.l1.flatMap (lockLine wLock))).size ≤ 4000000000000 := by
    rw [B_size]; have := lock_part hM hk.o1 hk.n1 wLock (by decide) f.l1.length; rwa [List.take_length] at this
  have z3 : (B (f.l2.flatMap (lockLine wWait))).size ≤ 4000000000000 := by
    rw [B_size]; have := lock_part hM hk.o2 hk.n2 wWait (by decide) f.l2.length; rwa [List.take_length] at this
  have hhl : (head3 f).length ≤ 8000000001000 := by rw [← B_size, ← hh3]; simp only [ByteArray.size_append]; rw [show (⟨#[99, 108, 111, 99, 107, 32]⟩ : ByteArray).size = 6 from rfl, show (⟨#[10]⟩ : ByteArray).size = 1 from rfl]; omega
  generalize B (Lib.itoa f.c) = sc at *
  generalize B (f.l1.flatMap (lockLine wLock)) = s1 at *
  generalize B (f.l2.flatMap (lockLine wWait)) = s2 at *
  have q1 := lt_false (n := 6 + sc.size) (by omega)
  have q2 := lt_false (n := 6 + sc.size + 1) (by omega)
  have q3 := lt_false (n := 6 + sc.size + 1 + s1.size) (by omega)
  have q4 := lt_false (n := 6 + sc.size + 1 + s1.size + s2.size) (by omega)
  replace z1 := Go.Lib.hid z1
  replace z2 := Go.Lib.hid z2
  replace z3 := Go.Lib.hid z3
  replace hhl := Go.Lib.hid hhl
  replace hh3 := Go.Lib.hid hh3
  go_region_held_law (fun w' => w'.cell? ⟨g, 0, none⟩ = some (.int .i64 f.c) ∧ w'.cell? ⟨g, 1, none⟩ = some (.slice A1 f.l1.length c1) ∧ w'.cell? ⟨g, 2, none⟩ = some (.slice A2 f.l2.length c2))
    (first | go_keep | (exact ⟨pw_cell_below hd4 a0, pw_cell_below hd4 a1, pw_cell_below hd4 a2⟩) | (exact ⟨pw_cell_below hd3 a0, pw_cell_below hd3 a1, pw_cell_below hd3 a2⟩) | (exact ⟨pw_cell_below hd2 a0, pw_cell_below hd2 a1, pw_cell_below hd2 a2⟩))
    ((first
      | (go_at_call 83; refine (HL2 w3 hd3).mono ?_; rintro e w4 ⟨rfl, hB4⟩; have hd4 := hd3.trans (hB4.mono hd3.size))
      | (go_at_call 83; refine (HL1 w2 hd2).mono ?_; rintro e w3 ⟨rfl, hB3⟩; have hd3 := hd2.trans (hB3.mono hd2.size))
      | (go_at_call 82; refine (HC _).mono ?_; rintro e w2 ⟨rfl, hB2⟩; have hd2 := hd1.trans (hB2.mono hd1.size))))
  rw [hh3.out]
  replace hhl := hhl.out
  clear HC HL1 HL2 q1 q2 q3 q4 z1 z2 z3 hh3 hd1 hd2 hd3 hB2 hB3 hB4
  go_wp2_with fail
  have y1 := version_part hM hk.o3 hk.n3 f.l3.length
  have y2 := intent_part hM hk.o4 hk.n4 f.l4.length
  have y3 := tx_part hM hk.o5 hk.n5 f.l5.length
  rw [List.take_length] at y1 y2 y3
  refine wp_of_LQ (n := 0) (rt_loop1 hM W _ g A3 c3 f.l3 (head3 f) a3 hf.g3 hf.n3 hk.o3 hk.n3 (by (try simp only [List.length_append]); omega) hd4 _ _ _ _ _ _ _ _ _ _ _ _ _ _ _ _ _ _ _ _ _ _ _ _ _ _ _ _ _ _ _ _ _ _ _ _ _ _ _ _ _ _ _ _ _ _ _ _ _ _ _ _ _ _ _ _ _ _ _ _ _ _ _ _ _ _ _ _ _ _ _ _ _ _ _ _ _ _ _ _ _ _ _ _ _ _ _ _ _ _ _ _ _ _ _ _ _ _ _ _ _ _ _ _ _ _ _ _ _ _ _ _ _ _ _ _ _ _ _ _ _ _ _ _ _ _ _ _ _ _ _ _ _ _ _ _ _ _ _ _ _ _ _ _ _ _ _ _ _ _ _ _ _ _ _ _ _ _ _ _ _ _ _ _ _ _ _ _ _ _ _ _ _ _ _ _ _ _ _ _ _ _ _ _ _ _ _ _ _ _ _ _ _ _ _ _ _ _ _ _ _ _ ?_)
  intro z0 z2 z5 z6 z7 z8 z9 z10 z11 z12 z13 z14 z15 z16 z17 z18 z19 z20 z21 z22 z23 z24 z25 z26 z27 z28 z29 z30 z31 z32 z33 z34 z35 z36 z37 z38 z39 z40 z41 z42 z43 z44 z45 z46 z47 z48 z49 z50 z51 z52 z53 z54 z55 z56 z57 z58 z59 z60 z61 z62 z63 z64 z65 z66 z67 z68 z69 z70 z71 z72 z73 z74 z75 z76 z77 z78 z79 z80 z81 z82 z83 z84 z85 z86 z87 z88 z89 z90 z91 z92 z93 z94 z95 z96 z97 z98 z99 z100 z101 z102 z103 z104 z105 z106 z107 z108 z109 z110 z111 z112 z113 z114 z115 z116 z117 z118 z119 z120 z121 z122 z123 z124 z125 z126 z127 z128 z129 z130 z131 z132 z133 z134 z135 z136 z137 z138 z139 z140 z141 z142 z143 z144 z145 z146 z147 z148 z149 z150 z151 z152 z153 z154 z155 z156 z157 z158 z159 z160 z161 z162 z163 z164 z165 z166 z167 z168 z169 z170 z171 z172 z173 z174 z175 z176 z177 z178 z179 z180 z181 z182 z183 z184 z185 z186 z187 z188 z189 z190 z191 z192 z193 z194 z195 z196 z197 z198 z199 z200 z201 z202 z203 z204 w11 hd11
  go_wp2_with fail
  refine wp_of_LQ (n := 2) (rt_loop2 hM W _ g A4 c4 f.l4 (head3 f ++ f.l3.flatMap versionLine) a4 hf.g4 hf.n4 hk.o4 hk.n4 (by (try simp only [List.length_append]); omega) hd11 _ _ _ _ _ _ _ _ _ _ _ _ _ _ _ _ _ _ _ _ _ _ _ _ _ _ _ _ _ _ _ _ _ _ _ _ _ _ _ _ _ _ _ _ _ _ _ _ _ _ _ _ _ _ _ _ _ _ _ _ _ _ _ _ _ _ _ _ _ _ _ _ _ _ _ _ _ _ _ _ _ _ _ _ _ _ _ _ _ _ _ _ _ _ _ _ _ _ _ _ _ _ _ _ _ _ _ _ _ _ _ _ _ _ _ _ _ _ _ _ _ _ _ _ _ _ _ _ _ _ _ _ _ _ _ _ _ _ _ _ _ _ _ _ _ _ _ _ _ _ _ _ _ _ _ _ _ _ _ _ _ _ _ _ _ _ _ _ _ _ _ _ _ _ _ _ _ _ _ _ _ _ _ _ _ _ _ _ _ _ _ _ _ _ _ _ _ _ _ _ _ _ ?_)
  intro z0 z2 z4 z5 z7 z8 z9 z10 z11 z12 z13 z14 z15 z16 z17 z18 z19 z20 z21 z22 z23 z24 z25 z26 z27 z28 z29 z30 z31 z32 z33 z34 z35 z36 z37 z38 z39 z40 z41 z42 z43 z44 z45 z46 z47 z48 z49 z50 z51 z52 z53 z54 z55 z56 z57 z58 z59 z60 z61 z62 z63 z64 z65 z66 z67 z68 z69 z70 z71 z72 z73 z74 z75 z76 z77 z78 z79 z80 z81 z82 z83 z84 z85 z86 z87 z88 z89 z90 z91 z92 z93 z94 z95 z96 z97 z98 z99 z100 z101 z102 z103 z104 z105 z106 z107 z108 z109 z110 z111 z112 z113 z114 z115 z116 z117 z118 z119 z120 z121 z122 z123 z124 z125 z126 z127 z128 z129 z130 z131 z132 z133 z134 z135 z136 z137 z138 z139 z140 z141 z142 z143 z144 z145 z146 z147 z148 z149 z150 z151 z152 z153 z154 z155 z156 z157 z158 z159 z160 z161 z162 z163 z164 z165 z166 z167 z168 z169 z170 z171 z172 z173 z174 z175 z176 z177 z178 z179 z180 z181 z182 z183 z184 z185 z186 z187 z188 z189 z190 z191 z192 z193 z194 z195 z196 z197 z198 z199 z200 z201 z202 z203 z204 w12 hd12
  go_wp2_with fail
  refine wp_of_LQ (n := 4) (rt_loop3 hM W _ g A5 c5 f.l5 (head3 f ++ f.l3.flatMap versionLine ++ f.l4.flatMap intentLine) a5 hf.g5 hf.n5 hk.o5 hk.n5 (by (try simp only [List.length_append]); omega) hd12 _ _ _ _ _ _ _ _ _ _ _ _ _ _ _ _ _ _ _ _ _ _ _ _ _ _ _ _ _ _ _ _ _ _ _ _ _ _ _ _ _ _ _ _ _ _ _ _ _ _ _ _ _ _ _ _ _ _ _ _ _ _ _ _ _ _ _ _ _ _ _ _ _ _ _ _ _ _ _ _ _ _ _ _ _ _ _ _ _ _ _ _ _ _ _ _ _ _ _ _ _ _ _ _ _ _ _ _ _ _ _ _ _ _ _ _ _ _ _ _ _ _ _ _ _ _ _ _ _ _ _ _ _ _ _ _ _ _ _ _ _ _ _ _ _ _ _ _ _ _ _ _ _ _ _ _ _ _ _ _ _ _ _ _ _ _ _ _ _ _ _ _ _ _ _ _ _ _ _ _ _ _ _ _ _ _ _ _ _ _ _ _ _ _ _ _ _ _ _ _ _ _ ?_)
  intro z0 z2 z4 z5 z6 z7 z9 z10 z11 z12 z13 z14 z15 z16 z17 z18 z19 z20 z21 z22 z23 z24 z25 z26 z27 z28 z29 z30 z31 z32 z33 z34 z35 z36 z37 z38 z39 z40 z41 z42 z43 z44 z45 z46 z47 z48 z49 z50 z51 z52 z53 z54 z55 z56 z57 z58 z59 z60 z61 z62 z63 z64 z65 z66 z67 z68 z69 z70 z71 z72 z73 z74 z75 z76 z77 z78 z79 z80 z81 z82 z83 z84 z85 z86 z87 z88 z89 z90 z91 z92 z93 z94 z95 z96 z97 z98 z99 z100 z101 z102 z103 z104 z105 z106 z107 z108 z109 z110 z111 z112 z113 z114 z115 z116 z117 z118 z119 z120 z121 z122 z123 z124 z125 z126 z127 z128 z129 z130 z131 z132 z133 z134 z135 z136 z137 z138 z139 z140 z141 z142 z143 z144 z145 z146 z147 z148 z149 z150 z151 z152 z153 z154 z155 z156 z157 z158 z159 z160 z161 z162 z163 z164 z165 z166 z167 z168 z169 z170 z171 z172 z173 z174 z175 z176 z177 z178 z179 z180 z181 z182 z183 z184 z185 z186 z187 z188 z189 z190 z191 z192 z193 z194 z195 z196 z197 z198 z199 z200 z201 z202 z203 z204 w13 hd13
  go_wp2_with fail
  refine wp_of_LQ (n := 6) (rt_loop4 hM W _ g A6 c6 f.l6 (head3 f ++ f.l3.flatMap versionLine ++ f.l4.flatMap intentLine ++ f.l5.flatMap txLine) a6 hf.g6 hf.n6 hk.o6 hk.n6 (by (try simp only [List.length_append]); omega) hd13 _ _ _ _ _ _ _ _ _ _ _ _ _ _ _ _ _ _ _ _ _ _ _ _ _ _ _ _ _ _ _ _ _ _ _ _ _ _ _ _ _ _ _ _ _ _ _ _ _ _ _ _ _ _ _ _ _ _ _ _ _ _ _ _ _ _ _ _ _ _ _ _ _ _ _ _ _ _ _ _ _ _ _ _ _ _ _ _ _ _ _ _ _ _ _ _ _ _ _ _ _ _ _ _ _ _ _ _ _ _ _ _ _ _ _ _ _ _ _ _ _ _ _ _ _ _ _ _ _ _ _ _ _ _ _ _ _ _ _ _ _ _ _ _ _ _ _ _ _ _ _ _ _ _ _ _ _ _ _ _ _ _ _ _ _ _ _ _ _ _ _ _ _ _ _ _ _ _ _ _ _ _ _ _ _ _ _ _ _ _ _ _ _ _ _ _ _ _ _ _ _ _ ?_)
  intro z0 z2 z4 z5 z6 z7 z8 z9 z11 z12 z13 z14 z15 z16 z17 z18 z19 z20 z21 z22 z23 z24 z25 z26 z27 z28 z29 z30 z31 z32 z33 z34 z35 z36 z37 z38 z39 z40 z41 z42 z43 z44 z45 z46 z47 z48 z49 z50 z51 z52 z53 z54 z55 z56 z57 z58 z59 z60 z61 z62 z63 z64 z65 z66 z67 z68 z69 z70 z71 z72 z73 z74 z75 z76 z77 z78 z79 z80 z81 z82 z83 z84 z85 z86 z87 z88 z89 z90 z91 z92 z93 z94 z95 z96 z97 z98 z99 z100 z101 z102 z103 z104 z105 z106 z107 z108 z109 z110 z111 z112 z113 z114 z115 z116 z117 z118 z119 z120 z121 z122 z123 z124 z125 z126 z127 z128 z129 z130 z131 z132 z133 z134 z135 z136 z137 z138 z139 z140 z141 z142 z143 z144 z145 z146 z147 z148 z149 z150 z151 z152 z153 z154 z155 z156 z157 z158 z159 z160 z161 z162 z163 z164 z165 z166 z167 z168 z169 z170 z171 z172 z173 z174 z175 z176 z177 z178 z179 z180 z181 z182 z183 z184 z185 z186 z187 z188 z189 z190 z191 z192 z193 z194 z195 z196 z197 z198 z199 z200 z201 z202 z203 z204 w14 hd14
  go_wp2_with fail
  go_ret
  exact ⟨by rfl, hW.trans (hd14.mono hW.size)⟩
end Go.Proofs.YtggogenhakdhiaaDoor.PSnapTexts
end
