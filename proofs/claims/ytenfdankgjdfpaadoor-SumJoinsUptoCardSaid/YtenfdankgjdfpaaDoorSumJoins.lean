/- The law SumJoins, walked. -/
import Derived.Test.YtenfdankgjdfpaaDoorSumWorks
import Derived.Test.YtenfdankgjdfpaaDoorRow
set_option linter.unusedVariables false
set_option linter.unusedSimpArgs false
namespace Go.Proofs.YtenfdankgjdfpaaDoor
open Go.RowKit

set_option maxHeartbeats 800000 in
theorem joins_walk (w : World) (A : Option Addr) (n c : Nat) (zs : List UInt8) (hb : Bys w A n zs) (A' : Option Addr) (n' c' : Nat) (ys : List UInt8) (hb' : Bys w A' n' ys) (ht : TabAt w) (hn : n + n' ≤ 2097152) :
    Calls Tryd.prog 5 #[.slice A n c, .slice A' n' c'] w (LawPost w) := by
  have H0 := works_walk w ht
  go_enter Tryd.func5, Tryd.ntmps5
  go_upto_region 3 with (go_at_call 15; go_must (refine H0.mono ?_); rintro e w1 ⟨rfl, hB1⟩)
  have hs1 := hB1.size
  have hb1 := hb.below hB1
  have hb1' := hb'.below hB1
  go_upto_region 4 with (first
    | (at_builtin; refine wpList_append_bys (o := ⟨some 12, _, _, _, _, _⟩) w w.heap.size rfl (.tmp 10) (.tmp 11) 22 5 rfl Tryd.underlying22 info_u8 _ 0 [] rfl (own_empty _ _ _ _ _ hs1 (heap_alloc_new w1 _)) A n c zs rfl (hb1.below ((Below.refl _ _).alloc (Nat.le_refl _) _)) (hB1.alloc hs1 _) (by simp; omega) (by omega) ?_; intro v2 w2 hown2 hB2 hg2 hat2 hs2)
    | (at_builtin; refine wpList_append_bys (o := ⟨some 14, _, _, _, _, _⟩) w w.heap.size rfl (.tmp 12) (.tmp 13) 22 5 rfl Tryd.underlying22 info_u8 _ (0 + n) ([] ++ bv zs) rfl hown2 A' n' c' ys rfl (hb'.below hB2) hB2 hs2 (by omega) ?_; intro v3 w3 hown3 hB3 hg3 hat3 hs3))
  have hall : ([] ++ bv zs) ++ bv ys = bv (zs ++ ys) := by simp [bv_append]
  rw [hall, Nat.zero_add] at hown3
  obtain ⟨A3, c3, e3, hb3⟩ := Bys.of_own hown3
  subst e3
  have ht3 := ht.below hB3
  have hl3 : (sld (zs ++ ys)).length ≤ n + n' + 4 := by rw [sld_length, hb3.len]; omega
  clear hall hb1 hb1' hg2 hat2 hown2 hB2 hs2 hg3 hat3 H0
  have H4 := seal_walk w3 A3 (n + n') c3 _ hb3 ht3 (by omega)
  go_upto_region 5 with (go_at_call 11; go_must (refine H4.mono ?_); rintro e w4 ⟨A4, c4, rfl, hown4, hB4⟩)
  have hbc := own_cap hown4
  have H5 := open_walk w4 A4 _ c4 _ (Bys.own hown4) hbc (ht3.below hB4) (by omega)
  rw [opn_sld] at H5
  go_upto_region 5 with (go_at_call 13; go_must (refine H5.mono ?_); rintro e w5 ⟨A5, c5, rfl, hown5, hB5⟩)
  have hB05 : Below w.heap.size w w5 := hB3.trans ((hB4.mono hs3).trans (hB5.mono (Nat.le_trans hs3 hB4.size)))
  have hB35 : Below w3.heap.size w3 w5 := hB4.trans (hB5.mono hB4.size)
  have ha5 := hb.below hB05
  have hy5 := hb'.below hB05
  have hx5 := hb3.below hB35
  have ht5 := ht.below hB05
  have S1 := sum_walk w5 A n c zs ha5 ht5
  have S2 := upd_walk w5 (Crc.upd 0#32 zs) A' n' c' ys hy5 ht5
  have S3 := sum_walk w5 A3 (n + n') c3 _ hx5 ht5
  have S4 := upd_walk w5 (Crc.upd 0#32 zs) none 0 0 [] (Bys.nil _) ht5
  rw [← upd_append] at S2
  rw [upd_nil] at S4
  have hst1 := (Bys.own hown5).string (P := Tryd.prog) Tryd.underlying22 Tryd.underlying5 Tryd.underlying9 c5
  rw [List.length_append] at hst1
  have hst2 := hx5.string (P := Tryd.prog) Tryd.underlying22 Tryd.underlying5 Tryd.underlying9 c3
  clear ha5 hy5 hx5 hown3 hown5 hown4
  go_wp2_with (first
    | (go_at_call 7; (with_reducible refine S1.mono ?_); rintro e w' ⟨rfl, rfl⟩)
    | (go_at_call 7; (with_reducible refine S3.mono ?_); rintro e w' ⟨rfl, rfl⟩)
    | (go_at_call 9; (with_reducible refine S2.mono ?_); rintro e w' ⟨rfl, rfl⟩)
    | (go_at_call 9; (with_reducible refine S4.mono ?_); rintro e w' ⟨rfl, rfl⟩))
  go_ret
  exact ⟨rfl, hB05⟩
end Go.Proofs.YtenfdankgjdfpaaDoor
