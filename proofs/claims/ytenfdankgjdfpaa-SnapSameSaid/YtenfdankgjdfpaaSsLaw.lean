/- SnapSame walked. -/
import Derived.Test.YtenfdankgjdfpaaSsSame
import Derived.Deep.RegionHeldLaw
import Derived.Deep.DrawnRows
attribute [local go_sem ↓] Go.wp_at_zero Go.wp_at_succ
set_option linter.unusedVariables false
set_option linter.unusedSimpArgs false
namespace Go.Proofs.Ytenfdankgjdfpaa.PSnapSame
open Go.RowKit Go.Proofs.YtenfdankgjdfpaaW.PrintWords Go.Proofs.YtenfdankgjdfpaaW.PrintLast Go.Proofs.YtenfdankgjdfpaaW.PrintMore
open Classical

/-- a copy: the same lists, in new memory -/
theorem copy_walk {M : Nat} (w : World) (f : FoldV) (A1 A2 A3 A4 A5 A6 : Option Addr) (c1 c2 c3 c4 c5 c6 : Nat) (hf : FoldIn w f A1 A2 A3 A4 A5 A6 c1 c2 c3 c4 c5 c6) (hM : FoldFits M f) :
    Calls Try.prog 8 #[.agg #[.int .i64 f.c, .slice A1 f.l1.length c1, .slice A2 f.l2.length c2, .slice A3 f.l3.length c3, .slice A4 f.l4.length c4, .slice A5 f.l5.length c5, .slice A6 f.l6.length c6]] w fun e w' => ∃ (B1 B2 B3 B4 B5 B6 : Option Addr) (d1 d2 d3 d4 d5 d6 : Nat), e = .returned (.agg #[.int .i64 f.c, .slice B1 f.l1.length d1, .slice B2 f.l2.length d2, .slice B3 f.l3.length d3, .slice B4 f.l4.length d4, .slice B5 f.l5.length d5, .slice B6 f.l6.length d6]) ∧ FoldIn w' f B1 B2 B3 B4 B5 B6 d1 d2 d3 d4 d5 d6 ∧ Below w.heap.size w w' := by
  refine (bursarlaw19_Copy.calls (M + 1) f.c A1 c1 f.l1 A2 c2 f.l2 A3 c3 f.l3 A4 c4 f.l4 A5 c5 f.l5 A6 c6 f.l6 _ _ _ _ _ _ _ w hf.g1 hf.n1 hf.g2 hf.n2 hf.g3 hf.n3 hf.g4 hf.n4 hf.g5 hf.n5 hf.g6 hf.n6 (Copy.is f hM (M + 1) (by omega))).mono ?_
  rintro e w' ⟨v1, v2, v3, v4, v5, v6, rfl, r1, r2, r3, r4, r5, r6, hb⟩
  obtain ⟨B1, d1, rfl, k1, g1⟩ := Kd.R_reads r1
  obtain ⟨B2, d2, rfl, k2, g2⟩ := Kd.R_reads r2
  obtain ⟨B3, d3, rfl, k3, g3⟩ := Kd.R_reads r3
  obtain ⟨B4, d4, rfl, k4, g4⟩ := Kd.R_reads r4
  obtain ⟨B5, d5, rfl, k5, g5⟩ := Kd.R_reads r5
  obtain ⟨B6, d6, rfl, k6, g6⟩ := Kd.R_reads (Kd.S_R r6)
  exact ⟨B1, B2, B3, B4, B5, B6, d1, d2, d3, d4, d5, d6, rfl, ⟨g1, k1, g2, k2, g3, k3, g4, k4, g5, k5, g6, k6⟩, hb⟩
theorem ref_walk {M : Nat} (w : World) (f g : FoldV) (A1 A2 A3 A4 A5 A6 : Option Addr) (c1 c2 c3 c4 c5 c6 : Nat) (B1 B2 B3 B4 B5 B6 : Option Addr) (d1 d2 d3 d4 d5 d6 : Nat) (hf : FoldIn w f A1 A2 A3 A4 A5 A6 c1 c2 c3 c4 c5 c6) (hg : FoldIn w g B1 B2 B3 B4 B5 B6 d1 d2 d3 d4 d5 d6) (hM : FoldFits M f) :
    Calls Try.prog 9 #[.agg #[.int .i64 f.c, .slice A1 f.l1.length c1, .slice A2 f.l2.length c2, .slice A3 f.l3.length c3, .slice A4 f.l4.length c4, .slice A5 f.l5.length c5, .slice A6 f.l6.length c6], .agg #[.int .i64 g.c, .slice B1 g.l1.length d1, .slice B2 g.l2.length d2, .slice B3 g.l3.length d3, .slice B4 g.l4.length d4, .slice B5 g.l5.length d5, .slice B6 g.l6.length d6]] w fun e w' => e = .returned (.bool (decide (f = g))) ∧ Below w.heap.size w w' :=
  bursarref19_Same.calls (M + M + 4) f.c A1 c1 f.l1 A2 c2 f.l2 A3 c3 f.l3 A4 c4 f.l4 A5 c5 f.l5 A6 c6 f.l6 g.c B1 d1 g.l1 B2 d2 g.l2 B3 d3 g.l3 B4 d4 g.l4 B5 d5 g.l5 B6 d6 g.l6 _ w hf.g1 hf.n1 hf.g2 hf.n2 hf.g3 hf.n3 hf.g4 hf.n4 hf.g5 hf.n5 hf.g6 hf.n6 hg.g1 hg.n1 hg.g2 hg.n2 hg.g3 hg.n3 hg.g4 hg.n4 hg.g5 hg.n5 hg.g6 hg.n6 (Same.is f g hM _ (by omega))
set_option maxHeartbeats 8000000 in
set_option maxRecDepth 20000 in
theorem law_walk {M N : Nat} (w : World) (f g : FoldV) (A1 A2 A3 A4 A5 A6 : Option Addr) (c1 c2 c3 c4 c5 c6 : Nat) (B1 B2 B3 B4 B5 B6 : Option Addr) (d1 d2 d3 d4 d5 d6 : Nat) (hf : FoldIn w f A1 A2 A3 A4 A5 A6 c1 c2 c3 c4 c5 c6) (hg : FoldIn w g B1 B2 B3 B4 B5 B6 d1 d2 d3 d4 d5 d6) (hM : FoldFits M f) (hN : FoldFits N g) :
    Calls Try.prog 3 #[.agg #[.int .i64 f.c, .slice A1 f.l1.length c1, .slice A2 f.l2.length c2, .slice A3 f.l3.length c3, .slice A4 f.l4.length c4, .slice A5 f.l5.length c5, .slice A6 f.l6.length c6], .agg #[.int .i64 g.c, .slice B1 g.l1.length d1, .slice B2 g.l2.length d2, .slice B3 g.l3.length d3, .slice B4 g.l4.length d4, .slice B5 g.l5.length d5, .slice B6 g.l6.length d6]] w fun e w' => e = .returned (.bool true) ∧ Below w.heap.size w w' := by
  go_enter Try.func3, Try.ntmps3
  go_upto_region 1 with fail
  have hgx := two_old w (.cells #[.int .i64 f.c, .slice A1 f.l1.length c1, .slice A2 f.l2.length c2, .slice A3 f.l3.length c3, .slice A4 f.l4.length c4, .slice A5 f.l5.length c5, .slice A6 f.l6.length c6] 28) (.cells #[.int .i64 g.c, .slice B1 g.l1.length d1, .slice B2 g.l2.length d2, .slice B3 g.l3.length d3, .slice B4 g.l4.length d4, .slice B5 g.l5.length d5, .slice B6 g.l6.length d6] 28)
  have hgy := two_new w (.cells #[.int .i64 f.c, .slice A1 f.l1.length c1, .slice A2 f.l2.length c2, .slice A3 f.l3.length c3, .slice A4 f.l4.length c4, .slice A5 f.l5.length c5, .slice A6 f.l6.length c6] 28) (.cells #[.int .i64 g.c, .slice B1 g.l1.length d1, .slice B2 g.l2.length d2, .slice B3 g.l3.length d3, .slice B4 g.l4.length d4, .slice B5 g.l5.length d5, .slice B6 g.l6.length d6] 28)
  have hW : Below w.heap.size w ((w.alloc (.cells #[.int .i64 f.c, .slice A1 f.l1.length c1, .slice A2 f.l2.length c2, .slice A3 f.l3.length c3, .slice A4 f.l4.length c4, .slice A5 f.l5.length c5, .slice A6 f.l6.length c6] 28)).alloc (.cells #[.int .i64 g.c, .slice B1 g.l1.length d1, .slice B2 g.l2.length d2, .slice B3 g.l3.length d3, .slice B4 g.l4.length d4, .slice B5 g.l5.length d5, .slice B6 g.l6.length d6] 28)) := below_alloc (below_alloc (Below.refl _ _) _) _
  generalize ((w.alloc (.cells #[.int .i64 f.c, .slice A1 f.l1.length c1, .slice A2 f.l2.length c2, .slice A3 f.l3.length c3, .slice A4 f.l4.length c4, .slice A5 f.l5.length c5, .slice A6 f.l6.length c6] 28)).alloc (.cells #[.int .i64 g.c, .slice B1 g.l1.length d1, .slice B2 g.l2.length d2, .slice B3 g.l3.length d3, .slice B4 g.l4.length d4, .slice B5 g.l5.length d5, .slice B6 g.l6.length d6] 28)) = W at *
  generalize w.heap.size + 1 = gy at *
  obtain ⟨gx, hgxe⟩ : ∃ x, x = w.heap.size := ⟨_, rfl⟩
  rw [← hgxe] at hgx ⊢
  clear hgxe
  have a0 := blk_cell hgx 0
  have b0 := blk_cell hgy 0
  have a1 := blk_cell hgx 1
  have b1 := blk_cell hgy 1
  have a2 := blk_cell hgx 2
  have b2 := blk_cell hgy 2
  have a3 := blk_cell hgx 3
  have b3 := blk_cell hgy 3
  have a4 := blk_cell hgx 4
  have b4 := blk_cell hgy 4
  have a5 := blk_cell hgx 5
  have b5 := blk_cell hgy 5
  have a6 := blk_cell hgx 6
  have b6 := blk_cell hgy 6
  simp only [List.getElem?_toArray, List.getElem?_cons_zero, List.getElem?_cons_succ] at a0 b0 a1 b1 a2 b2 a3 b3 a4 b4 a5 b5 a6 b6
  clear hgx hgy
  replace hf := hf.below hW
  replace hg := hg.below hW
  have hd0 : Below W.heap.size W W.drew := below_drew (Below.refl _ _)
  go_region_held_law (fun w' => w'.cell? ⟨gx, 0, none⟩ = some (.int .i64 f.c) ∧ w'.cell? ⟨gx, 1, none⟩ = some (.slice A1 f.l1.length c1) ∧ w'.cell? ⟨gx, 2, none⟩ = some (.slice A2 f.l2.length c2) ∧ w'.cell? ⟨gx, 3, none⟩ = some (.slice A3 f.l3.length c3) ∧ w'.cell? ⟨gx, 4, none⟩ = some (.slice A4 f.l4.length c4) ∧ w'.cell? ⟨gx, 5, none⟩ = some (.slice A5 f.l5.length c5) ∧ w'.cell? ⟨gx, 6, none⟩ = some (.slice A6 f.l6.length c6) ∧ w'.cell? ⟨gy, 0, none⟩ = some (.int .i64 g.c) ∧ w'.cell? ⟨gy, 1, none⟩ = some (.slice B1 g.l1.length d1) ∧ w'.cell? ⟨gy, 2, none⟩ = some (.slice B2 g.l2.length d2) ∧ w'.cell? ⟨gy, 3, none⟩ = some (.slice B3 g.l3.length d3) ∧ w'.cell? ⟨gy, 4, none⟩ = some (.slice B4 g.l4.length d4) ∧ w'.cell? ⟨gy, 5, none⟩ = some (.slice B5 g.l5.length d5) ∧ w'.cell? ⟨gy, 6, none⟩ = some (.slice B6 g.l6.length d6))
    (first | go_keep | (exact ⟨pw_cell_below hd9 a0, pw_cell_below hd9 a1, pw_cell_below hd9 a2, pw_cell_below hd9 a3, pw_cell_below hd9 a4, pw_cell_below hd9 a5, pw_cell_below hd9 a6, pw_cell_below hd9 b0, pw_cell_below hd9 b1, pw_cell_below hd9 b2, pw_cell_below hd9 b3, pw_cell_below hd9 b4, pw_cell_below hd9 b5, pw_cell_below hd9 b6⟩) | (exact ⟨pw_cell_below hd8 a0, pw_cell_below hd8 a1, pw_cell_below hd8 a2, pw_cell_below hd8 a3, pw_cell_below hd8 a4, pw_cell_below hd8 a5, pw_cell_below hd8 a6, pw_cell_below hd8 b0, pw_cell_below hd8 b1, pw_cell_below hd8 b2, pw_cell_below hd8 b3, pw_cell_below hd8 b4, pw_cell_below hd8 b5, pw_cell_below hd8 b6⟩) | (exact ⟨pw_cell_below hd7 a0, pw_cell_below hd7 a1, pw_cell_below hd7 a2, pw_cell_below hd7 a3, pw_cell_below hd7 a4, pw_cell_below hd7 a5, pw_cell_below hd7 a6, pw_cell_below hd7 b0, pw_cell_below hd7 b1, pw_cell_below hd7 b2, pw_cell_below hd7 b3, pw_cell_below hd7 b4, pw_cell_below hd7 b5, pw_cell_below hd7 b6⟩) | (exact ⟨pw_cell_below hd6 a0, pw_cell_below hd6 a1, pw_cell_below hd6 a2, pw_cell_below hd6 a3, pw_cell_below hd6 a4, pw_cell_below hd6 a5, pw_cell_below hd6 a6, pw_cell_below hd6 b0, pw_cell_below hd6 b1, pw_cell_below hd6 b2, pw_cell_below hd6 b3, pw_cell_below hd6 b4, pw_cell_below hd6 b5, pw_cell_below hd6 b6⟩) | (exact ⟨pw_cell_below hd5 a0, pw_cell_below hd5 a1, pw_cell_below hd5 a2, pw_cell_below hd5 a3, pw_cell_below hd5 a4, pw_cell_below hd5 a5, pw_cell_below hd5 a6, pw_cell_below hd5 b0, pw_cell_below hd5 b1, pw_cell_below hd5 b2, pw_cell_below hd5 b3, pw_cell_below hd5 b4, pw_cell_below hd5 b5, pw_cell_below hd5 b6⟩) | (exact ⟨pw_cell_below hd4 a0, pw_cell_below hd4 a1, pw_cell_below hd4 a2, pw_cell_below hd4 a3, pw_cell_below hd4 a4, pw_cell_below hd4 a5, pw_cell_below hd4 a6, pw_cell_below hd4 b0, pw_cell_below hd4 b1, pw_cell_below hd4 b2, pw_cell_below hd4 b3, pw_cell_below hd4 b4, pw_cell_below hd4 b5, pw_cell_below hd4 b6⟩) | (exact ⟨pw_cell_below hd3 a0, pw_cell_below hd3 a1, pw_cell_below hd3 a2, pw_cell_below hd3 a3, pw_cell_below hd3 a4, pw_cell_below hd3 a5, pw_cell_below hd3 a6, pw_cell_below hd3 b0, pw_cell_below hd3 b1, pw_cell_below hd3 b2, pw_cell_below hd3 b3, pw_cell_below hd3 b4, pw_cell_below hd3 b5, pw_cell_below hd3 b6⟩) | (exact ⟨pw_cell_below hd2 a0, pw_cell_below hd2 a1, pw_cell_below hd2 a2, pw_cell_below hd2 a3, pw_cell_below hd2 a4, pw_cell_below hd2 a5, pw_cell_below hd2 a6, pw_cell_below hd2 b0, pw_cell_below hd2 b1, pw_cell_below hd2 b2, pw_cell_below hd2 b3, pw_cell_below hd2 b4, pw_cell_below hd2 b5, pw_cell_below hd2 b6⟩) | (exact ⟨pw_cell_below hd1 a0, pw_cell_below hd1 a1, pw_cell_below hd1 a2, pw_cell_below hd1 a3, pw_cell_below hd1 a4, pw_cell_below hd1 a5, pw_cell_below hd1 a6, pw_cell_below hd1 b0, pw_cell_below hd1 b1, pw_cell_below hd1 b2, pw_cell_below hd1 b3, pw_cell_below hd1 b4, pw_cell_below hd1 b5, pw_cell_below hd1 b6⟩))
    ((first
      | (go_at_call 7; refine (same_walk w8 g g B1 B2 B3 B4 B5 B6 d1 d2 d3 d4 d5 d6 U1 U2 U3 U4 U5 U6 u1 u2 u3 u4 u5 u6 (hg.below hd8) hF8 hN).mono ?_; rintro e w9 ⟨rfl, hB9⟩; have hd9 := hd8.trans (hB9.mono hd8.size); rw [show decide (g = g) = true from decide_eq_true rfl])
      | (go_at_call 8; refine (copy_walk _ g B1 B2 B3 B4 B5 B6 d1 d2 d3 d4 d5 d6 (hg.below hd7) hN).mono ?_; rintro e w8 ⟨U1, U2, U3, U4, U5, U6, u1, u2, u3, u4, u5, u6, rfl, hF8, hB8⟩; have hd8 := hd7.trans (hB8.mono hd7.size))
      | (go_at_call 7; refine (same_walk w6 f f R1 R2 R3 R4 R5 R6 r1 r2 r3 r4 r5 r6 T1 T2 T3 T4 T5 T6 t1 t2 t3 t4 t5 t6 (hF5.below hB6) hF6 hM).mono ?_; rintro e w7 ⟨rfl, hB7⟩; have hd7 := hd6.trans (hB7.mono hd6.size); rw [show decide (f = f) = true from decide_eq_true rfl])
      | (go_at_call 8; refine (copy_walk _ f A1 A2 A3 A4 A5 A6 c1 c2 c3 c4 c5 c6 (hf.below hd5) hM).mono ?_; rintro e w6 ⟨T1, T2, T3, T4, T5, T6, t1, t2, t3, t4, t5, t6, rfl, hF6, hB6⟩; have hd6 := hd5.trans (hB6.mono hd5.size))
      | (go_at_call 8; refine (copy_walk _ f A1 A2 A3 A4 A5 A6 c1 c2 c3 c4 c5 c6 (hf.below hd4) hM).mono ?_; rintro e w5 ⟨R1, R2, R3, R4, R5, R6, r1, r2, r3, r4, r5, r6, rfl, hF5, hB5⟩; have hd5 := hd4.trans (hB5.mono hd4.size))
      | (go_at_call 9; refine (ref_walk w3 f g A1 A2 A3 A4 A5 A6 c1 c2 c3 c4 c5 c6 B1 B2 B3 B4 B5 B6 d1 d2 d3 d4 d5 d6 (hf.below hd3) (hg.below hd3) hM).mono ?_; rintro e w4 ⟨rfl, hB4⟩; have hd4 := hd3.trans (hB4.mono hd3.size))
      | (go_at_call 7; refine (same_walk w2 f g P1 P2 P3 P4 P5 P6 p1 p2 p3 p4 p5 p6 Q1 Q2 Q3 Q4 Q5 Q6 q1 q2 q3 q4 q5 q6 (hF1.below hB2) hF2 hM).mono ?_; rintro e w3 ⟨rfl, hB3⟩; have hd3 := hd2.trans (hB3.mono hd2.size))
      | (go_at_call 8; refine (copy_walk _ g B1 B2 B3 B4 B5 B6 d1 d2 d3 d4 d5 d6 (hg.below hd1) hN).mono ?_; rintro e w2 ⟨Q1, Q2, Q3, Q4, Q5, Q6, q1, q2, q3, q4, q5, q6, rfl, hF2, hB2⟩; have hd2 := hd1.trans (hB2.mono hd1.size))
      | (go_at_call 8; refine (copy_walk _ f A1 A2 A3 A4 A5 A6 c1 c2 c3 c4 c5 c6 (hf.below hd0) hM).mono ?_; rintro e w1 ⟨P1, P2, P3, P4, P5, P6, p1, p2, p3, p4, p5, p6, rfl, hF1, hB1⟩; have hd1 := hd0.trans (hB1.mono hd0.size))))
  all_goals (go_wp2; go_ret; exact ⟨by first | rfl | (simp; done), hW.trans (hd9.mono hW.size)⟩)
end Go.Proofs.Ytenfdankgjdfpaa.PSnapSame
