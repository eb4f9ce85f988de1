/- snap.Same walked: it tells whether two states are the same. -/
import Derived.Test.YtenfdankgjdfpaaSsEqf
set_option linter.unusedVariables false
set_option linter.unusedSimpArgs false
namespace Go.Proofs.Ytenfdankgjdfpaa.PSnapSame
open Go.RowKit Go.Proofs.YtenfdankgjdfpaaW.PrintWords Go.Proofs.YtenfdankgjdfpaaW.PrintLast Go.Proofs.YtenfdankgjdfpaaW.PrintMore
open Classical

/-- a state's lists in memory -/
structure FoldIn (w : World) (f : FoldV) (A1 A2 A3 A4 A5 A6 : Option Addr) (c1 c2 c3 c4 c5 c6 : Nat) : Prop where
  g1 : Kd.C k73 w A1 f.l1.length f.l1
  n1 : f.l1.length ≤ c1
  g2 : Kd.C k73 w A2 f.l2.length f.l2
  n2 : f.l2.length ≤ c2
  g3 : Kd.C k76 w A3 f.l3.length f.l3
  n3 : f.l3.length ≤ c3
  g4 : Kd.C k79 w A4 f.l4.length f.l4
  n4 : f.l4.length ≤ c4
  g5 : Kd.C k82 w A5 f.l5.length f.l5
  n5 : f.l5.length ≤ c5
  g6 : Kd.C k66 w A6 f.l6.length f.l6
  n6 : f.l6.length ≤ c6
theorem FoldIn.below {w w' : World} {f : FoldV} {A1 A2 A3 A4 A5 A6 : Option Addr} {c1 c2 c3 c4 c5 c6 : Nat} (h : FoldIn w f A1 A2 A3 A4 A5 A6 c1 c2 c3 c4 c5 c6) (hb : Below w.heap.size w w') : FoldIn w' f A1 A2 A3 A4 A5 A6 c1 c2 c3 c4 c5 c6 :=
  ⟨Kd.C_below h.g1 hb, h.n1, Kd.C_below h.g2 hb, h.n2, Kd.C_below h.g3 hb, h.n3, Kd.C_below h.g4 hb, h.n4, Kd.C_below h.g5 hb, h.n5, Kd.C_below h.g6 hb, h.n6⟩
set_option maxHeartbeats 4000000 in
set_option maxRecDepth 20000 in
theorem same_walk {M : Nat} (w : World) (f g : FoldV) (A1 A2 A3 A4 A5 A6 : Option Addr) (c1 c2 c3 c4 c5 c6 : Nat) (B1 B2 B3 B4 B5 B6 : Option Addr) (d1 d2 d3 d4 d5 d6 : Nat)
    (hf : FoldIn w f A1 A2 A3 A4 A5 A6 c1 c2 c3 c4 c5 c6) (hg : FoldIn w g B1 B2 B3 B4 B5 B6 d1 d2 d3 d4 d5 d6) (hM : FoldFits M f) :
    Calls Try.prog 7 #[.agg #[.int .i64 f.c, .slice A1 f.l1.length c1, .slice A2 f.l2.length c2, .slice A3 f.l3.length c3, .slice A4 f.l4.length c4, .slice A5 f.l5.length c5, .slice A6 f.l6.length c6], .agg #[.int .i64 g.c, .slice B1 g.l1.length d1, .slice B2 g.l2.length d2, .slice B3 g.l3.length d3, .slice B4 g.l4.length d4, .slice B5 g.l5.length d5, .slice B6 g.l6.length d6]] w fun e w' => e = .returned (.bool (decide (f = g))) ∧ Below w.heap.size w w' := by
  have q1 := hM.m1
  have q2 := hM.m2
  have q3 := hM.m3
  have q4 := hM.m4
  have q5 := hM.m5
  have q6 := hM.m6
  have qM := hM.mM
  have E1 : ∀ W, Below w.heap.size w W → Calls Try.prog 33 #[.slice A1 f.l1.length c1, .slice B1 g.l1.length d1] W (fun e w' => e = .returned (.bool (decide (f.l1 = g.l1))) ∧ Drawn0 W w') := fun W hb =>
    api_Lock.calls (f.l1.length + 1) A1 c1 f.l1 B1 d1 g.l1 _ W (Kd.C_below hf.g1 hb) hf.n1 (Kd.C_below hg.g1 hb) hg.n1 (api_Lock.is _ _ _ (by omega) (by omega))
  have E2 : ∀ W, Below w.heap.size w W → Calls Try.prog 33 #[.slice A2 f.l2.length c2, .slice B2 g.l2.length d2] W (fun e w' => e = .returned (.bool (decide (f.l2 = g.l2))) ∧ Drawn0 W w') := fun W hb =>
    api_Lock.calls (f.l2.length + 1) A2 c2 f.l2 B2 d2 g.l2 _ W (Kd.C_below hf.g2 hb) hf.n2 (Kd.C_below hg.g2 hb) hg.n2 (api_Lock.is _ _ _ (by omega) (by omega))
  have E3 : ∀ W, Below w.heap.size w W → Calls Try.prog 34 #[.slice A3 f.l3.length c3, .slice B3 g.l3.length d3] W (fun e w' => e = .returned (.bool (decide (f.l3 = g.l3))) ∧ Drawn0 W w') := fun W hb =>
    api_Version.calls (f.l3.length + 1) A3 c3 f.l3 B3 d3 g.l3 _ W (Kd.C_below hf.g3 hb) hf.n3 (Kd.C_below hg.g3 hb) hg.n3 (api_Version.is _ _ _ (by omega) (by omega))
  have E4 : ∀ W, Below w.heap.size w W → Calls Try.prog 35 #[.slice A4 f.l4.length c4, .slice B4 g.l4.length d4] W (fun e w' => e = .returned (.bool (decide (f.l4 = g.l4))) ∧ Drawn0 W w') := fun W hb =>
    api_Intent.calls (f.l4.length + 1) A4 c4 f.l4 B4 d4 g.l4 _ W (Kd.C_below hf.g4 hb) hf.n4 (Kd.C_below hg.g4 hb) hg.n4 (api_Intent.is _ _ _ (by omega) (by omega))
  have E5 : ∀ W, Below w.heap.size w W → Calls Try.prog 36 #[.slice A5 f.l5.length c5, .slice B5 g.l5.length d5] W (fun e w' => e = .returned (.bool (decide (f.l5 = g.l5))) ∧ Drawn0 W w') := fun W hb =>
    api_Tx.calls (f.l5.length + 1) A5 c5 f.l5 B5 d5 g.l5 _ W (Kd.C_below hf.g5 hb) hf.n5 (Kd.C_below hg.g5 hb) hg.n5 (api_Tx.is _ _ _ (by omega) (by omega))
  have E6 : ∀ W, Below w.heap.size w W → Calls Try.prog 37 #[.slice A6 f.l6.length c6, .slice B6 g.l6.length d6, .func (.func 30) #[] #[]] W (fun e w' => e = .returned (.bool (decide (f.l6 = g.l6))) ∧ Below W.heap.size W w') := fun W hb =>
    eqf_walk W A6 c6 f.l6 B6 d6 g.l6 (Kd.C_below hf.g6 hb) hf.n6 (Kd.C_below hg.g6 hb) hg.n6 hM.mM hM.r (by omega)
  clear hf hg hM q1 q2 q3 q4 q5 q6 qM
  go_enter Try.func7, Try.ntmps7
  go_upto_region 1 with fail
  have hgx := two_old w (.cells #[.int .i64 f.c, .slice A1 f.l1.length c1, .slice A2 f.l2.length c2, .slice A3 f.l3.length c3, .slice A4 f.l4.length c4, .slice A5 f.l5.length c5, .slice A6 f.l6.length c6] 28) (.cells #[.int .i64 g.c, .slice B1 g.l1.length d1, .slice B2 g.l2.length d2, .slice B3 g.l3.length d3, .slice B4 g.l4.length d4, .slice B5 g.l5.length d5, .slice B6 g.l6.length d6] 28)
  have hgy := two_new w (.cells #[.int .i64 f.c, .slice A1 f.l1.length c1, .slice A2 f.l2.length c2, .slice A3 f.l3.length c3, .slice A4 f.l4.length c4, .slice A5 f.l5.length c5, .slice A6 f.l6.length c6] 28) (.cells #[.int .i64 g.c, .slice B1 g.l1.length d1, .slice B2 g.l2.length d2, .slice B3 g.l3.length d3, .slice B4 g.l4.length d4, .slice B5 g.l5.length d5, .slice B6 g.l6.length d6] 28)
  have hW : Below w.heap.size w ((w.alloc (.cells #[.int .i64 f.c, .slice A1 f.l1.length c1, .slice A2 f.l2.length c2, .slice A3 f.l3.length c3, .slice A4 f.l4.length c4, .slice A5 f.l5.length c5, .slice A6 f.l6.length c6] 28)).alloc (.cells #[.int .i64 g.c, .slice B1 g.l1.length d1, .slice B2 g.l2.length d2, .slice B3 g.l3.length d3, .slice B4 g.l4.length d4, .slice B5 g.l5.length d5, .slice B6 g.l6.length d6] 28)) := below_alloc (below_alloc (Below.refl _ _) _) _
  generalize ((w.alloc (.cells #[.int .i64 f.c, .slice A1 f.l1.length c1, .slice A2 f.l2.length c2, .slice A3 f.l3.length c3, .slice A4 f.l4.length c4, .slice A5 f.l5.length c5, .slice A6 f.l6.length c6] 28)).alloc (.cells #[.int .i64 g.c, .slice B1 g.l1.length d1, .slice B2 g.l2.length d2, .slice B3 g.l3.length d3, .slice B4 g.l4.length d4, .slice B5 g.l5.length d5, .slice B6 g.l6.length d6] 28)) = W at *
  generalize w.heap.size + 1 = gy at *
  obtain ⟨gx, hgxe⟩ : ∃ x, x = w.heap.size := ⟨_, rfl⟩
  rw [← hgxe] at hgx ⊢
  clear hgxe
  have a0 := blk_cell hgx 0
  have b0 := blk_cell hgy 0
  have a1 := blk_cell hgx 1
  have b1 := blk_cell hgy 1
  have a2 := blk_cell hgx 2
  have b2 := blk_cell hgy 2
  have a3 := blk_cell hgx 3
  have b3 := blk_cell hgy 3
  have a4 := blk_cell hgx 4
  have b4 := blk_cell hgy 4
  have a5 := blk_cell hgx 5
  have b5 := blk_cell hgy 5
  have a6 := blk_cell hgx 6
  have b6 := blk_cell hgy 6
  simp only [List.getElem?_toArray, List.getElem?_cons_zero, List.getElem?_cons_succ] at a0 b0 a1 b1 a2 b2 a3 b3 a4 b4 a5 b5 a6 b6
  clear hgx hgy
  have hz := hW.size
  by_cases e0 : f.c = g.c
  · have t0 : (f.c == g.c) = true := by simp [e0]
    replace e0 := Go.Lib.hid e0
    by_cases e1 : f.l1 = g.l1
    · have t1 : decide (f.l1 = g.l1) = true := decide_eq_true e1
      rw [t1] at E1
      replace e1 := Go.Lib.hid e1
      by_cases e2 : f.l2 = g.l2
      · have t2 : decide (f.l2 = g.l2) = true := decide_eq_true e2
        rw [t2] at E2
        replace e2 := Go.Lib.hid e2
        by_cases e3 : f.l3 = g.l3
        · have t3 : decide (f.l3 = g.l3) = true := decide_eq_true e3
          rw [t3] at E3
          replace e3 := Go.Lib.hid e3
          by_cases e4 : f.l4 = g.l4
          · have t4 : decide (f.l4 = g.l4) = true := decide_eq_true e4
            rw [t4] at E4
            replace e4 := Go.Lib.hid e4
            by_cases e5 : f.l5 = g.l5
            · have t5 : decide (f.l5 = g.l5) = true := decide_eq_true e5
              rw [t5] at E5
              replace e5 := Go.Lib.hid e5
              by_cases e6 : f.l6 = g.l6
              · have t6 : decide (f.l6 = g.l6) = true := decide_eq_true e6
                rw [t6] at E6
                replace e6 := Go.Lib.hid e6
                go_wp2_with (first
                  | (go_at_call 37; refine (E6 w5 hb5).mono ?_; rintro e w6 ⟨rfl, hd6⟩; have hb6 := hb5.trans (hd6.mono hb5.size))
                  | (go_at_call 36; refine (E5 w4 hb4).mono ?_; rintro e w5 ⟨rfl, hd5⟩; have hb5 := hb4.trans (hd5.below.mono hb4.size); replace a6 := pw_cell_below (hd5.below) a6; replace b6 := pw_cell_below (hd5.below) b6)
                  | (go_at_call 35; refine (E4 w3 hb3).mono ?_; rintro e w4 ⟨rfl, hd4⟩; have hb4 := hb3.trans (hd4.below.mono hb3.size); replace a5 := pw_cell_below (hd4.below) a5; replace b5 := pw_cell_below (hd4.below) b5; replace a6 := pw_cell_below (hd4.below) a6; replace b6 := pw_cell_below (hd4.below) b6)
                  | (go_at_call 34; refine (E3 w2 hb2).mono ?_; rintro e w3 ⟨rfl, hd3⟩; have hb3 := hb2.trans (hd3.below.mono hb2.size); replace a4 := pw_cell_below (hd3.below) a4; replace b4 := pw_cell_below (hd3.below) b4; replace a5 := pw_cell_below (hd3.below) a5; replace b5 := pw_cell_below (hd3.below) b5; replace a6 := pw_cell_below (hd3.below) a6; replace b6 := pw_cell_below (hd3.below) b6)
                  | (go_at_call 33; refine (E2 w1 hb1).mono ?_; rintro e w2 ⟨rfl, hd2⟩; have hb2 := hb1.trans (hd2.below.mono hb1.size); replace a3 := pw_cell_below (hd2.below) a3; replace b3 := pw_cell_below (hd2.below) b3; replace a4 := pw_cell_below (hd2.below) a4; replace b4 := pw_cell_below (hd2.below) b4; replace a5 := pw_cell_below (hd2.below) a5; replace b5 := pw_cell_below (hd2.below) b5; replace a6 := pw_cell_below (hd2.below) a6; replace b6 := pw_cell_below (hd2.below) b6)
                  | (go_at_call 33; refine (E1 W hW).mono ?_; rintro e w1 ⟨rfl, hd1⟩; have hb1 := hW.trans (hd1.below.mono hW.size); replace a2 := pw_cell_below (hd1.below) a2; replace b2 := pw_cell_below (hd1.below) b2; replace a3 := pw_cell_below (hd1.below) a3; replace b3 := pw_cell_below (hd1.below) b3; replace a4 := pw_cell_below (hd1.below) a4; replace b4 := pw_cell_below (hd1.below) b4; replace a5 := pw_cell_below (hd1.below) a5; replace b5 := pw_cell_below (hd1.below) b5; replace a6 := pw_cell_below (hd1.below) a6; replace b6 := pw_cell_below (hd1.below) b6))
                go_ret
                exact ⟨by rw [decide_eq_true ((extF f g).2 ⟨show f.c = g.c from e0, show f.l1 = g.l1 from e1, show f.l2 = g.l2 from e2, show f.l3 = g.l3 from e3, show f.l4 = g.l4 from e4, show f.l5 = g.l5 from e5, show f.l6 = g.l6 from e6⟩)]; first | rfl | (simp [*]; done), hb6⟩
              · have t6 : decide (f.l6 = g.l6) = false := decide_eq_false e6
                rw [t6] at E6
                replace e6 := Go.Lib.hid e6
                go_wp2_with (first
                  | (go_at_call 37; refine (E6 w5 hb5).mono ?_; rintro e w6 ⟨rfl, hd6⟩; have hb6 := hb5.trans (hd6.mono hb5.size))
                  | (go_at_call 36; refine (E5 w4 hb4).mono ?_; rintro e w5 ⟨rfl, hd5⟩; have hb5 := hb4.trans (hd5.below.mono hb4.size); replace a6 := pw_cell_below (hd5.below) a6; replace b6 := pw_cell_below (hd5.below) b6)
                  | (go_at_call 35; refine (E4 w3 hb3).mono ?_; rintro e w4 ⟨rfl, hd4⟩; have hb4 := hb3.trans (hd4.below.mono hb3.size); replace a5 := pw_cell_below (hd4.below) a5; replace b5 := pw_cell_below (hd4.below) b5; replace a6 := pw_cell_below (hd4.below) a6; replace b6 := pw_cell_below (hd4.below) b6)
                  | (go_at_call 34; refine (E3 w2 hb2).mono ?_; rintro e w3 ⟨rfl, hd3⟩; have hb3 := hb2.trans (hd3.below.mono hb2.size); replace a4 := pw_cell_below (hd3.below) a4; replace b4 := pw_cell_below (hd3.below) b4; replace a5 := pw_cell_below (hd3.below) a5; replace b5 := pw_cell_below (hd3.below) b5; replace a6 := pw_cell_below (hd3.below) a6; replace b6 := pw_cell_below (hd3.below) b6)
                  | (go_at_call 33; refine (E2 w1 hb1).mono ?_; rintro e w2 ⟨rfl, hd2⟩; have hb2 := hb1.trans (hd2.below.mono hb1.size); replace a3 := pw_cell_below (hd2.below) a3; replace b3 := pw_cell_below (hd2.below) b3; replace a4 := pw_cell_below (hd2.below) a4; replace b4 := pw_cell_below (hd2.below) b4; replace a5 := pw_cell_below (hd2.below) a5; replace b5 := pw_cell_below (hd2.below) b5; replace a6 := pw_cell_below (hd2.below) a6; replace b6 := pw_cell_below (hd2.below) b6)
                  | (go_at_call 33; refine (E1 W hW).mono ?_; rintro e w1 ⟨rfl, hd1⟩; have hb1 := hW.trans (hd1.below.mono hW.size); replace a2 := pw_cell_below (hd1.below) a2; replace b2 := pw_cell_below (hd1.below) b2; replace a3 := pw_cell_below (hd1.below) a3; replace b3 := pw_cell_below (hd1.below) b3; replace a4 := pw_cell_below (hd1.below) a4; replace b4 := pw_cell_below (hd1.below) b4; replace a5 := pw_cell_below (hd1.below) a5; replace b5 := pw_cell_below (hd1.below) b5; replace a6 := pw_cell_below (hd1.below) a6; replace b6 := pw_cell_below (hd1.below) b6))
                go_ret
                exact ⟨by rw [decide_eq_false (fun h => (show ¬ (f.l6 = g.l6) from e6) ((extF f g).1 h).2.2.2.2.2.2)]; first | rfl | (simp [*]; done), hb6⟩
            · have t5 : decide (f.l5 = g.l5) = false := decide_eq_false e5
              rw [t5] at E5
              replace e5 := Go.Lib.hid e5
              go_wp2_with (first
                | (go_at_call 37; refine (E6 w5 hb5).mono ?_; rintro e w6 ⟨rfl, hd6⟩; have hb6 := hb5.trans (hd6.mono hb5.size))
                | (go_at_call 36; refine (E5 w4 hb4).mono ?_; rintro e w5 ⟨rfl, hd5⟩; have hb5 := hb4.trans (hd5.below.mono hb4.size); replace a6 := pw_cell_below (hd5.below) a6; replace b6 := pw_cell_below (hd5.below) b6)
                | (go_at_call 35; refine (E4 w3 hb3).mono ?_; rintro e w4 ⟨rfl, hd4⟩; have hb4 := hb3.trans (hd4.below.mono hb3.size); replace a5 := pw_cell_below (hd4.below) a5; replace b5 := pw_cell_below (hd4.below) b5; replace a6 := pw_cell_below (hd4.below) a6; replace b6 := pw_cell_below (hd4.below) b6)
                | (go_at_call 34; refine (E3 w2 hb2).mono ?_; rintro e w3 ⟨rfl, hd3⟩; have hb3 := hb2.trans (hd3.below.mono hb2.size); replace a4 := pw_cell_below (hd3.below) a4; replace b4 := pw_cell_below (hd3.below) b4; replace a5 := pw_cell_below (hd3.below) a5; replace b5 := pw_cell_below (hd3.below) b5; replace a6 := pw_cell_below (hd3.below) a6; replace b6 := pw_cell_below (hd3.below) b6)
                | (go_at_call 33; refine (E2 w1 hb1).mono ?_; rintro e w2 ⟨rfl, hd2⟩; have hb2 := hb1.trans (hd2.below.mono hb1.size); replace a3 := pw_cell_below (hd2.below) a3; replace b3 := pw_cell_below (hd2.below) b3; replace a4 := pw_cell_below (hd2.below) a4; replace b4 := pw_cell_below (hd2.below) b4; replace a5 := pw_cell_below (hd2.below) a5; replace b5 := pw_cell_below (hd2.below) b5; replace a6 := pw_cell_below (hd2.below) a6; replace b6 := pw_cell_below (hd2.below) b6)
                | (go_at_call 33; refine (E1 W hW).mono ?_; rintro e w1 ⟨rfl, hd1⟩; have hb1 := hW.trans (hd1.below.mono hW.size); replace a2 := pw_cell_below (hd1.below) a2; replace b2 := pw_cell_below (hd1.below) b2; replace a3 := pw_cell_below (hd1.below) a3; replace b3 := pw_cell_below (hd1.below) b3; replace a4 := pw_cell_below (hd1.below) a4; replace b4 := pw_cell_below (hd1.below) b4; replace a5 := pw_cell_below (hd1.below) a5; replace b5 := pw_cell_below (hd1.below) b5; replace a6 := pw_cell_below (hd1.below) a6; replace b6 := pw_cell_below (hd1.below) b6))
              go_ret
              exact ⟨by rw [decide_eq_false (fun h => (show ¬ (f.l5 = g.l5) from e5) ((extF f g).1 h).2.2.2.2.2.1)]; first | rfl | (simp [*]; done), hb5⟩
          · have t4 : decide (f.l4 = g.l4) = false := decide_eq_false e4
            rw [t4] at E4
            replace e4 := Go.Lib.hid e4
            go_wp2_with (first
              | (go_at_call 37; refine (E6 w5 hb5).mono ?_; rintro e w6 ⟨rfl, hd6⟩; have hb6 := hb5.trans (hd6.mono hb5.size))
              | (go_at_call 36; refine (E5 w4 hb4).mono ?_; rintro e w5 ⟨rfl, hd5⟩; have hb5 := hb4.trans (hd5.below.mono hb4.size); replace a6 := pw_cell_below (hd5.below) a6; replace b6 := pw_cell_below (hd5.below) b6)
              | (go_at_call 35; refine (E4 w3 hb3).mono ?_; rintro e w4 ⟨rfl, hd4⟩; have hb4 := hb3.trans (hd4.below.mono hb3.size); replace a5 := pw_cell_below (hd4.below) a5; replace b5 := pw_cell_below (hd4.below) b5; replace a6 := pw_cell_below (hd4.below) a6; replace b6 := pw_cell_below (hd4.below) b6)
              | (go_at_call 34; refine (E3 w2 hb2).mono ?_; rintro e w3 ⟨rfl, hd3⟩; have hb3 := hb2.trans (hd3.below.mono hb2.size); replace a4 := pw_cell_below (hd3.below) a4; replace b4 := pw_cell_below (hd3.below) b4; replace a5 := pw_cell_below (hd3.below) a5; replace b5 := pw_cell_below (hd3.below) b5; replace a6 := pw_cell_below (hd3.below) a6; replace b6 := pw_cell_below (hd3.below) b6)
              | (go_at_call 33; refine (E2 w1 hb1).mono ?_; rintro e w2 ⟨rfl, hd2⟩; have hb2 := hb1.trans (hd2.below.mono hb1.size); replace a3 := pw_cell_below (hd2.below) a3; replace b3 := pw_cell_below (hd2.below) b3; replace a4 := pw_cell_below (hd2.below) a4; replace b4 := pw_cell_below (hd2.below) b4; replace a5 := pw_cell_below (hd2.below) a5; replace b5 := pw_cell_below (hd2.below) b5; replace a6 := pw_cell_below (hd2.below) a6; replace b6 := pw_cell_below (hd2.below) b6)
              | (go_at_call 33; refine (E1 W hW).mono ?_; rintro e w1 ⟨rfl, hd1⟩; have hb1 := hW.trans (hd1.below.mono hW.size); replace a2 := pw_cell_below (hd1.below) a2; replace b2 := pw_cell_below (hd1.below) b2; replace a3 := pw_cell_below (hd1.below) a3; replace b3 := pw_cell_below (hd1.below) b3; replace a4 := pw_cell_below (hd1.below) a4; replace b4 := pw_cell_below (hd1.below) b4; replace a5 := pw_cell_below (hd1.below) a5; replace b5 := pw_cell_below (hd1.below) b5; replace a6 := pw_cell_below (hd1.below) a6; replace b6 := pw_cell_below (hd1.below) b6))
            go_ret
            exact ⟨by rw [decide_eq_false (fun h => (show ¬ (f.l4 = g.l4) from e4) ((extF f g).1 h).2.2.2.2.1)]; first | rfl | (simp [*]; done), hb4⟩
        · have t3 : decide (f.l3 = g.l3) = false := decide_eq_false e3
          rw [t3] at E3
          replace e3 := Go.Lib.hid e3
          go_wp2_with (first
            | (go_at_call 37; refine (E6 w5 hb5).mono ?_; rintro e w6 ⟨rfl, hd6⟩; have hb6 := hb5.trans (hd6.mono hb5.size))
            | (go_at_call 36; refine (E5 w4 hb4).mono ?_; rintro e w5 ⟨rfl, hd5⟩; have hb5 := hb4.trans (hd5.below.mono hb4.size); replace a6 := pw_cell_below (hd5.below) a6; replace b6 := pw_cell_below (hd5.below) b6)
            | (go_at_call 35; refine (E4 w3 hb3).mono ?_; rintro e w4 ⟨rfl, hd4⟩; have hb4 := hb3.trans (hd4.below.mono hb3.size); replace a5 := pw_cell_below (hd4.below) a5; replace b5 := pw_cell_below (hd4.below) b5; replace a6 := pw_cell_below (hd4.below) a6; replace b6 := pw_cell_below (hd4.below) b6)
            | (go_at_call 34; refine (E3 w2 hb2).mono ?_; rintro e w3 ⟨rfl, hd3⟩; have hb3 := hb2.trans (hd3.below.mono hb2.size); replace a4 := pw_cell_below (hd3.below) a4; replace b4 := pw_cell_below (hd3.below) b4; replace a5 := pw_cell_below (hd3.below) a5; replace b5 := pw_cell_below (hd3.below) b5; replace a6 := pw_cell_below (hd3.below) a6; replace b6 := pw_cell_below (hd3.below) b6)
            | (go_at_call 33; refine (E2 w1 hb1).mono ?_; rintro e w2 ⟨rfl, hd2⟩; have hb2 := hb1.trans (hd2.below.mono hb1.size); replace a3 := pw_cell_below (hd2.below) a3; replace b3 := pw_cell_below (hd2.below) b3; replace a4 := pw_cell_below (hd2.below) a4; replace b4 := pw_cell_below (hd2.below) b4; replace a5 := pw_cell_below (hd2.below) a5; replace b5 := pw_cell_below (hd2.below) b5; replace a6 := pw_cell_below (hd2.below) a6; replace b6 := pw_cell_below (hd2.below) b6)
            | (go_at_call 33; refine (E1 W hW).mono ?_; rintro e w1 ⟨rfl, hd1⟩; have hb1 := hW.trans (hd1.below.mono hW.size); replace a2 := pw_cell_below (hd1.below) a2; replace b2 := pw_cell_below (hd1.below) b2; replace a3 := pw_cell_below (hd1.below) a3; replace b3 := pw_cell_below (hd1.below) b3; replace a4 := pw_cell_below (hd1.below) a4; replace b4 := pw_cell_below (hd1.below) b4; replace a5 := pw_cell_below (hd1.below) a5; replace b5 := pw_cell_below (hd1.below) b5; replace a6 := pw_cell_below (hd1.below) a6; replace b6 := pw_cell_below (hd1.below) b6))
          go_ret
          exact ⟨by rw [decide_eq_false (fun h => (show ¬ (f.l3 = g.l3) from e3) ((extF f g).1 h).2.2.2.1)]; first | rfl | (simp [*]; done), hb3⟩
      · have t2 : decide (f.l2 = g.l2) = false := decide_eq_false e2
        rw [t2] at E2
        replace e2 := Go.Lib.hid e2
        go_wp2_with (first
          | (go_at_call 37; refine (E6 w5 hb5).mono ?_; rintro e w6 ⟨rfl, hd6⟩; have hb6 := hb5.trans (hd6.mono hb5.size))
          | (go_at_call 36; refine (E5 w4 hb4).mono ?_; rintro e w5 ⟨rfl, hd5⟩; have hb5 := hb4.trans (hd5.below.mono hb4.size); replace a6 := pw_cell_below (hd5.below) a6; replace b6 := pw_cell_below (hd5.below) b6)
          | (go_at_call 35; refine (E4 w3 hb3).mono ?_; rintro e w4 ⟨rfl, hd4⟩; have hb4 := hb3.trans (hd4.below.mono hb3.size); replace a5 := pw_cell_below (hd4.below) a5; replace b5 := pw_cell_below (hd4.below) b5; replace a6 := pw_cell_below (hd4.below) a6; replace b6 := pw_cell_below (hd4.below) b6)
          | (go_at_call 34; refine (E3 w2 hb2).mono ?_; rintro e w3 ⟨rfl, hd3⟩; have hb3 := hb2.trans (hd3.below.mono hb2.size); replace a4 := pw_cell_below (hd3.below) a4; replace b4 := pw_cell_below (hd3.below) b4; replace a5 := pw_cell_below (hd3.below) a5; replace b5 := pw_cell_below (hd3.below) b5; replace a6 := pw_cell_below (hd3.below) a6; replace b6 := pw_cell_below (hd3.below) b6)
          | (go_at_call 33; refine (E2 w1 hb1).mono ?_; rintro e w2 ⟨rfl, hd2⟩; have hb2 := hb1.trans (hd2.below.mono hb1.size); replace a3 := pw_cell_below (hd2.below) a3; replace b3 := pw_cell_below (hd2.below) b3; replace a4 := pw_cell_below (hd2.below) a4; replace b4 := pw_cell_below (hd2.below) b4; replace a5 := pw_cell_below (hd2.below) a5; replace b5 := pw_cell_below (hd2.below) b5; replace a6 := pw_cell_below (hd2.below) a6; replace b6 := pw_cell_below (hd2.below) b6)
          | (go_at_call 33; refine (E1 W hW).mono ?_; rintro e w1 ⟨rfl, hd1⟩; have hb1 := hW.trans (hd1.below.mono hW.size); replace a2 := pw_cell_below (hd1.below) a2; replace b2 := pw_cell_below (hd1.below) b2; replace a3 := pw_cell_below (hd1.below) a3; replace b3 := pw_cell_below (hd1.below) b3; replace a4 := pw_cell_below (hd1.below) a4; replace b4 := pw_cell_below (hd1.below) b4; replace a5 := pw_cell_below (hd1.below) a5; replace b5 := pw_cell_below (hd1.below) b5; replace a6 := pw_cell_below (hd1.below) a6; replace b6 := pw_cell_below (hd1.below) b6))
        go_ret
        exact ⟨by rw [decide_eq_false (fun h => (show ¬ (f.l2 = g.l2) from e2) ((extF f g).1 h).2.2.1)]; first | rfl | (simp [*]; done), hb2⟩
    · have t1 : decide (f.l1 = g.l1) = false := decide_eq_false e1
      rw [t1] at E1
      replace e1 := Go.Lib.hid e1
      go_wp2_with (first
        | (go_at_call 37; refine (E6 w5 hb5).mono ?_; rintro e w6 ⟨rfl, hd6⟩; have hb6 := hb5.trans (hd6.mono hb5.size))
        | (go_at_call 36; refine (E5 w4 hb4).mono ?_; rintro e w5 ⟨rfl, hd5⟩; have hb5 := hb4.trans (hd5.below.mono hb4.size); replace a6 := pw_cell_below (hd5.below) a6; replace b6 := pw_cell_below (hd5.below) b6)
        | (go_at_call 35; refine (E4 w3 hb3).mono ?_; rintro e w4 ⟨rfl, hd4⟩; have hb4 := hb3.trans (hd4.below.mono hb3.size); replace a5 := pw_cell_below (hd4.below) a5; replace b5 := pw_cell_below (hd4.below) b5; replace a6 := pw_cell_below (hd4.below) a6; replace b6 := pw_cell_below (hd4.below) b6)
        | (go_at_call 34; refine (E3 w2 hb2).mono ?_; rintro e w3 ⟨rfl, hd3⟩; have hb3 := hb2.trans (hd3.below.mono hb2.size); replace a4 := pw_cell_below (hd3.below) a4; replace b4 := pw_cell_below (hd3.below) b4; replace a5 := pw_cell_below (hd3.below) a5; replace b5 := pw_cell_below (hd3.below) b5; replace a6 := pw_cell_below (hd3.below) a6; replace b6 := pw_cell_below (hd3.below) b6)
        | (go_at_call 33; refine (E2 w1 hb1).mono ?_; rintro e w2 ⟨rfl, hd2⟩; have hb2 := hb1.trans (hd2.below.mono hb1.size); replace a3 := pw_cell_below (hd2.below) a3; replace b3 := pw_cell_below (hd2.below) b3; replace a4 := pw_cell_below (hd2.below) a4; replace b4 := pw_cell_below (hd2.below) b4; replace a5 := pw_cell_below (hd2.below) a5; replace b5 := pw_cell_below (hd2.below) b5; replace a6 := pw_cell_below (hd2.below) a6; replace b6 := pw_cell_below (hd2.below) b6)
        | (go_at_call 33; refine (E1 W hW).mono ?_; rintro e w1 ⟨rfl, hd1⟩; have hb1 := hW.trans (hd1.below.mono hW.size); replace a2 := pw_cell_below (hd1.below) a2; replace b2 := pw_cell_below (hd1.below) b2; replace a3 := pw_cell_below (hd1.below) a3; replace b3 := pw_cell_below (hd1.below) b3; replace a4 := pw_cell_below (hd1.below) a4; replace b4 := pw_cell_below (hd1.below) b4; replace a5 := pw_cell_below (hd1.below) a5; replace b5 := pw_cell_below (hd1.below) b5; replace a6 := pw_cell_below (hd1.below) a6; replace b6 := pw_cell_below (hd1.below) b6))
      go_ret
      exact ⟨by rw [decide_eq_false (fun h => (show ¬ (f.l1 = g.l1) from e1) ((extF f g).1 h).2.1)]; first | rfl | (simp [*]; done), hb1⟩
  · have t0 : (f.c == g.c) = false := by simp [e0]
    replace e0 := Go.Lib.hid e0
    go_wp2_with (first
      | (go_at_call 37; refine (E6 w5 hb5).mono ?_; rintro e w6 ⟨rfl, hd6⟩; have hb6 := hb5.trans (hd6.mono hb5.size))
      | (go_at_call 36; refine (E5 w4 hb4).mono ?_; rintro e w5 ⟨rfl, hd5⟩; have hb5 := hb4.trans (hd5.below.mono hb4.size); replace a6 := pw_cell_below (hd5.below) a6; replace b6 := pw_cell_below (hd5.below) b6)
      | (go_at_call 35; refine (E4 w3 hb3).mono ?_; rintro e w4 ⟨rfl, hd4⟩; have hb4 := hb3.trans (hd4.below.mono hb3.size); replace a5 := pw_cell_below (hd4.below) a5; replace b5 := pw_cell_below (hd4.below) b5; replace a6 := pw_cell_below (hd4.below) a6; replace b6 := pw_cell_below (hd4.below) b6)
      | (go_at_call 34; refine (E3 w2 hb2).mono ?_; rintro e w3 ⟨rfl, hd3⟩; have hb3 := hb2.trans (hd3.below.mono hb2.size); replace a4 := pw_cell_below (hd3.below) a4; replace b4 := pw_cell_below (hd3.below) b4; replace a5 := pw_cell_below (hd3.below) a5; replace b5 := pw_cell_below (hd3.below) b5; replace a6 := pw_cell_below (hd3.below) a6; replace b6 := pw_cell_below (hd3.below) b6)
      | (go_at_call 33; refine (E2 w1 hb1).mono ?_; rintro e w2 ⟨rfl, hd2⟩; have hb2 := hb1.trans (hd2.below.mono hb1.size); replace a3 := pw_cell_below (hd2.below) a3; replace b3 := pw_cell_below (hd2.below) b3; replace a4 := pw_cell_below (hd2.below) a4; replace b4 := pw_cell_below (hd2.below) b4; replace a5 := pw_cell_below (hd2.below) a5; replace b5 := pw_cell_below (hd2.below) b5; replace a6 := pw_cell_below (hd2.below) a6; replace b6 := pw_cell_below (hd2.below) b6)
      | (go_at_call 33; refine (E1 W hW).mono ?_; rintro e w1 ⟨rfl, hd1⟩; have hb1 := hW.trans (hd1.below.mono hW.size); replace a2 := pw_cell_below (hd1.below) a2; replace b2 := pw_cell_below (hd1.below) b2; replace a3 := pw_cell_below (hd1.below) a3; replace b3 := pw_cell_below (hd1.below) b3; replace a4 := pw_cell_below (hd1.below) a4; replace b4 := pw_cell_below (hd1.below) b4; replace a5 := pw_cell_below (hd1.below) a5; replace b5 := pw_cell_below (hd1.below) b5; replace a6 := pw_cell_below (hd1.below) a6; replace b6 := pw_cell_below (hd1.below) b6))
    go_ret
    exact ⟨by rw [decide_eq_false (fun h => (show ¬ (f.c = g.c) from e0) ((extF f g).1 h).1)]; first | rfl | (simp [*]; done), hW⟩
end Go.Proofs.Ytenfdankgjdfpaa.PSnapSame
