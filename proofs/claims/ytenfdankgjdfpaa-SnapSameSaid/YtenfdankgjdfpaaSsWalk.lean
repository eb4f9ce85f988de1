/- snap.Same: its closure, slices.EqualFunc, and itself, walked: they tell whether two states are the same. -/
import Derived.Test.YtenfdankgjdfpaaSsPure2
import Derived.Lib.Hide
set_option linter.unusedVariables false
set_option linter.unusedSimpArgs false
namespace Go.Proofs.Ytenfdankgjdfpaa.PSnapSame
open Go.RowKit Go.Proofs.YtenfdankgjdfpaaW.PrintWords Go.Proofs.YtenfdankgjdfpaaW.PrintLast Go.Proofs.YtenfdankgjdfpaaW.PrintMore
open Classical

attribute [local go_sem high] eqA63
/-- a record handed in -/
def recV (x : S66) (A2 : Option Addr) (c2 : Nat) (A3 : Option Addr) (c3 : Nat) (A7 : Option Addr) (c7 : Nat) : Value :=
  .agg #[.int .i64 x.f0.f0, .int .i64 x.f0.f1, .slice A2 x.f1.length c2, .slice A3 x.f2.length c3, .int .i64 x.f3, .int .i64 x.f4, .int .i64 x.f5, .slice A7 x.f6.length c7]
theorem two_old (w : World) (o1 o2 : Obj) : ((w.alloc o1).alloc o2).heap[w.heap.size]? = some o1 := by
  have := heap_alloc_new w o1
  rw [← this]
  exact ((Below.refl (w.alloc o1).heap.size (w.alloc o1)).alloc (Nat.le_refl _) o2).block w.heap.size (by simp)
theorem two_new (w : World) (o1 o2 : Obj) : ((w.alloc o1).alloc o2).heap[w.heap.size + 1]? = some o2 := by
  have := heap_alloc_new (w.alloc o1) o2
  simpa using this
theorem drawn_below {w w' : World} (h : Drawn0 w w') : Below w.heap.size w w' := h.below
set_option maxHeartbeats 4000000 in
set_option maxRecDepth 20000 in
theorem rec_walk (w : World) (x y : S66) (A2 : Option Addr) (c2 : Nat) (A3 : Option Addr) (c3 : Nat) (A7 : Option Addr) (c7 : Nat) (B2 : Option Addr) (d2 : Nat) (B3 : Option Addr) (d3 : Nat) (B7 : Option Addr) (d7 : Nat)
    (l2 : x.f1.length ≤ c2) (g2 : (Kd.int .i64).C w A2 x.f1.length x.f1) (l3 : x.f2.length ≤ c3) (g3 : k69.C w A3 x.f2.length x.f2) (l7 : x.f6.length ≤ c7) (g7 : (Kd.int .i64).C w A7 x.f6.length x.f6)
    (m2 : y.f1.length ≤ d2) (h2 : (Kd.int .i64).C w B2 y.f1.length y.f1) (m3 : y.f2.length ≤ d3) (h3 : k69.C w B3 y.f2.length y.f2) (m7 : y.f6.length ≤ d7) (h7 : (Kd.int .i64).C w B7 y.f6.length y.f6)
    (hM : x.f1.length ≤ 9223372036854775000 ∧ x.f2.length ≤ 9223372036854775000 ∧ x.f6.length ≤ 9223372036854775000) :
    Calls Try.prog 30 #[recV x A2 c2 A3 c3 A7 c7, recV y B2 d2 B3 d3 B7 d7] w fun e w' => e = .returned (.bool (decide (x = y))) ∧ Below w.heap.size w w' := by
  have E1 : ∀ W, Below w.heap.size w W → Calls Try.prog 31 #[.slice A2 x.f1.length c2, .slice B2 y.f1.length d2] W (fun e w' => e = .returned (.bool (decide (x.f1 = y.f1))) ∧ Drawn0 W w') := fun W hb =>
    slices_Equal_int_int.calls (x.f1.length + 1) A2 c2 x.f1 B2 d2 y.f1 _ W (Kd.C_below g2 hb) l2 (Kd.C_below h2 hb) m2 (slices_Equal_int_int.is _ _ _ (by omega) (by omega))
  have E2 : ∀ W, Below w.heap.size w W → Calls Try.prog 32 #[.slice A3 x.f2.length c3, .slice B3 y.f2.length d3] W (fun e w' => e = .returned (.bool (decide (x.f2 = y.f2))) ∧ Drawn0 W w') := fun W hb =>
    api_Write.calls (x.f2.length + 1) A3 c3 x.f2 B3 d3 y.f2 _ W (Kd.C_below g3 hb) l3 (Kd.C_below h3 hb) m3 (api_Write.is _ _ _ (by omega) (by omega))
  have E6 : ∀ W, Below w.heap.size w W → Calls Try.prog 31 #[.slice A7 x.f6.length c7, .slice B7 y.f6.length d7] W (fun e w' => e = .returned (.bool (decide (x.f6 = y.f6))) ∧ Drawn0 W w') := fun W hb =>
    slices_Equal_int_int.calls (x.f6.length + 1) A7 c7 x.f6 B7 d7 y.f6 _ W (Kd.C_below g7 hb) l7 (Kd.C_below h7 hb) m7 (slices_Equal_int_int.is _ _ _ (by omega) (by omega))
  unfold recV
  clear g2 g3 g7 h2 h3 h7 l2 l3 l7 m2 m3 m7 hM
  have hu66 := Try.underlying66
  have hu63 := Try.underlying63
  have hB0 := Below.refl w.heap.size w
  go_enter Try.func30, Try.ntmps30
  go_upto_region 1 with fail
  have hgx := two_old w (.cells #[.int .i64 x.f0.f0, .int .i64 x.f0.f1, .slice A2 x.f1.length c2, .slice A3 x.f2.length c3, .int .i64 x.f3, .int .i64 x.f4, .int .i64 x.f5, .slice A7 x.f6.length c7] 66) (.cells #[.int .i64 y.f0.f0, .int .i64 y.f0.f1, .slice B2 y.f1.length d2, .slice B3 y.f2.length d3, .int .i64 y.f3, .int .i64 y.f4, .int .i64 y.f5, .slice B7 y.f6.length d7] 66)
  have hgy := two_new w (.cells #[.int .i64 x.f0.f0, .int .i64 x.f0.f1, .slice A2 x.f1.length c2, .slice A3 x.f2.length c3, .int .i64 x.f3, .int .i64 x.f4, .int .i64 x.f5, .slice A7 x.f6.length c7] 66) (.cells #[.int .i64 y.f0.f0, .int .i64 y.f0.f1, .slice B2 y.f1.length d2, .slice B3 y.f2.length d3, .int .i64 y.f3, .int .i64 y.f4, .int .i64 y.f5, .slice B7 y.f6.length d7] 66)
  have hW : Below w.heap.size w ((w.alloc (.cells #[.int .i64 x.f0.f0, .int .i64 x.f0.f1, .slice A2 x.f1.length c2, .slice A3 x.f2.length c3, .int .i64 x.f3, .int .i64 x.f4, .int .i64 x.f5, .slice A7 x.f6.length c7] 66)).alloc (.cells #[.int .i64 y.f0.f0, .int .i64 y.f0.f1, .slice B2 y.f1.length d2, .slice B3 y.f2.length d3, .int .i64 y.f3, .int .i64 y.f4, .int .i64 y.f5, .slice B7 y.f6.length d7] 66)) := below_alloc (below_alloc (Below.refl _ _) _) _
  generalize ((w.alloc (.cells #[.int .i64 x.f0.f0, .int .i64 x.f0.f1, .slice A2 x.f1.length c2, .slice A3 x.f2.length c3, .int .i64 x.f3, .int .i64 x.f4, .int .i64 x.f5, .slice A7 x.f6.length c7] 66)).alloc (.cells #[.int .i64 y.f0.f0, .int .i64 y.f0.f1, .slice B2 y.f1.length d2, .slice B3 y.f2.length d3, .int .i64 y.f3, .int .i64 y.f4, .int .i64 y.f5, .slice B7 y.f6.length d7] 66)) = W at *
  generalize w.heap.size + 1 = gy at *
  obtain ⟨gx, hgxe⟩ : ∃ g, g = w.heap.size := ⟨_, rfl⟩
  rw [← hgxe] at hgx ⊢
  clear hgxe
  have a0 : W.cell? ⟨gx, 0, none⟩ = some (.int .i64 x.f0.f0) := by rw [blk_cell hgx 0]; rfl
  have b0 : W.cell? ⟨gy, 0, none⟩ = some (.int .i64 y.f0.f0) := by rw [blk_cell hgy 0]; rfl
  have a1 : W.cell? ⟨gx, 1, none⟩ = some (.int .i64 x.f0.f1) := by rw [blk_cell hgx 1]; rfl
  have b1 : W.cell? ⟨gy, 1, none⟩ = some (.int .i64 y.f0.f1) := by rw [blk_cell hgy 1]; rfl
  have a2 : W.cell? ⟨gx, 2, none⟩ = some (.slice A2 x.f1.length c2) := by rw [blk_cell hgx 2]; rfl
  have b2 : W.cell? ⟨gy, 2, none⟩ = some (.slice B2 y.f1.length d2) := by rw [blk_cell hgy 2]; rfl
  have a3 : W.cell? ⟨gx, 3, none⟩ = some (.slice A3 x.f2.length c3) := by rw [blk_cell hgx 3]; rfl
  have b3 : W.cell? ⟨gy, 3, none⟩ = some (.slice B3 y.f2.length d3) := by rw [blk_cell hgy 3]; rfl
  have a4 : W.cell? ⟨gx, 4, none⟩ = some (.int .i64 x.f3) := by rw [blk_cell hgx 4]; rfl
  have b4 : W.cell? ⟨gy, 4, none⟩ = some (.int .i64 y.f3) := by rw [blk_cell hgy 4]; rfl
  have a5 : W.cell? ⟨gx, 5, none⟩ = some (.int .i64 x.f4) := by rw [blk_cell hgx 5]; rfl
  have b5 : W.cell? ⟨gy, 5, none⟩ = some (.int .i64 y.f4) := by rw [blk_cell hgy 5]; rfl
  have a6 : W.cell? ⟨gx, 6, none⟩ = some (.int .i64 x.f5) := by rw [blk_cell hgx 6]; rfl
  have b6 : W.cell? ⟨gy, 6, none⟩ = some (.int .i64 y.f5) := by rw [blk_cell hgy 6]; rfl
  have a7 : W.cell? ⟨gx, 7, none⟩ = some (.slice A7 x.f6.length c7) := by rw [blk_cell hgx 7]; rfl
  have b7 : W.cell? ⟨gy, 7, none⟩ = some (.slice B7 y.f6.length d7) := by rw [blk_cell hgy 7]; rfl
  clear hgx hgy hu66 hu63 hB0
  have hz := hW.size
  by_cases e0 : x.f0.f0 = y.f0.f0 ∧ x.f0.f1 = y.f0.f1
  · have t00 : (x.f0.f0 == y.f0.f0) = true := by simp [e0.1]
    have t01 : (x.f0.f1 == y.f0.f1) = true := by simp [e0.2]
    replace e0 := Go.Lib.hid e0
    by_cases e3 : x.f3 = y.f3
    · have t_e3 : (x.f3 == y.f3) = true := by simp [e3]
      replace e3 := Go.Lib.hid e3
      by_cases e4 : x.f4 = y.f4
      · have t_e4 : (x.f4 == y.f4) = true := by simp [e4]
        replace e4 := Go.Lib.hid e4
        by_cases e5 : x.f5 = y.f5
        · have t_e5 : (x.f5 == y.f5) = true := by simp [e5]
          replace e5 := Go.Lib.hid e5
          by_cases e1 : x.f1 = y.f1
          · have t_e1 : decide (x.f1 = y.f1) = true := decide_eq_true e1
            replace e1 := Go.Lib.hid e1
            by_cases e2 : x.f2 = y.f2
            · have t_e2 : decide (x.f2 = y.f2) = true := decide_eq_true e2
              replace e2 := Go.Lib.hid e2
              by_cases e6 : x.f6 = y.f6
              · have t_e6 : decide (x.f6 = y.f6) = true := decide_eq_true e6
                replace e6 := Go.Lib.hid e6
                go_wp2_with (first
                  | (go_at_call 31; refine (E6 w2 hb2).mono ?_; rintro e w3 ⟨rfl, hd3⟩; have hb3 := hb2.trans (hd3.below.mono hb2.size))
                  | (go_at_call 32; refine (E2 w1 hb1).mono ?_; rintro e w2 ⟨rfl, hd2⟩; have hb2 := hb1.trans (hd2.below.mono hb1.size); have k7 := pw_cell_below hd2.below (pw_cell_below hd1.below a7); have j7 := pw_cell_below hd2.below (pw_cell_below hd1.below b7))
                  | (go_at_call 31; refine (E1 W hW).mono ?_; rintro e w1 ⟨rfl, hd1⟩; have hb1 := hW.trans (hd1.below.mono hW.size); have k3 := pw_cell_below hd1.below a3; have j3 := pw_cell_below hd1.below b3))
                go_ret
                exact ⟨by rw [decide_eq_true ((ext66 x y).2 ⟨show x.f0.f0 = y.f0.f0 ∧ x.f0.f1 = y.f0.f1 from e0, show x.f1 = y.f1 from e1, show x.f2 = y.f2 from e2, show x.f3 = y.f3 from e3, show x.f4 = y.f4 from e4, show x.f5 = y.f5 from e5, show x.f6 = y.f6 from e6⟩)]; first | rfl | (simp [*]; done), hb3⟩
              · have t_e6 : decide (x.f6 = y.f6) = false := decide_eq_false e6
                replace e6 := Go.Lib.hid e6
                go_wp2_with (first
                  | (go_at_call 31; refine (E6 w2 hb2).mono ?_; rintro e w3 ⟨rfl, hd3⟩; have hb3 := hb2.trans (hd3.below.mono hb2.size))
                  | (go_at_call 32; refine (E2 w1 hb1).mono ?_; rintro e w2 ⟨rfl, hd2⟩; have hb2 := hb1.trans (hd2.below.mono hb1.size); have k7 := pw_cell_below hd2.below (pw_cell_below hd1.below a7); have j7 := pw_cell_below hd2.below (pw_cell_below hd1.below b7))
                  | (go_at_call 31; refine (E1 W hW).mono ?_; rintro e w1 ⟨rfl, hd1⟩; have hb1 := hW.trans (hd1.below.mono hW.size); have k3 := pw_cell_below hd1.below a3; have j3 := pw_cell_below hd1.below b3))
                go_ret
                exact ⟨by rw [decide_eq_false (fun h => (show ¬ (x.f6 = y.f6) from e6) ((ext66 x y).1 h).2.2.2.2.2.2)]; first | rfl | (simp [*]; done), hb3⟩
            · have t_e2 : decide (x.f2 = y.f2) = false := decide_eq_false e2
              replace e2 := Go.Lib.hid e2
              go_wp2_with (first
                | (go_at_call 31; refine (E6 w2 hb2).mono ?_; rintro e w3 ⟨rfl, hd3⟩; have hb3 := hb2.trans (hd3.below.mono hb2.size))
                | (go_at_call 32; refine (E2 w1 hb1).mono ?_; rintro e w2 ⟨rfl, hd2⟩; have hb2 := hb1.trans (hd2.below.mono hb1.size); have k7 := pw_cell_below hd2.below (pw_cell_below hd1.below a7); have j7 := pw_cell_below hd2.below (pw_cell_below hd1.below b7))
                | (go_at_call 31; refine (E1 W hW).mono ?_; rintro e w1 ⟨rfl, hd1⟩; have hb1 := hW.trans (hd1.below.mono hW.size); have k3 := pw_cell_below hd1.below a3; have j3 := pw_cell_below hd1.below b3))
              go_ret
              exact ⟨by rw [decide_eq_false (fun h => (show ¬ (x.f2 = y.f2) from e2) ((ext66 x y).1 h).2.2.1)]; first | rfl | (simp [*]; done), hb2⟩
          · have t_e1 : decide (x.f1 = y.f1) = false := decide_eq_false e1
            replace e1 := Go.Lib.hid e1
            go_wp2_with (first
              | (go_at_call 31; refine (E6 w2 hb2).mono ?_; rintro e w3 ⟨rfl, hd3⟩; have hb3 := hb2.trans (hd3.below.mono hb2.size))
              | (go_at_call 32; refine (E2 w1 hb1).mono ?_; rintro e w2 ⟨rfl, hd2⟩; have hb2 := hb1.trans (hd2.below.mono hb1.size); have k7 := pw_cell_below hd2.below (pw_cell_below hd1.below a7); have j7 := pw_cell_below hd2.below (pw_cell_below hd1.below b7))
              | (go_at_call 31; refine (E1 W hW).mono ?_; rintro e w1 ⟨rfl, hd1⟩; have hb1 := hW.trans (hd1.below.mono hW.size); have k3 := pw_cell_below hd1.below a3; have j3 := pw_cell_below hd1.below b3))
            go_ret
            exact ⟨by rw [decide_eq_false (fun h => (show ¬ (x.f1 = y.f1) from e1) ((ext66 x y).1 h).2.1)]; first | rfl | (simp [*]; done), hb1⟩
        · have t_e5 : (x.f5 == y.f5) = false := by simp [e5]
          replace e5 := Go.Lib.hid e5
          go_wp2_with (first
            | (go_at_call 31; refine (E6 w2 hb2).mono ?_; rintro e w3 ⟨rfl, hd3⟩; have hb3 := hb2.trans (hd3.below.mono hb2.size))
            | (go_at_call 32; refine (E2 w1 hb1).mono ?_; rintro e w2 ⟨rfl, hd2⟩; have hb2 := hb1.trans (hd2.below.mono hb1.size); have k7 := pw_cell_below hd2.below (pw_cell_below hd1.below a7); have j7 := pw_cell_below hd2.below (pw_cell_below hd1.below b7))
            | (go_at_call 31; refine (E1 W hW).mono ?_; rintro e w1 ⟨rfl, hd1⟩; have hb1 := hW.trans (hd1.below.mono hW.size); have k3 := pw_cell_below hd1.below a3; have j3 := pw_cell_below hd1.below b3))
          go_ret
          exact ⟨by rw [decide_eq_false (fun h => (show ¬ (x.f5 = y.f5) from e5) ((ext66 x y).1 h).2.2.2.2.2.1)]; first | rfl | (simp [*]; done), hW⟩
      · have t_e4 : (x.f4 == y.f4) = false := by simp [e4]
        replace e4 := Go.Lib.hid e4
        go_wp2_with (first
          | (go_at_call 31; refine (E6 w2 hb2).mono ?_; rintro e w3 ⟨rfl, hd3⟩; have hb3 := hb2.trans (hd3.below.mono hb2.size))
          | (go_at_call 32; refine (E2 w1 hb1).mono ?_; rintro e w2 ⟨rfl, hd2⟩; have hb2 := hb1.trans (hd2.below.mono hb1.size); have k7 := pw_cell_below hd2.below (pw_cell_below hd1.below a7); have j7 := pw_cell_below hd2.below (pw_cell_below hd1.below b7))
          | (go_at_call 31; refine (E1 W hW).mono ?_; rintro e w1 ⟨rfl, hd1⟩; have hb1 := hW.trans (hd1.below.mono hW.size); have k3 := pw_cell_below hd1.below a3; have j3 := pw_cell_below hd1.below b3))
        go_ret
        exact ⟨by rw [decide_eq_false (fun h => (show ¬ (x.f4 = y.f4) from e4) ((ext66 x y).1 h).2.2.2.2.1)]; first | rfl | (simp [*]; done), hW⟩
    · have t_e3 : (x.f3 == y.f3) = false := by simp [e3]
      replace e3 := Go.Lib.hid e3
      go_wp2_with (first
        | (go_at_call 31; refine (E6 w2 hb2).mono ?_; rintro e w3 ⟨rfl, hd3⟩; have hb3 := hb2.trans (hd3.below.mono hb2.size))
        | (go_at_call 32; refine (E2 w1 hb1).mono ?_; rintro e w2 ⟨rfl, hd2⟩; have hb2 := hb1.trans (hd2.below.mono hb1.size); have k7 := pw_cell_below hd2.below (pw_cell_below hd1.below a7); have j7 := pw_cell_below hd2.below (pw_cell_below hd1.below b7))
        | (go_at_call 31; refine (E1 W hW).mono ?_; rintro e w1 ⟨rfl, hd1⟩; have hb1 := hW.trans (hd1.below.mono hW.size); have k3 := pw_cell_below hd1.below a3; have j3 := pw_cell_below hd1.below b3))
      go_ret
      exact ⟨by rw [decide_eq_false (fun h => (show ¬ (x.f3 = y.f3) from e3) ((ext66 x y).1 h).2.2.2.1)]; first | rfl | (simp [*]; done), hW⟩
  · have t00 : (x.f0.f0 == y.f0.f0 && (x.f0.f1 == y.f0.f1)) = false := by simpa using e0
    replace e0 := Go.Lib.hid e0
    go_wp2_with (first
      | (go_at_call 31; refine (E6 w2 hb2).mono ?_; rintro e w3 ⟨rfl, hd3⟩; have hb3 := hb2.trans (hd3.below.mono hb2.size))
      | (go_at_call 32; refine (E2 w1 hb1).mono ?_; rintro e w2 ⟨rfl, hd2⟩; have hb2 := hb1.trans (hd2.below.mono hb1.size); have k7 := pw_cell_below hd2.below (pw_cell_below hd1.below a7); have j7 := pw_cell_below hd2.below (pw_cell_below hd1.below b7))
      | (go_at_call 31; refine (E1 W hW).mono ?_; rintro e w1 ⟨rfl, hd1⟩; have hb1 := hW.trans (hd1.below.mono hW.size); have k3 := pw_cell_below hd1.below a3; have j3 := pw_cell_below hd1.below b3))
    go_ret
    exact ⟨by rw [decide_eq_false (fun h => (show ¬ (x.f0.f0 = y.f0.f0 ∧ x.f0.f1 = y.f0.f1) from e0) ((ext66 x y).1 h).1)]; first | rfl | (simp [*]; done), hW⟩
end Go.Proofs.Ytenfdankgjdfpaa.PSnapSame
