/- The arguments []Act and []Rec of the log's laws opened, with what they weigh. (ahead of it: One act of the law, walked: the acts that do not touch the log. One act of the law, walked: Mend, other kinds, a turned sector. One act of the law, walked: a sector is turned. One act of the law, walked: the log is rewritten. One act of the law, walked: records are appended. One act of the law, of any kind; and the law's test whether some acts are light.) -/
import Derived.Test.YtggogenhakdhiaaDoorPkF
import Derived.Test.YtggogenhakdhiaaDoorPkA
import Derived.Laws.CopyOwn
import Derived.Deep.Slices
import Derived.Deep.Fields
import Derived.ChangeSame
section
set_option linter.unusedVariables false
set_option linter.unusedSimpArgs false
attribute [local go_sem ↓] Go.wp_at_zero Go.wp_at_succ
namespace Go.Proofs.YtggogenhakdhiaaDoor
open Go.RowKit

theorem openOf_down {d : DS} {n q : Nat} {l : List (Int × List UInt8)} (h : openOf d n = .log q l) : d.down = false := by
  cases hd : d.down with
  | false => rfl
  | true => unfold openOf at h; rw [if_pos hd] at h; cases h
section
variable (B n : Nat) (w : World) (col : Nat → Nat) (ga gr : Nat) (d : DS) (lg : Lg) (hS : Sys B n w col ga gr d lg) (rs bs : Value) (z : Int)
include hS
set_option maxHeartbeats 1000000 in
set_option maxRecDepth 20000 in
theorem one_format (ht : TabAt w) (htb : 0 < B) (htr : d.trail.length ≤ 800000) :
    Calls Tryd.prog 30 #[.pointer (some ⟨ga, 0, none⟩), .pointer (some ⟨gr, 0, none⟩), pv lg, rv lg, .agg #[.int .i64 0, rs, .int .i64 z, bs]] w (OneP B n ga gr w (16 * d.trail.length + 32)) := by
  have hB1 : Below w.heap.size w (w.alloc (.cells #[.int .i64 0, rs, .int .i64 z, bs] 58)) := (Below.refl _ _).alloc (Nat.le_refl _) _
  have hx := heap_alloc_new w (.cells #[.int .i64 0, rs, .int .i64 z, bs] 58)
  have hxl : w.heap.size < (w.alloc (.cells #[.int .i64 0, rs, .int .i64 z, bs] 58)).heap.size := by simp
  have hS1 := hS.below (col' := dye w col 7) hB1 (fun _ hk => dye_old hk)
  have h7 : ∀ j, w.heap.size ≤ j → dye w col 7 j = 7 := fun j hj => dye_new hj
  go_enter Tryd.func30, Tryd.ntmps30
  go_upto_region 1 with fail
  have hB0 := hS.hB
  clear hS
  generalize dye w col 7 = col at *
  generalize w.alloc (.cells #[.int .i64 0, rs, .int .i64 z, bs] 58) = W1 at *
  have hgx7 := h7 w.heap.size (Nat.le_refl _)
  have x0 := cell_of_row W1 w.heap.size 0 _ _ _ hx
  have x2 := cell_of_row W1 w.heap.size 2 _ _ _ hx
  have x3 := cell_of_row W1 w.heap.size 3 _ _ _ hx
  generalize pv lg = x at *
  generalize rv lg = y at *
  have HF := format_walk W1 col ga n d hS1.P.D (ht.below hB1) (hS1.lo _ htb) (by omega)
  have hft : (formatOf n d).1.trail.length ≤ d.trail.length + 2 := formatOf_trail
  have HR : ∀ w' col', RIn w' col' gr n d → Calls Tryd.prog 65 #[.pointer (some ⟨gr, 0, none⟩)] w' (fun e w'' => e = .returned (.int .i64 (formatOf n d).2) ∧ ∃ col'', RIn w'' col'' gr n (formatOf n d).1 ∧ Step 2 4 col' w' w'' col'') := fun w' col' h => rformat_walk w' col' gr n d h (by omega)
  have hfv := formatOf_val n d
  generalize formatOf n d = fo at *
  obtain ⟨d2, e2⟩ := fo
  simp only at HF HR hft hfv
  go_wp2_with (first
    | (go_at_call 65; go_must (refine (HR w2 col2 (hS1.R.step hS2).D).mono ?_; rintro e w3 ⟨rfl, col3, hR3, hS3⟩))
    | (go_at_call 10; go_must (refine (num_walk _ e2 (by omega) (by omega)).mono ?_; rintro e w9 ⟨rfl, rfl⟩))
    | (go_at_call 56; go_must (refine HF.mono ?_; rintro e w2 ⟨rfl, col2, hP2, hS2⟩)))
  go_ret3
  have hP3 := PIn.frame hP2 hS3.chg (fun x hx => by rcases hx with e | e <;> omega) hS3.old
  have hlow : ∀ k, k < B → col2 k = 0 := fun k hk => (hS2.old k (Nat.lt_of_lt_of_le hk hS1.hB)).trans (hS1.lo k hk)
  have hz2 := hS2.chg.size
  have hz3 := hS3.chg.size
  have h1B := hS1.hB
  refine ⟨none, d2, col3, by simp [pv, rv], ⟨PS.none hP3, RS.none hR3, fun _ _ _ e => (by cases e), fun k hk => (hS3.old k (by omega)).trans (hlow k hk), by omega⟩, ?_, by omega⟩
  exact ((hB1.mono hB0).trans (hS2.below hS1.hB hS1.lo (by omega) (by omega))).trans (hS3.below (by omega) hlow (by omega) (by omega))
set_option maxHeartbeats 1000000 in
set_option maxRecDepth 20000 in
theorem one_open (ht : TabAt w) :
    Calls Tryd.prog 30 #[.pointer (some ⟨ga, 0, none⟩), .pointer (some ⟨gr, 0, none⟩), pv lg, rv lg, .agg #[.int .i64 1, rs, .int .i64 z, bs]] w (OneP B n ga gr w (16 * d.trail.length)) := by
  have hB1 : Below w.heap.size w (w.alloc (.cells #[.int .i64 1, rs, .int .i64 z, bs] 58)) := (Below.refl _ _).alloc (Nat.le_refl _) _
  have hx := heap_alloc_new w (.cells #[.int .i64 1, rs, .int .i64 z, bs] 58)
  have hxl : w.heap.size < (w.alloc (.cells #[.int .i64 1, rs, .int .i64 z, bs] 58)).heap.size := by simp
  have hS1 := hS.below (col' := dye w col 7) hB1 (fun _ hk => dye_old hk)
  have h7 : ∀ j, w.heap.size ≤ j → dye w col 7 j = 7 := fun j hj => dye_new hj
  go_enter Tryd.func30, Tryd.ntmps30
  go_upto_region 1 with fail
  have hB0 := hS.hB
  clear hS
  generalize dye w col 7 = col at *
  generalize w.alloc (.cells #[.int .i64 1, rs, .int .i64 z, bs] 58) = W1 at *
  have hgx7 := h7 w.heap.size (Nat.le_refl _)
  have x0 := cell_of_row W1 w.heap.size 0 _ _ _ hx
  have x2 := cell_of_row W1 w.heap.size 2 _ _ _ hx
  have x3 := cell_of_row W1 w.heap.size 3 _ _ _ hx
  generalize pv lg = x at *
  generalize rv lg = y at *
  obtain ⟨sa, ta, hDa, hfa⟩ := hS1.P.D
  obtain ⟨sr, tr, hDr, hfr⟩ := hS1.R.D
  have HO := open_walk W1 ga n sa ta d hDa (ht.below hB1)
  have HQ : ∀ x, Below W1.heap.size W1 x → Calls Tryd.prog 14 #[.pointer (some ⟨gr, 0, none⟩)] x (RetOpened RLog x.heap.size gr (openOf d n) x) := fun x hx => ropen_walk x gr n sr tr d (hDr.below hx)
  have hil := hDa.len
  have hn1 : 1 ≤ n := by have := hDa.pos; omega
  clear hx x2 x3
  cases ho : openOf d n with
  | err k =>
    obtain ⟨hk0, hk1⟩ := openOf_err ho
    rw [ho] at HO HQ
    replace ho := Go.Lib.hid ho
    go_wp2_with (first
      | (go_at_call 14; go_must (refine (HQ w5 hB5).mono ?_; rintro e w6 ⟨hB6, rfl⟩))
      | (go_at_call 10; go_must (refine (num_walk _ k (by omega) (by omega)).mono ?_; rintro e w9 ⟨rfl, rfl⟩))
      | (go_at_call 13; go_must (refine HO.mono ?_; rintro e w5 ⟨hB5, rfl⟩)))
    go_ret3
    have hB16 := hB5.trans (hB6.mono hB5.size)
    have hS6 := hS1.below hB16 (fun _ _ => rfl)
    exact ⟨none, d, _, by simp [pv, rv], ⟨PS.none hS6.P.D, RS.none hS6.R.D, fun _ _ _ e => (by cases e), hS6.lo, hS6.hB⟩, (hB1.mono hB0).trans (hB16.mono hS1.hB), by omega⟩
  | log q recs =>
    obtain ⟨f1, f2, f3, f4, f5⟩ := open_fits hil hn1 ho
    have hdd : d.down = false := openOf_down ho
    rw [ho] at HO HQ
    replace ho := Go.Lib.hid ho
    replace f3 := Go.Lib.hid f3
    go_wp2_with (first
      | (go_at_call 14; go_must (refine (HQ w5 hB5).mono ?_; rintro e w6 ⟨hB6, gm, vm, rfl, hL6, hgm⟩))
      | (go_at_call 10; go_must (refine (num_walk _ 0 (by omega) (by omega)).mono ?_; rintro e w9 ⟨rfl, rfl⟩))
      | (go_at_call 13; go_must (refine HO.mono ?_; rintro e w5 ⟨hB5, gl, vl, rfl, hP5, hgl⟩)))
    go_ret3
    have hz5 := hB5.size
    have hz6 := hB6.size
    have hB16 := hB5.trans (hB6.mono hB5.size)
    have hS6 := hS1.below (col' := dye w5 (dye W1 col 3) 4) hB16 (fun k hk => by rw [dye_old (by omega), dye_old hk])
    have hgl5 := (Array.getElem?_eq_some_iff.1 hP5.blk).1
    refine ⟨some (gl, gm, ⟨q, recs, false⟩), d, _, by simp [pv, rv], ⟨⟨hS6.P.D, fun gl' gm' s' e => ?_⟩, ⟨hS6.R.D, fun gl' gm' s' e => ?_⟩, fun gl' gm' s' e => ?_, hS6.lo, hS6.hB⟩, (hB1.mono hB0).trans (hB16.mono hS1.hB), by omega⟩
    · cases e
      have hP6 := hP5.chain hB6
      exact ⟨vl, hS6.P.D, ⟨hP6.blk, (hP5.recs.mono (Z' := fun k => dye w5 (dye W1 col 3) 4 k = 3) (fun k hk hz => by rw [dye_old hk, dye_new hz])).below hB6⟩, by rw [dye_old hgl5, dye_new hgl]⟩
    · cases e
      refine ⟨vm, hS6.R.D, ⟨hL6.blk, hL6.recs.mono (fun k hk hz => dye_new hz)⟩, dye_new hgm⟩
    · cases e
      exact ⟨f1, ⟨f4, f5⟩, f3.out, fun h => by rw [hdd] at h; cases h⟩
set_option maxHeartbeats 1000000 in
set_option maxRecDepth 20000 in
theorem one_arm (hz : z ≤ 9223372036854775807) :
    Calls Tryd.prog 30 #[.pointer (some ⟨ga, 0, none⟩), .pointer (some ⟨gr, 0, none⟩), pv lg, rv lg, .agg #[.int .i64 4, rs, .int .i64 z, bs]] w (OneP B n ga gr w (16 * d.trail.length)) := by
  have hB1 : Below w.heap.size w (w.alloc (.cells #[.int .i64 4, rs, .int .i64 z, bs] 58)) := (Below.refl _ _).alloc (Nat.le_refl _) _
  have hx := heap_alloc_new w (.cells #[.int .i64 4, rs, .int .i64 z, bs] 58)
  have hxl : w.heap.size < (w.alloc (.cells #[.int .i64 4, rs, .int .i64 z, bs] 58)).heap.size := by simp
  have hS1 := hS.below (col' := dye w col 7) hB1 (fun _ hk => dye_old hk)
  have h7 : ∀ j, w.heap.size ≤ j → dye w col 7 j = 7 := fun j hj => dye_new hj
  go_enter Tryd.func30, Tryd.ntmps30
  go_upto_region 1 with fail
  have hB0 := hS.hB
  clear hS
  generalize dye w col 7 = col at *
  generalize w.alloc (.cells #[.int .i64 4, rs, .int .i64 z, bs] 58) = W1 at *
  have hgx7 := h7 w.heap.size (Nat.le_refl _)
  have x0 := cell_of_row W1 w.heap.size 0 _ _ _ hx
  have x2 := cell_of_row W1 w.heap.size 2 _ _ _ hx
  have x3 := cell_of_row W1 w.heap.size 3 _ _ _ hx
  obtain ⟨sa, ta, hDa, hfa⟩ := hS1.P.D
  have HA := arm_walk W1 ga n sa ta d z hz hDa
  have HR : ∀ x col', RS x col' gr n d lg → Calls Tryd.prog 66 #[.pointer (some ⟨gr, 0, none⟩), .int .i64 z] x (fun e w' => e = .returned (.tuple #[]) ∧ ∃ col'', RS w' col'' gr n { d with armed := max (-1) z } lg ∧ Step 2 4 col' x w' col'') := fun x col' h => by
    obtain ⟨sr, tr, hDr, hfr⟩ := h.D
    refine (rarm_walk x gr n sr tr d z hz hDr).mono ?_
    rintro e w' ⟨rfl, t', hd', hc, ht'⟩
    obtain ⟨k1, k2⟩ := h.acted hDr hfr hd' hc ht'
    exact ⟨rfl, _, k1, k2⟩
  have hAct := fun (w3 : World) (t3 : Value) => hS1.P.acted (lg := lg) (w' := w3) (t' := t3) (d' := { d with armed := max (-1) z }) hDa hfa
  have hfin : ∀ (w3 : World) (col3 : Nat → Nat) (w2 : World) (col2 : Nat → Nat), PS w2 col2 ga n { d with armed := max (-1) z } lg → Step 1 3 col W1 w2 col2 → RS w3 col3 gr n { d with armed := max (-1) z } lg → Step 2 4 col2 w2 w3 col3 →
      OneP B n ga gr w (16 * d.trail.length) (.returned (.tuple #[pv lg, rv lg, .bool true])) w3 := fun w3 col3 w2 col2 hP2 hS2 hR3 hS3 => by
    have hlow : ∀ k, k < B → col2 k = 0 := fun k hk => (hS2.old k (Nat.lt_of_lt_of_le hk hS1.hB)).trans (hS1.lo k hk)
    have hz2 := hS2.chg.size
    have hz3 := hS3.chg.size
    have h1B := hS1.hB
    refine ⟨lg, { d with armed := max (-1) z }, col3, rfl, ⟨hP2.step hS3, hR3, fun gl gm s e => ?_, fun k hk => (hS3.old k (by omega)).trans (hlow k hk), by omega⟩, ?_, Nat.le_refl _⟩
    · have := hS1.G gl gm s e
      exact ⟨this.used, this.gen, this.ld, this.dn⟩
    · exact ((hB1.mono hB0).trans (hS2.below hS1.hB hS1.lo (by omega) (by omega))).trans (hS3.below (by omega) hlow (by omega) (by omega))
  clear hfa hDa
  rcases lg with _ | ⟨gl, gm, s⟩
  all_goals
    simp only [pv, rv] at hfin ⊢
    go_wp2_with (first
      | (go_at_call 66; go_must (refine (HR w2 _ (hS1.R.step hS2)).mono ?_; rintro e w3 ⟨rfl, col3, hR3, hS3⟩; obtain ⟨hx3, hgx3⟩ := block_step hx2 hgx2 hS3 (by omega) (by omega); have z0 := cell_of_row w3 w.heap.size 0 _ _ _ hx3))
      | (go_at_call 23; go_must (refine HA.mono ?_; rintro e w2 ⟨rfl, t2, hd2, hc2, ht2⟩; obtain ⟨hP2, hS2⟩ := hAct w2 t2 hd2 hc2 ht2; obtain ⟨hx2, hgx2⟩ := block_step hx hgx7 hS2 (by omega) (by omega); have y0 := cell_of_row w2 w.heap.size 0 _ _ _ hx2; have y2 := cell_of_row w2 w.heap.size 2 _ _ _ hx2)))
    trace_state
    go_ret3
    exact hfin _ _ _ _ hP2 hS2 hR3 hS3
end
end Go.Proofs.YtggogenhakdhiaaDoor
end
section
set_option linter.unusedVariables false
set_option linter.unusedSimpArgs false
attribute [local go_sem ↓] Go.wp_at_zero Go.wp_at_succ
namespace Go.Proofs.YtggogenhakdhiaaDoor
open Go.RowKit

section
variable (B n : Nat) (w : World) (col : Nat → Nat) (ga gr : Nat) (d : DS) (lg : Lg) (hS : Sys B n w col ga gr d lg) (rs bs : Value) (z : Int)
include hS
set_option maxHeartbeats 1000000 in
set_option maxRecDepth 20000 in
theorem one_mend :
    Calls Tryd.prog 30 #[.pointer (some ⟨ga, 0, none⟩), .pointer (some ⟨gr, 0, none⟩), pv lg, rv lg, .agg #[.int .i64 5, rs, .int .i64 z, bs]] w (OneP B n ga gr w (16 * d.trail.length)) := by
  have hB1 : Below w.heap.size w (w.alloc (.cells #[.int .i64 5, rs, .int .i64 z, bs] 58)) := (Below.refl _ _).alloc (Nat.le_refl _) _
  have hx := heap_alloc_new w (.cells #[.int .i64 5, rs, .int .i64 z, bs] 58)
  have hxl : w.heap.size < (w.alloc (.cells #[.int .i64 5, rs, .int .i64 z, bs] 58)).heap.size := by simp
  have hS1 := hS.below (col' := dye w col 7) hB1 (fun _ hk => dye_old hk)
  have h7 : ∀ j, w.heap.size ≤ j → dye w col 7 j = 7 := fun j hj => dye_new hj
  go_enter Tryd.func30, Tryd.ntmps30
  go_upto_region 1 with fail
  have hB0 := hS.hB
  clear hS
  generalize dye w col 7 = col at *
  generalize w.alloc (.cells #[.int .i64 5, rs, .int .i64 z, bs] 58) = W1 at *
  have hgx7 := h7 w.heap.size (Nat.le_refl _)
  have x0 := cell_of_row W1 w.heap.size 0 _ _ _ hx
  have x2 := cell_of_row W1 w.heap.size 2 _ _ _ hx
  have x3 := cell_of_row W1 w.heap.size 3 _ _ _ hx
  obtain ⟨sa, ta, hDa, hfa⟩ := hS1.P.D
  have HA := mend_walk W1 ga n sa ta d hDa
  have HR : ∀ x col', RS x col' gr n d lg → Calls Tryd.prog 67 #[.pointer (some ⟨gr, 0, none⟩)] x (fun e w' => e = .returned (.tuple #[]) ∧ ∃ col'', RS w' col'' gr n { d with armed := -1, down := false } lg ∧ Step 2 4 col' x w' col'') := fun x col' h => by
    obtain ⟨sr, tr, hDr, hfr⟩ := h.D
    refine (rmend_walk x gr n sr tr d hDr).mono ?_
    rintro e w' ⟨rfl, t', hd', hc, ht'⟩
    obtain ⟨k1, k2⟩ := h.acted hDr hfr hd' hc ht'
    exact ⟨rfl, _, k1, k2⟩
  have hAct := fun (w3 : World) (t3 : Value) => hS1.P.acted (lg := lg) (w' := w3) (t' := t3) (d' := { d with armed := -1, down := false }) hDa hfa
  have hfin : ∀ (w3 : World) (col3 : Nat → Nat) (w2 : World) (col2 : Nat → Nat), PS w2 col2 ga n { d with armed := -1, down := false } lg → Step 1 3 col W1 w2 col2 → RS w3 col3 gr n { d with armed := -1, down := false } lg → Step 2 4 col2 w2 w3 col3 →
      OneP B n ga gr w (16 * d.trail.length) (.returned (.tuple #[pv lg, rv lg, .bool true])) w3 := fun w3 col3 w2 col2 hP2 hS2 hR3 hS3 => by
    have hlow : ∀ k, k < B → col2 k = 0 := fun k hk => (hS2.old k (Nat.lt_of_lt_of_le hk hS1.hB)).trans (hS1.lo k hk)
    have hz2 := hS2.chg.size
    have hz3 := hS3.chg.size
    have h1B := hS1.hB
    refine ⟨lg, { d with armed := -1, down := false }, col3, rfl, ⟨hP2.step hS3, hR3, fun gl gm s e => ?_, fun k hk => (hS3.old k (by omega)).trans (hlow k hk), by omega⟩, ?_, Nat.le_refl _⟩
    · have := hS1.G gl gm s e
      exact ⟨this.used, this.gen, this.ld, fun h => by cases h⟩
    · exact ((hB1.mono hB0).trans (hS2.below hS1.hB hS1.lo (by omega) (by omega))).trans (hS3.below (by omega) hlow (by omega) (by omega))
  clear hfa hDa
  rcases lg with _ | ⟨gl, gm, s⟩
  all_goals
    simp only [pv, rv] at hfin ⊢
    go_wp2_with (first
      | (go_at_call 67; go_must (refine (HR w2 _ (hS1.R.step hS2)).mono ?_; rintro e w3 ⟨rfl, col3, hR3, hS3⟩; obtain ⟨hx3, hgx3⟩ := block_step hx2 hgx2 hS3 (by omega) (by omega); have z0 := cell_of_row w3 w.heap.size 0 _ _ _ hx3))
      | (go_at_call 25; go_must (refine HA.mono ?_; rintro e w2 ⟨rfl, t2, hd2, hc2, ht2⟩; obtain ⟨hP2, hS2⟩ := hAct w2 t2 hd2 hc2 ht2; obtain ⟨hx2, hgx2⟩ := block_step hx hgx7 hS2 (by omega) (by omega); have y0 := cell_of_row w2 w.heap.size 0 _ _ _ hx2; have y2 := cell_of_row w2 w.heap.size 2 _ _ _ hx2)))
    go_ret3
    exact hfin _ _ _ _ hP2 hS2 hR3 hS3
set_option maxHeartbeats 1000000 in
set_option maxRecDepth 20000 in
theorem one_other (k : Int) (h : k ≠ 0 ∧ k ≠ 1 ∧ k ≠ 4 ∧ k ≠ 5 ∧ k ≠ 6) (hk : lg = none ∨ (k ≠ 2 ∧ k ≠ 3)) :
    Calls Tryd.prog 30 #[.pointer (some ⟨ga, 0, none⟩), .pointer (some ⟨gr, 0, none⟩), pv lg, rv lg, .agg #[.int .i64 k, rs, .int .i64 z, bs]] w (OneP B n ga gr w (16 * d.trail.length)) := by
  have k0 : (k == 0) = false := by rw [beq_eq_false_iff_ne]; exact h.1
  have k1 : (k == 1) = false := by rw [beq_eq_false_iff_ne]; exact h.2.1
  have k4 : (k == 4) = false := by rw [beq_eq_false_iff_ne]; exact h.2.2.1
  have k5 : (k == 5) = false := by rw [beq_eq_false_iff_ne]; exact h.2.2.2.1
  have k6 : (k == 6) = false := by rw [beq_eq_false_iff_ne]; exact h.2.2.2.2
  have hB1 : Below w.heap.size w (w.alloc (.cells #[.int .i64 k, rs, .int .i64 z, bs] 58)) := (Below.refl _ _).alloc (Nat.le_refl _) _
  have hx := heap_alloc_new w (.cells #[.int .i64 k, rs, .int .i64 z, bs] 58)
  have hxl : w.heap.size < (w.alloc (.cells #[.int .i64 k, rs, .int .i64 z, bs] 58)).heap.size := by simp
  have hS1 := hS.below (col' := dye w col 7) hB1 (fun _ hk => dye_old hk)
  have h7 : ∀ j, w.heap.size ≤ j → dye w col 7 j = 7 := fun j hj => dye_new hj
  go_enter Tryd.func30, Tryd.ntmps30
  go_upto_region 1 with fail
  have hB0 := hS.hB
  clear hS
  generalize dye w col 7 = col at *
  generalize w.alloc (.cells #[.int .i64 k, rs, .int .i64 z, bs] 58) = W1 at *
  have hgx7 := h7 w.heap.size (Nat.le_refl _)
  have x0 := cell_of_row W1 w.heap.size 0 _ _ _ hx
  have x2 := cell_of_row W1 w.heap.size 2 _ _ _ hx
  have x3 := cell_of_row W1 w.heap.size 3 _ _ _ hx
  have hfin : OneP B n ga gr w (16 * d.trail.length) (.returned (.tuple #[pv lg, rv lg, .bool true])) W1 := ⟨lg, d, col, rfl, hS1, hB1.mono hB0, Nat.le_refl _⟩
  clear h
  rcases lg with _ | ⟨gl, gm, s⟩
  · simp only [pv, rv] at hfin ⊢
    go_wp2
    go_ret3
    exact hfin
  · have k2 : (k != 2) = true := by rw [bne_iff_ne]; rcases hk with e | e; cases e; exact e.1
    have k3 : (k != 3) = true := by rw [bne_iff_ne]; rcases hk with e | e; cases e; exact e.2
    simp only [pv, rv] at hfin ⊢
    go_wp2
    go_ret3
    exact hfin
end
end Go.Proofs.YtggogenhakdhiaaDoor
end
section
set_option linter.unusedVariables false
set_option linter.unusedSimpArgs false
attribute [local go_sem ↓] Go.wp_at_zero Go.wp_at_succ
namespace Go.Proofs.YtggogenhakdhiaaDoor
open Go.RowKit

theorem turn_lay (s t : List UInt8) : ((bv s).toArray.toList.take 0 ++ (bv t ++ (bv s).toArray.toList.drop (0 + (bv t).length))).toArray = (bv (t ++ s.drop t.length)).toArray := by
  rw [List.take_zero, List.nil_append, bv_append, Nat.zero_add, bv_length]
  congr 2
  unfold bv
  rw [List.map_drop]
section
variable (B n : Nat) (w : World) (col : Nat → Nat) (ga gr : Nat) (d : DS) (lg : Lg) (hS : Sys B n w col ga gr d lg) (rs : Value) (z : Int) (BA : Option Addr) (bc : Nat) (b : List UInt8) (hb : Bys w BA b.length b)
include hS hb
set_option maxHeartbeats 1000000 in
set_option maxRecDepth 20000 in
theorem one_turn (htr : d.trail.length ≤ 800000) :
    Calls Tryd.prog 30 #[.pointer (some ⟨ga, 0, none⟩), .pointer (some ⟨gr, 0, none⟩), pv lg, rv lg, .agg #[.int .i64 6, rs, .int .i64 z, .slice BA b.length bc]] w (OneP B n ga gr w (16 * d.trail.length + 16)) := by
  have hB1 : Below w.heap.size w (w.alloc (.cells #[.int .i64 6, rs, .int .i64 z, .slice BA b.length bc] 58)) := (Below.refl _ _).alloc (Nat.le_refl _) _
  have hx := heap_alloc_new w (.cells #[.int .i64 6, rs, .int .i64 z, .slice BA b.length bc] 58)
  have hxl : w.heap.size < (w.alloc (.cells #[.int .i64 6, rs, .int .i64 z, .slice BA b.length bc] 58)).heap.size := by simp
  have hS1 := hS.below (col' := dye w col 7) hB1 (fun _ hk => dye_old hk)
  have h7 : ∀ j, w.heap.size ≤ j → dye w col 7 j = 7 := fun j hj => dye_new hj
  go_enter Tryd.func30, Tryd.ntmps30
  go_upto_region 1 with fail
  have hB0 := hS.hB
  clear hS
  generalize dye w col 7 = col at *
  generalize w.alloc (.cells #[.int .i64 6, rs, .int .i64 z, .slice BA b.length bc] 58) = W1 at *
  have hgx7 := h7 w.heap.size (Nat.le_refl _)
  have x0 := cell_of_row W1 w.heap.size 0 _ _ _ hx
  have x2 := cell_of_row W1 w.heap.size 2 _ _ _ hx
  have x3 := cell_of_row W1 w.heap.size 3 _ _ _ hx
  have hb1 := hb.below hB1
  clear hb
  by_cases hz : 0 ≤ z ∧ z < n
  · obtain ⟨k, rfl⟩ := Int.eq_ofNat_of_zero_le hz.1
    have hk : k < n := by omega
    obtain ⟨hDa, hil⟩ : (Calls Tryd.prog 42 #[.pointer (some ⟨ga, 0, none⟩), .int .i64 k] W1 (fun e w' => e = .returned (.tuple #[.slice (some ⟨W1.heap.size, 0, none⟩) 64 64, .int .i64 0]) ∧ W1.alloc (.cells (bv (secOf d.img k)).toArray 84) = w')) ∧ (secOf d.img k).length = 64 := by
      obtain ⟨sa, ta, hDa, hfa⟩ := hS1.P.D
      exact ⟨read_at W1 ga n sa ta d k hDa hk, secOf_length hDa.len hk⟩
    generalize secOf d.img k = sec at *
    have hB2 : ∀ l' : List UInt8, Below W1.heap.size W1 (W1.alloc (.cells (bv l').toArray 84)) := fun l' => (Below.refl _ _).alloc (Nat.le_refl _) _
    have hX : ∀ l' : List UInt8, (W1.alloc (.cells (bv l').toArray 84)).heap[w.heap.size]? = some (.cells #[.int .i64 6, rs, .int .i64 k, .slice BA b.length bc] 58 (0, 0)) := fun l' => ((hB2 l').block _ hxl).trans hx
    obtain ⟨l', hl'⟩ : ∃ l', l' = b.take 64 ++ sec.drop (b.take 64).length := ⟨_, rfl⟩
    have hll : l'.length = 64 := by rw [hl', List.length_append, List.length_drop, List.length_take]; omega
    have hS3 := hS1.below (col' := col) (hB2 l') (fun _ _ => rfl)
    have hby : Bys (W1.alloc (.cells (bv l').toArray 84)) (some ⟨W1.heap.size, 0, none⟩) 64 l' := by
      have := Bys.new W1 84 (bv l').toArray l' (by simp) (by omega)
      rwa [hll] at this
    have u0 := cell_of_row _ w.heap.size 0 _ _ _ (hX sec)
    have u2 := cell_of_row _ w.heap.size 2 _ _ _ (hX sec)
    have u3 := cell_of_row _ w.heap.size 3 _ _ _ (hX sec)
    have v2 := cell_of_row _ w.heap.size 2 _ _ _ (hX l')
    have v0 := cell_of_row _ w.heap.size 0 _ _ _ (hX l')
    have hbs := hb1.below (hB2 sec)
    have hnum := num_walk (W1.alloc (.cells (bv sec).toArray 84)) 0 (by omega) (by omega)
    have hgs := heap_alloc_new W1 (.cells (bv sec).toArray 84)
    have hlay := turn_lay sec (b.take 64)
    rw [← hl'] at hlay
    have HW := pin_write _ col ga n d hS3.P.D k (some ⟨W1.heap.size, 0, none⟩) 64 64 l' hby (by omega)
    have HR : ∀ x col', Step 1 3 col (W1.alloc (.cells (bv l').toArray 84)) x col' → Bys x (some ⟨W1.heap.size, 0, none⟩) 64 l' → Calls Tryd.prog 12 #[.pointer (some ⟨gr, 0, none⟩), .int .i64 k, .slice (some ⟨W1.heap.size, 0, none⟩) 64 64] x (fun e w' => e = .returned (.int .i64 (writeOf n d k l').2) ∧ ∃ col'', RIn w' col'' gr n (writeOf n d k l').1 ∧ Step 2 4 col' x w' col'') := fun x col' h h2 => rin_write x col' gr n d (hS3.R.step h).D k _ 64 64 l' h2 (by omega)
    have hwt : (writeOf n d k l').1.trail.length ≤ d.trail.length + 1 := writeOf_trail (Nat.le_refl _)
    have hb7 : col W1.heap.size = 7 := h7 _ (by omega)
    generalize writeOf n d k l' = wx at *
    obtain ⟨d2, e2⟩ := wx
    simp only at HW HR hwt
    have hfin : ∀ (w3 : World) (col3 : Nat → Nat) (w2 : World) (col2 : Nat → Nat), PIn w2 col2 ga n d2 → Step 1 3 col (W1.alloc (.cells (bv l').toArray 84)) w2 col2 → RIn w3 col3 gr n d2 → Step 2 4 col2 w2 w3 col3 →
        OneP B n ga gr w (16 * d.trail.length + 16) (.returned (.tuple #[.pointer none, .pointer none, .bool true])) w3 := fun w3 col3 w2 col2 hP2 hS2 hR3 hS4 => by
      have h1B := hS3.hB
      have hlow : ∀ k, k < B → col2 k = 0 := fun k hk => (hS2.old k (Nat.lt_of_lt_of_le hk h1B)).trans (hS3.lo k hk)
      have hz2 := hS2.chg.size
      have hz3 := hS4.chg.size
      refine ⟨none, d2, col3, rfl, ⟨PS.none (PIn.frame hP2 hS4.chg (fun x hx => by rcases hx with e | e <;> omega) hS4.old), RS.none hR3, fun _ _ _ e => (by cases e), fun k hk => (hS4.old k (by omega)).trans (hlow k hk), by omega⟩, ?_, by omega⟩
      exact (((hB1.mono hB0).trans ((hB2 l').mono hS1.hB)).trans (hS2.below hS3.hB hS3.lo (by omega) (by omega))).trans (hS4.below (by omega) hlow (by omega) (by omega))
    replace hl' := Go.Lib.hid hl'
    replace hll := Go.Lib.hid hll
    replace hil := Go.Lib.hid hil
    clear hz hx x3
    generalize pv lg = x at *
    generalize rv lg = y at *
    cases BA with
    | none =>
      have hbl : b = [] := by
        cases b with
        | nil => rfl
        | cons c0 b0 => obtain ⟨ad, e, _⟩ := hb1.cell 0 (by simp); cases e
      subst hbl
      have hls : l' = sec := by rw [hl'.out]; simp
      subst hls
      go_wp2_with (first
        | (go_at_call 12; go_must (refine (HR w2 col2 hS2 (hby.chg hS2.chg (fun ad he => by cases he; show ¬ (col W1.heap.size = 1 ∨ col W1.heap.size = 3); omega))).mono ?_; rintro e w3 ⟨rfl, col3, hR3, hS4⟩))
        | (go_at_call 11; go_must (refine HW.mono ?_; rintro e w2 ⟨rfl, col2, hP2, hS2⟩; have q2 := cell_of_row w2 w.heap.size 2 _ _ _ (block_step (hX _) (h7 _ (Nat.le_refl _)) hS2 (by omega) (by omega)).1))
        | ((with_reducible show wpList _ _ _ (Oper.mk (some 97) _ _ _ _ _ :: _) _ _); refine wpList_copy_nothing (o := ⟨some 97, _, _, _, _, _⟩) rfl (.tmp 94) (.tmp 96) 22 22 rfl 5 Tryd.underlying22 infoU8 (some ⟨W1.heap.size, 0, none⟩) none 64 64 0 bc rfl rfl rfl ?_)
        | (go_at_call 10; go_must (refine hnum.mono ?_; rintro e w9 ⟨rfl, rfl⟩))
        | (go_at_call 42; go_must (refine hDa.mono ?_; rintro e w5 ⟨rfl, rfl⟩)))
      go_ret3
      exact hfin _ _ _ _ hP2 hS2 hR3 hS4
    | some ad =>
      have hq := fun j u (hu : (bv (b.take 64))[j]? = some u) => hbs.news j u (by
        have hu' : ((bv b).take 64)[j]? = some u := by unfold bv at hu ⊢; rwa [List.map_take] at hu
        rw [List.getElem?_take] at hu'
        split at hu'
        · exact hu'
        · cases hu')
      have hn1 : (bv (b.take 64)).length = Nat.min b.length 64 := by rw [bv_length, List.length_take]; exact Nat.min_comm _ _
      have hq2 : 0 + (bv (b.take 64)).length ≤ (bv sec).toArray.size := by rw [bv_length, List.length_take, List.size_toArray, bv_length, hil.out]; omega
      go_wp2_with (first
        | (go_at_call 12; go_must (refine (HR w2 col2 hS2 (hby.chg hS2.chg (fun ad he => by cases he; show ¬ (col W1.heap.size = 1 ∨ col W1.heap.size = 3); omega))).mono ?_; rintro e w3 ⟨rfl, col3, hR3, hS4⟩))
        | (go_at_call 11; go_must (refine HW.mono ?_; rintro e w2 ⟨rfl, col2, hP2, hS2⟩; have q2 := cell_of_row w2 w.heap.size 2 _ _ _ (block_step (hX _) (h7 _ (Nat.le_refl _)) hS2 (by omega) (by omega)).1))
        | ((with_reducible show wpList _ _ _ (Oper.mk (some 97) _ _ _ _ _ :: _) _ _); refine wpList_copy_own (o := ⟨some 97, _, _, _, _, _⟩) rfl (.tmp 94) (.tmp 96) 22 22 rfl 5 Tryd.underlying22 infoU8 W1.heap.size 0 64 64 ad b.length bc rfl rfl _ 84 hgs (bv (b.take 64)) hn1 hq hq2 (bv_one _) ?_; rw [setRow_alloc, hlay])
        | (go_at_call 10; go_must (refine hnum.mono ?_; rintro e w9 ⟨rfl, rfl⟩))
        | (go_at_call 42; go_must (refine hDa.mono ?_; rintro e w5 ⟨rfl, rfl⟩)))
      go_ret3
      exact hfin _ _ _ _ hP2 hS2 hR3 hS4
  · have HD : Calls Tryd.prog 42 #[.pointer (some ⟨ga, 0, none⟩), .int .i64 z] W1 (RetOpen W1.heap.size 84 ([], 2) W1) := by
      obtain ⟨sa, ta, hDa, hfa⟩ := hS1.P.D
      exact read_out W1 ga n sa ta d z hDa hz
    have hfin : ∀ w2, Below W1.heap.size W1 w2 → OneP B n ga gr w (16 * d.trail.length + 16) (.returned (.tuple #[pv lg, rv lg, .bool true])) w2 := fun w2 hB2 => ⟨lg, d, col, rfl, hS1.below hB2 (fun _ _ => rfl), (hB1.mono hB0).trans (hB2.mono hS1.hB), by omega⟩
    rcases lg with _ | ⟨gl, gm, s⟩
    all_goals
      simp only [pv, rv] at hfin ⊢
      go_wp2_with (first
        | (go_at_call 10; go_must (refine (num_walk _ 2 (by omega) (by omega)).mono ?_; rintro e w9 ⟨rfl, rfl⟩))
        | (go_at_call 42; go_must (refine HD.mono ?_; rintro e w2 ⟨A2, c2, rfl, hown2, hB2⟩; have u0 := cell_of_row w2 w.heap.size 0 _ _ _ ((hB2.block _ hxl).trans hx))))
      go_ret3
      exact hfin _ hB2
end
end Go.Proofs.YtggogenhakdhiaaDoor
end
section
set_option linter.unusedVariables false
set_option linter.unusedSimpArgs false
attribute [local go_sem ↓] Go.wp_at_zero Go.wp_at_succ
namespace Go.Proofs.YtggogenhakdhiaaDoor
open Go.RowKit

theorem wrongOf_val (k : Int) (m : Nat) : 0 ≤ wrongOf k m ∧ wrongOf k m ≤ 50 := by
  unfold wrongOf
  repeat' split
  all_goals (refine ⟨?_, ?_⟩ <;> simp)
theorem wrongsOf_val : ∀ l, 0 ≤ wrongsOf l ∧ wrongsOf l ≤ 50
  | [] => by unfold wrongsOf; simp
  | r :: l => by
    have h1 := wrongOf_val r.1 r.2.length
    have h2 := wrongsOf_val l
    unfold wrongsOf
    split
    · exact h1
    · exact h2
theorem layDown_val (n at_ : Nat) (b : List UInt8) : ∀ (k : Nat) (d : DS), 0 ≤ (layDown n at_ b k d).2 ∧ (layDown n at_ b k d).2 ≤ 50
  | 0, d => by unfold layDown; simp
  | i + 1, d => by
    have h1 := writeOf_val n d ((at_ + i : Nat) : Int) (pc b i)
    have h2 := layDown_val n at_ b i (writeOf n d ((at_ + i : Nat) : Int) (pc b i)).1
    unfold layDown
    split
    · exact h2
    · exact h1
theorem layOf_val (n at_ : Nat) (b : List UInt8) (cnt room : Nat) (d : DS) : 0 ≤ (layOf n at_ b cnt room d).2 ∧ (layOf n at_ b cnt room d).2 ≤ 50 := by
  unfold layOf
  repeat' split
  all_goals first
    | exact layDown_val _ _ _ _ _
    | exact writeOf_val _ _ _ _
theorem appendOf_val (n : Nat) (d : DS) (s : LS) (r : Int × List UInt8) : 0 ≤ (appendOf n d s r).2.2 ∧ (appendOf n d s r).2.2 ≤ 50 := by
  unfold appendOf
  repeat' split
  all_goals first
    | exact wrongOf_val _ _
    | exact layOf_val _ _ _ _ _ _
    | (refine ⟨?_, ?_⟩ <;> simp)
theorem rewriteOf_val (n : Nat) (d : DS) (s : LS) (l : List (Int × List UInt8)) : 0 ≤ (rewriteOf n d s l).2.2 ∧ (rewriteOf n d s l).2.2 ≤ 50 := by
  unfold rewriteOf
  repeat' split
  all_goals first
    | exact wrongsOf_val _
    | exact layOf_val _ _ _ _ _ _
    | exact writeOf_val _ _ _ _
    | (refine ⟨?_, ?_⟩ <;> simp)
set_option maxHeartbeats 1000000 in
set_option maxRecDepth 20000 in
/-- the law's comparison of records that can be read, and are the same -/
theorem same_rd (w : World) (A0 B0 : Option Addr) (c0 d0 : Nat) (l : List (Int × List UInt8)) (h : RecsR w A0 l) (h' : RecsR w B0 l) (hll : l.length ≤ 1000000000) :
    Calls Tryd.prog 52 #[.slice A0 l.length c0, .slice B0 l.length d0] w (fun e w' => e = .returned (.bool true) ∧ Below w.heap.size w w') := by
  have hq : ((l.length : Int) != (l.length : Int)) = false := by simp
  go_enter Tryd.func52, Tryd.ntmps52
  go_wp2
  go_loopw [5] (fun i wr => ∃ j : Nat, j ≤ l.length ∧ i = .int .i64 j ∧ Below w.heap.size w wr) (fun i _ => l.length - (intOf i).toNat)
  case atStart => exact ⟨0, by omega, rfl, Below.refl _ _⟩
  case round =>
    obtain ⟨j, hj, rfl, hBr⟩ := hrel
    by_cases hlt : j < l.length
    · have hltz : (j : Int) < (l.length : Int) := by omega
      obtain ⟨g, o, A, c, hv, k0, k1, hO⟩ := (h.below hBr) j hlt
      cases hv
      obtain ⟨g', o', B, d, hv', k0', k1', hO'⟩ := (h'.below hBr) j hlt
      cases hv'
      generalize l[j] = r at *
      have st1 := (hO.drew).string (P := Tryd.prog) Tryd.underlying22 Tryd.underlying5 Tryd.underlying9 c
      have st2 := (hO'.drew).string (P := Tryd.prog) Tryd.underlying22 Tryd.underlying5 Tryd.underlying9 d
      have hne : (r.1 != r.1) = false := by simp
      go_upto_region 6 with fail
      go_region_held_law (fun w' => w'.cell? ⟨g, o + j * 2, none⟩ = some (.int .i64 r.1) ∧ w'.cell? ⟨g, o + j * 2 + 1, none⟩ = some (.slice A r.2.length c) ∧ w'.cell? ⟨g', o' + j * 2, none⟩ = some (.int .i64 r.1) ∧ w'.cell? ⟨g', o' + j * 2 + 1, none⟩ = some (.slice B r.2.length d)) (go_keep) (fail)
      all_goals
        go_wp2_with fail
        go_roundw
        case rel => exact ⟨j + 1, hlt, by go_num, below_drew hBr⟩
        case measure => simp [intOf]; omega
    · go_wp2
      go_ret
      exact ⟨rfl, hBr⟩
section
variable (B n : Nat) (w : World) (col : Nat → Nat) (ga gr : Nat) (d : DS) (gl gm : Nat) (s : LS) (hS : Sys B n w col ga gr d (some (gl, gm, s))) (RA : Option Addr) (rc : Nat) (recs : List (Int × List UInt8)) (bs : Value) (z : Int)
include hS
set_option maxHeartbeats 4000000 in
set_option maxRecDepth 20000 in
theorem one_rewrite (hr : RecsF w (fun k => k < B) RA recs) (hlc : recs.length ≤ rc) (hll : recs.length ≤ 1000000) (hlb : ∀ r ∈ recs, r.2.length ≤ 2000000) (ht : TabAt w) (htb : 0 < B) (hn : n ≤ 600) (htr : d.trail.length ≤ 800000) :
    Calls Tryd.prog 30 #[.pointer (some ⟨ga, 0, none⟩), .pointer (some ⟨gr, 0, none⟩), .pointer (some ⟨gl, 0, none⟩), .pointer (some ⟨gm, 0, none⟩), .agg #[.int .i64 3, .slice RA recs.length rc, .int .i64 z, bs]] w (OneP B n ga gr w (16 * d.trail.length + 6000)) := by
  have hB1 : Below w.heap.size w (w.alloc (.cells #[.int .i64 3, .slice RA recs.length rc, .int .i64 z, bs] 58)) := (Below.refl _ _).alloc (Nat.le_refl _) _
  have hx := heap_alloc_new w (.cells #[.int .i64 3, .slice RA recs.length rc, .int .i64 z, bs] 58)
  have hxl : w.heap.size < (w.alloc (.cells #[.int .i64 3, .slice RA recs.length rc, .int .i64 z, bs] 58)).heap.size := by simp
  have hS1 := hS.below (col' := dye w col 7) hB1 (fun _ hk => dye_old hk)
  have h7 : ∀ j, w.heap.size ≤ j → dye w col 7 j = 7 := fun j hj => dye_new hj
  go_enter Tryd.func30, Tryd.ntmps30
  go_upto_region 1 with fail
  have hB0 := hS.hB
  clear hS
  generalize dye w col 7 = col at *
  generalize w.alloc (.cells #[.int .i64 3, .slice RA recs.length rc, .int .i64 z, bs] 58) = W1 at *
  have hgx7 := h7 w.heap.size (Nat.le_refl _)
  have x0 := cell_of_row W1 w.heap.size 0 _ _ _ hx
  have x2 := cell_of_row W1 w.heap.size 2 _ _ _ hx
  have x3 := cell_of_row W1 w.heap.size 3 _ _ _ hx
  have hr1 := hr.below hB1
  have ht1 := ht.below hB1
  have hG := hS1.G gl gm s rfl
  have HOf := of_walk W1 RA rc recs (hr1.mono (fun k hk hF => hk)) hlc hll hlb
  clear x2 x3 hr ht
  have x1 := cell_of_row W1 w.heap.size 1 _ _ _ hx
  go_upto_region 26 with (go_at_call 68; go_must (refine HOf.mono ?_; rintro e w2 ⟨v, rfl, hQ, hB2⟩; have x2 := cell_of_row w2 w.heap.size 0 _ _ _ ((hB2.block _ hxl).trans hx); obtain ⟨A1, c1, hvA, hc1, hc2⟩ := hQ.cap; subst hvA))
  have hS2 := hS1.below (col' := col) hB2 (fun _ _ => rfl)
  have hx2 := (hB2.block _ hxl).trans hx
  have hwz := hB1.size
  have hQ2 : RecsAt 50 w2 (fun k => w.heap.size ≤ k ∧ col k = 7) (.slice A1 recs.length c1) recs := hQ.mono (fun k hk hz => ⟨by omega, h7 k (by omega)⟩)
  have hr2 := hr1.below hB2
  have ht2 := ht1.below hB2
  obtain ⟨vP, hPM⟩ := hS2.P.L gl gm s rfl
  have HW := rewrite_walk w2 col gl ga n vP d s hPM A1 c1 recs hG (hQ2.f.mono (fun k hk hF => by omega)) hc1 hll hlb ht2 (hS2.lo _ htb) (by omega)
  have hrv := rewriteOf_val n d s recs
  have hrg : GoodS n (rewriteOf n d s recs).1 (rewriteOf n d s recs).2.1 := rewriteOf_good hG
  have hrt : (rewriteOf n d s recs).1.trail.length ≤ d.trail.length + halfOf n + 2 := rewriteOf_trail
  have hhn : halfOf n ≤ 300 := by unfold halfOf; omega
  have HR : ∀ x col', Step 1 3 col w2 x col' → Calls Tryd.prog 69 #[.pointer (some ⟨gm, 0, none⟩), .slice RA recs.length rc] x (RActs (.int .i64 (rewriteOf n d s recs).2.2) col' gm gr n (rewriteOf n d s recs).1 (rewriteOf n d s recs).2.1 x) := fun x col' h => by
    obtain ⟨vR, hRM⟩ := hS2.R.L gl gm s rfl
    refine rrewrite_walk x col' gm gr n vR d s (RM.step hRM h) RA rc recs hG ?_ hlc hll hlb (by omega)
    exact (hr2.chg h.chg (fun k hk hF hs => by have := hS2.lo k hF; omega)).mono (fun k hk hF => by have h1 := h.old k (Nat.lt_of_lt_of_le hF hS2.hB); have := hS2.lo k hF; omega)
  generalize rewriteOf n d s recs = ro at *
  obtain ⟨d2, s2, e2⟩ := ro
  simp only at HW HR hrv hrg hrt
  go_upto_region 27 with (go_at_call 24; go_must (refine HW.mono ?_; rintro e w3 ⟨rfl, col3, v3, hP3, hS3⟩))
  obtain ⟨hx3, hgx3⟩ := block_step hx2 hgx7 hS3 (by omega) (by omega)
  have y1 := cell_of_row w3 w.heap.size 1 _ _ _ hx3
  have hQ3 := hQ2.step hS3 (by omega) (by omega)
  have hnum := num_walk w3.drew e2 (by omega) (by omega)
  have hd3 : Below w3.heap.size w3 w3.drew := below_drew (Below.refl _ _)
  have hS3d : Step 1 3 col w2 w3.drew col3 := hS3.trans (Step.of_below hd3 (fun _ _ => rfl))
  have HR3 := HR w3.drew col3 hS3d
  have hlow3 : ∀ k, k < B → col3 k = 0 := fun k hk => (hS3.old k (Nat.lt_of_lt_of_le hk hS2.hB)).trans (hS2.lo k hk)
  have hz3 := hS3.chg.size
  have h2B := hS2.hB
  have hF3 : RecsF w3.drew (fun k => k < B) RA recs := (hr2.chg hS3.chg (fun k hk hF hs => by have := hS2.lo k hF; omega)).below hd3
  have hSM : ∀ x col', Step 2 4 col3 w3.drew x col' → Calls Tryd.prog 52 #[.slice A1 recs.length c1, .slice RA recs.length rc] x (fun e w' => e = .returned (.bool true) ∧ Below x.heap.size x w') := fun x col' h => by
    have h1 : RecsAt 50 x (fun k => w.heap.size ≤ k ∧ col' k = 7) (.slice A1 recs.length c1) recs := (hQ3.below hd3).step h (by omega) (by omega)
    have h2 := hF3.chg h.chg (fun k hk hF hs => by have := hlow3 k hF; omega)
    exact same_rd x A1 RA c1 rc recs h1.r h2.r (by omega)
  go_region_held_law (fun w' => w'.cell? ⟨w.heap.size, 1, none⟩ = some (.slice RA recs.length rc)) (first | exact q1 | go_keep) ((first
    | (go_at_call 52; (with_reducible refine (hSM w4 col4 hS4).mono ?_); rintro e w5 ⟨rfl, hB5⟩; have q1 := cell_of_row w5 w.heap.size 1 _ _ _ ((hB5.block _ (Array.getElem?_eq_some_iff.1 hx4).1).trans hx4))
    | (go_at_call 69; (with_reducible refine HR3.mono ?_); rintro e w4 ⟨rfl, col4, v4, hR4, hS4⟩; obtain ⟨hx4, hgx4⟩ := block_step (col := col3) ((hd3.block _ (Array.getElem?_eq_some_iff.1 hx3).1).trans hx3) hgx3 hS4 (by omega) (by omega); have q1 := cell_of_row w4 w.heap.size 1 _ _ _ hx4)
    | (go_at_call 10; (with_reducible refine hnum.mono ?_); rintro e w9 ⟨rfl, rfl⟩)))
  all_goals
    have hQ5 := ((hQ3.below hd3).step hS4 (by omega) (by omega)).below hB5
    obtain ⟨A9, c9, hv9, hU⟩ := hQ5.u
    cases hv9
    have HSP := spoil_walk w5 _ A1 recs.length c1 hU (by omega)
    go_wp2_with (go_at_call 55; go_must (refine HSP.mono ?_; rintro e w6 ⟨rfl, hC6⟩))
    go_ret3
    have hz2 := hB2.size
    have hz3d := hd3.size
    have hz4 := hS4.chg.size
    have hz5 := hB5.size
    have hz6 := hC6.size
    have hlow4 : ∀ k, k < B → col4 k = 0 := fun k hk => (hS4.old k (by omega)).trans (hlow3 k hk)
    refine ⟨some (gl, gm, s2), d2, col4, rfl, ⟨?_, ?_, fun gl' gm' s' e => (by cases e; exact hrg), hlow4, by omega⟩, ?_, by omega⟩
    · have k1 : PS w3 col3 ga n d2 (some (gl, gm, s2)) := ⟨hP3.D, fun gl' gm' s' e => by cases e; exact ⟨v3, hP3⟩⟩
      have k2 := (((k1.below (col' := col3) hd3 (fun _ _ => rfl)).step hS4).below (col' := col4) hB5 (fun _ _ => rfl))
      exact k2.frame hC6 (fun k hk => by omega) (fun _ _ => rfl)
    · have k1 : RS w4 col4 gr n d2 (some (gl, gm, s2)) := ⟨hR4.D, fun gl' gm' s' e => by cases e; exact ⟨v4, hR4⟩⟩
      exact (k1.below (col' := col4) hB5 (fun _ _ => rfl)).frame hC6 (fun k hk => by omega) (fun _ _ => rfl)
    · have b1 : Below B w w3 := ((hB1.mono hB0).trans (hB2.mono hS1.hB)).trans (hS3.below hS2.hB hS2.lo (by omega) (by omega))
      have b2 := (b1.trans (hd3.mono (by omega))).trans (hS4.below (by omega) hlow3 (by omega) (by omega))
      exact (b2.trans (hB5.mono (by omega))).trans (hC6.below (by omega) (fun k hk hs => by omega))
end
end Go.Proofs.YtggogenhakdhiaaDoor
end
section
set_option linter.unusedVariables false
set_option linter.unusedSimpArgs false
attribute [local go_sem ↓] Go.wp_at_zero Go.wp_at_succ
namespace Go.Proofs.YtggogenhakdhiaaDoor
open Go.RowKit

/-- what the law weighs -/
def wt (l : List (Int × List UInt8)) : Nat := (l.map fun r => 64 + r.2.length).sum
theorem wt_take (l : List (Int × List UInt8)) (j : Nat) (hj : j < l.length) : wt (l.take (j + 1)) = wt (l.take j) + (64 + l[j].2.length) := by
  unfold wt
  rw [List.take_succ_eq_append_getElem hj, List.map_append, List.sum_append]
  simp
theorem wt_le (l : List (Int × List UInt8)) (j : Nat) : wt (l.take j) ≤ wt l := by
  have h : wt l = wt (l.take j) + wt (l.drop j) := by
    unfold wt
    rw [← List.sum_append, ← List.map_append, List.take_append_drop]
  omega
theorem RecsF.low {w w' : World} {A : Option Addr} {l : List (Int × List UInt8)} {B : Nat} (h : RecsF w (fun k => k < B) A l) (hb : Below B w w') : RecsF w' (fun k => k < B) A l := by
  intro i hi
  obtain ⟨g, o, C, c, e, hF, h1, h2, h3, h4⟩ := h i hi
  refine ⟨g, o, C, c, e, hF, (World.cell?_of_block (a := ⟨g, o + i * 2, none⟩) (hb.block g hF)).trans h1, (World.cell?_of_block (a := ⟨g, o + i * 2 + 1, none⟩) (hb.block g hF)).trans h2, ⟨h3.len, h3.max, fun j hj => ?_⟩, h4⟩
  obtain ⟨ad, he, hv⟩ := h3.cell j hj
  refine ⟨ad, he, (World.cell?_of_block (hb.block _ ?_)).trans hv⟩
  rw [add_block]
  rcases h4 ad he with h0 | h0
  · omega
  · exact h0
theorem TabAt.low {w w' : World} {B : Nat} (h : TabAt w) (hb : Below B w w') (hB : 0 < B) : TabAt w' := fun i hi => (World.cell?_of_block (hb.block 0 hB)).trans (h i hi)
theorem cell_step {i j : Nat} {w w' : World} {col col' : Nat → Nat} {a : Addr} {v : Value} (k : Step i j col w w' col') (hv : w.cell? a = some v) (h : col a.block ≠ i ∧ col a.block ≠ j) : w'.cell? a = some v :=
  (World.cell?_of_block (k.chg.block a.block (World.block_lt_of_cell? w a hv) (fun hs => by rcases hs with e | e; exact h.1 e; exact h.2 e))).trans hv
/-- what holds between the records that are appended -/
structure Mid (B n : Nat) (w : World) (ga gr gl gm gx : Nat) (box : Array Value) (A1 : Option Addr) (c1 : Nat) (recs : List (Int × List UInt8)) (bd : Nat) (wr : World) (col : Nat → Nat) (d : DS) (s : LS) : Prop where
  S : Sys B n wr col ga gr d (some (gl, gm, s))
  x : wr.heap[gx]? = some (.cells box 58 (0, 0))
  x7 : col gx = 7
  q : RecsAt 50 wr (fun k => w.heap.size ≤ k ∧ col k = 7) (.slice A1 recs.length c1) recs
  b : Below B w wr
  tr : 16 * d.trail.length ≤ bd
section
variable (B n : Nat) (w : World) (col : Nat → Nat) (ga gr : Nat) (d : DS) (gl gm : Nat) (s : LS) (hS : Sys B n w col ga gr d (some (gl, gm, s))) (RA : Option Addr) (rc : Nat) (recs : List (Int × List UInt8)) (bs : Value) (z : Int)
include hS
set_option maxHeartbeats 8000000 in
set_option maxRecDepth 20000 in
theorem one_append (hr : RecsF w (fun k => k < B) RA recs) (hlc : recs.length ≤ rc) (hll : recs.length ≤ 1000000) (hlb : ∀ r ∈ recs, r.2.length ≤ 2000000) (ht : TabAt w) (htb : 0 < B) (hn : n ≤ 600) (htr : 16 * d.trail.length + wt recs ≤ 12000000) :
    Calls Tryd.prog 30 #[.pointer (some ⟨ga, 0, none⟩), .pointer (some ⟨gr, 0, none⟩), .pointer (some ⟨gl, 0, none⟩), .pointer (some ⟨gm, 0, none⟩), .agg #[.int .i64 2, .slice RA recs.length rc, .int .i64 z, bs]] w (OneP B n ga gr w (16 * d.trail.length + wt recs)) := by
  have hB1 : Below w.heap.size w (w.alloc (.cells #[.int .i64 2, .slice RA recs.length rc, .int .i64 z, bs] 58)) := (Below.refl _ _).alloc (Nat.le_refl _) _
  have hx := heap_alloc_new w (.cells #[.int .i64 2, .slice RA recs.length rc, .int .i64 z, bs] 58)
  have hxl : w.heap.size < (w.alloc (.cells #[.int .i64 2, .slice RA recs.length rc, .int .i64 z, bs] 58)).heap.size := by simp
  have hS1 := hS.below (col' := dye w col 7) hB1 (fun _ hk => dye_old hk)
  have h7 : ∀ j, w.heap.size ≤ j → dye w col 7 j = 7 := fun j hj => dye_new hj
  go_enter Tryd.func30, Tryd.ntmps30
  go_upto_region 1 with fail
  have hB0 := hS.hB
  clear hS
  generalize dye w col 7 = col at *
  generalize w.alloc (.cells #[.int .i64 2, .slice RA recs.length rc, .int .i64 z, bs] 58) = W1 at *
  have hgx7 := h7 w.heap.size (Nat.le_refl _)
  have x0 := cell_of_row W1 w.heap.size 0 _ _ _ hx
  have x2 := cell_of_row W1 w.heap.size 2 _ _ _ hx
  have x3 := cell_of_row W1 w.heap.size 3 _ _ _ hx
  have hr1 := hr.below hB1
  have HOf := of_walk W1 RA rc recs (hr1.mono (fun k hk hF => hk)) hlc hll hlb
  clear x2 x3
  have x1 := cell_of_row W1 w.heap.size 1 _ _ _ hx
  go_upto_region 30 with (go_at_call 68; go_must (refine HOf.mono ?_; rintro e w2 ⟨v, rfl, hQ, hB2⟩; have x2 := cell_of_row w2 w.heap.size 0 _ _ _ ((hB2.block _ hxl).trans hx); obtain ⟨A1, c1, hvA, hc1, hc2⟩ := hQ.cap; subst hvA))
  have hwz := hB1.size
  have hM : Mid B n w ga gr gl gm w.heap.size #[.int .i64 2, .slice RA recs.length rc, .int .i64 z, bs] A1 c1 recs (16 * d.trail.length + wt (recs.take 0)) w2 col d s :=
    ⟨hS1.below (col' := col) hB2 (fun _ _ => rfl), (hB2.block _ hxl).trans hx, hgx7, hQ.mono (fun k hk hz => ⟨by omega, h7 k (by omega)⟩), (hB1.mono hB0).trans (hB2.mono hS1.hB), by omega⟩
  clear hS1 hx hxl hgx7 x0 x1 x2 hr1 HOf hB1 hQ hB2 hwz h7
  go_wp2
  go_loopw [23] (fun i wr => ∃ j : Nat, j ≤ recs.length ∧ i = .int .i64 j ∧ ∃ col d' s', Mid B n w ga gr gl gm w.heap.size #[.int .i64 2, .slice RA recs.length rc, .int .i64 z, bs] A1 c1 recs (16 * d.trail.length + wt (recs.take j)) wr col d' s') (fun i _ => recs.length - (intOf i).toNat)
  case atStart => exact ⟨0, by omega, rfl, col, d, s, hM⟩
  case round =>
    clear hM
    obtain ⟨j, hj, rfl, col, d', s', hM⟩ := hrel
    have y1 := cell_of_row wr w.heap.size 1 _ _ _ hM.x
    by_cases hlt : j < recs.length
    · have hltz : (j : Int) < (recs.length : Int) := by omega
      have hS1 := hM.S
      have hG := hS1.G gl gm s' rfl
      have hd1 : Below wr.heap.size wr wr.drew := below_drew (Below.refl _ _)
      have hSd := hS1.below (col' := col) hd1 (fun _ _ => rfl)
      have hQd := hM.q.below hd1
      obtain ⟨g, cap, C, cc, hve, k0, k1, hO, -, -⟩ := hM.q.loads hlt
      cases hve
      have hFd := (hr.low hM.b).below hd1
      have htd := (ht.low hM.b htb).below hd1
      obtain ⟨g', o', C', cc', hRA, hFg, i0, i1, hbO, hFB⟩ := (hr.low hM.b) j hlt
      subst hRA
      have hwt := wt_take recs j hlt
      have hwl := wt_le recs (j + 1)
      have htr' := hM.tr
      have hOd := hO.same (w' := wr.drew) (fun k hk hz => hd1.block k hk)
      have hbOd := hbO.below hd1
      have hz7 : ∀ ad, C = some ad → col ad.block = 7 := fun ad e => by subst e; exact (hO.in_ _ rfl).2
      generalize recs[j] = r at *
      have hsl : secs r.2.length ≤ r.2.length + 2 := by unfold secs; omega
      have h16 : 16 * (secs r.2.length + 1) ≤ 64 + r.2.length := by unfold secs; omega
      obtain ⟨vP, hPM⟩ := hSd.P.L gl gm s' rfl
      have HW := append_walk wr.drew col gl ga n vP d' s' hPM (by omega) r.1 C cc r.2 hG hOd.bys (fun ad e => by have := hz7 ad e; omega) htd (hSd.lo _ htb) (by omega)
      have hrv := appendOf_val n d' s' (r.1, r.2)
      have hrg : GoodS n (appendOf n d' s' (r.1, r.2)).1 (appendOf n d' s' (r.1, r.2)).2.1 := appendOf_good hG
      have hrt : (appendOf n d' s' (r.1, r.2)).1.trail.length ≤ d'.trail.length + secs r.2.length + 1 := appendOf_trail
      have HR : ∀ x col', Step 1 3 col wr.drew x col' → Calls Tryd.prog 70 #[.pointer (some ⟨gm, 0, none⟩), .agg #[.int .i64 r.1, .slice C' r.2.length cc']] x (RActs (.int .i64 (appendOf n d' s' (r.1, r.2)).2.2) col' gm gr n (appendOf n d' s' (r.1, r.2)).1 (appendOf n d' s' (r.1, r.2)).2.1 x) := fun x col' h => by
        obtain ⟨vR, hRM⟩ := hSd.R.L gl gm s' rfl
        refine rappend_walk x col' gm gr n vR d' s' (RM.step hRM h) (by omega) r.1 C' cc' r.2 hG (hbOd.chg' h.chg (fun ad e => ?_)) (fun ad e => ?_) (by omega)
        · rcases hFB ad e with h0 | h0
          · exact .inl h0
          · exact .inr (by have := hSd.lo _ h0; omega)
        · rcases hFB ad e with h0 | h0
          · exact .inl h0
          · exact .inr (by have h1 := h.old _ (Nat.lt_of_lt_of_le h0 hSd.hB); have := hSd.lo _ h0; omega)
      generalize appendOf n d' s' (r.1, r.2) = ro at *
      obtain ⟨d2, s2, e2⟩ := ro
      simp only at HW HR hrv hrg hrt
      have hxd := (hd1.block _ (Array.getElem?_eq_some_iff.1 hM.x).1).trans hM.x
      have hnum : ∀ x, Calls Tryd.prog 10 #[.int .i64 e2] x (Says (.int .i64 e2) x) := fun x => num_walk x e2 (by omega) (by omega)
      have hx7 := hM.x7
      have hlr : g < wr.drew.heap.size := Nat.lt_of_lt_of_le (World.block_lt_of_cell? wr _ k0) hd1.size
      have hlr' : g' < wr.drew.heap.size := Nat.lt_of_lt_of_le hFg hSd.hB
      have hg7 : col g = 7 := (hM.q.in_ g rfl).2
      have hg0 : col g' = 0 := hSd.lo _ hFg
      have d0 := cell_below hd1 k0
      have d1 := cell_below hd1 k1
      have d2' := cell_below hd1 i0
      have d3 := cell_below hd1 i1
      clear hz7 hFB hFd htd hOd hO hbOd hwl hsl
      replace hwt := Go.Lib.hid hwt
      replace h16 := Go.Lib.hid h16
      go_upto_region 33 with fail
      go_region_held_law (fun w' => w'.cell? ⟨w.heap.size, 1, none⟩ = some (.slice (some ⟨g', o', none⟩) recs.length rc) ∧ (w'.cell? ⟨g, j * 2, none⟩ = some (.int .i64 r.1) ∧ w'.cell? ⟨g, j * 2 + 1, none⟩ = some (.slice C r.2.length cc)) ∧ w'.cell? ⟨g', o' + j * 2, none⟩ = some (.int .i64 r.1) ∧ w'.cell? ⟨g', o' + j * 2 + 1, none⟩ = some (.slice C' r.2.length cc')) (first | exact ⟨q1, q2, q3⟩ | go_keep) ((first
        | (go_at_call 70; (with_reducible refine (HR w3 col3 hS3).mono ?_); rintro e w4 ⟨rfl, col4, v4, hR4, hS4⟩; obtain ⟨hx4, hgx4⟩ := block_step hx3 hgx3 hS4 (by omega) (by omega); have q1 := cell_of_row w4 w.heap.size 1 _ _ _ hx4; have q2 := And.intro (cell_step hS4 r0 (by show col3 g ≠ 2 ∧ col3 g ≠ 4; omega)) (cell_step hS4 r1 (by show col3 g ≠ 2 ∧ col3 g ≠ 4; omega)); have q3 := And.intro (cell_step hS4 r2 (by show col3 g' ≠ 2 ∧ col3 g' ≠ 4; omega)) (cell_step hS4 r3 (by show col3 g' ≠ 2 ∧ col3 g' ≠ 4; omega)))
        | (go_at_call 10; (with_reducible refine (hnum _).mono ?_); rintro e w9 ⟨rfl, rfl⟩)
        | (go_at_call 21; (with_reducible refine HW.mono ?_); rintro e w3 ⟨rfl, col3, v3, hP3, hS3⟩; obtain ⟨hx3, hgx3⟩ := block_step hxd hx7 hS3 (by omega) (by omega); have q1 := cell_of_row w3 w.heap.size 1 _ _ _ hx3; have n2 : col3 g = 7 := (hS3.old g hlr).trans hg7; have n3 : col3 g' = 0 := (hS3.old g' hlr').trans hg0; have r0 := cell_step hS3 d0 (by show col g ≠ 1 ∧ col g ≠ 3; omega); have r1 := cell_step hS3 d1 (by show col g ≠ 1 ∧ col g ≠ 3; omega); have r2 := cell_step hS3 d2' (by show col g' ≠ 1 ∧ col g' ≠ 3; omega); have r3 := cell_step hS3 d3 (by show col g' ≠ 1 ∧ col g' ≠ 3; omega); have q2 := And.intro r0 r1; have q3 := And.intro r2 r3)))
      all_goals
        go_wp2
        go_roundw
        case rel =>
          have hz1 := hd1.size
          have hz3 := hS3.chg.size
          have hz4 := hS4.chg.size
          have hlow3 : ∀ k, k < B → col3 k = 0 := fun k hk => (hS3.old k (Nat.lt_of_lt_of_le hk hSd.hB)).trans (hSd.lo k hk)
          have hBB := hSd.hB
          refine ⟨j + 1, hlt, by go_num, col4, d2, s2, ⟨⟨?_, ?_, fun gl' gm' s' e => (by cases e; exact hrg), fun k hk => (hS4.old k (by omega)).trans (hlow3 k hk), by omega⟩, hx4, hgx4, (hQd.step hS3 (by omega) (by omega)).step hS4 (by omega) (by omega), ?_, by rw [hwt.out]; have := h16.out; omega⟩⟩
          · have k1 : PS w3 col3 ga n d2 (some (gl, gm, s2)) := ⟨hP3.D, fun gl' gm' s' e => by cases e; exact ⟨v3, hP3⟩⟩
            exact k1.step hS4
          · exact ⟨hR4.D, fun gl' gm' s' e => by cases e; exact ⟨v4, hR4⟩⟩
          · exact ((hM.b.trans (hd1.mono hS1.hB)).trans (hS3.below hSd.hB hSd.lo (by omega) (by omega))).trans (hS4.below (by omega) hlow3 (by omega) (by omega))
        case measure => simp [intOf]; omega
    · have hjl : j = recs.length := by omega
      subst hjl
      have hS1 := hM.S
      have hSM := same_rd wr A1 RA c1 rc recs hM.q.r (hr.low hM.b).r (by omega)
      have htr' := hM.tr
      rw [List.take_length] at htr'
      go_upto_region 36 with (go_at_call 52; go_must (refine hSM.mono ?_; rintro e w5 ⟨rfl, hB5⟩))
      have hQ5 := hM.q.below hB5
      obtain ⟨A9, c9, hv9, hU⟩ := hQ5.u
      cases hv9
      have HSP := spoil_walk w5 _ A1 recs.length c1 hU (by omega)
      go_wp2_with (go_at_call 55; go_must (refine HSP.mono ?_; rintro e w6 ⟨rfl, hC6⟩))
      go_ret3
      have hS5 := hS1.below (col' := col) hB5 (fun _ _ => rfl)
      have hz6 := hC6.size
      have h5B := hS5.hB
      exact ⟨some (gl, gm, s'), d', col, rfl, ⟨hS5.P.frame hC6 (fun k hk => by omega) (fun _ _ => rfl), hS5.R.frame hC6 (fun k hk => by omega) (fun _ _ => rfl), hS5.G, hS5.lo, by omega⟩,
        (hM.b.trans (hB5.mono hS1.hB)).trans (hC6.below hS5.hB (fun k hk hs => by omega)), htr'⟩
end
end Go.Proofs.YtggogenhakdhiaaDoor
end
section
set_option linter.unusedVariables false
set_option linter.unusedSimpArgs false
attribute [local go_sem ↓] Go.wp_at_zero Go.wp_at_succ
namespace Go.Proofs.YtggogenhakdhiaaDoor
open Go.RowKit

theorem OneP.mono {B n ga gr bd bd' : Nat} {w : World} {e : Ending} {w' : World} (h : OneP B n ga gr w bd e w') (hb : bd ≤ bd') : OneP B n ga gr w bd' e w' := by
  obtain ⟨lg, d, col, h1, h2, h3, h4⟩ := h
  exact ⟨lg, d, col, h1, h2, h3, Nat.le_trans h4 hb⟩
theorem one_any (B n : Nat) (w : World) (col : Nat → Nat) (ga gr : Nat) (d : DS) (lg : Lg) (hS : Sys B n w col ga gr d lg) (a : ActV) (RA : Option Addr) (rc : Nat) (BA : Option Addr) (bc : Nat)
    (hr : RecsF w (fun k => k < B) RA a.recs) (hlc : a.recs.length ≤ rc) (hll : a.recs.length ≤ 1000000) (hlb : ∀ r ∈ a.recs, r.2.length ≤ 2000000) (hb : Bys w BA a.b.length a.b) (hz : a.n ≤ 9223372036854775807)
    (ht : TabAt w) (htb : 0 < B) (hn : n ≤ 600) (htr : 16 * d.trail.length + wt a.recs ≤ 12000000) :
    Calls Tryd.prog 30 #[.pointer (some ⟨ga, 0, none⟩), .pointer (some ⟨gr, 0, none⟩), pv lg, rv lg, .agg #[.int .i64 a.kind, .slice RA a.recs.length rc, .int .i64 a.n, .slice BA a.b.length bc]] w (OneP B n ga gr w (16 * d.trail.length + 6000 + wt a.recs)) := by
  obtain ⟨k, recs, z, b⟩ := a
  simp only at hr hlc hll hlb hb hz htr ⊢
  by_cases h0 : k = 0
  · subst h0
    exact (one_format B n w col ga gr d lg hS _ _ z ht htb (by omega)).mono (fun e w' h => h.mono (by omega))
  by_cases h1 : k = 1
  · subst h1
    exact (one_open B n w col ga gr d lg hS _ _ z ht).mono (fun e w' h => h.mono (by omega))
  by_cases h4 : k = 4
  · subst h4
    exact (one_arm B n w col ga gr d lg hS _ _ z hz).mono (fun e w' h => h.mono (by omega))
  by_cases h5 : k = 5
  · subst h5
    exact (one_mend B n w col ga gr d lg hS _ _ z).mono (fun e w' h => h.mono (by omega))
  by_cases h6 : k = 6
  · subst h6
    exact (one_turn B n w col ga gr d lg hS _ z BA bc b hb (by omega)).mono (fun e w' h => h.mono (by omega))
  rcases lg with _ | ⟨gl, gm, s⟩
  · exact (one_other B n w col ga gr d none hS _ _ z k ⟨h0, h1, h4, h5, h6⟩ (.inl rfl)).mono (fun e w' h => h.mono (by omega))
  by_cases h2 : k = 2
  · subst h2
    exact (one_append B n w col ga gr d gl gm s hS RA rc recs _ z hr hlc hll hlb ht htb hn htr).mono (fun e w' h => h.mono (by omega))
  by_cases h3 : k = 3
  · subst h3
    exact (one_rewrite B n w col ga gr d gl gm s hS RA rc recs _ z hr hlc hll hlb ht htb hn (by omega)).mono (fun e w' h => h.mono (by omega))
  exact (one_other B n w col ga gr d (some (gl, gm, s)) hS _ _ z k ⟨h0, h1, h4, h5, h6⟩ (.inr ⟨h2, h3⟩)).mono (fun e w' h => h.mono (by omega))
/-- acts in memory: four cells each -/
def ActsAt (w : World) (B : Nat) (A : Option Addr) (l : List ActV) : Prop :=
  ∀ i (hi : i < l.length), ∃ g o RA rc BA bc, A = some ⟨g, o, none⟩ ∧ g < B ∧ w.cell? ⟨g, o + i * 4, none⟩ = some (.int .i64 (l[i]).kind) ∧ w.cell? ⟨g, o + i * 4 + 1, none⟩ = some (.slice RA (l[i]).recs.length rc) ∧ w.cell? ⟨g, o + i * 4 + 2, none⟩ = some (.int .i64 (l[i]).n)
    ∧ w.cell? ⟨g, o + i * 4 + 3, none⟩ = some (.slice BA (l[i]).b.length bc) ∧ RecsF w (fun k => k < B) RA (l[i]).recs ∧ (l[i]).recs.length ≤ rc ∧ Bys w BA (l[i]).b.length (l[i]).b
/-- what all acts weigh -/
def wts (l : List ActV) : Nat := (l.map fun a => wt a.recs).sum
theorem wts_take (l : List ActV) (j : Nat) (hj : j < l.length) : wts (l.take (j + 1)) = wts (l.take j) + wt l[j].recs := by
  unfold wts
  rw [List.take_succ_eq_append_getElem hj, List.map_append, List.sum_append]
  simp
theorem wts_le (l : List ActV) (j : Nat) : wts (l.take j) ≤ wts l := by
  have h : wts l = wts (l.take j) + wts (l.drop j) := by
    unfold wts
    rw [← List.sum_append, ← List.map_append, List.take_append_drop]
  omega
set_option maxHeartbeats 4000000 in
set_option maxRecDepth 20000 in
theorem light_walk (w : World) (B : Nat) (A : Option Addr) (c : Nat) (l : List ActV) (h : ActsAt w B A l) (hlc : l.length ≤ c) (hll : l.length ≤ 1000000000) (hw : wts l ≤ 1000000000000) :
    Calls Tryd.prog 29 #[.slice A l.length c] w (Says (.bool (decide (l.length ≤ 100 ∧ wts l < 1048576))) w) := by
  go_enter Tryd.func29, Tryd.ntmps29
  go_wp2
  go_loopw [3, 4] (fun u i wr => ∃ j : Nat, j ≤ l.length ∧ i = .int .i64 j ∧ u = .int .i64 (wts (l.take j) : Nat) ∧ w = wr) (fun _ i _ => l.length - (intOf i).toNat)
  case atStart => exact ⟨0, by omega, rfl, by simp [wts], rfl⟩
  case round =>
    obtain ⟨j, hj, rfl, rfl, rfl⟩ := hrel
    have hwl := wts_le l j
    by_cases hlt : j < l.length
    · have hltz : (j : Int) < (l.length : Int) := by omega
      by_cases hbig : wts (l.take j) < 1048576
      · have hbz : (wts (l.take j) : Int) < 1048576 := by omega
        obtain ⟨g, o, RA, rc, BA, bc, hA, hgB, y0, y1, y2, y3, hR, hrc, hB⟩ := h j hlt
        subst hA
        have hwt := wts_take l j hlt
        have hwl1 := wts_le l (j + 1)
        rw [hwt] at hwl1
        generalize l[j] = a at *
        obtain ⟨ak, recs, az, ab⟩ := a
        simp only at y0 y1 y2 y3 hR hrc hB hwt
        generalize wts (l.take j) = W0 at *
        replace hwt := Go.Lib.hid hwt
        have hrl : recs.length ≤ wt recs := by
          have : ∀ l' : List (Int × List UInt8), l'.length ≤ wt l' := by
            intro l'
            induction l' with
            | nil => exact Nat.zero_le _
            | cons x l' ih => unfold wt at *; rw [List.map_cons, List.sum_cons, List.length_cons]; omega
          exact this recs
        go_wp2
        go_loopw [3, 5] (fun u i wr => ∃ k : Nat, k ≤ recs.length ∧ i = .int .i64 k ∧ u = .int .i64 (W0 + wt (recs.take k) : Nat) ∧ w = wr) (fun _ i _ => recs.length - (intOf i).toNat)
        case atStart => exact ⟨0, by omega, rfl, by simp [wt], rfl⟩
        case round =>
          obtain ⟨k, hk, rfl, rfl, rfl⟩ := hrel
          by_cases hkl : k < recs.length
          · have hklz : (k : Int) < (recs.length : Int) := by omega
            obtain ⟨g', o', C, cc, hRA, hgB', z0, z1, hC, -⟩ := hR k hkl
            subst hRA
            have hwk := wt_take recs k hkl
            have hwk1 := wt_le recs (k + 1)
            generalize recs[k] = r at *
            generalize wt (recs.take k) = V0 at *
            have hvb : W0 + V0 + 64 + r.2.length ≤ 1000000000000 := by omega
            replace hwk := Go.Lib.hid hwk
            go_wp2
            go_roundw
            case rel => exact ⟨k + 1, hkl, by go_num, by rw [hwk.out]; congr 1; omega, trivial⟩
            case measure => simp [intOf]; omega
          · have hke : k = recs.length := by omega
            go_wp2
            go_roundw
            case rel => exact ⟨j + 1, hlt, by go_num, by rw [hwt.out, hke, List.take_length], trivial⟩
            case measure => simp [intOf]; omega
      · have hbz : ¬ (wts (l.take j) : Int) < 1048576 := by omega
        have hwb : ¬ wts l < 1048576 := by omega
        have hdf : decide (l.length ≤ 100 ∧ wts l < 1048576) = false := decide_eq_false (fun h => hwb h.2)
        generalize wts (l.take j) = W0 at *
        by_cases h100 : l.length ≤ 100
        · have h100z : (l.length : Int) ≤ 100 := by omega
          go_wp2
          go_ret
          exact ⟨by first | rfl | (rw [hdf]; rfl), rfl⟩
        · have h100z : ¬ (l.length : Int) ≤ 100 := by omega
          go_wp2
          go_ret
          exact ⟨by first | rfl | (rw [hdf]; rfl), rfl⟩
    · have hje : j = l.length := by omega
      subst hje
      rw [List.take_length]
      by_cases h100 : l.length ≤ 100
      · have h100z : (l.length : Int) ≤ 100 := by omega
        by_cases hbig : wts l < 1048576
        · have hbz : (wts l : Int) < 1048576 := by omega
          have hdf : decide (l.length ≤ 100 ∧ wts l < 1048576) = true := decide_eq_true ⟨h100, hbig⟩
          go_wp2
          go_ret
          exact ⟨by first | rfl | (rw [hdf]; rfl), rfl⟩
        · have hbz : ¬ (wts l : Int) < 1048576 := by omega
          have hdf : decide (l.length ≤ 100 ∧ wts l < 1048576) = false := decide_eq_false (fun h => hbig h.2)
          go_wp2
          go_ret
          exact ⟨by first | rfl | (rw [hdf]; rfl), rfl⟩
      · have h100z : ¬ (l.length : Int) ≤ 100 := by omega
        have hdf : decide (l.length ≤ 100 ∧ wts l < 1048576) = false := decide_eq_false (fun h => h100 h.1)
        go_wp2
        go_ret
        exact ⟨by first | rfl | (rw [hdf]; rfl), rfl⟩
end Go.Proofs.YtggogenhakdhiaaDoor
end
section
set_option maxRecDepth 20000
set_option linter.unusedVariables false
set_option linter.unusedSimpArgs false
namespace Go.Proofs.YtggogenhakdhiaaDoor
open Go.ChangeShapes Go.WideShapes Go.ChangeAt Go.RowKit Go.Deep

section
variable {H : Type} {enc : TypeId × Value → H} {W : World} {base : Nat} {spare : Nat → Bool} {held : Bool}
theorem bulk_mem {d : DataW H} : ∀ {l : List (DataW H)}, d ∈ l → Rows.uptoBulk d ≤ Rows.uptoBulkAll l
  | x :: l, h => by
    simp only [Rows.uptoBulkAll]
    rcases List.mem_cons.1 h with rfl | h
    · omega
    · have := bulk_mem h; omega
theorem bulk_pos (d : DataW H) : 1 ≤ Rows.uptoBulk d := by
  cases d with
  | lit l => cases l <;> simp [Rows.uptoBulk]
  | nil => simp [Rows.uptoBulk]
  | ptr d => simp [Rows.uptoBulk]
  | slice elems spare => simp [Rows.uptoBulk]
  | agg parts => simp [Rows.uptoBulk]
  | iface t d => simp [Rows.uptoBulk]
  | map entries => simp [Rows.uptoBulk]
  | held h => simp [Rows.uptoBulk]
theorem bulk_len (l : List (DataW H)) : l.length ≤ Rows.uptoBulkAll l := by
  induction l with
  | nil => simp [Rows.uptoBulkAll]
  | cons x r ih => have := bulk_pos x; simp only [Rows.uptoBulkAll, List.length_cons]; omega
theorem fields_in {P : Program} {t : TypeId} {fs : Array Field} {fuel : Nat} {cs : List Value} {x : DataW H × List MemPlace} (ht : P.underlying t = some (.struct fs)) (hone : oneCellFields P fs = true)
    (hC : P.cellsOf t = fs.size) (h : DataW.trod enc P W base spare held fuel t cs = some x) :
    ∃ xs : List (DataW H × List MemPlace), x.1 = .agg (xs.map (·.1)) ∧ cs.length = fs.size ∧ ∀ (j : Nat) (f : Field), fs[j]? = some f → ∃ v n y, cs[j]? = some v ∧ xs[j]? = some y ∧ DataW.trod enc P W base spare held n f.type [v] = some y := by
  obtain ⟨xs, n, _, hx, hlen, hxl, hf⟩ := DataW.trod_struct ht h
  refine ⟨xs, by rw [hx], by omega, fun j f hj => ?_⟩
  have hlt : j < fs.size := (Array.getElem?_eq_some_iff.1 hj).1
  have hjc : j < cs.length := by omega
  obtain ⟨e1, e2⟩ := hone_of hone j f hj
  have h1 := hf j f hj
  rw [e1, e2, List.drop_eq_getElem_cons hjc, List.take_succ_cons, List.take_zero, List.getElem?_eq_getElem (show j < xs.length by omega)] at h1
  exact ⟨cs[j], n, xs[j], List.getElem?_eq_getElem hjc, List.getElem?_eq_getElem (by omega), h1⟩
/-- bytes read anywhere -/
theorem bys_in {fuel : Nat} {cs : List Value} {x : DataW H × List MemPlace} (h : DataW.trod enc Tryd.prog W base spare held fuel 22 cs = some x) :
    ∃ A c l, cs = [.slice A l.length c] ∧ Bys W A l.length l ∧ l.length ≤ c ∧ l.length + 1 ≤ Rows.uptoBulk x.1 := by
  rcases open_ints Tryd.underlying22 Tryd.underlying5 cellsU8 h with ⟨hc, hx⟩ | ⟨a, n, c, zs, hc, _, hl, hm, hlen, hx, hcell, hwf⟩
  · exact ⟨none, 0, [], hc, Bys.nil W, Nat.le_refl _, by rw [hx]; simp [Rows.uptoBulk]⟩
  · have hlz : n ≤ zs.length := by split at hlen <;> omega
    have hm2 : n ≤ 9223372036854775807 := by simp only [maxLen] at hm; omega
    have hln : ((zs.take n).map (fun z => UInt8.ofNat z.toNat)).length = n := by simp; omega
    refine ⟨some a, c, (zs.take n).map (fun z => UInt8.ofNat z.toNat), by rw [hln]; exact hc, ?_, by rw [hln]; exact hl, ?_⟩
    · rw [hln]
      refine ⟨hln, hm2, fun i hi => ⟨a, rfl, ?_⟩⟩
      have hz' : zs.getD i 0 ∈ zs := by
        rw [List.getD_eq_getElem?_getD, List.getElem?_eq_getElem (by omega)]
        exact List.getElem_mem (by omega)
      have hw := hwf _ hz'
      have hw2 : 0 ≤ zs.getD i 0 ∧ zs.getD i 0 < 256 := by
        generalize zs.getD i 0 = z at hw
        have : 0 ≤ z ∧ z ≤ 255 := by simpa [Lit.wf, IntKind.min, IntKind.max, IntKind.signed, IntKind.bits] using hw
        omega
      rw [hcell i (by omega)]
      have he : (((zs.take n).map (fun z => UInt8.ofNat z.toNat)).getD i 0).toNat = (zs.getD i 0).toNat := by
        have h1 : ((zs.take n).map (fun z => UInt8.ofNat z.toNat)).getD i 0 = UInt8.ofNat (zs.getD i 0).toNat := by
          rw [List.getD_eq_getElem?_getD, List.getElem?_map, List.getElem?_take, if_pos hi, List.getD_eq_getElem?_getD, List.getElem?_eq_getElem (show i < zs.length by omega)]
          rfl
        rw [h1, UInt8.toNat_ofNat']
        omega
      rw [he]
      congr 2
      omega
    · rw [hln, hx]
      have := bulk_len (lits (H := H) .u8 (zs.take n))
      simp only [Rows.uptoBulk]
      simp only [lits, List.length_map, List.length_take] at this
      simp only [lits]
      omega
theorem plain_add {G O : Nat} (k : Nat) : (⟨G, O, none⟩ : Addr).add k = ⟨G, O + k, none⟩ := by
  unfold Addr.add
  split
  · next h => subst h; rfl
  · rfl
theorem spot_none {a : Addr} {v : Value} (h : W.cell? a = some v) : a = ⟨a.block, a.off, none⟩ := by
  obtain ⟨b, o, s⟩ := a
  unfold World.cell? at h
  cases s with
  | none => rfl
  | some s => split at h <;> simp at h
theorem pick {α : Type} (Q : Nat → α → Prop) : ∀ n, (∀ i, i < n → ∃ a, Q i a) → ∃ xs : List α, xs.length = n ∧ ∀ j (hj : j < xs.length), Q j xs[j]
  | 0, _ => ⟨[], rfl, fun j h => absurd h (Nat.not_lt_zero _)⟩
  | n + 1, h => by
    obtain ⟨xs, hl, hx⟩ := pick Q n (fun i hi => h i (by omega))
    obtain ⟨a, ha⟩ := h n (by omega)
    refine ⟨xs ++ [a], by simp [hl], fun j hj => ?_⟩
    rcases Nat.lt_or_ge j n with hlt | hge
    · rw [List.getElem_append_left (by omega)]; exact hx j (by omega)
    · have hjn : j = n := by simp at hj; omega
      subst hjn
      rw [List.getElem_append_right (by omega)]
      simp only [hl, Nat.sub_self, List.getElem_cons_zero]
      exact ha
/-- a slice opened: of each element what its reading tells, and what it weighs -/
theorem row_in {α : Type} (K : α → List Value → Prop) (wgt : α → Nat) (sz : Nat) {t e : TypeId} (ht : Tryd.prog.underlying t = some (.slice e)) (hsz : Tryd.prog.cellsOf e = sz) (hsp : 0 < sz)
    (hK : ∀ n cs y, DataW.trod enc Tryd.prog W base spare held n e cs = some y → ∃ a, K a cs ∧ wgt a ≤ 64 * Rows.uptoBulk y.1)
    {fuel : Nat} {cs : List Value} {x : DataW H × List MemPlace} (h : DataW.trod enc Tryd.prog W base spare held fuel t cs = some x) :
    ∃ (A : Option Addr) (c : Nat) (xs : List α), cs = [.slice A xs.length c] ∧ xs.length ≤ c ∧ xs.length ≤ 9223372036854775807 ∧ (∀ i (hi : i < xs.length), ∃ g o cs', A = some ⟨g, o, none⟩ ∧ g < W.heap.size ∧ K xs[i] cs' ∧ cs'.length = sz ∧ ∀ j u, cs'[j]? = some u → W.cell? ⟨g, o + i * sz + j, none⟩ = some u)
      ∧ (xs.map wgt).sum ≤ 64 * Rows.uptoBulk x.1 ∧ xs.length ≤ Rows.uptoBulk x.1 := by
  rcases open_slice ht h with ⟨hc, hx⟩ | ⟨ad, n, c, m, k, Dt, Pl, hc, _, hl, hm0, hm, hx, hi⟩
  · exact ⟨none, 0, [], hc, Nat.le_refl _, by simp, fun i hi => absurd hi (Nat.not_lt_zero _), by simp, by simp⟩
  · have hnm : n ≤ m := by split at hm <;> omega
    have hd : x.1 = .slice ((List.range n).map Dt) ((List.range (m - n)).map fun j => Dt (n + j)) := by rw [hx]
    have hall : ∀ i, i < n → ∃ a : α, (∃ cs', W.cells? base (ad.add (i * sz)) sz = some cs' ∧ K a cs') ∧ wgt a ≤ 64 * Rows.uptoBulk (Dt i) := by
      intro i hin
      obtain ⟨cs', hcs, htr⟩ := hi i (by omega)
      obtain ⟨a, ha, hp⟩ := hK k cs' _ htr
      rw [hsz] at hcs
      exact ⟨a, ⟨cs', hcs, ha⟩, hp⟩
    obtain ⟨xs, hxl, hx2⟩ := pick _ n hall
    subst hxl
    refine ⟨some ad, c, xs, hc, hl, by simp only [maxLen] at hm0; omega, fun i hi => ?_, ?_, ?_⟩
    · obtain ⟨⟨cs', hcs, hKa⟩, _⟩ := hx2 i hi
      obtain ⟨_, hcl, hat⟩ := World.cells?_some hcs
      obtain ⟨⟨cs0, hcs0, _⟩, _⟩ := hx2 0 (by omega)
      obtain ⟨_, hcl0, hat0⟩ := World.cells?_some hcs0
      have h0 := hat0 0 hsp
      rw [List.getElem?_eq_getElem (by omega)] at h0
      have ha : ad = ⟨ad.block, ad.off, none⟩ := spot_none (a := ad) (by simpa [Addr.add] using h0)
      have hlt : ad.block < W.heap.size := by
        have := World.block_lt_of_cell? W _ h0
        rwa [add_block, add_block] at this
      refine ⟨ad.block, ad.off, cs', congrArg some ha, hlt, hKa, hcl, fun j u hu => ?_⟩
      have hj : j < cs'.length := (List.getElem?_eq_some_iff.1 hu).1
      have := hat j (by omega)
      rw [hu, ha, plain_add, plain_add] at this
      exact this
    · rw [hd]
      have hb : ∀ (ys : List α) (off : Nat), (∀ j (hj : j < ys.length), wgt ys[j] ≤ 64 * Rows.uptoBulk (Dt (off + j))) → (ys.map wgt).sum ≤ 64 * Rows.uptoBulkAll ((List.range' off ys.length).map Dt) := by
        intro ys
        induction ys with
        | nil => intro off _; simp
        | cons y ys ih =>
          intro off hy
          have h1 := hy 0 (by simp)
          have h2 := ih (off + 1) (fun j hj => by have := hy (j + 1) (by simp; omega); rw [show off + 1 + j = off + (j + 1) by omega]; simpa using this)
          simp only [List.map_cons, List.sum_cons, List.length_cons, List.range'_succ, Rows.uptoBulkAll]
          simp only [List.getElem_cons_zero, Nat.add_zero] at h1
          omega
      have := hb xs 0 (fun j hj => by rw [Nat.zero_add]; exact (hx2 j hj).2)
      rw [← List.range_eq_range'] at this
      simp only [Rows.uptoBulk]
      omega
    · rw [hd]
      have := bulk_len ((List.range xs.length).map Dt)
      simp only [List.length_map, List.length_range] at this
      simp only [Rows.uptoBulk]
      omega
/-- a record that is read -/
def RecK (W : World) (r : Int × List UInt8) (cs : List Value) : Prop := ∃ B c, cs = [.int .i64 r.1, .slice B r.2.length c] ∧ Bys W B r.2.length r.2 ∧ r.2.length ≤ c
theorem rec_in {fuel : Nat} {cs : List Value} {y : DataW H × List MemPlace} (h : DataW.trod enc Tryd.prog W base spare held fuel 102 cs = some y) : ∃ r, RecK W r cs ∧ 64 + r.2.length ≤ 64 * Rows.uptoBulk y.1 := by
  obtain ⟨xs, hD, hcl, hf⟩ := fields_in Tryd.underlying102 (by kernel_rfl) (by kernel_rfl) h
  obtain ⟨v0, n0, y0, e0, g0, t0⟩ := hf 0 _ rfl
  obtain ⟨v1, n1, y1, e1, g1, t1⟩ := hf 1 _ rfl
  obtain ⟨z0, hz0, _, _⟩ := DataW.trod_int Tryd.underlying3 t0
  obtain ⟨B, c, l, hz1, hb, hlc, hbk⟩ := bys_in t1
  cases hz0
  cases hz1
  have hcs : cs = [.int .i64 z0, .slice B l.length c] := by
    match cs, hcl with
    | [u0, u1], _ =>
      simp at e0 e1
      rw [e0, e1]
  refine ⟨(z0, l), ⟨B, c, hcs, hb, hlc⟩, ?_⟩
  have hm : y1.1 ∈ xs.map (·.1) := List.mem_map.2 ⟨y1, List.mem_of_getElem? g1, rfl⟩
  have := bulk_mem hm
  rw [hD]
  simp only [Rows.uptoBulk]
  omega
theorem recs_in {fuel : Nat} {cs : List Value} {x : DataW H × List MemPlace} (h : DataW.trod enc Tryd.prog W base spare held fuel 42 cs = some x) :
    ∃ A c l, cs = [.slice A l.length c] ∧ l.length ≤ c ∧ l.length ≤ 9223372036854775807 ∧ RecsF W (fun k => k < W.heap.size) A l ∧ wt l ≤ 64 * Rows.uptoBulk x.1 := by
  obtain ⟨A, c, l, hc, hlc, hm, hcell, hw, _⟩ := row_in (RecK W) (fun r => 64 + r.2.length) 2 Tryd.underlying42 (by kernel_rfl) (by omega) (fun n cs y h => rec_in h) h
  refine ⟨A, c, l, hc, hlc, hm, fun i hi => ?_, hw⟩
  obtain ⟨g, o, cs', hA, hg, ⟨B, cb, hcs, hb, _⟩, _, hat⟩ := hcell i hi
  subst hcs
  refine ⟨g, o, B, cb, hA, hg, by simpa using hat 0 _ rfl, hat 1 _ rfl, hb, fun ad he => ?_⟩
  rcases Nat.eq_zero_or_pos (l[i]).2.length with h0 | h0
  · exact .inl h0
  · obtain ⟨ad', e', hv⟩ := hb.cell 0 h0
    rw [he] at e'
    cases e'
    have := World.block_lt_of_cell? W _ hv
    rw [add_block] at this
    exact .inr this
/-- an act that is read -/
def ActK (W : World) (a : ActV) (cs : List Value) : Prop := ∃ RA rc BA bc, cs = [.int .i64 a.kind, .slice RA a.recs.length rc, .int .i64 a.n, .slice BA a.b.length bc] ∧ RecsF W (fun k => k < W.heap.size) RA a.recs ∧ a.recs.length ≤ rc ∧ a.recs.length ≤ 9223372036854775807 ∧ Bys W BA a.b.length a.b ∧ a.n ≤ 9223372036854775807 ∧ -9223372036854775808 ≤ a.n
theorem act_in {fuel : Nat} {cs : List Value} {y : DataW H × List MemPlace} (h : DataW.trod enc Tryd.prog W base spare held fuel 58 cs = some y) : ∃ a, ActK W a cs ∧ wt a.recs ≤ 64 * Rows.uptoBulk y.1 := by
  obtain ⟨xs, hD, hcl, hf⟩ := fields_in Tryd.underlying58 (by kernel_rfl) (by kernel_rfl) h
  obtain ⟨v0, n0, y0, e0, g0, t0⟩ := hf 0 _ rfl
  obtain ⟨v1, n1, y1, e1, g1, t1⟩ := hf 1 _ rfl
  obtain ⟨v2, n2, y2, e2, g2, t2⟩ := hf 2 _ rfl
  obtain ⟨v3, n3, y3, e3, g3, t3⟩ := hf 3 _ rfl
  obtain ⟨z0, hz0, _, _⟩ := DataW.trod_int Tryd.underlying3 t0
  obtain ⟨RA, rc, recs, hz1, hrc, hrm, hR, hbk⟩ := recs_in t1
  obtain ⟨z2, hz2, _, hw2⟩ := DataW.trod_int Tryd.underlying3 t2
  obtain ⟨BA, bc, b, hz3, hb, hlc, _⟩ := bys_in t3
  cases hz0
  cases hz1
  cases hz2
  cases hz3
  have hcs : cs = [.int .i64 z0, .slice RA recs.length rc, .int .i64 z2, .slice BA b.length bc] := by
    match cs, hcl with
    | [u0, u1, u2, u3], _ =>
      simp at e0 e1 e2 e3
      rw [e0, e1, e2, e3]
  have hw3 : -9223372036854775808 ≤ z2 ∧ z2 ≤ 9223372036854775807 := by simpa [Lit.wf, IntKind.min, IntKind.max, IntKind.signed, IntKind.bits] using hw2
  refine ⟨⟨z0, recs, z2, b⟩, ⟨RA, rc, BA, bc, hcs, hR, hrc, hrm, hb, hw3.2, hw3.1⟩, ?_⟩
  have hm : y1.1 ∈ xs.map (·.1) := List.mem_map.2 ⟨y1, List.mem_of_getElem? g1, rfl⟩
  have := bulk_mem hm
  rw [hD]
  simp only [Rows.uptoBulk]
  show wt recs ≤ _
  omega
theorem acts_in {v : Value} {d : DataW H} {ps : List MemPlace} (hval : Value.okWide Tryd.prog W .any base 56 v) (h : DataW.Trod enc Tryd.prog W 0 spare held 56 v d ps) :
    ∃ A c l, v = .slice A l.length c ∧ l.length ≤ c ∧ l.length ≤ 9223372036854775807 ∧ ActsAt W W.heap.size A l ∧ (∀ a ∈ l, a.n ≤ 9223372036854775807 ∧ -9223372036854775808 ≤ a.n ∧ a.recs.length ≤ 9223372036854775807) ∧ wts l ≤ 64 * Rows.uptoBulk d ∧ l.length ≤ Rows.uptoBulk d := by
  obtain ⟨fuel, hf⟩ := h
  obtain ⟨A0, n0, c0, rfl⟩ := okWide_slice Tryd.underlying56 hval
  obtain ⟨A, c, l, hc, hlc, hm, hcell, hw, hln⟩ := row_in (ActK W) (fun a => wt a.recs) 4 Tryd.underlying56 (by kernel_rfl) (by omega) (fun n cs y h => act_in h) hf
  refine ⟨A, c, l, by cases hc; rfl, hlc, hm, fun i hi => ?_, fun a ha => ?_, hw, hln⟩
  · obtain ⟨g, o, cs', hA, hg, ⟨RA, rc, BA, bc, hcs, hR, hrc, hrm, hb, hn1, hn2⟩, _, hat⟩ := hcell i hi
    subst hcs
    exact ⟨g, o, RA, rc, BA, bc, hA, hg, by simpa using hat 0 _ rfl, hat 1 _ rfl, hat 2 _ rfl, hat 3 _ rfl, hR, hrc, hb⟩
  · obtain ⟨i, hi, rfl⟩ := List.getElem_of_mem ha
    obtain ⟨g, o, cs', hA, hg, ⟨RA, rc, BA, bc, hcs, hR, hrc, hrm, hb, hn1, hn2⟩, _, hat⟩ := hcell i hi
    exact ⟨hn1, hn2, hrm⟩
end
end Go.Proofs.YtggogenhakdhiaaDoor
end
