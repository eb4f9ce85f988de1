/- Rewrite, the program's way, walked. (ahead of it: Append, the document's way, walked: where the record is laid.) -/
import Derived.Test.YtggogenhakdhiaaDoorPkD
import Derived.Test.YtggogenhakdhiaaDoorWLast
section
set_option linter.unusedVariables false
set_option linter.unusedSimpArgs false
attribute [local go_sem ↓] Go.wp_at_zero Go.wp_at_succ
namespace Go.Proofs.YtggogenhakdhiaaDoor
open Go.RowKit

theorem below_grown {w w' : World} {r : Option Nat} {B : Nat} (h : w.grownBy w' r) (hr : ∀ j, r = some j → B ≤ j) (hB : B ≤ w.heap.size := by omega) : Below B w w' :=
  ⟨h.os, h.tape, h.output, h.size, fun k hk => h.block k (by omega) (fun e => by have := hr k e.symm; omega)⟩
section
variable (w : World) (col : Nat → Nat) (gm gr n : Nat) (v : Value) (d : DS) (s : LS) (k : Int) (A : Option Addr) (c : Nat) (l : List UInt8)
set_option maxHeartbeats 4000000 in
set_option maxRecDepth 20000 in
theorem rappend_lay (h : RM w col gm gr n v d s) (hd : (s.down || d.down) = false) (hw : wrongOf k l.length = 0) (hu : usedOf s.recs ≤ halfOf n) (hl : l.length ≤ 262144) (hf : ¬ halfOf n - usedOf s.recs < secs l.length)
    (hb : Bys w A l.length l) (hA : ∀ ad, A = some ad → l.length = 0 ∨ (col ad.block ≠ 2 ∧ col ad.block ≠ 4)) (hg : s.gen < 9223372036854775807) (hrl : s.recs.length ≤ 1000000) (htr : d.trail.length + secs l.length + 1 ≤ 1000000) :
    Calls Tryd.prog 70 #[.pointer (some ⟨gm, 0, none⟩), .agg #[.int .i64 k, .slice A l.length c]] w (RActs (.int .i64 (appendOf n d s (k, l)).2.2) col gm gr n (appendOf n d s (k, l)).1 (appendOf n d s (k, l)).2.1 w) := by
  have hk0 : 1 ≤ k ∧ k ≤ 255 := by unfold wrongOf at hw; split at hw <;> omega
  have hap : appendOf n d s (k, l) = if (layOf n (firstOf n s.gen + usedOf s.recs) (packB k.toNat l) (secs l.length) (halfOf n - usedOf s.recs) d).2 ≠ 0 then
    ((layOf n (firstOf n s.gen + usedOf s.recs) (packB k.toNat l) (secs l.length) (halfOf n - usedOf s.recs) d).1, { s with down := true }, (layOf n (firstOf n s.gen + usedOf s.recs) (packB k.toNat l) (secs l.length) (halfOf n - usedOf s.recs) d).2)
    else ((layOf n (firstOf n s.gen + usedOf s.recs) (packB k.toNat l) (secs l.length) (halfOf n - usedOf s.recs) d).1, { s with recs := s.recs ++ [(k, l)] }, 0) := by
    unfold appendOf
    rw [if_neg (by rw [hd]; simp), if_neg (by simpa using hw), if_neg hf]
  obtain ⟨ap, hap1⟩ : ∃ x, x = appendOf n d s (k, l) := ⟨_, rfl⟩
  rw [← hap1] at hap ⊢
  clear hap1
  refine Calls.mono (R := RActs (.int .i64 ap.2.2) (dye w col 7) gm gr n ap.1 ap.2.1 w) ?_ (fun e w' hR => hR.of (fun k hk => dye_old hk))
  have h := h.dyed 7
  have h7 : ∀ j, w.heap.size ≤ j → dye w col 7 j = 7 := fun j hj => dye_new hj
  have hA7 : ∀ ad, A = some ad → (l.length = 0 ∨ (dye w col 7 ad.block ≠ 2 ∧ dye w col 7 ad.block ≠ 4)) := by
    intro ad e
    rcases Nat.eq_zero_or_pos l.length with h0 | h0
    · exact .inl h0
    · obtain ⟨ad', e', hc⟩ := hb.cell 0 h0
      rw [e] at e'
      cases e'
      have hlt := World.block_lt_of_cell? w _ hc
      rw [add_block] at hlt
      rw [dye_old hlt]
      exact .inr (by rcases hA ad e with h1 | h1; omega; exact h1)
  clear hA
  generalize dye w col 7 = col at *
  have hB : Below w.heap.size w (w.alloc (.cells #[.int .i64 k, .slice A l.length c] 102)) := (Below.refl _ _).alloc (Nat.le_refl _) _
  have hX := heap_alloc_new w (.cells #[.int .i64 k, .slice A l.length c] 102)
  have hP := h.below hB
  have hdn : s.down = false ∧ d.down = false := by simpa using hd
  obtain ⟨e3, hhn⟩ : (w.alloc (.cells #[.int .i64 k, .slice A l.length c] 102)).cell? ⟨gr, 3, none⟩ = some (.bool false) ∧ (halfOf n ≤ 16384 ∧ firstOf n s.gen + halfOf n ≤ n ∧ n ≤ 16384) := by
    obtain ⟨sv, tv, hD, -⟩ := hP.D
    have e3 := hD.c3
    rw [hdn.2] at e3
    refine ⟨e3, ?_⟩
    have := hD.le
    have := hD.pos
    unfold firstOf halfOf
    split <;> omega
  obtain ⟨c0, -, -, -, c4⟩ := hP.L.cell
  rw [hdn.1] at c4
  have hsdn := Go.Lib.hid hdn.1
  clear hdn
  replace hd := Go.Lib.hid hd
  have HW : ∀ x, Calls Tryd.prog 101 #[.agg #[.int .i64 k, .slice A l.length c]] x (fun e w' => e = .returned (.int .i64 0) ∧ Below x.heap.size x w') := fun x => by
    have := rwrong_walk x k A l.length c (by omega)
    rw [hw] at this
    exact this
  have HN : ∀ x, Calls Tryd.prog 51 #[.agg #[.int .i64 k, .slice A l.length c]] x (fun e w' => e = .returned (.int .i64 (secs l.length : Nat)) ∧ Below x.heap.size x w') := fun x => rsectors2_walk x k A l.length c (by omega)
  have HR : ∀ x, RM x col gm gr n v d s → Calls Tryd.prog 54 #[.pointer (some ⟨gm, 0, none⟩)] x (fun e w' => e = .returned (.int .i64 ((halfOf n - usedOf s.recs : Nat) : Int)) ∧ w' = x.drew) := fun x hx => by
    obtain ⟨sv, tv, hD, -⟩ := hx.D
    exact rroom_walk x _ gm gr v s hx.L n sv tv d hD hu
  have HF : ∀ x, RM x col gm gr n v d s → Calls Tryd.prog 48 #[.pointer (some ⟨gr, 0, none⟩), .int .i64 (s.gen : Nat)] x (Says (.int .i64 (firstOf n s.gen : Nat)) x) := fun x hx => by
    obtain ⟨sv, tv, hD, -⟩ := hx.D
    exact rfirst_walk x gr n sv tv d hD s.gen (by omega)
  have hkn : ((k.toNat : Nat) : Int) = k := by omega
  have HP : ∀ x, Bys x A l.length l → Calls Tryd.prog 97 #[.agg #[.int .i64 k, .slice A l.length c]] x (RetBys x.heap.size 5 (packB k.toNat l) x) := fun x hx => by
    have := bytes_walk x k.toNat A c l hx (by omega) (by omega)
    rw [hkn] at this
    exact this
  have hpl := packB_length k.toNat l
  have HL : ∀ x A' c', RM x col gm gr n v d s → Bys x A' (64 * secs l.length) (packB k.toNat l) → (∀ ad, A' = some ad → col ad.block ≠ 2 ∧ col ad.block ≠ 4) → 64 * secs l.length ≤ c' →
      Calls Tryd.prog 102 #[.pointer (some ⟨gm, 0, none⟩), .int .i64 ((firstOf n s.gen : Int) + (usedOf s.recs : Int)), .slice A' (64 * secs l.length) c', .int .i64 ((halfOf n - usedOf s.recs : Nat) : Int)] x
        (fun e w' => e = .returned (.int .i64 (layOf n (firstOf n s.gen + usedOf s.recs) (packB k.toNat l) (secs l.length) (halfOf n - usedOf s.recs) d).2) ∧ ∃ col', RM w' col' gm gr n v (layOf n (firstOf n s.gen + usedOf s.recs) (packB k.toNat l) (secs l.length) (halfOf n - usedOf s.recs) d).1 { s with down := s.down || decide ((layOf n (firstOf n s.gen + usedOf s.recs) (packB k.toNat l) (secs l.length) (halfOf n - usedOf s.recs) d).2 ≠ 0) } ∧ Step 2 4 col x w' col') := by
    intro x A' c' hx hy hz hc
    have := rlay_walk x col gm gr n v d s hx hsdn.out (firstOf n s.gen + usedOf s.recs) (secs l.length) (halfOf n - usedOf s.recs) _ c' A' _ hy hz rfl hc (by omega) (by omega) (by omega)
    rw [Int.natCast_add] at this
    exact this
  have hadd : IntKind.i64.wrap ((firstOf n s.gen : Int) + (usedOf s.recs : Int)) = ((firstOf n s.gen + usedOf s.recs : Nat) : Int) := by rw [IntKind.wrap_i64]; omega
  have hadd2 : IntKind.i64.wrap ((usedOf s.recs : Int) + (secs l.length : Int)) = ((usedOf s.recs + secs l.length : Nat) : Int) := by rw [IntKind.wrap_i64]; omega
  have hus : usedOf (s.recs ++ [(k, l)]) = usedOf s.recs + secs l.length := usedOf_snoc _ _
  generalize layOf n (firstOf n s.gen + usedOf s.recs) (packB k.toNat l) (secs l.length) (halfOf n - usedOf s.recs) d = lay at *
  obtain ⟨d2, e2⟩ := lay
  simp only at hap HL
  generalize hroom : halfOf n - usedOf s.recs = room at *
  generalize hks : secs l.length = ks at *
  generalize packB k.toNat l = pk at *
  have hfz : ¬ (room : Int) < (ks : Int) := by omega
  have hft : ¬ room < ks := hf
  have hsg : s.gen < 9223372036854775808 := by omega
  have x1 := cell_of_row _ w.heap.size 0 _ _ _ hX
  have x2 := cell_of_row _ w.heap.size 1 _ _ _ hX
  replace hw := Go.Lib.hid hw
  replace hroom := Go.Lib.hid hroom
  replace hks := Go.Lib.hid hks
  replace hpl := Go.Lib.hid hpl
  replace hus := Go.Lib.hid hus
  replace hkn := Go.Lib.hid hkn
  replace hap := Go.Lib.hid hap
  replace hX := Go.Lib.hid hX
  have hlp := Go.Lib.hid hl
  go_enter Tryd.func70, Tryd.ntmps70
  go_upto_region 8 with (first
    | (go_at_call 54; go_must (refine (HR w3 (hP2.below hB3)).mono ?_; rintro e w4 ⟨rfl, rfl⟩))
    | (go_at_call 51; go_must (refine (HN w2).mono ?_; rintro e w3 ⟨rfl, hB3⟩; have z1 := cell_below hB3 y1; have z2 := cell_below hB3 y2))
    | (go_at_call 101; go_must (refine (HW _).mono ?_; rintro e w2 ⟨rfl, hB2⟩; have hP2 := hP.below hB2; have y1 := cell_below hB2 x1; have y2 := cell_below hB2 x2)))
  have hB3d : Below w2.heap.size w2 w3.drew := below_drew hB3
  have hB3e : Below w2.heap.size w2 w3.drew.drew := below_drew hB3d
  have hPe : RM w3.drew.drew col gm gr n v d s := hP2.below hB3e
  have hS0 := (Step.of_below (i := 2) (j := 4) (col := col) (col' := col) hB (fun _ _ => rfl)).trans (Step.of_below hB2 (fun _ _ => rfl))
  have hSe := hS0.trans (Step.of_below hB3e (fun _ _ => rfl))
  have hX2 := (hB2.block w.heap.size (Array.getElem?_eq_some_iff.1 hX.out).1).trans hX.out
  have hXe := (hB3e.block w.heap.size (Array.getElem?_eq_some_iff.1 hX2).1).trans hX2
  have hbe : Bys w3.drew.drew A l.length l := by
    refine hb.chg' hSe.chg (fun ad e => ?_)
    rcases hA7 ad e with h0 | h0
    · exact .inl h0
    · exact .inr (by omega)
  obtain ⟨c0, c1, c2, c3, c4⟩ := hPe.L.cell
  have b0 := cell_of_row w3.drew.drew w.heap.size 0 _ _ _ hXe
  have b1 := cell_of_row w3.drew.drew w.heap.size 1 _ _ _ hXe
  have HF9 := HF w3.drew.drew hPe
  have HP9 := HP w3.drew.drew hbe
  have hwsz : w.heap.size < w3.drew.drew.heap.size := (Array.getElem?_eq_some_iff.1 hXe).1
  have hgl : gm < w3.drew.drew.heap.size := (Array.getElem?_eq_some_iff.1 hPe.L.blk).1
  clear HF HP HW hP2 hP hB2 hB3 hB3d hS0 hX2 z1 z2 y1 y2 x1 x2 hB hX e3
  generalize firstOf n s.gen = fi at *
  go_region_held_law (fun w' => w'.cell? ⟨gm, 0, none⟩ = some (.pointer (some ⟨gr, 0, none⟩)) ∧ w'.cell? ⟨gm, 2, none⟩ = some (.int .i64 (s.gen : Nat)) ∧ w'.cell? ⟨gm, 3, none⟩ = some (.int .i64 (usedOf s.recs : Nat)) ∧ w'.cell? ⟨w.heap.size, 0, none⟩ = some (.int .i64 k) ∧ w'.cell? ⟨w.heap.size, 1, none⟩ = some (.slice A l.length c)) (first | exact ⟨p0, p1, p2, p3, p4⟩ | exact ⟨q0, q1, q2, q3, q4⟩ | go_keep) ((first
    | (go_at_call 102; (with_reducible refine HL5.mono ?_); rintro e w6 ⟨rfl, col6, hP6, hS6⟩; obtain ⟨p0, -, p1, p2, -⟩ := hP6.L.cell; have hX6 := (hS6.chg.block w.heap.size (by have := hB4.size; show w.heap.size < w5.heap.size; omega) (by rw [h7 _ (Nat.le_refl _)]; omega)).trans hX4; have p3 := cell_of_row w6 w.heap.size 0 _ _ _ hX6; have p4 := cell_of_row w6 w.heap.size 1 _ _ _ hX6)
    | (go_at_call 54; (with_reducible refine HR4.mono ?_); rintro e w5x ⟨rfl, rfl⟩)
    | (go_at_call 97; (with_reducible refine HP9.mono ?_); intro e w5 hR; obtain ⟨A4, k4, rfl, hown4, hB4⟩ := hR.len (show pk.length = 64 * ks from hpl.out); have hP4 := hPe.below hB4; have HR4 := HR w5 hP4; have HL5 := HL w5.drew A4 k4 (hP4.below (below_drew (Below.refl _ _))) (Bys.own hown4).drew (fun ad e => by have h1 := own_ad hown4 e; have h2 := hSe.chg.size; rw [h7 ad.block (by omega)]; omega) (Go.Proofs.YtggogenhakdhiaaDoorW.PrintWords.own_le hown4); obtain ⟨q0, -, q1, q2, -⟩ := hP4.L.cell; have hX4 := (hB4.block w.heap.size hwsz).trans hXe; have q3 := cell_of_row w5 w.heap.size 0 _ _ _ hX4; have q4 := cell_of_row w5 w.heap.size 1 _ _ _ hX4)
    | (go_at_call 48; (with_reducible refine HF9.mono ?_); rintro e w' ⟨rfl, rfl⟩)))
  have hS16 : Step 2 4 col w w6 col6 := hSe.trans (((Step.of_below hB4 (fun _ _ => rfl)).trans (Step.of_below (below_drew (Below.refl _ _)) (fun _ _ => rfl))).trans hS6)
  by_cases he : e2 = 0
  · subst he
    have hsd6 : ({ s with down := s.down || decide ((0 : Int) ≠ 0) } : LS) = s := by cases s; simp
    have hP7 : RM w6 col6 gm gr n v d2 s := by rw [hsd6] at hP6; exact hP6
    have hapr : ap = (d2, { s with recs := s.recs ++ [(k, l)] }, 0) := by rw [hap.out, if_neg (by simp)]
    subst hapr
    replace hsd6 := Go.Lib.hid hsd6
    clear hP6 hap HR HL HP9 HF9 HR4 HL5 hP4 hPe hXe hbe b0 b1 c0 c1 c2 c3 c4 q0 q1 q2 q3 q4 hX4 hown4
    go_upto_region 10 with fail
    have hR8 : RecsAt 102 w6.drew (fun j => col6 j = 4) v s.recs := (hP7.below (below_drew (Below.refl _ _))).L.recs
    obtain ⟨-, c1, -, -, -⟩ := hP7.L.cell
    refine Go.Proofs.YtggogenhakdhiaaDoorW.PrintLast.start_ (n := 19) (S := fun w' => w'.cell? ⟨gm, 1, none⟩ = some v ∧ w'.cell? ⟨w.heap.size, 0, none⟩ = some (.int .i64 k) ∧ w'.cell? ⟨w.heap.size, 1, none⟩ = some (.slice A l.length c)) (ds := [18]) #[false, false, false, false, false, false, false, false, false, false, false, false, false, false, false, false, false, false, false] (by kernel_rfl) rfl rfl ⟨c1, p3, p4⟩ (fun hHeld => ?_)
    refine Go.Proofs.YtggogenhakdhiaaDoorW.PrintLast.take_ (i := 0) (N := some 55) (v := ?_) #[true, false, false, false, false, false, false, false, false, false, false, false, false, false, false, false, false, false, false] rfl rfl (by kernel_rfl) (fun _ _ _ h => h) (Or.inl ⟨by rfl, ?_⟩) (by assumption) rfl ?_
    rotate_left
    · (intro w hSw; (try dsimp only at hSw); go_simp); try with_reducible rfl
    (try simp only [Act.put, List.setIfInBounds_toArray, List.set_cons_zero, List.set_cons_succ])
    refine Go.Proofs.YtggogenhakdhiaaDoorW.PrintLast.take_ (i := 2) (N := some 57) (v := ?_) #[true, false, true, false, false, false, false, false, false, false, false, false, false, false, false, false, false, false, false] rfl rfl (by kernel_rfl) (fun _ _ _ h => h) (Or.inl ⟨by rfl, ?_⟩) (by assumption) rfl ?_
    rotate_left
    · (intro w hSw; (try dsimp only at hSw); go_simp); try with_reducible rfl
    (try simp only [Act.put, List.setIfInBounds_toArray, List.set_cons_zero, List.set_cons_succ])
    refine Go.Proofs.YtggogenhakdhiaaDoorW.PrintLast.take_ (i := 3) (N := some 58) (v := ?_) #[true, false, true, true, false, false, false, false, false, false, false, false, false, false, false, false, false, false, false] rfl rfl (by kernel_rfl) (fun _ _ _ h => h) (Or.inl ⟨by rfl, ?_⟩) (by assumption) rfl ?_
    rotate_left
    · (intro w hSw; (try dsimp only at hSw); go_simp); try with_reducible rfl
    (try simp only [Act.put, List.setIfInBounds_toArray, List.set_cons_zero, List.set_cons_succ])
    refine Go.Proofs.YtggogenhakdhiaaDoorW.PrintLast.take_ (i := 4) (N := some 59) (v := ?_) #[true, false, true, true, true, false, false, false, false, false, false, false, false, false, false, false, false, false, false] rfl rfl (by kernel_rfl) (fun _ _ _ h => h) (Or.inl ⟨by rfl, ?_⟩) (by assumption) rfl ?_
    rotate_left
    · (intro w hSw; (try dsimp only at hSw); go_simp); try with_reducible rfl
    (try simp only [Act.put, List.setIfInBounds_toArray, List.set_cons_zero, List.set_cons_succ])
    refine Go.Proofs.YtggogenhakdhiaaDoorW.PrintLast.take_ (i := 5) (N := some 60) (v := ?_) #[true, false, true, true, true, true, false, false, false, false, false, false, false, false, false, false, false, false, false] rfl rfl (by kernel_rfl) (fun _ _ _ h => h) (Or.inl ⟨by rfl, ?_⟩) (by assumption) rfl ?_
    rotate_left
    · (intro w hSw; (try dsimp only at hSw); go_simp); try with_reducible rfl
    (try simp only [Act.put, List.setIfInBounds_toArray, List.set_cons_zero, List.set_cons_succ])
    refine Go.Proofs.YtggogenhakdhiaaDoorW.PrintLast.take_ (i := 7) (N := some 62) (v := ?_) #[true, false, true, true, true, true, false, true, false, false, false, false, false, false, false, false, false, false, false] rfl rfl (by kernel_rfl) (fun _ _ _ h => h) (Or.inl ⟨by rfl, ?_⟩) (by assumption) rfl ?_
    rotate_left
    · (intro w hSw; (try dsimp only at hSw); go_simp); try with_reducible rfl
    (try simp only [Act.put, List.setIfInBounds_toArray, List.set_cons_zero, List.set_cons_succ])
    refine Go.Proofs.YtggogenhakdhiaaDoorW.PrintLast.take_ (i := 8) (N := some 63) (v := ?_) #[true, false, true, true, true, true, false, true, true, false, false, false, false, false, false, false, false, false, false] rfl rfl (by kernel_rfl) (fun _ _ _ h => h) (Or.inl ⟨by rfl, ?_⟩) (by assumption) rfl ?_
    rotate_left
    · (intro w hSw; (try dsimp only at hSw); go_simp); try with_reducible rfl
    (try simp only [Act.put, List.setIfInBounds_toArray, List.set_cons_zero, List.set_cons_succ])
    refine Go.Proofs.YtggogenhakdhiaaDoorW.PrintLast.take_ (i := 10) (N := some 65) (v := ?_) #[true, false, true, true, true, true, false, true, true, false, true, false, false, false, false, false, false, false, false] rfl rfl (by kernel_rfl) (fun _ _ _ h => h) (Or.inl ⟨by rfl, ?_⟩) (by assumption) rfl ?_
    rotate_left
    · (intro w hSw; (try dsimp only at hSw); go_simp); try with_reducible rfl
    (try simp only [Act.put, List.setIfInBounds_toArray, List.set_cons_zero, List.set_cons_succ])
    refine Go.Proofs.YtggogenhakdhiaaDoorW.PrintLast.take_ (i := 11) (N := some 66) (v := ?_) #[true, false, true, true, true, true, false, true, true, false, true, true, false, false, false, false, false, false, false] rfl rfl (by kernel_rfl) (fun _ _ _ h => h) (Or.inl ⟨by rfl, ?_⟩) (by assumption) rfl ?_
    rotate_left
    · (intro w hSw; (try dsimp only at hSw); go_simp); try with_reducible rfl
    (try simp only [Act.put, List.setIfInBounds_toArray, List.set_cons_zero, List.set_cons_succ])
    have hbA8 : Bys w6.drew A l.length l := by
      refine hb.chg' (hS16.trans (Step.of_below (j := 4) (i := 2) (below_drew (Below.refl _ _)) (fun _ _ => rfl))).chg (fun ad e => ?_)
      rcases hA7 ad e with h0 | h0
      · exact .inl h0
      · exact .inr (by omega)
    have hP8 := hP7.below (below_drew (Below.refl w6.heap.size w6))
    have hS0 : Step 2 4 col w w6.drew col6 := hS16.trans (Step.of_below (below_drew (Below.refl _ _)) (fun _ _ => rfl))
    have hX8 : w6.drew.heap[w.heap.size]? = _ := hX6
    clear hP7 hS16 hX6 hS6 hR hB4 c1 p0 p1 p2 p3 p4
    generalize w6.drew = u0 at *
    have hH0 := hHeld
    have hT0 := Below.refl u0.heap.size u0
    refine Go.Proofs.YtggogenhakdhiaaDoorW.PrintLast.two_ (i := 1) (j := 9) (Ni := some 56) (Nj := some 64) #[true, true, true, true, true, true, false, true, true, false, true, true, false, false, false, false, false, false, false] #[true, false, true, true, true, true, false, true, true, true, true, true, false, false, false, false, false, false, false] rfl rfl rfl rfl (by kernel_rfl) (by decide) (by decide) (fun K hK => ?_) (fun K hK => ?_)
    · have hB1 : Below u0.heap.size u0 (u0.alloc (.cells #[] 102)) := (Below.refl _ _).alloc (Nat.le_refl _) _
      have hg1 := heap_alloc_new u0 (.cells #[] 102)
      have hl1 : u0.heap.size ≤ u0.heap.size := hT0.size
      go_simp
      generalize (u0.alloc (.cells #[] 102)) = u1 at *
      have hT1 : Below u0.heap.size u0 u1 := hT0.trans (hB1.mono hT0.size)
      replace hR8 := hR8.below hB1
      replace hbA8 := hbA8.below hB1
      refine hK.out _ _ ⟨cell_below hT1 hH0.1, cell_below hT1 hH0.2.1, cell_below hT1 hH0.2.2⟩ (fun hHeld => ?_)
      clear hK K
      (try simp only [Act.put, List.setIfInBounds_toArray, List.set_cons_zero, List.set_cons_succ])
      refine Go.Proofs.YtggogenhakdhiaaDoorW.PrintLast.two_ (i := 6) (j := 9) (Ni := some 61) (Nj := some 64) #[true, true, true, true, true, true, true, true, true, false, true, true, false, false, false, false, false, false, false] #[true, true, true, true, true, true, false, true, true, true, true, true, false, false, false, false, false, false, false] rfl rfl rfl rfl (by kernel_rfl) (by decide) (by decide) (fun K hK => ?_) (fun K hK => ?_)
      · obtain ⟨v61, u2, hr61, hR61, ho61, hB2⟩ := run_clone_recs (P := Tryd.prog) (t := 42) (base := u0.heap.size) (by decide) Tryd.underlying42 info_rrec 42 hg1 hl1 hT1.size hR8 (by omega)
        refine step_builtin (o := ⟨some 61, _, _, _, _, _⟩) rfl (.tmp 56) (.tmp 60) rfl rfl rfl hr61 ?_
        have hT2 : Below u0.heap.size u0 u2 := hT1.trans (hB2.mono hT1.size)
        replace hR8 := hR8.below hB2
        replace hbA8 := hbA8.below hB2
        replace hg1 := (hB2.block _ (Array.getElem?_eq_some_iff.1 hg1).1).trans hg1
        refine hK.out _ _ ⟨cell_below hT2 hH0.1, cell_below hT2 hH0.2.1, cell_below hT2 hH0.2.2⟩ (fun hHeld => ?_)
        clear hK K
        (try simp only [Act.put, List.setIfInBounds_toArray, List.set_cons_zero, List.set_cons_succ])
        refine Go.Proofs.YtggogenhakdhiaaDoorW.PrintLast.one_ (i := 9) (N := some 64) #[true, true, true, true, true, true, true, true, true, true, true, true, false, false, false, false, false, false, false] rfl rfl (by kernel_rfl) (by decide) (fun K hK => ?_)
        have hB3 : Below u2.heap.size u2 (u2.alloc (.cells #[] 5)) := (Below.refl _ _).alloc (Nat.le_refl _) _
        have hg9 := heap_alloc_new u2 (.cells #[] 5)
        have hl9 : u0.heap.size ≤ u2.heap.size := hT2.size
        go_simp
        generalize (u2.alloc (.cells #[] 5)) = u3 at *
        have hT3 : Below u0.heap.size u0 u3 := hT2.trans (hB3.mono hT2.size)
        replace hR8 := hR8.below hB3
        replace hbA8 := hbA8.below hB3
        replace hg1 := (hB3.block _ (Array.getElem?_eq_some_iff.1 hg1).1).trans hg1
        replace hR61 := hR61.below hB3
        refine hK.out _ _ ⟨cell_below hT3 hH0.1, cell_below hT3 hH0.2.1, cell_below hT3 hH0.2.2⟩ (fun hHeld => ?_)
        clear hK K
        (try simp only [Act.put, List.setIfInBounds_toArray, List.set_cons_zero, List.set_cons_succ])
        refine Go.Proofs.YtggogenhakdhiaaDoorW.PrintLast.one_ (i := 12) (N := some 67) #[true, true, true, true, true, true, true, true, true, true, true, true, true, false, false, false, false, false, false] rfl rfl (by kernel_rfl) (by decide) (fun K hK => ?_)
        obtain ⟨A67, c67, u4, hr67, hO67, hB4⟩ := run_clone_bys (P := Tryd.prog) (t := 22) (base := u0.heap.size) Tryd.underlying22 (by kernel_rfl) 22 hg9 hl9 hT3.size hbA8 (by omega)
        refine step_builtin (o := ⟨some 67, _, _, _, _, _⟩) rfl (.tmp 64) (.tmp 66) rfl rfl rfl hr67 ?_
        have hT4 : Below u0.heap.size u0 u4 := hT3.trans (hB4.mono hT3.size)
        replace hR8 := hR8.below hB4
        replace hbA8 := hbA8.below hB4
        replace hg1 := (hB4.block _ (Array.getElem?_eq_some_iff.1 hg1).1).trans hg1
        replace hR61 := hR61.below hB4
        replace hg9 := (hB4.block _ (Array.getElem?_eq_some_iff.1 hg9).1).trans hg9
        refine hK.out _ _ ⟨cell_below hT4 hH0.1, cell_below hT4 hH0.2.1, cell_below hT4 hH0.2.2⟩ (fun hHeld => ?_)
        clear hK K
        (try simp only [Act.put, List.setIfInBounds_toArray, List.set_cons_zero, List.set_cons_succ])
        refine Go.Proofs.YtggogenhakdhiaaDoorW.PrintLast.take_ (i := 13) (N := some 68) (v := ?_) #[true, true, true, true, true, true, true, true, true, true, true, true, true, true, false, false, false, false, false] rfl rfl (by kernel_rfl) (fun _ _ _ h => h) (Or.inl ⟨by rfl, ?_⟩) (by assumption) rfl ?_
        rotate_left
        · (intro w hSw; go_simp); try with_reducible rfl
        (try simp only [Act.put, List.setIfInBounds_toArray, List.set_cons_zero, List.set_cons_succ])
        refine Go.Proofs.YtggogenhakdhiaaDoorW.PrintLast.one_ (i := 14) (N := some 69) #[true, true, true, true, true, true, true, true, true, true, true, true, true, true, true, false, false, false, false] rfl rfl (by kernel_rfl) (by decide) (fun K hK => ?_)
        have hB5 : Below u4.heap.size u4 (u4.alloc (.cells #[.int .i64 k, .slice A67 l.length c67] 102)) := (Below.refl _ _).alloc (Nat.le_refl _) _
        have hR69 := RecsAt.one (T := 102) (k := k) hO67
        go_simp
        generalize (u4.alloc (.cells #[.int .i64 k, .slice A67 l.length c67] 102)) = u5 at *
        have hT5 : Below u0.heap.size u0 u5 := hT4.trans (hB5.mono hT4.size)
        replace hR8 := hR8.below hB5
        replace hbA8 := hbA8.below hB5
        replace hg1 := (hB5.block _ (Array.getElem?_eq_some_iff.1 hg1).1).trans hg1
        replace hR61 := hR61.below hB5
        replace hg9 := (hB5.block _ (Array.getElem?_eq_some_iff.1 hg9).1).trans hg9
        replace hO67 := hO67.same (fun k hk _ => hB5.block k hk)
        refine hK.out _ _ ⟨cell_below hT5 hH0.1, cell_below hT5 hH0.2.1, cell_below hT5 hH0.2.2⟩ (fun hHeld => ?_)
        clear hK K
        (try simp only [Act.put, List.setIfInBounds_toArray, List.set_cons_zero, List.set_cons_succ])
        refine Go.Proofs.YtggogenhakdhiaaDoorW.PrintLast.one_ (i := 15) (N := some 70) #[true, true, true, true, true, true, true, true, true, true, true, true, true, true, true, true, false, false, false] rfl rfl (by kernel_rfl) (by decide) (fun K hK => ?_)
        refine step_append_recs (o := ⟨some 70, _, _, _, _, _⟩) rfl (.tmp 61) (.tmp 69) 42 102 rfl (by decide) Tryd.underlying42 info_rrec rfl hR61 rfl hR69 (by show s.recs.length + 1 ≤ _; omega) ?_
        intro v70 u6 hR70 hg70
        obtain ⟨A70, c70, hv70⟩ := hR70.slice
        subst hv70
        have hT6 : Below u0.heap.size u0 u6 := hT5.trans (below_grown hg70 (fun j hj => ho61 j hj) hT5.size)
        have hb6 := (hT6.block gm (Array.getElem?_eq_some_iff.1 hP8.L.blk).1).trans hP8.L.blk
        have q1 := cell_of_row u6 gm 1 _ _ _ hb6
        have r1 := frozen_of_row u6 gm 1 _ _ hb6
        refine hK.out _ _ ⟨cell_below hT6 hH0.1, cell_below hT6 hH0.2.1, cell_below hT6 hH0.2.2⟩ (fun hHeld => ?_)
        clear hK K
        (try simp only [Act.put, List.setIfInBounds_toArray, List.set_cons_zero, List.set_cons_succ])
        refine Go.Proofs.YtggogenhakdhiaaDoorW.PrintLast.take_ (i := 16) (N := some 71) (v := ?_) #[true, true, true, true, true, true, true, true, true, true, true, true, true, true, true, true, true, false, false] rfl rfl (by kernel_rfl) (fun _ _ _ h => h) (Or.inl ⟨by rfl, ?_⟩) (by assumption) rfl ?_
        rotate_left
        · (intro w hSw; go_simp); try with_reducible rfl
        (try simp only [Act.put, List.setIfInBounds_toArray, List.set_cons_zero, List.set_cons_succ])
        refine Go.Proofs.YtggogenhakdhiaaDoorW.PrintLast.take_ (i := 17) (N := some 72) (v := ?_) #[true, true, true, true, true, true, true, true, true, true, true, true, true, true, true, true, true, true, false] rfl rfl (by kernel_rfl) (fun _ _ _ h => h) (Or.inl ⟨by rfl, ?_⟩) (by assumption) rfl ?_
        rotate_left
        · (intro w hSw; go_simp); try with_reducible rfl
        (try simp only [Act.put, List.setIfInBounds_toArray, List.set_cons_zero, List.set_cons_succ])
        refine Go.Proofs.YtggogenhakdhiaaDoorW.PrintLast.last_ (i := 18) (N := none) #[true, true, true, true, true, true, true, true, true, true, true, true, true, true, true, true, true, true, true] rfl rfl (by kernel_rfl) (by decide) (fun K hK => ?_)
        go_simp
        refine hK.out _ _ ?_
        clear hK K
        (try simp only [Act.put, List.setIfInBounds_toArray, List.set_cons_zero, List.set_cons_succ])
        refine Go.Proofs.YtggogenhakdhiaaDoorW.PrintLast.done_ (by kernel_rfl) ?_
        have e70 : (s.recs ++ [(k, l)]).length = s.recs.length + 1 := by simp
        rw [e70] at hR70
        have hcg6 := hP8.cg
        have hgm : gm < w.heap.size := (Array.getElem?_eq_some_iff.1 h.L.blk).1
        have hgx : w.heap.size ≠ gm := by omega
        have hC7 : Chg (fun j => col6 j = 4) u0 (u6.setCell ⟨gm, 1, none⟩ (.slice A70 (s.recs.length + 1) c70)) := (Chg.of_below hT6).setCell (p := ⟨gm, 1, none⟩) hcg6 _
        have hb7 := Go.Proofs.YtggogenhakdhiaaDoorW.PrintWords.blk_set hb6 1 (.slice A70 (s.recs.length + 1) c70)
        have hR7 := (hR70.mono (Z' := fun j => dye u0 col6 4 j = 4) (fun j _ hz => by
          by_cases hj : j < u0.heap.size
          · rw [dye_old hj]
            rcases hz with (hz | hz) | (hz | hz) | hz
            · exact hz
            · omega
            · omega
            · have := hT4.size; omega
            · have := hT5.size; omega
          · exact dye_new (by omega))).set hb6 (by decide) (by decide) 1 (.slice A70 (s.recs.length + 1) c70)
        have hCg : Chg (fun j => j = gm) u6 (u6.setCell ⟨gm, 1, none⟩ (.slice A70 (s.recs.length + 1) c70)) := (Chg.refl (fun j => j = gm) u6).setCell (p := ⟨gm, 1, none⟩) rfl _
        have hw0 : w.heap.size < u0.heap.size := (Array.getElem?_eq_some_iff.1 hX8).1
        have hX9 := (hCg.block w.heap.size (by have := hT6.size; omega) hgx).trans ((hT6.block w.heap.size hw0).trans hX8)
        generalize (u6.setCell ⟨gm, 1, none⟩ (.slice A70 (s.recs.length + 1) c70)) = u7 at *
        have z3 : u7.cell? ⟨gm, 3, none⟩ = some (.int .i64 (usedOf s.recs : Nat)) := by have := cell_of_row u7 gm 3 _ _ _ hb7; exact this
        have z1 := cell_of_row u7 w.heap.size 0 _ _ _ hX9
        have z2 := cell_of_row u7 w.heap.size 1 _ _ _ hX9
        have HC := HN u7.drew
        clear HN q1 r1 hH0 hHeld hg1 hg9 hr61 hr67
        go_upto_region 11 with fail
        refine Go.Proofs.YtggogenhakdhiaaDoorW.PrintLast.start_ (n := 11) (S := fun w' => w'.cell? ⟨gm, 3, none⟩ = some (.int .i64 (usedOf s.recs : Nat)) ∧ w'.cell? ⟨w.heap.size, 0, none⟩ = some (.int .i64 k) ∧ w'.cell? ⟨w.heap.size, 1, none⟩ = some (.slice A l.length c)) (ds := [10]) #[false, false, false, false, false, false, false, false, false, false, false] (by kernel_rfl) rfl rfl ⟨z3, z1, z2⟩ (fun hHeld => ?_)
        refine Go.Proofs.YtggogenhakdhiaaDoorW.PrintLast.take_ (i := 0) (N := some 73) (v := ?_) #[true, false, false, false, false, false, false, false, false, false, false] rfl rfl (by kernel_rfl) (fun _ _ _ h => h) (Or.inl ⟨by rfl, ?_⟩) (by assumption) rfl ?_
        rotate_left
        · (intro w hSw; (try dsimp only at hSw); go_simp); try with_reducible rfl
        (try simp only [Act.put, List.setIfInBounds_toArray, List.set_cons_zero, List.set_cons_succ])
        refine Go.Proofs.YtggogenhakdhiaaDoorW.PrintLast.take_ (i := 1) (N := some 74) (v := ?_) #[true, true, false, false, false, false, false, false, false, false, false] rfl rfl (by kernel_rfl) (fun _ _ _ h => h) (Or.inl ⟨by rfl, ?_⟩) (by assumption) rfl ?_
        rotate_left
        · (intro w hSw; (try dsimp only at hSw); go_simp); try with_reducible rfl
        (try simp only [Act.put, List.setIfInBounds_toArray, List.set_cons_zero, List.set_cons_succ])
        refine Go.Proofs.YtggogenhakdhiaaDoorW.PrintLast.take_ (i := 2) (N := some 75) (v := ?_) #[true, true, true, false, false, false, false, false, false, false, false] rfl rfl (by kernel_rfl) (fun _ _ _ h => h) (Or.inl ⟨by rfl, ?_⟩) (by assumption) rfl ?_
        rotate_left
        · (intro w hSw; (try dsimp only at hSw); go_simp); try with_reducible rfl
        (try simp only [Act.put, List.setIfInBounds_toArray, List.set_cons_zero, List.set_cons_succ])
        refine Go.Proofs.YtggogenhakdhiaaDoorW.PrintLast.take_ (i := 3) (N := some 76) (v := ?_) #[true, true, true, true, false, false, false, false, false, false, false] rfl rfl (by kernel_rfl) (fun _ _ _ h => h) (Or.inl ⟨by rfl, ?_⟩) (by assumption) rfl ?_
        rotate_left
        · (intro w hSw; (try dsimp only at hSw); go_simp); try with_reducible rfl
        (try simp only [Act.put, List.setIfInBounds_toArray, List.set_cons_zero, List.set_cons_succ])
        refine Go.Proofs.YtggogenhakdhiaaDoorW.PrintLast.take_ (i := 4) (N := some 77) (v := ?_) #[true, true, true, true, true, false, false, false, false, false, false] rfl rfl (by kernel_rfl) (fun _ _ _ h => h) (Or.inl ⟨by rfl, ?_⟩) (by assumption) rfl ?_
        rotate_left
        · (intro w hSw; (try dsimp only at hSw); go_simp); try with_reducible rfl
        (try simp only [Act.put, List.setIfInBounds_toArray, List.set_cons_zero, List.set_cons_succ])
        refine Go.Proofs.YtggogenhakdhiaaDoorW.PrintLast.take_ (i := 5) (N := some 78) (v := ?_) #[true, true, true, true, true, true, false, false, false, false, false] rfl rfl (by kernel_rfl) (fun _ _ _ h => h) (Or.inl ⟨by rfl, ?_⟩) (by assumption) rfl ?_
        rotate_left
        · (intro w hSw; (try dsimp only at hSw); go_simp); try with_reducible rfl
        (try simp only [Act.put, List.setIfInBounds_toArray, List.set_cons_zero, List.set_cons_succ])
        refine Go.Proofs.YtggogenhakdhiaaDoorW.PrintLast.one_ (i := 6) (N := some 79) #[true, true, true, true, true, true, true, false, false, false, false] rfl rfl (by kernel_rfl) (by decide) (fun K hK => ?_)
        refine step_call (o := ⟨some 79, _, _, _, _, _⟩) rfl Tryd.func51 (by kernel_rfl) (by kernel_rfl) [.tmp 78] #[102] rfl [.agg #[.int .i64 k, .slice A l.length c]] rfl HC ?_
        rintro e u8 ⟨rfl, hB8⟩
        refine ⟨_, rfl, ?_⟩
        have hB78 : Below u7.heap.size u7 u8 := below_of_drew hB8
        have hb8 := (hB78.block gm (Array.getElem?_eq_some_iff.1 hb7).1).trans hb7
        have q3 := cell_of_row u8 gm 3 _ _ _ hb8
        have r3 := frozen_of_row u8 gm 3 _ _ hb8
        refine hK.out _ _ ⟨cell_below hB78 z3, cell_below hB78 z1, cell_below hB78 z2⟩ (fun hHeld => ?_)
        clear hK K
        (try simp only [Act.put, List.setIfInBounds_toArray, List.set_cons_zero, List.set_cons_succ])
        refine Go.Proofs.YtggogenhakdhiaaDoorW.PrintLast.take_ (i := 7) (N := some 80) (v := ?_) #[true, true, true, true, true, true, true, true, false, false, false] rfl rfl (by kernel_rfl) (fun _ _ _ h => h) (Or.inl ⟨by rfl, ?_⟩) (by assumption) rfl ?_
        rotate_left
        · (intro w hSw; go_simp); try with_reducible rfl
        (try simp only [Act.put, List.setIfInBounds_toArray, List.set_cons_zero, List.set_cons_succ])
        refine Go.Proofs.YtggogenhakdhiaaDoorW.PrintLast.take_ (i := 8) (N := some 81) (v := ?_) #[true, true, true, true, true, true, true, true, true, false, false] rfl rfl (by kernel_rfl) (fun _ _ _ h => h) (Or.inl ⟨by rfl, ?_⟩) (by assumption) rfl ?_
        rotate_left
        · (intro w hSw; go_simp); try with_reducible rfl
        (try simp only [Act.put, List.setIfInBounds_toArray, List.set_cons_zero, List.set_cons_succ])
        refine Go.Proofs.YtggogenhakdhiaaDoorW.PrintLast.take_ (i := 9) (N := some 82) (v := ?_) #[true, true, true, true, true, true, true, true, true, true, false] rfl rfl (by kernel_rfl) (fun _ _ _ h => h) (Or.inl ⟨by rfl, ?_⟩) (by assumption) rfl ?_
        rotate_left
        · (intro w hSw; go_simp); try with_reducible rfl
        (try simp only [Act.put, List.setIfInBounds_toArray, List.set_cons_zero, List.set_cons_succ])
        refine Go.Proofs.YtggogenhakdhiaaDoorW.PrintLast.last_ (i := 10) (N := none) #[true, true, true, true, true, true, true, true, true, true, true] rfl rfl (by kernel_rfl) (by decide) (fun K hK => ?_)
        go_simp
        refine hK.out _ _ ?_
        clear hK K
        (try simp only [Act.put, List.setIfInBounds_toArray, List.set_cons_zero, List.set_cons_succ])
        refine Go.Proofs.YtggogenhakdhiaaDoorW.PrintLast.done_ (by kernel_rfl) ?_
        go_wp2
        go_ret
        have hgu : gm < u0.heap.size := by omega
        have hCt : Chg (fun j => col6 j = 4) u0 (u8.setCell ⟨gm, 3, none⟩ (.int .i64 ((usedOf s.recs : Int) + (ks : Int)))) := (hC7.trans (T := fun j => col6 j = 4) (Chg.of_below hB78) (fun j hj _ => hj)).setCell (p := ⟨gm, 3, none⟩) hcg6 _
        have hb9 := Go.Proofs.YtggogenhakdhiaaDoorW.PrintWords.blk_set hb8 3 (.int .i64 ((usedOf s.recs : Int) + (ks : Int)))
        have hR9 := (hR7.below hB78).set hb8 (by decide) (by decide) 3 (.int .i64 ((usedOf s.recs : Int) + (ks : Int)))
        have hPf : RM (u8.setCell ⟨gm, 3, none⟩ (.int .i64 ((usedOf s.recs : Int) + (ks : Int)))) (dye u0 col6 4) gm gr n (.slice A70 (s.recs.length + 1) c70) d2 { s with recs := s.recs ++ [(k, l)] } := by
          refine ⟨?_, ⟨?_, hR9⟩, (dye_old hgu).trans hcg6⟩
          · obtain ⟨sv, tv, hD, hf⟩ := hP8.D
            exact ⟨sv, tv, hD.chg hCt (fun j hj hs => by have := hf j hj; omega), fun j hj => (dye_old (hD.lt j hj)).trans (hf j hj)⟩
          · rw [hb9]
            show some (Obj.cells #[_, _, _, _, _] _ _) = _
            rw [show usedOf ({ s with recs := s.recs ++ [(k, l)] } : LS).recs = usedOf s.recs + ks from hus.out, Int.natCast_add]
        have hSf : Step 2 4 col6 u0 (u8.setCell ⟨gm, 3, none⟩ (.int .i64 ((usedOf s.recs : Int) + (ks : Int)))) (dye u0 col6 4) := ⟨hCt.mono (fun j _ hj => .inr hj), fun j hj => dye_old hj⟩
        exact ⟨rfl, _, _, hPf, hS0.trans hSf⟩
      · have hB2 : Below u1.heap.size u1 (u1.alloc (.cells #[] 5)) := (Below.refl _ _).alloc (Nat.le_refl _) _
        have hg9 := heap_alloc_new u1 (.cells #[] 5)
        have hl9 : u0.heap.size ≤ u1.heap.size := hT1.size
        go_simp
        generalize (u1.alloc (.cells #[] 5)) = u2 at *
        have hT2 : Below u0.heap.size u0 u2 := hT1.trans (hB2.mono hT1.size)
        replace hR8 := hR8.below hB2
        replace hbA8 := hbA8.below hB2
        replace hg1 := (hB2.block _ (Array.getElem?_eq_some_iff.1 hg1).1).trans hg1
        refine hK.out _ _ ⟨cell_below hT2 hH0.1, cell_below hT2 hH0.2.1, cell_below hT2 hH0.2.2⟩ (fun hHeld => ?_)
        clear hK K
        (try simp only [Act.put, List.setIfInBounds_toArray, List.set_cons_zero, List.set_cons_succ])
        refine Go.Proofs.YtggogenhakdhiaaDoorW.PrintLast.one_ (i := 6) (N := some 61) #[true, true, true, true, true, true, true, true, true, true, true, true, false, false, false, false, false, false, false] rfl rfl (by kernel_rfl) (by decide) (fun K hK => ?_)
        obtain ⟨v61, u3, hr61, hR61, ho61, hB3⟩ := run_clone_recs (P := Tryd.prog) (t := 42) (base := u0.heap.size) (by decide) Tryd.underlying42 info_rrec 42 hg1 hl1 hT2.size hR8 (by omega)
        refine step_builtin (o := ⟨some 61, _, _, _, _, _⟩) rfl (.tmp 56) (.tmp 60) rfl rfl rfl hr61 ?_
        have hT3 : Below u0.heap.size u0 u3 := hT2.trans (hB3.mono hT2.size)
        replace hR8 := hR8.below hB3
        replace hbA8 := hbA8.below hB3
        replace hg1 := (hB3.block _ (Array.getElem?_eq_some_iff.1 hg1).1).trans hg1
        replace hg9 := (hB3.block _ (Array.getElem?_eq_some_iff.1 hg9).1).trans hg9
        refine hK.out _ _ ⟨cell_below hT3 hH0.1, cell_below hT3 hH0.2.1, cell_below hT3 hH0.2.2⟩ (fun hHeld => ?_)
        clear hK K
        (try simp only [Act.put, List.setIfInBounds_toArray, List.set_cons_zero, List.set_cons_succ])
        refine Go.Proofs.YtggogenhakdhiaaDoorW.PrintLast.one_ (i := 12) (N := some 67) #[true, true, true, true, true, true, true, true, true, true, true, true, true, false, false, false, false, false, false] rfl rfl (by kernel_rfl) (by decide) (fun K hK => ?_)
        obtain ⟨A67, c67, u4, hr67, hO67, hB4⟩ := run_clone_bys (P := Tryd.prog) (t := 22) (base := u0.heap.size) Tryd.underlying22 (by kernel_rfl) 22 hg9 hl9 hT3.size hbA8 (by omega)
        refine step_builtin (o := ⟨some 67, _, _, _, _, _⟩) rfl (.tmp 64) (.tmp 66) rfl rfl rfl hr67 ?_
        have hT4 : Below u0.heap.size u0 u4 := hT3.trans (hB4.mono hT3.size)
        replace hR8 := hR8.below hB4
        replace hbA8 := hbA8.below hB4
        replace hg1 := (hB4.block _ (Array.getElem?_eq_some_iff.1 hg1).1).trans hg1
        replace hg9 := (hB4.block _ (Array.getElem?_eq_some_iff.1 hg9).1).trans hg9
        replace hR61 := hR61.below hB4
        refine hK.out _ _ ⟨cell_below hT4 hH0.1, cell_below hT4 hH0.2.1, cell_below hT4 hH0.2.2⟩ (fun hHeld => ?_)
        clear hK K
        (try simp only [Act.put, List.setIfInBounds_toArray, List.set_cons_zero, List.set_cons_succ])
        refine Go.Proofs.YtggogenhakdhiaaDoorW.PrintLast.take_ (i := 13) (N := some 68) (v := ?_) #[true, true, true, true, true, true, true, true, true, true, true, true, true, true, false, false, false, false, false] rfl rfl (by kernel_rfl) (fun _ _ _ h => h) (Or.inl ⟨by rfl, ?_⟩) (by assumption) rfl ?_
        rotate_left
        · (intro w hSw; go_simp); try with_reducible rfl
        (try simp only [Act.put, List.setIfInBounds_toArray, List.set_cons_zero, List.set_cons_succ])
        refine Go.Proofs.YtggogenhakdhiaaDoorW.PrintLast.one_ (i := 14) (N := some 69) #[true, true, true, true, true, true, true, true, true, true, true, true, true, true, true, false, false, false, false] rfl rfl (by kernel_rfl) (by decide) (fun K hK => ?_)
        have hB5 : Below u4.heap.size u4 (u4.alloc (.cells #[.int .i64 k, .slice A67 l.length c67] 102)) := (Below.refl _ _).alloc (Nat.le_refl _) _
        have hR69 := RecsAt.one (T := 102) (k := k) hO67
        go_simp
        generalize (u4.alloc (.cells #[.int .i64 k, .slice A67 l.length c67] 102)) = u5 at *
        have hT5 : Below u0.heap.size u0 u5 := hT4.trans (hB5.mono hT4.size)
        replace hR8 := hR8.below hB5
        replace hbA8 := hbA8.below hB5
        replace hg1 := (hB5.block _ (Array.getElem?_eq_some_iff.1 hg1).1).trans hg1
        replace hg9 := (hB5.block _ (Array.getElem?_eq_some_iff.1 hg9).1).trans hg9
        replace hR61 := hR61.below hB5
        replace hO67 := hO67.same (fun k hk _ => hB5.block k hk)
        refine hK.out _ _ ⟨cell_below hT5 hH0.1, cell_below hT5 hH0.2.1, cell_below hT5 hH0.2.2⟩ (fun hHeld => ?_)
        clear hK K
        (try simp only [Act.put, List.setIfInBounds_toArray, List.set_cons_zero, List.set_cons_succ])
        refine Go.Proofs.YtggogenhakdhiaaDoorW.PrintLast.one_ (i := 15) (N := some 70) #[true, true, true, true, true, true, true, true, true, true, true, true, true, true, true, true, false, false, false] rfl rfl (by kernel_rfl) (by decide) (fun K hK => ?_)
        refine step_append_recs (o := ⟨some 70, _, _, _, _, _⟩) rfl (.tmp 61) (.tmp 69) 42 102 rfl (by decide) Tryd.underlying42 info_rrec rfl hR61 rfl hR69 (by show s.recs.length + 1 ≤ _; omega) ?_
        intro v70 u6 hR70 hg70
        obtain ⟨A70, c70, hv70⟩ := hR70.slice
        subst hv70
        have hT6 : Below u0.heap.size u0 u6 := hT5.trans (below_grown hg70 (fun j hj => ho61 j hj) hT5.size)
        have hb6 := (hT6.block gm (Array.getElem?_eq_some_iff.1 hP8.L.blk).1).trans hP8.L.blk
        have q1 := cell_of_row u6 gm 1 _ _ _ hb6
        have r1 := frozen_of_row u6 gm 1 _ _ hb6
        refine hK.out _ _ ⟨cell_below hT6 hH0.1, cell_below hT6 hH0.2.1, cell_below hT6 hH0.2.2⟩ (fun hHeld => ?_)
        clear hK K
        (try simp only [Act.put, List.setIfInBounds_toArray, List.set_cons_zero, List.set_cons_succ])
        refine Go.Proofs.YtggogenhakdhiaaDoorW.PrintLast.take_ (i := 16) (N := some 71) (v := ?_) #[true, true, true, true, true, true, true, true, true, true, true, true, true, true, true, true, true, false, false] rfl rfl (by kernel_rfl) (fun _ _ _ h => h) (Or.inl ⟨by rfl, ?_⟩) (by assumption) rfl ?_
        rotate_left
        · (intro w hSw; go_simp); try with_reducible rfl
        (try simp only [Act.put, List.setIfInBounds_toArray, List.set_cons_zero, List.set_cons_succ])
        refine Go.Proofs.YtggogenhakdhiaaDoorW.PrintLast.take_ (i := 17) (N := some 72) (v := ?_) #[true, true, true, true, true, true, true, true, true, true, true, true, true, true, true, true, true, true, false] rfl rfl (by kernel_rfl) (fun _ _ _ h => h) (Or.inl ⟨by rfl, ?_⟩) (by assumption) rfl ?_
        rotate_left
        · (intro w hSw; go_simp); try with_reducible rfl
        (try simp only [Act.put, List.setIfInBounds_toArray, List.set_cons_zero, List.set_cons_succ])
        refine Go.Proofs.YtggogenhakdhiaaDoorW.PrintLast.last_ (i := 18) (N := none) #[true, true, true, true, true, true, true, true, true, true, true, true, true, true, true, true, true, true, true] rfl rfl (by kernel_rfl) (by decide) (fun K hK => ?_)
        go_simp
        refine hK.out _ _ ?_
        clear hK K
        (try simp only [Act.put, List.setIfInBounds_toArray, List.set_cons_zero, List.set_cons_succ])
        refine Go.Proofs.YtggogenhakdhiaaDoorW.PrintLast.done_ (by kernel_rfl) ?_
        have e70 : (s.recs ++ [(k, l)]).length = s.recs.length + 1 := by simp
        rw [e70] at hR70
        have hcg6 := hP8.cg
        have hgm : gm < w.heap.size := (Array.getElem?_eq_some_iff.1 h.L.blk).1
        have hgx : w.heap.size ≠ gm := by omega
        have hC7 : Chg (fun j => col6 j = 4) u0 (u6.setCell ⟨gm, 1, none⟩ (.slice A70 (s.recs.length + 1) c70)) := (Chg.of_below hT6).setCell (p := ⟨gm, 1, none⟩) hcg6 _
        have hb7 := Go.Proofs.YtggogenhakdhiaaDoorW.PrintWords.blk_set hb6 1 (.slice A70 (s.recs.length + 1) c70)
        have hR7 := (hR70.mono (Z' := fun j => dye u0 col6 4 j = 4) (fun j _ hz => by
          by_cases hj : j < u0.heap.size
          · rw [dye_old hj]
            rcases hz with (hz | hz) | (hz | hz) | hz
            · exact hz
            · omega
            · omega
            · have := hT4.size; omega
            · have := hT5.size; omega
          · exact dye_new (by omega))).set hb6 (by decide) (by decide) 1 (.slice A70 (s.recs.length + 1) c70)
        have hCg : Chg (fun j => j = gm) u6 (u6.setCell ⟨gm, 1, none⟩ (.slice A70 (s.recs.length + 1) c70)) := (Chg.refl (fun j => j = gm) u6).setCell (p := ⟨gm, 1, none⟩) rfl _
        have hw0 : w.heap.size < u0.heap.size := (Array.getElem?_eq_some_iff.1 hX8).1
        have hX9 := (hCg.block w.heap.size (by have := hT6.size; omega) hgx).trans ((hT6.block w.heap.size hw0).trans hX8)
        generalize (u6.setCell ⟨gm, 1, none⟩ (.slice A70 (s.recs.length + 1) c70)) = u7 at *
        have z3 : u7.cell? ⟨gm, 3, none⟩ = some (.int .i64 (usedOf s.recs : Nat)) := by have := cell_of_row u7 gm 3 _ _ _ hb7; exact this
        have z1 := cell_of_row u7 w.heap.size 0 _ _ _ hX9
        have z2 := cell_of_row u7 w.heap.size 1 _ _ _ hX9
        have HC := HN u7.drew
        clear HN q1 r1 hH0 hHeld hg1 hg9 hr61 hr67
        go_upto_region 11 with fail
        refine Go.Proofs.YtggogenhakdhiaaDoorW.PrintLast.start_ (n := 11) (S := fun w' => w'.cell? ⟨gm, 3, none⟩ = some (.int .i64 (usedOf s.recs : Nat)) ∧ w'.cell? ⟨w.heap.size, 0, none⟩ = some (.int .i64 k) ∧ w'.cell? ⟨w.heap.size, 1, none⟩ = some (.slice A l.length c)) (ds := [10]) #[false, false, false, false, false, false, false, false, false, false, false] (by kernel_rfl) rfl rfl ⟨z3, z1, z2⟩ (fun hHeld => ?_)
        refine Go.Proofs.YtggogenhakdhiaaDoorW.PrintLast.take_ (i := 0) (N := some 73) (v := ?_) #[true, false, false, false, false, false, false, false, false, false, false] rfl rfl (by kernel_rfl) (fun _ _ _ h => h) (Or.inl ⟨by rfl, ?_⟩) (by assumption) rfl ?_
        rotate_left
        · (intro w hSw; (try dsimp only at hSw); go_simp); try with_reducible rfl
        (try simp only [Act.put, List.setIfInBounds_toArray, List.set_cons_zero, List.set_cons_succ])
        refine Go.Proofs.YtggogenhakdhiaaDoorW.PrintLast.take_ (i := 1) (N := some 74) (v := ?_) #[true, true, false, false, false, false, false, false, false, false, false] rfl rfl (by kernel_rfl) (fun _ _ _ h => h) (Or.inl ⟨by rfl, ?_⟩) (by assumption) rfl ?_
        rotate_left
        · (intro w hSw; (try dsimp only at hSw); go_simp); try with_reducible rfl
        (try simp only [Act.put, List.setIfInBounds_toArray, List.set_cons_zero, List.set_cons_succ])
        refine Go.Proofs.YtggogenhakdhiaaDoorW.PrintLast.take_ (i := 2) (N := some 75) (v := ?_) #[true, true, true, false, false, false, false, false, false, false, false] rfl rfl (by kernel_rfl) (fun _ _ _ h => h) (Or.inl ⟨by rfl, ?_⟩) (by assumption) rfl ?_
        rotate_left
        · (intro w hSw; (try dsimp only at hSw); go_simp); try with_reducible rfl
        (try simp only [Act.put, List.setIfInBounds_toArray, List.set_cons_zero, List.set_cons_succ])
        refine Go.Proofs.YtggogenhakdhiaaDoorW.PrintLast.take_ (i := 3) (N := some 76) (v := ?_) #[true, true, true, true, false, false, false, false, false, false, false] rfl rfl (by kernel_rfl) (fun _ _ _ h => h) (Or.inl ⟨by rfl, ?_⟩) (by assumption) rfl ?_
        rotate_left
        · (intro w hSw; (try dsimp only at hSw); go_simp); try with_reducible rfl
        (try simp only [Act.put, List.setIfInBounds_toArray, List.set_cons_zero, List.set_cons_succ])
        refine Go.Proofs.YtggogenhakdhiaaDoorW.PrintLast.take_ (i := 4) (N := some 77) (v := ?_) #[true, true, true, true, true, false, false, false, false, false, false] rfl rfl (by kernel_rfl) (fun _ _ _ h => h) (Or.inl ⟨by rfl, ?_⟩) (by assumption) rfl ?_
        rotate_left
        · (intro w hSw; (try dsimp only at hSw); go_simp); try with_reducible rfl
        (try simp only [Act.put, List.setIfInBounds_toArray, List.set_cons_zero, List.set_cons_succ])
        refine Go.Proofs.YtggogenhakdhiaaDoorW.PrintLast.take_ (i := 5) (N := some 78) (v := ?_) #[true, true, true, true, true, true, false, false, false, false, false] rfl rfl (by kernel_rfl) (fun _ _ _ h => h) (Or.inl ⟨by rfl, ?_⟩) (by assumption) rfl ?_
        rotate_left
        · (intro w hSw; (try dsimp only at hSw); go_simp); try with_reducible rfl
        (try simp only [Act.put, List.setIfInBounds_toArray, List.set_cons_zero, List.set_cons_succ])
        refine Go.Proofs.YtggogenhakdhiaaDoorW.PrintLast.one_ (i := 6) (N := some 79) #[true, true, true, true, true, true, true, false, false, false, false] rfl rfl (by kernel_rfl) (by decide) (fun K hK => ?_)
        refine step_call (o := ⟨some 79, _, _, _, _, _⟩) rfl Tryd.func51 (by kernel_rfl) (by kernel_rfl) [.tmp 78] #[102] rfl [.agg #[.int .i64 k, .slice A l.length c]] rfl HC ?_
        rintro e u8 ⟨rfl, hB8⟩
        refine ⟨_, rfl, ?_⟩
        have hB78 : Below u7.heap.size u7 u8 := below_of_drew hB8
        have hb8 := (hB78.block gm (Array.getElem?_eq_some_iff.1 hb7).1).trans hb7
        have q3 := cell_of_row u8 gm 3 _ _ _ hb8
        have r3 := frozen_of_row u8 gm 3 _ _ hb8
        refine hK.out _ _ ⟨cell_below hB78 z3, cell_below hB78 z1, cell_below hB78 z2⟩ (fun hHeld => ?_)
        clear hK K
        (try simp only [Act.put, List.setIfInBounds_toArray, List.set_cons_zero, List.set_cons_succ])
        refine Go.Proofs.YtggogenhakdhiaaDoorW.PrintLast.take_ (i := 7) (N := some 80) (v := ?_) #[true, true, true, true, true, true, true, true, false, false, false] rfl rfl (by kernel_rfl) (fun _ _ _ h => h) (Or.inl ⟨by rfl, ?_⟩) (by assumption) rfl ?_
        rotate_left
        · (intro w hSw; go_simp); try with_reducible rfl
        (try simp only [Act.put, List.setIfInBounds_toArray, List.set_cons_zero, List.set_cons_succ])
        refine Go.Proofs.YtggogenhakdhiaaDoorW.PrintLast.take_ (i := 8) (N := some 81) (v := ?_) #[true, true, true, true, true, true, true, true, true, false, false] rfl rfl (by kernel_rfl) (fun _ _ _ h => h) (Or.inl ⟨by rfl, ?_⟩) (by assumption) rfl ?_
        rotate_left
        · (intro w hSw; go_simp); try with_reducible rfl
        (try simp only [Act.put, List.setIfInBounds_toArray, List.set_cons_zero, List.set_cons_succ])
        refine Go.Proofs.YtggogenhakdhiaaDoorW.PrintLast.take_ (i := 9) (N := some 82) (v := ?_) #[true, true, true, true, true, true, true, true, true, true, false] rfl rfl (by kernel_rfl) (fun _ _ _ h => h) (Or.inl ⟨by rfl, ?_⟩) (by assumption) rfl ?_
        rotate_left
        · (intro w hSw; go_simp); try with_reducible rfl
        (try simp only [Act.put, List.setIfInBounds_toArray, List.set_cons_zero, List.set_cons_succ])
        refine Go.Proofs.YtggogenhakdhiaaDoorW.PrintLast.last_ (i := 10) (N := none) #[true, true, true, true, true, true, true, true, true, true, true] rfl rfl (by kernel_rfl) (by decide) (fun K hK => ?_)
        go_simp
        refine hK.out _ _ ?_
        clear hK K
        (try simp only [Act.put, List.setIfInBounds_toArray, List.set_cons_zero, List.set_cons_succ])
        refine Go.Proofs.YtggogenhakdhiaaDoorW.PrintLast.done_ (by kernel_rfl) ?_
        go_wp2
        go_ret
        have hgu : gm < u0.heap.size := by omega
        have hCt : Chg (fun j => col6 j = 4) u0 (u8.setCell ⟨gm, 3, none⟩ (.int .i64 ((usedOf s.recs : Int) + (ks : Int)))) := (hC7.trans (T := fun j => col6 j = 4) (Chg.of_below hB78) (fun j hj _ => hj)).setCell (p := ⟨gm, 3, none⟩) hcg6 _
        have hb9 := Go.Proofs.YtggogenhakdhiaaDoorW.PrintWords.blk_set hb8 3 (.int .i64 ((usedOf s.recs : Int) + (ks : Int)))
        have hR9 := (hR7.below hB78).set hb8 (by decide) (by decide) 3 (.int .i64 ((usedOf s.recs : Int) + (ks : Int)))
        have hPf : RM (u8.setCell ⟨gm, 3, none⟩ (.int .i64 ((usedOf s.recs : Int) + (ks : Int)))) (dye u0 col6 4) gm gr n (.slice A70 (s.recs.length + 1) c70) d2 { s with recs := s.recs ++ [(k, l)] } := by
          refine ⟨?_, ⟨?_, hR9⟩, (dye_old hgu).trans hcg6⟩
          · obtain ⟨sv, tv, hD, hf⟩ := hP8.D
            exact ⟨sv, tv, hD.chg hCt (fun j hj hs => by have := hf j hj; omega), fun j hj => (dye_old (hD.lt j hj)).trans (hf j hj)⟩
          · rw [hb9]
            show some (Obj.cells #[_, _, _, _, _] _ _) = _
            rw [show usedOf ({ s with recs := s.recs ++ [(k, l)] } : LS).recs = usedOf s.recs + ks from hus.out, Int.natCast_add]
        have hSf : Step 2 4 col6 u0 (u8.setCell ⟨gm, 3, none⟩ (.int .i64 ((usedOf s.recs : Int) + (ks : Int)))) (dye u0 col6 4) := ⟨hCt.mono (fun j _ hj => .inr hj), fun j hj => dye_old hj⟩
        exact ⟨rfl, _, _, hPf, hS0.trans hSf⟩
    · have hB1 : Below u0.heap.size u0 (u0.alloc (.cells #[] 5)) := (Below.refl _ _).alloc (Nat.le_refl _) _
      have hg9 := heap_alloc_new u0 (.cells #[] 5)
      have hl9 : u0.heap.size ≤ u0.heap.size := hT0.size
      go_simp
      generalize (u0.alloc (.cells #[] 5)) = u1 at *
      have hT1 : Below u0.heap.size u0 u1 := hT0.trans (hB1.mono hT0.size)
      replace hR8 := hR8.below hB1
      replace hbA8 := hbA8.below hB1
      refine hK.out _ _ ⟨cell_below hT1 hH0.1, cell_below hT1 hH0.2.1, cell_below hT1 hH0.2.2⟩ (fun hHeld => ?_)
      clear hK K
      (try simp only [Act.put, List.setIfInBounds_toArray, List.set_cons_zero, List.set_cons_succ])
      refine Go.Proofs.YtggogenhakdhiaaDoorW.PrintLast.one_ (i := 1) (N := some 56) #[true, true, true, true, true, true, false, true, true, true, true, true, false, false, false, false, false, false, false] rfl rfl (by kernel_rfl) (by decide) (fun K hK => ?_)
      have hB2 : Below u1.heap.size u1 (u1.alloc (.cells #[] 102)) := (Below.refl _ _).alloc (Nat.le_refl _) _
      have hg1 := heap_alloc_new u1 (.cells #[] 102)
      have hl1 : u0.heap.size ≤ u1.heap.size := hT1.size
      go_simp
      generalize (u1.alloc (.cells #[] 102)) = u2 at *
      have hT2 : Below u0.heap.size u0 u2 := hT1.trans (hB2.mono hT1.size)
      replace hR8 := hR8.below hB2
      replace hbA8 := hbA8.below hB2
      replace hg9 := (hB2.block _ (Array.getElem?_eq_some_iff.1 hg9).1).trans hg9
      refine hK.out _ _ ⟨cell_below hT2 hH0.1, cell_below hT2 hH0.2.1, cell_below hT2 hH0.2.2⟩ (fun hHeld => ?_)
      clear hK K
      (try simp only [Act.put, List.setIfInBounds_toArray, List.set_cons_zero, List.set_cons_succ])
      refine Go.Proofs.YtggogenhakdhiaaDoorW.PrintLast.one_ (i := 6) (N := some 61) #[true, true, true, true, true, true, true, true, true, true, true, true, false, false, false, false, false, false, false] rfl rfl (by kernel_rfl) (by decide) (fun K hK => ?_)
      obtain ⟨v61, u3, hr61, hR61, ho61, hB3⟩ := run_clone_recs (P := Tryd.prog) (t := 42) (base := u0.heap.size) (by decide) Tryd.underlying42 info_rrec 42 hg1 hl1 hT2.size hR8 (by omega)
      refine step_builtin (o := ⟨some 61, _, _, _, _, _⟩) rfl (.tmp 56) (.tmp 60) rfl rfl rfl hr61 ?_
      have hT3 : Below u0.heap.size u0 u3 := hT2.trans (hB3.mono hT2.size)
      replace hR8 := hR8.below hB3
      replace hbA8 := hbA8.below hB3
      replace hg9 := (hB3.block _ (Array.getElem?_eq_some_iff.1 hg9).1).trans hg9
      replace hg1 := (hB3.block _ (Array.getElem?_eq_some_iff.1 hg1).1).trans hg1
      refine hK.out _ _ ⟨cell_below hT3 hH0.1, cell_below hT3 hH0.2.1, cell_below hT3 hH0.2.2⟩ (fun hHeld => ?_)
      clear hK K
      (try simp only [Act.put, List.setIfInBounds_toArray, List.set_cons_zero, List.set_cons_succ])
      refine Go.Proofs.YtggogenhakdhiaaDoorW.PrintLast.one_ (i := 12) (N := some 67) #[true, true, true, true, true, true, true, true, true, true, true, true, true, false, false, false, false, false, false] rfl rfl (by kernel_rfl) (by decide) (fun K hK => ?_)
      obtain ⟨A67, c67, u4, hr67, hO67, hB4⟩ := run_clone_bys (P := Tryd.prog) (t := 22) (base := u0.heap.size) Tryd.underlying22 (by kernel_rfl) 22 hg9 hl9 hT3.size hbA8 (by omega)
      refine step_builtin (o := ⟨some 67, _, _, _, _, _⟩) rfl (.tmp 64) (.tmp 66) rfl rfl rfl hr67 ?_
      have hT4 : Below u0.heap.size u0 u4 := hT3.trans (hB4.mono hT3.size)
      replace hR8 := hR8.below hB4
      replace hbA8 := hbA8.below hB4
      replace hg9 := (hB4.block _ (Array.getElem?_eq_some_iff.1 hg9).1).trans hg9
      replace hg1 := (hB4.block _ (Array.getElem?_eq_some_iff.1 hg1).1).trans hg1
      replace hR61 := hR61.below hB4
      refine hK.out _ _ ⟨cell_below hT4 hH0.1, cell_below hT4 hH0.2.1, cell_below hT4 hH0.2.2⟩ (fun hHeld => ?_)
      clear hK K
      (try simp only [Act.put, List.setIfInBounds_toArray, List.set_cons_zero, List.set_cons_succ])
      refine Go.Proofs.YtggogenhakdhiaaDoorW.PrintLast.take_ (i := 13) (N := some 68) (v := ?_) #[true, true, true, true, true, true, true, true, true, true, true, true, true, true, false, false, false, false, false] rfl rfl (by kernel_rfl) (fun _ _ _ h => h) (Or.inl ⟨by rfl, ?_⟩) (by assumption) rfl ?_
      rotate_left
      · (intro w hSw; go_simp); try with_reducible rfl
      (try simp only [Act.put, List.setIfInBounds_toArray, List.set_cons_zero, List.set_cons_succ])
      refine Go.Proofs.YtggogenhakdhiaaDoorW.PrintLast.one_ (i := 14) (N := some 69) #[true, true, true, true, true, true, true, true, true, true, true, true, true, true, true, false, false, false, false] rfl rfl (by kernel_rfl) (by decide) (fun K hK => ?_)
      have hB5 : Below u4.heap.size u4 (u4.alloc (.cells #[.int .i64 k, .slice A67 l.length c67] 102)) := (Below.refl _ _).alloc (Nat.le_refl _) _
      have hR69 := RecsAt.one (T := 102) (k := k) hO67
      go_simp
      generalize (u4.alloc (.cells #[.int .i64 k, .slice A67 l.length c67] 102)) = u5 at *
      have hT5 : Below u0.heap.size u0 u5 := hT4.trans (hB5.mono hT4.size)
      replace hR8 := hR8.below hB5
      replace hbA8 := hbA8.below hB5
      replace hg9 := (hB5.block _ (Array.getElem?_eq_some_iff.1 hg9).1).trans hg9
      replace hg1 := (hB5.block _ (Array.getElem?_eq_some_iff.1 hg1).1).trans hg1
      replace hR61 := hR61.below hB5
      replace hO67 := hO67.same (fun k hk _ => hB5.block k hk)
      refine hK.out _ _ ⟨cell_below hT5 hH0.1, cell_below hT5 hH0.2.1, cell_below hT5 hH0.2.2⟩ (fun hHeld => ?_)
      clear hK K
      (try simp only [Act.put, List.setIfInBounds_toArray, List.set_cons_zero, List.set_cons_succ])
      refine Go.Proofs.YtggogenhakdhiaaDoorW.PrintLast.one_ (i := 15) (N := some 70) #[true, true, true, true, true, true, true, true, true, true, true, true, true, true, true, true, false, false, false] rfl rfl (by kernel_rfl) (by decide) (fun K hK => ?_)
      refine step_append_recs (o := ⟨some 70, _, _, _, _, _⟩) rfl (.tmp 61) (.tmp 69) 42 102 rfl (by decide) Tryd.underlying42 info_rrec rfl hR61 rfl hR69 (by show s.recs.length + 1 ≤ _; omega) ?_
      intro v70 u6 hR70 hg70
      obtain ⟨A70, c70, hv70⟩ := hR70.slice
      subst hv70
      have hT6 : Below u0.heap.size u0 u6 := hT5.trans (below_grown hg70 (fun j hj => ho61 j hj) hT5.size)
      have hb6 := (hT6.block gm (Array.getElem?_eq_some_iff.1 hP8.L.blk).1).trans hP8.L.blk
      have q1 := cell_of_row u6 gm 1 _ _ _ hb6
      have r1 := frozen_of_row u6 gm 1 _ _ hb6
      refine hK.out _ _ ⟨cell_below hT6 hH0.1, cell_below hT6 hH0.2.1, cell_below hT6 hH0.2.2⟩ (fun hHeld => ?_)
      clear hK K
      (try simp only [Act.put, List.setIfInBounds_toArray, List.set_cons_zero, List.set_cons_succ])
      refine Go.Proofs.YtggogenhakdhiaaDoorW.PrintLast.take_ (i := 16) (N := some 71) (v := ?_) #[true, true, true, true, true, true, true, true, true, true, true, true, true, true, true, true, true, false, false] rfl rfl (by kernel_rfl) (fun _ _ _ h => h) (Or.inl ⟨by rfl, ?_⟩) (by assumption) rfl ?_
      rotate_left
      · (intro w hSw; go_simp); try with_reducible rfl
      (try simp only [Act.put, List.setIfInBounds_toArray, List.set_cons_zero, List.set_cons_succ])
      refine Go.Proofs.YtggogenhakdhiaaDoorW.PrintLast.take_ (i := 17) (N := some 72) (v := ?_) #[true, true, true, true, true, true, true, true, true, true, true, true, true, true, true, true, true, true, false] rfl rfl (by kernel_rfl) (fun _ _ _ h => h) (Or.inl ⟨by rfl, ?_⟩) (by assumption) rfl ?_
      rotate_left
      · (intro w hSw; go_simp); try with_reducible rfl
      (try simp only [Act.put, List.setIfInBounds_toArray, List.set_cons_zero, List.set_cons_succ])
      refine Go.Proofs.YtggogenhakdhiaaDoorW.PrintLast.last_ (i := 18) (N := none) #[true, true, true, true, true, true, true, true, true, true, true, true, true, true, true, true, true, true, true] rfl rfl (by kernel_rfl) (by decide) (fun K hK => ?_)
      go_simp
      refine hK.out _ _ ?_
      clear hK K
      (try simp only [Act.put, List.setIfInBounds_toArray, List.set_cons_zero, List.set_cons_succ])
      refine Go.Proofs.YtggogenhakdhiaaDoorW.PrintLast.done_ (by kernel_rfl) ?_
      have e70 : (s.recs ++ [(k, l)]).length = s.recs.length + 1 := by simp
      rw [e70] at hR70
      have hcg6 := hP8.cg
      have hgm : gm < w.heap.size := (Array.getElem?_eq_some_iff.1 h.L.blk).1
      have hgx : w.heap.size ≠ gm := by omega
      have hC7 : Chg (fun j => col6 j = 4) u0 (u6.setCell ⟨gm, 1, none⟩ (.slice A70 (s.recs.length + 1) c70)) := (Chg.of_below hT6).setCell (p := ⟨gm, 1, none⟩) hcg6 _
      have hb7 := Go.Proofs.YtggogenhakdhiaaDoorW.PrintWords.blk_set hb6 1 (.slice A70 (s.recs.length + 1) c70)
      have hR7 := (hR70.mono (Z' := fun j => dye u0 col6 4 j = 4) (fun j _ hz => by
        by_cases hj : j < u0.heap.size
        · rw [dye_old hj]
          rcases hz with (hz | hz) | (hz | hz) | hz
          · exact hz
          · omega
          · omega
          · have := hT4.size; omega
          · have := hT5.size; omega
        · exact dye_new (by omega))).set hb6 (by decide) (by decide) 1 (.slice A70 (s.recs.length + 1) c70)
      have hCg : Chg (fun j => j = gm) u6 (u6.setCell ⟨gm, 1, none⟩ (.slice A70 (s.recs.length + 1) c70)) := (Chg.refl (fun j => j = gm) u6).setCell (p := ⟨gm, 1, none⟩) rfl _
      have hw0 : w.heap.size < u0.heap.size := (Array.getElem?_eq_some_iff.1 hX8).1
      have hX9 := (hCg.block w.heap.size (by have := hT6.size; omega) hgx).trans ((hT6.block w.heap.size hw0).trans hX8)
      generalize (u6.setCell ⟨gm, 1, none⟩ (.slice A70 (s.recs.length + 1) c70)) = u7 at *
      have z3 : u7.cell? ⟨gm, 3, none⟩ = some (.int .i64 (usedOf s.recs : Nat)) := by have := cell_of_row u7 gm 3 _ _ _ hb7; exact this
      have z1 := cell_of_row u7 w.heap.size 0 _ _ _ hX9
      have z2 := cell_of_row u7 w.heap.size 1 _ _ _ hX9
      have HC := HN u7.drew
      clear HN q1 r1 hH0 hHeld hg1 hg9 hr61 hr67
      go_upto_region 11 with fail
      refine Go.Proofs.YtggogenhakdhiaaDoorW.PrintLast.start_ (n := 11) (S := fun w' => w'.cell? ⟨gm, 3, none⟩ = some (.int .i64 (usedOf s.recs : Nat)) ∧ w'.cell? ⟨w.heap.size, 0, none⟩ = some (.int .i64 k) ∧ w'.cell? ⟨w.heap.size, 1, none⟩ = some (.slice A l.length c)) (ds := [10]) #[false, false, false, false, false, false, false, false, false, false, false] (by kernel_rfl) rfl rfl ⟨z3, z1, z2⟩ (fun hHeld => ?_)
      refine Go.Proofs.YtggogenhakdhiaaDoorW.PrintLast.take_ (i := 0) (N := some 73) (v := ?_) #[true, false, false, false, false, false, false, false, false, false, false] rfl rfl (by kernel_rfl) (fun _ _ _ h => h) (Or.inl ⟨by rfl, ?_⟩) (by assumption) rfl ?_
      rotate_left
      · (intro w hSw; (try dsimp only at hSw); go_simp); try with_reducible rfl
      (try simp only [Act.put, List.setIfInBounds_toArray, List.set_cons_zero, List.set_cons_succ])
      refine Go.Proofs.YtggogenhakdhiaaDoorW.PrintLast.take_ (i := 1) (N := some 74) (v := ?_) #[true, true, false, false, false, false, false, false, false, false, false] rfl rfl (by kernel_rfl) (fun _ _ _ h => h) (Or.inl ⟨by rfl, ?_⟩) (by assumption) rfl ?_
      rotate_left
      · (intro w hSw; (try dsimp only at hSw); go_simp); try with_reducible rfl
      (try simp only [Act.put, List.setIfInBounds_toArray, List.set_cons_zero, List.set_cons_succ])
      refine Go.Proofs.YtggogenhakdhiaaDoorW.PrintLast.take_ (i := 2) (N := some 75) (v := ?_) #[true, true, true, false, false, false, false, false, false, false, false] rfl rfl (by kernel_rfl) (fun _ _ _ h => h) (Or.inl ⟨by rfl, ?_⟩) (by assumption) rfl ?_
      rotate_left
      · (intro w hSw; (try dsimp only at hSw); go_simp); try with_reducible rfl
      (try simp only [Act.put, List.setIfInBounds_toArray, List.set_cons_zero, List.set_cons_succ])
      refine Go.Proofs.YtggogenhakdhiaaDoorW.PrintLast.take_ (i := 3) (N := some 76) (v := ?_) #[true, true, true, true, false, false, false, false, false, false, false] rfl rfl (by kernel_rfl) (fun _ _ _ h => h) (Or.inl ⟨by rfl, ?_⟩) (by assumption) rfl ?_
      rotate_left
      · (intro w hSw; (try dsimp only at hSw); go_simp); try with_reducible rfl
      (try simp only [Act.put, List.setIfInBounds_toArray, List.set_cons_zero, List.set_cons_succ])
      refine Go.Proofs.YtggogenhakdhiaaDoorW.PrintLast.take_ (i := 4) (N := some 77) (v := ?_) #[true, true, true, true, true, false, false, false, false, false, false] rfl rfl (by kernel_rfl) (fun _ _ _ h => h) (Or.inl ⟨by rfl, ?_⟩) (by assumption) rfl ?_
      rotate_left
      · (intro w hSw; (try dsimp only at hSw); go_simp); try with_reducible rfl
      (try simp only [Act.put, List.setIfInBounds_toArray, List.set_cons_zero, List.set_cons_succ])
      refine Go.Proofs.YtggogenhakdhiaaDoorW.PrintLast.take_ (i := 5) (N := some 78) (v := ?_) #[true, true, true, true, true, true, false, false, false, false, false] rfl rfl (by kernel_rfl) (fun _ _ _ h => h) (Or.inl ⟨by rfl, ?_⟩) (by assumption) rfl ?_
      rotate_left
      · (intro w hSw; (try dsimp only at hSw); go_simp); try with_reducible rfl
      (try simp only [Act.put, List.setIfInBounds_toArray, List.set_cons_zero, List.set_cons_succ])
      refine Go.Proofs.YtggogenhakdhiaaDoorW.PrintLast.one_ (i := 6) (N := some 79) #[true, true, true, true, true, true, true, false, false, false, false] rfl rfl (by kernel_rfl) (by decide) (fun K hK => ?_)
      refine step_call (o := ⟨some 79, _, _, _, _, _⟩) rfl Tryd.func51 (by kernel_rfl) (by kernel_rfl) [.tmp 78] #[102] rfl [.agg #[.int .i64 k, .slice A l.length c]] rfl HC ?_
      rintro e u8 ⟨rfl, hB8⟩
      refine ⟨_, rfl, ?_⟩
      have hB78 : Below u7.heap.size u7 u8 := below_of_drew hB8
      have hb8 := (hB78.block gm (Array.getElem?_eq_some_iff.1 hb7).1).trans hb7
      have q3 := cell_of_row u8 gm 3 _ _ _ hb8
      have r3 := frozen_of_row u8 gm 3 _ _ hb8
      refine hK.out _ _ ⟨cell_below hB78 z3, cell_below hB78 z1, cell_below hB78 z2⟩ (fun hHeld => ?_)
      clear hK K
      (try simp only [Act.put, List.setIfInBounds_toArray, List.set_cons_zero, List.set_cons_succ])
      refine Go.Proofs.YtggogenhakdhiaaDoorW.PrintLast.take_ (i := 7) (N := some 80) (v := ?_) #[true, true, true, true, true, true, true, true, false, false, false] rfl rfl (by kernel_rfl) (fun _ _ _ h => h) (Or.inl ⟨by rfl, ?_⟩) (by assumption) rfl ?_
      rotate_left
      · (intro w hSw; go_simp); try with_reducible rfl
      (try simp only [Act.put, List.setIfInBounds_toArray, List.set_cons_zero, List.set_cons_succ])
      refine Go.Proofs.YtggogenhakdhiaaDoorW.PrintLast.take_ (i := 8) (N := some 81) (v := ?_) #[true, true, true, true, true, true, true, true, true, false, false] rfl rfl (by kernel_rfl) (fun _ _ _ h => h) (Or.inl ⟨by rfl, ?_⟩) (by assumption) rfl ?_
      rotate_left
      · (intro w hSw; go_simp); try with_reducible rfl
      (try simp only [Act.put, List.setIfInBounds_toArray, List.set_cons_zero, List.set_cons_succ])
      refine Go.Proofs.YtggogenhakdhiaaDoorW.PrintLast.take_ (i := 9) (N := some 82) (v := ?_) #[true, true, true, true, true, true, true, true, true, true, false] rfl rfl (by kernel_rfl) (fun _ _ _ h => h) (Or.inl ⟨by rfl, ?_⟩) (by assumption) rfl ?_
      rotate_left
      · (intro w hSw; go_simp); try with_reducible rfl
      (try simp only [Act.put, List.setIfInBounds_toArray, List.set_cons_zero, List.set_cons_succ])
      refine Go.Proofs.YtggogenhakdhiaaDoorW.PrintLast.last_ (i := 10) (N := none) #[true, true, true, true, true, true, true, true, true, true, true] rfl rfl (by kernel_rfl) (by decide) (fun K hK => ?_)
      go_simp
      refine hK.out _ _ ?_
      clear hK K
      (try simp only [Act.put, List.setIfInBounds_toArray, List.set_cons_zero, List.set_cons_succ])
      refine Go.Proofs.YtggogenhakdhiaaDoorW.PrintLast.done_ (by kernel_rfl) ?_
      go_wp2
      go_ret
      have hgu : gm < u0.heap.size := by omega
      have hCt : Chg (fun j => col6 j = 4) u0 (u8.setCell ⟨gm, 3, none⟩ (.int .i64 ((usedOf s.recs : Int) + (ks : Int)))) := (hC7.trans (T := fun j => col6 j = 4) (Chg.of_below hB78) (fun j hj _ => hj)).setCell (p := ⟨gm, 3, none⟩) hcg6 _
      have hb9 := Go.Proofs.YtggogenhakdhiaaDoorW.PrintWords.blk_set hb8 3 (.int .i64 ((usedOf s.recs : Int) + (ks : Int)))
      have hR9 := (hR7.below hB78).set hb8 (by decide) (by decide) 3 (.int .i64 ((usedOf s.recs : Int) + (ks : Int)))
      have hPf : RM (u8.setCell ⟨gm, 3, none⟩ (.int .i64 ((usedOf s.recs : Int) + (ks : Int)))) (dye u0 col6 4) gm gr n (.slice A70 (s.recs.length + 1) c70) d2 { s with recs := s.recs ++ [(k, l)] } := by
        refine ⟨?_, ⟨?_, hR9⟩, (dye_old hgu).trans hcg6⟩
        · obtain ⟨sv, tv, hD, hf⟩ := hP8.D
          exact ⟨sv, tv, hD.chg hCt (fun j hj hs => by have := hf j hj; omega), fun j hj => (dye_old (hD.lt j hj)).trans (hf j hj)⟩
        · rw [hb9]
          show some (Obj.cells #[_, _, _, _, _] _ _) = _
          rw [show usedOf ({ s with recs := s.recs ++ [(k, l)] } : LS).recs = usedOf s.recs + ks from hus.out, Int.natCast_add]
      have hSf : Step 2 4 col6 u0 (u8.setCell ⟨gm, 3, none⟩ (.int .i64 ((usedOf s.recs : Int) + (ks : Int)))) (dye u0 col6 4) := ⟨hCt.mono (fun j _ hj => .inr hj), fun j hj => dye_old hj⟩
      exact ⟨rfl, _, _, hPf, hS0.trans hSf⟩

  · have he1 : (e2 != 0) = true := by rw [bne_iff_ne]; exact he
    have he2 : (e2 == 0) = false := by rw [beq_eq_false_iff_ne]; exact he
    have hapr : ap = (d2, { s with down := true }, e2) := by rw [hap.out, if_pos he]
    subst hapr
    rw [decide_eq_true he, Bool.or_true] at hP6
    clear hap
    go_wp2_with fail
    go_ret
    exact ⟨rfl, col6, v, hP6, hS16⟩
end
end Go.Proofs.YtggogenhakdhiaaDoor
end
section
set_option linter.unusedVariables false
set_option linter.unusedSimpArgs false
attribute [local go_sem ↓] Go.wp_at_zero Go.wp_at_succ
namespace Go.Proofs.YtggogenhakdhiaaDoor
open Go.RowKit

/-- the first record that is wrong, or none -/
def wrongsOf : List (Int × List UInt8) → Int
  | [] => 0
  | r :: l => if wrongOf r.1 r.2.length ≠ 0 then wrongOf r.1 r.2.length else wrongsOf l
/-- the sectors of some records -/
def packAll (l : List (Int × List UInt8)) : List UInt8 := (l.map fun r => packB r.1.toNat r.2).flatten
/-- what Rewrite does, and answers -/
def rewriteOf (n : Nat) (d : DS) (s : LS) (l : List (Int × List UInt8)) : DS × LS × Int :=
  if (s.down || d.down) = true then (d, { s with down := true }, 50)
  else if wrongsOf l ≠ 0 then (d, s, wrongsOf l)
  else if halfOf n < usedOf l then (d, s, 4)
  else if s.gen = 1099511627776 then (d, s, 2)
  else if (layOf n (firstOf n (s.gen + 1)) (packAll l) (usedOf l) (halfOf n) d).2 ≠ 0 then ((layOf n (firstOf n (s.gen + 1)) (packAll l) (usedOf l) (halfOf n) d).1, { s with down := true }, (layOf n (firstOf n (s.gen + 1)) (packAll l) (usedOf l) (halfOf n) d).2)
  else if (writeOf n (layOf n (firstOf n (s.gen + 1)) (packAll l) (usedOf l) (halfOf n) d).1 0 (headB (s.gen + 1))).2 ≠ 0 then ((writeOf n (layOf n (firstOf n (s.gen + 1)) (packAll l) (usedOf l) (halfOf n) d).1 0 (headB (s.gen + 1))).1, { s with down := true }, (writeOf n (layOf n (firstOf n (s.gen + 1)) (packAll l) (usedOf l) (halfOf n) d).1 0 (headB (s.gen + 1))).2)
  else ((writeOf n (layOf n (firstOf n (s.gen + 1)) (packAll l) (usedOf l) (halfOf n) d).1 0 (headB (s.gen + 1))).1, { s with gen := s.gen + 1, recs := l }, 0)
theorem wrongsOf_drop (l : List (Int × List UInt8)) (j : Nat) (hj : j < l.length) : wrongsOf (l.drop j) = if wrongOf l[j].1 l[j].2.length ≠ 0 then wrongOf l[j].1 l[j].2.length else wrongsOf (l.drop (j + 1)) := by
  rw [List.drop_eq_getElem_cons hj]
  rfl
theorem usedOf_take (l : List (Int × List UInt8)) (j : Nat) (hj : j < l.length) : usedOf (l.take (j + 1)) = usedOf (l.take j) + secs l[j].2.length := by
  rw [List.take_succ_eq_append_getElem hj, usedOf_snoc]
theorem packAll_take (l : List (Int × List UInt8)) (j : Nat) (hj : j < l.length) : packAll (l.take (j + 1)) = packAll (l.take j) ++ packB l[j].1.toNat l[j].2 := by
  unfold packAll
  rw [List.take_succ_eq_append_getElem hj, List.map_append, List.flatten_append]
  simp only [List.map_cons, List.map_nil, List.flatten_cons, List.flatten_nil, List.append_nil]
theorem wrongsOf_zero : ∀ (l : List (Int × List UInt8)), wrongsOf l = 0 → ∀ r ∈ l, 1 ≤ r.1 ∧ r.1 ≤ 255 ∧ r.2.length ≤ 262144
  | [], _, r, hr => by simp at hr
  | x :: l, h, r, hr => by
    unfold wrongsOf at h
    by_cases he : wrongOf x.1 x.2.length ≠ 0
    · rw [if_pos he] at h; exact absurd h he
    · rw [if_neg he] at h
      rcases List.mem_cons.1 hr with rfl | hr
      · have h0 : wrongOf r.1 r.2.length = 0 := by omega
        unfold wrongOf at h0
        split at h0
        · omega
        · split at h0 <;> omega
      · exact wrongsOf_zero l h r hr
theorem packAll_length (l : List (Int × List UInt8)) : (packAll l).length = 64 * usedOf l := by
  induction l with
  | nil => rfl
  | cons r l ih =>
    unfold packAll usedOf at *
    rw [List.map_cons, List.flatten_cons, List.length_append, ih, packB_length, List.map_cons, List.sum_cons]
    omega
/-- records that can be read, in blocks of F -/
def RecsF (w : World) (F : Nat → Prop) (A : Option Addr) (l : List (Int × List UInt8)) : Prop :=
  ∀ i (hi : i < l.length), ∃ g o B c, A = some ⟨g, o, none⟩ ∧ F g ∧ w.cell? ⟨g, o + i * 2, none⟩ = some (.int .i64 (l[i]).1) ∧ w.cell? ⟨g, o + i * 2 + 1, none⟩ = some (.slice B (l[i]).2.length c) ∧ Bys w B (l[i]).2.length (l[i]).2 ∧ ∀ ad, B = some ad → (l[i]).2.length = 0 ∨ F ad.block
theorem RecsF.r {w : World} {F : Nat → Prop} {A : Option Addr} {l : List (Int × List UInt8)} (h : RecsF w F A l) : RecsR w A l := fun i hi => by
  obtain ⟨g, o, B, c, e, _, h1, h2, h3, _⟩ := h i hi
  exact ⟨g, o, B, c, e, h1, h2, h3⟩
theorem RecsF.chg {w w' : World} {F S : Nat → Prop} {A : Option Addr} {l : List (Int × List UInt8)} (h : RecsF w F A l) (hc : Chg S w w') (hF : ∀ k, k < w.heap.size → F k → ¬ S k) : RecsF w' F A l := fun i hi => by
  obtain ⟨g, o, B, c, e, hg, h1, h2, h3, h4⟩ := h i hi
  have hl := World.block_lt_of_cell? w _ h1
  have hb := hc.block g hl (hF g hl hg)
  refine ⟨g, o, B, c, e, hg, (World.cell?_of_block hb).trans h1, (World.cell?_of_block hb).trans h2, h3.chg' hc (fun ad e => ?_), h4⟩
  rcases h4 ad e with h0 | h0
  · exact .inl h0
  · rcases Nat.eq_zero_or_pos (l[i]).2.length with h5 | h5
    · exact .inl h5
    · obtain ⟨ad', e', hv⟩ := h3.cell 0 h5
      rw [e] at e'
      cases e'
      have := World.block_lt_of_cell? w _ hv
      rw [add_block] at this
      exact .inr (hF _ this h0)
theorem RecsF.mono {w : World} {F F' : Nat → Prop} {A : Option Addr} {l : List (Int × List UInt8)} (h : RecsF w F A l) (hF : ∀ k, k < w.heap.size → F k → F' k) : RecsF w F' A l := fun i hi => by
  obtain ⟨g, o, B, c, e, hg, h1, h2, h3, h4⟩ := h i hi
  refine ⟨g, o, B, c, e, hF g (World.block_lt_of_cell? w _ h1) hg, h1, h2, h3, fun ad e => ?_⟩
  rcases h4 ad e with h0 | h0
  · exact .inl h0
  · rcases Nat.eq_zero_or_pos (l[i]).2.length with h5 | h5
    · exact .inl h5
    · obtain ⟨ad', e', hv⟩ := h3.cell 0 h5
      rw [e] at e'
      cases e'
      have := World.block_lt_of_cell? w _ hv
      rw [add_block] at this
      exact .inr (hF _ this h0)
theorem RecsF.below {w w' : World} {F : Nat → Prop} {A : Option Addr} {l : List (Int × List UInt8)} (h : RecsF w F A l) (hb : Below w.heap.size w w') : RecsF w' F A l := h.chg (S := fun _ => False) (Chg.of_below hb) (fun _ _ _ hk => hk.elim)
section
variable (w : World) (col : Nat → Nat) (gl ga n : Nat) (v : Value) (d : DS) (s : LS) (A : Option Addr) (c : Nat) (l : List (Int × List UInt8))
set_option maxRecDepth 20000 in
theorem rewrite_stuck (h : PM w col gl ga n v d s) (hd : (s.down || d.down) = true) :
    Calls Tryd.prog 24 #[.pointer (some ⟨gl, 0, none⟩), .slice A l.length c] w (PActs (.int .i64 50) col gl ga n d { s with down := true } w) := by
  have HS := stuck_walk _ col gl ga n v d s h
  rw [hd] at HS
  replace hd := Go.Lib.hid hd
  go_enter Tryd.func24, Tryd.ntmps24
  go_wp2_with (go_at_call 57; go_must (refine HS.mono ?_; rintro e w1 ⟨rfl, hP1, hS1⟩))
  go_ret
  exact ⟨rfl, col, v, hP1, hS1⟩
set_option maxHeartbeats 4000000 in
set_option maxRecDepth 20000 in
theorem rewrite_go (h : PM w col gl ga n v d s) (hd : (s.down || d.down) = false) (hg : s.gen ≤ 1099511627776) (hr : RecsF w (fun k => col k ≠ 1 ∧ col k ≠ 3) A l) (hlc : l.length ≤ c) (hll : l.length ≤ 1000000) (hlb : ∀ r ∈ l, r.2.length ≤ 100000000000000)
    (ht : TabAt w) (htc : col 0 = 0) (htr : d.trail.length + 17000 ≤ 1000000) :
    Calls Tryd.prog 24 #[.pointer (some ⟨gl, 0, none⟩), .slice A l.length c] w (PActs (.int .i64 (rewriteOf n d s l).2.2) col gl ga n (rewriteOf n d s l).1 (rewriteOf n d s l).2.1 w) := by
  obtain ⟨ap, hap1⟩ : ∃ x, x = rewriteOf n d s l := ⟨_, rfl⟩
  rw [← hap1]
  have hap := hap1
  unfold rewriteOf at hap
  rw [if_neg (by rw [hd]; simp)] at hap
  clear hap1
  have htlt : 0 < w.heap.size := World.block_lt_of_cell? w _ (ht 0 (by omega))
  refine Calls.mono (R := PActs (.int .i64 ap.2.2) (dye w col 7) gl ga n ap.1 ap.2.1 w) ?_ (fun e w' hR => hR.of (fun k hk => dye_old hk))
  have h := h.dyed 7
  have h7 : ∀ j, w.heap.size ≤ j → dye w col 7 j = 7 := fun j hj => dye_new hj
  have htc7 : dye w col 7 0 = 0 := (dye_old htlt).trans htc
  have hr := hr.mono (F' := fun k => k < w.heap.size ∧ dye w col 7 k ≠ 1 ∧ dye w col 7 k ≠ 3) (fun k hk hF => ⟨hk, by rw [dye_old hk]; exact hF⟩)
  clear htc
  generalize dye w col 7 = col at *
  have HS := stuck_walk _ col gl ga n v d s h
  rw [hd] at HS
  have hsd : ({ s with down := false } : LS) = s := by cases s; simp at hd; simp [hd.1]
  rw [hsd] at HS
  replace hsd := Go.Lib.hid hsd
  replace hd := Go.Lib.hid hd
  replace hap := Go.Lib.hid hap
  have HWx : ∀ (x : World) (r : Int × List UInt8) (B : Option Addr) (cb : Nat), r.2.length ≤ 100000000000000 → Calls Tryd.prog 58 #[.agg #[.int .i64 r.1, .slice B r.2.length cb]] x (fun e w' => e = .returned (.int .i64 (wrongOf r.1 r.2.length)) ∧ Below x.heap.size x w') := fun x r B cb hb => wrong_walk x r.1 B r.2.length cb (by omega)
  go_enter Tryd.func24, Tryd.ntmps24
  go_upto_region 3 with (go_at_call 57; go_must (refine HS.mono ?_; rintro e w1 ⟨rfl, hP1, hS1⟩))
  clear HS
  have hr1 := hr.chg hS1.chg (fun k hk hF hS => by omega)
  have ht1 : TabAt w1 := ht.chg hS1.chg (by show ¬ (col _ = 1 ∨ col _ = 3); rw [htc7]; omega)
  have hsz1 := hS1.chg.size
  go_wp2
  go_loopw [5, 18] (fun u i wr => ∃ j : Nat, j ≤ l.length ∧ i = .int .i64 j ∧ u = .int .i64 (usedOf (l.take j) : Nat) ∧ Below w1.heap.size w1 wr ∧ usedOf (l.take j) ≤ 5000 * j ∧ Hid (wrongsOf l = wrongsOf (l.drop j))) (fun _ i _ => l.length - (intOf i).toNat)
  case atStart => exact ⟨0, by omega, rfl, by simp [usedOf], Below.refl _ _, by simp [usedOf], Go.Lib.hid (by simp)⟩
  case round =>
    obtain ⟨j, hj, rfl, rfl, hBr, hu5, hwr⟩ := hrel
    by_cases hlt : j < l.length
    · have hltz : (j : Int) < (l.length : Int) := by omega
      obtain ⟨g, o, B, cb, hA, hFg, k0, k1, hbB, hFB⟩ := hr1.below hBr j hlt
      subst hA
      have hlbj := hlb l[j] (List.getElem_mem _)
      have hwd := wrongsOf_drop l j hlt
      have hut := usedOf_take l j hlt
      have HWj := HWx (wr.alloc (.cells #[.int .i64 (l[j]).1, .slice B (l[j]).2.length cb] 50)) l[j] B cb hlbj
      have HNj : ∀ x, Calls Tryd.prog 59 #[.int .i64 ((l[j]).2.length : Nat)] x (fun e w' => e = .returned (.int .i64 (secs (l[j]).2.length : Nat)) ∧ x = w') := fun x => sectors_walk' x (l[j]).2.length (by omega)
      generalize l[j] = r at *
      have hw9 : wrongOf r.1 r.2.length = 0 → r.2.length ≤ 262144 := by
        intro e
        unfold wrongOf at e
        split at e
        · omega
        · split at e <;> omega
      generalize wrongOf r.1 r.2.length = e1 at *
      have hX := heap_alloc_new wr (.cells #[.int .i64 r.1, .slice B r.2.length cb] 50)
      by_cases he : e1 = 0
      · subst he
        have hl9 := hw9 rfl
        have hs9 : secs r.2.length ≤ 5000 := by unfold secs; omega
        rw [if_neg (by simp)] at hwd
        have hwr2 : Hid (wrongsOf l = wrongsOf (l.drop (j + 1))) := Go.Lib.hid (by rw [hwr.out, hwd])
        have hadd : IntKind.i64.wrap ((usedOf (l.take j) : Int) + (secs r.2.length : Int)) = ((usedOf (l.take (j + 1)) : Nat) : Int) := by rw [IntKind.wrap_i64, hut]; omega
        replace hut := Go.Lib.hid hut
        clear hwd hwr
        go_wp2_with (first
          | (go_at_call 59; go_must (refine (HNj _).mono ?_; rintro e w9 ⟨rfl, rfl⟩))
          | (go_at_call 58; go_must (refine HWj.mono ?_; rintro e w3 ⟨rfl, hB3⟩; have hX3 := (hB3.block wr.heap.size (by simp)).trans hX; have z1 := cell_of_row w3 wr.heap.size 1 _ _ _ hX3)))
        have hB4 : Below w1.heap.size w1 w3 := (hBr.alloc hBr.size _).trans (hB3.mono (by have := hBr.size; simp; omega))
        go_roundw
        case rel => exact ⟨j + 1, hlt, by go_num, by first | rfl | (rw [hut.out]; go_num), hB4, by rw [hut.out]; omega, hwr2⟩
        case measure => simp [intOf]; omega
      · have he1 : (e1 != 0) = true := by rw [bne_iff_ne]; exact he
        have he2 : (e1 == 0) = false := by rw [beq_eq_false_iff_ne]; exact he
        rw [if_pos he] at hwd
        have hres : ap = (d, s, e1) := by rw [hap.out, if_pos (by rw [hwr.out, hwd]; exact he), hwr.out, hwd]
        replace hres := Go.Lib.hid hres
        clear hwd hut
        go_wp2_with (go_at_call 58; go_must (refine HWj.mono ?_; rintro e w3 ⟨rfl, hB3⟩))
        go_ret
        rw [hres.out]
        have hB4 : Below w1.heap.size w1 w3 := (hBr.alloc hBr.size _).trans (hB3.mono (by have := hBr.size; simp; omega))
        exact ⟨rfl, col, v, hP1.below hB4, hS1.trans (Step.of_below hB4 (fun _ _ => rfl))⟩
    · have hjl : j = l.length := by omega
      subst hjl
      have hw0 : wrongsOf l = 0 := by rw [hwr.out, List.drop_length]; rfl
      have hkind := wrongsOf_zero l hw0
      have hap2 := hap.out
      rw [if_neg (by simpa using hw0)] at hap2
      clear hap hwr hw0 HWx
      rw [List.take_length] at hu5 ⊢
      have hPr := hP1.below hBr
      obtain ⟨c0, c1, -, -, -⟩ := hPr.L.cell
      have hhn : halfOf n ≤ 16384 ∧ firstOf n (s.gen + 1) + halfOf n ≤ n ∧ n ≤ 16384 := by
        obtain ⟨sv, tv, hD, -⟩ := h.D
        have := hD.le
        have := hD.pos
        unfold firstOf halfOf
        split <;> omega
      have HH : ∀ x, PM x col gl ga n v d s → Calls Tryd.prog 41 #[.pointer (some ⟨ga, 0, none⟩)] x (Says (.int .i64 (halfOf n : Nat)) x) := fun x hx => by
        obtain ⟨sv, tv, hD, -⟩ := hx.D
        exact half_walk x ga n sv tv d hD
      have HHr := HH wr hPr
      by_cases hful : halfOf n < usedOf l
      · rw [if_pos hful] at hap2
        subst hap2
        have hfz : (halfOf n : Int) < (usedOf l : Int) := by omega
        go_wp2_with (go_at_call 41; go_must (refine HHr.mono ?_); rintro e w9 ⟨rfl, rfl⟩)
        go_ret
        exact ⟨rfl, col, v, hPr, hS1.trans (Step.of_below hBr (fun _ _ => rfl))⟩
      · rw [if_neg hful] at hap2
        have hfz : ¬ (halfOf n : Int) < (usedOf l : Int) := by omega
        by_cases hmax : s.gen = 1099511627776
        · rw [if_pos hmax] at hap2
          subst hap2
          have hmz : ((s.gen : Int) == 1099511627776) = true := by rw [beq_iff_eq]; omega
          replace hmax := Go.Lib.hid hmax
          go_wp2_with (go_at_call 41; go_must (refine HHr.mono ?_); rintro e w9 ⟨rfl, rfl⟩)
          go_ret
          exact ⟨rfl, col, v, hPr, hS1.trans (Step.of_below hBr (fun _ _ => rfl))⟩
        · rw [if_neg hmax] at hap2
          have hmz : ((s.gen : Int) == 1099511627776) = false := by rw [beq_eq_false_iff_ne]; omega
          replace hap2 := Go.Lib.hid hap2
          go_upto_region 17 with (go_at_call 41; go_must (refine HHr.mono ?_); rintro e w9 ⟨rfl, rfl⟩)
          clear HHr c0 c1
          obtain ⟨wo, rfl⟩ : ∃ wo : World, wo = wr := ⟨_, rfl⟩
          have hrr := hr1.below hBr
          have htr1 := ht1.below hBr
          have hszr := hBr.size
          have hSr := hS1.trans (Step.of_below (i := 1) (j := 3) hBr (fun _ _ => rfl))
          clear hr1 ht1 hP1 hS1 hBr hr ht
          go_wp2
          go_loopw [9, 48] (fun b i wq => ∃ j : Nat, j ≤ l.length ∧ i = .int .i64 j ∧ wq.ownsRow wo.heap.size 5 1 b (64 * usedOf (l.take j)) (bv (packAll (l.take j))) ∧ Below wo.heap.size wo wq) (fun _ i _ => l.length - (intOf i).toNat)
          case atStart => exact ⟨0, by omega, rfl, by simpa [usedOf, packAll, bv] using World.ownsRow_nil wo wo.heap.size 5 1, Below.refl _ _⟩
          case round =>
            obtain ⟨j, hj, rfl, hO, hBq⟩ := hrel
            by_cases hlt : j < l.length
            · have hltz : (j : Int) < (l.length : Int) := by omega
              obtain ⟨g, o, B, cb, hA, hFg, k0, k1, hbB, hFB⟩ := hrr.below hBq j hlt
              subst hA
              obtain ⟨hk1, hk2, hk3⟩ := hkind l[j] (List.getElem_mem _)
              have hut := usedOf_take l j hlt
              have hpt := packAll_take l j hlt
              have hum : usedOf (l.take j) ≤ 5000 * 1000000 := by
                have h9 : ∀ (l' : List (Int × List UInt8)), (∀ r ∈ l', r.2.length ≤ 262144) → usedOf l' ≤ 5000 * l'.length := by
                  intro l'
                  induction l' with
                  | nil => intro _; simp [usedOf]
                  | cons x l' ih =>
                    intro hx
                    have h1 := ih (fun r hr => hx r (List.mem_cons_of_mem _ hr))
                    have h2 := hx x (List.mem_cons_self ..)
                    have h3 : secs x.2.length ≤ 5000 := by unfold secs; omega
                    unfold usedOf at *
                    rw [List.map_cons, List.sum_cons, List.length_cons]
                    omega
                have h10 := h9 (l.take j) (fun r hr => (hkind r (List.mem_of_mem_take hr)).2.2)
                rw [List.length_take] at h10
                omega
              generalize l[j] = r at *
              have hpl := packB_length r.1.toNat r.2
              have hkn : ((r.1.toNat : Nat) : Int) = r.1 := by omega
              have hX := heap_alloc_new wr (.cells #[.int .i64 r.1, .slice B r.2.length cb] 50)
              have hBX : Below wr.heap.size wr (wr.alloc (.cells #[.int .i64 r.1, .slice B r.2.length cb] 50)) := (Below.refl _ _).alloc (Nat.le_refl _) _
              have hBrX := hBq.trans (hBX.mono hBq.size)
              have HP : Calls Tryd.prog 61 #[.agg #[.int .i64 r.1, .slice B r.2.length cb]] (wr.alloc (.cells #[.int .i64 r.1, .slice B r.2.length cb] 50)) (RetBys (wr.alloc (.cells #[.int .i64 r.1, .slice B r.2.length cb] 50)).heap.size 5 (packB r.1.toNat r.2) (wr.alloc (.cells #[.int .i64 r.1, .slice B r.2.length cb] 50))) := by
                have := pack_walk (wr.alloc (.cells #[.int .i64 r.1, .slice B r.2.length cb] 50)) r.1.toNat B cb r.2 (hbB.below hBX) (by omega) (by omega) (htr1.below hBrX)
                rw [hkn] at this
                exact this
              have hs9 : secs r.2.length ≤ 5000 := by unfold secs; omega
              have hp1 := secs_pos r.2.length
              generalize packB r.1.toNat r.2 = pk at *
              generalize secs r.2.length = ks at *
              replace hpl := Go.Lib.hid hpl
              replace hut := Go.Lib.hid hut
              replace hpt := Go.Lib.hid hpt
              replace hkn := Go.Lib.hid hkn
              have hszq := hBrX.size
              go_wp2_with (first
                | (at_builtin; go_must (refine wpList_append_bys (o := ⟨some 55, _, _, _, _, _⟩) wo wo.heap.size rfl (.tmp 52) (.tmp 54) 22 5 rfl Tryd.underlying22 info_b _ (64 * usedOf (l.take j)) _ rfl hO3 A3 (64 * ks) c3 pk rfl (Bys.own hown3) hB3r hB3r.size (by omega) ?_; intro v4 w4 hown4 hB4 _ _ hs4))
                | (go_at_call 61; go_must (refine HP.mono ?_; intro e w3 hR; obtain ⟨A3, c3, rfl, hown3, hB3⟩ := hR.len (show pk.length = 64 * ks from hpl.out); have hO3 := own_below (hO.alloc (.cells #[.int .i64 r.1, .slice B r.2.length cb] 50)) hB3; have hB3r := hBrX.trans (hB3.mono hszq))))
              go_roundw
              case rel => exact ⟨j + 1, hlt, by go_num, by rw [hut.out, hpt.out, bv_append, Nat.mul_add]; exact hown4, hB4⟩
              case measure => simp [intOf]; omega
            · have hjl : j = l.length := by omega
              subst hjl
              rw [List.take_length] at hO
              obtain ⟨A9, c9, hv9⟩ := own_slice hO
              subst hv9
              have hP9 := hPr.below hBq
              have hbyA := Bys.own hO
              have hcA := Go.Proofs.YtggogenhakdhiaaDoorW.PrintWords.own_le hO
              have hAd : ∀ ad, A9 = some ad → col ad.block ≠ 1 ∧ col ad.block ≠ 3 := fun ad e => by have h1 := own_ad hO e; rw [h7 ad.block (by omega)]; omega
              have hus : usedOf l ≤ halfOf n := by omega
              have hgp : IntKind.i64.wrap ((s.gen : Int) + 1) = ((s.gen + 1 : Nat) : Int) := by rw [IntKind.wrap_i64]; omega
              have HF : ∀ x, PM x col gl ga n v d s → Calls Tryd.prog 40 #[.pointer (some ⟨ga, 0, none⟩), .int .i64 ((s.gen : Int) + 1)] x (Says (.int .i64 (firstOf n (s.gen + 1) : Nat)) x) := fun x hx => by
                obtain ⟨sv, tv, hD, -⟩ := hx.D
                have := first_walk x ga n sv tv d hD (s.gen + 1) (by omega)
                rw [Int.natCast_add] at this
                exact this
              have HL : ∀ x, PM x col gl ga n v d s → Bys x A9 (64 * usedOf l) (packAll l) → Calls Tryd.prog 60 #[.pointer (some ⟨gl, 0, none⟩), .int .i64 (firstOf n (s.gen + 1) : Nat), .slice A9 (64 * usedOf l) c9, .int .i64 (halfOf n : Nat)] x
                  (fun e w' => e = .returned (.int .i64 (layOf n (firstOf n (s.gen + 1)) (packAll l) (usedOf l) (halfOf n) d).2) ∧ ∃ col', PM w' col' gl ga n v (layOf n (firstOf n (s.gen + 1)) (packAll l) (usedOf l) (halfOf n) d).1 { s with down := s.down || decide ((layOf n (firstOf n (s.gen + 1)) (packAll l) (usedOf l) (halfOf n) d).2 ≠ 0) } ∧ Step 1 3 col x w' col') :=
                fun x hx hy => lay_walk x col gl ga n v d s hx (firstOf n (s.gen + 1)) (usedOf l) (halfOf n) _ c9 A9 _ hy hAd rfl hcA (by omega) (by omega) (by omega)
              have hltr : (layOf n (firstOf n (s.gen + 1)) (packAll l) (usedOf l) (halfOf n) d).1.trail.length ≤ d.trail.length + usedOf l + 1 := layOf_trail _ _ _ _ _ _ _ (Nat.le_refl _)
              have hap3 := hap2.out
              clear hap2
              generalize layOf n (firstOf n (s.gen + 1)) (packAll l) (usedOf l) (halfOf n) d = lay at *
              obtain ⟨d2, e2⟩ := lay
              simp only at hap3 HL hltr
              replace hap3 := Go.Lib.hid hap3
              have hd9 : Below wr.heap.size wr wr.drew := below_drew (Below.refl _ _)
              have HF9 := HF wr.drew (hP9.below hd9)
              have HH9 := HH wr.drew (hP9.below hd9)
              have HL9 := HL wr.drew (hP9.below hd9) hbyA.drew
              obtain ⟨c0, c1, -, -, -⟩ := hP9.L.cell
              clear HF HL HH hO hbyA hcA hAd
              generalize packAll l = pa at *
              go_upto_region 22 with fail
              go_region_held_law (fun w' => w'.cell? ⟨gl, 0, none⟩ = some (.pointer (some ⟨ga, 0, none⟩)) ∧ w'.cell? ⟨gl, 1, none⟩ = some (.int .i64 (s.gen : Nat))) (first | exact ⟨p0, p1⟩ | go_keep) ((first
                | (go_at_call 60; (with_reducible refine HL9.mono ?_); rintro e w6 ⟨rfl, col6, hP6, hS6⟩; obtain ⟨p0, p1, -, -, -⟩ := hP6.L.cell)
                | (go_at_call 41; (with_reducible refine HH9.mono ?_); rintro e w9 ⟨rfl, rfl⟩)
                | (go_at_call 40; (with_reducible refine HF9.mono ?_); rintro e w9 ⟨rfl, rfl⟩)))
              have hS06 : Step 1 3 col w w6 col6 := ((hSr.trans (Step.of_below hBq (fun _ _ => rfl))).trans (Step.of_below hd9 (fun _ _ => rfl))).trans hS6
              by_cases he : e2 = 0
              · subst he
                have hap4 := hap3.out
                rw [if_neg (by simp)] at hap4
                replace hap4 := Go.Lib.hid hap4
                have hP7 : PM w6 col6 gl ga n v d2 s := by
                  have hsd6 : ({ s with down := s.down || decide ((0 : Int) ≠ 0) } : LS) = s := by cases s; simp
                  rw [hsd6] at hP6
                  exact hP6
                clear hP6 hap3 HF9 HH9 HL9 p0 p1
                obtain ⟨c0, c1, -, -, -⟩ := hP7.L.cell
                have ht6 : TabAt w6 := by
                  have h1 := htr1.below hBq
                  have h2 : TabAt wr.drew := h1.below hd9
                  exact h2.chg hS6.chg (by show ¬ (col _ = 1 ∨ col _ = 3); rw [htc7]; omega)
                have HD := head_walk w6 (s.gen + 1) (by omega) ht6
                have hhl := headB_length (s.gen + 1)
                have HW : ∀ x A' c', Below w6.heap.size w6 x → Bys x A' 64 (headB (s.gen + 1)) → Calls Tryd.prog 63 #[.pointer (some ⟨gl, 0, none⟩), .int .i64 0, .slice A' 64 c'] x
                    (fun e w' => e = .returned (.int .i64 (writeOf n d2 0 (headB (s.gen + 1))).2) ∧ ∃ col', PM w' col' gl ga n v (writeOf n d2 0 (headB (s.gen + 1))).1 { s with down := s.down || decide ((writeOf n d2 0 (headB (s.gen + 1))).2 ≠ 0) } ∧ Step 1 3 col6 x w' col') :=
                  fun x A' c' hx hb' => lwrite_walk x col6 gl ga n v d2 s (hP7.below hx) 0 A' 64 c' _ hb' (by omega)
                rw [Int.natCast_add] at HD
                have hap5 := hap4.out
                generalize writeOf n d2 0 (headB (s.gen + 1)) = wx at *
                generalize headB (s.gen + 1) = hb at *
                obtain ⟨d3, e3⟩ := wx
                simp only at hap5 HW
                replace hhl := Go.Lib.hid hhl
                replace hap5 := Go.Lib.hid hap5
                clear hap4
                go_upto_region 26 with (first
                  | (go_at_call 63; go_must (refine (HW w7 A7 c7 hB7 (Bys.own hown7)).mono ?_; rintro e w8 ⟨rfl, col8, hP8, hS8⟩))
                  | (go_at_call 64; go_must (refine HD.mono ?_; intro e w7 hR; obtain ⟨A7, c7, rfl, hown7, hB7⟩ := hR.len (show hb.length = 64 from hhl.out))))
                have hS08 : Step 1 3 col w w8 col8 := (hS06.trans (Step.of_below hB7 (fun _ _ => rfl))).trans hS8
                by_cases he3 : e3 = 0
                · subst he3
                  have hapr : ap = (d3, { s with gen := s.gen + 1, recs := l }, 0) := by rw [hap5.out, if_neg (by simp)]
                  subst hapr
                  have hP9' : PM w8 col8 gl ga n v d3 s := by
                    have hsd6 : ({ s with down := s.down || decide ((0 : Int) ≠ 0) } : LS) = s := by cases s; simp
                    rw [hsd6] at hP8
                    exact hP8
                  have hrr8 : RecsF w8 (fun k => k < w.heap.size ∧ col k ≠ 1 ∧ col k ≠ 3) A l := by
                    have h1 : RecsF w6 (fun k => k < w.heap.size ∧ col k ≠ 1 ∧ col k ≠ 3) A l := ((hrr.below hBq).below hd9).chg hS6.chg (fun k hk hF hS => by omega)
                    refine (h1.below hB7).chg hS8.chg (fun k hk hF hS => ?_)
                    have h3 := hS06.old k hF.1
                    omega
                  clear hP8 hap5 HD HW hrr hS8 hS6 hP7 hown7 hB7 c0 c1
                  obtain ⟨c0, c1, -, -, -⟩ := hP9'.L.cell
                  have f1 := frozen_of_row w8 gl 1 _ _ hP9'.L.blk
                  have hd8 : Below w8.heap.size w8 w8.drew := below_drew (Below.refl _ _)
                  have HC := copied_rd w8.drew A c l (hrr8.r.below hd8) (by omega) (fun r hr => by have := (hkind r hr).2.2; omega)
                  have hb8 := hP9'.L.blk
                  have hcg8 := hP9'.cg
                  go_upto_region 28 with fail
                  go_region_with (
                    ((go_at_call 62; (with_reducible refine HC.mono ?_); rintro e w9 ⟨v9, rfl, hRv9, hB9⟩; have hB89 : Below w8.heap.size w8 w9 := hd8.trans hB9; have hb9 := (hB89.block gl (Array.getElem?_eq_some_iff.1 hb8).1).trans hb8; have u1 := cell_of_row w9 gl 1 _ _ _ hb9; have u2 := cell_of_row w9 gl 2 _ _ _ hb9; have u3 := cell_of_row w9 gl 3 _ _ _ hb9; have t1 := frozen_of_row w9 gl 1 _ _ hb9; have t2 := frozen_of_row w9 gl 2 _ _ hb9; have t3 := frozen_of_row w9 gl 3 _ _ hb9; obtain ⟨A10, c10, hv10⟩ := hRv9.slice; subst hv10)))
                  all_goals
                    go_wp2_with fail
                    go_ret
                    have hC1 : Chg (fun j => j = gl) w9 (((w9.setCell ⟨gl, 1, none⟩ (.int .i64 ((s.gen : Int) + 1))).setCell ⟨gl, 2, none⟩ (.int .i64 (usedOf l : Nat))).setCell ⟨gl, 3, none⟩ (.slice A10 l.length c10)) := (((Chg.refl (fun j => j = gl) w9).setCell (p := ⟨gl, 1, none⟩) rfl _).setCell (p := ⟨gl, 2, none⟩) rfl _).setCell (p := ⟨gl, 3, none⟩) rfl _
                    have hC2 : Chg (fun j => col8 j = 3) w8 (((w9.setCell ⟨gl, 1, none⟩ (.int .i64 ((s.gen : Int) + 1))).setCell ⟨gl, 2, none⟩ (.int .i64 (usedOf l : Nat))).setCell ⟨gl, 3, none⟩ (.slice A10 l.length c10)) := (Chg.of_below (S := fun j => col8 j = 3) hB89).trans hC1 (fun j hj _ => by rw [hj]; exact hcg8)
                    have hbF := Go.Proofs.YtggogenhakdhiaaDoorW.PrintWords.blk_set (Go.Proofs.YtggogenhakdhiaaDoorW.PrintWords.blk_set (Go.Proofs.YtggogenhakdhiaaDoorW.PrintWords.blk_set hb9 1 (.int .i64 ((s.gen : Int) + 1))) 2 (.int .i64 (usedOf l : Nat))) 3 (.slice A10 l.length c10)
                    have hRF := ((hRv9.ne hb9 (by decide) (by decide)).same (fun j hj hz => hC1.block j hj hz.2)).mono (Z' := fun j => dye w8 col8 3 j = 3) (fun j hj hz => dye_new hz.1)
                    have hgl8 := (Array.getElem?_eq_some_iff.1 hb8).1
                    refine ⟨rfl, dye w8 col8 3, .slice A10 l.length c10, ⟨?_, ⟨?_, hRF⟩, (dye_old hgl8).trans hcg8⟩, hS08.trans ⟨hC2.mono (fun j _ hj => .inr hj), fun j hj => dye_old hj⟩⟩
                    · obtain ⟨sv, tv, hD, hf⟩ := hP9'.D
                      exact ⟨sv, tv, hD.chg hC2 (fun j hj hs => by have := hf j hj; omega), fun j hj => (dye_old (hD.lt j hj)).trans (hf j hj)⟩
                    · rw [hbF]
                      show some (Obj.cells #[_, _, _, _, _] _ _) = _
                      rw [show (({ s with gen := s.gen + 1, recs := l } : LS).gen : Nat) = s.gen + 1 from rfl, Int.natCast_add]
                      rfl
                · have he1 : (e3 != 0) = true := by rw [bne_iff_ne]; exact he3
                  have he2 : (e3 == 0) = false := by rw [beq_eq_false_iff_ne]; exact he3
                  have hapr : ap = (d3, { s with down := true }, e3) := by rw [hap5.out, if_pos he3]
                  subst hapr
                  rw [decide_eq_true he3, Bool.or_true] at hP8
                  clear hap5
                  go_wp2_with fail
                  go_ret
                  exact ⟨rfl, col8, v, hP8, hS08⟩
              · have he1 : (e2 != 0) = true := by rw [bne_iff_ne]; exact he
                have he2 : (e2 == 0) = false := by rw [beq_eq_false_iff_ne]; exact he
                have hapr : ap = (d2, { s with down := true }, e2) := by rw [hap3.out, if_pos he]
                subst hapr
                rw [decide_eq_true he, Bool.or_true] at hP6
                clear hap3
                go_wp2_with fail
                go_ret
                exact ⟨rfl, col6, v, hP6, hS06⟩
end
end Go.Proofs.YtggogenhakdhiaaDoor
end
