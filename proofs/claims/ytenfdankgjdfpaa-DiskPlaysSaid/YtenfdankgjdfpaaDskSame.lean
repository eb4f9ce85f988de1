/- The law's `same`: a disk of the program's tells what the document's does. -/
import Derived.Test.YtenfdankgjdfpaaDskPair
import Derived.Test.YtenfdankgjdfpaaDskTrail
import Derived.Test.YtenfdankgjdfpaaDskRClone
import Derived.Lib.Hide
import Derived.Deep.RegionHeldLaw
import Derived.Deep.DrawnRows
attribute [local go_sem ↓] Go.wp_at_zero Go.wp_at_succ
set_option linter.unusedVariables false
set_option linter.unusedSimpArgs false
namespace Go.Proofs.Ytenfdankgjdfpaa
open Go.RowKit

/-- a row of the call's own, whatever it holds -/
def AnyO (E : TypeId) (w : World) (B n : Nat) (v : Value) : Prop := ∃ xs, xs.length = n ∧ w.ownsRow B E 1 v n xs
theorem AnyO.at_ {E : TypeId} {w : World} {B n c : Nat} {A : Option Addr} (h : AnyO E w B n (.slice A n c)) (k : Nat) (hk : k < n) :
    ∃ g u, A = some ⟨g, 0, none⟩ ∧ B ≤ g ∧ g < w.heap.size ∧ w.cell? ⟨g, k, none⟩ = some u ∧ w.frozen? ⟨g, k, none⟩ = false ∧ (∀ z, AnyO E (w.setCell ⟨g, k, none⟩ z) B n (.slice A n c)) ∧
      ∀ z E' B' n' v', E' ≠ E → AnyO E' w B' n' v' → AnyO E' (w.setCell ⟨g, k, none⟩ z) B' n' v' := by
  obtain ⟨xs, hl, h⟩ := h
  obtain ⟨g, cap, e, hb, hlt, _, _, hc⟩ := own_some h (by omega)
  cases e
  refine ⟨g, xs[k], rfl, hb, hlt, hc k _ (List.getElem?_eq_getElem (by omega)), h.frozenAt k, fun z => ⟨xs.set k z, by simpa using hl, (h.stored k z).1⟩, fun z E' B' n' v' hne h' => ?_⟩
  obtain ⟨ys, hl', h'⟩ := h'
  refine ⟨ys, hl', own_at h' fun j hj => heap_setCell_other _ _ _ _ ?_⟩
  rintro rfl
  rcases h.2 with ⟨e, _⟩ | ⟨g', cap', cur, e, _, hh, _⟩
  · cases e
  · cases e
    exact own_blk_ne h' hh hne hj
theorem AnyO.below {E : TypeId} {w w' : World} {B n : Nat} {v : Value} (h : AnyO E w B n v) (hb : Below w.heap.size w w') : AnyO E w' B n v := by
  obtain ⟨xs, hl, h⟩ := h
  exact ⟨xs, hl, own_at h fun k hk => hb.block k (own_lt h k hk)⟩
theorem AnyO.of {E : TypeId} {w : World} {B B' n : Nat} {v : Value} {xs : List Value} (h : w.ownsRow B' E 1 v n xs) (hB : B ≤ B') : AnyO E w B n v := ⟨xs, by have := h.1; omega, own_lo h hB⟩
set_option maxHeartbeats 2000000 in
set_option maxRecDepth 20000 in
theorem same_walk (w : World) (ga gr n : Nat) (sa ta sr tr : Value) (d : DS) (z : Int) (hP : PDsk w ga sa ta n d) (hR : RDsk w gr sr tr n d) (ht : d.trail.length ≤ 1000000) :
    Calls Try.prog 29 #[.pointer (some ⟨ga, 0, none⟩), .pointer (some ⟨gr, 0, none⟩), .int .i64 z] w (Tells w.heap.size (.bool true) w) := by
  have H1 := trail_walk w ga n sa ta d z hP ht
  go_enter Try.func29, Try.ntmps29
  have hil := hP.len
  have hnle := hP.le
  go_upto_region 2 with (first
    | (go_at_call 20; go_must (refine H1.mono ?_); rintro e w1 ⟨A1, k1, rfl, hown1, hB1⟩)
    | (go_at_call 15; go_must (refine (image_walk w1 ga n sa ta d (hP.below hB1)).mono ?_); rintro e w2 ⟨A2, k2, rfl, hown2, hB2⟩))
  rw [hil] at hown2
  have hz1 := hB1.size
  have hz2 := hB2.size
  have hB02 : Below w.heap.size w w2 := hB1.trans (hB2.mono hz1)
  have hP2 := hP.below hB02
  have hR2 := hR.below hB02
  have hl2 : AnyO 3 w2 w.heap.size (trailOf d z).length (.slice A1 (trailOf d z).length k1) := (AnyO.of hown1 (Nat.le_refl _)).below hB2
  have hb2 : AnyO 5 w2 w.heap.size (64 * n) (.slice A2 (64 * n) k2) := AnyO.of hown2 hz1
  have hrd : Rdv w2 A1 (trailOf d z).length (iv (trailOf d z)) := (Rdv.of_own hown1).below hB2
  have hby : Bys w2 A2 (64 * n) d.img := Bys.own hown2
  have htl : (trailOf d z).length ≤ 1000000 := by unfold trailOf; rw [List.length_drop]; omega
  obtain ⟨Ar, kr, hv⟩ := hR2.sv
  obtain ⟨At, kt, hv2⟩ := hR2.tv
  subst hv hv2
  have hbr : Bys w2 Ar (64 * n) d.img := Bys.own hR2.sec
  have x0 := hR2.c0
  have x1 := hR2.c1
  have x3 := hR2.c3
  have HS : ∀ w', Below w2.heap.size w2 w' → Calls Try.prog 45 #[.pointer (some ⟨ga, 0, none⟩)] w' (Says (.int .i64 (n : Int)) w') := fun w' hb => sectors_walk w' ga n sa ta d (hP2.below hb)
  have HRS : ∀ w', Below w2.heap.size w2 w' → Calls Try.prog 44 #[.pointer (some ⟨gr, 0, none⟩)] w' (Says (.int .i64 (n : Int)) w') := fun w' hb => rsectors_walk w' gr n _ _ d (hR2.below hb)
  have HD : ∀ w', Below w2.heap.size w2 w' → Calls Try.prog 16 #[.pointer (some ⟨ga, 0, none⟩)] w' (Says (.bool d.down) w') := fun w' hb => down_walk w' ga n sa ta d (hP2.below hb)
  have HW : ∀ w', Below w2.heap.size w2 w' → Calls Try.prog 17 #[.pointer (some ⟨ga, 0, none⟩)] w' (Says (.int .i64 (d.trail.length : Int)) w') := fun w' hb => writes_walk w' ga n sa ta d (hP2.below hb)
  have HT : ∀ w', Below w2.heap.size w2 w' → Calls Try.prog 46 #[.pointer (some ⟨gr, 0, none⟩), .int .i64 z] w' (RetInts w'.heap.size (trailOf d z) w') := fun w' hb => rtrail_walk w' gr n _ _ d z (hR2.below hb) ht
  have hd0 : Below w2.heap.size w2 w2.drew := below_drew (Below.refl _ _)
  replace HS := Go.Lib.hid HS
  replace HRS := Go.Lib.hid HRS
  replace HD := Go.Lib.hid HD
  replace HW := Go.Lib.hid HW
  replace HT := Go.Lib.hid HT
  have htl2 := htl
  generalize htt : trailOf d z = tz at *
  replace htt := Go.Lib.hid htt
  clear hP hR hP2 hR2 hown1 hown2 hB1 hB2 H1 hil
  go_cut [57] from 16 to 57 (fun v wx => v = .bool false ∧ Below w2.heap.size w2 wx)
  case first =>
    clear hB02 hl2 hb2
    go_region_held_law (fun w' => w'.cell? ⟨gr, 0, none⟩ = some (.slice Ar (64 * n) kr) ∧ w'.cell? ⟨gr, 1, none⟩ = some (.slice At d.trail.length kt) ∧ w'.cell? ⟨gr, 3, none⟩ = some (.bool d.down))
      (first | go_keep | (exact ⟨cell_below hd4 x0, cell_below hd4 x1, cell_below hd4 x3⟩) | (exact ⟨cell_below hd3 x0, cell_below hd3 x1, cell_below hd3 x3⟩)) ((first
      | (go_at_call 19; refine (sameInts_walk w3 A1 _ tz.length tz.length k1 _ tz tz (hrd.below hd3) (Rdv.of_own hown3) (by omega) (by omega)).mono ?_; rintro e w4 ⟨rfl, hB4⟩; rw [show decide (tz = tz) = true by simp]; have hd4 := hd3.trans (hB4.mono hd3.size); have s1 := (hby.below hd4).string (P := Try.prog) Try.underlying39 Try.underlying5 Try.underlying9 k2; have s2 := (hbr.below hd4).string (P := Try.prog) Try.underlying39 Try.underlying5 Try.underlying9 kr)
      | (go_at_call 46; refine ((show ∀ w', Below w2.heap.size w2 w' → Calls Try.prog 46 #[.pointer (some ⟨gr, 0, none⟩), .int .i64 z] w' (RetInts w'.heap.size tz w') from HT) _ hd0).mono ?_; rintro e w3 ⟨A3, k3, rfl, hown3, hB3⟩; have hd3 := hd0.trans hB3)
      | (go_at_call 17; refine ((show ∀ w', Below w2.heap.size w2 w' → Calls Try.prog 17 #[.pointer (some ⟨ga, 0, none⟩)] w' (Says (.int .i64 (d.trail.length : Int)) w') from HW) _ hd0).mono ?_; rintro e w9 ⟨rfl, rfl⟩)
      | (go_at_call 16; refine ((show ∀ w', Below w2.heap.size w2 w' → Calls Try.prog 16 #[.pointer (some ⟨ga, 0, none⟩)] w' (Says (.bool d.down) w') from HD) _ hd0).mono ?_; rintro e w9 ⟨rfl, rfl⟩)
      | (go_at_call 45; refine ((show ∀ w', Below w2.heap.size w2 w' → Calls Try.prog 45 #[.pointer (some ⟨ga, 0, none⟩)] w' (Says (.int .i64 (n : Int)) w') from HS) _ hd0).mono ?_; rintro e w9 ⟨rfl, rfl⟩)
      | (go_at_call 44; refine ((show ∀ w', Below w2.heap.size w2 w' → Calls Try.prog 44 #[.pointer (some ⟨gr, 0, none⟩)] w' (Says (.int .i64 (n : Int)) w') from HRS) _ hd0).mono ?_; rintro e w9 ⟨rfl, rfl⟩)))
    all_goals (go_wp2_with fail; go_meet; exact ⟨rfl, hd4⟩)
  case rest =>
    obtain ⟨rfl, hBc⟩ := hcut
    have hl3 := hl2.below hBc
    have hb3 := hb2.below hBc
    have hB3 : Below w.heap.size w wc := hB02.trans (hBc.mono (by omega))
    clear hl2 hb2 hB02 hBc HS HRS HD HW HT hrd hby hbr x0 x1 x3 hd0 htt hz1 hz2
    go_wp2
    go_loopw [9] (fun i wr => ∃ j : Nat, j ≤ tz.length ∧ i = .int .i64 j ∧ Below w.heap.size w wr ∧ AnyO 3 wr w.heap.size tz.length (.slice A1 tz.length k1) ∧ AnyO 5 wr w.heap.size (64 * n) (.slice A2 (64 * n) k2)) (fun i _ => tz.length - (intOf i).toNat)
    case atStart => exact ⟨0, by omega, rfl, hB3, hl3, hb3⟩
    case round =>
      clear hl3 hb3 hB3
      obtain ⟨j, hj, rfl, hBr, hlr, hbr⟩ := hrel
      by_cases hlt : j < tz.length
      · obtain ⟨gl, u, rfl, hg0, hglt, hcell, hfz, hset, hoth⟩ := hlr.at_ j hlt
        go_wp2
        go_roundw
        case rel => exact ⟨j + 1, hlt, by go_num, hBr.setCell hg0 _, hset _, hoth _ _ _ _ _ (by decide) hbr⟩
        case measure => simp [intOf]; omega
      · have hjn : j = tz.length := by omega
        clear hlr
        go_wp2
        go_loopw [10] (fun i wq => ∃ j : Nat, j ≤ 64 * n ∧ i = .int .i64 j ∧ Below w.heap.size w wq ∧ AnyO 5 wq w.heap.size (64 * n) (.slice A2 (64 * n) k2)) (fun i _ => 64 * n - (intOf i).toNat)
        case atStart => exact ⟨0, by omega, rfl, hBr, hbr⟩
        case round =>
          clear hBr hbr
          obtain ⟨m, hm, rfl, hBq, hbq⟩ := hrel
          by_cases hlm : m < 64 * n
          · have hlm2 : (m : Int) < 64 * (n : Int) := by omega
            obtain ⟨gl, u, rfl, hg0, hglt, hcell, hfz, hset, -⟩ := hbq.at_ m hlm
            go_wp2
            go_roundw
            case rel => exact ⟨m + 1, hlm, by go_num, hBq.setCell hg0 _, hset _⟩
            case measure => simp [intOf]; omega
          · have hlm2 : ¬ (m : Int) < 64 * (n : Int) := by omega
            go_wp2
            go_ret
            exact ⟨rfl, hBq⟩
end Go.Proofs.Ytenfdankgjdfpaa
