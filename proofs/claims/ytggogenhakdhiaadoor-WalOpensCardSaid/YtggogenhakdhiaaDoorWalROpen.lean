/- The log that lies on a disk, the document's way, walked. -/
import Derived.Test.YtggogenhakdhiaaDoorWalOpen
import Derived.Test.YtggogenhakdhiaaDoorWalRRead
import Derived.Deep.LoopGhost
import Derived.Laws.MakeOwn
import Derived.Deep.QuietTactic
import Derived.BigQuiet
set_option linter.unusedVariables false
set_option linter.unusedSimpArgs false
attribute [local go_sem ↓] Go.wp_at_zero Go.wp_at_succ
namespace Go.Proofs.YtggogenhakdhiaaDoor
open Go.RowKit

theorem secOf_secsOf (img : List UInt8) (at_ k : Nat) (hk : 1 ≤ k) : (secsOf img at_ k).take 64 = secOf img at_ := by
  unfold secsOf secOf
  rw [List.take_take, show min 64 (64 * k) = 64 by omega]
theorem secsOf_take (img : List UInt8) (at_ k j : Nat) (hk : j ≤ k) : (secsOf img at_ k).take (64 * j) = secsOf img at_ j := by
  unfold secsOf
  rw [List.take_take, show min (64 * j) (64 * k) = 64 * j by omega]
theorem secsOf_drop (img : List UInt8) (at_ k j : Nat) : (secsOf img at_ k).drop (64 * j) = secsOf img (at_ + j) (k - j) := by
  unfold secsOf
  rw [List.drop_take, List.drop_drop, show 64 * at_ + 64 * j = 64 * (at_ + j) by omega, show 64 * k - 64 * j = 64 * (k - j) by omega]
/-- the two readings are one -/
theorem rread_readP {img : List UInt8} {n at_ en : Nat} (hl : img.length = 64 * n) (he : en ≤ n) (ha : at_ < en) : rreadL (secsOf img at_ (en - at_)) = readP img at_ en := by
  have h0 := secsOf_head img at_ (en - at_) 0 (by omega) (by omega)
  have h1 := secsOf_head img at_ (en - at_) 1 (by omega) (by omega)
  have hq : frontLen (secsOf img at_ (en - at_)) = loadLen img at_ := by
    unfold frontLen loadLen
    rw [← secOf_secsOf img at_ (en - at_) (by omega)]
    congr 1
    rw [List.drop_take, List.take_take]
    congr 1
  have hlen := secsOf_length hl (show at_ + (en - at_) ≤ n by omega)
  unfold rreadL readP recOf
  rw [h0, h1, hq, hlen]
  have hs := secs_le (loadLen img at_)
  have hiff : (10 + loadLen img at_ > 64 * (en - at_)) ↔ (at_ + secs (loadLen img at_) > en) := by unfold secs; omega
  by_cases hb : ((secOf img at_).getD 0 0).toNat ≠ 82 ∨ ((secOf img at_).getD 1 0).toNat = 0 ∨ loadLen img at_ > 262144 ∨ at_ + secs (loadLen img at_) > en
  · rw [if_pos hb, if_pos (by rw [hiff]; exact hb)]
  · rw [if_neg hb, if_neg (by rw [hiff]; exact hb)]
    have hk : secs (loadLen img at_) ≤ en - at_ := by omega
    rw [secsOf_take _ _ _ _ hk]
    have hd : ((secsOf img at_ (en - at_)).drop 10).take (loadLen img at_) = ((secsOf img at_ (secs (loadLen img at_))).drop 10).take (loadLen img at_) := by
      rw [← secsOf_take img at_ (en - at_) _ hk, List.drop_take, List.take_take]
      congr 1
      omega
    rw [hd]
theorem RLog.chain {w w' : World} {Z : Nat → Prop} {gl g : Nat} {v : Value} {s : LS} (h : RLog w Z gl g v s) (hb : Below w.heap.size w w') : RLog w' Z gl g v s :=
  ⟨(hb.block gl (Array.getElem?_eq_some_iff.1 h.blk).1).trans h.blk, h.recs.below hb⟩
theorem RLog.grow {w w' : World} {Z : Nat → Prop} {gl g : Nat} {v : Value} {s : LS} (h : RLog w Z gl g v s) (hg : w.grownBy w' v.ownBlock) : w'.heap[gl]? = w.heap[gl]? := by
  refine hg.block gl (Array.getElem?_eq_some_iff.1 h.blk).1 fun e => ?_
  obtain ⟨xs, ho, _⟩ := h.recs.ex
  exact own_blk_ne ho h.blk (by decide) e.symm
set_option maxHeartbeats 2000000 in
set_option maxRecDepth 20000 in
theorem ropen_down (w : World) (g n : Nat) (sv tv : Value) (d : DS) (h : RDsk w g sv tv n d) (hd : d.down = true) :
    Calls Tryd.prog 14 #[.pointer (some ⟨g, 0, none⟩)] w (RetOpened RLog w.heap.size g (.err 50) w) := by
  have c3 := h.c3
  rw [hd] at c3
  clear h hd
  go_enter Tryd.func14, Tryd.ntmps14
  go_wp2
  go_ret2
  exact ⟨Below.refl _ _, rfl⟩
set_option maxHeartbeats 2000000 in
set_option maxRecDepth 20000 in
theorem ropen_head (w : World) (g n : Nat) (sv tv : Value) (d : DS) (h : RDsk w g sv tv n d) (hd : d.down = false) (hg : genOf d.img n = none) :
    Calls Tryd.prog 14 #[.pointer (some ⟨g, 0, none⟩)] w (RetOpened RLog w.heap.size g (.err 60) w) := by
  have c3 := h.c3
  have c0 := h.c0
  rw [hd] at c3
  have hle := h.le
  have HS := rsectors_walk w g n sv tv d h
  by_cases h3 : n < 3
  · have h3z : (n : Int) < 3 := by omega
    clear h hd hg c0
    go_enter Tryd.func14, Tryd.ntmps14
    go_wp2_with (go_at_call 38; go_must (refine HS.mono ?_); rintro e w' ⟨rfl, rfl⟩)
    go_ret2
    exact ⟨Below.refl _ _, rfl⟩
  · have h3z : ¬ (n : Int) < 3 := by omega
    have hpos := h.pos
    obtain ⟨s, c, hv, _, hs, hc1, hc2, hcells⟩ := own_some h.sec (by omega)
    subst hv
    have hby : Bys w (some ⟨s, 0, none⟩) (64 * n) d.img := Bys.own h.sec
    have hh : halfOf n ≥ 1 := by unfold halfOf; omega
    have hq8 : headNum d.img = num (((secOf d.img 0).drop 8).take 8) := rfl
    have hq8' : headNum d.img = num ((d.img.drop 8).take 8) := by
      rw [hq8]; unfold secOf; rw [Nat.mul_zero, List.drop_zero, List.drop_take, List.take_take]; congr 1
    have HN := high_walk w _ 8 (c - 8) _ (hby.cut 8 8 (by omega)) (by omega)
    rw [← hq8'] at HN
    have hq64 : headNum d.img < 18446744073709551616 := by rw [hq8']; exact num_lt64 _ (by rw [List.length_take]; omega)
    have hg2 : genOf d.img n = if headNum d.img < 1 ∨ headNum d.img > 1099511627776 then none else if secOf d.img 0 = headB (headNum d.img) then some (headNum d.img) else none := by unfold genOf; rw [if_neg (by omega)]
    rw [hg] at hg2
    have hsec0 : secOf d.img 0 = d.img.take 64 := by unfold secOf; rw [Nat.mul_zero, List.drop_zero]
    have hb64 := hby.take 64 (by omega)
    rw [← hsec0] at hb64
    have hm64 : (64 : Int) ≤ 64 * (n : Int) := by omega
    have hc8 : ¬ c = 8 := by omega
    have hc16 : (16 : Int) ≤ (c : Int) := by omega
    have hc64 : (64 : Int) ≤ (c : Int) := by omega
    clear hq8 hq8' hby hcells hg hsec0
    generalize headNum d.img = q at *
    generalize secOf d.img 0 = sec at *
    by_cases h2 : q < 1 ∨ q > 1099511627776
    · clear hg2
      rcases (show q = 0 ∨ 1099511627776 < q by omega) with h0 | h0
      · have d1 : decide ((q : Int) < 1) = true := by rw [decide_eq_true_eq]; omega
        clear h h2 h0
        go_enter Tryd.func14, Tryd.ntmps14
        go_upto_region 6 with (first
          | (go_at_call 38; go_must (refine HS.mono ?_); rintro e w' ⟨rfl, rfl⟩)
          | (go_at_call 46; go_must (refine HN.mono ?_); rintro e w' ⟨rfl, rfl⟩))
        go_quiet (fail)
        go_wp2
        go_ret2
        exact ⟨below_drewN (Below.refl _ _) _, rfl⟩
      · have d1 : decide ((q : Int) < 1) = false := by rw [decide_eq_false_iff_not]; omega
        have d2 : decide ((1099511627776 : Int) < (q : Int)) = true := by rw [decide_eq_true_eq]; omega
        clear h h2 h0
        go_enter Tryd.func14, Tryd.ntmps14
        go_upto_region 6 with (first
          | (go_at_call 38; go_must (refine HS.mono ?_); rintro e w' ⟨rfl, rfl⟩)
          | (go_at_call 46; go_must (refine HN.mono ?_); rintro e w' ⟨rfl, rfl⟩))
        go_quiet (fail)
        go_wp2
        go_ret2
        exact ⟨below_drewN (Below.refl _ _) _, rfl⟩
    · rw [if_neg h2] at hg2
      have hne : ¬ sec = headB q := by
        intro e
        rw [if_pos e] at hg2
        cases hg2
      have d1 : decide ((q : Int) < 1) = false := by rw [decide_eq_false_iff_not]; omega
      have d2 : decide ((1099511627776 : Int) < (q : Int)) = false := by rw [decide_eq_false_iff_not]; omega
      have hqw : IntKind.i64.wrap (q : Int) = (q : Int) := by rw [IntKind.wrap_i64]; omega
      have HD : ∀ x, Calls Tryd.prog 47 #[.int .i64 q] x (RetBys x.heap.size 5 (headB q) x) := fun x => rhead_walk x q (by omega)
      have hhl := headB_length q
      have hne2 : ((str sec).toList == (str (headB q)).toList) = false := by rw [str_toList, str_toList, beq_eq_false_iff_ne]; exact hne
      generalize headB q = hb at *
      replace hhl := Go.Lib.hid hhl
      clear h h2 hg2 hne
      go_enter Tryd.func14, Tryd.ntmps14
      go_upto_region 6 with (first
        | (go_at_call 38; go_must (refine HS.mono ?_); rintro e w' ⟨rfl, rfl⟩)
        | (go_at_call 46; go_must (refine HN.mono ?_); rintro e w' ⟨rfl, rfl⟩))
      have HD1 := HD w.drew
      have hdr : Below w.heap.size w w.drew := below_drew (Below.refl _ _)
      have hst1 := (hb64.below hdr).string (P := Tryd.prog) Tryd.underlying22 Tryd.underlying5 Tryd.underlying9 c
      go_region_held_law (fun w' => w'.cell? ⟨g, 0, none⟩ = some (.slice (some ⟨s, 0, none⟩) (64 * n) c)) (first | exact c02 | go_keep) (
        ((go_at_call 47; (with_reducible refine HD1.mono ?_); intro e w3 hR; obtain ⟨A3, c3, rfl, hown3, hB3⟩ := hR.len (show hb.length = 64 from hhl); have c02 := cell_below (hdr.trans hB3) c0; have hst2 := (hb64.below (hdr.trans hB3)).string (P := Tryd.prog) Tryd.underlying22 Tryd.underlying5 Tryd.underlying9 c; have hst3 := (Bys.own hown3).string (P := Tryd.prog) Tryd.underlying22 Tryd.underlying5 Tryd.underlying9 c3)))
      all_goals
        go_wp2
        go_ret2
        exact ⟨hdr.trans hB3, rfl⟩
end Go.Proofs.YtggogenhakdhiaaDoor
