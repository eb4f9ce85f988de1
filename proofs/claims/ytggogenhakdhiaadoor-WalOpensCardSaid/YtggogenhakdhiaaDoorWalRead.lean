/- The record that begins at a sector, the program's way, walked. -/
import Derived.Test.YtggogenhakdhiaaDoorWalGen
import Derived.Deep.RegionHeldLaw
import Derived.Deep.DrawnRows
attribute [local go_sem ↓] Go.wp_at_zero Go.wp_at_succ
set_option linter.unusedVariables false
set_option linter.unusedSimpArgs false
namespace Go.Proofs.YtggogenhakdhiaaDoor
open Go.RowKit

/-- a record, or none, is returned -/
def RetRec (B : Nat) (z : Nat) (r : Option (Int × List UInt8)) (w : World) (e : Ending) (w' : World) : Prop :=
  ∃ (kz : Int) (A : Option Addr) (m c : Nat) (y : Int), e = .returned (.tuple #[.agg #[.int .i64 kz, .slice A m c], .int .i64 y, .bool r.isSome]) ∧
    (∀ q, r = some q → kz = (q.1 : Int) ∧ m = q.2.length ∧ y = (z : Int) ∧ w'.ownsRow B 5 1 (.slice A m c) m (bv q.2)) ∧ Below B w w'
theorem getD_of_bys (l : List UInt8) (i : Nat) : ((l.getD i 0).toNat : Int) = ((l.getD i 0).toNat : Nat) := rfl
set_option maxHeartbeats 1000000 in
set_option maxRecDepth 20000 in
theorem wread_bad (w : World) (g n : Nat) (sv tv : Value) (d : DS) (h : PDsk w g sv tv n d) (ht : TabAt w) (at_ end_ : Nat) (ha : at_ < end_) (he : end_ ≤ n) (hbad : ((secOf d.img at_).getD 0 0).toNat ≠ 82 ∨ ((secOf d.img at_).getD 1 0).toNat = 0 ∨ loadLen d.img at_ > 262144 ∨ at_ + secs (loadLen d.img at_) > end_) :
    Calls Tryd.prog 45 #[.pointer (some ⟨g, 0, none⟩), .int .i64 at_, .int .i64 end_] w (RetRec w.heap.size (secs (loadLen d.img at_)) (readP d.img at_ end_) w) := by
  have hle := h.le
  have hB0 : Below w.heap.size w (w.alloc (.cells #[.int .i64 0, .slice none 0 0] 50)) := (Below.refl _ _).alloc (Nat.le_refl _) _
  have hbox := heap_alloc_new w (.cells #[.int .i64 0, .slice none 0 0] 50)
  have hz0 : w.heap.size < (w.alloc (.cells #[.int .i64 0, .slice none 0 0] 50)).heap.size := by simp
  obtain ⟨rp, hrp0⟩ : ∃ x, x = readP d.img at_ end_ := ⟨_, rfl⟩
  obtain ⟨ks0, hks0⟩ : ∃ x, x = secs (loadLen d.img at_) := ⟨_, rfl⟩
  rw [← hrp0, ← hks0]
  replace hks0 := Go.Lib.hid hks0
  go_enter Tryd.func45, Tryd.ntmps45
  go_upto_region 1 with fail
  have h0 := h.below hB0
  have ht0 := ht.below hB0
  have hl64 := secOf_length h.len (show at_ < n by omega)
  generalize w.alloc (.cells #[.int .i64 0, .slice none 0 0] 50) = W at *
  have HR := read_at W g n sv tv d at_ h0 (by omega)
  have hb1 := bys_sector W 84 (secOf d.img at_) hl64
  have hB1 : Below W.heap.size W (W.alloc (.cells (bv (secOf d.img at_)).toArray 84)) := (Below.refl _ _).alloc (Nat.le_refl _) _
  have hbox1 := (hB1.block w.heap.size hz0).trans hbox
  have hq4 : loadLen d.img at_ = num (((secOf d.img at_).drop 2).take 4) := rfl
  have hrp : readP d.img at_ end_ = if ((secOf d.img at_).getD 0 0).toNat ≠ 82 ∨ ((secOf d.img at_).getD 1 0).toNat = 0 ∨ loadLen d.img at_ > 262144 ∨ at_ + secs (loadLen d.img at_) > end_ then none
    else if secsOf d.img at_ (secs (loadLen d.img at_)) = packB (recOf d.img at_ end_).1 (recOf d.img at_ end_).2 then some (((recOf d.img at_ end_).1 : Int), (recOf d.img at_ end_).2) else none := rfl
  have hro : recOf d.img at_ end_ = (((secOf d.img at_).getD 1 0).toNat, ((secsOf d.img at_ (secs (loadLen d.img at_))).drop 10).take (loadLen d.img at_)) := rfl
  have hs1 := secsOf_one d.img at_
  obtain ⟨ll, hll⟩ : ∃ x, x = loadLen d.img at_ := ⟨_, rfl⟩
  rw [← hll] at hq4 hrp hro hbad
  obtain ⟨hd, hhd⟩ : ∃ x, x = secOf d.img at_ := ⟨_, rfl⟩
  rw [← hhd] at hq4 hrp hro hs1 hl64 hb1 hB1 HR hbox1 hbad
  generalize hw1 : W.alloc (.cells (bv hd).toArray 84) = w1 at *
  have HN := number_walk w1 _ 4 62 _ (hb1.cut 2 4 (by omega)) (by omega)
  rw [← hq4] at HN
  have hq32 : ll < 4294967296 := by rw [hq4]; have := num_lt ((hd.drop 2).take 4); rw [List.length_take, List.length_drop, hl64] at this; exact this
  obtain ⟨_, e0, x0⟩ := hb1.cell 0 (by omega)
  cases e0
  obtain ⟨_, e0, x1⟩ := hb1.cell 1 (by omega)
  cases e0
  rw [add_plain] at x0 x1
  have y0 : w1.cell? ⟨w.heap.size, 0, none⟩ = some (.int .i64 0) := by rw [cell_of_row w1 w.heap.size 0 _ _ _ hbox1]; rfl
  have y1 : w1.cell? ⟨w.heap.size, 1, none⟩ = some (.slice none 0 0) := by rw [cell_of_row w1 w.heap.size 1 _ _ _ hbox1]; rfl
  have f0 := frozen_of_row w1 w.heap.size 0 _ _ hbox1
  have f1 := frozen_of_row w1 w.heap.size 1 _ _ hbox1
  have hkk : recOf d.img at_ end_ = ((hd.getD 1 0).toNat, ((secsOf d.img at_ (secs ll)).drop 10).take ll) := hro
  have hn0 := (hd.getD 0 0).toNat_lt
  have hn1 := (hd.getD 1 0).toNat_lt
  have hlw : IntKind.i64.wrap (ll : Int) = (ll : Int) := by rw [IntKind.wrap_i64]; omega
  rw [hkk] at hrp
  replace hks0 : ks0 = secs ll := by rw [hll]; exact hks0
  have hss : secs ll ≤ 100000000 := by unfold secs; omega
  have hsl : 10 + ll ≤ 64 * secs ll := secs_le ll
  subst hks0
  generalize hks : secs ll = ks at *
  generalize (hd.getD 0 0).toNat = k0 at *
  generalize (hd.getD 1 0).toNat = k1 at *
  clear hro hkk hq4
  replace hll := Go.Lib.hid hll
  replace hhd := Go.Lib.hid hhd
  replace hw1 := Go.Lib.hid hw1
  replace hs1 := Go.Lib.hid hs1
  have hKS := sectors_walk' w1 ll (by omega)
  rw [hks] at hKS
  replace hks := Go.Lib.hid hks
  have hw3 : IntKind.i64.wrap ((at_ : Int) + (ks : Int)) = ((at_ + ks : Nat) : Int) := by rw [IntKind.wrap_i64]; omega
  have hB01 : Below w.heap.size w w1 := hB0.trans (hB1.mono hB0.size)
  rw [if_pos hbad] at hrp
  rw [hrp] at hrp0
  subst hrp0
  clear hrp
  by_cases a1 : k0 = 82
  · subst a1
    by_cases a2 : k1 = 0
    · subst a2
      go_wp2_with (first
        | (go_at_call 59; go_must (refine hKS.mono ?_); rintro e w' ⟨rfl, rfl⟩)
        | (go_at_call 42; go_must (refine HR.mono ?_); rintro e w' ⟨rfl, rfl⟩)
        | (go_at_call 92; go_must (refine HN.mono ?_); rintro e w' ⟨rfl, rfl⟩))
      try simp only [Exit.inBlock, Exit.then]
      refine bodyPost_ret (Go.Proofs.YtggogenhakdhiaaDoorW.PrintWords.results_ctt rfl _ _ w.heap.size _ _ _ _ rfl (Go.Proofs.YtggogenhakdhiaaDoorW.PrintWords.blk_set (Go.Proofs.YtggogenhakdhiaaDoorW.PrintWords.blk_set hbox1 0 _) 1 _) Tryd.underlying50 rfl (by kernel_rfl)) rfl ?_
      exact ⟨0, none, 0, 0, 0, rfl, (by intro q hq; cases hq), (hB01.setCell (Nat.le_refl _) _).setCell (Nat.le_refl _) _⟩
    · have a2' : ((k1 : Int) == 0) = false := by simp; omega
      by_cases a3 : ll > 262144
      · clear hbad
        go_wp2_with (first
          | (go_at_call 59; go_must (refine hKS.mono ?_); rintro e w' ⟨rfl, rfl⟩)
          | (go_at_call 42; go_must (refine HR.mono ?_); rintro e w' ⟨rfl, rfl⟩)
          | (go_at_call 92; go_must (refine HN.mono ?_); rintro e w' ⟨rfl, rfl⟩))
        try simp only [Exit.inBlock, Exit.then]
        refine bodyPost_ret (Go.Proofs.YtggogenhakdhiaaDoorW.PrintWords.results_ctt rfl _ _ w.heap.size _ _ _ _ rfl (Go.Proofs.YtggogenhakdhiaaDoorW.PrintWords.blk_set (Go.Proofs.YtggogenhakdhiaaDoorW.PrintWords.blk_set hbox1 0 _) 1 _) Tryd.underlying50 rfl (by kernel_rfl)) rfl ?_
        exact ⟨0, none, 0, 0, 0, rfl, (by intro q hq; cases hq), (hB01.setCell (Nat.le_refl _) _).setCell (Nat.le_refl _) _⟩
      · have a4 : at_ + ks > end_ := by omega
        have a3' : ¬ 262144 < ll := by omega
        clear hbad
        go_wp2_with (first
          | (go_at_call 59; go_must (refine hKS.mono ?_); rintro e w' ⟨rfl, rfl⟩)
          | (go_at_call 42; go_must (refine HR.mono ?_); rintro e w' ⟨rfl, rfl⟩)
          | (go_at_call 92; go_must (refine HN.mono ?_); rintro e w' ⟨rfl, rfl⟩))
        try simp only [Exit.inBlock, Exit.then]
        refine bodyPost_ret (Go.Proofs.YtggogenhakdhiaaDoorW.PrintWords.results_ctt rfl _ _ w.heap.size _ _ _ _ rfl (Go.Proofs.YtggogenhakdhiaaDoorW.PrintWords.blk_set (Go.Proofs.YtggogenhakdhiaaDoorW.PrintWords.blk_set hbox1 0 _) 1 _) Tryd.underlying50 rfl (by kernel_rfl)) rfl ?_
        exact ⟨0, none, 0, 0, 0, rfl, (by intro q hq; cases hq), (hB01.setCell (Nat.le_refl _) _).setCell (Nat.le_refl _) _⟩
  · clear hbad
    go_wp2_with (first
      | (go_at_call 59; go_must (refine hKS.mono ?_); rintro e w' ⟨rfl, rfl⟩)
      | (go_at_call 42; go_must (refine HR.mono ?_); rintro e w' ⟨rfl, rfl⟩)
      | (go_at_call 92; go_must (refine HN.mono ?_); rintro e w' ⟨rfl, rfl⟩))
    try simp only [Exit.inBlock, Exit.then]
    refine bodyPost_ret (Go.Proofs.YtggogenhakdhiaaDoorW.PrintWords.results_ctt rfl _ _ w.heap.size _ _ _ _ rfl (Go.Proofs.YtggogenhakdhiaaDoorW.PrintWords.blk_set (Go.Proofs.YtggogenhakdhiaaDoorW.PrintWords.blk_set hbox1 0 _) 1 _) Tryd.underlying50 rfl (by kernel_rfl)) rfl ?_
    exact ⟨0, none, 0, 0, 0, rfl, (by intro q hq; cases hq), (hB01.setCell (Nat.le_refl _) _).setCell (Nat.le_refl _) _⟩
end Go.Proofs.YtggogenhakdhiaaDoor
