/- The record at the front of some bytes, the document's way, walked. -/
import Derived.Test.YtggogenhakdhiaaDoorWalRead2
import Derived.Test.YtggogenhakdhiaaDoorWalRec
set_option linter.unusedVariables false
set_option linter.unusedSimpArgs false
attribute [local go_sem ↓] Go.wp_at_zero Go.wp_at_succ
namespace Go.Proofs.YtggogenhakdhiaaDoor
open Go.RowKit

/-- how long the load is that some bytes tell -/
def frontLen (l : List UInt8) : Nat := num ((l.drop 2).take 4)
def rreadL (l : List UInt8) : Option (Int × List UInt8) :=
  if (l.getD 0 0).toNat ≠ 82 ∨ (l.getD 1 0).toNat = 0 ∨ frontLen l > 262144 ∨ 10 + frontLen l > l.length then none
  else if l.take (64 * secs (frontLen l)) = packB (l.getD 1 0).toNat ((l.drop 10).take (frontLen l)) then some (((l.getD 1 0).toNat : Int), (l.drop 10).take (frontLen l)) else none
def RetRRec (B : Nat) (r : Option (Int × List UInt8)) (w : World) (e : Ending) (w' : World) : Prop :=
  ∃ (kz : Int) (A : Option Addr) (m c : Nat), e = .returned (.tuple #[.agg #[.int .i64 kz, .slice A m c], .bool r.isSome]) ∧
    (∀ q, r = some q → kz = (q.1 : Int) ∧ m = q.2.length ∧ w'.ownsRow B 5 1 (.slice A m c) m (bv q.2)) ∧ Below B w w'
/-- a record of the call's own, in a box of its own -/
def RecBoxR (w0 : World) (base k n : Nat) (l : List UInt8) (v : Value) (w : World) : Prop :=
  ∃ g A c, v = .pointer (some ⟨g, 0, none⟩) ∧ w.heap[g]? = some (.cells #[.int .i64 k, .slice A n c] 102 (0, 0)) ∧ w.ownsRow base 5 1 (.slice A n c) n (bv l) ∧ Below w0.heap.size w0 w ∧ w0.heap.size ≤ g
theorem str_toList (l : List UInt8) : (str l).toList = l := ByteArray.toList_mk l
theorem add_block (a : Addr) (i : Nat) : (a.add i).block = a.block := by unfold Addr.add; split <;> (try split) <;> rfl
theorem Bys.set {w : World} {A : Option Addr} {n : Nat} {l : List UInt8} (h : Bys w A n l) (g i : Nat) (v : Value) (hne : ∀ ad, A = some ad → ad.block ≠ g) : Bys (w.setCell ⟨g, i, none⟩ v) A n l :=
  ⟨h.len, h.max, fun j hj => by
    obtain ⟨ad, e, hc⟩ := h.cell j hj
    refine ⟨ad, e, (World.cell?_setCell_other _ _ _ _ fun e' => hne ad e ?_).trans hc⟩
    have := congrArg Addr.block e'
    rw [add_block] at this
    exact this.symm⟩
theorem add_off (g o j : Nat) : (⟨g, o, none⟩ : Addr).add j = ⟨g, o + j, none⟩ := by unfold Addr.add; split <;> simp_all
theorem rread_none {w : World} {o : Nat} (h : (Below w.heap.size w (w.alloc (.cells #[.int .i64 0, .slice none 0 0] o)))) (r : Option (Int × List UInt8)) (hr : r = none) (w' : World) (hw : Below w.heap.size w w') : RetRRec w.heap.size r w (.returned (.tuple #[.agg #[.int .i64 0, .slice none 0 0], .bool false])) w' := by
  subst hr
  exact ⟨0, none, 0, 0, rfl, (by intro q hq; cases hq), hw⟩
set_option maxHeartbeats 1000000 in
set_option maxRecDepth 20000 in
theorem rread_bad (w : World) (s o m c : Nat) (l : List UInt8) (hby : Bys w (some ⟨s, o, none⟩) m l) (hm : 64 ≤ m) (hmc : m ≤ c) (hc : c ≤ 9223372036854775807) (hbad : (l.getD 0 0).toNat ≠ 82 ∨ (l.getD 1 0).toNat = 0 ∨ frontLen l > 262144 ∨ 10 + frontLen l > l.length) :
    Calls Tryd.prog 50 #[.slice (some ⟨s, o, none⟩) m c] w (RetRRec w.heap.size (rreadL l) w) := by
  have hnone : rreadL l = none := by unfold rreadL; rw [if_pos hbad]
  rw [hnone]
  have hB0 : Below w.heap.size w (w.alloc (.cells #[.int .i64 0, .slice none 0 0] 102)) := (Below.refl _ _).alloc (Nat.le_refl _) _
  have hbox := heap_alloc_new w (.cells #[.int .i64 0, .slice none 0 0] 102)
  have hz0 : w.heap.size < (w.alloc (.cells #[.int .i64 0, .slice none 0 0] 102)).heap.size := by simp
  obtain ⟨_, e00, x00⟩ := hby.cell 0 (by omega)
  cases e00
  have hsw0 : s < w.heap.size := by have := World.block_lt_of_cell? w _ x00; rw [add_block] at this; exact this
  clear x00
  go_enter Tryd.func50, Tryd.ntmps50
  go_upto_region 1 with fail
  have hb1 := hby.below hB0
  generalize w.alloc (.cells #[.int .i64 0, .slice none 0 0] 102) = W at *
  have hll := hby.len
  have HN := high_walk W _ 4 (c - 2) _ (hb1.cut 2 4 (by omega)) (by omega)
  have hq4 : frontLen l = num ((l.drop 2).take 4) := rfl
  rw [← hq4] at HN
  have hq32 : frontLen l < 4294967296 := by rw [hq4]; have := num_lt ((l.drop 2).take 4); rw [List.length_take, List.length_drop, hll, show min 4 (m - 2) = 4 by omega] at this; exact this
  obtain ⟨_, e0, x0⟩ := hb1.cell 0 (by omega)
  cases e0
  obtain ⟨_, e0, x1⟩ := hb1.cell 1 (by omega)
  cases e0
  rw [add_off] at x0 x1
  rw [Nat.add_zero] at x0
  have y0 := cell_of_row W w.heap.size 0 _ _ _ hbox
  have y1 := cell_of_row W w.heap.size 1 _ _ _ hbox
  have f0 := frozen_of_row W w.heap.size 0 _ _ hbox
  have f1 := frozen_of_row W w.heap.size 1 _ _ hbox
  have hn0 := (l.getD 0 0).toNat_lt
  have hn1 := (l.getD 1 0).toNat_lt
  rw [hll] at hbad
  clear hq4 hnone
  generalize frontLen l = ll at *
  generalize (l.getD 0 0).toNat = k0 at *
  generalize (l.getD 1 0).toNat = k1 at *
  have hlw : IntKind.i64.wrap (ll : Int) = (ll : Int) := by rw [IntKind.wrap_i64]; omega
  have hlw2 : IntKind.i64.wrap (10 + (ll : Int)) = ((10 + ll : Nat) : Int) := by rw [IntKind.wrap_i64]; omega
  have hm1 : ¬ m < 64 := by omega
  have hc1 : ¬ c = 2 := by omega
  have hp1 : (0 : Int) < (m : Int) := by omega
  have hp2 : (1 : Int) < (m : Int) := by omega
  have hp3 : (6 : Int) ≤ (c : Int) := by omega
  have hp4 : (64 : Int) ≤ (m : Int) := by omega
  by_cases a1 : k0 = 82
  · subst a1
    by_cases a2 : k1 = 0
    · subst a2
      clear hbad
      go_wp2_with (go_at_call 46; go_must (refine HN.mono ?_); rintro e w' ⟨rfl, rfl⟩)
      try simp only [Exit.inBlock, Exit.then]
      refine bodyPost_ret (Go.Proofs.YtggogenhakdhiaaDoorW.PrintWords.results_ct rfl _ _ w.heap.size _ _ _ _ rfl (Go.Proofs.YtggogenhakdhiaaDoorW.PrintWords.blk_set (Go.Proofs.YtggogenhakdhiaaDoorW.PrintWords.blk_set hbox 0 _) 1 _) Tryd.underlying102 rfl (by kernel_rfl)) rfl ?_
      exact ⟨0, none, 0, 0, rfl, (by intro q hq; cases hq), (hB0.setCell (Nat.le_refl _) _).setCell (Nat.le_refl _) _⟩
    · have a2' : ((k1 : Int) == 0) = false := by simp; omega
      by_cases a3 : ll > 262144
      · clear hbad
        go_wp2_with (go_at_call 46; go_must (refine HN.mono ?_); rintro e w' ⟨rfl, rfl⟩)
        try simp only [Exit.inBlock, Exit.then]
        refine bodyPost_ret (Go.Proofs.YtggogenhakdhiaaDoorW.PrintWords.results_ct rfl _ _ w.heap.size _ _ _ _ rfl (Go.Proofs.YtggogenhakdhiaaDoorW.PrintWords.blk_set (Go.Proofs.YtggogenhakdhiaaDoorW.PrintWords.blk_set hbox 0 _) 1 _) Tryd.underlying102 rfl (by kernel_rfl)) rfl ?_
        exact ⟨0, none, 0, 0, rfl, (by intro q hq; cases hq), (hB0.setCell (Nat.le_refl _) _).setCell (Nat.le_refl _) _⟩
      · have a4 : 10 + ll > m := by omega
        have a3' : ¬ 262144 < ll := by omega
        clear hbad
        go_wp2_with (go_at_call 46; go_must (refine HN.mono ?_); rintro e w' ⟨rfl, rfl⟩)
        try simp only [Exit.inBlock, Exit.then]
        refine bodyPost_ret (Go.Proofs.YtggogenhakdhiaaDoorW.PrintWords.results_ct rfl _ _ w.heap.size _ _ _ _ rfl (Go.Proofs.YtggogenhakdhiaaDoorW.PrintWords.blk_set (Go.Proofs.YtggogenhakdhiaaDoorW.PrintWords.blk_set hbox 0 _) 1 _) Tryd.underlying102 rfl (by kernel_rfl)) rfl ?_
        exact ⟨0, none, 0, 0, rfl, (by intro q hq; cases hq), (hB0.setCell (Nat.le_refl _) _).setCell (Nat.le_refl _) _⟩
  · clear hbad
    go_wp2_with (go_at_call 46; go_must (refine HN.mono ?_); rintro e w' ⟨rfl, rfl⟩)
    try simp only [Exit.inBlock, Exit.then]
    refine bodyPost_ret (Go.Proofs.YtggogenhakdhiaaDoorW.PrintWords.results_ct rfl _ _ w.heap.size _ _ _ _ rfl (Go.Proofs.YtggogenhakdhiaaDoorW.PrintWords.blk_set (Go.Proofs.YtggogenhakdhiaaDoorW.PrintWords.blk_set hbox 0 _) 1 _) Tryd.underlying102 rfl (by kernel_rfl)) rfl ?_
    exact ⟨0, none, 0, 0, rfl, (by intro q hq; cases hq), (hB0.setCell (Nat.le_refl _) _).setCell (Nat.le_refl _) _⟩
set_option maxHeartbeats 4000000 in
set_option maxRecDepth 20000 in
theorem rread_ok (w : World) (s o m c : Nat) (l : List UInt8) (hby : Bys w (some ⟨s, o, none⟩) m l) (hm : 64 ≤ m) (hmc : m ≤ c) (hc : c ≤ 9223372036854775807) (hm2 : m % 64 = 0) (hbad : ¬ ((l.getD 0 0).toNat ≠ 82 ∨ (l.getD 1 0).toNat = 0 ∨ frontLen l > 262144 ∨ 10 + frontLen l > l.length)) :
    Calls Tryd.prog 50 #[.slice (some ⟨s, o, none⟩) m c] w (RetRRec w.heap.size (rreadL l) w) := by
  have hrp0 : rreadL l = if l.take (64 * secs (frontLen l)) = packB (l.getD 1 0).toNat ((l.drop 10).take (frontLen l)) then some (((l.getD 1 0).toNat : Int), (l.drop 10).take (frontLen l)) else none := by unfold rreadL; rw [if_neg hbad]
  generalize rreadL l = rp at *
  replace hrp0 := Go.Lib.hid hrp0
  have hB0 : Below w.heap.size w (w.alloc (.cells #[.int .i64 0, .slice none 0 0] 102)) := (Below.refl _ _).alloc (Nat.le_refl _) _
  have hbox := heap_alloc_new w (.cells #[.int .i64 0, .slice none 0 0] 102)
  have hz0 : w.heap.size < (w.alloc (.cells #[.int .i64 0, .slice none 0 0] 102)).heap.size := by simp
  obtain ⟨_, e00, x00⟩ := hby.cell 0 (by omega)
  cases e00
  have hsw0 : s < w.heap.size := by have := World.block_lt_of_cell? w _ x00; rw [add_block] at this; exact this
  clear x00
  go_enter Tryd.func50, Tryd.ntmps50
  go_upto_region 1 with fail
  have hb1 := hby.below hB0
  generalize w.alloc (.cells #[.int .i64 0, .slice none 0 0] 102) = W at *
  have hll := hby.len
  have HN := high_walk W _ 4 (c - 2) _ (hb1.cut 2 4 (by omega)) (by omega)
  have hq4 : frontLen l = num ((l.drop 2).take 4) := rfl
  rw [← hq4] at HN
  have hq32 : frontLen l < 4294967296 := by rw [hq4]; have := num_lt ((l.drop 2).take 4); rw [List.length_take, List.length_drop, hll, show min 4 (m - 2) = 4 by omega] at this; exact this
  obtain ⟨_, e0, x0⟩ := hb1.cell 0 (by omega)
  cases e0
  obtain ⟨_, e0, x1⟩ := hb1.cell 1 (by omega)
  cases e0
  rw [add_off] at x0 x1
  rw [Nat.add_zero] at x0
  have y0 := cell_of_row W w.heap.size 0 _ _ _ hbox
  have y1 := cell_of_row W w.heap.size 1 _ _ _ hbox
  have f0 := frozen_of_row W w.heap.size 0 _ _ hbox
  have f1 := frozen_of_row W w.heap.size 1 _ _ hbox
  have hn0 := (l.getD 0 0).toNat_lt
  have hn1 := (l.getD 1 0).toNat_lt
  rw [hll] at hbad
  clear hq4
  generalize frontLen l = ll at *
  generalize (l.getD 0 0).toNat = k0 at *
  generalize (l.getD 1 0).toNat = k1 at *
  have hlw : IntKind.i64.wrap (ll : Int) = (ll : Int) := by rw [IntKind.wrap_i64]; omega
  have hlw2 : IntKind.i64.wrap (10 + (ll : Int)) = ((10 + ll : Nat) : Int) := by rw [IntKind.wrap_i64]; omega
  have hm1 : ¬ m < 64 := by omega
  have hc1 : ¬ c = 2 := by omega
  have hp1 : (0 : Int) < (m : Int) := by omega
  have hp2 : (1 : Int) < (m : Int) := by omega
  have hp3 : (6 : Int) ≤ (c : Int) := by omega
  have hp4 : (64 : Int) ≤ (m : Int) := by omega
  obtain ⟨b0, b1, b2, b3⟩ : k0 = 82 ∧ 0 < k1 ∧ ll ≤ 262144 ∧ 10 + ll ≤ m := by omega
  clear hbad
  subst b0
  have a2' : ((k1 : Int) == 0) = false := by simp; omega
  have a3' : ¬ 262144 < ll := by omega
  have a4' : ¬ m < 10 + ll := by omega
  have hk1w : IntKind.i64.wrap (k1 : Int) = (k1 : Int) := by rw [IntKind.wrap_i64]; omega
  have hc10 : ¬ c = 10 := by omega
  have hq1 : (10 + (ll : Int)).toNat - 10 = ll := by omega
  have hq2 : (0 : Int) ≤ 10 + (ll : Int) := by omega
  have hq3 : 10 + (ll : Int) ≤ (c : Int) := by omega
  have hq4 : (10 : Int) ≤ max (10 + (ll : Int)) 0 := by omega
  go_upto_region 6 with (go_at_call 46; go_must (refine HN.mono ?_); rintro e w' ⟨rfl, rfl⟩)
  have hcut10 : Bys W (some ⟨s, o + 10, none⟩) ll ((l.drop 10).take ll) := hb1.cut 10 ll (by omega)
  have hld0 : ((l.drop 10).take ll).length = ll := by rw [List.length_take, List.length_drop, hll]; omega
  generalize hld : (l.drop 10).take ll = ld at *
  replace hld := Go.Lib.hid hld
  replace hld0 := Go.Lib.hid hld0
  replace hll := Go.Lib.hid hll
  have hsz := hB0.size
  have hsw : s < w.heap.size := hsw0
  go_cut [5] from 37 to 60 (fun v wx => RecBoxR W (w.heap.size + 1) k1 ll ld v wx)
  case first =>
    have hsW : s < W.heap.size := World.block_lt_of_cell? W _ x1
    have hE := heap_alloc_new W (.cells #[] 5)
    have hBE : Below W.heap.size W (W.alloc (.cells #[] 5)).drew := below_drew ((Below.refl _ _).alloc (Nat.le_refl _) _)
    have hBEX : Below W.heap.size W ((W.alloc (.cells #[] 5)).alloc (.cells #[.int .i64 0, .slice none 0 0] 102)).drew := below_drew (((Below.refl _ _).alloc (Nat.le_refl _) _).alloc (by simp) _)
    have hBXE : Below W.heap.size W ((W.alloc (.cells #[.int .i64 0, .slice none 0 0] 102)).alloc (.cells #[] 5)).drew := below_drew (((Below.refl _ _).alloc (Nat.le_refl _) _).alloc (by simp) _)
    have hEX0 := heap_alloc2_old W (.cells #[] 5) (.cells #[.int .i64 0, .slice none 0 0] 102)
    have hEX1 := heap_alloc2_new W (.cells #[] 5) (.cells #[.int .i64 0, .slice none 0 0] 102)
    have hXE0 := heap_alloc2_old W (.cells #[.int .i64 0, .slice none 0 0] 102) (.cells #[] 5)
    have hXE1 := heap_alloc2_new W (.cells #[.int .i64 0, .slice none 0 0] 102) (.cells #[] 5)
    have s1 : (W.alloc (.cells #[] 5)).drew.heap.size = W.heap.size + 1 := by show (W.alloc _).heap.size = _; simp
    have s2 : ((W.alloc (.cells #[] 5)).alloc (.cells #[.int .i64 0, .slice none 0 0] 102)).drew.heap.size = W.heap.size + 2 := by show ((W.alloc _).alloc _).heap.size = _; simp
    have s3 : ((W.alloc (.cells #[.int .i64 0, .slice none 0 0] 102)).alloc (.cells #[] 5)).drew.heap.size = W.heap.size + 2 := by show ((W.alloc _).alloc _).heap.size = _; simp
    have y1 := cell_below hBE x1
    have y2 := cell_below hBEX x1
    have y3 := cell_below hBXE x1
    have a1 := own_empty (W.alloc (.cells #[] 5)).drew W.heap.size 5 1 W.heap.size (Nat.le_refl _) hE
    have a2 := own_empty ((W.alloc (.cells #[] 5)).alloc (.cells #[.int .i64 0, .slice none 0 0] 102)).drew W.heap.size 5 1 W.heap.size (Nat.le_refl _) hEX0
    have a3 := own_empty ((W.alloc (.cells #[.int .i64 0, .slice none 0 0] 102)).alloc (.cells #[] 5)).drew W.heap.size 5 1 (W.heap.size + 1) (Nat.le_succ _) hXE1
    have hr1 : Rdv (W.alloc (.cells #[] 5)).drew (some ⟨s, o + 10, none⟩) ll (bv ld) := hcut10.rdv.below hBE
    have hr2 : Rdv ((W.alloc (.cells #[] 5)).alloc (.cells #[.int .i64 0, .slice none 0 0] 102)).drew (some ⟨s, o + 10, none⟩) ll (bv ld) := hcut10.rdv.below hBEX
    have hr3 : Rdv ((W.alloc (.cells #[.int .i64 0, .slice none 0 0] 102)).alloc (.cells #[] 5)).drew (some ⟨s, o + 10, none⟩) ll (bv ld) := hcut10.rdv.below hBXE
    have hb1' := hBE.mono (Nat.le_refl W.heap.size)
    go_region_held_law (fun w' => w'.cell? ⟨s, o + 1, none⟩ = some (.int .u8 k1)) (first | exact xx | exact y1 | exact y2 | exact y3 | exact keep_set2 hsne xx | go_keep) ((first
      | (refine step_append_rd (o := ⟨some 47, _, _, _, _, _⟩) W W.heap.size rfl (.tmp 41) (.tmp 46) 22 5 (.int .u8 0) 1 rfl Tryd.underlying22 info_b rfl (.slice (some ⟨W.heap.size, 0, none⟩) 0 0) 0 [] rfl a1 _ ll _ (bv ld) rfl hr1 (bv_one _) hBE (by omega) (by omega) (by omega) ?_; intro v1 w1 hown1 hBw1 hg1 hs1; obtain ⟨A1, c1, hv1⟩ := own_slice hown1; subst hv1; have xx : w1.cell? ⟨s, o + 1, none⟩ = some (.int .u8 k1) := cell_below hBw1 x1)
      | (refine step_append_rd (o := ⟨some 47, _, _, _, _, _⟩) W W.heap.size rfl (.tmp 41) (.tmp 46) 22 5 (.int .u8 0) 1 rfl Tryd.underlying22 info_b rfl (.slice (some ⟨W.heap.size, 0, none⟩) 0 0) 0 [] rfl a2 _ ll _ (bv ld) rfl hr2 (bv_one _) hBEX (by omega) (by omega) (by omega) ?_; intro v1 w1 hown1 hBw1 hg1 hs1; obtain ⟨A1, c1, hv1⟩ := own_slice hown1; subst hv1; have xx : w1.cell? ⟨s, o + 1, none⟩ = some (.int .u8 k1) := cell_below hBw1 x1; have hx2 := (hg1.block (W.heap.size + 1) (by omega) (by simp [Value.ownBlock])).trans hEX1; have hsne : s ≠ W.heap.size + 1 := (by omega); have q0 := cell_of_row w1 (W.heap.size + 1) 0 _ _ _ hx2; have q1 := cell_of_row w1 (W.heap.size + 1) 1 _ _ _ hx2; have p0 := frozen_of_row w1 (W.heap.size + 1) 0 _ _ hx2; have p1 := frozen_of_row w1 (W.heap.size + 1) 1 _ _ hx2)
      | (refine step_append_rd (o := ⟨some 47, _, _, _, _, _⟩) W W.heap.size rfl (.tmp 41) (.tmp 46) 22 5 (.int .u8 0) 1 rfl Tryd.underlying22 info_b rfl (.slice (some ⟨W.heap.size + 1, 0, none⟩) 0 0) 0 [] rfl a3 _ ll _ (bv ld) rfl hr3 (bv_one _) hBXE (by omega) (by omega) (by omega) ?_; intro v1 w1 hown1 hBw1 hg1 hs1; obtain ⟨A1, c1, hv1⟩ := own_slice hown1; subst hv1; have xx : w1.cell? ⟨s, o + 1, none⟩ = some (.int .u8 k1) := cell_below hBw1 x1; have hx2 := (hg1.block W.heap.size (by omega) (by simp [Value.ownBlock])).trans hXE0; have hsne : s ≠ W.heap.size := (by omega); have q0 := cell_of_row w1 W.heap.size 0 _ _ _ hx2; have q1 := cell_of_row w1 W.heap.size 1 _ _ _ hx2; have p0 := frozen_of_row w1 W.heap.size 0 _ _ hx2; have p1 := frozen_of_row w1 W.heap.size 1 _ _ hx2)))
    · go_wp2_with fail
      go_meet
      rw [Nat.zero_add, List.nil_append] at hown1
      exact ⟨_, A1, c1, rfl, heap_alloc_new w1 _, (own_lo hown1 (by omega)).alloc _, hBw1.alloc hBw1.size _, hBw1.size⟩
    · go_wp2_with fail
      go_meet
      rw [Nat.zero_add, List.nil_append] at hown1
      have hoo : ∀ k, (Value.slice A1 ll c1).ownBlock = some k → k ≠ W.heap.size + 1 := fun k hk e => own_blk_ne hown1 hx2 (by decide) (by rw [hk, e])
      exact ⟨_, A1, c1, rfl, Go.Proofs.YtggogenhakdhiaaDoorW.PrintWords.blk_set (Go.Proofs.YtggogenhakdhiaaDoorW.PrintWords.blk_set hx2 0 _) 1 _, own_at (own_at (own_lo hown1 (by omega)) (fun k hk => heap_setCell_other _ _ _ _ (hoo k hk))) (fun k hk => heap_setCell_other _ _ _ _ (hoo k hk)), (hBw1.setCell (Nat.le_succ _) _).setCell (Nat.le_succ _) _, Nat.le_succ _⟩
    · go_wp2_with fail
      go_meet
      rw [Nat.zero_add, List.nil_append] at hown1
      have hoo : ∀ k, (Value.slice A1 ll c1).ownBlock = some k → k ≠ W.heap.size := fun k hk e => own_blk_ne hown1 hx2 (by decide) (by rw [hk, e])
      exact ⟨_, A1, c1, rfl, Go.Proofs.YtggogenhakdhiaaDoorW.PrintWords.blk_set (Go.Proofs.YtggogenhakdhiaaDoorW.PrintWords.blk_set hx2 0 _) 1 _, own_at (own_at (own_lo hown1 (by omega)) (fun k hk => heap_setCell_other _ _ _ _ (hoo k hk))) (fun k hk => heap_setCell_other _ _ _ _ (hoo k hk)), (hBw1.setCell (Nat.le_refl _) _).setCell (Nat.le_refl _) _, Nat.le_refl _⟩
  case rest =>
    obtain ⟨gx, A2, c2, rfl, hbx, hown2, hB2, hgx⟩ := hcut
    have hB0c : Below w.heap.size w wc := hB0.trans (hB2.mono hsz)
    have hrb := (hB2.block w.heap.size hz0).trans hbox
    have xx0 := cell_of_row wc gx 0 _ _ _ hbx
    have xx1 := cell_of_row wc gx 1 _ _ _ hbx
    have hgne : gx ≠ w.heap.size := by omega
    have hwc : w.heap.size < wc.heap.size := (Array.getElem?_eq_some_iff.1 hrb).1
    have hlb' : ld.length = ll := hld0
    have hbl : Bys wc A2 ll ld := Bys.own hown2
    have HP : Calls Tryd.prog 97 #[.agg #[.int .i64 k1, .slice A2 ll c2]] wc (RetBys wc.heap.size 5 (packB k1 ld) wc) := by
      have := bytes_walk wc k1 A2 c2 ld (by rw [hlb']; exact hbl) (by omega) (by omega)
      rw [hlb'] at this
      exact this
    have hpl : (packB k1 ld).length = 64 * secs ll := by rw [packB_length, hlb']
    have hpm : 64 * secs ll ≤ m := by unfold secs; omega
    have hps : 10 + ll ≤ 64 * secs ll := secs_le ll
    have hrp : rp = if l.take (64 * secs ll) = packB k1 ld then some ((k1 : Int), ld) else none := hrp0
    have hby2 : Bys wc (some ⟨s, o, none⟩) (64 * secs ll) (l.take (64 * secs ll)) := (hb1.below hB2).take _ hpm
    generalize packB k1 ld = pk at *
    generalize 64 * secs ll = pn at *
    generalize l.take pn = tk at *
    have hcz : (pn : Int) ≤ (c : Int) := by omega
    have hrs : rp.isSome = decide (tk = pk) := by
      rw [hrp]
      by_cases he : tk = pk
      · rw [if_pos he, decide_eq_true he]; rfl
      · rw [if_neg he, decide_eq_false he]; rfl
    have hrq : ∀ q, rp = some q → q = ((k1 : Int), ld) := by
      intro q hq
      rw [hrp] at hq
      by_cases he : tk = pk
      · rw [if_pos he] at hq; exact (Option.some.inj hq).symm
      · rw [if_neg he] at hq; cases hq
    replace hpl := Go.Lib.hid hpl
    replace hlb' := Go.Lib.hid hlb'
    clear hrp hrp0 hbox x0 x1 y0 y1 f0 f1 HN hcut10 hld hld0 hll hb1 hby
    go_upto_region 8 with (go_at_call 97; go_must (refine HP.mono ?_; intro e w3 hR; obtain ⟨A3, c3, rfl, hown3, hB3⟩ := hR.len (show pk.length = pn from hpl)))
    have hst1 := (hby2.below (hB3.trans (below_drew (Below.refl _ _)))).string (P := Tryd.prog) Tryd.underlying22 Tryd.underlying5 Tryd.underlying9 c
    have hst2 := ((Bys.own hown3).drew).string (P := Tryd.prog) Tryd.underlying22 Tryd.underlying5 Tryd.underlying9 c3
    have hn1 : ∀ ad, (some ⟨s, o, none⟩ : Option Addr) = some ad → ad.block ≠ w.heap.size := by
      intro ad e
      cases e
      show s ≠ w.heap.size
      omega
    have hn2 : ∀ ad, A3 = some ad → ad.block ≠ w.heap.size := by
      intro ad e
      subst e
      rcases hown3.2 with ⟨e', _⟩ | ⟨g', cap', cur', e', hb', _⟩
      · cases e'
      · cases e'
        show g' ≠ w.heap.size
        omega
    have hst3 := ((((hby2.below hB3).set w.heap.size 0 (.int .i64 k1) hn1).set w.heap.size 1 (.slice A2 ll c2) hn1).drew).string (P := Tryd.prog) Tryd.underlying22 Tryd.underlying5 Tryd.underlying9 c
    have hst4 := ((((Bys.own hown3).set w.heap.size 0 (.int .i64 k1) hn2).set w.heap.size 1 (.slice A2 ll c2) hn2).drew).string (P := Tryd.prog) Tryd.underlying22 Tryd.underlying5 Tryd.underlying9 c3
    have hrb3 := (hB3.block w.heap.size hwc).trans hrb
    have q0 := cell_of_row w3 w.heap.size 0 _ _ _ hrb3
    have q1 := cell_of_row w3 w.heap.size 1 _ _ _ hrb3
    have p0 := frozen_of_row w3 w.heap.size 0 _ _ hrb3
    have p1 := frozen_of_row w3 w.heap.size 1 _ _ hrb3
    have xx2 := cell_below hB3 xx0
    have xx3 := cell_below hB3 xx1
    have hoo : ∀ k, (Value.slice A2 ll c2).ownBlock = some k → k ≠ w.heap.size := fun k hk e => own_blk_ne hown2 hrb (by decide) (by rw [hk, e])
    have hfin : ∀ q, rp = some q → (k1 : Int) = (q.1 : Int) ∧ ll = q.2.length ∧ ((w3.setCell ⟨w.heap.size, 0, none⟩ (.int .i64 k1)).setCell ⟨w.heap.size, 1, none⟩ (.slice A2 ll c2)).ownsRow w.heap.size 5 1 (.slice A2 ll c2) ll (bv q.2) := by
      intro q hq
      rw [hrq q hq]
      exact ⟨rfl, (show ld.length = ll from hlb').symm, own_at (own_at (own_lo (own_below hown2 hB3) (Nat.le_succ _)) (fun k hk => heap_setCell_other _ _ _ _ (hoo k hk))) (fun k hk => heap_setCell_other _ _ _ _ (hoo k hk))⟩
    have hB3w : Below w.heap.size w w3 := hB0c.trans (hB3.mono (Nat.le_of_lt hwc))
    clear hrq xx0 xx1 hby2 hbx
    replace hrs := Go.Lib.hid hrs
    replace hfin := Go.Lib.hid hfin
    by_cases he : tk = pk
    · have hdt : rp.isSome = true := by rw [show rp.isSome = _ from hrs]; exact decide_eq_true he
      replace hdt := Go.Lib.hid hdt
      rw [he] at hst1 hst3
      clear he hrs
      go_region_held_law (fun w' => w'.cell? ⟨gx, 0, none⟩ = some (.int .i64 k1) ∧ w'.cell? ⟨gx, 1, none⟩ = some (.slice A2 ll c2)) (first | exact ⟨keep_set2 hgne xx2, keep_set2 hgne xx3⟩ | go_keep) (fail)
      all_goals
        go_wp2_with fail
        try simp only [Exit.inBlock, Exit.then]
        refine bodyPost_ret (Go.Proofs.YtggogenhakdhiaaDoorW.PrintWords.results_ct rfl _ _ w.heap.size _ _ _ _ rfl (Go.Proofs.YtggogenhakdhiaaDoorW.PrintWords.blk_set (Go.Proofs.YtggogenhakdhiaaDoorW.PrintWords.blk_set hrb3 0 _) 1 _) Tryd.underlying102 rfl (by kernel_rfl)) rfl ?_
        exact ⟨(k1 : Int), A2, ll, c2, by rw [show rp.isSome = true from hdt]; rfl, hfin.out, below_drew ((hB3w.setCell (p := ⟨w.heap.size, 0, none⟩) (Nat.le_refl _) (.int .i64 k1)).setCell (p := ⟨w.heap.size, 1, none⟩) (Nat.le_refl _) (.slice A2 ll c2))⟩
    · have hdt : rp.isSome = false := by rw [show rp.isSome = _ from hrs]; exact decide_eq_false he
      replace hdt := Go.Lib.hid hdt
      have hne : ¬ str tk = str pk := fun e => he (str_inj.1 e)
      have hne2 : ((str tk).toList == (str pk).toList) = false := by rw [str_toList, str_toList, beq_eq_false_iff_ne]; exact he
      clear he hrs
      go_region_held_law (fun w' => w'.cell? ⟨gx, 0, none⟩ = some (.int .i64 k1) ∧ w'.cell? ⟨gx, 1, none⟩ = some (.slice A2 ll c2)) (first | exact ⟨keep_set2 hgne xx2, keep_set2 hgne xx3⟩ | go_keep) (fail)
      all_goals
        go_wp2_with fail
        try simp only [Exit.inBlock, Exit.then]
        refine bodyPost_ret (Go.Proofs.YtggogenhakdhiaaDoorW.PrintWords.results_ct rfl _ _ w.heap.size _ _ _ _ rfl (Go.Proofs.YtggogenhakdhiaaDoorW.PrintWords.blk_set (Go.Proofs.YtggogenhakdhiaaDoorW.PrintWords.blk_set hrb3 0 _) 1 _) Tryd.underlying102 rfl (by kernel_rfl)) rfl ?_
        exact ⟨(k1 : Int), A2, ll, c2, by rw [show rp.isSome = false from hdt]; rfl, hfin.out, below_drew ((hB3w.setCell (p := ⟨w.heap.size, 0, none⟩) (Nat.le_refl _) (.int .i64 k1)).setCell (p := ⟨w.heap.size, 1, none⟩) (Nat.le_refl _) (.slice A2 ll c2))⟩
theorem rread_walk' (w : World) (s o m c : Nat) (l : List UInt8) (hby : Bys w (some ⟨s, o, none⟩) m l) (hm : 64 ≤ m) (hmc : m ≤ c) (hc : c ≤ 9223372036854775807) (hm2 : m % 64 = 0) :
    Calls Tryd.prog 50 #[.slice (some ⟨s, o, none⟩) m c] w (RetRRec w.heap.size (rreadL l) w) := by
  by_cases hbad : (l.getD 0 0).toNat ≠ 82 ∨ (l.getD 1 0).toNat = 0 ∨ frontLen l > 262144 ∨ 10 + frontLen l > l.length
  · exact rread_bad w s o m c l hby hm hmc hc hbad
  · exact rread_ok w s o m c l hby hm hmc hc hm2 hbad
end Go.Proofs.YtggogenhakdhiaaDoor
