/- The record that begins at a sector, the program's way, walked: the way through. -/
import Derived.Test.YtggogenhakdhiaaDoorWalRead
import Derived.Deep.DeepCutAuto
import Derived.Deep.CutBlock
import Derived.Deep.DeepMust
set_option linter.unusedVariables false
set_option linter.unusedSimpArgs false
attribute [local go_sem ↓] Go.wp_at_zero Go.wp_at_succ
namespace Go.Proofs.YtggogenhakdhiaaDoor
open Go.RowKit

/-- bytes that grow: of the call's own, or a full row; where they lie -/
def Grow (w : World) (base : Nat) (v : Value) (l : List UInt8) : Prop :=
  OwnOr w base 5 v l ∧ ∃ g c, v = .slice (some ⟨g, 0, none⟩) l.length c ∧ l.length ≤ c ∧ c ≤ 9223372036854775807
/-- a record of the call's own, in a box of its own -/
def RecBox (w0 : World) (base k n : Nat) (l : List UInt8) (v : Value) (w : World) : Prop :=
  ∃ g A c, v = .pointer (some ⟨g, 0, none⟩) ∧ w.heap[g]? = some (.cells #[.int .i64 k, .slice A n c] 50 (0, 0)) ∧ w.ownsRow base 5 1 (.slice A n c) n (bv l) ∧ Below w0.heap.size w0 w ∧ w0.heap.size ≤ g
theorem keep_set2 {w : World} {g g0 i a b : Nat} {x y v : Value} (hne : g0 ≠ g) (h : w.cell? ⟨g0, i, none⟩ = some v) : ((w.setCell ⟨g, a, none⟩ x).setCell ⟨g, b, none⟩ y).cell? ⟨g0, i, none⟩ = some v := by
  have h1 : (⟨g, a, none⟩ : Addr) ≠ ⟨g0, i, none⟩ := fun e => hne (congrArg Addr.block e).symm
  have h2 : (⟨g, b, none⟩ : Addr) ≠ ⟨g0, i, none⟩ := fun e => hne (congrArg Addr.block e).symm
  exact (World.cell?_setCell_other _ _ _ _ h2).trans ((World.cell?_setCell_other _ _ _ _ h1).trans h)
theorem secsOf_head (img : List UInt8) (at_ k i : Nat) (hk : 1 ≤ k) (hi : i < 64) : (secsOf img at_ k).getD i 0 = (secOf img at_).getD i 0 := by
  unfold secsOf secOf
  rw [List.getD_eq_getElem?_getD, List.getD_eq_getElem?_getD, List.getElem?_take, List.getElem?_take, if_pos (by omega), if_pos hi]
theorem Grow.own {w : World} {base : Nat} {v : Value} {l : List UInt8} (h : w.ownsRow base 5 1 v l.length (bv l)) (hl : 0 < l.length) : Grow w base v l := by
  obtain ⟨g, c, hv, _, _, h1, h2, _⟩ := own_some h hl
  exact ⟨.inl h, g, c, hv, h1, h2⟩
set_option maxHeartbeats 4000000 in
set_option maxRecDepth 20000 in
theorem wread_ok (w : World) (g n : Nat) (sv tv : Value) (d : DS) (h : PDsk w g sv tv n d) (ht : TabAt w) (at_ end_ : Nat) (ha : at_ < end_) (he : end_ ≤ n) (hbad : ¬ (((secOf d.img at_).getD 0 0).toNat ≠ 82 ∨ ((secOf d.img at_).getD 1 0).toNat = 0 ∨ loadLen d.img at_ > 262144 ∨ at_ + secs (loadLen d.img at_) > end_)) :
    Calls Tryd.prog 45 #[.pointer (some ⟨g, 0, none⟩), .int .i64 at_, .int .i64 end_] w (RetRec w.heap.size (secs (loadLen d.img at_)) (readP d.img at_ end_) w) := by
  have hle := h.le
  have hB0 : Below w.heap.size w (w.alloc (.cells #[.int .i64 0, .slice none 0 0] 50)) := (Below.refl _ _).alloc (Nat.le_refl _) _
  have hbox := heap_alloc_new w (.cells #[.int .i64 0, .slice none 0 0] 50)
  have hz0 : w.heap.size < (w.alloc (.cells #[.int .i64 0, .slice none 0 0] 50)).heap.size := by simp
  obtain ⟨rp, hrp0⟩ : ∃ x, x = readP d.img at_ end_ := ⟨_, rfl⟩
  obtain ⟨ks0, hks0⟩ : ∃ x, x = secs (loadLen d.img at_) := ⟨_, rfl⟩
  rw [← hrp0, ← hks0]
  replace hks0 := Go.Lib.hid hks0
  go_enter Tryd.func45, Tryd.ntmps45
  go_upto_region 1 with fail
  have h0 := h.below hB0
  have ht0 := ht.below hB0
  have hl64 := secOf_length h.len (show at_ < n by omega)
  generalize w.alloc (.cells #[.int .i64 0, .slice none 0 0] 50) = W at *
  have HR := read_at W g n sv tv d at_ h0 (by omega)
  have hb1 := bys_sector W 84 (secOf d.img at_) hl64
  have hB1 : Below W.heap.size W (W.alloc (.cells (bv (secOf d.img at_)).toArray 84)) := (Below.refl _ _).alloc (Nat.le_refl _) _
  have hbox1 := (hB1.block w.heap.size hz0).trans hbox
  have hq4 : loadLen d.img at_ = num (((secOf d.img at_).drop 2).take 4) := rfl
  have hrp : readP d.img at_ end_ = if ((secOf d.img at_).getD 0 0).toNat ≠ 82 ∨ ((secOf d.img at_).getD 1 0).toNat = 0 ∨ loadLen d.img at_ > 262144 ∨ at_ + secs (loadLen d.img at_) > end_ then none
    else if secsOf d.img at_ (secs (loadLen d.img at_)) = packB (recOf d.img at_ end_).1 (recOf d.img at_ end_).2 then some (((recOf d.img at_ end_).1 : Int), (recOf d.img at_ end_).2) else none := rfl
  have hro : recOf d.img at_ end_ = (((secOf d.img at_).getD 1 0).toNat, ((secsOf d.img at_ (secs (loadLen d.img at_))).drop 10).take (loadLen d.img at_)) := rfl
  have hs1 := secsOf_one d.img at_
  obtain ⟨ll, hll⟩ : ∃ x, x = loadLen d.img at_ := ⟨_, rfl⟩
  rw [← hll] at hq4 hrp hro hbad
  obtain ⟨hd, hhd⟩ : ∃ x, x = secOf d.img at_ := ⟨_, rfl⟩
  rw [← hhd] at hq4 hrp hro hs1 hl64 hb1 hB1 HR hbox1 hbad
  generalize hw1 : W.alloc (.cells (bv hd).toArray 84) = w1 at *
  have HN := number_walk w1 _ 4 62 _ (hb1.cut 2 4 (by omega)) (by omega)
  rw [← hq4] at HN
  have hq32 : ll < 4294967296 := by rw [hq4]; have := num_lt ((hd.drop 2).take 4); rw [List.length_take, List.length_drop, hl64] at this; exact this
  obtain ⟨_, e0, x0⟩ := hb1.cell 0 (by omega)
  cases e0
  obtain ⟨_, e0, x1⟩ := hb1.cell 1 (by omega)
  cases e0
  rw [add_plain] at x0 x1
  have y0 : w1.cell? ⟨w.heap.size, 0, none⟩ = some (.int .i64 0) := by rw [cell_of_row w1 w.heap.size 0 _ _ _ hbox1]; rfl
  have y1 : w1.cell? ⟨w.heap.size, 1, none⟩ = some (.slice none 0 0) := by rw [cell_of_row w1 w.heap.size 1 _ _ _ hbox1]; rfl
  have f0 := frozen_of_row w1 w.heap.size 0 _ _ hbox1
  have f1 := frozen_of_row w1 w.heap.size 1 _ _ hbox1
  have hkk : recOf d.img at_ end_ = ((hd.getD 1 0).toNat, ((secsOf d.img at_ (secs ll)).drop 10).take ll) := hro
  have hn0 := (hd.getD 0 0).toNat_lt
  have hn1 := (hd.getD 1 0).toNat_lt
  have hlw : IntKind.i64.wrap (ll : Int) = (ll : Int) := by rw [IntKind.wrap_i64]; omega
  rw [hkk] at hrp
  replace hks0 : ks0 = secs ll := by rw [hll]; exact hks0
  have hss : secs ll ≤ 100000000 := by unfold secs; omega
  have hsl : 10 + ll ≤ 64 * secs ll := secs_le ll
  subst hks0
  generalize hks : secs ll = ks at *
  generalize (hd.getD 0 0).toNat = k0 at *
  generalize hk1e : (hd.getD 1 0).toNat = k1 at *
  replace hk1e := Go.Lib.hid hk1e
  clear hro hkk hq4
  replace hll := Go.Lib.hid hll
  replace hhd := Go.Lib.hid hhd
  replace hw1 := Go.Lib.hid hw1
  replace hs1 := Go.Lib.hid hs1
  have hKS := sectors_walk' w1 ll (by omega)
  rw [hks] at hKS
  replace hks := Go.Lib.hid hks
  have hw3 : IntKind.i64.wrap ((at_ : Int) + (ks : Int)) = ((at_ + ks : Nat) : Int) := by rw [IntKind.wrap_i64]; omega
  have hB01 : Below w.heap.size w w1 := hB0.trans (hB1.mono hB0.size)
  obtain ⟨b0, b1, b2, b3⟩ : k0 = 82 ∧ 0 < k1 ∧ ll ≤ 262144 ∧ at_ + ks ≤ end_ := by omega
  rw [if_neg hbad] at hrp
  clear hbad
  subst b0
  have a2' : ((k1 : Int) == 0) = false := by simp; omega
  have a3' : ¬ 262144 < ll := by omega
  have a4' : ¬ end_ < at_ + ks := by omega
  go_upto_region 5 with (first
    | (go_at_call 59; go_must (refine hKS.mono ?_); rintro e w' ⟨rfl, rfl⟩)
    | (go_at_call 42; go_must (refine HR.mono ?_); rintro e w' ⟨rfl, rfl⟩)
    | (go_at_call 92; go_must (refine HN.mono ?_); rintro e w' ⟨rfl, rfl⟩))
  have hS : ∀ x, Calls Tryd.prog 59 #[.int .i64 ll] x (fun e w' => e = .returned (.int .i64 (ks : Nat)) ∧ x = w') := by
    intro x
    have := sectors_walk' x ll (by omega)
    rw [show secs ll = ks from hks] at this
    exact this
  have hks1 : 1 ≤ ks := by rw [← show secs ll = ks from hks]; exact secs_pos ll
  have hG1 : Grow w1 W.heap.size (.slice (some ⟨W.heap.size, 0, none⟩) 64 64) (secsOf d.img at_ 1) := by
    rw [show secsOf d.img at_ 1 = hd from hs1]
    rw [← hl64]
    exact ⟨.inr ⟨_, rfl, by rw [hl64]; exact hb1⟩, _, _, rfl, Nat.le_refl _, by omega⟩
  have hsz := hB1.size
  have hW0 := hB0.size
  replace hrp := Go.Lib.hid hrp
  replace hrp0 := Go.Lib.hid hrp0
  clear HR HN hKS
  go_wp2
  go_loopw [9, 12] (fun v i wr => ∃ j : Nat, 1 ≤ j ∧ j ≤ ks ∧ i = .int .i64 j ∧ Grow wr W.heap.size v (secsOf d.img at_ j) ∧ Below W.heap.size W wr) (fun _ i _ => ks - (intOf i).toNat)
  case atStart => exact ⟨1, by omega, hks1, rfl, hG1, hB1⟩
  case round =>
    obtain ⟨j, hj1, hj2, rfl, ⟨hO, g0, c0, hv, hc1, hc2⟩, hBr⟩ := hrel
    subst hv
    have hlj := secsOf_length h.len (show at_ + j ≤ n by omega)
    rw [hlj] at hc1
    have hzr := hBr.size
    by_cases hlt : j < ks
    · have hh := h0.below hBr
      have HRj := read_at wr g n sv tv d (at_ + j) hh (by omega)
      have hls := secOf_length h.len (show at_ + j < n by omega)
      have hbj := bys_sector wr 84 (secOf d.img (at_ + j)) hls
      have hBj : Below wr.heap.size wr (wr.alloc (.cells (bv (secOf d.img (at_ + j))).toArray 84)) := (Below.refl _ _).alloc (Nat.le_refl _) _
      have hOj := hO.alloc (.cells (bv (secOf d.img (at_ + j))).toArray 84)
      have hBW := hBr.trans (hBj.mono hzr)
      have hsx := secsOf_succ d.img at_ j
      have hwj : IntKind.i64.wrap ((at_ : Int) + (j : Int)) = ((at_ + j : Nat) : Int) := by rw [IntKind.wrap_i64]; omega
      have hllj : (secsOf d.img at_ j ++ secOf d.img (at_ + j)).length = 64 * j + 64 := by rw [List.length_append, hlj, hls]
      replace hsx := Go.Lib.hid hsx
      generalize secOf d.img (at_ + j) = sj at *
      rw [hlj]
      replace hllj := Go.Lib.hid hllj
      replace hls := Go.Lib.hid hls
      have hzj := hBj.size
      go_wp2_with (first
        | (at_builtin; refine wpList_append_or (o := ⟨some 65, _, _, _, _, _⟩) W W.heap.size rfl (.tmp 63) (.tmp 64) 22 5 rfl Tryd.underlying22 info_b _ (secsOf d.img at_ j) (by rw [← hlj]; rfl) hOj (some ⟨wr.heap.size, 0, none⟩) 64 64 sj rfl hbj (by omega) hBW (Nat.le_trans hzr hzj) (by rw [hlj]; omega) ?_; intro v2 w2 hown2 hB2 hs2; rw [show (secsOf d.img at_ j).length + 64 = (secsOf d.img at_ j ++ sj).length by rw [show (secsOf d.img at_ j ++ sj).length = _ from hllj, hlj]] at hown2; have hG2 := Grow.own hown2 (by rw [show (secsOf d.img at_ j ++ sj).length = _ from hllj]; omega))
        | (go_at_call 59; go_must (refine (hS wr).mono ?_); rintro e w' ⟨rfl, rfl⟩)
        | (go_at_call 42; go_must (refine HRj.mono ?_); rintro e w' ⟨rfl, rfl⟩))
      go_roundw
      case rel => exact ⟨j + 1, by omega, hlt, by go_num, by rw [show secsOf d.img at_ (j + 1) = _ from hsx]; exact hG2, hB2⟩
      case measure => simp [intOf]; omega
    · have hjk : j = ks := by omega
      subst hjk
      rw [hlj]
      go_upto_region 10 with (go_at_call 59; go_must (refine (hS wr).mono ?_); rintro e w' ⟨rfl, rfl⟩)
      have hby : Bys wr (some ⟨g0, 0, none⟩) (64 * j) (secsOf d.img at_ j) := by
        obtain ⟨A, c, e, hb⟩ := hO.slice
        cases e
        rw [hlj] at hb
        exact hb
      have hk1b : ((secsOf d.img at_ j).getD 1 0).toNat = k1 := by
        rw [secsOf_head d.img at_ j 1 hj1 (by omega), ← show hd = secOf d.img at_ from hhd]
        exact hk1e
      obtain ⟨_, e1, z1⟩ := hby.cell 1 (by omega)
      cases e1
      rw [add_plain, hk1b] at z1
      have hsl2 : 10 + ll ≤ 64 * j := hsl
      generalize secsOf d.img at_ j = bb at *
      have hlw2 : IntKind.i64.wrap (10 + (ll : Int)) = ((10 + ll : Nat) : Int) := by rw [IntKind.wrap_i64]; omega
      have hc3 : (c0 : Int) ≤ 9223372036854775807 := by omega
      have hc4 : 10 + ll ≤ c0 := by omega
      have hlb : ((bb.drop 10).take ll).length = ll := by rw [List.length_take, List.length_drop, hlj]; omega
      have HC : ∀ x, Below wr.heap.size wr x → Calls Tryd.prog 94 #[.slice (some ⟨g0, 10, none⟩) ll (c0 - 10)] x (RetBys x.heap.size 5 ((bb.drop 10).take ll) x) :=
        fun x hx => clone_walk x ⟨g0, 10, none⟩ ll (c0 - 10) _ ((hby.below hx).cut 10 ll (by omega)) (by omega)
      replace hlb := Go.Lib.hid hlb
      replace hlj := Go.Lib.hid hlj
      replace hk1b := Go.Lib.hid hk1b
      generalize hld : (bb.drop 10).take ll = ld at *
      replace hld := Go.Lib.hid hld
      have hg0 : g0 < wr.heap.size := World.block_lt_of_cell? wr _ z1
      go_cut [15] from 66 to 82 (fun v wx => RecBox wr (w.heap.size + 1) k1 ll ld v wx)
      case first =>
        have hX := heap_alloc_new wr (.cells #[.int .i64 0, .slice none 0 0] 50)
        have hxs : (wr.alloc (.cells #[.int .i64 0, .slice none 0 0] 50)).heap.size = wr.heap.size + 1 := by simp
        have hdX : Below wr.heap.size wr (wr.alloc (.cells #[.int .i64 0, .slice none 0 0] 50)).drew := below_drew ((Below.refl _ _).alloc (Nat.le_refl _) _)
        have hgne : g0 ≠ wr.heap.size := Nat.ne_of_lt hg0
        have HC1 := HC wr.drew (below_drew (Below.refl _ _))
        have HC2 := HC _ hdX
        have hk1w : IntKind.i64.wrap (k1 : Int) = (k1 : Int) := by rw [IntKind.wrap_i64]; omega
        have hp1 : (1 : Int) < 64 * (j : Int) := by omega
        have hp2 : (0 : Int) ≤ 10 + (ll : Int) := by omega
        have hp3 : 10 + (ll : Int) ≤ (c0 : Int) := by omega
        have hp4 : (10 : Int) ≤ max (10 + (ll : Int)) 0 := by omega
        have hp5 : ¬ c0 = 10 := by omega
        have hp6 : (10 + (ll : Int)).toNat - 10 = ll := by omega
        clear HC hld hby hss hsl hks hw3 b3 a4' hS hc1 hlj hk1b hrp0 hB1 hb1 f0 f1 hk1e hll hhd hw1 hs1 hB01 h0 ht0 hB0 ht h hlw hl64 hq32 hn1 hO
        go_region_held_law (fun w' => w'.cell? ⟨g0, 1, none⟩ = some (.int .u8 k1)) (first | exact keep_set2 hgne z2 | go_keep | exact z2) ((first
          | (go_at_call 94; (with_reducible refine HC1.mono ?_); intro e w2 hR; obtain ⟨A2, c2, rfl, hown2, hB2⟩ := hR.len (show ld.length = ll from hlb); have z2 : w2.cell? ⟨g0, 1, none⟩ = some (.int .u8 k1) := (hB2.cell hg0).trans z1)
          | (go_at_call 94; (with_reducible refine HC2.mono ?_); intro e w2 hR; obtain ⟨A2, c2, rfl, hown2, hB2⟩ := hR.len (show ld.length = ll from hlb); have hg1 : g0 < (wr.alloc (.cells #[.int .i64 0, .slice none 0 0] 50)).drew.heap.size := (by show g0 < (wr.alloc _).heap.size; omega); have z2 : w2.cell? ⟨g0, 1, none⟩ = some (.int .u8 k1) := (hB2.cell hg1).trans (cell_below hdX z1); have hx2 := (hB2.block wr.heap.size (by show wr.heap.size < (wr.alloc _).heap.size; omega)).trans hX; have q0 := cell_of_row w2 wr.heap.size 0 _ _ _ hx2; have q1 := cell_of_row w2 wr.heap.size 1 _ _ _ hx2; have p0 := frozen_of_row w2 wr.heap.size 0 _ _ hx2; have p1 := frozen_of_row w2 wr.heap.size 1 _ _ hx2)))
        · go_wp2_with fail
          go_meet
          have hB2d : Below wr.heap.size wr w2 := (below_drew (Below.refl _ _)).trans hB2
          exact ⟨_, A2, c2, rfl, heap_alloc_new w2 _, (own_lo hown2 (by show w.heap.size + 1 ≤ wr.heap.size; omega)).alloc _, hB2d.alloc hB2d.size _, hB2d.size⟩
        · go_wp2_with fail
          go_meet
          have hB2d : Below wr.heap.size wr w2 := hdX.trans (hB2.mono (by show wr.heap.size ≤ (wr.alloc _).heap.size; omega))
          refine ⟨_, A2, c2, rfl, Go.Proofs.YtggogenhakdhiaaDoorW.PrintWords.blk_set (Go.Proofs.YtggogenhakdhiaaDoorW.PrintWords.blk_set hx2 0 _) 1 _, ?_, (hB2d.setCell (Nat.le_refl _) _).setCell (Nat.le_refl _) _, Nat.le_refl _⟩
          have hoo : ∀ k, (Value.slice A2 ll c2).ownBlock = some k → k ≠ wr.heap.size := by
            intro k hk
            have h1 := own_base hown2 k hk
            have h2 : (wr.alloc (.cells #[.int .i64 0, .slice none 0 0] 50)).drew.heap.size = wr.heap.size + 1 := hxs
            rw [h2] at h1
            omega
          exact own_at (own_at (own_lo hown2 (by show w.heap.size + 1 ≤ (wr.alloc _).heap.size; omega)) (fun k hk => heap_setCell_other _ _ _ _ (hoo k hk))) (fun k hk => heap_setCell_other _ _ _ _ (hoo k hk))
      case rest =>
        obtain ⟨gx, A2, c2, rfl, hbx, hown2, hB2, hgx⟩ := hcut
        have hBc : Below W.heap.size W wc := hBr.trans (hB2.mono hzr)
        have hB0c : Below w.heap.size w wc := hB0.trans (hBc.mono hW0)
        have hrb := (hBc.block w.heap.size hz0).trans hbox
        have xx0 := cell_of_row wc gx 0 _ _ _ hbx
        have xx1 := cell_of_row wc gx 1 _ _ _ hbx
        have r0 := cell_of_row wc w.heap.size 0 _ _ _ hrb
        have r1 := cell_of_row wc w.heap.size 1 _ _ _ hrb
        have f0' := frozen_of_row wc w.heap.size 0 _ _ hrb
        have f1' := frozen_of_row wc w.heap.size 1 _ _ hrb
        have hgne : gx ≠ w.heap.size := by omega
        have hwc : w.heap.size < wc.heap.size := (Array.getElem?_eq_some_iff.1 hrb).1
        have hlb' : ld.length = ll := hlb
        have hbl : Bys wc A2 ll ld := Bys.own hown2
        have hcd : Below wc.heap.size wc wc.drew := below_drew (Below.refl _ _)
        have hby2 : Bys wc (some ⟨g0, 0, none⟩) (64 * j) bb := hby.below hB2
        have HP : Calls Tryd.prog 61 #[.agg #[.int .i64 k1, .slice A2 ll c2]] wc.drew (RetBys wc.drew.heap.size 5 (packB k1 ld) wc.drew) := by
          have := pack_walk wc.drew k1 A2 c2 ld (by rw [hlb']; exact hbl.below hcd) (by omega) (by omega) ((ht.below hB0c).below hcd)
          rw [hlb'] at this
          exact this
        have hpl := packB_length k1 ld
        have hBcd : Below w.heap.size w wc.drew := hB0c.trans (below_drew (Below.refl _ _))
        have hrp1 : readP d.img at_ end_ = if bb = packB k1 ld then some ((k1 : Int), ld) else none := hrp
        have hrp2 : rp = readP d.img at_ end_ := hrp0
        have hrs : rp.isSome = decide (bb = packB k1 ld) := by
          rw [hrp2, hrp1]
          by_cases he : bb = packB k1 ld
          · rw [if_pos he, decide_eq_true he]; rfl
          · rw [if_neg he, decide_eq_false he]; rfl
        have hrq : ∀ q, rp = some q → q = ((k1 : Int), ld) := by
          intro q hq
          rw [hrp2, hrp1] at hq
          by_cases he : bb = packB k1 ld
          · rw [if_pos he] at hq; exact (Option.some.inj hq).symm
          · rw [if_neg he] at hq; cases hq
        generalize packB k1 ld = pk at *
        generalize 64 * secs ld.length = pn at *
        replace hpl := Go.Lib.hid hpl
        replace hlb' := Go.Lib.hid hlb'
        replace hrs := Go.Lib.hid hrs
        clear hrp hrp1 hrp0 hrp2 HC hby hss hsl hks hw3 b3 a4' hc1 hlj hbox hbox1 y0 y1 x0 x1 z1 hG1 r0 r1
        go_upto_region 11 with fail
        go_region_held_law (fun w' => w'.cell? ⟨gx, 0, none⟩ = some (.int .i64 k1) ∧ w'.cell? ⟨gx, 1, none⟩ = some (.slice A2 ll c2)) (first | go_keep | exact ⟨xx2, xx3⟩ | exact ⟨keep_set2 hgne xx2, keep_set2 hgne xx3⟩) ((first
          | (go_at_call 43; (with_reducible refine (equal_walk w3 _ _ (64 * j) pn _ _ bb pk (hby2.below hB3') hbp).mono ?_); rintro e w' ⟨rfl, rfl⟩)
          | (go_at_call 61; (with_reducible refine HP.mono ?_); intro e w3 hR; obtain ⟨A3, c3, rfl, hown3, hB3⟩ := hR.len (show pk.length = pn from hpl); have hB3' : Below wc.heap.size wc w3 := hcd.trans hB3; have hbp : Bys w3 A3 pn pk := Bys.own hown3; have xx2 := cell_below hB3' xx0; have xx3 := cell_below hB3' xx1; have hrb3 := (hB3'.block w.heap.size hwc).trans hrb; have q0 := cell_of_row w3 w.heap.size 0 _ _ _ hrb3; have q1 := cell_of_row w3 w.heap.size 1 _ _ _ hrb3; have p0 := frozen_of_row w3 w.heap.size 0 _ _ hrb3; have p1 := frozen_of_row w3 w.heap.size 1 _ _ hrb3)
          | (go_at_call 59; (with_reducible refine (hS _).mono ?_); rintro e w' ⟨rfl, rfl⟩)))
        go_wp2_with fail
        try simp only [Exit.inBlock, Exit.then]
        refine bodyPost_ret (Go.Proofs.YtggogenhakdhiaaDoorW.PrintWords.results_ctt rfl _ _ w.heap.size _ _ _ _ rfl (Go.Proofs.YtggogenhakdhiaaDoorW.PrintWords.blk_set (Go.Proofs.YtggogenhakdhiaaDoorW.PrintWords.blk_set hrb3 0 _) 1 _) Tryd.underlying50 rfl (by kernel_rfl)) rfl ?_
        have hB3w : Below w.heap.size w w3 := hB0c.trans (hB3'.mono (Nat.le_of_lt hwc))
        refine ⟨(k1 : Int), A2, ll, c2, (j : Int), by rw [show rp.isSome = _ from hrs]; rfl, fun q hq => ?_, (hB3w.setCell (Nat.le_refl _) _).setCell (Nat.le_refl _) _⟩
        rw [hrq q hq]
        refine ⟨rfl, (show ld.length = ll from hlb').symm, rfl, ?_⟩
        have hoo : ∀ k, (Value.slice A2 ll c2).ownBlock = some k → k ≠ w.heap.size := by
          intro k hk
          have h1 := own_base hown2 k hk
          omega
        exact own_at (own_at (own_lo (own_below hown2 hB3') (Nat.le_succ _)) (fun k hk => heap_setCell_other _ _ _ _ (hoo k hk))) (fun k hk => heap_setCell_other _ _ _ _ (hoo k hk))
set_option maxHeartbeats 400000 in
theorem wread_walk (w : World) (g n : Nat) (sv tv : Value) (d : DS) (h : PDsk w g sv tv n d) (ht : TabAt w) (at_ end_ : Nat) (ha : at_ < end_) (he : end_ ≤ n) :
    Calls Tryd.prog 45 #[.pointer (some ⟨g, 0, none⟩), .int .i64 at_, .int .i64 end_] w (RetRec w.heap.size (secs (loadLen d.img at_)) (readP d.img at_ end_) w) := by
  by_cases hbad : ((secOf d.img at_).getD 0 0).toNat ≠ 82 ∨ ((secOf d.img at_).getD 1 0).toNat = 0 ∨ loadLen d.img at_ > 262144 ∨ at_ + secs (loadLen d.img at_) > end_
  · exact wread_bad w g n sv tv d h ht at_ end_ ha he hbad
  · exact wread_ok w g n sv tv d h ht at_ end_ ha he hbad
end Go.Proofs.YtggogenhakdhiaaDoor
