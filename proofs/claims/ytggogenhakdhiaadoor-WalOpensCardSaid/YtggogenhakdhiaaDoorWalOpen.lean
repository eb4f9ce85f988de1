/- The log that lies on a disk, the program's way, walked. -/
import Derived.Test.YtggogenhakdhiaaDoorWalRead2
import Derived.Test.YtggogenhakdhiaaDoorWalRec
import Derived.Test.YtggogenhakdhiaaDoorJumps
set_option linter.unusedVariables false
set_option linter.unusedSimpArgs false
namespace Go.Proofs.YtggogenhakdhiaaDoor
open Go.RowKit

def usedOf (l : List (Int × List UInt8)) : Nat := (l.map fun r => secs r.2.length).sum
theorem usedOf_snoc (l : List (Int × List UInt8)) (r : Int × List UInt8) : usedOf (l ++ [r]) = usedOf l + secs r.2.length := by unfold usedOf; simp
theorem readP_some {img : List UInt8} {n at_ en : Nat} {r : Int × List UInt8} (hl : img.length = 64 * n) (he : en ≤ n) (h : readP img at_ en = some r) : r.2.length = loadLen img at_ ∧ at_ + secs (loadLen img at_) ≤ en ∧ 1 ≤ r.1 ∧ r.1 ≤ 255 ∧ r.2.length ≤ 262144 := by
  unfold readP at h
  split at h
  · cases h
  · rename_i hn
    split at h
    · cases h
      have h1 : at_ + secs (loadLen img at_) ≤ en := by omega
      have h2 := secsOf_length hl (show at_ + secs (loadLen img at_) ≤ n by omega)
      have h3 := secs_le (loadLen img at_)
      have h4 := ((secOf img at_).getD 1 0).toNat_lt
      refine ⟨?_, h1, ?_, ?_, ?_⟩
      · unfold recOf; rw [List.length_take, List.length_drop, h2]; omega
      · unfold recOf; show (1 : Int) ≤ (((secOf img at_).getD 1 0).toNat : Int); omega
      · unfold recOf; show (((secOf img at_).getD 1 0).toNat : Int) ≤ 255; omega
      · unfold recOf; rw [List.length_take, List.length_drop, h2]; omega
    · cases h
/-- a log's state -/
structure LS where
  gen : Nat
  recs : List (Int × List UInt8)
  down : Bool
/-- the program's log in memory -/
structure PLog (w : World) (Z : Nat → Prop) (gl g : Nat) (v : Value) (s : LS) : Prop where
  blk : w.heap[gl]? = some (.cells #[.pointer (some ⟨g, 0, none⟩), .int .i64 (s.gen : Nat), .int .i64 (usedOf s.recs : Nat), v, .bool s.down] 88 (0, 0))
  recs : RecsAt 50 w Z v s.recs
/-- the document's log in memory -/
structure RLog (w : World) (Z : Nat → Prop) (gl g : Nat) (v : Value) (s : LS) : Prop where
  blk : w.heap[gl]? = some (.cells #[.pointer (some ⟨g, 0, none⟩), v, .int .i64 (s.gen : Nat), .int .i64 (usedOf s.recs : Nat), .bool s.down] 99 (0, 0))
  recs : RecsAt 102 w Z v s.recs
/-- what Open answers -/
def RetOpened (L : World → (Nat → Prop) → Nat → Nat → Value → LS → Prop) (B g : Nat) (o : Opened) (w : World) (e : Ending) (w' : World) : Prop :=
  Below B w w' ∧ match o with
    | .err k => e = .returned (.tuple #[.pointer none, .int .i64 k])
    | .log gen recs => ∃ gl v, e = .returned (.tuple #[.pointer (some ⟨gl, 0, none⟩), .int .i64 0]) ∧ L w' (fun k => B ≤ k) gl g v ⟨gen, recs, false⟩ ∧ B ≤ gl
/-- the frame of Open behind the head -/
def OpenFr (g gl q at_ en : Nat) (a : Act) : Prop := ∃ u : Nat → Value, a = { tmps := #[.pointer (some ⟨g, 0, none⟩), (u 1), (u 2), (u 3), .int .i64 (q : Nat), .bool true, .pointer (some ⟨gl, 0, none⟩), .int .i64 (at_ : Nat), .int .i64 (en : Nat), (u 9), (u 10), (u 11), (u 12), (u 13), (u 14), (u 15), (u 16), (u 17), (u 18), (u 19), (u 20), (u 21), (u 22), (u 23), (u 24), (u 25), (u 26), (u 27), (u 28), (u 29), (u 30), (u 31), (u 32), (u 33), (u 34), (u 35), (u 36), (u 37), (u 38), (u 39), (u 40), (u 41), (u 42), (u 43), (u 44), (u 45), (u 46), (u 47), (u 48), (u 49), (u 50), (u 51), (u 52), (u 53), (u 54), (u 55), (u 56), (u 57), (u 58), (u 59), (u 60), (u 61), (u 62), (u 63), (u 64), (u 65), (u 66), (u 67), (u 68), (u 69), (u 70), (u 71), (u 72), (u 73), (u 74), (u 75), (u 76)], defers := [] }
set_option maxRecDepth 20000 in
theorem OpenFr.mk (g gl q at_ en : Nat) (u1 u2 u3 u9 u10 u11 u12 u13 u14 u15 u16 u17 u18 u19 u20 u21 u22 u23 u24 u25 u26 u27 u28 u29 u30 u31 u32 u33 u34 u35 u36 u37 u38 u39 u40 u41 u42 u43 u44 u45 u46 u47 u48 u49 u50 u51 u52 u53 u54 u55 u56 u57 u58 u59 u60 u61 u62 u63 u64 u65 u66 u67 u68 u69 u70 u71 u72 u73 u74 u75 u76 : Value) : OpenFr g gl q at_ en { tmps := #[.pointer (some ⟨g, 0, none⟩), u1, u2, u3, .int .i64 (q : Nat), .bool true, .pointer (some ⟨gl, 0, none⟩), .int .i64 (at_ : Nat), .int .i64 (en : Nat), u9, u10, u11, u12, u13, u14, u15, u16, u17, u18, u19, u20, u21, u22, u23, u24, u25, u26, u27, u28, u29, u30, u31, u32, u33, u34, u35, u36, u37, u38, u39, u40, u41, u42, u43, u44, u45, u46, u47, u48, u49, u50, u51, u52, u53, u54, u55, u56, u57, u58, u59, u60, u61, u62, u63, u64, u65, u66, u67, u68, u69, u70, u71, u72, u73, u74, u75, u76], defers := [] } :=
  ⟨fun i => ([undef, u1, u2, u3, undef, undef, undef, undef, undef, u9, u10, u11, u12, u13, u14, u15, u16, u17, u18, u19, u20, u21, u22, u23, u24, u25, u26, u27, u28, u29, u30, u31, u32, u33, u34, u35, u36, u37, u38, u39, u40, u41, u42, u43, u44, u45, u46, u47, u48, u49, u50, u51, u52, u53, u54, u55, u56, u57, u58, u59, u60, u61, u62, u63, u64, u65, u66, u67, u68, u69, u70, u71, u72, u73, u74, u75, u76] : List Value).getD i undef, rfl⟩
/-- what holds at the labels of Open -/
def OpenJ (w : World) (d : DS) (g q fi en : Nat) (l : Nat) (a : Act) (w' : World) : Prop :=
  ∃ gl at_ v recs, OpenFr g gl q at_ en a ∧ fi ≤ at_ ∧ at_ ≤ en ∧ Below w.heap.size w w' ∧ w.heap.size ≤ gl ∧ PLog w' (fun k => w.heap.size ≤ k) gl g v ⟨q, recs, false⟩ ∧ usedOf recs = at_ - fi ∧ recs.length ≤ at_ - fi ∧
    ((l = 1 ∧ scan d.img en fi = (scan d.img en at_).map (recs ++ ·)) ∨ (l = 0 ∧ scan d.img en fi = some recs))
def openM (en : Nat) (l : Nat) (a : Act) (w' : World) : Nat := if l = 1 then 1 + (en - (intOf (a.tmps.getD 7 undef)).toNat) else 0
theorem openM_lt {en : Nat} (a b : Act) (w w' : World) : openM en 0 a w < openM en 1 b w' := by
  unfold openM
  rw [if_neg (by decide), if_pos rfl]
  omega
theorem OpenFr.m {g gl q at_ en : Nat} {a : Act} (h : OpenFr g gl q at_ en a) (w : World) : openM en 1 a w = 1 + (en - at_) := by
  obtain ⟨u, rfl⟩ := h
  unfold openM
  rw [if_pos rfl]
  show 1 + (en - (intOf (.int .i64 (at_ : Nat))).toNat) = _
  simp only [intOf]
  omega
theorem OpenFr.lt {g gl q at_ at2 en : Nat} {a b : Act} (h : OpenFr g gl q at2 en b) (k : OpenFr g gl q at_ en a) (h1 : at_ < at2) (h2 : at2 ≤ en) (w w' : World) : openM en 1 b w' < openM en 1 a w := by
  rw [h.m, k.m]
  omega
theorem genOf_le {img : List UInt8} {n q : Nat} (h : genOf img n = some q) : 1 ≤ q ∧ q ≤ 1099511627776 := by
  unfold genOf at h
  split at h
  · cases h
  · split at h
    · cases h
    · split at h
      · cases h; omega
      · cases h
theorem PLog.grow {w w' : World} {Z : Nat → Prop} {gl g : Nat} {v : Value} {s : LS} (h : PLog w Z gl g v s) (hg : w.grownBy w' v.ownBlock) : w'.heap[gl]? = w.heap[gl]? := by
  refine hg.block gl (Array.getElem?_eq_some_iff.1 h.blk).1 fun e => ?_
  obtain ⟨xs, ho, _⟩ := h.recs.ex
  exact own_blk_ne ho h.blk (by decide) e.symm
theorem PLog.chain {w w' : World} {Z : Nat → Prop} {gl g : Nat} {v : Value} {s : LS} (h : PLog w Z gl g v s) (hb : Below w.heap.size w w') : PLog w' Z gl g v s :=
  ⟨(hb.block gl (Array.getElem?_eq_some_iff.1 h.blk).1).trans h.blk, h.recs.below hb⟩
/-- a record is laid behind the others, and the log's two cells are turned -/
theorem PLog.snoc {w w1 : World} {Z : Nat → Prop} {gl g : Nat} {v v1 : Value} {s : LS} {r : Int × List UInt8} (h : PLog w Z gl g v s) (hg : w.grownBy w1 v.ownBlock) (h1 : RecsAt 50 w1 Z v1 (s.recs ++ [r])) :
    PLog ((w1.setCell ⟨gl, 3, none⟩ v1).setCell ⟨gl, 2, none⟩ (.int .i64 (usedOf (s.recs ++ [r]) : Nat))) Z gl g v1 { s with recs := s.recs ++ [r] } := by
  have hb := (h.grow hg).trans h.blk
  have hb2 := Go.Proofs.YtggogenhakdhiaaDoorW.PrintWords.blk_set hb 3 v1
  refine ⟨Go.Proofs.YtggogenhakdhiaaDoorW.PrintWords.blk_set hb2 2 _, (h1.set hb (by decide) (by decide) 3 v1).set hb2 (by decide) (by decide) 2 _⟩
set_option maxHeartbeats 2000000 in
set_option maxRecDepth 20000 in
theorem open_ok (w : World) (g n : Nat) (sv tv : Value) (d : DS) (h : PDsk w g sv tv n d) (ht : TabAt w) (q : Nat) (hd : d.down = false) (hg : genOf d.img n = some q) :
    Calls Tryd.prog 13 #[.pointer (some ⟨g, 0, none⟩)] w (RetOpened PLog w.heap.size g (match scan d.img (firstOf n q + halfOf n) (firstOf n q) with | none => .err 61 | some l => .log q l) w) := by
  have hfe : firstOf n q + halfOf n ≤ n := by have := h.pos; unfold firstOf halfOf; split <;> omega
  have hle := h.le
  obtain ⟨fi, hfi0⟩ : ∃ x, x = firstOf n q := ⟨_, rfl⟩
  obtain ⟨en, hen0⟩ : ∃ x, x = firstOf n q + halfOf n := ⟨_, rfl⟩
  rw [← hen0, ← hfi0]
  rw [← hen0] at hfe
  replace hfi0 := Go.Lib.hid hfi0
  replace hen0 := Go.Lib.hid hen0
  replace hd := Go.Lib.hid hd
  replace hg := Go.Lib.hid hg
  go_enter Tryd.func13, Tryd.ntmps13
  go_wp2
  refine wp_scope_labels' (OpenJ w d g q fi en) (openM en) ?_ ?_
  · rintro l a' w' ⟨gl, at_, v, recs, ⟨u, rfl⟩, hfi, hat, hB, hgl, hL, hu, hrl, (⟨rfl, hsc⟩ | ⟨rfl, hsc⟩)⟩
    · refine ⟨_, rfl, ?_⟩
      by_cases hend : at_ = en
      · have he1 : ((at_ : Int) == (en : Int)) = true := by rw [beq_iff_eq]; omega
        have hs0 : scan d.img en fi = some recs := by rw [hsc, scan_end (by omega)]; simp
        replace hs0 := Go.Lib.hid hs0
        replace hend := Go.Lib.hid hend
        clear hsc
        go_wp2_with fail
        go_step3
        refine And.intro ⟨gl, at_, v, recs, ?_, hfi, hat, hB, hgl, hL, hu, hrl, .inr ⟨rfl, hs0.out⟩⟩ ?_
        · exact OpenFr.mk ..
        · exact openM_lt _ _ _ _
      · have he1 : ((at_ : Int) == (en : Int)) = false := by rw [beq_eq_false_iff_ne]; omega
        have hlt : at_ < en := by omega
        have hltz : (at_ : Int) < (en : Int) := by omega
        have h1 := h.below hB
        have hBs := hB.size
        have HR := read_at w' g n sv tv d at_ h1 (by omega)
        have hl64 := secOf_length h.len (show at_ < n by omega)
        have hb1 := bys_sector w' 84 (secOf d.img at_) hl64
        have hB1 : Below w'.heap.size w' (w'.alloc (.cells (bv (secOf d.img at_)).toArray 84)) := (Below.refl _ _).alloc (Nat.le_refl _) _
        generalize w'.alloc (.cells (bv (secOf d.img at_)).toArray 84) = w1 at *
        have HZ := zeros_walk w1
        have hBs1 := hB1.size
        clear hend
        by_cases hz : secOf d.img at_ = zb64
        · have hs0 : scan d.img en fi = some recs := by rw [hsc, scan_zero hz]; simp
          replace hs0 := Go.Lib.hid hs0
          have hdz : decide (secOf d.img at_ = zb64) = true := decide_eq_true hz
          replace hz := Go.Lib.hid hz
          clear hsc
          generalize secOf d.img at_ = sec at *
          have hzl := zb64_length
          generalize zb64 = zz at *
          replace hzl := Go.Lib.hid hzl
          have HQ : ∀ W A c, Bys W (some ⟨w'.heap.size, 0, none⟩) 64 sec → Bys W A 64 zz → Calls Tryd.prog 43 #[.slice (some ⟨w'.heap.size, 0, none⟩) 64 64, .slice A 64 c] W (fun e w' => e = .returned (.bool true) ∧ W = w') := by
            intro W A c x y
            have := equal_walk W (some ⟨w'.heap.size, 0, none⟩) A 64 64 64 c sec zz x y
            rw [hdz] at this
            exact this
          replace hdz := Go.Lib.hid hdz
          go_wp2_with (first
            | (go_at_call 43; go_must (refine (HQ w2 _ _ (hb1.below hB2) (Bys.own hown2)).mono ?_); rintro e w3 ⟨rfl, rfl⟩)
            | (go_at_call 44; go_must (refine HZ.mono ?_; intro e w2 hR; obtain ⟨A2, c2, rfl, hown2, hB2⟩ := hR.len (show zz.length = 64 from hzl)))
            | (go_at_call 42; go_must (refine HR.mono ?_); rintro e w3 ⟨rfl, rfl⟩))
          go_step3
          have hB02 := hB1.trans (hB2.mono hBs1)
          refine And.intro ⟨gl, at_, v, recs, ?_, hfi, hat, hB.trans (hB02.mono hBs), hgl, hL.chain hB02, hu, hrl, .inr ⟨rfl, hs0.out⟩⟩ ?_
          · exact OpenFr.mk ..
          · exact openM_lt _ _ _ _
        · have hdz : decide (secOf d.img at_ = zb64) = false := decide_eq_false hz
          have hzl := zb64_length
          have HQ : ∀ W A c, Bys W (some ⟨w'.heap.size, 0, none⟩) 64 (secOf d.img at_) → Bys W A 64 zb64 → Calls Tryd.prog 43 #[.slice (some ⟨w'.heap.size, 0, none⟩) 64 64, .slice A 64 c] W (fun e w' => e = .returned (.bool false) ∧ W = w') := by
            intro W A c x y
            have := equal_walk W (some ⟨w'.heap.size, 0, none⟩) A 64 64 64 c (secOf d.img at_) zb64 x y
            rw [hdz] at this
            exact this
          have HW := fun W (hh : PDsk W g sv tv n d) (ht : TabAt W) => wread_walk W g n sv tv d hh ht at_ en hlt hfe
          have hns : ¬ en ≤ at_ := by omega
          cases hr : readP d.img at_ en with
          | none =>
            have hs0 : scan d.img en fi = none := by rw [hsc, scan_none hns hz hr]; rfl
            rw [hr] at HW
            replace hs0 := Go.Lib.hid hs0
            clear hr hsc hz hdz hns
            generalize secOf d.img at_ = sec at *
            generalize zb64 = zz at *
            replace hzl := Go.Lib.hid hzl
            generalize secs (loadLen d.img at_) = ks at *
            go_wp2_with (first
              | (go_at_call 45; go_must (refine (HW w2 ((h1.below hB1).below hB2) ((ht.below (hB.trans (hB1.mono hBs))).below hB2)).mono ?_; intro e w3 hR; obtain ⟨kz, A3, m3, c3, y3, rfl, -, hB3⟩ := hR))
              | (go_at_call 43; go_must (refine (HQ w2 _ _ (hb1.below hB2) (Bys.own hown2)).mono ?_); rintro e w3 ⟨rfl, rfl⟩)
              | (go_at_call 44; go_must (refine HZ.mono ?_; intro e w2 hR; obtain ⟨A2, c2, rfl, hown2, hB2⟩ := hR.len (show zz.length = 64 from hzl)))
              | (go_at_call 42; go_must (refine HR.mono ?_); rintro e w3 ⟨rfl, rfl⟩))
            simp only [jumps]
            go_ret2
            rw [show scan d.img en fi = none from hs0.out]
            have hB02 := hB1.trans (hB2.mono hBs1)
            have hB03 := hB02.trans (hB3.mono hB02.size)
            exact ⟨(hB.trans (hB03.mono hBs)).alloc (by have := hB03.size; omega) _, rfl⟩
          | some r =>
            obtain ⟨hrl2, hre, hk1, hk2, hl2⟩ := readP_some h.len hfe hr
            have hsc2 := hsc
            rw [scan_some hns hz hr] at hsc2
            rw [hr] at HW
            have hsp := secs_pos (loadLen d.img at_)
            have hsx : scan d.img en fi = (scan d.img en (at_ + secs (loadLen d.img at_))).map (recs ++ [r] ++ ·) := by
              rw [hsc2, Option.map_map]
              congr 1
              funext x
              simp
            have hus : usedOf (recs ++ [r]) = usedOf recs + secs (loadLen d.img at_) := by rw [usedOf_snoc, hrl2]
            replace hsx := Go.Lib.hid hsx
            clear hr hsc hsc2 hz hdz hns
            generalize secOf d.img at_ = sec at *
            generalize zb64 = zz at *
            replace hzl := Go.Lib.hid hzl
            generalize secs (loadLen d.img at_) = ks at *
            have hw1 : IntKind.i64.wrap ((usedOf recs : Int) + (ks : Int)) = ((usedOf (recs ++ [r]) : Nat) : Int) := by rw [IntKind.wrap_i64, hus]; omega
            have hw2 : IntKind.i64.wrap ((at_ : Int) + (ks : Int)) = ((at_ + ks : Nat) : Int) := by rw [IntKind.wrap_i64]; omega
            replace hus := Go.Lib.hid hus
            replace hu := Go.Lib.hid hu
            replace hrl2 := Go.Lib.hid hrl2
            go_upto_region 14 with (first
              | (go_at_call 45; go_must (refine (HW w2 ((h1.below hB1).below hB2) ((ht.below (hB.trans (hB1.mono hBs))).below hB2)).mono ?_; intro e w3 hR; obtain ⟨kz, A3, m3, c3, y3, rfl, hq3, hB3⟩ := hR; obtain ⟨rfl, rfl, rfl, hown3⟩ := hq3 r rfl))
              | (go_at_call 43; go_must (refine (HQ w2 _ _ (hb1.below hB2) (Bys.own hown2)).mono ?_); rintro e w3 ⟨rfl, rfl⟩)
              | (go_at_call 44; go_must (refine HZ.mono ?_; intro e w2 hR; obtain ⟨A2, c2, rfl, hown2, hB2⟩ := hR.len (show zz.length = 64 from hzl)))
              | (go_at_call 42; go_must (refine HR.mono ?_); rintro e w3 ⟨rfl, rfl⟩))
            have hB02 := hB1.trans (hB2.mono hBs1)
            have hB03 := hB02.trans (hB3.mono hB02.size)
            have hs3 := hB03.size
            have hb4 := heap_alloc_new w3 (.cells #[.int .i64 (r.1 : Int), .slice A3 r.2.length c3] 50)
            have hB4 : Below w3.heap.size w3 (w3.alloc (.cells #[.int .i64 (r.1 : Int), .slice A3 r.2.length c3] 50)) := (Below.refl _ _).alloc (Nat.le_refl _) _
            have hbw3 : w.heap.size ≤ w3.heap.size := Nat.le_trans hBs hs3
            have hO4 : OwnB (w3.alloc (.cells #[.int .i64 (r.1 : Int), .slice A3 r.2.length c3] 50)) (fun k => w.heap.size ≤ k) A3 r.2.length c3 r.2 := ⟨(own_lo hown3 (Nat.zero_le _)).alloc _, fun k hk => by have := own_base hown3 k hk; have := hB02.size; omega⟩
            obtain ⟨gx, hgx⟩ : ∃ x, x = w3.heap.size := ⟨_, rfl⟩
            rw [← hgx] at hb4 ⊢
            replace hgx := Go.Lib.hid hgx
            have hL4 := (hL.chain hB03).chain hB4
            have hB04 := hB.trans ((hB03.trans (hB4.mono hs3)).mono hBs)
            generalize w3.alloc (.cells #[.int .i64 (r.1 : Int), .slice A3 r.2.length c3] 50) = w4 at *
            have hs4 := hB04.size
            have hw3 : (recs.length : Int) ≤ 16384 := by omega
            have z3 := cell_of_row w4 gl 3 _ _ _ hL4.blk
            have z2 := cell_of_row w4 gl 2 _ _ _ hL4.blk
            have zf := frozen_of_row w4 gl 3 _ _ hL4.blk
            have x0 := cell_of_row w4 gx 0 _ _ _ hb4
            have x1 := cell_of_row w4 gx 1 _ _ _ hb4
            have z3' : w4.cell? ⟨gl, 3, none⟩ = some v := z3
            have z2' : w4.cell? ⟨gl, 2, none⟩ = some (.int .i64 (usedOf recs : Nat)) := z2
            clear z3 z2
            have hone : RecsAt 50 (w4.alloc (.cells #[.int .i64 (r.1 : Int), .slice A3 r.2.length c3] 50)).drew (fun j => w.heap.size ≤ j ∨ w4.heap.size ≤ j) (.slice (some ⟨w4.heap.size, 0, none⟩) 1 1) [r] := (RecsAt.one hO4).below (below_drew (Below.refl _ _))
            have hB5 : Below w4.heap.size w4 (w4.alloc (.cells #[.int .i64 (r.1 : Int), .slice A3 r.2.length c3] 50)).drew := below_drew ((Below.refl _ _).alloc (Nat.le_refl _) _)
            have hR5 := hL4.recs.below hB5
            have hL5 := hL4.chain hB5
            have hB05 := hB04.trans (hB5.mono hs4)
            have hs5 := hB05.size
            have y3 : (w4.alloc (.cells #[.int .i64 (r.1 : Int), .slice A3 r.2.length c3] 50)).cell? ⟨gl, 3, none⟩ = some v := cell_below ((Below.refl _ _).alloc (Nat.le_refl _) _) z3'
            go_region_law (
              ((refine step_append_recs (o := ⟨some 62, _, _, _, _, _⟩) rfl (.tmp 59) (.tmp 61) 44 50 rfl (by decide) Tryd.underlying44 info_rec rfl hR5 rfl hone (by show recs.length + 1 ≤ _; omega) ?_; intro v1 w6 hR6 hg6; obtain ⟨A6, c6, hv6⟩ := hR6.slice; subst hv6; have q3 := cell_of_row w6 gl 3 _ _ _ ((hL5.grow hg6).trans hL5.blk); have q2 := cell_of_row w6 gl 2 _ _ _ ((hL5.grow hg6).trans hL5.blk); have p3 := frozen_of_row w6 gl 3 _ _ ((hL5.grow hg6).trans hL5.blk); have p2 := frozen_of_row w6 gl 2 _ _ ((hL5.grow hg6).trans hL5.blk))))
            all_goals
              go_wp2_with fail
              go_step3
              have hR6' : RecsAt 50 w6 (fun k => w.heap.size ≤ k) (.slice A6 (recs ++ [r]).length c6) (recs ++ [r]) := hR6.mono (fun k _ hz => by rcases hz with hz | (hz | hz) | hz <;> omega)
              have hLn := hL5.snoc hg6 hR6'
              have hBn := ((hB05.grown hg6 hs5 (fun k hk => hL5.recs.in_ k hk)).setCell (p := ⟨gl, 3, none⟩) hgl (.slice A6 (recs ++ [r]).length c6)).setCell (p := ⟨gl, 2, none⟩) hgl (.int .i64 (usedOf (recs ++ [r]) : Nat))
              have e1 : (recs ++ [r]).length = recs.length + 1 := by simp
              rw [e1] at hLn hBn
              have hu' : usedOf recs = at_ - fi := hu.out
              have hus' : usedOf (recs ++ [r]) = usedOf recs + ks := hus.out
              refine And.intro ⟨gl, at_ + ks, _, recs ++ [r], ?_, by omega, hre, hBn, hgl, hLn, by omega, by rw [List.length_append, List.length_singleton]; omega, .inl ⟨rfl, hsx.out⟩⟩ ?_
              · exact OpenFr.mk ..
              · exact OpenFr.lt (OpenFr.mk ..) (OpenFr.mk ..) (by omega) hre _ _
    · refine ⟨_, rfl, ?_⟩
      go_wp2_with fail
      simp only [jumps]
      go_ret2
      rw [hsc]
      exact ⟨hB, _, v, rfl, hL, hgl⟩
  · intro hpass
    replace hpass := Go.Lib.hid hpass
    have HD := down_walk w g n sv tv d h
    rw [show d.down = false from hd] at HD
    have HG := generation_walk w g n sv tv d h ht
    rw [show genOf d.img n = some q from hg] at HG
    go_upto_region 7 with (first
      | (go_at_call 27; go_must (refine HD.mono ?_); rintro e w' ⟨rfl, rfl⟩)
      | (go_at_call 39; go_must (refine HG.mono ?_); rintro e w1 ⟨z, rfl, hz, hB1⟩; have hz1 : z = (q : Int) := hz q rfl; subst hz1))
    have hbx := heap_alloc_new w1 (.cells #[.pointer (some ⟨g, 0, none⟩), .int .i64 (q : Int), .int .i64 0, .slice none 0 0, .bool false] 88)
    have hB2 : Below w.heap.size w (w1.alloc (.cells #[.pointer (some ⟨g, 0, none⟩), .int .i64 (q : Int), .int .i64 0, .slice none 0 0, .bool false] 88)) := hB1.alloc hB1.size _
    have hs1 := hB1.size
    obtain ⟨gl, hgl⟩ : ∃ x, x = w1.heap.size := ⟨_, rfl⟩
    rw [← hgl] at hbx ⊢
    have hgl1 : w.heap.size ≤ gl := by omega
    clear hgl
    generalize w1.alloc (.cells #[.pointer (some ⟨g, 0, none⟩), .int .i64 (q : Int), .int .i64 0, .slice none 0 0, .bool false] 88) = w2 at *
    have h2 := h.below hB2
    have hq := genOf_le hg.out
    have HF := first_walk w2 g n sv tv d h2 q (by omega)
    have HH := half_walk w2 g n sv tv d h2
    rw [← show fi = firstOf n q from hfi0] at HF
    have hen1 : en = fi + halfOf n := by rw [show fi = firstOf n q from hfi0]; exact hen0
    have hww : IntKind.i64.wrap ((fi : Int) + (halfOf n : Int)) = (en : Int) := by rw [IntKind.wrap_i64]; omega
    replace hen1 := Go.Lib.hid hen1
    clear HD HG
    generalize halfOf n = hn at *
    go_wp2_with (first
      | (go_at_call 41; go_must (refine HH.mono ?_); rintro e w' ⟨rfl, rfl⟩)
      | (go_at_call 40; go_must (refine HF.mono ?_); rintro e w' ⟨rfl, rfl⟩))
    go_step3
    rename_i hK
    refine hK _ _ ?_
    refine hpass.out 1 _ _ _ rfl ⟨gl, fi, .slice none 0 0, [], OpenFr.mk .., Nat.le_refl _, by rw [show en = _ from hen1]; omega, hB2, hgl1, ⟨hbx, RecsAt.nil _ _ _⟩, by rw [Nat.sub_self]; rfl, Nat.zero_le _, .inl ⟨rfl, by simp⟩⟩
set_option maxRecDepth 20000 in
theorem open_down (w : World) (g n : Nat) (sv tv : Value) (d : DS) (h : PDsk w g sv tv n d) (hd : d.down = true) :
    Calls Tryd.prog 13 #[.pointer (some ⟨g, 0, none⟩)] w (RetOpened PLog w.heap.size g (.err 50) w) := by
  have HD := down_walk w g n sv tv d h
  rw [hd] at HD
  clear hd
  go_enter Tryd.func13, Tryd.ntmps13
  go_wp2
  go_step3
  go_wp2_with (go_at_call 27; go_must (refine HD.mono ?_); rintro e w' ⟨rfl, rfl⟩)
  try rw [Exit.noGoto_ret]
  go_ret2
  exact ⟨Below.refl _ _, rfl⟩
set_option maxRecDepth 20000 in
theorem open_head (w : World) (g n : Nat) (sv tv : Value) (d : DS) (h : PDsk w g sv tv n d) (ht : TabAt w) (hd : d.down = false) (hg : genOf d.img n = none) :
    Calls Tryd.prog 13 #[.pointer (some ⟨g, 0, none⟩)] w (RetOpened PLog w.heap.size g (.err 60) w) := by
  have HD := down_walk w g n sv tv d h
  rw [hd] at HD
  have HG := generation_walk w g n sv tv d h ht
  rw [hg] at HG
  clear hd hg
  go_enter Tryd.func13, Tryd.ntmps13
  go_wp2
  go_step3
  go_wp2_with (first
    | (go_at_call 27; go_must (refine HD.mono ?_); rintro e w' ⟨rfl, rfl⟩)
    | (go_at_call 39; go_must (refine HG.mono ?_); rintro e w1 ⟨z, rfl, hz, hB1⟩; clear hz))
  try rw [Exit.noGoto_ret]
  go_ret2
  exact ⟨hB1, rfl⟩
theorem open_walk (w : World) (g n : Nat) (sv tv : Value) (d : DS) (h : PDsk w g sv tv n d) (ht : TabAt w) :
    Calls Tryd.prog 13 #[.pointer (some ⟨g, 0, none⟩)] w (RetOpened PLog w.heap.size g (openOf d n) w) := by
  unfold openOf
  by_cases hd : d.down = true
  · rw [if_pos hd]
    exact open_down w g n sv tv d h hd
  · rw [if_neg hd]
    have hd' : d.down = false := by simpa using hd
    cases hg : genOf d.img n with
    | none => exact open_head w g n sv tv d h ht hd' hg
    | some q => exact open_ok w g n sv tv d h ht q hd' hg
end Go.Proofs.YtggogenhakdhiaaDoor
