/- Sectors are laid, the program's way; the test whether the log is stuck, and what is wrong with a record: walked. (ahead of it: A scope with several labels: what holds at a jump to each of them, and a measure that every jump lowers. The log that lies on a disk, the program's way, walked. The record at the front of some bytes, the document's way, walked. The log that lies on a disk, the document's way, walked. Small functions of the log and of the law: the records told, the room; both sides. Two disks in memory, the program's and the document's, each with blocks of its own: told apart by a colouring of the blocks. A sector is written, the document's way. A log on its disk in memory, each side's blocks told apart by colours; the program's raw write, and the test whether the log is stuck, walked. Words for the laws of the log: pieces of bytes, an error's number, what a scan finds.) -/
import Derived.Test.YtggogenhakdhiaaDoorProg
import Derived.WalkKit
import Derived.WalkMore
import Derived.ScopeJumps
import Derived.Test.YtggogenhakdhiaaDoorPkB
import Derived.Deep.LoopGhost
import Derived.Laws.MakeOwn
import Derived.Deep.QuietTactic
import Derived.BigQuiet
import Derived.Deep.DeepCutAuto
import Derived.Deep.CutBlock
import Derived.Test.YtggogenhakdhiaaDoorPkA
import Derived.Outline
section
set_option linter.unusedVariables false
namespace Go.Proofs.YtggogenhakdhiaaDoor

/-- by a goto to label l: J l; else as Q -/
def jumps (J : Nat → Act → World → Prop) (Q : Exit → Act → World → Prop) : Exit → Act → World → Prop
  | .goto l, a, w => J l a w
  | e, a, w => Q e a w
theorem wp_scope_labels {P : Program} {a : Act} {w : World} {Q : Exit → Act → World → Prop} {c : Code} (J : Nat → Act → World → Prop) (m : Nat → Act → World → Nat)
    (first : c.wp P (jumps J Q) a w)
    (pass : ∀ l a w, J l a w → ∃ rest, findLabel c l = some rest ∧ rest.wp P (jumps (fun l' a' w' => J l' a' w' ∧ m l' a' w' < m l a w) Q) a w) : (Code.scope c).wp P Q a w := by
  intro b k cs
  have hg : ∀ l rest, findLabel c l = some rest → gotoIn l (.inScope c :: k) = some (.code rest :: .inScope c :: k) := fun l rest h => by simp [gotoIn, h]
  have key : ∀ n l a w rest, m l a w = n → J l a w → findLabel c l = some rest → ∃ e a' w', Q e a' w' ∧ Arrives P (lone (b.at a (.code rest :: .inScope c :: k)) cs w) b k cs e a' w' := by
    intro n
    induction n using Nat.strongRecOn with
    | _ n ih =>
      intro l a w rest hn hJ hf
      obtain ⟨rest', hf', hp⟩ := pass l a w hJ
      rw [hf] at hf'
      cases hf'
      obtain ⟨e, a1, w1, hq, harr⟩ := hp b (.inScope c :: k) cs
      cases e with
      | normal => exact ⟨.normal, a1, w1, hq, Steps.trans harr (.one step_inScope)⟩
      | exit id => exact ⟨.exit id, a1, w1, hq, fun k' hk => harr k' (by simp [exitTo, hk])⟩
      | goto l' =>
        obtain ⟨hJ', hlt⟩ := hq
        obtain ⟨r2, hf2, _⟩ := pass l' a1 w1 hJ'
        obtain ⟨e2, a2, w2, hq2, harr2⟩ := ih _ (by omega) l' a1 w1 r2 rfl hJ' hf2
        exact ⟨e2, a2, w2, hq2, .of_steps (harr _ (hg l' r2 hf2)) harr2⟩
      | ret => exact ⟨_, a1, w1, hq, harr⟩
      | panic ch => exact ⟨_, a1, w1, hq, harr⟩
      | outgrown => exact ⟨_, a1, w1, hq, harr⟩
  obtain ⟨e, a1, w1, hq, harr⟩ := first b (.inScope c :: k) cs
  cases e with
  | normal => exact ⟨.normal, a1, w1, hq, .head step_scope (Steps.trans harr (.one step_inScope))⟩
  | exit id => exact ⟨.exit id, a1, w1, hq, fun k' hk => .head step_scope (harr k' (by simp [exitTo, hk]))⟩
  | goto l' =>
    have hJ' : J l' a1 w1 := hq
    obtain ⟨r2, hf2, _⟩ := pass l' a1 w1 hJ'
    obtain ⟨e2, a2, w2, hq2, harr2⟩ := key _ l' a1 w1 r2 rfl hJ' hf2
    exact ⟨e2, a2, w2, hq2, .of_steps (.head step_scope (harr _ (hg l' r2 hf2))) harr2⟩
  | ret => exact ⟨_, a1, w1, hq, .of_steps (.one step_scope) harr⟩
  | panic ch => exact ⟨_, a1, w1, hq, .of_steps (.one step_scope) harr⟩
  | outgrown => exact ⟨_, a1, w1, hq, .of_steps (.one step_scope) harr⟩
/-- the same: what the passes show stands ready for the first way, which runs into a label -/
theorem wp_scope_labels' {P : Program} {a : Act} {w : World} {Q : Exit → Act → World → Prop} {c : Code} (J : Nat → Act → World → Prop) (m : Nat → Act → World → Nat)
    (pass : ∀ l a w, J l a w → ∃ rest, findLabel c l = some (Code.skip.seq rest) ∧ rest.wp P (jumps (fun l' a' w' => J l' a' w' ∧ m l' a' w' < m l a w) Q) a w)
    (first : (∀ l rest a w, findLabel c l = some (Code.skip.seq rest) → J l a w → rest.wp P (jumps J Q) a w) → c.wp P (jumps J Q) a w) : (Code.scope c).wp P Q a w := by
  refine wp_scope_labels J m (first fun l rest a w hf hJ => ?_) fun l a w hJ => ?_
  · obtain ⟨r, hr, hp⟩ := pass l a w hJ
    rw [hf] at hr
    cases hr
    refine wp_mono hp fun e a' w' hq => ?_
    cases e with
    | goto l' => exact hq.1
    | normal => exact hq
    | exit id => exact hq
    | ret => exact hq
    | panic ch => exact hq
    | outgrown => exact hq
  · obtain ⟨r, hr, hp⟩ := pass l a w hJ
    exact ⟨_, hr, wp_seq (wp_skip hp)⟩
end Go.Proofs.YtggogenhakdhiaaDoor
end
section
set_option linter.unusedVariables false
set_option linter.unusedSimpArgs false
namespace Go.Proofs.YtggogenhakdhiaaDoor
open Go.RowKit

def usedOf (l : List (Int × List UInt8)) : Nat := (l.map fun r => secs r.2.length).sum
theorem usedOf_snoc (l : List (Int × List UInt8)) (r : Int × List UInt8) : usedOf (l ++ [r]) = usedOf l + secs r.2.length := by unfold usedOf; simp
theorem readP_some {img : List UInt8} {n at_ en : Nat} {r : Int × List UInt8} (hl : img.length = 64 * n) (he : en ≤ n) (h : readP img at_ en = some r) : r.2.length = loadLen img at_ ∧ at_ + secs (loadLen img at_) ≤ en ∧ 1 ≤ r.1 ∧ r.1 ≤ 255 ∧ r.2.length ≤ 262144 := by
  unfold readP at h
  split at h
  · cases h
  · rename_i hn
    split at h
    · cases h
      have h1 : at_ + secs (loadLen img at_) ≤ en := by omega
      have h2 := secsOf_length hl (show at_ + secs (loadLen img at_) ≤ n by omega)
      have h3 := secs_le (loadLen img at_)
      have h4 := ((secOf img at_).getD 1 0).toNat_lt
      refine ⟨?_, h1, ?_, ?_, ?_⟩
      · unfold recOf; rw [List.length_take, List.length_drop, h2]; omega
      · unfold recOf; show (1 : Int) ≤ (((secOf img at_).getD 1 0).toNat : Int); omega
      · unfold recOf; show (((secOf img at_).getD 1 0).toNat : Int) ≤ 255; omega
      · unfold recOf; rw [List.length_take, List.length_drop, h2]; omega
    · cases h
/-- a log's state -/
structure LS where
  gen : Nat
  recs : List (Int × List UInt8)
  down : Bool
/-- the program's log in memory -/
structure PLog (w : World) (Z : Nat → Prop) (gl g : Nat) (v : Value) (s : LS) : Prop where
  blk : w.heap[gl]? = some (.cells #[.pointer (some ⟨g, 0, none⟩), .int .i64 (s.gen : Nat), .int .i64 (usedOf s.recs : Nat), v, .bool s.down] 88 (0, 0))
  recs : RecsAt 50 w Z v s.recs
/-- the document's log in memory -/
structure RLog (w : World) (Z : Nat → Prop) (gl g : Nat) (v : Value) (s : LS) : Prop where
  blk : w.heap[gl]? = some (.cells #[.pointer (some ⟨g, 0, none⟩), v, .int .i64 (s.gen : Nat), .int .i64 (usedOf s.recs : Nat), .bool s.down] 99 (0, 0))
  recs : RecsAt 102 w Z v s.recs
/-- what Open answers -/
def RetOpened (L : World → (Nat → Prop) → Nat → Nat → Value → LS → Prop) (B g : Nat) (o : Opened) (w : World) (e : Ending) (w' : World) : Prop :=
  Below B w w' ∧ match o with
    | .err k => e = .returned (.tuple #[.pointer none, .int .i64 k])
    | .log gen recs => ∃ gl v, e = .returned (.tuple #[.pointer (some ⟨gl, 0, none⟩), .int .i64 0]) ∧ L w' (fun k => B ≤ k) gl g v ⟨gen, recs, false⟩ ∧ B ≤ gl
/-- the frame of Open behind the head -/
def OpenFr (g gl q at_ en : Nat) (a : Act) : Prop := ∃ u : Nat → Value, a = { tmps := #[.pointer (some ⟨g, 0, none⟩), (u 1), (u 2), (u 3), .int .i64 (q : Nat), .bool true, .pointer (some ⟨gl, 0, none⟩), .int .i64 (at_ : Nat), .int .i64 (en : Nat), (u 9), (u 10), (u 11), (u 12), (u 13), (u 14), (u 15), (u 16), (u 17), (u 18), (u 19), (u 20), (u 21), (u 22), (u 23), (u 24), (u 25), (u 26), (u 27), (u 28), (u 29), (u 30), (u 31), (u 32), (u 33), (u 34), (u 35), (u 36), (u 37), (u 38), (u 39), (u 40), (u 41), (u 42), (u 43), (u 44), (u 45), (u 46), (u 47), (u 48), (u 49), (u 50), (u 51), (u 52), (u 53), (u 54), (u 55), (u 56), (u 57), (u 58), (u 59), (u 60), (u 61), (u 62), (u 63), (u 64), (u 65), (u 66), (u 67), (u 68), (u 69), (u 70), (u 71), (u 72), (u 73), (u 74), (u 75), (u 76)], defers := [] }
set_option maxRecDepth 20000 in
theorem OpenFr.mk (g gl q at_ en : Nat) (u1 u2 u3 u9 u10 u11 u12 u13 u14 u15 u16 u17 u18 u19 u20 u21 u22 u23 u24 u25 u26 u27 u28 u29 u30 u31 u32 u33 u34 u35 u36 u37 u38 u39 u40 u41 u42 u43 u44 u45 u46 u47 u48 u49 u50 u51 u52 u53 u54 u55 u56 u57 u58 u59 u60 u61 u62 u63 u64 u65 u66 u67 u68 u69 u70 u71 u72 u73 u74 u75 u76 : Value) : OpenFr g gl q at_ en { tmps := #[.pointer (some ⟨g, 0, none⟩), u1, u2, u3, .int .i64 (q : Nat), .bool true, .pointer (some ⟨gl, 0, none⟩), .int .i64 (at_ : Nat), .int .i64 (en : Nat), u9, u10, u11, u12, u13, u14, u15, u16, u17, u18, u19, u20, u21, u22, u23, u24, u25, u26, u27, u28, u29, u30, u31, u32, u33, u34, u35, u36, u37, u38, u39, u40, u41, u42, u43, u44, u45, u46, u47, u48, u49, u50, u51, u52, u53, u54, u55, u56, u57, u58, u59, u60, u61, u62, u63, u64, u65, u66, u67, u68, u69, u70, u71, u72, u73, u74, u75, u76], defers := [] } :=
  ⟨fun i => ([undef, u1, u2, u3, undef, undef, undef, undef, undef, u9, u10, u11, u12, u13, u14, u15, u16, u17, u18, u19, u20, u21, u22, u23, u24, u25, u26, u27, u28, u29, u30, u31, u32, u33, u34, u35, u36, u37, u38, u39, u40, u41, u42, u43, u44, u45, u46, u47, u48, u49, u50, u51, u52, u53, u54, u55, u56, u57, u58, u59, u60, u61, u62, u63, u64, u65, u66, u67, u68, u69, u70, u71, u72, u73, u74, u75, u76] : List Value).getD i undef, rfl⟩
/-- what holds at the labels of Open -/
def OpenJ (w : World) (d : DS) (g q fi en : Nat) (l : Nat) (a : Act) (w' : World) : Prop :=
  ∃ gl at_ v recs, OpenFr g gl q at_ en a ∧ fi ≤ at_ ∧ at_ ≤ en ∧ Below w.heap.size w w' ∧ w.heap.size ≤ gl ∧ PLog w' (fun k => w.heap.size ≤ k) gl g v ⟨q, recs, false⟩ ∧ usedOf recs = at_ - fi ∧ recs.length ≤ at_ - fi ∧
    ((l = 1 ∧ scan d.img en fi = (scan d.img en at_).map (recs ++ ·)) ∨ (l = 0 ∧ scan d.img en fi = some recs))
def openM (en : Nat) (l : Nat) (a : Act) (w' : World) : Nat := if l = 1 then 1 + (en - (intOf (a.tmps.getD 7 undef)).toNat) else 0
theorem openM_lt {en : Nat} (a b : Act) (w w' : World) : openM en 0 a w < openM en 1 b w' := by
  unfold openM
  rw [if_neg (by decide), if_pos rfl]
  omega
theorem OpenFr.m {g gl q at_ en : Nat} {a : Act} (h : OpenFr g gl q at_ en a) (w : World) : openM en 1 a w = 1 + (en - at_) := by
  obtain ⟨u, rfl⟩ := h
  unfold openM
  rw [if_pos rfl]
  show 1 + (en - (intOf (.int .i64 (at_ : Nat))).toNat) = _
  simp only [intOf]
  omega
theorem OpenFr.lt {g gl q at_ at2 en : Nat} {a b : Act} (h : OpenFr g gl q at2 en b) (k : OpenFr g gl q at_ en a) (h1 : at_ < at2) (h2 : at2 ≤ en) (w w' : World) : openM en 1 b w' < openM en 1 a w := by
  rw [h.m, k.m]
  omega
theorem genOf_le {img : List UInt8} {n q : Nat} (h : genOf img n = some q) : 1 ≤ q ∧ q ≤ 1099511627776 := by
  unfold genOf at h
  split at h
  · cases h
  · split at h
    · cases h
    · split at h
      · cases h; omega
      · cases h
theorem PLog.grow {w w' : World} {Z : Nat → Prop} {gl g : Nat} {v : Value} {s : LS} (h : PLog w Z gl g v s) (hg : w.grownBy w' v.ownBlock) : w'.heap[gl]? = w.heap[gl]? := by
  refine hg.block gl (Array.getElem?_eq_some_iff.1 h.blk).1 fun e => ?_
  obtain ⟨xs, ho, _⟩ := h.recs.ex
  exact own_blk_ne ho h.blk (by decide) e.symm
theorem PLog.chain {w w' : World} {Z : Nat → Prop} {gl g : Nat} {v : Value} {s : LS} (h : PLog w Z gl g v s) (hb : Below w.heap.size w w') : PLog w' Z gl g v s :=
  ⟨(hb.block gl (Array.getElem?_eq_some_iff.1 h.blk).1).trans h.blk, h.recs.below hb⟩
/-- a record is laid behind the others, and the log's two cells are turned -/
theorem PLog.snoc {w w1 : World} {Z : Nat → Prop} {gl g : Nat} {v v1 : Value} {s : LS} {r : Int × List UInt8} (h : PLog w Z gl g v s) (hg : w.grownBy w1 v.ownBlock) (h1 : RecsAt 50 w1 Z v1 (s.recs ++ [r])) :
    PLog ((w1.setCell ⟨gl, 3, none⟩ v1).setCell ⟨gl, 2, none⟩ (.int .i64 (usedOf (s.recs ++ [r]) : Nat))) Z gl g v1 { s with recs := s.recs ++ [r] } := by
  have hb := (h.grow hg).trans h.blk
  have hb2 := Go.Proofs.YtggogenhakdhiaaDoorW.PrintWords.blk_set hb 3 v1
  refine ⟨Go.Proofs.YtggogenhakdhiaaDoorW.PrintWords.blk_set hb2 2 _, (h1.set hb (by decide) (by decide) 3 v1).set hb2 (by decide) (by decide) 2 _⟩
set_option maxHeartbeats 2000000 in
set_option maxRecDepth 20000 in
theorem open_ok (w : World) (g n : Nat) (sv tv : Value) (d : DS) (h : PDsk w g sv tv n d) (ht : TabAt w) (q : Nat) (hd : d.down = false) (hg : genOf d.img n = some q) :
    Calls Tryd.prog 13 #[.pointer (some ⟨g, 0, none⟩)] w (RetOpened PLog w.heap.size g (match scan d.img (firstOf n q + halfOf n) (firstOf n q) with | none => .err 61 | some l => .log q l) w) := by
  have hfe : firstOf n q + halfOf n ≤ n := by have := h.pos; unfold firstOf halfOf; split <;> omega
  have hle := h.le
  obtain ⟨fi, hfi0⟩ : ∃ x, x = firstOf n q := ⟨_, rfl⟩
  obtain ⟨en, hen0⟩ : ∃ x, x = firstOf n q + halfOf n := ⟨_, rfl⟩
  rw [← hen0, ← hfi0]
  rw [← hen0] at hfe
  replace hfi0 := Go.Lib.hid hfi0
  replace hen0 := Go.Lib.hid hen0
  replace hd := Go.Lib.hid hd
  replace hg := Go.Lib.hid hg
  go_enter Tryd.func13, Tryd.ntmps13
  go_wp2
  refine wp_scope_labels' (OpenJ w d g q fi en) (openM en) ?_ ?_
  · rintro l a' w' ⟨gl, at_, v, recs, ⟨u, rfl⟩, hfi, hat, hB, hgl, hL, hu, hrl, (⟨rfl, hsc⟩ | ⟨rfl, hsc⟩)⟩
    · refine ⟨_, rfl, ?_⟩
      by_cases hend : at_ = en
      · have he1 : ((at_ : Int) == (en : Int)) = true := by rw [beq_iff_eq]; omega
        have hs0 : scan d.img en fi = some recs := by rw [hsc, scan_end (by omega)]; simp
        replace hs0 := Go.Lib.hid hs0
        replace hend := Go.Lib.hid hend
        clear hsc
        go_wp2_with fail
        go_step3
        refine And.intro ⟨gl, at_, v, recs, ?_, hfi, hat, hB, hgl, hL, hu, hrl, .inr ⟨rfl, hs0.out⟩⟩ ?_
        · exact OpenFr.mk ..
        · exact openM_lt _ _ _ _
      · have he1 : ((at_ : Int) == (en : Int)) = false := by rw [beq_eq_false_iff_ne]; omega
        have hlt : at_ < en := by omega
        have hltz : (at_ : Int) < (en : Int) := by omega
        have h1 := h.below hB
        have hBs := hB.size
        have HR := read_at w' g n sv tv d at_ h1 (by omega)
        have hl64 := secOf_length h.len (show at_ < n by omega)
        have hb1 := bys_sector w' 84 (secOf d.img at_) hl64
        have hB1 : Below w'.heap.size w' (w'.alloc (.cells (bv (secOf d.img at_)).toArray 84)) := (Below.refl _ _).alloc (Nat.le_refl _) _
        generalize w'.alloc (.cells (bv (secOf d.img at_)).toArray 84) = w1 at *
        have HZ := zeros_walk w1
        have hBs1 := hB1.size
        clear hend
        by_cases hz : secOf d.img at_ = zb64
        · have hs0 : scan d.img en fi = some recs := by rw [hsc, scan_zero hz]; simp
          replace hs0 := Go.Lib.hid hs0
          have hdz : decide (secOf d.img at_ = zb64) = true := decide_eq_true hz
          replace hz := Go.Lib.hid hz
          clear hsc
          generalize secOf d.img at_ = sec at *
          have hzl := zb64_length
          generalize zb64 = zz at *
          replace hzl := Go.Lib.hid hzl
          have HQ : ∀ W A c, Bys W (some ⟨w'.heap.size, 0, none⟩) 64 sec → Bys W A 64 zz → Calls Tryd.prog 43 #[.slice (some ⟨w'.heap.size, 0, none⟩) 64 64, .slice A 64 c] W (fun e w' => e = .returned (.bool true) ∧ W = w') := by
            intro W A c x y
            have := equal_walk W (some ⟨w'.heap.size, 0, none⟩) A 64 64 64 c sec zz x y
            rw [hdz] at this
            exact this
          replace hdz := Go.Lib.hid hdz
          go_wp2_with (first
            | (go_at_call 43; go_must (refine (HQ w2 _ _ (hb1.below hB2) (Bys.own hown2)).mono ?_); rintro e w3 ⟨rfl, rfl⟩)
            | (go_at_call 44; go_must (refine HZ.mono ?_; intro e w2 hR; obtain ⟨A2, c2, rfl, hown2, hB2⟩ := hR.len (show zz.length = 64 from hzl)))
            | (go_at_call 42; go_must (refine HR.mono ?_); rintro e w3 ⟨rfl, rfl⟩))
          go_step3
          have hB02 := hB1.trans (hB2.mono hBs1)
          refine And.intro ⟨gl, at_, v, recs, ?_, hfi, hat, hB.trans (hB02.mono hBs), hgl, hL.chain hB02, hu, hrl, .inr ⟨rfl, hs0.out⟩⟩ ?_
          · exact OpenFr.mk ..
          · exact openM_lt _ _ _ _
        · have hdz : decide (secOf d.img at_ = zb64) = false := decide_eq_false hz
          have hzl := zb64_length
          have HQ : ∀ W A c, Bys W (some ⟨w'.heap.size, 0, none⟩) 64 (secOf d.img at_) → Bys W A 64 zb64 → Calls Tryd.prog 43 #[.slice (some ⟨w'.heap.size, 0, none⟩) 64 64, .slice A 64 c] W (fun e w' => e = .returned (.bool false) ∧ W = w') := by
            intro W A c x y
            have := equal_walk W (some ⟨w'.heap.size, 0, none⟩) A 64 64 64 c (secOf d.img at_) zb64 x y
            rw [hdz] at this
            exact this
          have HW := fun W (hh : PDsk W g sv tv n d) (ht : TabAt W) => wread_walk W g n sv tv d hh ht at_ en hlt hfe
          have hns : ¬ en ≤ at_ := by omega
          cases hr : readP d.img at_ en with
          | none =>
            have hs0 : scan d.img en fi = none := by rw [hsc, scan_none hns hz hr]; rfl
            rw [hr] at HW
            replace hs0 := Go.Lib.hid hs0
            clear hr hsc hz hdz hns
            generalize secOf d.img at_ = sec at *
            generalize zb64 = zz at *
            replace hzl := Go.Lib.hid hzl
            generalize secs (loadLen d.img at_) = ks at *
            go_wp2_with (first
              | (go_at_call 45; go_must (refine (HW w2 ((h1.below hB1).below hB2) ((ht.below (hB.trans (hB1.mono hBs))).below hB2)).mono ?_; intro e w3 hR; obtain ⟨kz, A3, m3, c3, y3, rfl, -, hB3⟩ := hR))
              | (go_at_call 43; go_must (refine (HQ w2 _ _ (hb1.below hB2) (Bys.own hown2)).mono ?_); rintro e w3 ⟨rfl, rfl⟩)
              | (go_at_call 44; go_must (refine HZ.mono ?_; intro e w2 hR; obtain ⟨A2, c2, rfl, hown2, hB2⟩ := hR.len (show zz.length = 64 from hzl)))
              | (go_at_call 42; go_must (refine HR.mono ?_); rintro e w3 ⟨rfl, rfl⟩))
            simp only [jumps]
            go_ret2
            rw [show scan d.img en fi = none from hs0.out]
            have hB02 := hB1.trans (hB2.mono hBs1)
            have hB03 := hB02.trans (hB3.mono hB02.size)
            exact ⟨(hB.trans (hB03.mono hBs)).alloc (by have := hB03.size; omega) _, rfl⟩
          | some r =>
            obtain ⟨hrl2, hre, hk1, hk2, hl2⟩ := readP_some h.len hfe hr
            have hsc2 := hsc
            rw [scan_some hns hz hr] at hsc2
            rw [hr] at HW
            have hsp := secs_pos (loadLen d.img at_)
            have hsx : scan d.img en fi = (scan d.img en (at_ + secs (loadLen d.img at_))).map (recs ++ [r] ++ ·) := by
              rw [hsc2, Option.map_map]
              congr 1
              funext x
              simp
            have hus : usedOf (recs ++ [r]) = usedOf recs + secs (loadLen d.img at_) := by rw [usedOf_snoc, hrl2]
            replace hsx := Go.Lib.hid hsx
            clear hr hsc hsc2 hz hdz hns
            generalize secOf d.img at_ = sec at *
            generalize zb64 = zz at *
            replace hzl := Go.Lib.hid hzl
            generalize secs (loadLen d.img at_) = ks at *
            have hw1 : IntKind.i64.wrap ((usedOf recs : Int) + (ks : Int)) = ((usedOf (recs ++ [r]) : Nat) : Int) := by rw [IntKind.wrap_i64, hus]; omega
            have hw2 : IntKind.i64.wrap ((at_ : Int) + (ks : Int)) = ((at_ + ks : Nat) : Int) := by rw [IntKind.wrap_i64]; omega
            replace hus := Go.Lib.hid hus
            replace hu := Go.Lib.hid hu
            replace hrl2 := Go.Lib.hid hrl2
            go_upto_region 14 with (first
              | (go_at_call 45; go_must (refine (HW w2 ((h1.below hB1).below hB2) ((ht.below (hB.trans (hB1.mono hBs))).below hB2)).mono ?_; intro e w3 hR; obtain ⟨kz, A3, m3, c3, y3, rfl, hq3, hB3⟩ := hR; obtain ⟨rfl, rfl, rfl, hown3⟩ := hq3 r rfl))
              | (go_at_call 43; go_must (refine (HQ w2 _ _ (hb1.below hB2) (Bys.own hown2)).mono ?_); rintro e w3 ⟨rfl, rfl⟩)
              | (go_at_call 44; go_must (refine HZ.mono ?_; intro e w2 hR; obtain ⟨A2, c2, rfl, hown2, hB2⟩ := hR.len (show zz.length = 64 from hzl)))
              | (go_at_call 42; go_must (refine HR.mono ?_); rintro e w3 ⟨rfl, rfl⟩))
            have hB02 := hB1.trans (hB2.mono hBs1)
            have hB03 := hB02.trans (hB3.mono hB02.size)
            have hs3 := hB03.size
            have hb4 := heap_alloc_new w3 (.cells #[.int .i64 (r.1 : Int), .slice A3 r.2.length c3] 50)
            have hB4 : Below w3.heap.size w3 (w3.alloc (.cells #[.int .i64 (r.1 : Int), .slice A3 r.2.length c3] 50)) := (Below.refl _ _).alloc (Nat.le_refl _) _
            have hbw3 : w.heap.size ≤ w3.heap.size := Nat.le_trans hBs hs3
            have hO4 : OwnB (w3.alloc (.cells #[.int .i64 (r.1 : Int), .slice A3 r.2.length c3] 50)) (fun k => w.heap.size ≤ k) A3 r.2.length c3 r.2 := ⟨(own_lo hown3 (Nat.zero_le _)).alloc _, fun k hk => by have := own_base hown3 k hk; have := hB02.size; omega⟩
            obtain ⟨gx, hgx⟩ : ∃ x, x = w3.heap.size := ⟨_, rfl⟩
            rw [← hgx] at hb4 ⊢
            replace hgx := Go.Lib.hid hgx
            have hL4 := (hL.chain hB03).chain hB4
            have hB04 := hB.trans ((hB03.trans (hB4.mono hs3)).mono hBs)
            generalize w3.alloc (.cells #[.int .i64 (r.1 : Int), .slice A3 r.2.length c3] 50) = w4 at *
            have hs4 := hB04.size
            have hw3 : (recs.length : Int) ≤ 16384 := by omega
            have z3 := cell_of_row w4 gl 3 _ _ _ hL4.blk
            have z2 := cell_of_row w4 gl 2 _ _ _ hL4.blk
            have zf := frozen_of_row w4 gl 3 _ _ hL4.blk
            have x0 := cell_of_row w4 gx 0 _ _ _ hb4
            have x1 := cell_of_row w4 gx 1 _ _ _ hb4
            have z3' : w4.cell? ⟨gl, 3, none⟩ = some v := z3
            have z2' : w4.cell? ⟨gl, 2, none⟩ = some (.int .i64 (usedOf recs : Nat)) := z2
            clear z3 z2
            have hone : RecsAt 50 (w4.alloc (.cells #[.int .i64 (r.1 : Int), .slice A3 r.2.length c3] 50)).drew (fun j => w.heap.size ≤ j ∨ w4.heap.size ≤ j) (.slice (some ⟨w4.heap.size, 0, none⟩) 1 1) [r] := (RecsAt.one hO4).below (below_drew (Below.refl _ _))
            have hB5 : Below w4.heap.size w4 (w4.alloc (.cells #[.int .i64 (r.1 : Int), .slice A3 r.2.length c3] 50)).drew := below_drew ((Below.refl _ _).alloc (Nat.le_refl _) _)
            have hR5 := hL4.recs.below hB5
            have hL5 := hL4.chain hB5
            have hB05 := hB04.trans (hB5.mono hs4)
            have hs5 := hB05.size
            have y3 : (w4.alloc (.cells #[.int .i64 (r.1 : Int), .slice A3 r.2.length c3] 50)).cell? ⟨gl, 3, none⟩ = some v := cell_below ((Below.refl _ _).alloc (Nat.le_refl _) _) z3'
            go_region_law (
              ((refine step_append_recs (o := ⟨some 62, _, _, _, _, _⟩) rfl (.tmp 59) (.tmp 61) 44 50 rfl (by decide) Tryd.underlying44 info_rec rfl hR5 rfl hone (by show recs.length + 1 ≤ _; omega) ?_; intro v1 w6 hR6 hg6; obtain ⟨A6, c6, hv6⟩ := hR6.slice; subst hv6; have q3 := cell_of_row w6 gl 3 _ _ _ ((hL5.grow hg6).trans hL5.blk); have q2 := cell_of_row w6 gl 2 _ _ _ ((hL5.grow hg6).trans hL5.blk); have p3 := frozen_of_row w6 gl 3 _ _ ((hL5.grow hg6).trans hL5.blk); have p2 := frozen_of_row w6 gl 2 _ _ ((hL5.grow hg6).trans hL5.blk))))
            all_goals
              go_wp2_with fail
              go_step3
              have hR6' : RecsAt 50 w6 (fun k => w.heap.size ≤ k) (.slice A6 (recs ++ [r]).length c6) (recs ++ [r]) := hR6.mono (fun k _ hz => by rcases hz with hz | (hz | hz) | hz <;> omega)
              have hLn := hL5.snoc hg6 hR6'
              have hBn := ((hB05.grown hg6 hs5 (fun k hk => hL5.recs.in_ k hk)).setCell (p := ⟨gl, 3, none⟩) hgl (.slice A6 (recs ++ [r]).length c6)).setCell (p := ⟨gl, 2, none⟩) hgl (.int .i64 (usedOf (recs ++ [r]) : Nat))
              have e1 : (recs ++ [r]).length = recs.length + 1 := by simp
              rw [e1] at hLn hBn
              have hu' : usedOf recs = at_ - fi := hu.out
              have hus' : usedOf (recs ++ [r]) = usedOf recs + ks := hus.out
              refine And.intro ⟨gl, at_ + ks, _, recs ++ [r], ?_, by omega, hre, hBn, hgl, hLn, by omega, by rw [List.length_append, List.length_singleton]; omega, .inl ⟨rfl, hsx.out⟩⟩ ?_
              · exact OpenFr.mk ..
              · exact OpenFr.lt (OpenFr.mk ..) (OpenFr.mk ..) (by omega) hre _ _
    · refine ⟨_, rfl, ?_⟩
      go_wp2_with fail
      simp only [jumps]
      go_ret2
      rw [hsc]
      exact ⟨hB, _, v, rfl, hL, hgl⟩
  · intro hpass
    replace hpass := Go.Lib.hid hpass
    have HD := down_walk w g n sv tv d h
    rw [show d.down = false from hd] at HD
    have HG := generation_walk w g n sv tv d h ht
    rw [show genOf d.img n = some q from hg] at HG
    go_upto_region 7 with (first
      | (go_at_call 27; go_must (refine HD.mono ?_); rintro e w' ⟨rfl, rfl⟩)
      | (go_at_call 39; go_must (refine HG.mono ?_); rintro e w1 ⟨z, rfl, hz, hB1⟩; have hz1 : z = (q : Int) := hz q rfl; subst hz1))
    have hbx := heap_alloc_new w1 (.cells #[.pointer (some ⟨g, 0, none⟩), .int .i64 (q : Int), .int .i64 0, .slice none 0 0, .bool false] 88)
    have hB2 : Below w.heap.size w (w1.alloc (.cells #[.pointer (some ⟨g, 0, none⟩), .int .i64 (q : Int), .int .i64 0, .slice none 0 0, .bool false] 88)) := hB1.alloc hB1.size _
    have hs1 := hB1.size
    obtain ⟨gl, hgl⟩ : ∃ x, x = w1.heap.size := ⟨_, rfl⟩
    rw [← hgl] at hbx ⊢
    have hgl1 : w.heap.size ≤ gl := by omega
    clear hgl
    generalize w1.alloc (.cells #[.pointer (some ⟨g, 0, none⟩), .int .i64 (q : Int), .int .i64 0, .slice none 0 0, .bool false] 88) = w2 at *
    have h2 := h.below hB2
    have hq := genOf_le hg.out
    have HF := first_walk w2 g n sv tv d h2 q (by omega)
    have HH := half_walk w2 g n sv tv d h2
    rw [← show fi = firstOf n q from hfi0] at HF
    have hen1 : en = fi + halfOf n := by rw [show fi = firstOf n q from hfi0]; exact hen0
    have hww : IntKind.i64.wrap ((fi : Int) + (halfOf n : Int)) = (en : Int) := by rw [IntKind.wrap_i64]; omega
    replace hen1 := Go.Lib.hid hen1
    clear HD HG
    generalize halfOf n = hn at *
    go_wp2_with (first
      | (go_at_call 41; go_must (refine HH.mono ?_); rintro e w' ⟨rfl, rfl⟩)
      | (go_at_call 40; go_must (refine HF.mono ?_); rintro e w' ⟨rfl, rfl⟩))
    go_step3
    rename_i hK
    refine hK _ _ ?_
    refine hpass.out 1 _ _ _ rfl ⟨gl, fi, .slice none 0 0, [], OpenFr.mk .., Nat.le_refl _, by rw [show en = _ from hen1]; omega, hB2, hgl1, ⟨hbx, RecsAt.nil _ _ _⟩, by rw [Nat.sub_self]; rfl, Nat.zero_le _, .inl ⟨rfl, by simp⟩⟩
set_option maxRecDepth 20000 in
theorem open_down (w : World) (g n : Nat) (sv tv : Value) (d : DS) (h : PDsk w g sv tv n d) (hd : d.down = true) :
    Calls Tryd.prog 13 #[.pointer (some ⟨g, 0, none⟩)] w (RetOpened PLog w.heap.size g (.err 50) w) := by
  have HD := down_walk w g n sv tv d h
  rw [hd] at HD
  clear hd
  go_enter Tryd.func13, Tryd.ntmps13
  go_wp2
  go_step3
  go_wp2_with (go_at_call 27; go_must (refine HD.mono ?_); rintro e w' ⟨rfl, rfl⟩)
  try rw [Exit.noGoto_ret]
  go_ret2
  exact ⟨Below.refl _ _, rfl⟩
set_option maxRecDepth 20000 in
theorem open_head (w : World) (g n : Nat) (sv tv : Value) (d : DS) (h : PDsk w g sv tv n d) (ht : TabAt w) (hd : d.down = false) (hg : genOf d.img n = none) :
    Calls Tryd.prog 13 #[.pointer (some ⟨g, 0, none⟩)] w (RetOpened PLog w.heap.size g (.err 60) w) := by
  have HD := down_walk w g n sv tv d h
  rw [hd] at HD
  have HG := generation_walk w g n sv tv d h ht
  rw [hg] at HG
  clear hd hg
  go_enter Tryd.func13, Tryd.ntmps13
  go_wp2
  go_step3
  go_wp2_with (first
    | (go_at_call 27; go_must (refine HD.mono ?_); rintro e w' ⟨rfl, rfl⟩)
    | (go_at_call 39; go_must (refine HG.mono ?_); rintro e w1 ⟨z, rfl, hz, hB1⟩; clear hz))
  try rw [Exit.noGoto_ret]
  go_ret2
  exact ⟨hB1, rfl⟩
theorem open_walk (w : World) (g n : Nat) (sv tv : Value) (d : DS) (h : PDsk w g sv tv n d) (ht : TabAt w) :
    Calls Tryd.prog 13 #[.pointer (some ⟨g, 0, none⟩)] w (RetOpened PLog w.heap.size g (openOf d n) w) := by
  unfold openOf
  by_cases hd : d.down = true
  · rw [if_pos hd]
    exact open_down w g n sv tv d h hd
  · rw [if_neg hd]
    have hd' : d.down = false := by simpa using hd
    cases hg : genOf d.img n with
    | none => exact open_head w g n sv tv d h ht hd' hg
    | some q => exact open_ok w g n sv tv d h ht q hd' hg
end Go.Proofs.YtggogenhakdhiaaDoor
end
section
set_option linter.unusedVariables false
set_option linter.unusedSimpArgs false
attribute [local go_sem ↓] Go.wp_at_zero Go.wp_at_succ
namespace Go.Proofs.YtggogenhakdhiaaDoor
open Go.RowKit

/-- how long the load is that some bytes tell -/
def frontLen (l : List UInt8) : Nat := num ((l.drop 2).take 4)
def rreadL (l : List UInt8) : Option (Int × List UInt8) :=
  if (l.getD 0 0).toNat ≠ 82 ∨ (l.getD 1 0).toNat = 0 ∨ frontLen l > 262144 ∨ 10 + frontLen l > l.length then none
  else if l.take (64 * secs (frontLen l)) = packB (l.getD 1 0).toNat ((l.drop 10).take (frontLen l)) then some (((l.getD 1 0).toNat : Int), (l.drop 10).take (frontLen l)) else none
def RetRRec (B : Nat) (r : Option (Int × List UInt8)) (w : World) (e : Ending) (w' : World) : Prop :=
  ∃ (kz : Int) (A : Option Addr) (m c : Nat), e = .returned (.tuple #[.agg #[.int .i64 kz, .slice A m c], .bool r.isSome]) ∧
    (∀ q, r = some q → kz = (q.1 : Int) ∧ m = q.2.length ∧ w'.ownsRow B 5 1 (.slice A m c) m (bv q.2)) ∧ Below B w w'
/-- a record of the call's own, in a box of its own -/
def RecBoxR (w0 : World) (base k n : Nat) (l : List UInt8) (v : Value) (w : World) : Prop :=
  ∃ g A c, v = .pointer (some ⟨g, 0, none⟩) ∧ w.heap[g]? = some (.cells #[.int .i64 k, .slice A n c] 102 (0, 0)) ∧ w.ownsRow base 5 1 (.slice A n c) n (bv l) ∧ Below w0.heap.size w0 w ∧ w0.heap.size ≤ g
theorem str_toList (l : List UInt8) : (str l).toList = l := ByteArray.toList_mk l
theorem add_block (a : Addr) (i : Nat) : (a.add i).block = a.block := by unfold Addr.add; split <;> (try split) <;> rfl
theorem Bys.set {w : World} {A : Option Addr} {n : Nat} {l : List UInt8} (h : Bys w A n l) (g i : Nat) (v : Value) (hne : ∀ ad, A = some ad → ad.block ≠ g) : Bys (w.setCell ⟨g, i, none⟩ v) A n l :=
  ⟨h.len, h.max, fun j hj => by
    obtain ⟨ad, e, hc⟩ := h.cell j hj
    refine ⟨ad, e, (World.cell?_setCell_other _ _ _ _ fun e' => hne ad e ?_).trans hc⟩
    have := congrArg Addr.block e'
    rw [add_block] at this
    exact this.symm⟩
theorem add_off (g o j : Nat) : (⟨g, o, none⟩ : Addr).add j = ⟨g, o + j, none⟩ := by unfold Addr.add; split <;> simp_all
theorem rread_none {w : World} {o : Nat} (h : (Below w.heap.size w (w.alloc (.cells #[.int .i64 0, .slice none 0 0] o)))) (r : Option (Int × List UInt8)) (hr : r = none) (w' : World) (hw : Below w.heap.size w w') : RetRRec w.heap.size r w (.returned (.tuple #[.agg #[.int .i64 0, .slice none 0 0], .bool false])) w' := by
  subst hr
  exact ⟨0, none, 0, 0, rfl, (by intro q hq; cases hq), hw⟩
set_option maxHeartbeats 1000000 in
set_option maxRecDepth 20000 in
theorem rread_bad (w : World) (s o m c : Nat) (l : List UInt8) (hby : Bys w (some ⟨s, o, none⟩) m l) (hm : 64 ≤ m) (hmc : m ≤ c) (hc : c ≤ 9223372036854775807) (hbad : (l.getD 0 0).toNat ≠ 82 ∨ (l.getD 1 0).toNat = 0 ∨ frontLen l > 262144 ∨ 10 + frontLen l > l.length) :
    Calls Tryd.prog 50 #[.slice (some ⟨s, o, none⟩) m c] w (RetRRec w.heap.size (rreadL l) w) := by
  have hnone : rreadL l = none := by unfold rreadL; rw [if_pos hbad]
  rw [hnone]
  have hB0 : Below w.heap.size w (w.alloc (.cells #[.int .i64 0, .slice none 0 0] 102)) := (Below.refl _ _).alloc (Nat.le_refl _) _
  have hbox := heap_alloc_new w (.cells #[.int .i64 0, .slice none 0 0] 102)
  have hz0 : w.heap.size < (w.alloc (.cells #[.int .i64 0, .slice none 0 0] 102)).heap.size := by simp
  obtain ⟨_, e00, x00⟩ := hby.cell 0 (by omega)
  cases e00
  have hsw0 : s < w.heap.size := by have := World.block_lt_of_cell? w _ x00; rw [add_block] at this; exact this
  clear x00
  go_enter Tryd.func50, Tryd.ntmps50
  go_upto_region 1 with fail
  have hb1 := hby.below hB0
  generalize w.alloc (.cells #[.int .i64 0, .slice none 0 0] 102) = W at *
  have hll := hby.len
  have HN := high_walk W _ 4 (c - 2) _ (hb1.cut 2 4 (by omega)) (by omega)
  have hq4 : frontLen l = num ((l.drop 2).take 4) := rfl
  rw [← hq4] at HN
  have hq32 : frontLen l < 4294967296 := by rw [hq4]; have := num_lt ((l.drop 2).take 4); rw [List.length_take, List.length_drop, hll, show min 4 (m - 2) = 4 by omega] at this; exact this
  obtain ⟨_, e0, x0⟩ := hb1.cell 0 (by omega)
  cases e0
  obtain ⟨_, e0, x1⟩ := hb1.cell 1 (by omega)
  cases e0
  rw [add_off] at x0 x1
  rw [Nat.add_zero] at x0
  have y0 := cell_of_row W w.heap.size 0 _ _ _ hbox
  have y1 := cell_of_row W w.heap.size 1 _ _ _ hbox
  have f0 := frozen_of_row W w.heap.size 0 _ _ hbox
  have f1 := frozen_of_row W w.heap.size 1 _ _ hbox
  have hn0 := (l.getD 0 0).toNat_lt
  have hn1 := (l.getD 1 0).toNat_lt
  rw [hll] at hbad
  clear hq4 hnone
  generalize frontLen l = ll at *
  generalize (l.getD 0 0).toNat = k0 at *
  generalize (l.getD 1 0).toNat = k1 at *
  have hlw : IntKind.i64.wrap (ll : Int) = (ll : Int) := by rw [IntKind.wrap_i64]; omega
  have hlw2 : IntKind.i64.wrap (10 + (ll : Int)) = ((10 + ll : Nat) : Int) := by rw [IntKind.wrap_i64]; omega
  have hm1 : ¬ m < 64 := by omega
  have hc1 : ¬ c = 2 := by omega
  have hp1 : (0 : Int) < (m : Int) := by omega
  have hp2 : (1 : Int) < (m : Int) := by omega
  have hp3 : (6 : Int) ≤ (c : Int) := by omega
  have hp4 : (64 : Int) ≤ (m : Int) := by omega
  by_cases a1 : k0 = 82
  · subst a1
    by_cases a2 : k1 = 0
    · subst a2
      clear hbad
      go_wp2_with (go_at_call 46; go_must (refine HN.mono ?_); rintro e w' ⟨rfl, rfl⟩)
      try simp only [Exit.inBlock, Exit.then]
      refine bodyPost_ret (Go.Proofs.YtggogenhakdhiaaDoorW.PrintWords.results_ct rfl _ _ w.heap.size _ _ _ _ rfl (Go.Proofs.YtggogenhakdhiaaDoorW.PrintWords.blk_set (Go.Proofs.YtggogenhakdhiaaDoorW.PrintWords.blk_set hbox 0 _) 1 _) Tryd.underlying102 rfl (by kernel_rfl)) rfl ?_
      exact ⟨0, none, 0, 0, rfl, (by intro q hq; cases hq), (hB0.setCell (Nat.le_refl _) _).setCell (Nat.le_refl _) _⟩
    · have a2' : ((k1 : Int) == 0) = false := by simp; omega
      by_cases a3 : ll > 262144
      · clear hbad
        go_wp2_with (go_at_call 46; go_must (refine HN.mono ?_); rintro e w' ⟨rfl, rfl⟩)
        try simp only [Exit.inBlock, Exit.then]
        refine bodyPost_ret (Go.Proofs.YtggogenhakdhiaaDoorW.PrintWords.results_ct rfl _ _ w.heap.size _ _ _ _ rfl (Go.Proofs.YtggogenhakdhiaaDoorW.PrintWords.blk_set (Go.Proofs.YtggogenhakdhiaaDoorW.PrintWords.blk_set hbox 0 _) 1 _) Tryd.underlying102 rfl (by kernel_rfl)) rfl ?_
        exact ⟨0, none, 0, 0, rfl, (by intro q hq; cases hq), (hB0.setCell (Nat.le_refl _) _).setCell (Nat.le_refl _) _⟩
      · have a4 : 10 + ll > m := by omega
        have a3' : ¬ 262144 < ll := by omega
        clear hbad
        go_wp2_with (go_at_call 46; go_must (refine HN.mono ?_); rintro e w' ⟨rfl, rfl⟩)
        try simp only [Exit.inBlock, Exit.then]
        refine bodyPost_ret (Go.Proofs.YtggogenhakdhiaaDoorW.PrintWords.results_ct rfl _ _ w.heap.size _ _ _ _ rfl (Go.Proofs.YtggogenhakdhiaaDoorW.PrintWords.blk_set (Go.Proofs.YtggogenhakdhiaaDoorW.PrintWords.blk_set hbox 0 _) 1 _) Tryd.underlying102 rfl (by kernel_rfl)) rfl ?_
        exact ⟨0, none, 0, 0, rfl, (by intro q hq; cases hq), (hB0.setCell (Nat.le_refl _) _).setCell (Nat.le_refl _) _⟩
  · clear hbad
    go_wp2_with (go_at_call 46; go_must (refine HN.mono ?_); rintro e w' ⟨rfl, rfl⟩)
    try simp only [Exit.inBlock, Exit.then]
    refine bodyPost_ret (Go.Proofs.YtggogenhakdhiaaDoorW.PrintWords.results_ct rfl _ _ w.heap.size _ _ _ _ rfl (Go.Proofs.YtggogenhakdhiaaDoorW.PrintWords.blk_set (Go.Proofs.YtggogenhakdhiaaDoorW.PrintWords.blk_set hbox 0 _) 1 _) Tryd.underlying102 rfl (by kernel_rfl)) rfl ?_
    exact ⟨0, none, 0, 0, rfl, (by intro q hq; cases hq), (hB0.setCell (Nat.le_refl _) _).setCell (Nat.le_refl _) _⟩
set_option maxHeartbeats 4000000 in
set_option maxRecDepth 20000 in
theorem rread_ok (w : World) (s o m c : Nat) (l : List UInt8) (hby : Bys w (some ⟨s, o, none⟩) m l) (hm : 64 ≤ m) (hmc : m ≤ c) (hc : c ≤ 9223372036854775807) (hm2 : m % 64 = 0) (hbad : ¬ ((l.getD 0 0).toNat ≠ 82 ∨ (l.getD 1 0).toNat = 0 ∨ frontLen l > 262144 ∨ 10 + frontLen l > l.length)) :
    Calls Tryd.prog 50 #[.slice (some ⟨s, o, none⟩) m c] w (RetRRec w.heap.size (rreadL l) w) := by
  have hrp0 : rreadL l = if l.take (64 * secs (frontLen l)) = packB (l.getD 1 0).toNat ((l.drop 10).take (frontLen l)) then some (((l.getD 1 0).toNat : Int), (l.drop 10).take (frontLen l)) else none := by unfold rreadL; rw [if_neg hbad]
  generalize rreadL l = rp at *
  replace hrp0 := Go.Lib.hid hrp0
  have hB0 : Below w.heap.size w (w.alloc (.cells #[.int .i64 0, .slice none 0 0] 102)) := (Below.refl _ _).alloc (Nat.le_refl _) _
  have hbox := heap_alloc_new w (.cells #[.int .i64 0, .slice none 0 0] 102)
  have hz0 : w.heap.size < (w.alloc (.cells #[.int .i64 0, .slice none 0 0] 102)).heap.size := by simp
  obtain ⟨_, e00, x00⟩ := hby.cell 0 (by omega)
  cases e00
  have hsw0 : s < w.heap.size := by have := World.block_lt_of_cell? w _ x00; rw [add_block] at this; exact this
  clear x00
  go_enter Tryd.func50, Tryd.ntmps50
  go_upto_region 1 with fail
  have hb1 := hby.below hB0
  generalize w.alloc (.cells #[.int .i64 0, .slice none 0 0] 102) = W at *
  have hll := hby.len
  have HN := high_walk W _ 4 (c - 2) _ (hb1.cut 2 4 (by omega)) (by omega)
  have hq4 : frontLen l = num ((l.drop 2).take 4) := rfl
  rw [← hq4] at HN
  have hq32 : frontLen l < 4294967296 := by rw [hq4]; have := num_lt ((l.drop 2).take 4); rw [List.length_take, List.length_drop, hll, show min 4 (m - 2) = 4 by omega] at this; exact this
  obtain ⟨_, e0, x0⟩ := hb1.cell 0 (by omega)
  cases e0
  obtain ⟨_, e0, x1⟩ := hb1.cell 1 (by omega)
  cases e0
  rw [add_off] at x0 x1
  rw [Nat.add_zero] at x0
  have y0 := cell_of_row W w.heap.size 0 _ _ _ hbox
  have y1 := cell_of_row W w.heap.size 1 _ _ _ hbox
  have f0 := frozen_of_row W w.heap.size 0 _ _ hbox
  have f1 := frozen_of_row W w.heap.size 1 _ _ hbox
  have hn0 := (l.getD 0 0).toNat_lt
  have hn1 := (l.getD 1 0).toNat_lt
  rw [hll] at hbad
  clear hq4
  generalize frontLen l = ll at *
  generalize (l.getD 0 0).toNat = k0 at *
  generalize (l.getD 1 0).toNat = k1 at *
  have hlw : IntKind.i64.wrap (ll : Int) = (ll : Int) := by rw [IntKind.wrap_i64]; omega
  have hlw2 : IntKind.i64.wrap (10 + (ll : Int)) = ((10 + ll : Nat) : Int) := by rw [IntKind.wrap_i64]; omega
  have hm1 : ¬ m < 64 := by omega
  have hc1 : ¬ c = 2 := by omega
  have hp1 : (0 : Int) < (m : Int) := by omega
  have hp2 : (1 : Int) < (m : Int) := by omega
  have hp3 : (6 : Int) ≤ (c : Int) := by omega
  have hp4 : (64 : Int) ≤ (m : Int) := by omega
  obtain ⟨b0, b1, b2, b3⟩ : k0 = 82 ∧ 0 < k1 ∧ ll ≤ 262144 ∧ 10 + ll ≤ m := by omega
  clear hbad
  subst b0
  have a2' : ((k1 : Int) == 0) = false := by simp; omega
  have a3' : ¬ 262144 < ll := by omega
  have a4' : ¬ m < 10 + ll := by omega
  have hk1w : IntKind.i64.wrap (k1 : Int) = (k1 : Int) := by rw [IntKind.wrap_i64]; omega
  have hc10 : ¬ c = 10 := by omega
  have hq1 : (10 + (ll : Int)).toNat - 10 = ll := by omega
  have hq2 : (0 : Int) ≤ 10 + (ll : Int) := by omega
  have hq3 : 10 + (ll : Int) ≤ (c : Int) := by omega
  have hq4 : (10 : Int) ≤ max (10 + (ll : Int)) 0 := by omega
  go_upto_region 6 with (go_at_call 46; go_must (refine HN.mono ?_); rintro e w' ⟨rfl, rfl⟩)
  have hcut10 : Bys W (some ⟨s, o + 10, none⟩) ll ((l.drop 10).take ll) := hb1.cut 10 ll (by omega)
  have hld0 : ((l.drop 10).take ll).length = ll := by rw [List.length_take, List.length_drop, hll]; omega
  generalize hld : (l.drop 10).take ll = ld at *
  replace hld := Go.Lib.hid hld
  replace hld0 := Go.Lib.hid hld0
  replace hll := Go.Lib.hid hll
  have hsz := hB0.size
  have hsw : s < w.heap.size := hsw0
  go_cut [5] from 37 to 60 (fun v wx => RecBoxR W (w.heap.size + 1) k1 ll ld v wx)
  case first =>
    have hsW : s < W.heap.size := World.block_lt_of_cell? W _ x1
    have hE := heap_alloc_new W (.cells #[] 5)
    have hBE : Below W.heap.size W (W.alloc (.cells #[] 5)).drew := below_drew ((Below.refl _ _).alloc (Nat.le_refl _) _)
    have hBEX : Below W.heap.size W ((W.alloc (.cells #[] 5)).alloc (.cells #[.int .i64 0, .slice none 0 0] 102)).drew := below_drew (((Below.refl _ _).alloc (Nat.le_refl _) _).alloc (by simp) _)
    have hBXE : Below W.heap.size W ((W.alloc (.cells #[.int .i64 0, .slice none 0 0] 102)).alloc (.cells #[] 5)).drew := below_drew (((Below.refl _ _).alloc (Nat.le_refl _) _).alloc (by simp) _)
    have hEX0 := heap_alloc2_old W (.cells #[] 5) (.cells #[.int .i64 0, .slice none 0 0] 102)
    have hEX1 := heap_alloc2_new W (.cells #[] 5) (.cells #[.int .i64 0, .slice none 0 0] 102)
    have hXE0 := heap_alloc2_old W (.cells #[.int .i64 0, .slice none 0 0] 102) (.cells #[] 5)
    have hXE1 := heap_alloc2_new W (.cells #[.int .i64 0, .slice none 0 0] 102) (.cells #[] 5)
    have s1 : (W.alloc (.cells #[] 5)).drew.heap.size = W.heap.size + 1 := by show (W.alloc _).heap.size = _; simp
    have s2 : ((W.alloc (.cells #[] 5)).alloc (.cells #[.int .i64 0, .slice none 0 0] 102)).drew.heap.size = W.heap.size + 2 := by show ((W.alloc _).alloc _).heap.size = _; simp
    have s3 : ((W.alloc (.cells #[.int .i64 0, .slice none 0 0] 102)).alloc (.cells #[] 5)).drew.heap.size = W.heap.size + 2 := by show ((W.alloc _).alloc _).heap.size = _; simp
    have y1 := cell_below hBE x1
    have y2 := cell_below hBEX x1
    have y3 := cell_below hBXE x1
    have a1 := own_empty (W.alloc (.cells #[] 5)).drew W.heap.size 5 1 W.heap.size (Nat.le_refl _) hE
    have a2 := own_empty ((W.alloc (.cells #[] 5)).alloc (.cells #[.int .i64 0, .slice none 0 0] 102)).drew W.heap.size 5 1 W.heap.size (Nat.le_refl _) hEX0
    have a3 := own_empty ((W.alloc (.cells #[.int .i64 0, .slice none 0 0] 102)).alloc (.cells #[] 5)).drew W.heap.size 5 1 (W.heap.size + 1) (Nat.le_succ _) hXE1
    have hr1 : Rdv (W.alloc (.cells #[] 5)).drew (some ⟨s, o + 10, none⟩) ll (bv ld) := hcut10.rdv.below hBE
    have hr2 : Rdv ((W.alloc (.cells #[] 5)).alloc (.cells #[.int .i64 0, .slice none 0 0] 102)).drew (some ⟨s, o + 10, none⟩) ll (bv ld) := hcut10.rdv.below hBEX
    have hr3 : Rdv ((W.alloc (.cells #[.int .i64 0, .slice none 0 0] 102)).alloc (.cells #[] 5)).drew (some ⟨s, o + 10, none⟩) ll (bv ld) := hcut10.rdv.below hBXE
    have hb1' := hBE.mono (Nat.le_refl W.heap.size)
    go_region_held_law (fun w' => w'.cell? ⟨s, o + 1, none⟩ = some (.int .u8 k1)) (first | exact xx | exact y1 | exact y2 | exact y3 | exact keep_set2 hsne xx | go_keep) ((first
      | (refine step_append_rd (o := ⟨some 47, _, _, _, _, _⟩) W W.heap.size rfl (.tmp 41) (.tmp 46) 22 5 (.int .u8 0) 1 rfl Tryd.underlying22 info_b rfl (.slice (some ⟨W.heap.size, 0, none⟩) 0 0) 0 [] rfl a1 _ ll _ (bv ld) rfl hr1 (bv_one _) hBE (by omega) (by omega) (by omega) ?_; intro v1 w1 hown1 hBw1 hg1 hs1; obtain ⟨A1, c1, hv1⟩ := own_slice hown1; subst hv1; have xx : w1.cell? ⟨s, o + 1, none⟩ = some (.int .u8 k1) := cell_below hBw1 x1)
      | (refine step_append_rd (o := ⟨some 47, _, _, _, _, _⟩) W W.heap.size rfl (.tmp 41) (.tmp 46) 22 5 (.int .u8 0) 1 rfl Tryd.underlying22 info_b rfl (.slice (some ⟨W.heap.size, 0, none⟩) 0 0) 0 [] rfl a2 _ ll _ (bv ld) rfl hr2 (bv_one _) hBEX (by omega) (by omega) (by omega) ?_; intro v1 w1 hown1 hBw1 hg1 hs1; obtain ⟨A1, c1, hv1⟩ := own_slice hown1; subst hv1; have xx : w1.cell? ⟨s, o + 1, none⟩ = some (.int .u8 k1) := cell_below hBw1 x1; have hx2 := (hg1.block (W.heap.size + 1) (by omega) (by simp [Value.ownBlock])).trans hEX1; have hsne : s ≠ W.heap.size + 1 := (by omega); have q0 := cell_of_row w1 (W.heap.size + 1) 0 _ _ _ hx2; have q1 := cell_of_row w1 (W.heap.size + 1) 1 _ _ _ hx2; have p0 := frozen_of_row w1 (W.heap.size + 1) 0 _ _ hx2; have p1 := frozen_of_row w1 (W.heap.size + 1) 1 _ _ hx2)
      | (refine step_append_rd (o := ⟨some 47, _, _, _, _, _⟩) W W.heap.size rfl (.tmp 41) (.tmp 46) 22 5 (.int .u8 0) 1 rfl Tryd.underlying22 info_b rfl (.slice (some ⟨W.heap.size + 1, 0, none⟩) 0 0) 0 [] rfl a3 _ ll _ (bv ld) rfl hr3 (bv_one _) hBXE (by omega) (by omega) (by omega) ?_; intro v1 w1 hown1 hBw1 hg1 hs1; obtain ⟨A1, c1, hv1⟩ := own_slice hown1; subst hv1; have xx : w1.cell? ⟨s, o + 1, none⟩ = some (.int .u8 k1) := cell_below hBw1 x1; have hx2 := (hg1.block W.heap.size (by omega) (by simp [Value.ownBlock])).trans hXE0; have hsne : s ≠ W.heap.size := (by omega); have q0 := cell_of_row w1 W.heap.size 0 _ _ _ hx2; have q1 := cell_of_row w1 W.heap.size 1 _ _ _ hx2; have p0 := frozen_of_row w1 W.heap.size 0 _ _ hx2; have p1 := frozen_of_row w1 W.heap.size 1 _ _ hx2)))
    · go_wp2_with fail
      go_meet
      rw [Nat.zero_add, List.nil_append] at hown1
      exact ⟨_, A1, c1, rfl, heap_alloc_new w1 _, (own_lo hown1 (by omega)).alloc _, hBw1.alloc hBw1.size _, hBw1.size⟩
    · go_wp2_with fail
      go_meet
      rw [Nat.zero_add, List.nil_append] at hown1
      have hoo : ∀ k, (Value.slice A1 ll c1).ownBlock = some k → k ≠ W.heap.size + 1 := fun k hk e => own_blk_ne hown1 hx2 (by decide) (by rw [hk, e])
      exact ⟨_, A1, c1, rfl, Go.Proofs.YtggogenhakdhiaaDoorW.PrintWords.blk_set (Go.Proofs.YtggogenhakdhiaaDoorW.PrintWords.blk_set hx2 0 _) 1 _, own_at (own_at (own_lo hown1 (by omega)) (fun k hk => heap_setCell_other _ _ _ _ (hoo k hk))) (fun k hk => heap_setCell_other _ _ _ _ (hoo k hk)), (hBw1.setCell (Nat.le_succ _) _).setCell (Nat.le_succ _) _, Nat.le_succ _⟩
    · go_wp2_with fail
      go_meet
      rw [Nat.zero_add, List.nil_append] at hown1
      have hoo : ∀ k, (Value.slice A1 ll c1).ownBlock = some k → k ≠ W.heap.size := fun k hk e => own_blk_ne hown1 hx2 (by decide) (by rw [hk, e])
      exact ⟨_, A1, c1, rfl, Go.Proofs.YtggogenhakdhiaaDoorW.PrintWords.blk_set (Go.Proofs.YtggogenhakdhiaaDoorW.PrintWords.blk_set hx2 0 _) 1 _, own_at (own_at (own_lo hown1 (by omega)) (fun k hk => heap_setCell_other _ _ _ _ (hoo k hk))) (fun k hk => heap_setCell_other _ _ _ _ (hoo k hk)), (hBw1.setCell (Nat.le_refl _) _).setCell (Nat.le_refl _) _, Nat.le_refl _⟩
  case rest =>
    obtain ⟨gx, A2, c2, rfl, hbx, hown2, hB2, hgx⟩ := hcut
    have hB0c : Below w.heap.size w wc := hB0.trans (hB2.mono hsz)
    have hrb := (hB2.block w.heap.size hz0).trans hbox
    have xx0 := cell_of_row wc gx 0 _ _ _ hbx
    have xx1 := cell_of_row wc gx 1 _ _ _ hbx
    have hgne : gx ≠ w.heap.size := by omega
    have hwc : w.heap.size < wc.heap.size := (Array.getElem?_eq_some_iff.1 hrb).1
    have hlb' : ld.length = ll := hld0
    have hbl : Bys wc A2 ll ld := Bys.own hown2
    have HP : Calls Tryd.prog 97 #[.agg #[.int .i64 k1, .slice A2 ll c2]] wc (RetBys wc.heap.size 5 (packB k1 ld) wc) := by
      have := bytes_walk wc k1 A2 c2 ld (by rw [hlb']; exact hbl) (by omega) (by omega)
      rw [hlb'] at this
      exact this
    have hpl : (packB k1 ld).length = 64 * secs ll := by rw [packB_length, hlb']
    have hpm : 64 * secs ll ≤ m := by unfold secs; omega
    have hps : 10 + ll ≤ 64 * secs ll := secs_le ll
    have hrp : rp = if l.take (64 * secs ll) = packB k1 ld then some ((k1 : Int), ld) else none := hrp0
    have hby2 : Bys wc (some ⟨s, o, none⟩) (64 * secs ll) (l.take (64 * secs ll)) := (hb1.below hB2).take _ hpm
    generalize packB k1 ld = pk at *
    generalize 64 * secs ll = pn at *
    generalize l.take pn = tk at *
    have hcz : (pn : Int) ≤ (c : Int) := by omega
    have hrs : rp.isSome = decide (tk = pk) := by
      rw [hrp]
      by_cases he : tk = pk
      · rw [if_pos he, decide_eq_true he]; rfl
      · rw [if_neg he, decide_eq_false he]; rfl
    have hrq : ∀ q, rp = some q → q = ((k1 : Int), ld) := by
      intro q hq
      rw [hrp] at hq
      by_cases he : tk = pk
      · rw [if_pos he] at hq; exact (Option.some.inj hq).symm
      · rw [if_neg he] at hq; cases hq
    replace hpl := Go.Lib.hid hpl
    replace hlb' := Go.Lib.hid hlb'
    clear hrp hrp0 hbox x0 x1 y0 y1 f0 f1 HN hcut10 hld hld0 hll hb1 hby
    go_upto_region 8 with (go_at_call 97; go_must (refine HP.mono ?_; intro e w3 hR; obtain ⟨A3, c3, rfl, hown3, hB3⟩ := hR.len (show pk.length = pn from hpl)))
    have hst1 := (hby2.below (hB3.trans (below_drew (Below.refl _ _)))).string (P := Tryd.prog) Tryd.underlying22 Tryd.underlying5 Tryd.underlying9 c
    have hst2 := ((Bys.own hown3).drew).string (P := Tryd.prog) Tryd.underlying22 Tryd.underlying5 Tryd.underlying9 c3
    have hn1 : ∀ ad, (some ⟨s, o, none⟩ : Option Addr) = some ad → ad.block ≠ w.heap.size := by
      intro ad e
      cases e
      show s ≠ w.heap.size
      omega
    have hn2 : ∀ ad, A3 = some ad → ad.block ≠ w.heap.size := by
      intro ad e
      subst e
      rcases hown3.2 with ⟨e', _⟩ | ⟨g', cap', cur', e', hb', _⟩
      · cases e'
      · cases e'
        show g' ≠ w.heap.size
        omega
    have hst3 := ((((hby2.below hB3).set w.heap.size 0 (.int .i64 k1) hn1).set w.heap.size 1 (.slice A2 ll c2) hn1).drew).string (P := Tryd.prog) Tryd.underlying22 Tryd.underlying5 Tryd.underlying9 c
    have hst4 := ((((Bys.own hown3).set w.heap.size 0 (.int .i64 k1) hn2).set w.heap.size 1 (.slice A2 ll c2) hn2).drew).string (P := Tryd.prog) Tryd.underlying22 Tryd.underlying5 Tryd.underlying9 c3
    have hrb3 := (hB3.block w.heap.size hwc).trans hrb
    have q0 := cell_of_row w3 w.heap.size 0 _ _ _ hrb3
    have q1 := cell_of_row w3 w.heap.size 1 _ _ _ hrb3
    have p0 := frozen_of_row w3 w.heap.size 0 _ _ hrb3
    have p1 := frozen_of_row w3 w.heap.size 1 _ _ hrb3
    have xx2 := cell_below hB3 xx0
    have xx3 := cell_below hB3 xx1
    have hoo : ∀ k, (Value.slice A2 ll c2).ownBlock = some k → k ≠ w.heap.size := fun k hk e => own_blk_ne hown2 hrb (by decide) (by rw [hk, e])
    have hfin : ∀ q, rp = some q → (k1 : Int) = (q.1 : Int) ∧ ll = q.2.length ∧ ((w3.setCell ⟨w.heap.size, 0, none⟩ (.int .i64 k1)).setCell ⟨w.heap.size, 1, none⟩ (.slice A2 ll c2)).ownsRow w.heap.size 5 1 (.slice A2 ll c2) ll (bv q.2) := by
      intro q hq
      rw [hrq q hq]
      exact ⟨rfl, (show ld.length = ll from hlb').symm, own_at (own_at (own_lo (own_below hown2 hB3) (Nat.le_succ _)) (fun k hk => heap_setCell_other _ _ _ _ (hoo k hk))) (fun k hk => heap_setCell_other _ _ _ _ (hoo k hk))⟩
    have hB3w : Below w.heap.size w w3 := hB0c.trans (hB3.mono (Nat.le_of_lt hwc))
    clear hrq xx0 xx1 hby2 hbx
    replace hrs := Go.Lib.hid hrs
    replace hfin := Go.Lib.hid hfin
    by_cases he : tk = pk
    · have hdt : rp.isSome = true := by rw [show rp.isSome = _ from hrs]; exact decide_eq_true he
      replace hdt := Go.Lib.hid hdt
      rw [he] at hst1 hst3
      clear he hrs
      go_region_held_law (fun w' => w'.cell? ⟨gx, 0, none⟩ = some (.int .i64 k1) ∧ w'.cell? ⟨gx, 1, none⟩ = some (.slice A2 ll c2)) (first | exact ⟨keep_set2 hgne xx2, keep_set2 hgne xx3⟩ | go_keep) (fail)
      all_goals
        go_wp2_with fail
        try simp only [Exit.inBlock, Exit.then]
        refine bodyPost_ret (Go.Proofs.YtggogenhakdhiaaDoorW.PrintWords.results_ct rfl _ _ w.heap.size _ _ _ _ rfl (Go.Proofs.YtggogenhakdhiaaDoorW.PrintWords.blk_set (Go.Proofs.YtggogenhakdhiaaDoorW.PrintWords.blk_set hrb3 0 _) 1 _) Tryd.underlying102 rfl (by kernel_rfl)) rfl ?_
        exact ⟨(k1 : Int), A2, ll, c2, by rw [show rp.isSome = true from hdt]; rfl, hfin.out, below_drew ((hB3w.setCell (p := ⟨w.heap.size, 0, none⟩) (Nat.le_refl _) (.int .i64 k1)).setCell (p := ⟨w.heap.size, 1, none⟩) (Nat.le_refl _) (.slice A2 ll c2))⟩
    · have hdt : rp.isSome = false := by rw [show rp.isSome = _ from hrs]; exact decide_eq_false he
      replace hdt := Go.Lib.hid hdt
      have hne : ¬ str tk = str pk := fun e => he (str_inj.1 e)
      have hne2 : ((str tk).toList == (str pk).toList) = false := by rw [str_toList, str_toList, beq_eq_false_iff_ne]; exact he
      clear he hrs
      go_region_held_law (fun w' => w'.cell? ⟨gx, 0, none⟩ = some (.int .i64 k1) ∧ w'.cell? ⟨gx, 1, none⟩ = some (.slice A2 ll c2)) (first | exact ⟨keep_set2 hgne xx2, keep_set2 hgne xx3⟩ | go_keep) (fail)
      all_goals
        go_wp2_with fail
        try simp only [Exit.inBlock, Exit.then]
        refine bodyPost_ret (Go.Proofs.YtggogenhakdhiaaDoorW.PrintWords.results_ct rfl _ _ w.heap.size _ _ _ _ rfl (Go.Proofs.YtggogenhakdhiaaDoorW.PrintWords.blk_set (Go.Proofs.YtggogenhakdhiaaDoorW.PrintWords.blk_set hrb3 0 _) 1 _) Tryd.underlying102 rfl (by kernel_rfl)) rfl ?_
        exact ⟨(k1 : Int), A2, ll, c2, by rw [show rp.isSome = false from hdt]; rfl, hfin.out, below_drew ((hB3w.setCell (p := ⟨w.heap.size, 0, none⟩) (Nat.le_refl _) (.int .i64 k1)).setCell (p := ⟨w.heap.size, 1, none⟩) (Nat.le_refl _) (.slice A2 ll c2))⟩
theorem rread_walk' (w : World) (s o m c : Nat) (l : List UInt8) (hby : Bys w (some ⟨s, o, none⟩) m l) (hm : 64 ≤ m) (hmc : m ≤ c) (hc : c ≤ 9223372036854775807) (hm2 : m % 64 = 0) :
    Calls Tryd.prog 50 #[.slice (some ⟨s, o, none⟩) m c] w (RetRRec w.heap.size (rreadL l) w) := by
  by_cases hbad : (l.getD 0 0).toNat ≠ 82 ∨ (l.getD 1 0).toNat = 0 ∨ frontLen l > 262144 ∨ 10 + frontLen l > l.length
  · exact rread_bad w s o m c l hby hm hmc hc hbad
  · exact rread_ok w s o m c l hby hm hmc hc hm2 hbad
end Go.Proofs.YtggogenhakdhiaaDoor
end
section
set_option linter.unusedVariables false
set_option linter.unusedSimpArgs false
attribute [local go_sem ↓] Go.wp_at_zero Go.wp_at_succ
namespace Go.Proofs.YtggogenhakdhiaaDoor
open Go.RowKit

theorem secOf_secsOf (img : List UInt8) (at_ k : Nat) (hk : 1 ≤ k) : (secsOf img at_ k).take 64 = secOf img at_ := by
  unfold secsOf secOf
  rw [List.take_take, show min 64 (64 * k) = 64 by omega]
theorem secsOf_take (img : List UInt8) (at_ k j : Nat) (hk : j ≤ k) : (secsOf img at_ k).take (64 * j) = secsOf img at_ j := by
  unfold secsOf
  rw [List.take_take, show min (64 * j) (64 * k) = 64 * j by omega]
theorem secsOf_drop (img : List UInt8) (at_ k j : Nat) : (secsOf img at_ k).drop (64 * j) = secsOf img (at_ + j) (k - j) := by
  unfold secsOf
  rw [List.drop_take, List.drop_drop, show 64 * at_ + 64 * j = 64 * (at_ + j) by omega, show 64 * k - 64 * j = 64 * (k - j) by omega]
/-- the two readings are one -/
theorem rread_readP {img : List UInt8} {n at_ en : Nat} (hl : img.length = 64 * n) (he : en ≤ n) (ha : at_ < en) : rreadL (secsOf img at_ (en - at_)) = readP img at_ en := by
  have h0 := secsOf_head img at_ (en - at_) 0 (by omega) (by omega)
  have h1 := secsOf_head img at_ (en - at_) 1 (by omega) (by omega)
  have hq : frontLen (secsOf img at_ (en - at_)) = loadLen img at_ := by
    unfold frontLen loadLen
    rw [← secOf_secsOf img at_ (en - at_) (by omega)]
    congr 1
    rw [List.drop_take, List.take_take]
    congr 1
  have hlen := secsOf_length hl (show at_ + (en - at_) ≤ n by omega)
  unfold rreadL readP recOf
  rw [h0, h1, hq, hlen]
  have hs := secs_le (loadLen img at_)
  have hiff : (10 + loadLen img at_ > 64 * (en - at_)) ↔ (at_ + secs (loadLen img at_) > en) := by unfold secs; omega
  by_cases hb : ((secOf img at_).getD 0 0).toNat ≠ 82 ∨ ((secOf img at_).getD 1 0).toNat = 0 ∨ loadLen img at_ > 262144 ∨ at_ + secs (loadLen img at_) > en
  · rw [if_pos hb, if_pos (by rw [hiff]; exact hb)]
  · rw [if_neg hb, if_neg (by rw [hiff]; exact hb)]
    have hk : secs (loadLen img at_) ≤ en - at_ := by omega
    rw [secsOf_take _ _ _ _ hk]
    have hd : ((secsOf img at_ (en - at_)).drop 10).take (loadLen img at_) = ((secsOf img at_ (secs (loadLen img at_))).drop 10).take (loadLen img at_) := by
      rw [← secsOf_take img at_ (en - at_) _ hk, List.drop_take, List.take_take]
      congr 1
      omega
    rw [hd]
theorem RLog.chain {w w' : World} {Z : Nat → Prop} {gl g : Nat} {v : Value} {s : LS} (h : RLog w Z gl g v s) (hb : Below w.heap.size w w') : RLog w' Z gl g v s :=
  ⟨(hb.block gl (Array.getElem?_eq_some_iff.1 h.blk).1).trans h.blk, h.recs.below hb⟩
theorem RLog.grow {w w' : World} {Z : Nat → Prop} {gl g : Nat} {v : Value} {s : LS} (h : RLog w Z gl g v s) (hg : w.grownBy w' v.ownBlock) : w'.heap[gl]? = w.heap[gl]? := by
  refine hg.block gl (Array.getElem?_eq_some_iff.1 h.blk).1 fun e => ?_
  obtain ⟨xs, ho, _⟩ := h.recs.ex
  exact own_blk_ne ho h.blk (by decide) e.symm
set_option maxHeartbeats 2000000 in
set_option maxRecDepth 20000 in
theorem ropen_down (w : World) (g n : Nat) (sv tv : Value) (d : DS) (h : RDsk w g sv tv n d) (hd : d.down = true) :
    Calls Tryd.prog 14 #[.pointer (some ⟨g, 0, none⟩)] w (RetOpened RLog w.heap.size g (.err 50) w) := by
  have c3 := h.c3
  rw [hd] at c3
  clear h hd
  go_enter Tryd.func14, Tryd.ntmps14
  go_wp2
  go_ret2
  exact ⟨Below.refl _ _, rfl⟩
set_option maxHeartbeats 2000000 in
set_option maxRecDepth 20000 in
theorem ropen_head (w : World) (g n : Nat) (sv tv : Value) (d : DS) (h : RDsk w g sv tv n d) (hd : d.down = false) (hg : genOf d.img n = none) :
    Calls Tryd.prog 14 #[.pointer (some ⟨g, 0, none⟩)] w (RetOpened RLog w.heap.size g (.err 60) w) := by
  have c3 := h.c3
  have c0 := h.c0
  rw [hd] at c3
  have hle := h.le
  have HS := rsectors_walk w g n sv tv d h
  by_cases h3 : n < 3
  · have h3z : (n : Int) < 3 := by omega
    clear h hd hg c0
    go_enter Tryd.func14, Tryd.ntmps14
    go_wp2_with (go_at_call 38; go_must (refine HS.mono ?_); rintro e w' ⟨rfl, rfl⟩)
    go_ret2
    exact ⟨Below.refl _ _, rfl⟩
  · have h3z : ¬ (n : Int) < 3 := by omega
    have hpos := h.pos
    obtain ⟨s, c, hv, _, hs, hc1, hc2, hcells⟩ := own_some h.sec (by omega)
    subst hv
    have hby : Bys w (some ⟨s, 0, none⟩) (64 * n) d.img := Bys.own h.sec
    have hh : halfOf n ≥ 1 := by unfold halfOf; omega
    have hq8 : headNum d.img = num (((secOf d.img 0).drop 8).take 8) := rfl
    have hq8' : headNum d.img = num ((d.img.drop 8).take 8) := by
      rw [hq8]; unfold secOf; rw [Nat.mul_zero, List.drop_zero, List.drop_take, List.take_take]; congr 1
    have HN := high_walk w _ 8 (c - 8) _ (hby.cut 8 8 (by omega)) (by omega)
    rw [← hq8'] at HN
    have hq64 : headNum d.img < 18446744073709551616 := by rw [hq8']; exact num_lt64 _ (by rw [List.length_take]; omega)
    have hg2 : genOf d.img n = if headNum d.img < 1 ∨ headNum d.img > 1099511627776 then none else if secOf d.img 0 = headB (headNum d.img) then some (headNum d.img) else none := by unfold genOf; rw [if_neg (by omega)]
    rw [hg] at hg2
    have hsec0 : secOf d.img 0 = d.img.take 64 := by unfold secOf; rw [Nat.mul_zero, List.drop_zero]
    have hb64 := hby.take 64 (by omega)
    rw [← hsec0] at hb64
    have hm64 : (64 : Int) ≤ 64 * (n : Int) := by omega
    have hc8 : ¬ c = 8 := by omega
    have hc16 : (16 : Int) ≤ (c : Int) := by omega
    have hc64 : (64 : Int) ≤ (c : Int) := by omega
    clear hq8 hq8' hby hcells hg hsec0
    generalize headNum d.img = q at *
    generalize secOf d.img 0 = sec at *
    by_cases h2 : q < 1 ∨ q > 1099511627776
    · clear hg2
      rcases (show q = 0 ∨ 1099511627776 < q by omega) with h0 | h0
      · have d1 : decide ((q : Int) < 1) = true := by rw [decide_eq_true_eq]; omega
        clear h h2 h0
        go_enter Tryd.func14, Tryd.ntmps14
        go_upto_region 6 with (first
          | (go_at_call 38; go_must (refine HS.mono ?_); rintro e w' ⟨rfl, rfl⟩)
          | (go_at_call 46; go_must (refine HN.mono ?_); rintro e w' ⟨rfl, rfl⟩))
        go_quiet (fail)
        go_wp2
        go_ret2
        exact ⟨below_drewN (Below.refl _ _) _, rfl⟩
      · have d1 : decide ((q : Int) < 1) = false := by rw [decide_eq_false_iff_not]; omega
        have d2 : decide ((1099511627776 : Int) < (q : Int)) = true := by rw [decide_eq_true_eq]; omega
        clear h h2 h0
        go_enter Tryd.func14, Tryd.ntmps14
        go_upto_region 6 with (first
          | (go_at_call 38; go_must (refine HS.mono ?_); rintro e w' ⟨rfl, rfl⟩)
          | (go_at_call 46; go_must (refine HN.mono ?_); rintro e w' ⟨rfl, rfl⟩))
        go_quiet (fail)
        go_wp2
        go_ret2
        exact ⟨below_drewN (Below.refl _ _) _, rfl⟩
    · rw [if_neg h2] at hg2
      have hne : ¬ sec = headB q := by
        intro e
        rw [if_pos e] at hg2
        cases hg2
      have d1 : decide ((q : Int) < 1) = false := by rw [decide_eq_false_iff_not]; omega
      have d2 : decide ((1099511627776 : Int) < (q : Int)) = false := by rw [decide_eq_false_iff_not]; omega
      have hqw : IntKind.i64.wrap (q : Int) = (q : Int) := by rw [IntKind.wrap_i64]; omega
      have HD : ∀ x, Calls Tryd.prog 47 #[.int .i64 q] x (RetBys x.heap.size 5 (headB q) x) := fun x => rhead_walk x q (by omega)
      have hhl := headB_length q
      have hne2 : ((str sec).toList == (str (headB q)).toList) = false := by rw [str_toList, str_toList, beq_eq_false_iff_ne]; exact hne
      generalize headB q = hb at *
      replace hhl := Go.Lib.hid hhl
      clear h h2 hg2 hne
      go_enter Tryd.func14, Tryd.ntmps14
      go_upto_region 6 with (first
        | (go_at_call 38; go_must (refine HS.mono ?_); rintro e w' ⟨rfl, rfl⟩)
        | (go_at_call 46; go_must (refine HN.mono ?_); rintro e w' ⟨rfl, rfl⟩))
      have HD1 := HD w.drew
      have hdr : Below w.heap.size w w.drew := below_drew (Below.refl _ _)
      have hst1 := (hb64.below hdr).string (P := Tryd.prog) Tryd.underlying22 Tryd.underlying5 Tryd.underlying9 c
      go_region_held_law (fun w' => w'.cell? ⟨g, 0, none⟩ = some (.slice (some ⟨s, 0, none⟩) (64 * n) c)) (first | exact c02 | go_keep) (
        ((go_at_call 47; (with_reducible refine HD1.mono ?_); intro e w3 hR; obtain ⟨A3, c3, rfl, hown3, hB3⟩ := hR.len (show hb.length = 64 from hhl); have c02 := cell_below (hdr.trans hB3) c0; have hst2 := (hb64.below (hdr.trans hB3)).string (P := Tryd.prog) Tryd.underlying22 Tryd.underlying5 Tryd.underlying9 c; have hst3 := (Bys.own hown3).string (P := Tryd.prog) Tryd.underlying22 Tryd.underlying5 Tryd.underlying9 c3)))
      all_goals
        go_wp2
        go_ret2
        exact ⟨hdr.trans hB3, rfl⟩
end Go.Proofs.YtggogenhakdhiaaDoor
end
section
set_option linter.unusedVariables false
set_option linter.unusedSimpArgs false
attribute [local go_sem ↓] Go.wp_at_zero Go.wp_at_succ
namespace Go.Proofs.YtggogenhakdhiaaDoor
open Go.RowKit

theorem PLog.cell {w : World} {Z : Nat → Prop} {gl g : Nat} {v : Value} {s : LS} (h : PLog w Z gl g v s) : w.cell? ⟨gl, 0, none⟩ = some (.pointer (some ⟨g, 0, none⟩)) ∧ w.cell? ⟨gl, 1, none⟩ = some (.int .i64 (s.gen : Nat)) ∧ w.cell? ⟨gl, 2, none⟩ = some (.int .i64 (usedOf s.recs : Nat)) ∧ w.cell? ⟨gl, 3, none⟩ = some v ∧ w.cell? ⟨gl, 4, none⟩ = some (.bool s.down) :=
  ⟨cell_of_row w gl 0 _ _ _ h.blk, cell_of_row w gl 1 _ _ _ h.blk, cell_of_row w gl 2 _ _ _ h.blk, cell_of_row w gl 3 _ _ _ h.blk, cell_of_row w gl 4 _ _ _ h.blk⟩
theorem RLog.cell {w : World} {Z : Nat → Prop} {gl g : Nat} {v : Value} {s : LS} (h : RLog w Z gl g v s) : w.cell? ⟨gl, 0, none⟩ = some (.pointer (some ⟨g, 0, none⟩)) ∧ w.cell? ⟨gl, 1, none⟩ = some v ∧ w.cell? ⟨gl, 2, none⟩ = some (.int .i64 (s.gen : Nat)) ∧ w.cell? ⟨gl, 3, none⟩ = some (.int .i64 (usedOf s.recs : Nat)) ∧ w.cell? ⟨gl, 4, none⟩ = some (.bool s.down) :=
  ⟨cell_of_row w gl 0 _ _ _ h.blk, cell_of_row w gl 1 _ _ _ h.blk, cell_of_row w gl 2 _ _ _ h.blk, cell_of_row w gl 3 _ _ _ h.blk, cell_of_row w gl 4 _ _ _ h.blk⟩
/-- a clone of bytes of any kind, empty ones too -/
theorem clone_any (w : World) (A : Option Addr) (n c : Nat) (l : List UInt8) (h : Bys w A n l) (hn : n ≤ 100000000000000) :
    Calls Tryd.prog 94 #[.slice A n c] w (RetBys w.heap.size 5 l w) := by
  cases A with
  | some ad => exact clone_walk w ad n c l h hn
  | none =>
    have hl : l = [] := by
      cases l with
      | nil => rfl
      | cons z zs => obtain ⟨ad, e, _⟩ := h.cell 0 (by have := h.len; simp at this; omega); cases e
    subst hl
    have h0 : n = 0 := by have := h.len; simpa using this.symm
    subst h0
    have hq := fun (c : Nat) => Go.Lib.run_eql_slice_nil_nil (P := Tryd.prog) w 0 c Tryd.underlying22
    go_enter Tryd.func94, Tryd.ntmps94
    go_wp2
    go_ret
    exact ⟨none, 0, rfl, World.ownsRow_nil w _ _ _, Below.refl _ _⟩
theorem gen_walk (w : World) (Z : Nat → Prop) (gl g : Nat) (v : Value) (s : LS) (h : PLog w Z gl g v s) : Calls Tryd.prog 28 #[.pointer (some ⟨gl, 0, none⟩)] w (Says (.int .i64 (s.gen : Nat)) w) := by
  obtain ⟨-, c1, -⟩ := h.cell
  clear h
  go_enter Tryd.func28, Tryd.ntmps28
  go_wp2
  go_ret
  exact ⟨rfl, rfl⟩
theorem room_walk (w : World) (Z : Nat → Prop) (gl g : Nat) (v : Value) (s : LS) (h : PLog w Z gl g v s) (n : Nat) (sv tv : Value) (d : DS) (hd : PDsk w g sv tv n d) (hu : usedOf s.recs ≤ halfOf n) :
    Calls Tryd.prog 53 #[.pointer (some ⟨gl, 0, none⟩)] w (fun e w' => e = .returned (.int .i64 ((halfOf n - usedOf s.recs : Nat) : Int)) ∧ w' = w.drew) := by
  obtain ⟨c0, -, c2, -⟩ := h.cell
  have HH := half_walk w.drew g n sv tv d (hd.below (below_drew (Below.refl _ _)))
  have hh : halfOf n ≤ 16384 := by have := hd.le; unfold halfOf; omega
  generalize usedOf s.recs = us at *
  generalize halfOf n = hn at *
  have h1 : IntKind.i64.wrap ((hn : Int) - (us : Int)) = ((hn - us : Nat) : Int) := by rw [IntKind.wrap_i64]; omega
  clear h hd
  go_enter Tryd.func53, Tryd.ntmps53
  go_upto_region 1 with fail
  go_region_held_law (fun w' => w'.cell? ⟨gl, 0, none⟩ = some (.pointer (some ⟨g, 0, none⟩)) ∧ w'.cell? ⟨gl, 2, none⟩ = some (.int .i64 (us : Nat))) (go_keep) (
    ((go_at_call 41; (with_reducible refine HH.mono ?_); rintro e w' ⟨rfl, rfl⟩)))
  go_wp2
  go_ret
  exact ⟨rfl, rfl⟩
theorem rroom_walk (w : World) (Z : Nat → Prop) (gl g : Nat) (v : Value) (s : LS) (h : RLog w Z gl g v s) (n : Nat) (sv tv : Value) (d : DS) (hd : RDsk w g sv tv n d) (hu : usedOf s.recs ≤ halfOf n) :
    Calls Tryd.prog 54 #[.pointer (some ⟨gl, 0, none⟩)] w (fun e w' => e = .returned (.int .i64 ((halfOf n - usedOf s.recs : Nat) : Int)) ∧ w' = w.drew) := by
  obtain ⟨c0, -, -, c2, -⟩ := h.cell
  have HH := rhalf_walk w.drew g n sv tv d (hd.below (below_drew (Below.refl _ _)))
  have hh : halfOf n ≤ 16384 := by have := hd.le; unfold halfOf; omega
  generalize usedOf s.recs = us at *
  generalize halfOf n = hn at *
  have h1 : IntKind.i64.wrap ((hn : Int) - (us : Int)) = ((hn - us : Nat) : Int) := by rw [IntKind.wrap_i64]; omega
  clear h hd
  go_enter Tryd.func54, Tryd.ntmps54
  go_upto_region 1 with fail
  go_region_held_law (fun w' => w'.cell? ⟨gl, 0, none⟩ = some (.pointer (some ⟨g, 0, none⟩)) ∧ w'.cell? ⟨gl, 3, none⟩ = some (.int .i64 (us : Nat))) (go_keep) (
    ((go_at_call 49; (with_reducible refine HH.mono ?_); rintro e w' ⟨rfl, rfl⟩)))
  go_wp2
  go_ret
  exact ⟨rfl, rfl⟩
end Go.Proofs.YtggogenhakdhiaaDoor
end
section
set_option linter.unusedVariables false
set_option linter.unusedSimpArgs false
namespace Go.Proofs.YtggogenhakdhiaaDoor
open Go.RowKit

theorem foot_acted {g : Nat} {sv tv tv' : Value} {B k : Nat} (ht : tv'.ownBlock = tv.ownBlock ∨ ∃ j, tv'.ownBlock = some j ∧ B ≤ j) (h : Foot g sv tv' k) : Foot g sv tv k ∨ B ≤ k := by
  rcases h with h | h | h
  · exact .inl (.inl h)
  · exact .inl (.inr (.inl h))
  · rcases ht with ht | ⟨j, ht, hj⟩
    · exact .inl (.inr (.inr (by rw [← ht]; exact h)))
    · right
      rw [ht] at h
      have := Option.some.inj h
      omega
/-- a disk all of whose blocks have the colour i -/
def In (TD TE sz m : Nat) (w : World) (g n : Nat) (d : DS) (col : Nat → Nat) (i : Nat) : Prop :=
  ∃ s t, Dsk TD TE sz m w g s t n d ∧ ∀ k, Foot g s t k → col k = i
/-- what is new has the colour i -/
def dye (w : World) (col : Nat → Nat) (i k : Nat) : Nat := if k < w.heap.size then col k else i
theorem dye_old {w : World} {col : Nat → Nat} {i k : Nat} (h : k < w.heap.size) : dye w col i k = col k := by unfold dye; rw [if_pos h]
theorem dye_new {w : World} {col : Nat → Nat} {i k : Nat} (h : w.heap.size ≤ k) : dye w col i k = i := by unfold dye; rw [if_neg (by omega)]
section
variable {TD TE sz m g n i : Nat} {w w' : World} {d d' : DS} {col col' : Nat → Nat} {S : Nat → Prop}
theorem In.chg (h : In TD TE sz m w g n d col i) (hc : Chg S w w') (hS : ∀ k, S k → col k ≠ i) : In TD TE sz m w' g n d col i := by
  obtain ⟨s, t, hd, hf⟩ := h
  exact ⟨s, t, hd.chg hc (fun k hk hs => hS k hs (hf k hk)), hf⟩
theorem In.recol (h : In TD TE sz m w g n d col i) (hcol : ∀ k, k < w.heap.size → col' k = col k) : In TD TE sz m w g n d col' i := by
  obtain ⟨s, t, hd, hf⟩ := h
  exact ⟨s, t, hd, fun k hk => (hcol k (hd.lt k hk)).trans (hf k hk)⟩
theorem In.acted {s t t' : Value} (hd : Dsk TD TE sz m w g s t n d) (hf : ∀ k, Foot g s t k → col k = i) (hd' : Dsk TD TE sz m w' g s t' n d')
    (ht : t'.ownBlock = t.ownBlock ∨ ∃ k, t'.ownBlock = some k ∧ w.heap.size ≤ k) : In TD TE sz m w' g n d' (dye w col i) i :=
  ⟨s, t', hd', fun k hk => by
    rcases foot_acted ht hk with h | h
    · rw [dye_old (hd.lt k h)]; exact hf k h
    · exact dye_new h⟩
theorem In.new {s t : Value} (hd : Dsk TD TE sz m w' g s t n d) (hF : ∀ k, Foot g s t k → w.heap.size ≤ k) : In TD TE sz m w' g n d (dye w col i) i :=
  ⟨s, t, hd, fun k hk => dye_new (hF k hk)⟩
theorem In.below (h : In TD TE sz m w g n d col i) (hb : Below w.heap.size w w') : In TD TE sz m w' g n d col i := h.chg (S := fun _ => False) (Chg.of_below hb) (fun _ hk => hk.elim)
end
/-- the program's disk p and the document's r; the blocks below B are none of theirs -/
structure Two (B n : Nat) (w : World) (col : Nat → Nat) (p r : Nat) (d e : DS) : Prop where
  P : In 82 84 64 n w p n d col 1
  R : In 65 5 1 (64 * n) w r n e col 2
  lo : ∀ k, k < B → col k = 0
  hB : B ≤ w.heap.size
section
variable {B n : Nat} {w w' : World} {col col' : Nat → Nat} {p r : Nat} {d e : DS} {S : Nat → Prop}
theorem Two.chg (h : Two B n w col p r d e) (hc : Chg S w w') (hS : ∀ k, S k → col k ≠ 1 ∧ col k ≠ 2) : Two B n w' col p r d e :=
  ⟨h.P.chg hc (fun k hk => (hS k hk).1), h.R.chg hc (fun k hk => (hS k hk).2), h.lo, Nat.le_trans h.hB hc.size⟩
theorem Two.below (h : Two B n w col p r d e) (hb : Below w.heap.size w w') : Two B n w' col p r d e := h.chg (S := fun _ => False) (Chg.of_below hb) (fun k hk => hk.elim)
theorem Two.recol (h : Two B n w col p r d e) (hc : ∀ k, k < w.heap.size → col' k = col k) : Two B n w col' p r d e :=
  ⟨h.P.recol hc, h.R.recol hc, fun k hk => (hc k (Nat.lt_of_lt_of_le hk h.hB)).trans (h.lo k hk), h.hB⟩
theorem Two.actP (h : Two B n w col p r d e) {s t t' : Value} {d' : DS} (hd : PDsk w p s t n d) (hf : ∀ j, Foot p s t j → col j = 1)
    (hd' : PDsk w' p s t' n d') (hc : Chg (Foot p s t) w w') (ht : t'.ownBlock = t.ownBlock ∨ ∃ k, t'.ownBlock = some k ∧ w.heap.size ≤ k) : Two B n w' (dye w col 1) p r d' e :=
  ⟨In.acted hd hf hd' ht, (h.R.recol (fun j hj => dye_old hj)).chg hc (fun j hj => by rw [dye_old (hd.lt j hj), hf j hj]; omega), fun j hj => (dye_old (Nat.lt_of_lt_of_le hj h.hB)).trans (h.lo j hj), Nat.le_trans h.hB hc.size⟩
theorem Two.actR (h : Two B n w col p r d e) {s t t' : Value} {e' : DS} (hd : RDsk w r s t n e) (hf : ∀ j, Foot r s t j → col j = 2)
    (hd' : RDsk w' r s t' n e') (hc : Chg (Foot r s t) w w') (ht : t'.ownBlock = t.ownBlock ∨ ∃ k, t'.ownBlock = some k ∧ w.heap.size ≤ k) : Two B n w' (dye w col 2) p r d e' :=
  ⟨(h.P.recol (fun j hj => dye_old hj)).chg hc (fun j hj => by rw [dye_old (hd.lt j hj), hf j hj]; omega), In.acted hd hf hd' ht, fun j hj => (dye_old (Nat.lt_of_lt_of_le hj h.hB)).trans (h.lo j hj), Nat.le_trans h.hB hc.size⟩
/-- what a disk's act turns lies above B -/
theorem Two.low (h : Two B n w col p r d e) {s t : Value} {g i : Nat} (hf : ∀ j, Foot g s t j → col j = i) (hi : i ≠ 0) (hc : Chg (Foot g s t) w w') : Below B w w' :=
  hc.below h.hB (fun k hk hF => hi ((hf k hF).symm.trans (h.lo k hk)))
end
end Go.Proofs.YtggogenhakdhiaaDoor
end
section
set_option linter.unusedVariables false
set_option linter.unusedSimpArgs false
namespace Go.Proofs.YtggogenhakdhiaaDoor
open Go.RowKit

set_option maxHeartbeats 1000000 in
theorem rwrite_ok (w : World) (g n : Nat) (sv tv : Value) (d : DS) (k : Nat) (A : Option Addr) (c : Nat) (b : List UInt8) (h : RDsk w g sv tv n d) (hk : k < n) (hb : Bys w A 64 b) (hd : d.down = false) (ha : d.armed ≠ 0) (ht : d.trail.length ≤ 1000000) :
    Calls Tryd.prog 12 #[.pointer (some ⟨g, 0, none⟩), .int .i64 k, .slice A 64 c] w (Acts 65 5 1 (64 * n) (.int .i64 0) g n sv tv (writeOf n d k b).1 w) := by
  have hblen := hb.len
  obtain ⟨D, hD⟩ : ∃ D, D = (writeOf n d k b).1 := ⟨_, rfl⟩
  rw [← hD]
  rw [writeOf_n n d k b hk hb.len hd ha] at hD
  replace hD := Go.Lib.hid hD
  have c0 := h.c0
  have c1 := h.c1
  have c2 := h.c2
  have c3 := h.c3
  rw [hd] at c3
  have f1 := h.fz 1
  have f2 := h.fz 2
  have f3 := h.fz 3
  have hle := h.le
  have ha' : (d.armed == 0) = false := by simpa using ha
  have hpos1 := h.pos
  have HS := rsectors_walk w g n sv tv d h
  obtain ⟨s, cs, hv, _, hs, hc1, hc2, _⟩ := own_some h.sec (by omega)
  subst hv
  obtain ⟨ad, rfl, _⟩ := hb.cell 0 (by omega)
  go_enter Tryd.func12, Tryd.ntmps12
  go_upto_region 9 with (go_at_call 38; go_must (refine HS.mono ?_); rintro e w' ⟨rfl, rfl⟩)
  have h3 : RDsk w g (.slice (some ⟨s, 0, none⟩) (64 * n) cs) tv n { img := d.img, trail := d.trail, armed := d.armed, down := false } := by
    rw [← hd]; exact h
  have hC3 := Chg.refl (Foot g (.slice (some ⟨s, 0, none⟩) (64 * n) cs) tv) w
  have hb3 := hb
  have hsl : k * 64 ≤ 64 * n := by omega
  have hne : ¬ cs = k * 64 := by omega
  clear c0 c1 c2 c3 f1 f2 f3 h hb HS
  obtain ⟨w3, hw3⟩ : ∃ w3, w3 = w := ⟨_, rfl⟩
  rw [← hw3] at h3 hb3
  have hC3 : Chg (Foot g (.slice (some ⟨s, 0, none⟩) (64 * n) cs) tv) w w3 := by rw [hw3]; exact hC3
  have hgo : ∀ {Q : World → Prop}, Q w3 → Q w := fun h => by rw [← hw3]; exact h
  replace hw3 := Go.Lib.hid hw3
  refine hgo (Q := fun w0 => Code.wp _ _ _ _ w0) ?_
  have c0 := h3.c0
  have hp := h3.pos
  obtain ⟨cur, hcur, hcl, hset⟩ := h3.row (by omega) (by decide) (by decide) (by omega)
  have h4 := hset k b hk hblen
  rw [Nat.mul_comm 64 k] at h4
  have hbl : (bv b).length = 64 := by rw [bv_length, hblen]
  replace hblen := Go.Lib.hid hblen
  go_upto_region 10 with ((with_reducible show wpList _ _ _ (Oper.mk (some 38) _ _ _ _ _ :: _) _ _); refine wpList_copy_own (o := ⟨some 38, _, _, _, _, _⟩) rfl (.tmp 36) (.tmp 37) 22 22 rfl 5 Tryd.underlying22 infoU8 s (k * 64) (64 * n - k * 64) (cs - k * 64) ad 64 c rfl rfl cur.toArray 5 hcur (bv b) (by rw [hbl]; exact (Nat.min_eq_left (by omega)).symm) hb3.news (by rw [hbl]; simp; omega) (bv_one b) ?_)
  have hC4 := chg_setRow hC3 (s := s) (.inr (.inl rfl)) (cur.take (k * 64) ++ (bv b ++ cur.drop (k * 64 + (bv b).length))).toArray
  clear hcur hset hb3 hcl c0 h3 hC3
  generalize w3.setRow s (cur.take (k * 64) ++ (bv b ++ cur.drop (k * 64 + (bv b).length))).toArray = w4 at h4 hC4
  have c1 := h4.c1
  have hgl := h4.lt g (.inl rfl)
  have htr := h4.tr
  obtain ⟨i0, hi0, hz0, hz1, hz2⟩ := info_parts info_int
  go_upto_region 11 with ((at_builtin; go_must (refine wpList_append_own_at (o := ⟨some 46, _, _, _, _, _⟩) _ rfl (.tmp 43) (.tmp 45) 63 rfl 0 3 i0 (.int .i64 0) 1 8 Tryd.underlying63 hi0 hz0 hz1 hz2 rfl (by omega) tv d.trail.length (iv d.trail) rfl (htr.alloc _) ⟨w4.heap.size, 0, none⟩ 1 1 [.int .i64 (k : Int)] rfl rfl (World.news_of_block (cs := #[.int .i64 (k : Int)]) (t := 3) (fr := (0, 0)) (heap_alloc_new w4 _)) (by intro u hu; simp at hu; subst hu; rfl) (by simp only [maxLen]; omega) (by omega) (Nat.zero_le _) ?_); go_must (intro v5 w5 hown5 hg5 _ hat5; obtain ⟨A5, c5, e5⟩ := own_slice hown5; subst e5; have hg6 := World.grownBy.trans (World.grownBy_alloc w4 _ _) hg5; have hb5 := h4.blk5 (by decide) hg6; have x1 := cell_of_row w5 g 1 _ _ _ hb5; have x2 := cell_of_row w5 g 2 _ _ _ hb5; have y1 := frozen_of_row w5 g 1 _ _ hb5; have y2 := frozen_of_row w5 g 2 _ _ hb5; simp at x1 x2)))
  have h6 := h4.trl (z := (k : Int)) (by decide) (by decide) (by decide) hg6 hown5
  have hC6 : Chg (Foot g (.slice (some ⟨s, 0, none⟩) (64 * n) cs) tv) w (w5.setCell ⟨g, 1, none⟩ (.slice A5 (d.trail.length + 1) c5)) := (hC4.grown hg6 (fun j hj _ => .inr (.inr hj))).setCell (.inl rfl) _
  have hnew : (Value.slice A5 (d.trail.length + 1) c5).ownBlock = tv.ownBlock ∨ ∃ j, (Value.slice A5 (d.trail.length + 1) c5).ownBlock = some j ∧ w.heap.size ≤ j := by
    rcases hat5 with h0 | h0
    · exact .inl h0
    · exact .inr ⟨_, h0, Nat.le_trans hC4.size (by simp)⟩
  clear x1 x2 y1 y2 hb5 hg5 hg6 hown5 hat5 c1 htr h4 hC4 hgl
  generalize (Value.slice A5 (d.trail.length + 1) c5) = tv5 at h6 hC6 hnew
  generalize w5.setCell ⟨g, 1, none⟩ tv5 = w6 at h6 hC6
  have c2 := h6.c2
  have f2 := h6.fz 2
  have hlo : -1 ≤ d.armed := h6.lo
  have hhi : d.armed ≤ 9223372036854775807 := h6.hi
  simp only at c2 f2
  by_cases hpos : 0 < d.armed
  · go_wp2
    go_ret
    refine ⟨rfl, tv5, ?_, hC6.setCell (.inl rfl) _, hnew⟩
    rw [hD.out, if_pos hpos, Nat.mul_comm 64 k]
    exact h6.set2 (by decide) (by decide) (d.armed - 1) (by omega) (by omega)
  · go_wp2
    go_ret
    refine ⟨rfl, tv5, ?_, hC6, hnew⟩
    rw [hD.out, if_neg (by omega), Nat.mul_comm 64 k]
    exact h6

theorem rwrite_out (w : World) (g n : Nat) (sv tv : Value) (d : DS) (z : Int) (A : Option Addr) (m c : Nat) (b : List UInt8) (h : RDsk w g sv tv n d) (hz : ¬ (0 ≤ z ∧ z < n)) :
    Calls Tryd.prog 12 #[.pointer (some ⟨g, 0, none⟩), .int .i64 z, .slice A m c] w (Acts 65 5 1 (64 * n) (.int .i64 2) g n sv tv (writeOf n d z b).1 w) := by
  rw [writeOf_out n d z b hz]
  have c0 := h.c0
  have HS := rsectors_walk w g n sv tv d h
  obtain ⟨As, cs, hv⟩ := h.sv
  subst hv
  by_cases hlo : z < 0
  · go_enter Tryd.func12, Tryd.ntmps12
    go_wp2_with (go_at_call 38; go_must (refine HS.mono ?_); rintro e w' ⟨rfl, rfl⟩)
    go_ret
    exact ⟨rfl, tv, h, Chg.refl _ _, .inl rfl⟩
  · have hlo' : 0 ≤ z := by omega
    have hhi : (n : Int) ≤ z := by omega
    go_enter Tryd.func12, Tryd.ntmps12
    go_wp2_with (go_at_call 38; go_must (refine HS.mono ?_); rintro e w' ⟨rfl, rfl⟩)
    go_ret
    exact ⟨rfl, tv, h, Chg.refl _ _, .inl rfl⟩
theorem rwrite_long (w : World) (g n : Nat) (sv tv : Value) (d : DS) (k : Nat) (A : Option Addr) (m c : Nat) (b : List UInt8) (h : RDsk w g sv tv n d) (hk : k < n) (hb : b.length = m) (hm : m ≠ 64) (hm2 : m ≤ 9223372036854775807) :
    Calls Tryd.prog 12 #[.pointer (some ⟨g, 0, none⟩), .int .i64 k, .slice A m c] w (Acts 65 5 1 (64 * n) (.int .i64 9) g n sv tv (writeOf n d k b).1 w) := by
  rw [writeOf_long n d k b (by omega) (by omega)]
  have c0 := h.c0
  have HS := rsectors_walk w g n sv tv d h
  obtain ⟨As, cs, hv⟩ := h.sv
  subst hv
  have hm3 : ((m : Int) != 64) = true := by simp; omega
  clear hb
  go_enter Tryd.func12, Tryd.ntmps12
  go_wp2_with (go_at_call 38; go_must (refine HS.mono ?_); rintro e w' ⟨rfl, rfl⟩)
  go_ret
  exact ⟨rfl, tv, h, Chg.refl _ _, .inl rfl⟩
theorem rwrite_down (w : World) (g n : Nat) (sv tv : Value) (d : DS) (k : Nat) (A : Option Addr) (c : Nat) (b : List UInt8) (h : RDsk w g sv tv n d) (hk : k < n) (hb : b.length = 64) (hd : d.down = true ∨ d.armed = 0) :
    Calls Tryd.prog 12 #[.pointer (some ⟨g, 0, none⟩), .int .i64 k, .slice A 64 c] w (Acts 65 5 1 (64 * n) (.int .i64 50) g n sv tv (writeOf n d k b).1 w) := by
  rw [writeOf_down n d k b (by omega) hb hd]
  have c0 := h.c0
  have c2 := h.c2
  have c3 := h.c3
  have f3 := h.fz 3
  have h3 := h.set3 (by decide) (by decide) true
  have HS := rsectors_walk w g n sv tv d h
  obtain ⟨As, cs, hv⟩ := h.sv
  subst hv
  clear hb
  by_cases ha : d.armed = 0
  · rw [ha] at c2
    clear hd ha
    go_enter Tryd.func12, Tryd.ntmps12
    go_wp2_with (go_at_call 38; go_must (refine HS.mono ?_); rintro e w' ⟨rfl, rfl⟩)
    go_ret
    exact ⟨rfl, tv, h3, (Chg.refl _ _).setCell (.inl rfl) _, .inl rfl⟩
  · have hdn : d.down = true := by rcases hd with hd | hd; exact hd; exact absurd hd ha
    have h4 : RDsk w g (.slice As (64 * n) cs) tv n { img := d.img, trail := d.trail, armed := d.armed, down := true } := by
      rw [← hdn]; exact h
    rw [hdn] at c3
    have ha' : (d.armed == 0) = false := by simpa using ha
    clear hd hdn ha
    go_enter Tryd.func12, Tryd.ntmps12
    go_wp2_with (go_at_call 38; go_must (refine HS.mono ?_); rintro e w' ⟨rfl, rfl⟩)
    go_ret
    exact ⟨rfl, tv, h4, Chg.refl _ _, .inl rfl⟩
/-- ████ every Write ████ -/
theorem rwrite_walk (w : World) (g n : Nat) (sv tv : Value) (d : DS) (z : Int) (A : Option Addr) (m c : Nat) (b : List UInt8) (h : RDsk w g sv tv n d) (hb : Bys w A m b) (ht : d.trail.length ≤ 1000000) :
    Calls Tryd.prog 12 #[.pointer (some ⟨g, 0, none⟩), .int .i64 z, .slice A m c] w (Acts 65 5 1 (64 * n) (.int .i64 (writeOf n d z b).2) g n sv tv (writeOf n d z b).1 w) := by
  by_cases hz : 0 ≤ z ∧ z < n
  · obtain ⟨k, rfl⟩ := Int.eq_ofNat_of_zero_le hz.1
    by_cases hm : m = 64
    · subst hm
      by_cases hd : d.down = true ∨ d.armed = 0
      · have := rwrite_down w g n sv tv d k A c b h (by omega) hb.len hd
        rwa [show (writeOf n d (k : Int) b).2 = 50 by rw [writeOf_down n d k b hz hb.len hd]]
      · have h1 : d.down = false := by
          cases hq : d.down
          · rfl
          · exact absurd (.inl hq) hd
        have h2 : d.armed ≠ 0 := fun e => hd (.inr e)
        have := rwrite_ok w g n sv tv d k A c b h (by omega) hb h1 h2 ht
        rwa [show (writeOf n d (k : Int) b).2 = 0 by rw [writeOf_n n d k b (by omega) hb.len h1 h2]]
    · have := rwrite_long w g n sv tv d k A m c b h (by omega) hb.len hm hb.max
      rwa [show (writeOf n d (k : Int) b).2 = 9 by rw [writeOf_long n d k b hz (by rw [hb.len]; exact hm)]]
  · have := rwrite_out w g n sv tv d z A m c b h hz
    rwa [show (writeOf n d z b).2 = 2 by rw [writeOf_out n d z b hz]]
end Go.Proofs.YtggogenhakdhiaaDoor
end
section
set_option linter.unusedVariables false
set_option linter.unusedSimpArgs false
attribute [local go_sem ↓] Go.wp_at_zero Go.wp_at_succ
namespace Go.Proofs.YtggogenhakdhiaaDoor
open Go.RowKit

/-- bytes that a change does not touch -/
theorem Bys.chg {w w' : World} {A : Option Addr} {n : Nat} {l : List UInt8} {S : Nat → Prop} (h : Bys w A n l) (hc : Chg S w w') (hS : ∀ ad, A = some ad → ¬ S ad.block) : Bys w' A n l :=
  ⟨h.len, h.max, fun i hi => by
    obtain ⟨ad, e, hv⟩ := h.cell i hi
    have hb := World.block_lt_of_cell? w _ hv
    rw [add_block] at hb
    exact ⟨ad, e, (World.cell?_of_block (by rw [add_block]; exact hc.block ad.block hb (hS ad e))).trans hv⟩⟩
/-- the program's log gl on its disk ga: blocks of the colours 3 and 1 -/
structure PM (w : World) (col : Nat → Nat) (gl ga n : Nat) (v : Value) (d : DS) (s : LS) : Prop where
  D : In 82 84 64 n w ga n d col 1
  L : PLog w (fun k => col k = 3) gl ga v s
  cg : col gl = 3
/-- the document's log gm on its disk gr: blocks of the colours 4 and 2 -/
structure RM (w : World) (col : Nat → Nat) (gm gr n : Nat) (v : Value) (d : DS) (s : LS) : Prop where
  D : In 65 5 1 (64 * n) w gr n d col 2
  L : RLog w (fun k => col k = 4) gm gr v s
  cg : col gm = 4
/-- a step of one side: blocks of two colours alone are turned, what was keeps its colour -/
structure Step (i j : Nat) (col : Nat → Nat) (w w' : World) (col' : Nat → Nat) : Prop where
  chg : Chg (fun k => col k = i ∨ col k = j) w w'
  old : ∀ k, k < w.heap.size → col' k = col k
section
variable {w w' w'' : World} {col col' col'' : Nat → Nat} {gl gm ga gr n i j : Nat} {v : Value} {d d' : DS} {s s' : LS} {S : Nat → Prop}
theorem Step.refl (i j : Nat) (col : Nat → Nat) (w : World) : Step i j col w w col := ⟨Chg.refl _ _, fun _ _ => rfl⟩
theorem Step.trans (h : Step i j col w w' col') (k : Step i j col' w' w'' col'') : Step i j col w w'' col'' :=
  ⟨h.chg.trans k.chg (fun x hx hl => by rw [h.old x hl] at hx; exact hx), fun x hx => (k.old x (Nat.lt_of_lt_of_le hx h.chg.size)).trans (h.old x hx)⟩
theorem Step.of_below (hb : Below w.heap.size w w') (hc : ∀ k, k < w.heap.size → col' k = col k) : Step i j col w w' col' := ⟨Chg.of_below hb, hc⟩
theorem Step.below {B : Nat} (h : Step i j col w w' col') (hB : B ≤ w.heap.size) (hlo : ∀ k, k < B → col k = 0) (hi : i ≠ 0) (hj : j ≠ 0) : Below B w w' :=
  h.chg.below hB (fun k hk hS => by rcases hS with e | e <;> rw [hlo k hk] at e <;> omega)
theorem PM.frame (h : PM w col gl ga n v d s) (hc : Chg S w w') (hS : ∀ k, S k → col k ≠ 1 ∧ col k ≠ 3) (ho : ∀ k, k < w.heap.size → col' k = col k) : PM w' col' gl ga n v d s where
  D := by
    obtain ⟨a, b, hd, hf⟩ := h.D
    exact ⟨a, b, hd.chg hc (fun k hk hs => (hS k hs).1 (hf k hk)), fun k hk => (ho k (hd.lt k hk)).trans (hf k hk)⟩
  L := ⟨(hc.block gl (Array.getElem?_eq_some_iff.1 h.L.blk).1 (fun hs => (hS gl hs).2 h.cg)).trans h.L.blk,
    (h.L.recs.mono (fun k hk hz => (ho k hk).trans hz)).same (fun k hk hz => hc.block k hk (fun hs => (hS k hs).2 ((ho k hk).symm.trans hz)))⟩
  cg := (ho gl (Array.getElem?_eq_some_iff.1 h.L.blk).1).trans h.cg
theorem RM.frame (h : RM w col gm gr n v d s) (hc : Chg S w w') (hS : ∀ k, S k → col k ≠ 2 ∧ col k ≠ 4) (ho : ∀ k, k < w.heap.size → col' k = col k) : RM w' col' gm gr n v d s where
  D := by
    obtain ⟨a, b, hd, hf⟩ := h.D
    exact ⟨a, b, hd.chg hc (fun k hk hs => (hS k hs).1 (hf k hk)), fun k hk => (ho k (hd.lt k hk)).trans (hf k hk)⟩
  L := ⟨(hc.block gm (Array.getElem?_eq_some_iff.1 h.L.blk).1 (fun hs => (hS gm hs).2 h.cg)).trans h.L.blk,
    (h.L.recs.mono (fun k hk hz => (ho k hk).trans hz)).same (fun k hk hz => hc.block k hk (fun hs => (hS k hs).2 ((ho k hk).symm.trans hz)))⟩
  cg := (ho gm (Array.getElem?_eq_some_iff.1 h.L.blk).1).trans h.cg
theorem PM.below (h : PM w col gl ga n v d s) (hb : Below w.heap.size w w') (ho : ∀ k, k < w.heap.size → col' k = col k := by intros; rfl) : PM w' col' gl ga n v d s := h.frame (S := fun _ => False) (Chg.of_below hb) (fun k hk => hk.elim) ho
theorem RM.below (h : RM w col gm gr n v d s) (hb : Below w.heap.size w w') (ho : ∀ k, k < w.heap.size → col' k = col k := by intros; rfl) : RM w' col' gm gr n v d s := h.frame (S := fun _ => False) (Chg.of_below hb) (fun k hk => hk.elim) ho
theorem PM.step (h : PM w col gl ga n v d s) (k : Step 2 4 col w w' col') : PM w' col' gl ga n v d s := h.frame k.chg (fun x hx => by rcases hx with e | e <;> omega) k.old
theorem RM.step (h : RM w col gm gr n v d s) (k : Step 1 3 col w w' col') : RM w' col' gm gr n v d s := h.frame k.chg (fun x hx => by rcases hx with e | e <;> omega) k.old
/-- the disk has acted -/
theorem PM.acted (h : PM w col gl ga n v d s) {sv t t' : Value} (hd : PDsk w ga sv t n d) (hf : ∀ k, Foot ga sv t k → col k = 1) (hd' : PDsk w' ga sv t' n d') (hc : Chg (Foot ga sv t) w w') (ht : t'.ownBlock = t.ownBlock ∨ ∃ k, t'.ownBlock = some k ∧ w.heap.size ≤ k) :
    PM w' (dye w col 1) gl ga n v d' s ∧ Step 1 3 col w w' (dye w col 1) := by
  refine ⟨⟨In.acted hd hf hd' ht, ?_, ?_⟩, hc.mono (fun k _ hk => .inl (hf k hk)), fun k hk => dye_old hk⟩
  · exact ⟨(hc.block gl (Array.getElem?_eq_some_iff.1 h.L.blk).1 (fun hs => by have := hf gl hs; have := h.cg; omega)).trans h.L.blk,
      (h.L.recs.mono (Z' := fun k => dye w col 1 k = 3) (fun k hk hz => (dye_old hk).trans hz)).same (fun k hk hz => hc.block k hk (fun hs => by rw [dye_old hk] at hz; have := hf k hs; omega))⟩
  · exact (dye_old (Array.getElem?_eq_some_iff.1 h.L.blk).1).trans h.cg
theorem RM.acted (h : RM w col gm gr n v d s) {sv t t' : Value} (hd : RDsk w gr sv t n d) (hf : ∀ k, Foot gr sv t k → col k = 2) (hd' : RDsk w' gr sv t' n d') (hc : Chg (Foot gr sv t) w w') (ht : t'.ownBlock = t.ownBlock ∨ ∃ k, t'.ownBlock = some k ∧ w.heap.size ≤ k) :
    RM w' (dye w col 2) gm gr n v d' s ∧ Step 2 4 col w w' (dye w col 2) := by
  refine ⟨⟨In.acted hd hf hd' ht, ?_, ?_⟩, hc.mono (fun k _ hk => .inl (hf k hk)), fun k hk => dye_old hk⟩
  · exact ⟨(hc.block gm (Array.getElem?_eq_some_iff.1 h.L.blk).1 (fun hs => by have := hf gm hs; have := h.cg; omega)).trans h.L.blk,
      (h.L.recs.mono (Z' := fun k => dye w col 2 k = 4) (fun k hk hz => (dye_old hk).trans hz)).same (fun k hk hz => hc.block k hk (fun hs => by rw [dye_old hk] at hz; have := hf k hs; omega))⟩
  · exact (dye_old (Array.getElem?_eq_some_iff.1 h.L.blk).1).trans h.cg
/-- the mark that the log is down -/
theorem PM.mark (h : PM w col gl ga n v d s) (b : Bool) : PM (w.setCell ⟨gl, 4, none⟩ (.bool b)) col gl ga n v d { s with down := b } ∧ Step 1 3 col w (w.setCell ⟨gl, 4, none⟩ (.bool b)) col := by
  have hC : Chg (fun k => k = gl) w (w.setCell ⟨gl, 4, none⟩ (.bool b)) := (Chg.refl (fun k => k = gl) w).setCell (p := ⟨gl, 4, none⟩) rfl _
  refine ⟨⟨h.D.chg hC (fun k hk => by rw [hk, h.cg]; omega), ⟨?_, ?_⟩, h.cg⟩, hC.mono (fun k _ hk => .inr (by rw [hk]; exact h.cg)), fun _ _ => rfl⟩
  · exact Go.Proofs.YtggogenhakdhiaaDoorW.PrintWords.blk_set h.L.blk 4 _
  · exact h.L.recs.set h.L.blk (by decide) (by decide) 4 _
theorem RM.mark (h : RM w col gm gr n v d s) (b : Bool) : RM (w.setCell ⟨gm, 4, none⟩ (.bool b)) col gm gr n v d { s with down := b } ∧ Step 2 4 col w (w.setCell ⟨gm, 4, none⟩ (.bool b)) col := by
  have hC : Chg (fun k => k = gm) w (w.setCell ⟨gm, 4, none⟩ (.bool b)) := (Chg.refl (fun k => k = gm) w).setCell (p := ⟨gm, 4, none⟩) rfl _
  refine ⟨⟨h.D.chg hC (fun k hk => by rw [hk, h.cg]; omega), ⟨?_, ?_⟩, h.cg⟩, hC.mono (fun k _ hk => .inr (by rw [hk]; exact h.cg)), fun _ _ => rfl⟩
  · exact Go.Proofs.YtggogenhakdhiaaDoorW.PrintWords.blk_set h.L.blk 4 _
  · exact h.L.recs.set h.L.blk (by decide) (by decide) 4 _
end
/-- an act of the program's side -/
def PActs (r : Value) (col : Nat → Nat) (gl ga n : Nat) (d : DS) (s : LS) (w : World) (e : Ending) (w' : World) : Prop :=
  e = .returned r ∧ ∃ col' v, PM w' col' gl ga n v d s ∧ Step 1 3 col w w' col'
/-- an act of the document's side -/
def RActs (r : Value) (col : Nat → Nat) (gm gr n : Nat) (d : DS) (s : LS) (w : World) (e : Ending) (w' : World) : Prop :=
  e = .returned r ∧ ∃ col' v, RM w' col' gm gr n v d s ∧ Step 2 4 col w w' col'
set_option maxRecDepth 20000 in
theorem lwrite_walk (w : World) (col : Nat → Nat) (gl ga n : Nat) (v : Value) (d : DS) (s : LS) (h : PM w col gl ga n v d s) (z : Int) (A : Option Addr) (m c : Nat) (b : List UInt8) (hb : Bys w A m b) (ht : d.trail.length ≤ 1000000) :
    Calls Tryd.prog 63 #[.pointer (some ⟨gl, 0, none⟩), .int .i64 z, .slice A m c] w
      (fun e w' => e = .returned (.int .i64 (writeOf n d z b).2) ∧ ∃ col', PM w' col' gl ga n v (writeOf n d z b).1 { s with down := s.down || decide ((writeOf n d z b).2 ≠ 0) } ∧ Step 1 3 col w w' col') := by
  obtain ⟨sv, tv, hD, hf⟩ := h.D
  have HW := write_walk w ga n sv tv d z A m c b hD hb ht
  obtain ⟨c0, -, -, -, c4⟩ := h.L.cell
  have hAct : ∀ {w3 : World} {t3 : Value}, PDsk w3 ga sv t3 n (writeOf n d z b).1 → Chg (Foot ga sv tv) w w3 → (t3.ownBlock = tv.ownBlock ∨ ∃ k, t3.ownBlock = some k ∧ w.heap.size ≤ k) → PM w3 (dye w col 1) gl ga n v (writeOf n d z b).1 s ∧ Step 1 3 col w w3 (dye w col 1) := fun h1 h2 h3 => h.acted hD hf h1 h2 h3
  generalize (writeOf n d z b).1 = d2 at *
  generalize (writeOf n d z b).2 = r at *
  obtain ⟨sg, sr, sd⟩ := s
  simp only at c4
  clear h hD hf
  cases sd with
  | true =>
    go_enter Tryd.func63, Tryd.ntmps63
    go_wp2_with (go_at_call 11; go_must (refine HW.mono ?_; rintro e w3 ⟨rfl, t3, hd3, hC3, ht3⟩; obtain ⟨hP3, hS3⟩ := hAct hd3 hC3 ht3; obtain ⟨-, -, -, -, e4⟩ := hP3.L.cell; have f4 := frozen_of_row w3 gl 4 _ _ hP3.L.blk))
    go_ret
    obtain ⟨k1, k2⟩ := hP3.mark true
    exact ⟨rfl, _, by rw [Bool.true_or]; exact k1, hS3.trans k2⟩
  | false =>
    by_cases hr : r = 0
    · subst hr
      go_enter Tryd.func63, Tryd.ntmps63
      go_wp2_with (go_at_call 11; go_must (refine HW.mono ?_; rintro e w3 ⟨rfl, t3, hd3, hC3, ht3⟩; obtain ⟨hP3, hS3⟩ := hAct hd3 hC3 ht3; obtain ⟨-, -, -, -, e4⟩ := hP3.L.cell; have f4 := frozen_of_row w3 gl 4 _ _ hP3.L.blk))
      go_ret
      obtain ⟨k1, k2⟩ := hP3.mark false
      exact ⟨rfl, _, k1, hS3.trans k2⟩
    · have hrb : (r != 0) = true := by rw [bne_iff_ne]; exact hr
      have hrc : (r == 0) = false := by rw [beq_eq_false_iff_ne]; exact hr
      go_enter Tryd.func63, Tryd.ntmps63
      go_wp2_with (go_at_call 11; go_must (refine HW.mono ?_; rintro e w3 ⟨rfl, t3, hd3, hC3, ht3⟩; obtain ⟨hP3, hS3⟩ := hAct hd3 hC3 ht3; obtain ⟨-, -, -, -, e4⟩ := hP3.L.cell; have f4 := frozen_of_row w3 gl 4 _ _ hP3.L.blk))
      go_ret
      obtain ⟨k1, k2⟩ := hP3.mark true
      exact ⟨rfl, _, by rw [Bool.false_or, decide_eq_true hr]; exact k1, hS3.trans k2⟩
end Go.Proofs.YtggogenhakdhiaaDoor
end
section
set_option linter.unusedVariables false
set_option linter.unusedSimpArgs false
attribute [local go_sem ↓] Go.wp_at_zero Go.wp_at_succ
namespace Go.Proofs.YtggogenhakdhiaaDoor
open Go.RowKit

/-- a piece of bytes, wherever they lie -/
theorem Bys.piece {w : World} {ad : Addr} {n : Nat} {l : List UInt8} (h : Bys w (some ad) n l) (k m : Nat) (hm : k + m ≤ n) : Bys w (some (ad.add k)) m ((l.drop k).take m) :=
  ⟨by rw [List.length_take, List.length_drop, h.len]; omega, by have := h.max; omega, fun i hi => ⟨_, rfl, by
    obtain ⟨ad', e, hc⟩ := h.cell (k + i) (by omega)
    cases e
    rw [add_of_add, hc, List.getD_eq_getElem?_getD, List.getD_eq_getElem?_getD, List.getElem?_take, if_pos hi, List.getElem?_drop]⟩⟩
/-- the law answers so, and turns nothing that was -/
def Tells (B : Nat) (v : Value) (w : World) (e : Ending) (w' : World) : Prop := e = .returned v ∧ Below B w w'
theorem num_walk (w : World) (z : Int) (h0 : -9223372036854775808 ≤ z) (h1 : z ≤ 9223372036854775807) : Calls Tryd.prog 10 #[.int .i64 z] w (Says (.int .i64 z) w) := by
  have hw : IntKind.i64.wrap z = z := by rw [IntKind.wrap_i64]; omega
  go_enter Tryd.func10, Tryd.ntmps10
  go_wp2
  go_ret
  exact ⟨rfl, rfl⟩
/-- what the scan finds fits -/
theorem scan_fits {img : List UInt8} {n en : Nat} (hl : img.length = 64 * n) (he : en ≤ n) : ∀ (k at_ : Nat) (l : List (Int × List UInt8)), en - at_ ≤ k → scan img en at_ = some l → usedOf l ≤ en - at_ ∧ l.length ≤ en - at_ ∧ ∀ r ∈ l, r.2.length ≤ 262144 ∧ 1 ≤ r.1 ∧ r.1 ≤ 255 := by
  intro k
  induction k with
  | zero =>
    intro at_ l hk h
    rw [scan_end (by omega)] at h
    cases h
    exact ⟨Nat.zero_le _, Nat.zero_le _, fun r hr => by simp at hr⟩
  | succ k ih =>
    intro at_ l hk h
    by_cases h1 : en ≤ at_
    · rw [scan_end h1] at h
      cases h
      exact ⟨Nat.zero_le _, Nat.zero_le _, fun r hr => by simp at hr⟩
    · by_cases h2 : secOf img at_ = zb64
      · rw [scan_zero h2] at h
        cases h
        exact ⟨Nat.zero_le _, Nat.zero_le _, fun r hr => by simp at hr⟩
      · cases h3 : readP img at_ en with
        | none => rw [scan_none h1 h2 h3] at h; cases h
        | some r =>
          rw [scan_some h1 h2 h3] at h
          obtain ⟨a1, a2, a3, a4, a5⟩ := readP_some hl he h3
          have hp := secs_pos (loadLen img at_)
          cases h4 : scan img en (at_ + secs (loadLen img at_)) with
          | none => rw [h4] at h; cases h
          | some l' =>
            rw [h4] at h
            cases h
            obtain ⟨b1, b2, b3⟩ := ih (at_ + secs (loadLen img at_)) l' (by omega) h4
            refine ⟨?_, ?_, ?_⟩
            · unfold usedOf at b1 ⊢
              rw [List.map_cons, List.sum_cons, a1]
              omega
            · rw [List.length_cons]; omega
            · intro x hx
              rcases List.mem_cons.1 hx with rfl | hx
              · exact ⟨a5, a3, a4⟩
              · exact b3 x hx
theorem open_fits {d : DS} {n : Nat} (hl : d.img.length = 64 * n) (hn : 1 ≤ n) {q : Nat} {l : List (Int × List UInt8)} (h : openOf d n = .log q l) : usedOf l ≤ halfOf n ∧ l.length ≤ halfOf n ∧ (∀ r ∈ l, r.2.length ≤ 262144 ∧ 1 ≤ r.1 ∧ r.1 ≤ 255) ∧ 1 ≤ q ∧ q ≤ 1099511627776 := by
  unfold openOf at h
  split at h
  · cases h
  · cases hg : genOf d.img n with
    | none => rw [hg] at h; cases h
    | some g =>
      rw [hg] at h
      have hq := genOf_le hg
      cases hs : scan d.img (firstOf n g + halfOf n) (firstOf n g) with
      | none => simp only [hs] at h; cases h
      | some l' =>
        simp only [hs] at h
        cases h
        obtain ⟨a, b, c⟩ := scan_fits hl (show firstOf n _ + halfOf n ≤ n by unfold firstOf halfOf; split <;> omega) _ _ _ (Nat.le_refl _) hs
        exact ⟨by omega, by omega, c, hq⟩
theorem openOf_err {d : DS} {n : Nat} {k : Int} (h : openOf d n = .err k) : 50 ≤ k ∧ k ≤ 61 := by
  unfold openOf at h
  split at h
  · cases h; omega
  · split at h
    · cases h; omega
    · split at h
      · cases h; omega
      · cases h
end Go.Proofs.YtggogenhakdhiaaDoor
end
section
set_option linter.unusedVariables false
set_option linter.unusedSimpArgs false
attribute [local go_sem ↓] Go.wp_at_zero Go.wp_at_succ
namespace Go.Proofs.YtggogenhakdhiaaDoor
open Go.RowKit

theorem TabAt.chg {w w' : World} {S : Nat → Prop} (h : TabAt w) (hc : Chg S w w') (hS : ¬ S 0) : TabAt w' := fun i hi =>
  (World.cell?_of_block (hc.block 0 (World.block_lt_of_cell? w _ (h i hi)) hS)).trans (h i hi)
/-- a sector's bytes -/
def pc (b : List UInt8) (i : Nat) : List UInt8 := (b.drop (64 * i)).take 64
/-- sectors are laid, the last first -/
def layDown (n at_ : Nat) (b : List UInt8) : Nat → DS → DS × Int
  | 0, d => (d, 0)
  | i + 1, d => if (writeOf n d ((at_ + i : Nat) : Int) (pc b i)).2 = 0 then layDown n at_ b i (writeOf n d ((at_ + i : Nat) : Int) (pc b i)).1 else writeOf n d ((at_ + i : Nat) : Int) (pc b i)
/-- zeros behind them, if there is room -/
def layOf (n at_ : Nat) (b : List UInt8) (cnt room : Nat) (d : DS) : DS × Int :=
  if cnt < room then if (writeOf n d ((at_ + cnt : Nat) : Int) zb64).2 = 0 then layDown n at_ b cnt (writeOf n d ((at_ + cnt : Nat) : Int) zb64).1 else writeOf n d ((at_ + cnt : Nat) : Int) zb64
  else layDown n at_ b cnt d
theorem writeOf_trail {n j : Nat} {d : DS} {z : Int} {b : List UInt8} (h : d.trail.length ≤ j) : (writeOf n d z b).1.trail.length ≤ j + 1 := by
  unfold writeOf
  split
  · show d.trail.length ≤ _; omega
  · split
    · show d.trail.length ≤ _; omega
    · split
      · show d.trail.length ≤ _; omega
      · show (d.trail ++ [z]).length ≤ _
        rw [List.length_append]; simp; omega
theorem layDown_trail (n at_ : Nat) (b : List UInt8) : ∀ (k : Nat) (d : DS) (j : Nat), d.trail.length ≤ j → (layDown n at_ b k d).1.trail.length ≤ j + k
  | 0, d, j, h => h
  | i + 1, d, j, h => by
    unfold layDown
    have h1 : (writeOf n d ((at_ + i : Nat) : Int) (pc b i)).1.trail.length ≤ j + 1 := writeOf_trail h
    split
    · have := layDown_trail n at_ b i _ (j + 1) h1
      omega
    · omega
theorem layOf_trail (n at_ : Nat) (b : List UInt8) (cnt room : Nat) (d : DS) (j : Nat) (h : d.trail.length ≤ j) : (layOf n at_ b cnt room d).1.trail.length ≤ j + cnt + 1 := by
  unfold layOf
  have h1 : (writeOf n d ((at_ + cnt : Nat) : Int) zb64).1.trail.length ≤ j + 1 := writeOf_trail h
  split
  · split
    · have := layDown_trail n at_ b cnt _ (j + 1) h1
      omega
    · omega
  · have := layDown_trail n at_ b cnt d j h
    omega
set_option maxRecDepth 20000 in
theorem stuck_walk (w : World) (col : Nat → Nat) (gl ga n : Nat) (v : Value) (d : DS) (s : LS) (h : PM w col gl ga n v d s) :
    Calls Tryd.prog 57 #[.pointer (some ⟨gl, 0, none⟩)] w
      (fun e w' => e = .returned (.bool (s.down || d.down)) ∧ PM w' col gl ga n v d { s with down := s.down || d.down } ∧ Step 1 3 col w w' col) := by
  obtain ⟨sv, tv, hD, hf⟩ := h.D
  obtain ⟨c0, -, -, -, c4⟩ := h.L.cell
  have f4 := frozen_of_row w gl 4 _ _ h.L.blk
  have HD := down_walk w ga n sv tv d hD
  have hm := h.mark
  obtain ⟨sg, sr, sd⟩ := s
  simp only at c4 hm
  replace hm := Go.Lib.hid hm
  clear h hD hf
  cases sd with
  | true =>
    go_enter Tryd.func57, Tryd.ntmps57
    go_wp2
    go_ret
    exact ⟨rfl, hm.out true⟩
  | false =>
    go_enter Tryd.func57, Tryd.ntmps57
    go_wp2_with (go_at_call 27; go_must (refine HD.mono ?_; rintro e w' ⟨rfl, rfl⟩))
    go_ret
    exact ⟨by simp, by simpa using hm.out d.down⟩
/-- what is wrong with a record -/
def wrongOf (k : Int) (m : Nat) : Int := if k < 1 ∨ 255 < k then 5 else if 262144 < m then 9 else 0
theorem wrong_walk (w : World) (k : Int) (A : Option Addr) (m c : Nat) (hm : m ≤ 9223372036854775807) :
    Calls Tryd.prog 58 #[.agg #[.int .i64 k, .slice A m c]] w (fun e w' => e = .returned (.int .i64 (wrongOf k m)) ∧ Below w.heap.size w w') := by
  have hB : Below w.heap.size w (w.alloc (.cells #[.int .i64 k, .slice A m c] 50)) := (Below.refl _ _).alloc (Nat.le_refl _) _
  unfold wrongOf
  by_cases h1 : k < 1
  · rw [if_pos (.inl h1)]
    go_enter Tryd.func58, Tryd.ntmps58
    go_wp2
    go_ret
    exact ⟨rfl, hB⟩
  · by_cases h2 : 255 < k
    · rw [if_pos (.inr h2)]
      go_enter Tryd.func58, Tryd.ntmps58
      go_wp2
      go_ret
      exact ⟨rfl, hB⟩
    · rw [if_neg (by omega)]
      by_cases h3 : 262144 < m
      · rw [if_pos h3]
        have h3z : (262144 : Int) < (m : Int) := by omega
        go_enter Tryd.func58, Tryd.ntmps58
        go_wp2
        go_ret
        exact ⟨rfl, hB⟩
      · rw [if_neg h3]
        have h3z : ¬ (262144 : Int) < (m : Int) := by omega
        go_enter Tryd.func58, Tryd.ntmps58
        go_wp2
        go_ret
        exact ⟨rfl, hB⟩
theorem rwrong_walk (w : World) (k : Int) (A : Option Addr) (m c : Nat) (hm : m ≤ 9223372036854775807) :
    Calls Tryd.prog 101 #[.agg #[.int .i64 k, .slice A m c]] w (fun e w' => e = .returned (.int .i64 (wrongOf k m)) ∧ Below w.heap.size w w') := by
  have hB : Below w.heap.size w (w.alloc (.cells #[.int .i64 k, .slice A m c] 102)) := (Below.refl _ _).alloc (Nat.le_refl _) _
  unfold wrongOf
  by_cases h1 : k < 1
  · rw [if_pos (.inl h1)]
    go_enter Tryd.func101, Tryd.ntmps101
    go_wp2
    go_ret
    exact ⟨rfl, hB⟩
  · by_cases h2 : 255 < k
    · rw [if_pos (.inr h2)]
      go_enter Tryd.func101, Tryd.ntmps101
      go_wp2
      go_ret
      exact ⟨rfl, hB⟩
    · rw [if_neg (by omega)]
      by_cases h3 : 262144 < m
      · rw [if_pos h3]
        have h3z : (262144 : Int) < (m : Int) := by omega
        go_enter Tryd.func101, Tryd.ntmps101
        go_wp2
        go_ret
        exact ⟨rfl, hB⟩
      · rw [if_neg h3]
        have h3z : ¬ (262144 : Int) < (m : Int) := by omega
        go_enter Tryd.func101, Tryd.ntmps101
        go_wp2
        go_ret
        exact ⟨rfl, hB⟩
set_option maxHeartbeats 1000000 in
set_option maxRecDepth 20000 in
theorem lay_walk (w : World) (col : Nat → Nat) (gl ga n : Nat) (v : Value) (d : DS) (s : LS) (h : PM w col gl ga n v d s) (at_ cnt room m c : Nat) (A : Option Addr) (b : List UInt8) (hb : Bys w A m b)
    (hA : ∀ ad, A = some ad → col ad.block ≠ 1 ∧ col ad.block ≠ 3) (hm : m = 64 * cnt) (hmc : m ≤ c) (hat : at_ + cnt ≤ 1000000) (hroom : room ≤ 1000000) (ht : d.trail.length + cnt + 1 ≤ 1000000) :
    Calls Tryd.prog 60 #[.pointer (some ⟨gl, 0, none⟩), .int .i64 (at_ : Nat), .slice A m c, .int .i64 (room : Nat)] w
      (fun e w' => e = .returned (.int .i64 (layOf n at_ b cnt room d).2) ∧ ∃ col', PM w' col' gl ga n v (layOf n at_ b cnt room d).1 { s with down := s.down || decide ((layOf n at_ b cnt room d).2 ≠ 0) } ∧ Step 1 3 col w w' col') := by
  have hd : IntKind.i64.wrap ((m : Int) / 64) = (cnt : Int) := by rw [IntKind.wrap_i64]; omega
  have hd2 : (m : Int) / 64 = (cnt : Int) := by omega
  obtain ⟨res, hres⟩ : ∃ x, x = layOf n at_ b cnt room d := ⟨_, rfl⟩
  rw [← hres]
  have hres1 := hres
  unfold layOf at hres1
  replace hres := Go.Lib.hid hres
  have hm0 := Go.Lib.hid hm
  have hw1 : IntKind.i64.wrap ((at_ : Int) + (cnt : Int)) = ((at_ + cnt : Nat) : Int) := by rw [IntKind.wrap_i64]; omega
  have hsc : IntKind.i64.wrap ((cnt : Int) - 1) = (cnt : Int) - 1 := by rw [IntKind.wrap_i64]; omega
  have hmc2 : 64 * cnt ≤ c := by omega
  clear hm
  go_enter Tryd.func60, Tryd.ntmps60
  go_upto_if 18 with fail
  go_cut [10] from 13 (fun _ wx => ∃ col1 d1, PM wx col1 gl ga n v d1 s ∧ Step 1 3 col w wx col1 ∧ res = layDown n at_ b cnt d1 ∧ d1.trail.length ≤ d.trail.length + 1)
  case first =>
    by_cases hcr : cnt < room
    · have hcz : (cnt : Int) < (room : Int) := by omega
      rw [if_pos hcr] at hres1
      have HZ := zeros_walk w
      have HW : ∀ x A' c', Below w.heap.size w x → Bys x A' 64 zb64 → Calls Tryd.prog 63 #[.pointer (some ⟨gl, 0, none⟩), .int .i64 ((at_ + cnt : Nat) : Int), .slice A' 64 c'] x
          (fun e w' => e = .returned (.int .i64 (writeOf n d ((at_ + cnt : Nat) : Int) zb64).2) ∧ ∃ col', PM w' col' gl ga n v (writeOf n d ((at_ + cnt : Nat) : Int) zb64).1 { s with down := s.down || decide ((writeOf n d ((at_ + cnt : Nat) : Int) zb64).2 ≠ 0) } ∧ Step 1 3 col x w' col') :=
        fun x A' c' hx hb' => lwrite_walk x col gl ga n v d s (h.below hx) _ A' 64 c' zb64 hb' (by omega)
      have htw : (writeOf n d ((at_ + cnt : Nat) : Int) zb64).1.trail.length ≤ d.trail.length + 1 := writeOf_trail (Nat.le_refl _)
      have hzl := zb64_length
      generalize writeOf n d ((at_ + cnt : Nat) : Int) zb64 = r1 at *
      generalize zb64 = zz at *
      obtain ⟨d1, e1⟩ := r1
      simp only at hres1 HW htw
      replace hzl := Go.Lib.hid hzl
      by_cases he : e1 = 0
      · subst he
        rw [if_pos rfl] at hres1
        replace hres1 := Go.Lib.hid hres1
        have hsd : ({ s with down := s.down || decide ((0 : Int) ≠ 0) } : LS) = s := by cases s; simp
        rw [hsd] at HW
        replace hsd := Go.Lib.hid hsd
        go_wp2_with (first
          | (go_at_call 63; go_must (refine (HW w1 A1 c1 hB1 (Bys.own hown1)).mono ?_; rintro e w2 ⟨rfl, col2, hP2, hS2⟩))
          | (go_at_call 44; go_must (refine HZ.mono ?_; intro e w1 hR; obtain ⟨A1, c1, rfl, hown1, hB1⟩ := hR.len (show zz.length = 64 from hzl.out))))
        go_meet
        exact ⟨col2, d1, hP2, (Step.of_below hB1 (fun _ _ => rfl)).trans hS2, hres1.out, htw⟩
      · rw [if_neg he] at hres1
        have he1 : (e1 != 0) = true := by rw [bne_iff_ne]; exact he
        have he2 : (e1 == 0) = false := by rw [beq_eq_false_iff_ne]; exact he
        replace hres1 := Go.Lib.hid hres1
        go_wp2_with (first
          | (go_at_call 63; go_must (refine (HW w1 A1 c1 hB1 (Bys.own hown1)).mono ?_; rintro e w2 ⟨rfl, col2, hP2, hS2⟩))
          | (go_at_call 44; go_must (refine HZ.mono ?_; intro e w1 hR; obtain ⟨A1, c1, rfl, hown1, hB1⟩ := hR.len (show zz.length = 64 from hzl.out))))
        go_ret
        rw [hres1.out]
        exact ⟨rfl, col2, hP2, (Step.of_below hB1 (fun _ _ => rfl)).trans hS2⟩
    · have hcz : ¬ (cnt : Int) < (room : Int) := by omega
      rw [if_neg hcr] at hres1
      replace hres1 := Go.Lib.hid hres1
      go_wp2_with fail
      go_meet
      exact ⟨col, d, h, Step.refl _ _ _ _, hres1.out, by omega⟩
  case rest =>
    obtain ⟨col1, d1, hP, hS, hr, htr⟩ := hcut
    replace hr := Go.Lib.hid hr
    clear h hres1
    have hbc := hb
    clear hb
    go_wp2
    go_loopg [11] cnt (fun k i wr => i = .int .i64 ((k : Int) - 1) ∧ k ≤ cnt ∧ ∃ col2 d2, PM wr col2 gl ga n v d2 s ∧ Step 1 3 col w wr col2 ∧ Hid (res = layDown n at_ b k d2) ∧ d2.trail.length + k ≤ d.trail.length + 1 + cnt)
    case atStart => exact ⟨rfl, Nat.le_refl _, col1, d1, hP, hS, hr, by omega⟩
    case round =>
      clear hP hS hr htr
      obtain ⟨hi, hk, col2, d2, hP, hS, hr, htr⟩ := hrel
      cases gk with
      | zero =>
        have hi2 : u11 = .int .i64 (-1) := by rw [hi]; simp
        subst hi2
        clear hi
        go_wp2
        go_ret
        rw [hr.out]
        exact ⟨rfl, col2, by simpa [layDown] using hP, hS⟩
      | succ k =>
        have hi2 : u11 = .int .i64 (k : Nat) := by rw [hi]; congr 1; omega
        subst hi2
        clear hi
        have hmm : m = 64 * cnt := hm0.out
        cases A with
        | none => obtain ⟨ad, e, _⟩ := hbc.cell 0 (by omega); cases e
        | some ad =>
          have hm1 : IntKind.i64.wrap ((k : Int) * 64) = ((64 * k : Nat) : Int) := by rw [IntKind.wrap_i64]; omega
          have hm2 : IntKind.i64.wrap ((k : Int) + 1) = ((k + 1 : Nat) : Int) := by rw [IntKind.wrap_i64]; omega
          have hm3 : IntKind.i64.wrap (((k + 1 : Nat) : Int) * 64) = ((64 * k + 64 : Nat) : Int) := by rw [IntKind.wrap_i64]; omega
          have hm4 : IntKind.i64.wrap ((at_ : Int) + (k : Int)) = ((at_ + k : Nat) : Int) := by rw [IntKind.wrap_i64]; omega
          have hm5 : ¬ c = 64 * k := by omega
          have hm6 : 64 * k + 64 ≤ c := by omega
          have hbk : Bys wr (some (ad.add (64 * k))) 64 (pc b k) := (hbc.chg hS.chg (fun ad' e => by have := hA ad' e; omega)).piece (64 * k) 64 (by omega)
          have HW := lwrite_walk wr col2 gl ga n v d2 s hP ((at_ + k : Nat) : Int) (some (ad.add (64 * k))) 64 (c - 64 * k) (pc b k) hbk (by omega)
          have htw : (writeOf n d2 ((at_ + k : Nat) : Int) (pc b k)).1.trail.length ≤ d2.trail.length + 1 := writeOf_trail (Nat.le_refl _)
          have hrs : res = if (writeOf n d2 ((at_ + k : Nat) : Int) (pc b k)).2 = 0 then layDown n at_ b k (writeOf n d2 ((at_ + k : Nat) : Int) (pc b k)).1 else writeOf n d2 ((at_ + k : Nat) : Int) (pc b k) := hr.out
          clear hr hP
          rw [Int.natCast_add] at HW htw hrs
          generalize writeOf n d2 ((at_ : Int) + (k : Int)) (pc b k) = r1 at *
          obtain ⟨d3, e1⟩ := r1
          simp only at HW htw hrs
          by_cases he : e1 = 0
          · subst he
            rw [if_pos rfl] at hrs
            replace hrs := Go.Lib.hid hrs
            have hsd : ({ s with down := s.down || decide ((0 : Int) ≠ 0) } : LS) = s := by cases s; simp
            rw [hsd] at HW
            replace hsd := Go.Lib.hid hsd
            replace hmm := Go.Lib.hid hmm
            go_wp2_with fail
            rw [show (k + 1) * 64 - 64 * k = 64 by omega]
            refine HW.mono ?_
            rintro e w2 ⟨rfl, col3, hP3, hS3⟩
            go_wp2
            go_roundg k
            case measure => omega
            case rel => exact ⟨by first | rfl | (congr 1; omega), by omega, col3, d3, hP3, hS.trans hS3, hrs, by omega⟩
          · rw [if_neg he] at hrs
            have he1 : (e1 != 0) = true := by rw [bne_iff_ne]; exact he
            have he2 : (e1 == 0) = false := by rw [beq_eq_false_iff_ne]; exact he
            replace hrs := Go.Lib.hid hrs
            replace hmm := Go.Lib.hid hmm
            go_wp2_with fail
            rw [show (k + 1) * 64 - 64 * k = 64 by omega]
            refine HW.mono ?_
            rintro e w2 ⟨rfl, col3, hP3, hS3⟩
            go_wp2
            go_ret
            rw [hrs.out]
            exact ⟨rfl, col3, hP3, hS.trans hS3⟩
end Go.Proofs.YtggogenhakdhiaaDoor
end
