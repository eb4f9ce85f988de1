/- resolver.Cycle, walked. (ahead of it: maps.Keys over a map of rows, and slices.Collect of it, walked. slices.AppendSeq over whatever iterator of identities, and slices.Collect, walked. The memory of resolver.least, and what its two loops come to. resolver.least, walked. age.Sort of no identities, and of a row that may be nil; the keys of a map of rows.) -/
import Derived.Test.YtdepmcofnlggaaaPkD
import Derived.RangeFuncNested
import Derived.RangeFuncBound
import Derived.RangeFuncLeaves
import Derived.Shelf.Abstract
import Derived.WalkKit
import Derived.OwnWalkIn
import Derived.TacticsInMore
import Derived.LoopNIn
import Derived.LoopIn
import Derived.Sort.LoopGhostIn
import Derived.Maps.AppendAt
import Derived.Shelf.SlSortCmp.NoneTotal
section
set_option linter.unusedVariables false
set_option linter.unusedSimpArgs false
namespace Go.Proofs.Ytdepmcofnlggaaa.PResolverCycles
attribute [local go_sem] Oper.semAt_some
open Go.RowKit Go.Shelf Go.Proofs.YtdepmcofnlggaaaW.PrintWords Go.Proofs.YtdepmcofnlggaaaW.PrintLast Go.Proofs.YtdepmcofnlggaaaW.PrintMore
open Classical

/-- which keys have come -/
def Came (l : Ents) (done : Nat → Bool) (pre : List S24) : Prop := ∀ a, a ∈ pre ↔ ∃ (i : Nat) (v : Value), l[i]? = some (idV a, v) ∧ done i = true
theorem came_start (l : Ents) : Came l (fun _ => false) [] := fun a => ⟨fun h => (by cases h), fun ⟨_, _, _, h⟩ => (by cases h)⟩
theorem Came.step {l : Ents} {done : Nat → Bool} {pre : List S24} (h : Came l done pre) (hnd : (l.map (·.1)).Nodup) {i : Nat} {a : S24} {v : Value} (hi : l[i]? = some (idV a, v)) : Came l (fun j => done j || j == i) (pre ++ [a]) := fun x => by
  rw [List.mem_append, List.mem_singleton, h x]
  constructor
  · rintro (⟨j, u, hj, hd⟩ | rfl)
    · exact ⟨j, u, hj, by simp [hd]⟩
    · exact ⟨i, v, hi, by simp⟩
  · rintro ⟨j, u, hj, hd⟩
    by_cases e : j = i
    · subst e
      rw [hi] at hj
      right
      have := (Option.some.inj hj)
      simp only [Prod.mk.injEq] at this
      exact (idV_inj this.1).symm
    · left
      refine ⟨j, u, hj, ?_⟩
      simpa [e] using hd
theorem leftN_start (n : Nat) : leftN n (fun _ => false) = n := by
  unfold leftN
  have : (List.range n).filter (fun i => !(fun (_ : Nat) => false) i) = List.range n := List.filter_eq_self.2 (fun _ _ => rfl)
  rw [this, List.length_range]
theorem leftN_step (n : Nat) {done : Nat → Bool} {i : Nat} (hi : i < n) (hd : done i = false) : leftN n (fun j => done j || j == i) < leftN n done := leftN_less hi hd
theorem ranging_walks {w w' : World} {k : TypeId} {b r : Nat} {l : Ents} {done : Nat → Bool} (h : Ranging Try.prog k w b r l done) (hk : KeepsWalks w w') : Ranging Try.prog k w' b r l done := by
  obtain ⟨es, clock, since, seen, c0, h1, h2, h3, h4, h5, rest⟩ := h
  exact ⟨es, clock, since, seen, c0, hk.same b _ h1 rfl, h2, h3, h4, hk.same r _ h5 rfl, rest⟩
theorem ranging_iter {w : World} {k : TypeId} {b r : Nat} {l : Ents} {done : Nat → Bool} (h : Ranging Try.prog k w b r l done) : ∃ o : Obj, w.heap[r]? = some o ∧ o.isWalk = true := by
  obtain ⟨es, clock, since, seen, c0, h1, h2, h3, h4, h5, rest⟩ := h
  exact ⟨_, h5, rfl⟩
set_option maxHeartbeats 2000000 in
set_option maxRecDepth 100000 in
/-- the iterator of maps.Keys, for every loop body -/
theorem keys1_in (F : Fence) (n : Nat) (h64 : F.fn 64) (hro : F.round = none) (hn : 1 ≤ n) (l Bm b : Nat) (L : Ents) (J Jx : List S24 → World → Prop)
    (hY : ∀ pre x W, J pre W → pre.length < L.length → YieldAt F (n - 1) Try.prog l #[idV x] W fun e W' => (e = .returned (.bool true) ∧ J (pre ++ [x]) W' ∧ KeepsWalks W W') ∨ (e = .returned (.bool false) ∧ Jx (pre ++ [x]) W'))
    (W : World) (hJ : AbidesFrom W.heap.size J) (hBm : W.cell? ⟨Bm, 0, none⟩ = some (.map (some b))) (hM : MapAt Try.prog 24 W b L) (hL : ∀ p ∈ L, ∃ a, InId a ∧ p.1 = idV a) (h0 : J [] W) :
    CallsIn F n Try.prog 64 #[.func (.yield l) #[] #[], .pointer (some ⟨Bm, 0, none⟩)] W fun e W' => (∃ v, e = .returned v) ∧
      ((∃ ys, (ys.length ≤ L.length ∧ ∀ a, a ∈ ys ↔ ∃ (i : Nat) (v : Value), L[i]? = some (idV a, v)) ∧ J ys W') ∨ (∃ pre, True ∧ Jx pre W')) := by
  have hnd := hM.nodup
  obtain ⟨hrun, hRg⟩ := hM.range (t := 54) Try.underlying54
  generalize hW1 : W.alloc (.mapIter (some b) (match W.heap[b]? with | some (.map _ c) => c | _ => 0) #[] (match W.heap[b]? with | some (.map _ c) => c | _ => 0)) = W1 at *
  have hJ1 : J [] W1 := by rw [← hW1]; exact hJ [] W _ none h0 (World.grownBy_alloc W _ none) (fun r e => by cases e)
  have hsz1 : W1.heap.size = W.heap.size + 1 := by rw [← hW1]; simp
  obtain ⟨rr, hrr⟩ : ∃ r, r = W.heap.size := ⟨_, rfl⟩
  rw [← hrr] at hrun hRg hJ
  replace hrr := Go.Lib.hid hrr
  clear hW1
  replace hsz1 := Go.Lib.hid hsz1
  refine callsIn_of_wp Try.func64 rfl h64 ?_ hro
  simp only [Try.ntmps64, List.size_toArray, List.length_cons, List.length_nil, Nat.reduceAdd, Nat.reduceSub, Array.replicate_succ, Array.replicate_zero, List.push_toArray, List.append_toArray, List.nil_append, List.cons_append]
  gi_wp2
  gi_loopg [6] (L.length) (fun k _ wr => ∃ (done : Nat → Bool) (pre : List S24), k = leftN L.length done ∧ pre.length + k ≤ L.length ∧ Ranging Try.prog 24 wr b rr L done ∧ J pre wr ∧ Came L done pre)
  case atStart => exact ⟨_, [], (leftN_start _).symm, by simp, hRg, hJ1, came_start L⟩
  case round =>
    clear hRg hJ1 hrun
    obtain ⟨done, pre, hk, hpl, hR, hJp, hC⟩ := hrel
    rcases hR.next 0 with ⟨hall, hnx⟩ | ⟨i, a, v, w2, hi, hd, hnx, hR2, hg2, hs2, hent⟩
    · have hS : pre.length ≤ L.length ∧ ∀ a, a ∈ pre ↔ ∃ (i : Nat) (v : Value), L[i]? = some (idV a, v) := by
        have hz : leftN L.length done = 0 := by
          unfold leftN
          rw [List.length_eq_zero_iff, List.filter_eq_nil_iff]
          intro i hi
          simp [hall i (by simpa using hi)]
        refine ⟨by omega, fun a => (hC a).trans ⟨fun ⟨i, v, h, _⟩ => ⟨i, v, h⟩, fun ⟨i, v, h⟩ => ⟨i, v, h, hall i (List.getElem?_eq_some_iff.1 h).1⟩⟩⟩
      replace hS := Go.Lib.hid hS
      replace hJp := Go.Lib.hid hJp
      clear hC hR hk hpl
      gi_wp2
      go_end0
      exact ⟨⟨_, rfl⟩, .inl ⟨pre, hS.out, hJp.out⟩⟩
    · obtain ⟨x, hx, hxe⟩ := hL _ (List.mem_of_getElem? hi)
      simp only at hxe
      subst hxe
      have hlow := leftN_less (List.getElem?_eq_some_iff.1 hi).1 hd
      have hlt : pre.length < L.length := by omega
      have hC2 := hC.step hnd hi
      have hJ2 : J pre w2 := hJ pre wr w2 _ hJp hg2 (fun r e => by cases e; exact ⟨Nat.le_refl _, ranging_iter hR⟩)
      have hA := World.grownBy_alloc w2 (.cells #[.int .i64 x.f0, .int .i64 x.f1] 24) none
      have hJ3 : J pre (w2.alloc (.cells #[.int .i64 x.f0, .int .i64 x.f1] 24)) := hJ pre w2 _ none hJ2 hA (fun r e => by cases e)
      have hR3 := ranging_walks hR2 (KeepsWalks.alloc w2 (.cells #[.int .i64 x.f0, .int .i64 x.f1] 24))
      obtain ⟨fn, tmps, assign, body, hy, hRo⟩ := hY pre x _ hJ3 hlt
      replace hC2 := Go.Lib.hid hC2
      replace hlow := Go.Lib.hid hlow
      replace hk := Go.Lib.hid hk
      replace hpl := Go.Lib.hid hpl
      clear hC hJp hJ2 hJ3 hR hR2 hg2
      unfold idV at hnx hent hy
      gi_wp2
      refine hRo.mono ?_
      rintro e W3 (⟨rfl, hJ3, hk3⟩ | ⟨rfl, hJx3⟩)
      · have hR4 := Go.Lib.hid (ranging_walks hR3 hk3)
        replace hJ3 := Go.Lib.hid hJ3
        clear hR3
        gi_wp2
        gi_roundg (leftN L.length (fun j => done j || j == i))
        case rel => exact ⟨_, pre ++ [x], rfl, (by have := hlow.out; have := hk.out; have := hpl.out; simp only [List.length_append, List.length_cons, List.length_nil]; omega), hR4.out, hJ3.out, hC2.out⟩
        case measure => rw [hk.out]; exact hlow.out
      · replace hJx3 := Go.Lib.hid hJx3
        gi_wp2
        refine bodyPost_ret (results_none rfl _ _ _) rfl ?_
        exact ⟨⟨_, rfl⟩, .inr ⟨pre ++ [x], trivial, hJx3.out⟩⟩
/-- maps.Keys -/
theorem keys_walk (w : World) (b : Nat) : Calls Try.prog 28 #[.map (some b)] w fun e w' => e = .returned (.func (.func 64) #[] #[.pointer (some ⟨w.heap.size, 0, none⟩)]) ∧ w' = w.alloc (.cells #[.map (some b)] 54) := by
  go_enter Try.func28, Try.ntmps28
  go_wp2_with fail
  go_ret
  exact ⟨rfl, rfl⟩
theorem keys_stops (F : Fence) (n : Nat) (h64 : F.fn 64) (hro : F.round = none) (hn : 1 ≤ n) (Bm b : Nat) (L : Ents) (w : World) (hBm : w.cell? ⟨Bm, 0, none⟩ = some (.map (some b))) (hM : MapAt Try.prog 24 w b L) (hL : ∀ p ∈ L, ∃ a, InId a ∧ p.1 = idV a) :
    SeqStopsK F n Try.prog 64 #[.pointer (some ⟨Bm, 0, none⟩)] (fun x : S24 => #[idV x]) KeepsWalks (fun ys => ys.length ≤ L.length ∧ ∀ a, a ∈ ys ↔ ∃ (i : Nat) (v : Value), L[i]? = some (idV a, v)) (fun _ => True) L.length w := fun l J Jx W hW hJ _ hY h0 =>
  keys1_in F n h64 hro hn l Bm b L J Jx hY W hJ (pw_cell_below hW hBm) (hM.below hW) hL h0
end Go.Proofs.Ytdepmcofnlggaaa.PResolverCycles
end
section
set_option linter.unusedVariables false
set_option linter.unusedSimpArgs false
namespace Go.Proofs.Ytdepmcofnlggaaa.PResolverCycles
attribute [local go_sem] Oper.semAt_some
open Go.RowKit Go.Shelf Go.Proofs.YtdepmcofnlggaaaW.PrintWords Go.Proofs.YtdepmcofnlggaaaW.PrintLast Go.Proofs.YtdepmcofnlggaaaW.PrintMore
open Classical

theorem id_cells (w : World) (x : S24) : IdsAt (w.alloc (.cells #[.int .i64 x.f0, .int .i64 x.f1] 24)) ⟨w.heap.size, 0, none⟩ [x] := by
  intro j u hu
  rw [add_off, Nat.zero_add, blk_cell (heap_alloc_new w _)]
  simpa [idc, encId] using hu
/-- the loop's own variable: a block of its own -/
def LoopVar (B0 : Nat) (Bs : Nat) (sv : Value) (x : S24) (a' : Act) (W : World) : Prop := ∃ Bx, B0 ≤ Bx ∧ W.heap[Bx]? = some (.cells #[.int .i64 x.f0, .int .i64 x.f1] 24) ∧
  a' = { tmps := #[.slice none 0 0, sv, .pointer (some ⟨Bs, 0, none⟩), undef, .slice none 0 0, .pointer (some ⟨Bx, 0, none⟩), sv, .agg #[.int .i64 x.f0, .int .i64 x.f1], undef, undef, undef, undef, undef], defers := [] }
theorem loopVar_own (B0 Bs : Nat) (sv : Value) (x : S24) (a' : Act) (B : Nat) : OwnFrom B (fun (_ : Unit) W => LoopVar B0 Bs sv x a' W) := fun _ X Y row hs hg hr => by
  obtain ⟨Bx, h1, h2, h3⟩ := hs
  refine ⟨Bx, h1, (hg.block Bx (Array.getElem?_eq_some_iff.1 h2).1 (fun e => ?_)).trans h2, h3⟩
  obtain ⟨_, o, ho, hc⟩ := hr Bx e.symm
  rw [h2] at ho; cases ho; cases hc
set_option maxRecDepth 100000 in
set_option maxHeartbeats 2000000 in
theorem appendSeq_in (F : Fence) (n : Nat) (h63 : F.fn 63) (hro : F.round = none) (hn : 2 ≤ n) (gf : Nat) (lb : Array Value) (hgf : F.fn gf) (eg : ∀ args w, (callFunc gf args).run Try.prog w = .ok (.enter gf args) w)
    (S Sp : List S24 → Prop) (N : Nat) (hN : N ≤ 1000000) (w : World) (hseq : SeqStopsK F (n - 1) Try.prog gf lb (fun x : S24 => #[idV x]) KeepsWalks S Sp N w) (hSN : ∀ xs, S xs → xs.length ≤ N) :
    CallsIn F n Try.prog 63 #[.slice none 0 0, .func (.func gf) #[] lb] w fun e W' => ∃ v xs, e = .returned v ∧ S xs ∧ W'.ownsRow w.heap.size 24 2 v xs.length (idc xs) ∧ (v = .slice none 0 0 ↔ xs = []) ∧ Below w.heap.size w W' := by
  have h1 : 1 ≤ n := by omega
  obtain ⟨i0, hi, hz⟩ := Option.map_eq_some_iff.1 info24
  simp only [Prod.mk.injEq] at hz
  obtain ⟨hz0, hz1, hz2⟩ := hz
  refine callsIn_of_wp_marks Try.func63 rfl h63 ?_ hro
  simp only [Try.ntmps63, List.size_toArray, List.length_cons, List.length_nil, Nat.reduceAdd, Nat.reduceSub, Array.replicate_succ, Array.replicate_zero, List.push_toArray, List.append_toArray, List.nil_append, List.cons_append]
  have bO := Boxed.new w 27 (.slice none 0 0)
  have hB0 : Below w.heap.size w (w.alloc (.cells #[.slice none 0 0] 27)) := (Below.refl _ w).alloc (Nat.le_refl _) _
  have hsz : (w.alloc (.cells #[.slice none 0 0] 27)).heap.size = w.heap.size + 1 := by simp
  gi_wp2
  refine wpIn_rangeFunc_ownH hro h1 (gf := gf) (lb := lb) rfl hgf eg
    (show SeqStopsK F (n - 1) Try.prog gf lb (fun x : S24 => #[idV x]) KeepsWalks S Sp N w from hseq) walksK_t walksK_b hB0 (fun _ => rfl)
    (fun pre W => (∃ v, Boxed W w.heap.size 27 v ∧ W.ownsRow w.heap.size 24 2 v pre.length (idc pre) ∧ (v = .slice none 0 0 ↔ pre = [])) ∧ Below w.heap.size w W)
    (fun _ _ _ => False)
    (OwnFrom.and (Own.from (holdsRow_own w.heap.size w.heap.size 27 24 2 (fun pre => pre.length) (fun pre => idc pre) (fun pre v => v = .slice none 0 0 ↔ pre = [])) _) (ownFrom_below (Nat.le_refl _) (by omega)))
    (fun _ _ _ _ _ hs _ _ => hs)
    ⟨⟨_, bO, World.ownsRow_nil _ _ _ _, by simp⟩, hB0⟩
    (fun x a' W => LoopVar (w.heap.size + 1) w.heap.size (.func (.func gf) #[] lb) x a' W)
    (fun x a' => loopVar_own _ _ _ _ _ _) ?assign ?body ?done ?stop
  case assign =>
    rintro l pre x W K ⟨⟨v, hv, hrow, hnil⟩, hB⟩ hK
    have hlt := hv.lt
    have hsW := hB.size
    simp only [idV] 
    gi_wp2
    exact hK _ _ ((KeepsOthers.alloc _ _).from _) (KeepsWalks.alloc _ _) ⟨⟨v, hv.alloc _, hrow.alloc _, hnil⟩, hB.alloc hsW _⟩ ⟨W.heap.size, hlt, heap_alloc_new W _, rfl⟩
  case body =>
    rintro l pre x a' W hl hr ⟨⟨v, hv, hrow, hnil⟩, hB⟩ ⟨Bx, hBx, hbx, rfl⟩ hlt
    have hc := hv.cell
    have e0 := blk_cell hbx 0
    have e1 := blk_cell hbx 1
    simp only [List.getElem?_toArray, List.getElem?_cons_zero, List.getElem?_cons_succ] at e0 e1
    have hid := id_cells W x
    have hsW := hB.size
    have hpl : pre.length ≤ 1000000 := by omega
    have hids1 : (idc [x]).length = 1 * 2 := rfl
    clear hsz hbx
    gi_wp2_with (gi_at_builtin; refine wpListIn_append_own _ rfl _ _ 27 rfl w.heap.size 24 i0 _ 2 16 Try.underlying27 hi hz0 hz1 hz2 rfl (by decide) _ _ _ rfl (hrow.alloc _) ⟨W.heap.size, 0, none⟩ 1 1 (idc [x]) rfl rfl hid (idc_one [x]) (by simp only [maxLen]; omega) (by omega) (by simp; omega) ?_; intro v' w1 hown' hgrow _; obtain ⟨g', cap', rfl⟩ := ownsRow_succ hown'; obtain ⟨hv1, hv2, hr2, hk2, hb2⟩ := hv.appended (by decide) hrow hB.size (Nat.le_refl _) hown' hgrow; have hc1 := hv1.cell; have hf1 := hv1.frozen)
    refine ⟨hk2.from _, hk2.walks, ⟨_, hv2, ?_, by simp⟩, hB.trans hb2⟩
    rw [idc_append, List.length_append]
    exact hr2
  case done =>
    rintro D ys W hD hS ⟨⟨v, hv, hrow, hnil⟩, hB⟩ hK
    have hc := hv.cell
    gi_wp2
    refine ⟨by simp, .inl ⟨_, _, rfl, run_takeDeferred hK, ?_⟩⟩
    exact ⟨_, results_tmp rfl _ _ _, v, ys, rfl, hS, ownsRow_putObj hrow _ hK rfl, hnil, hB.trans (belowK_b (w := w) (Nat.le_refl _) W D _ _ (by simp at hD; omega) hK rfl rfl)⟩
  case stop =>
    rintro D c pre W _ _ h _
    exact h.elim
/-- slices.Collect(maps.Keys(m)) -/
theorem collect_walk (w : World) (Bm b : Nat) (L : Ents) (hBm : w.cell? ⟨Bm, 0, none⟩ = some (.map (some b))) (hM : MapAt Try.prog 24 w b L) (hL : ∀ p ∈ L, ∃ a, InId a ∧ p.1 = idV a) (hN : L.length ≤ 1000000) :
    Calls Try.prog 27 #[.func (.func 64) #[] #[.pointer (some ⟨Bm, 0, none⟩)]] w fun e w' => ∃ v xs, e = .returned v ∧ (∀ a, a ∈ xs ↔ ∃ (i : Nat) (v : Value), L[i]? = some (idV a, v)) ∧ xs.length ≤ L.length ∧ w'.ownsRow w.heap.size 24 2 v xs.length (idc xs) ∧ (v = .slice none 0 0 ↔ xs = []) ∧ Below w.heap.size w w' := by
  have H := appendSeq_in Fence.wide 5 trivial rfl (by omega) 64 #[.pointer (some ⟨Bm, 0, none⟩)] trivial (enters_of Try.func64 (by kernel_rfl) rfl) _ _ L.length hN w (keys_stops Fence.wide 4 trivial rfl (by omega) Bm b L w hBm hM hL) (fun xs h => h.1)
  have H' := (callsIn_wide (n := 5)).1 H
  clear H
  go_enter Try.func27, Try.ntmps27
  go_wp2_with (go_at_call 63; refine H'.mono ?_; rintro e w' ⟨v, xs, rfl, hS, hrow, hnil, hb⟩)
  go_ret
  exact ⟨v, xs, rfl, hS.2, hS.1, hrow, hnil, hb⟩
end Go.Proofs.Ytdepmcofnlggaaa.PResolverCycles
end
section
set_option linter.unusedVariables false
set_option linter.unusedSimpArgs false
namespace Go.Proofs.Ytdepmcofnlggaaa.PResolverCycles
open Go.RowKit Go.Proofs.YtdepmcofnlggaaaW.PrintWords Go.Proofs.YtdepmcofnlggaaaW.PrintLast Go.Proofs.YtdepmcofnlggaaaW.PrintMore
open Classical

/-- the three boxes: the distances, from, best -/
structure LM (w W : World) (fb T4 T5 T7 : Nat) (from_ : S24) (best : Int) : Prop where
  below : Below w.heap.size w W
  g4 : w.heap.size ≤ T4
  g5 : w.heap.size ≤ T5
  g7 : w.heap.size ≤ T7
  n47 : T4 ≠ T7
  n57 : T5 ≠ T7
  b4 : W.heap[T4]? = some (.cells #[.map (some fb)] 62 (0, 0))
  b5 : W.heap[T5]? = some (.cells #[.int .i64 from_.f0, .int .i64 from_.f1] 24 (0, 0))
  b7 : Boxed W T7 3 (.int .i64 best)
section
variable {w W W' : World} {fb T4 T5 T7 : Nat} {from_ : S24} {best : Int}
theorem lt_of_block {W : World} {b : Nat} {o : Obj} (h : W.heap[b]? = some o) : b < W.heap.size := (Array.getElem?_eq_some_iff.1 h).1
theorem LM.later (h : LM w W fb T4 T5 T7 from_ best) (hb : Below W.heap.size W W') : LM w W' fb T4 T5 T7 from_ best :=
  ⟨h.below.trans (hb.mono h.below.size), h.g4, h.g5, h.g7, h.n47, h.n57, (hb.block _ (lt_of_block h.b4)).trans h.b4, (hb.block _ (lt_of_block h.b5)).trans h.b5, (hb.block _ h.b7.lt).trans h.b7⟩
theorem LM.set (h : LM w W fb T4 T5 T7 from_ best) (b' : Int) : LM w (W.setCell ⟨T7, 0, none⟩ (.int .i64 b')) fb T4 T5 T7 from_ b' := by
  have hg := grownBy_setCell' W T7 (.int .i64 b')
  exact ⟨h.below.setCell (p := ⟨T7, 0, none⟩) h.g7 _, h.g4, h.g5, h.g7, h.n47, h.n57, (hg.block _ (lt_of_block h.b4) (fun e => h.n47 (by cases e; rfl))).trans h.b4, (hg.block _ (lt_of_block h.b5) (fun e => h.n57 (by cases e; rfl))).trans h.b5, h.b7.set _⟩
/-- a block of the call's own turned: neither of the three -/
theorem LM.kept {row : Option Nat} (h : LM w W fb T4 T5 T7 from_ best) (hg : W.grownBy W' row) (hr : ∀ k, row = some k → w.heap.size ≤ k ∧ k ≠ T4 ∧ k ≠ T5 ∧ k ≠ T7) : LM w W' fb T4 T5 T7 from_ best :=
  ⟨pw_below_grown h.below _ h.below.size hg (fun k e => (hr k e).1), h.g4, h.g5, h.g7, h.n47, h.n57, (hg.block _ (lt_of_block h.b4) (fun e => (hr T4 e.symm).2.1 rfl)).trans h.b4, (hg.block _ (lt_of_block h.b5) (fun e => (hr T5 e.symm).2.2.1 rfl)).trans h.b5, h.b7.kept hg (fun e => (hr T7 e.symm).2.2.2 rfl)⟩
theorem LM.cells (h : LM w W fb T4 T5 T7 from_ best) : W.cell? ⟨T4, 0, none⟩ = some (.map (some fb)) ∧ W.cell? ⟨T5, 0, none⟩ = some (.int .i64 from_.f0) ∧ W.cell? ⟨T5, 1, none⟩ = some (.int .i64 from_.f1) ∧ W.cell? ⟨T7, 0, none⟩ = some (.int .i64 best) ∧ W.frozen? ⟨T7, 0, none⟩ = false := by
  refine ⟨?_, ?_, ?_, h.b7.cell, h.b7.frozen⟩
  · rw [blk_cell h.b4]; rfl
  · rw [blk_cell h.b5]; rfl
  · rw [blk_cell h.b5]; rfl
end
theorem lm_start (w : World) (fb : Nat) (from_ : S24) :
    LM w (((w.alloc (.cells #[.map (some fb)] 62)).alloc (.cells #[.int .i64 from_.f0, .int .i64 from_.f1] 24)).alloc (.cells #[.int .i64 (-1)] 3)) fb w.heap.size (w.heap.size + 1) (w.heap.size + 2) from_ (-1) := by
  have s1 : (w.alloc (.cells #[.map (some fb)] 62)).heap.size = w.heap.size + 1 := by simp
  have s2 : ((w.alloc (.cells #[.map (some fb)] 62)).alloc (.cells #[.int .i64 from_.f0, .int .i64 from_.f1] 24)).heap.size = w.heap.size + 2 := by simp
  have h1 := heap_alloc_new w (.cells #[.map (some fb)] 62)
  have h2 := heap_alloc_new (w.alloc (.cells #[.map (some fb)] 62)) (.cells #[.int .i64 from_.f0, .int .i64 from_.f1] 24)
  have h3 := heap_alloc_new ((w.alloc (.cells #[.map (some fb)] 62)).alloc (.cells #[.int .i64 from_.f0, .int .i64 from_.f1] 24)) (.cells #[.int .i64 (-1)] 3)
  rw [s1] at h2
  rw [s2] at h3
  refine ⟨(((Below.refl _ w).alloc (Nat.le_refl _) _).alloc (by omega) _).alloc (by omega) _, by omega, by omega, by omega, by omega, by omega, ?_, ?_, h3⟩
  · rw [heap_alloc_old _ _ (by omega), heap_alloc_old _ _ (by omega)]; exact h1
  · rw [heap_alloc_old _ _ (by omega)]; exact h2
/-- the first loop: the least distance of those that have come -/
def BestOf (dst : S24 → Option Nat) (l : List S24) (best : Int) : Prop :=
  (best = -1 ∧ ∀ x ∈ l, dst x = none) ∨ ∃ m : Nat, best = (m : Int) ∧ (∃ x ∈ l, dst x = some m) ∧ ∀ x ∈ l, ∀ k, dst x = some k → m ≤ k
theorem BestOf.skip {dst : S24 → Option Nat} {l : List S24} {best : Int} (h : BestOf dst l best) {x : S24} (hx : dst x = none) : BestOf dst (l ++ [x]) best := by
  rcases h with ⟨h1, h2⟩ | ⟨m, h1, ⟨y, hy, hd⟩, h3⟩
  · refine .inl ⟨h1, fun y hy => ?_⟩
    rcases List.mem_append.1 hy with hy | hy
    · exact h2 y hy
    · rw [List.mem_singleton.1 hy]; exact hx
  · refine .inr ⟨m, h1, ⟨y, by simp [hy], hd⟩, fun y hy k hk => ?_⟩
    rcases List.mem_append.1 hy with hy | hy
    · exact h3 y hy k hk
    · rw [List.mem_singleton.1 hy, hx] at hk; cases hk
theorem BestOf.keep {dst : S24 → Option Nat} {l : List S24} {best : Int} (h : BestOf dst l best) {x : S24} {n : Nat} (hx : dst x = some n) (h0 : 0 ≤ best) (hb : best ≤ n) : BestOf dst (l ++ [x]) best := by
  rcases h with ⟨h1, h2⟩ | ⟨m, h1, ⟨y, hy, hd⟩, h3⟩
  · omega
  · refine .inr ⟨m, h1, ⟨y, by simp [hy], hd⟩, fun y hy k hk => ?_⟩
    rcases List.mem_append.1 hy with hy | hy
    · exact h3 y hy k hk
    · rw [List.mem_singleton.1 hy, hx] at hk; cases hk; omega
theorem BestOf.better {dst : S24 → Option Nat} {l : List S24} {best : Int} (h : BestOf dst l best) {x : S24} {n : Nat} (hx : dst x = some n) (hb : best < 0 ∨ (n : Int) < best) : BestOf dst (l ++ [x]) n := by
  refine .inr ⟨n, rfl, ⟨x, by simp, hx⟩, fun y hy k hk => ?_⟩
  rcases List.mem_append.1 hy with hy | hy
  · rcases h with ⟨h1, h2⟩ | ⟨m, h1, ⟨z, hz, hd⟩, h3⟩
    · rw [h2 y hy] at hk; cases hk
    · have := h3 y hy k hk; omega
  · rw [List.mem_singleton.1 hy, hx] at hk; cases hk; exact Nat.le_refl _
theorem BestOf.lo {dst : S24 → Option Nat} {l : List S24} {best : Int} (h : BestOf dst l best) : -1 ≤ best := by
  rcases h with ⟨h1, _⟩ | ⟨m, h1, _⟩ <;> omega
section
variable {E : List (S24 × S24)} {from_ : S24} {s : List S24} {best : Int}
/-- none: no round -/
theorem BestOf.no (h : BestOf (Rc.dist ltI E from_) s best) (hm : ∀ x, x ∈ s ↔ (from_, x) ∈ E) (hb : best < 0) : Rc.Round ltI E from_ none := by
  rcases h with ⟨_, h2⟩ | ⟨m, h1, _⟩
  · refine .inl ⟨fun m ⟨x, hx, hd⟩ => ?_, rfl⟩
    rw [h2 x ((hm x).2 hx)] at hd; cases hd
  · omega
theorem BestOf.yes (h : BestOf (Rc.dist ltI E from_) s best) (hm : ∀ x, x ∈ s ↔ (from_, x) ∈ E) (hb : ¬ best < 0) : ∃ m : Nat, best = (m : Int) ∧ Rc.Shortest ltI E from_ m := by
  rcases h with ⟨h1, h2⟩ | ⟨m, h1, ⟨x, hx, hd⟩, h3⟩
  · omega
  · refine ⟨m, h1, ⟨x, (hm x).1 hx, hd⟩, fun k hk ⟨y, hy, hdy⟩ => ?_⟩
    have := h3 y ((hm y).2 hy) k hdy
    omega
end
/-- the second loop: what has come, and what is still to come -/
def OnWay (E : List (S24 × S24)) (from_ : S24) (m : Nat) (a : S24) (k : Nat) (L : List S24) : Prop :=
  (∃ t, L = from_ :: t ∧ t.length + k = m ∧ ∀ r, Rc.Way ltI E from_ a k r → Rc.Way ltI E from_ from_ m (t ++ r)) ∧ ∃ g, (a, g) ∈ E ∧ Rc.dist ltI E from_ g = some k
theorem onWay_start {E : List (S24 × S24)} {from_ : S24} {m : Nat} (h : Rc.Shortest ltI E from_ m) : OnWay E from_ m from_ m [from_] :=
  ⟨⟨[], rfl, by simp, fun r h => h⟩, h.1⟩
theorem OnWay.step {E : List (S24 × S24)} {from_ : S24} {m k : Nat} {a x : S24} {L : List S24} (h : OnWay E from_ m a (k + 1) L) (hn : Rc.Next ltI E from_ a (k + 1) x) : OnWay E from_ m x k (L ++ [x]) := by
  obtain ⟨⟨t, rfl, hl, ht⟩, _⟩ := h
  refine ⟨⟨t ++ [x], rfl, by simp; omega, fun r hr => ?_⟩, next_more hn⟩
  rw [List.append_assoc]
  exact ht _ ⟨x, r, rfl, hn, hr⟩
theorem OnWay.fin {E : List (S24 × S24)} {from_ : S24} {m : Nat} {a : S24} {L : List S24} (h : OnWay E from_ m a 0 L) (hs : Rc.Shortest ltI E from_ m) : Rc.Round ltI E from_ (some L) := by
  obtain ⟨⟨t, rfl, hl, ht⟩, _⟩ := h
  exact .inr ⟨m, t, hs, rfl, by simpa using ht [] rfl⟩
theorem set_one {W : World} {b i : Nat} {cur : Array Value} {t : TypeId} (h : W.heap[b]? = some (.cells cur t (0, 0))) (v : Value) : (W.setCell ⟨b, i, none⟩ v).heap[b]? = some (.cells (cur.setIfInBounds i v) t (0, 0)) := by
  obtain ⟨hlt, hk⟩ := Array.getElem?_eq_some_iff.1 h
  show (W.heap.modify b _)[b]? = _
  rw [Array.getElem?_eq_getElem (by rw [Array.size_modify]; exact hlt), Array.getElem_modify_self, hk]
  rfl
/-- an identity stored into its block -/
theorem set_id {W : World} {b : Nat} {a : S24} (h : W.heap[b]? = some (.cells #[.int .i64 a.f0, .int .i64 a.f1] 24 (0, 0))) (x : S24) :
    ((W.setCell ⟨b, 0, none⟩ (.int .i64 x.f0)).setCell ⟨b, 1, none⟩ (.int .i64 x.f1)).heap[b]? = some (.cells #[.int .i64 x.f0, .int .i64 x.f1] 24 (0, 0)) := set_one (set_one h _) _
theorem set_grown (W : World) (b : Nat) (u v : Value) : W.grownBy ((W.setCell ⟨b, 0, none⟩ u).setCell ⟨b, 1, none⟩ v) (some b) := by
  have h1 := grownBy_setCell' W b u
  have h2 : ∀ W : World, W.grownBy (W.setCell ⟨b, 1, none⟩ v) (some b) := fun W => ⟨rfl, rfl, rfl, (KeepsWalks.setCell W _ v).size, fun k _ hk => Below.heap_setCell _ _ _ k (fun e => hk (by rw [e]))⟩
  have h3 := h2 (W.setCell ⟨b, 0, none⟩ u)
  exact ⟨rfl, rfl, rfl, Nat.le_trans h1.size h3.size, fun k hk hne => (h3.block k (Nat.lt_of_lt_of_le hk h1.size) hne).trans (h1.block k hk hne)⟩
end Go.Proofs.Ytdepmcofnlggaaa.PResolverCycles
end
section
set_option linter.unusedVariables false
set_option linter.unusedSimpArgs false
attribute [local go_sem ↓] Go.wp_at_zero Go.wp_at_succ
namespace Go.Proofs.Ytdepmcofnlggaaa.PResolverCycles
open Go.RowKit Go.Proofs.YtdepmcofnlggaaaW.PrintWords Go.Proofs.YtdepmcofnlggaaaW.PrintLast Go.Proofs.YtdepmcofnlggaaaW.PrintMore
open Classical

set_option maxHeartbeats 2000000 in
set_option maxRecDepth 20000 in
theorem least_walk (w : World) (base B fb : Nat) (f : S24 → List S24) (gg cc : S24 → Nat) (l : List S26) (from_ : S24) (hR : RowsMap w base B f gg cc) (hso : ∀ a, Rc.SortedOf ltI (rowOf (·.f1) (·.f2) l a) (f a))
    (hfl : ∀ a, (f a).length ≤ 1000) (hM : MapIs w fb (farV (Rc.dist ltI (edgesOf l) from_))) (hfr : InId from_) (hin : ∀ e ∈ l, InId e.f1 ∧ InId e.f2) (hlen : l.length ≤ 1000) :
    Calls Try.prog 29 #[.map (some B), .map (some fb), idV from_] w fun e w' =>
      ∃ v r, e = .returned v ∧ Rc.Round ltI (edgesOf l) from_ r ∧ (r = none → v = .slice none 0 0) ∧ (∀ L, r = some L → ∃ ad c, v = .slice (some ad) L.length c ∧ L.length ≤ c ∧ IdsAt w' ad L) ∧ Below w.heap.size w w' := by
  have hmem : ∀ a x, x ∈ f a ↔ (a, x) ∈ edgesOf l := fun a x => ((hso a).2 x).trans (mem_rowOf l a x)
  have hfin : ∀ a x, x ∈ f a → InId x := fun a x hx => by
    have h1 := (mem_rowOf l a x).2 ((hmem a x).1 hx)
    obtain ⟨e, he, rfl⟩ := List.mem_map.1 h1
    exact (hin e (List.mem_filter.1 he).1).2
  have hdl : ∀ x k, Rc.dist ltI (edgesOf l) from_ x = some k → k ≤ 1000 := fun x k h => by
    have h1 := Rc.lev_top h
    rw [edges_len] at h1
    omega
  replace hmem := Go.Lib.hid hmem
  replace hfin := Go.Lib.hid hfin
  replace hdl := Go.Lib.hid hdl
  replace hso := Go.Lib.hid hso
  replace hfl := Go.Lib.hid hfl
  replace hin := Go.Lib.hid hin
  replace hlen := Go.Lib.hid hlen
  have hS := lm_start w fb from_
  obtain ⟨c4, c5, c51, c7, f7⟩ := hS.cells
  have hRS := hR.below hS.below
  have hL := hRS.map.lookup (t := 54) Try.underlying54 (zero27 _) hfr false
  simp only [Bool.false_eq_true, if_false] at hL
  have hrow : ∃ ra rc, (rowF f gg cc from_).getD (.slice none 0 0) = .slice ra (f from_).length rc ∧ (f from_ ≠ [] → ∃ g c, ra = some ⟨g, 0, none⟩ ∧ IdRow w base g c (f from_)) := by
    unfold rowF
    by_cases e : f from_ = []
    · rw [if_pos e, e]; exact ⟨none, 0, rfl, fun h => absurd rfl h⟩
    · rw [if_neg e]; exact ⟨_, _, rfl, fun _ => ⟨_, _, rfl, hR.rows from_ e⟩⟩
  obtain ⟨ra, rc, hre, hrow⟩ := hrow
  rw [hre] at hL
  clear hre hRS
  obtain ⟨nr, hnr⟩ : ∃ n, n = (f from_).length := ⟨_, rfl⟩
  rw [← hnr] at hL
  replace hnr := Go.Lib.hid hnr
  replace hrow := Go.Lib.hid hrow
  replace hS := Go.Lib.hid hS
  replace hR := Go.Lib.hid hR
  replace hM := Go.Lib.hid hM
  unfold idV at hL ⊢
  go_enter Try.func29, Try.ntmps29
  go_wp2_with fail
  obtain ⟨T4, h4⟩ : ∃ x, x = w.heap.size := ⟨_, rfl⟩
  obtain ⟨T5, h5⟩ : ∃ x, x = w.heap.size + 1 := ⟨_, rfl⟩
  obtain ⟨T7, h7⟩ : ∃ x, x = w.heap.size + 2 := ⟨_, rfl⟩
  rw [show w.heap.size + 1 + 1 = w.heap.size + 2 from rfl]
  clear c4 c5 c51 c7 f7
  rw [← h7, ← h5, ← h4] at hS
  rw [← h7, ← h5, ← h4]
  replace h4 := Go.Lib.hid h4
  replace h5 := Go.Lib.hid h5
  replace h7 := Go.Lib.hid h7
  generalize ((w.alloc (.cells #[.map (some fb)] 62)).alloc (.cells #[.int .i64 from_.f0, .int .i64 from_.f1] 24)).alloc (.cells #[.int .i64 (-1)] 3) = W3 at *
  clear hL
  go_loopg [19] nr (fun k v19 wr => ∃ (i : Nat) (best : Int), k = nr - i ∧ i ≤ nr ∧ v19 = .int .i64 (i : Int) ∧ LM w wr fb T4 T5 T7 from_ best ∧ BestOf (Rc.dist ltI (edgesOf l) from_) ((f from_).take i) best)
  case atStart => exact ⟨0, -1, rfl, Nat.zero_le _, rfl, hS.out, .inl ⟨rfl, fun x hx => by simp at hx⟩⟩
  case round =>
    clear hS
    obtain ⟨i, best, hk, hi, rfl, hLM, hBest⟩ := hrel
    by_cases hlt : i < nr
    · have hil : i < (f from_).length := by rw [← hnr.out]; exact hlt
      have hltz : (i : Int) < (nr : Int) := by omega
      obtain ⟨gw, cw, hra, hrw⟩ := hrow.out (fun e => by rw [e] at hil; exact Nat.not_lt_zero _ hil)
      subst hra
      obtain ⟨a0, a1⟩ := idrow_cell hrw i hil
      replace a0 := pw_cell_below hLM.below a0
      replace a1 := pw_cell_below hLM.below a1
      have hxi := hfin.out from_ _ (List.getElem_mem hil)
      have htk : (f from_).take (i + 1) = (f from_).take i ++ [(f from_)[i]] := by rw [List.take_add_one, List.getElem?_eq_getElem hil]; rfl
      have hi1000 : i < 1000 := Nat.lt_of_lt_of_le hil (hfl.out from_)
      replace htk := Go.Lib.hid htk
      generalize (f from_)[i] = x at *
      have hn1 : wrap64 ((i : Int) + 1) = ((i + 1 : Nat) : Int) := by
        clear hk hlt hil hltz hi
        unfold wrap64; omega
      replace hn1 := Go.Lib.hid hn1
      replace hk := Go.Lib.hid hk
      clear hil hrw hi1000
      have hLV := hLM.later (below_alloc (Below.refl wr.heap.size wr) (.cells #[.int .i64 x.f0, .int .i64 x.f1] 24))
      have hx := heap_alloc_new wr (.cells #[.int .i64 x.f0, .int .i64 x.f1] 24)
      go_upto_region 5 with fail
      obtain ⟨gx, hgx⟩ : ∃ y, y = wr.heap.size := ⟨_, rfl⟩
      rw [← hgx] at hx
      rw [← hgx]
      generalize wr.alloc (.cells #[.int .i64 x.f0, .int .i64 x.f1] 24) = V at *
      clear hgx a0 a1 hLM
      have e0 := blk_cell hx 0
      have e1 := blk_cell hx 1
      simp only [List.getElem?_toArray, List.getElem?_cons_zero, List.getElem?_cons_succ] at e0 e1
      clear hx
      obtain ⟨c4, c5, c51, c7, f7⟩ := hLV.cells
      have hLf := (hM.out.below hLV.below).lookup (t := 62) Try.underlying62 (zero3 V) hxi true
      simp only [if_true] at hLf
      unfold idV at hLf
      cases hfar : Rc.dist ltI (edgesOf l) from_ x with
      | none =>
        have hfv : farV (Rc.dist ltI (edgesOf l) from_) x = none := by unfold farV; rw [hfar]; rfl
        rw [hfv] at hLf
        simp only [Option.getD_none, Option.isSome_none] at hLf
        clear hfv
        have hB2 := Go.Lib.hid (hBest.skip hfar)
        replace hfar := Go.Lib.hid hfar
        replace hLV := Go.Lib.hid hLV
        clear hBest
        go_wp2_with fail
        rw [hn1.out]
        go_roundg (nr - (i + 1))
        case rel => exact ⟨i + 1, best, rfl, hlt, rfl, hLV.out, by rw [htk.out]; exact hB2.out⟩
        case measure => have := hk.out; omega
      | some n =>
        have hfv : farV (Rc.dist ltI (edgesOf l) from_) x = some (.int .i64 (n : Int)) := by unfold farV; rw [hfar]; rfl
        rw [hfv] at hLf
        simp only [Option.getD_some, Option.isSome_some] at hLf
        clear hfv
        have hlo := hBest.lo
        by_cases hb : best < 0
        · have hB2 := Go.Lib.hid (hBest.better hfar (.inl hb))
          replace hfar := Go.Lib.hid hfar
          replace hLS := Go.Lib.hid (hLV.set n)
          clear hBest hLV hlo
          go_wp2_with fail
          rw [hn1.out]
          go_roundg (nr - (i + 1))
          case rel => exact ⟨i + 1, n, rfl, hlt, rfl, hLS.out, by rw [htk.out]; exact hB2.out⟩
          case measure => have := hk.out; omega
        · by_cases hb2 : (n : Int) < best
          · have hB2 := Go.Lib.hid (hBest.better hfar (.inr hb2))
            replace hfar := Go.Lib.hid hfar
            replace hLS := Go.Lib.hid (hLV.set n)
            clear hBest hLV hlo
            go_wp2_with fail
            rw [hn1.out]
            go_roundg (nr - (i + 1))
            case rel => exact ⟨i + 1, n, rfl, hlt, rfl, hLS.out, by rw [htk.out]; exact hB2.out⟩
            case measure => have := hk.out; omega
          · have hB2 := Go.Lib.hid (hBest.keep hfar (by omega) (by omega))
            replace hfar := Go.Lib.hid hfar
            replace hLV := Go.Lib.hid hLV
            clear hBest hlo
            go_wp2_with fail
            rw [hn1.out]
            go_roundg (nr - (i + 1))
            case rel => exact ⟨i + 1, best, rfl, hlt, rfl, hLV.out, by rw [htk.out]; exact hB2.out⟩
            case measure => have := hk.out; omega
    · have hin2 : i = nr := by omega
      have hB2 : BestOf (Rc.dist ltI (edgesOf l) from_) (f from_) best := by rw [hin2, hnr.out, List.take_length] at hBest; exact hBest
      obtain ⟨c4, c5, c51, c7, f7⟩ := hLM.cells
      subst hin2
      clear hBest hk
      by_cases hb : best < 0
      · have hno := Go.Lib.hid (hB2.no (hmem.out from_) hb)
        replace hLM := Go.Lib.hid hLM
        clear hB2
        go_wp2_with fail
        go_ret
        exact ⟨_, none, rfl, hno.out, fun _ => rfl, (fun L h => by cases h), hLM.out.below⟩
      · obtain ⟨m, hm, hSh⟩ := hB2.yes (hmem.out from_) hb
        subst hm
        clear hB2
        have hs4 := below_alloc (Below.refl wr.heap.size wr) (.cells #[.int .i64 from_.f0, .int .i64 from_.f1] 24)
        have hL4 := hLM.later hs4
        have hn4 := heap_alloc_new wr (.cells #[.int .i64 from_.f0, .int .i64 from_.f1] 24)
        have hz4 : (wr.alloc (.cells #[.int .i64 from_.f0, .int .i64 from_.f1] 24)).heap.size = wr.heap.size + 1 := by simp
        have hb7 : T7 < wr.heap.size := hLM.b7.lt
        obtain ⟨d4, d5, d51, d7, f7'⟩ := hL4.cells
        have hs5 := below_alloc (Below.refl _ (wr.alloc (.cells #[.int .i64 from_.f0, .int .i64 from_.f1] 24))) (.cells #[.int .i64 from_.f0, .int .i64 from_.f1] 24)
        have hn5 := heap_alloc_new (wr.alloc (.cells #[.int .i64 from_.f0, .int .i64 from_.f1] 24)) (.cells #[.int .i64 from_.f0, .int .i64 from_.f1] 24)
        rw [hz4] at hn5
        have hL5 := hL4.later hs5
        have hQ5 : QueueAt ((wr.alloc (.cells #[.int .i64 from_.f0, .int .i64 from_.f1] 24)).alloc (.cells #[.int .i64 from_.f0, .int .i64 from_.f1] 24)) (T7 + 1) wr.heap.size 0 1 [from_] := by
          refine ⟨_, (hs5.block _ (by omega)).trans hn4, by omega, by simp, by simp [maxLen], by simp, by simp [idc, encId]⟩
        obtain ⟨G1, hG1⟩ : ∃ y, y = wr.heap.size := ⟨_, rfl⟩
        rw [← hG1] at hz4 hn5 hQ5 hb7
        replace hL5 := Go.Lib.hid hL5
        replace hQ5 := Go.Lib.hid hQ5
        replace hSh := Go.Lib.hid hSh
        replace hn5 := Go.Lib.hid hn5
        clear hs4 hs5 hn4 hL4 hLM hz4
        go_wp2_with fail
        rw [← hG1]
        clear hG1
        generalize (wr.alloc (.cells #[.int .i64 from_.f0, .int .i64 from_.f1] 24)).alloc (.cells #[.int .i64 from_.f0, .int .i64 from_.f1] 24) = W5 at *
        clear c4 c5 c51 c7 f7 d4 d5 d51 d7 f7'
        go_loopg [12, 13] m (fun k v12 v13 wq => ∃ (a : S24) (L : List S24) (gq oq cq ba : Nat), v12 = .slice (some ⟨gq, oq * 2, none⟩) L.length cq ∧ v13 = .pointer (some ⟨ba, 0, none⟩) ∧ LM w wq fb T4 T5 T7 from_ (k : Int) ∧ QueueAt wq (T7 + 1) gq oq cq L ∧
          wq.heap[ba]? = some (.cells #[.int .i64 a.f0, .int .i64 a.f1] 24 (0, 0)) ∧ T7 < ba ∧ gq ≠ ba ∧ InId a ∧ OnWay (edgesOf l) from_ m a k L)
        case atStart => exact ⟨from_, [from_], G1, 0, 1, G1 + 1, rfl, rfl, hL5.out, hQ5.out, hn5.out, by omega, by omega, hfr, onWay_start hSh.out⟩
        case round =>
          clear hL5 hQ5 hn5
          obtain ⟨k, hk⟩ : ∃ k, k = gk := ⟨_, rfl⟩
          subst hk
          obtain ⟨a, L, gq, oq, cq, ba, rfl, rfl, hLM, hQ, ha, hba, hgb, hai, hOn⟩ := hrel
          obtain ⟨c4, c5, c51, c7, f7⟩ := hLM.cells
          rcases Nat.eq_zero_or_pos k with hk0 | hkp
          · subst hk0
            have hids := Go.Lib.hid hQ.ids
            have hcap := Go.Lib.hid (show L.length ≤ cq from by obtain ⟨_, _, _, h, _⟩ := hQ; exact h)
            have hRo := Go.Lib.hid (hOn.fin hSh.out)
            replace hLM := Go.Lib.hid hLM
            clear hOn hQ
            obtain ⟨nL, hnL⟩ : ∃ n, n = L.length := ⟨_, rfl⟩
            rw [← hnL]
            replace hnL := Go.Lib.hid hnL
            go_wp2_with fail
            go_ret
            exact ⟨_, some L, rfl, hRo.out, (fun h => by cases h), (fun L' h => by cases h; exact ⟨_, _, by rw [hnL.out]; rfl, hcap.out, hids.out⟩), hLM.out.below⟩
          · obtain ⟨j, hj⟩ : ∃ j, k = j + 1 := ⟨k - 1, by omega⟩
            have hpz : (0 : Int) < (k : Int) := by omega
            have hex := hOn.2
            have hfa : f a ≠ [] := by
              obtain ⟨g, hg, _⟩ := hex
              intro e
              have := (hmem.out a g).2 hg
              rw [e] at this; cases this
            have hk1000 : k ≤ 1000 := by obtain ⟨g, _, hg⟩ := hex; exact hdl.out g k hg
            obtain ⟨a0, a1⟩ : wr.cell? ⟨ba, 0, none⟩ = some (.int .i64 a.f0) ∧ wr.cell? ⟨ba, 1, none⟩ = some (.int .i64 a.f1) := ⟨by rw [blk_cell ha]; rfl, by rw [blk_cell ha]; rfl⟩
            have hRo := hR.out.below hLM.below
            have hLa := hRo.map.lookup (t := 54) Try.underlying54 (zero27 wr) hai false
            have hrf : rowF f gg cc a = some (rowV f gg cc a) := by unfold rowF; rw [if_neg hfa]
            rw [hrf] at hLa
            simp only [Bool.false_eq_true, if_false, Option.getD_some] at hLa
            have H := index_walk wr (gg a) 0 (cc a) (f a) ⟨T4, 0, none⟩ ⟨T7, 0, none⟩ ⟨T5, 0, none⟩ (fun x => decide (Rc.dist ltI (edgesOf l) from_ x = some k ∧ x ≠ from_)) (idrow_ids (hRo.rows a hfa)) (Nat.le_trans (hfl.out a) (by omega))
              (fun x hx u hu => by
                have h := hLM.later hu
                obtain ⟨q4, q5, q51, q7, _⟩ := h.cells
                exact pick_walk u fb T4 T7 T5 (Rc.dist ltI (edgesOf l) from_) k from_ x (hM.out.below h.below) q4 q7 q5 q51 (hfin.out a x hx))
            unfold rowV idV at hLa
            obtain ⟨na, hna⟩ : ∃ n, n = (f a).length := ⟨_, rfl⟩
            obtain ⟨nL, hnL⟩ : ∃ n, n = L.length := ⟨_, rfl⟩
            rw [← hna] at hLa H
            rw [← hnL]
            replace hna := Go.Lib.hid hna
            replace hnL := Go.Lib.hid hnL
            replace hj := Go.Lib.hid hj
            replace hex := Go.Lib.hid hex
            replace hfa := Go.Lib.hid hfa
            replace hk1000 := Go.Lib.hid hk1000
            replace hkp := Go.Lib.hid hkp
            clear hrf hRo
            replace hLM := Go.Lib.hid hLM
            go_upto_region 16 with (go_at_call 65; refine H.mono ?_; rintro e u ⟨r, rfl, hFi, hu⟩)
            obtain ⟨i, x, hix, rfl, hNx⟩ := first_next (to_ := from_) (n := k) (hso.out a).1 (hmem.out a) (fun _ => rfl) hkp.out hFi hex.out
            replace hLM := hLM.out.later hu
            replace ha := (hu.block _ (lt_of_block ha)).trans ha
            replace hQ := queue_block hQ (fun i _ hi => hu.block i hi)
            have hRo := hR.out.below hLM.below
            have hLa2 := hRo.map.lookup (t := 54) Try.underlying54 (zero27 u) hai false
            have hrf : rowF f gg cc a = some (rowV f gg cc a) := by unfold rowF; rw [if_neg hfa.out]
            rw [hrf] at hLa2
            simp only [Bool.false_eq_true, if_false, Option.getD_some] at hLa2
            unfold rowV idV at hLa2
            rw [← hna.out] at hLa2
            obtain ⟨b0, b1⟩ : u.cell? ⟨ba, 0, none⟩ = some (.int .i64 a.f0) ∧ u.cell? ⟨ba, 1, none⟩ = some (.int .i64 a.f1) := ⟨by rw [blk_cell ha]; rfl, by rw [blk_cell ha]; rfl⟩
            obtain ⟨hil, hie⟩ := List.getElem?_eq_some_iff.1 hix
            obtain ⟨x0, x1⟩ := idrow_cell (hRo.rows a hfa.out) i hil
            rw [hie] at x0 x1
            have hilz : (i : Int) < (na : Int) := by rw [hna.out]; omega
            have hxi := hfin.out a x (by rw [← hie]; exact List.getElem_mem hil)
            have hfz : u.frozen? ⟨ba, 0, none⟩ = false := by simp [World.frozen?, ha]
            have hset := set_id ha x
            have hfz1 : u.frozen? ⟨ba, 1, none⟩ = false := by simp [World.frozen?, ha]
            have hgr := set_grown u ba (.int .i64 x.f0) (.int .i64 x.f1)
            have hT45 : T4 ≠ ba ∧ T5 ≠ ba ∧ T7 ≠ ba ∧ w.heap.size ≤ ba := by have := h4.out; have := h5.out; have := h7.out; omega
            have hLM6 := hLM.kept hgr (fun k e => by cases e; exact ⟨hT45.2.2.2, fun e => hT45.1 e.symm, fun e => hT45.2.1 e.symm, fun e => hT45.2.2.1 e.symm⟩)
            have hQ6 := hQ.block (hgr.block gq hQ.lt.2 (fun e => hgb (by cases e; rfl)))
            replace hLM := Go.Lib.hid hLM
            replace hNx := Go.Lib.hid hNx
            clear H hLa hRo a0 a1 c4 c5 c51 c7 f7 hrf hil hie hix hFi hu hgr hT45
            go_upto_region 17 with fail
            clear hLa2 b0 b1 x0 x1 hilz hfz hfz1 ha hQ hLM
            obtain ⟨W6, hW6⟩ : ∃ W, W = (u.setCell ⟨ba, 0, none⟩ (.int .i64 x.f0)).setCell ⟨ba, 1, none⟩ (.int .i64 x.f1) := ⟨_, rfl⟩
            rw [← hW6] at hset hLM6 hQ6 ⊢
            clear hW6
            obtain ⟨x0, x1⟩ : W6.cell? ⟨ba, 0, none⟩ = some (.int .i64 x.f0) ∧ W6.cell? ⟨ba, 1, none⟩ = some (.int .i64 x.f1) := ⟨by rw [blk_cell hset]; rfl, by rw [blk_cell hset]; rfl⟩
            have hA := below_alloc (Below.refl W6.heap.size W6) (.cells #[.int .i64 x.f0, .int .i64 x.f1] 24)
            have hLM7 := hLM6.later hA
            have hQ7 := hQ6.block (hA.block gq hQ6.lt.2)
            have hb7 := (hA.block _ (lt_of_block hset)).trans hset
            have hLl : L.length ≤ 1000000 := by
              obtain ⟨⟨t, rfl, hl, _⟩, _⟩ := hOn
              have : m ≤ 1000 := by obtain ⟨g, _, hg⟩ := hSh.out.1; exact hdl.out g m hg
              simp; omega
            obtain ⟨g', o', c', w8, hap, hQ8, hg8, hg'⟩ := hQ7.push (by have := hLM7.b7.lt; omega) (by omega) x ⟨W6.heap.size, 0, none⟩ 1 (id_cells W6 x) 27
            have hb8 := (hg8.block ba (lt_of_block hb7) (fun e => hgb (by cases e; rfl))).trans hb7
            have hgT : T4 ≠ gq ∧ T5 ≠ gq ∧ T7 ≠ gq ∧ w.heap.size ≤ gq := by have := h4.out; have := h5.out; have := h7.out; have := hQ7.lt; omega
            have hLM8 := hLM7.kept hg8 (fun k e => by cases e; exact ⟨hgT.2.2.2, fun e => hgT.1 e.symm, fun e => hgT.2.1 e.symm, fun e => hgT.2.2.1 e.symm⟩)
            rw [← hnL.out] at hap
            obtain ⟨y0, y1⟩ : w8.cell? ⟨ba, 0, none⟩ = some (.int .i64 x.f0) ∧ w8.cell? ⟨ba, 1, none⟩ = some (.int .i64 x.f1) := ⟨by rw [blk_cell hb8]; rfl, by rw [blk_cell hb8]; rfl⟩
            have hA9 := below_alloc (Below.refl w8.heap.size w8) (.cells #[.int .i64 x.f0, .int .i64 x.f1] 24)
            have hLM9 := hLM8.later hA9
            have hQ9 := hQ8.block (hA9.block g' hQ8.lt.2)
            have hn9 := heap_alloc_new w8 (.cells #[.int .i64 x.f0, .int .i64 x.f1] 24)
            obtain ⟨_, _, _, c7, f7⟩ := hLM9.cells
            have hb9 : T7 < w8.heap.size := hLM8.b7.lt
            have hg9 : g' < w8.heap.size := hQ8.lt.2
            have hLMs0 := hLM8.set (j : Int)
            have hgs := grownBy_setCell' w8 T7 (.int .i64 (j : Int))
            have hQs0 := hQ8.block (hgs.block g' hQ8.lt.2 (fun e => by have := hQ8.lt.1; cases e; omega))
            have hszs : (w8.setCell ⟨T7, 0, none⟩ (.int .i64 (j : Int))).heap.size = w8.heap.size := by simp [World.setCell]
            have hAs := below_alloc (Below.refl _ (w8.setCell ⟨T7, 0, none⟩ (.int .i64 (j : Int)))) (.cells #[.int .i64 x.f0, .int .i64 x.f1] 24)
            have hLMs := hLMs0.later hAs
            have hQs := hQs0.block (hAs.block g' hQs0.lt.2)
            have hns := heap_alloc_new (w8.setCell ⟨T7, 0, none⟩ (.int .i64 (j : Int))) (.cells #[.int .i64 x.f0, .int .i64 x.f1] 24)
            rw [hszs] at hns
            have hsub : wrap64 ((k : Int) - 1) = (j : Int) := by
              have h1 := hj.out
              have h2 := hk1000.out
              clear hpz hi hlt hOn hb hba
              unfold wrap64; omega
            have hOn2 : OnWay (edgesOf l) from_ m x j (L ++ [x]) := by have h1 := hj.out; subst h1; exact hOn.step hNx.out
            have hsub2 : IntKind.i64.wrap ((k : Int) - 1) = (j : Int) := (IntWalk.i64_left _).trans hsub
            replace hsub := Go.Lib.hid hsub
            replace hsub2 := Go.Lib.hid hsub2
            replace hOn2 := Go.Lib.hid hOn2
            replace hLMs := Go.Lib.hid hLMs
            replace hQs := Go.Lib.hid hQs
            replace hns := Go.Lib.hid hns
            replace hg' := Go.Lib.hid hg'
            clear hOn hLM7 hLM8 hLM9 hQ7 hQ8 hQ9 hQ6 hLM6 hA hA9 hb7 hb8 hg8 hgT hgs hn9 hset hLl hAs hszs hQs0 hLMs0
            go_wp2_with (first | (at_builtin; refine wpList_append_run rfl (.tmp 61) (.tmp 63) 27 rfl _ _ _ _ rfl rfl hap ?_))
            rw [hsub.out]
            go_roundg j
            case rel => exact ⟨x, L ++ [x], g', o', c', w8.heap.size, by rw [hnL.out, List.length_append]; rfl, rfl, hLMs.out, hQs.out, hns.out, hb9, by omega, hxi, hOn2.out⟩
            case measure => have := hj.out; omega
end Go.Proofs.Ytdepmcofnlggaaa.PResolverCycles
end
section
set_option linter.unusedVariables false
set_option linter.unusedSimpArgs false
attribute [local go_sem ↓] Go.wp_at_zero Go.wp_at_succ
namespace Go.Proofs.Ytdepmcofnlggaaa.PResolverCycles
open Go.RowKit Go.Proofs.YtdepmcofnlggaaaW.PrintWords Go.Proofs.YtdepmcofnlggaaaW.PrintLast Go.Proofs.YtdepmcofnlggaaaW.PrintMore
open Classical

theorem clone_none (w : World) : Calls Try.prog 60 #[.slice none 0 0] w fun e w' => e = .returned (.slice none 0 0) ∧ w' = w := by
  have heq := Lib.run_eql_slice_nil (P := Try.prog) w 27 24 none 0 0 0 0 Try.underlying27
  go_enter Try.func60, Try.ntmps60
  go_wp2_with fail
  go_ret
  exact ⟨rfl, rfl⟩
theorem compact_none (w : World) : Calls Try.prog 62 #[.slice none 0 0] w fun e w' => e = .returned (.slice none 0 0) ∧ w' = w := by
  go_enter Try.func62, Try.ntmps62
  go_wp2_with fail
  go_ret
  exact ⟨rfl, rfl⟩
theorem age_sort_none (w : World) : Calls Try.prog 26 #[.slice none 0 0] w fun e w' => e = .returned (.slice none 0 0) ∧ w' = w := by
  have H1 := clone_none w
  have hS := AnyF.slices_SortFunc_none Try.sortId none 0 (.func (.func 24) #[] #[]) w
  have H2 : Calls Try.prog 61 #[.slice none 0 0, .func (.func 24) #[] #[]] w fun e w' => e = .returned (.tuple #[]) ∧ w' = w := hS
  have H3 := compact_none w
  clear hS
  go_enter Try.func26, Try.ntmps26
  go_upto_region 2 with (go_at_call 60; refine H1.mono ?_; rintro e w1 ⟨rfl, rfl⟩)
  go_upto_region 3 with (go_at_call 61; refine H2.mono ?_; rintro e w2 ⟨rfl, rfl⟩)
  go_wp2_with (go_at_call 62; refine H3.mono ?_; rintro e w3 ⟨rfl, rfl⟩)
  go_ret
  exact ⟨rfl, rfl⟩
/-- .. of a row of the call's own, nil or not -/
theorem age_sort_own (w : World) (base : Nat) (v : Value) (xs : List S24) (h : w.ownsRow base 24 2 v xs.length (idc xs)) (hn : v = .slice none 0 0 ↔ xs = []) (hm : xs.length ≤ 1000000) :
    Calls Try.prog 26 #[v] w fun e w' => ∃ sa sc s, e = .returned (.slice sa s.length sc) ∧ Rc.SortedOf ltI xs s ∧ (s ≠ [] → ∃ g, sa = some ⟨g, 0, none⟩ ∧ IdRow w' w.heap.size g sc s) ∧ Below w.heap.size w w' := by
  by_cases e : xs = []
  · rw [hn.2 e]
    refine (age_sort_none w).mono ?_
    rintro e' w' ⟨rfl, rfl⟩
    exact ⟨none, 0, [], rfl, by rw [e]; exact ⟨List.Pairwise.nil, fun _ => Iff.rfl⟩, fun h => absurd rfl h, Below.refl _ _⟩
  · have hl : 0 < xs.length := List.length_pos_iff.2 e
    obtain ⟨g, c, rfl, _, hr, _, _⟩ := own_idrow h hl
    refine (age_sort w ⟨g, 0, none⟩ c xs (idrow_ids hr) hl (by omega)).mono ?_
    rintro e' w' ⟨g', c', s, rfl, hs, hr', hb⟩
    exact ⟨_, c', s, rfl, hs, fun _ => ⟨g', rfl, hr'⟩, hb⟩
/-- the keys of a map of rows -/
theorem rows_keys {w : World} {base b : Nat} {f : S24 → List S24} {g c : S24 → Nat} (h : RowsMap w base b f g c) (l : List S26) (hl : ∀ a, f a ≠ [] ↔ rowOf (·.f1) (·.f2) l a ≠ []) :
    ∃ L, MapAt Try.prog 24 w b L ∧ (∀ p ∈ L, ∃ a, InId a ∧ p.1 = idV a) ∧ (∀ a, (∃ (i : Nat) (v : Value), L[i]? = some (idV a, v)) ↔ a ∈ l.map (·.f1)) ∧ L.length ≤ l.length := by
  obtain ⟨L, h1, h2, h3⟩ := h.map
  have key : ∀ a, (∃ (i : Nat) (v : Value), L[i]? = some (idV a, v)) ↔ a ∈ l.map (·.f1) := by
    intro a
    have e1 : (∃ (i : Nat) (v : Value), L[i]? = some (idV a, v)) ↔ f a ≠ [] := by
      constructor
      · rintro ⟨i, v, hi⟩ e
        have h4 := atK_at h1.nodup i _ hi rfl
        rw [h3 a] at h4
        unfold rowF at h4
        rw [if_pos e] at h4
        cases h4
      · intro e
        have h4 := h3 a
        unfold rowF at h4
        rw [if_neg e] at h4
        obtain ⟨p, hp, hpx⟩ := atK_some h4
        obtain ⟨i, hi⟩ := List.getElem?_of_mem hp
        exact ⟨i, p.2, by rw [hi, ← hpx]⟩
    rw [e1, hl a]
    unfold rowOf
    constructor
    · intro h
      obtain ⟨x, hx⟩ := List.exists_mem_of_ne_nil _ h
      obtain ⟨e, he, _⟩ := List.mem_map.1 hx
      have := List.mem_filter.1 he
      exact List.mem_map.2 ⟨e, this.1, of_decide_eq_true this.2⟩
    · intro h e0
      obtain ⟨e, he, rfl⟩ := List.mem_map.1 h
      have h5 : e.f2 ∈ (l.filter (fun e' => decide (e'.f1 = e.f1))).map (·.f2) := List.mem_map.2 ⟨e, List.mem_filter.2 ⟨he, by simp⟩, rfl⟩
      rw [e0] at h5
      cases h5
  refine ⟨L, h1, h2, key, ?_⟩
  have h6 := Rc.nodup_len (c := L.map (·.1)) (l := l.map (fun e => idV e.f1)) h1.nodup (fun y hy => by
    obtain ⟨p, hp, rfl⟩ := List.mem_map.1 hy
    obtain ⟨a, _, ha⟩ := h2 p hp
    obtain ⟨i, hi⟩ := List.getElem?_of_mem hp
    have := (key a).1 ⟨i, p.2, by rw [hi, ← ha]⟩
    obtain ⟨e, he, rfl⟩ := List.mem_map.1 this
    rw [ha]
    exact List.mem_map.2 ⟨e, he, rfl⟩)
  simpa using h6
end Go.Proofs.Ytdepmcofnlggaaa.PResolverCycles
end
section
set_option linter.unusedVariables false
set_option linter.unusedSimpArgs false
attribute [local go_sem ↓] Go.wp_at_zero Go.wp_at_succ
namespace Go.Proofs.Ytdepmcofnlggaaa.PResolverCycles
open Go.RowKit Go.Proofs.YtdepmcofnlggaaaW.PrintWords Go.Proofs.YtdepmcofnlggaaaW.PrintLast Go.Proofs.YtdepmcofnlggaaaW.PrintMore
open Classical

/-- a value that is a round, or none -/
def RoundV (w : World) (v : Value) (r : Option (List S24)) : Prop := (r = none → v = .slice none 0 0) ∧ ∀ L, r = some L → ∃ ad c, v = .slice (some ad) L.length c ∧ L.length ≤ c ∧ IdsAt w ad L
theorem RoundV.below {w w' : World} {v : Value} {r : Option (List S24)} (h : RoundV w v r) (hb : Below w.heap.size w w') : RoundV w' v r :=
  ⟨h.1, fun L e => by obtain ⟨ad, c, h1, h3, h2⟩ := h.2 L e; exact ⟨ad, c, h1, h3, h2.below hb⟩⟩
set_option maxHeartbeats 2000000 in
set_option maxRecDepth 20000 in
theorem cycle_walk (w : World) (G O c : Nat) (l : List S26) (hE : EdgesAt w G O l) (hc : l.length ≤ c) (hm : l.length ≤ 1000) (hin : ∀ e ∈ l, InId e.f1 ∧ InId e.f2) :
    Calls Try.prog 6 #[.slice (some ⟨G, O, none⟩) l.length c] w fun e w' => ∃ v s r, e = .returned v ∧ Rc.SortedOf ltI (l.map (·.f1)) s ∧ Rc.Least ltI (edgesOf l) s none r ∧ RoundV w' v r ∧ Below w.heap.size w w' := by
  have HG := graph_walk w G O c l hE hc hm hin
  obtain ⟨n, hN⟩ : ∃ n, n = l.length := ⟨_, rfl⟩
  rw [← hN] at HG ⊢
  replace hN := Go.Lib.hid hN
  replace hE := Go.Lib.hid hE
  replace hin := Go.Lib.hid hin
  replace hm := Go.Lib.hid hm
  replace hc := Go.Lib.hid hc
  go_enter Try.func6, Try.ntmps6
  go_upto_region 3 with (go_at_call 25; refine HG.mono ?_; rintro e w1 ⟨b, f, g, cc, rfl, hR, hso, hne, hb1⟩)
  clear HG
  obtain ⟨L, hM, hL, hkeys, hLl⟩ := rows_keys hR l hne
  have hA := below_alloc (Below.refl w1.heap.size w1) (.cells #[.map (some b)] 54)
  have HC := collect_walk (w1.alloc (.cells #[.map (some b)] 54)) w1.heap.size b L (by rw [blk_cell (heap_alloc_new w1 _)]; rfl) (hM.below hA) hL (Nat.le_trans hLl (Nat.le_trans hm.out (by omega)))
  have HK := keys_walk w1 b
  replace hR := Go.Lib.hid hR
  replace hso := Go.Lib.hid hso
  replace hne := Go.Lib.hid hne
  replace hM := Go.Lib.hid hM
  replace hL := Go.Lib.hid hL
  replace hkeys := Go.Lib.hid hkeys
  replace hLl := Go.Lib.hid hLl
  go_wp2_with (first
    | (go_at_call 28; refine HK.mono ?_; rintro e w2 ⟨rfl, rfl⟩)
    | (go_at_call 27; refine HC.mono ?_; rintro e w3 ⟨v3, xs, rfl, hxs, hxl, hrow, hnil, hb3⟩; have HS := age_sort_own w3 _ v3 xs hrow hnil (Nat.le_trans hxl (Nat.le_trans hLl.out (Nat.le_trans hm.out (by omega)))); clear hnil hrow)
    | (go_at_call 26; refine HS.mono ?_; rintro e w4 ⟨sa, sc, s, rfl, hss, hsrow, hb4⟩; obtain ⟨ns, hns⟩ : ∃ n, n = s.length := ⟨_, rfl⟩; rw [← hns]; replace hns := Go.Lib.hid hns))
  have hsin : ∀ x ∈ s, InId x := fun x hx => by
    have h1 := (hkeys.out x).1 ((hxs x).1 ((hss.2 x).1 hx))
    obtain ⟨e, he, rfl⟩ := List.mem_map.1 h1
    exact (hin.out e he).1
  have hfl : ∀ a, (f a).length ≤ 1000 := fun a => by
    have hnd : (f a).Nodup := (hso.out a).1.imp (fun {x y} h e => by subst e; exact tot_id.irr _ h)
    have h1 := Rc.nodup_len hnd (fun y hy => ((hso.out a).2 y).1 hy)
    exact Nat.le_trans h1 (Nat.le_trans (rowOf_len _ _ l a) hm.out)
  have hfinal : Rc.SortedOf ltI (l.map (·.f1)) s := ⟨hss.1, fun x => ((hss.2 x).trans (hxs x)).trans (hkeys.out x)⟩
  have hb34 : Below w1.heap.size w1 w4 := (hA.trans (hb3.mono hA.size)).trans (hb4.mono (by have := hA.size; have := hb3.size; omega))
  have hE4 : ∀ u, Below w4.heap.size w4 u → Below w1.heap.size w1 u := fun u h => hb34.trans (h.mono hb34.size)
  replace hsrow := Go.Lib.hid hsrow
  replace hsin := Go.Lib.hid hsin
  replace hfl := Go.Lib.hid hfl
  replace hfinal := Go.Lib.hid hfinal
  replace hE4 := Go.Lib.hid hE4
  replace hb1 := Go.Lib.hid hb1
  have hnsl : ns ≤ 1000000 := by
    have hnd : s.Nodup := hss.1.imp (fun {x y} h e => by subst e; exact tot_id.irr _ h)
    have h1 := Rc.nodup_len hnd (fun y hy => (hss.2 y).1 hy)
    have := hLl.out; have := hm.out; rw [hns.out]; omega
  replace hnsl := Go.Lib.hid hnsl
  clear HC HK HS hxs hxl hss hA hb3 hb4 hb34
  go_loopg [4, 15] ns (fun k v4 v15 wq => ∃ (i : Nat) (r : Option (List S24)), k = ns - i ∧ i ≤ ns ∧ v15 = .int .i64 (i : Int) ∧ Rc.Least ltI (edgesOf l) (s.take i) none r ∧ RoundV wq v4 r ∧ Below w4.heap.size w4 wq)
  case atStart => exact ⟨0, none, rfl, Nat.zero_le _, rfl, rfl, ⟨fun _ => rfl, fun L h => by cases h⟩, Below.refl _ _⟩
  case round =>
    obtain ⟨i, r, hk, hi, rfl, hLe, hRV, hb⟩ := hrel
    by_cases hlt : i < ns
    · have hil : i < s.length := by rw [← hns.out]; exact hlt
      have hltz : (i : Int) < (ns : Int) := by omega
      obtain ⟨gs, hsa, hsr⟩ := hsrow.out (fun e => by rw [e] at hil; exact Nat.not_lt_zero _ hil)
      subst hsa
      obtain ⟨a0, a1⟩ := idrow_cell hsr i hil
      replace a0 := pw_cell_below hb a0
      replace a1 := pw_cell_below hb a1
      have hxi := hsin.out _ (List.getElem_mem hil)
      have htk : s.take (i + 1) = s.take i ++ [s[i]] := by rw [List.take_add_one, List.getElem?_eq_getElem hil]; rfl
      replace htk := Go.Lib.hid htk
      generalize s[i] = x at *
      have hn1 : wrap64 ((i : Int) + 1) = ((i + 1 : Nat) : Int) := by
        have := hnsl.out
        clear hk hil hltz
        unfold wrap64; omega
      replace hn1 := Go.Lib.hid hn1
      replace hk := Go.Lib.hid hk
      clear hil hsr
      have hV := below_alloc (Below.refl wr.heap.size wr) (.cells #[.int .i64 x.f0, .int .i64 x.f1] 24)
      have hx := heap_alloc_new wr (.cells #[.int .i64 x.f0, .int .i64 x.f1] 24)
      go_upto_region 6 with fail
      have hbV := hb.trans (hV.mono hb.size)
      replace hRV := hRV.below hV
      obtain ⟨gx, hgx⟩ : ∃ y, y = wr.heap.size := ⟨_, rfl⟩
      rw [← hgx] at hx
      rw [← hgx]
      clear hV hgx a0 a1 hb
      generalize wr.alloc (.cells #[.int .i64 x.f0, .int .i64 x.f1] 24) = V at *
      have hD : Below V.heap.size V V.drew := below_drew (Below.refl _ _)
      have hx2 := (hD.block _ (lt_of_block hx)).trans hx
      have hS : V.drew.cell? ⟨gx, 0, none⟩ = some (.int .i64 x.f0) ∧ V.drew.cell? ⟨gx, 1, none⟩ = some (.int .i64 x.f1) := ⟨by rw [blk_cell hx2]; rfl, by rw [blk_cell hx2]; rfl⟩
      have hbD := hbV.trans (hD.mono hbV.size)
      replace hRV := Go.Lib.hid (hRV.below hD)
      have HA := away_walk V.drew G O c l (hE.out.below (hb1.out.trans ((hE4.out _ hbD).mono hb1.out.size))) x hxi hc.out hm.out hin.out
      rw [← hN.out] at HA
      unfold idV at HA
      have hLe' := Go.Lib.hid hLe
      clear hLe hD hx hx2 hbV
      go_region_held_law (fun w' => w'.cell? ⟨gx, 0, none⟩ = some (.int .i64 x.f0) ∧ w'.cell? ⟨gx, 1, none⟩ = some (.int .i64 x.f1))
        (first | exact hS | exact ⟨pw_cell_below hbu hS.1, pw_cell_below hbu hS.2⟩ | exact ⟨pw_cell_below hbz hS2.1, pw_cell_below hbz hS2.2⟩)
        ((first
          | (go_at_call 29; refine HL.mono ?_; rintro e z ⟨vr, r', rfl, hRo, hv0, hv1, hbz⟩)
          | (go_at_call 30; refine HA.mono ?_; rintro e u ⟨fb, rfl, hMu, _, hbu⟩; have hS2 : u.cell? ⟨gx, 0, none⟩ = some (.int .i64 x.f0) ∧ u.cell? ⟨gx, 1, none⟩ = some (.int .i64 x.f1) := ⟨pw_cell_below hbu hS.1, pw_cell_below hbu hS.2⟩; have HL := least_walk u w.heap.size b fb f g cc l x (hR.out.below (hE4.out _ (hbD.trans (hbu.mono hbD.size)))) hso.out hfl.out hMu hxi hin.out hm.out; unfold idV at HL)))
      have hbZ := Go.Lib.hid (hbD.trans ((hbu.trans (hbz.mono hbu.size)).mono hbD.size))
      have hRV2 := hRV.out.below (hbu.trans (hbz.mono hbu.size))
      have hRVr : RoundV z vr r' := ⟨hv0, hv1⟩
      have hLe2 := Rc.least_snoc hLe'.out hRo
      rw [← htk.out] at hLe2
      have heq := fun (w : World) (a : Option Addr) (n c : Nat) => Lib.run_eql_slice_nil (P := Try.prog) w 27 24 a n c 0 0 Try.underlying27
      have hneq := fun (w : World) (a : Option Addr) (n c : Nat) => run_neq_slice_nil_any (P := Try.prog) w 27 24 a n c 0 0 Try.underlying27
      clear hS hS2 HA HL hbu hbz hv0 hv1 hMu hRo hRV hLe' hbD
      cases r' with
      | none =>
        obtain rfl := hRVr.1 rfl
        have hbe : Rc.better r none = r := rfl
        rw [hbe] at hLe2
        replace hLe2 := Go.Lib.hid hLe2
        replace hRV2 := Go.Lib.hid hRV2
        clear hRVr hbe
        go_wp2_with fail
        rw [hn1.out]
        go_roundg (ns - (i + 1))
        case rel => exact ⟨i + 1, r, rfl, hlt, rfl, hLe2.out, hRV2.out, hbZ.out⟩
        case measure => have := hk.out; omega
      | some L' =>
        have hRVr' := hRVr
        obtain ⟨ad', c', hvr, _⟩ := hRVr'.2 L' rfl
        subst hvr
        cases r with
        | none =>
          obtain rfl := hRV2.1 rfl
          have hbe : Rc.better (α := S24) none (some L') = some L' := rfl
          rw [hbe] at hLe2
          replace hLe2 := Go.Lib.hid hLe2
          replace hRVr := Go.Lib.hid hRVr
          clear hRV2 hbe hRVr'
          obtain ⟨n', hn'⟩ : ∃ n, n = L'.length := ⟨_, rfl⟩
          rw [← hn']
          replace hn' := Go.Lib.hid hn'
          go_wp2_with fail
          rw [hn1.out]
          go_roundg (ns - (i + 1))
          case rel => exact ⟨i + 1, some L', rfl, hlt, rfl, hLe2.out, (by have := hRVr.out; rw [hn'.out]; exact this), hbZ.out⟩
          case measure => have := hk.out; omega
        | some Lr =>
          have hRV2' := hRV2
          obtain ⟨ad, c2, hv4, _⟩ := hRV2'.2 Lr rfl
          subst hv4
          have hbe : Rc.better (some Lr) (some L') = if L'.length < Lr.length then some L' else some Lr := rfl
          rw [hbe] at hLe2
          obtain ⟨n', hn'⟩ : ∃ n, n = L'.length := ⟨_, rfl⟩
          obtain ⟨n2, hn2⟩ : ∃ n, n = Lr.length := ⟨_, rfl⟩
          rw [← hn', ← hn2] at hLe2
          rw [← hn', ← hn2]
          replace hn' := Go.Lib.hid hn'
          replace hn2 := Go.Lib.hid hn2
          replace hRVr := Go.Lib.hid hRVr
          replace hRV2 := Go.Lib.hid hRV2
          clear hRVr' hRV2' hbe
          by_cases hlt2 : n' < n2
          · rw [if_pos hlt2] at hLe2
            replace hLe2 := Go.Lib.hid hLe2
            have hltz2 : (n' : Int) < (n2 : Int) := by omega
            go_wp2_with fail
            rw [hn1.out]
            go_roundg (ns - (i + 1))
            case rel => exact ⟨i + 1, some L', rfl, hlt, rfl, hLe2.out, (by have := hRVr.out; rw [hn'.out]; exact this), hbZ.out⟩
            case measure => have := hk.out; omega
          · rw [if_neg hlt2] at hLe2
            replace hLe2 := Go.Lib.hid hLe2
            go_wp2_with fail
            rw [hn1.out]
            go_roundg (ns - (i + 1))
            case rel => exact ⟨i + 1, some Lr, rfl, hlt, rfl, hLe2.out, (by have := hRV2.out; rw [hn2.out]; exact this), hbZ.out⟩
            case measure => have := hk.out; omega
    · have hin2 : i = ns := by omega
      have hLf : Rc.Least ltI (edgesOf l) s none r := by rw [hin2, hns.out, List.take_length] at hLe; exact hLe
      have hbf := hb1.out.trans ((hE4.out _ hb).mono hb1.out.size)
      subst hin2
      replace hLf := Go.Lib.hid hLf
      replace hRV := Go.Lib.hid hRV
      clear hk hLe
      go_wp2_with fail
      go_ret
      exact ⟨_, s, r, rfl, hfinal.out, hLf.out, hRV.out, hbf⟩
end Go.Proofs.Ytdepmcofnlggaaa.PResolverCycles
end
