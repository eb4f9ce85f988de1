/- The memory of resolver.least, and what its two loops come to. (ahead of it: The first that is so far in a row in order is the next one on the way back. The memory of the walk backwards: a map of distances, a queue. resolver.away, walked. maps.Keys over a map of rows, and slices.Collect of it, walked. slices.AppendSeq over whatever iterator of identities, and slices.Collect, walked.) -/
import Derived.Test.YtdepmcofnlggaaaPrC
import Derived.Test.YtdepmcofnlggaaaPrA
import Derived.RangeFuncNested
import Derived.RangeFuncBound
import Derived.RangeFuncLeaves
import Derived.Shelf.Abstract
import Derived.WalkKit
import Derived.OwnWalkIn
import Derived.TacticsInMore
import Derived.LoopNIn
import Derived.LoopIn
import Derived.Sort.LoopGhostIn
import Derived.Maps.AppendAt
section
set_option linter.unusedVariables false
set_option linter.unusedSimpArgs false
namespace Go.Proofs.Ytdepmcofnlggaaa.PResolverCycles
open Go.RowKit Go.Proofs.YtdepmcofnlggaaaW.PrintWords Go.Proofs.YtdepmcofnlggaaaW.PrintLast Go.Proofs.YtdepmcofnlggaaaW.PrintMore
open Classical

/-- the edges as pairs: who waits, for whom -/
def edgesOf (l : List S26) : List (S24 × S24) := l.map fun e => (e.f1, e.f2)
theorem mem_rowOf (l : List S26) (a x : S24) : x ∈ rowOf (·.f1) (·.f2) l a ↔ (a, x) ∈ edgesOf l := by
  unfold rowOf edgesOf
  simp only [List.mem_map, List.mem_filter, decide_eq_true_eq, Prod.mk.injEq]
  constructor
  · rintro ⟨e, ⟨h1, h2⟩, h3⟩; exact ⟨e, h1, h2, h3⟩
  · rintro ⟨e, h1, h2, h3⟩; exact ⟨e, ⟨h1, h2⟩, h3⟩
theorem mem_backOf (l : List S26) (a x : S24) : x ∈ rowOf (·.f2) (·.f1) l a ↔ (x, a) ∈ edgesOf l := by
  unfold rowOf edgesOf
  simp only [List.mem_map, List.mem_filter, decide_eq_true_eq, Prod.mk.injEq]
  constructor
  · rintro ⟨e, ⟨h1, h2⟩, h3⟩; exact ⟨e, h1, h3, h2⟩
  · rintro ⟨e, h1, h2, h3⟩; exact ⟨e, ⟨h1, h3⟩, h2⟩
theorem edges_len (l : List S26) : (edgesOf l).length = l.length := by simp [edgesOf]
section
variable {E : List (S24 × S24)} {to_ at_ : S24} {n : Nat} {s : List S24} {far : S24 → Option Nat} {r : Int}
theorem first_next (hs : s.Pairwise ltI) (hm : ∀ x, x ∈ s ↔ (at_, x) ∈ E) (hfar : ∀ x, far x = Rc.dist ltI E to_ x) (hn : 0 < n)
    (h : FirstAt (fun x => decide (far x = some n ∧ x ≠ to_)) s r) (hex : ∃ g, (at_, g) ∈ E ∧ Rc.dist ltI E to_ g = some n) : ∃ (i : Nat) (x : S24), s[i]? = some x ∧ r = (i : Int) ∧ Rc.Next ltI E to_ at_ n x := by
  have hp : ∀ g, Rc.dist ltI E to_ g = some n → decide (far g = some n ∧ g ≠ to_) = true := fun g hg => decide_eq_true ⟨(hfar g).trans hg, fun e => by
    rw [e, Rc.dist_zero.2 rfl] at hg
    cases hg
    omega⟩
  rcases h with ⟨i, x, hi, hr, hx, hno⟩ | ⟨_, hno⟩
  · have hx' := of_decide_eq_true hx
    obtain ⟨hil, hie⟩ := List.getElem?_eq_some_iff.1 hi
    refine ⟨i, x, hi, hr, (hm x).1 (List.mem_of_getElem? hi), (hfar x).symm.trans hx'.1, fun g hg hd hlt => ?_⟩
    obtain ⟨k, hk⟩ := List.getElem?_of_mem ((hm g).2 hg)
    obtain ⟨hkl, hke⟩ := List.getElem?_eq_some_iff.1 hk
    rw [List.pairwise_iff_getElem] at hs
    rcases Nat.lt_trichotomy k i with q | q | q
    · have : g ∈ s.take i := by
        rw [List.mem_iff_getElem?]
        exact ⟨k, by rw [List.getElem?_take, if_pos q, hk]⟩
      have h1 := hno g this
      exact Bool.noConfusion ((hp g hd).symm.trans h1)
    · subst q
      rw [hi] at hk
      cases hk
      exact tot_id.irr _ hlt
    · have h1 := hs i k hil hkl q
      rw [hie, hke] at h1
      exact tot_id.irr _ (tot_id.tr h1 hlt)
  · obtain ⟨g, hg, hd⟩ := hex
    have h1 := hno g ((hm g).2 hg)
    exact Bool.noConfusion ((hp g hd).symm.trans h1)
/-- behind the next one there is one more, until the way is at its end -/
theorem next_more {x : S24} {k : Nat} (h : Rc.Next ltI E to_ at_ (k + 1) x) : ∃ g, (x, g) ∈ E ∧ Rc.dist ltI E to_ g = some k := (Rc.dist_step h.2.1).2
end
end Go.Proofs.Ytdepmcofnlggaaa.PResolverCycles
end
section
set_option linter.unusedVariables false
set_option linter.unusedSimpArgs false
namespace Go.Proofs.Ytdepmcofnlggaaa.PResolverCycles
open Go.RowKit Go.Proofs.YtdepmcofnlggaaaW.PrintWords Go.Proofs.YtdepmcofnlggaaaW.PrintLast Go.Proofs.YtdepmcofnlggaaaW.PrintMore
open Classical

/-- block fb: the distances; v: the queue, in blocks above fb; all below fb as in Wf -/
structure AwM (Wf : World) (fb : Nat) (w : World) (v : Value) (far : S24 → Option Nat) (Q : List S24) : Prop where
  below : Below fb Wf w
  big : fb + 1 ≤ w.heap.size
  map : MapIs w fb (farV far)
  que : ∃ ad c, v = .slice (some ad) Q.length c ∧ (Q ≠ [] → ∃ g o, ad = ⟨g, o * 2, none⟩ ∧ QueueAt w (fb + 1) g o c Q)
theorem queue_block {w w' : World} {base g o c : Nat} {l : List S24} (h : QueueAt w base g o c l) (hb : ∀ i, base ≤ i → i < w.heap.size → w'.heap[i]? = w.heap[i]?) : QueueAt w' base g o c l := h.block (hb g h.lt.1 h.lt.2)
theorem AwM.later {Wf w w' : World} {fb : Nat} {v : Value} {far : S24 → Option Nat} {Q : List S24} (h : AwM Wf fb w v far Q) (hb : Below w.heap.size w w') : AwM Wf fb w' v far Q := by
  obtain ⟨h1, h2, h3, ad, c, e, h4⟩ := h
  refine ⟨h1.trans (hb.mono (by omega)), Nat.le_trans h2 hb.size, h3.below hb, ad, c, e, fun hq => ?_⟩
  obtain ⟨g, o, rfl, q⟩ := h4 hq
  exact ⟨g, o, rfl, queue_block q fun i _ hi => hb.block i hi⟩
theorem farV_upd (far : S24 → Option Nat) (x : S24) (m : Nat) (a : S24) : (if a = x then some (.int .i64 (m : Int)) else farV far a) = farV (Rc.updF far x m) a := by
  unfold farV Rc.updF
  by_cases e : a = x
  · rw [if_pos e, if_pos e.symm]; rfl
  · rw [if_neg e, if_neg (fun h => e h.symm)]
theorem AwM.upd {Wf w : World} {fb : Nat} {v : Value} {far : S24 → Option Nat} {Q : List S24} (h : AwM Wf fb w v far Q) {x : S24} (hx : InId x) (m : Nat) :
    ∃ w', (Instr.mapUpdate 62 (.map (some fb)) (.agg #[.int .i64 x.f0, .int .i64 x.f1]) (.int .i64 (m : Int))).run Try.prog w = .ok () w' ∧ AwM Wf fb w' v (Rc.updF far x m) Q ∧ w.grownBy w' (some fb) ∧ w'.heap.size = w.heap.size := by
  obtain ⟨h1, h2, h3, ad, c, e, h4⟩ := h
  obtain ⟨w', r1, r2, r3, r4⟩ := h3.update (t := 62) (e := 3) Try.underlying62 hx (.int .i64 (m : Int))
  refine ⟨w', r1, ⟨pw_below_grown h1 _ (by omega) r3 (fun k hk => by cases hk; exact Nat.le_refl _), by omega, r2.congr (farV_upd far x m), ad, c, e, fun hq => ?_⟩, r3, r4⟩
  obtain ⟨g, o, rfl, q⟩ := h4 hq
  exact ⟨g, o, rfl, queue_block q fun i hi hlt => r3.block i hlt (fun e => by cases e; omega)⟩
theorem AwM.push {Wf w : World} {fb : Nat} {v : Value} {far : S24 → Option Nat} {h : S24} {Q : List S24} (H : AwM Wf fb w v far (h :: Q)) (x : S24) (ad : Addr) (k : Nat) (hx : IdsAt w ad [x]) (ty : TypeId) (hm : Q.length ≤ 100000000) :
    ∃ v' w', (Builtin.append_ #[27, 27] ty #[v, .slice (some ad) 1 k]).run Try.prog w = .ok v' w' ∧ AwM Wf fb w' v' far ((h :: Q) ++ [x]) := by
  obtain ⟨h1, h2, h3, ad', c, e, h4⟩ := H
  obtain ⟨g, o, rfl, q⟩ := h4 (by simp)
  subst e
  obtain ⟨g', o', c', w', r1, r2, r3, r4⟩ := q.push h2 (by simp; omega) x ad k hx ty
  have hgl := q.lt
  refine ⟨_, w', r1, pw_below_grown h1 _ (by omega) r3 (fun k hk => by cases hk; omega), Nat.le_trans h2 r3.size, h3.kept r3 (fun e => by cases e; omega), ⟨g', o' * 2, none⟩, c', by simp, fun _ => ⟨g', o', rfl, r2⟩⟩
theorem AwM.pop {Wf w : World} {fb : Nat} {v : Value} {far : S24 → Option Nat} {h : S24} {Q : List S24} (H : AwM Wf fb w v far (h :: Q)) : ∃ v', (∀ wx, (Instr.slice 27 v (some (.int .i64 1)) none none).run Try.prog wx = .ok v' wx) ∧ AwM Wf fb w v' far Q := by
  obtain ⟨h1, h2, h3, ad', c, e, h4⟩ := H
  obtain ⟨g, o, rfl, q⟩ := h4 (by simp)
  subst e
  have hc : Q.length + 1 ≤ c := by obtain ⟨_, _, _, h, _⟩ := q; simpa using h
  refine ⟨.slice (some (if c = 1 then ⟨g, o * 2, none⟩ else (⟨g, o * 2, none⟩ : Addr).add 2)) Q.length (c - 1), fun wx => ?_, h1, h2, h3, _, _, rfl, fun hq => ?_⟩
  · have hu : Try.prog.underlying 27 = some (.slice (Try.prog.elem 27)) := by kernel_rfl
    have hs : (sizeOf (Try.prog.elem 27)).run Try.prog wx = .ok 2 wx := by kernel_rfl
    have hr := run_slice_l (P := Try.prog) wx 27 (some ⟨g, o * 2, none⟩) (h :: Q).length c hu .i64 1 (by omega) (by simp; omega)
    rw [hs] at hr
    refine hr.trans ?_
    simp only [Result.andThen, sliced, Int.toNat_one, List.length_cons, Nat.add_sub_cancel, Nat.one_mul]
    by_cases e : c = 1
    · rw [if_pos e, if_pos e]
    · rw [if_neg e, if_neg e]; rfl
  · have hc2 : c ≠ 1 := fun e => by
      rw [e] at hc
      exact hq (List.length_eq_zero_iff.1 (by omega))
    rw [if_neg hc2, add_off]
    exact ⟨g, o + 1, by rw [Nat.add_mul], q.pop⟩
noncomputable def far0 (to_ : S24) : S24 → Option Nat := fun x => if to_ = x then some 0 else none
/-- the beginning: the map made, `to` laid in it, the queue of `to` alone -/
theorem fb_start (Wf : World) {to_ : S24} (hto : InId to_) : ∃ w7, (Instr.mapUpdate 62 (.map (some Wf.heap.size)) (.agg #[.int .i64 to_.f0, .int .i64 to_.f1]) (.int .i64 0)).run Try.prog (Wf.alloc (.map #[] 0)) = .ok () w7 ∧ Below Wf.heap.size Wf w7 ∧
    AwM Wf Wf.heap.size (w7.alloc (.cells #[.int .i64 to_.f0, .int .i64 to_.f1] 24)) (.slice (some ⟨Wf.heap.size + 1, 0, none⟩) 1 1) (far0 to_) [to_] ∧ w7.heap.size = Wf.heap.size + 1 := by
  have hsz : (Wf.alloc (.map #[] 0)).heap.size = Wf.heap.size + 1 := by simp
  have hM0 := MapIs.made Wf
  obtain ⟨w7, r1, r2, r3, r4⟩ := hM0.update (t := 62) (e := 3) Try.underlying62 hto (.int .i64 0)
  have hb : Below Wf.heap.size Wf w7 := pw_below_grown (below_alloc (Below.refl _ _) _) _ (by rw [hsz]; omega) r3 (fun k hk => by cases hk; exact Nat.le_refl _)
  have hz7 : w7.heap.size = Wf.heap.size + 1 := r4.trans hsz
  have hA := below_alloc (Below.refl w7.heap.size w7) (.cells #[.int .i64 to_.f0, .int .i64 to_.f1] 24)
  have hn := heap_alloc_new w7 (.cells #[.int .i64 to_.f0, .int .i64 to_.f1] 24)
  refine ⟨w7, r1, hb, ⟨hb.trans (hA.mono (by omega)), by simp; omega, ?_, ⟨Wf.heap.size + 1, 0, none⟩, 1, rfl, fun _ => ⟨Wf.heap.size + 1, 0, by simp, ?_⟩⟩, hz7⟩
  · refine (r2.below hA).congr fun a => ?_
    unfold farV far0
    by_cases e : a = to_
    · rw [if_pos e, if_pos e.symm]; rfl
    · rw [if_neg e, if_neg (fun h => e h.symm)]; rfl
  · rw [hz7] at hn
    exact ⟨_, hn, Nat.le_refl _, by simp, by simp [maxLen], by simp, by simp [idc, encId]⟩
theorem away_bound {l : List S26} (h : l.length ≤ 1000) (far : S24 → Option Nat) : 1 + Rc.unknown (edgesOf l) far ≤ 1001 := by
  unfold Rc.unknown
  have := List.length_filter_le (fun x => decide (far x = none)) ((edgesOf l).map (·.1))
  rw [List.length_map, edges_len] at this
  omega
end Go.Proofs.Ytdepmcofnlggaaa.PResolverCycles
end
section
set_option linter.unusedVariables false
set_option linter.unusedSimpArgs false
attribute [local go_sem ↓] Go.wp_at_zero Go.wp_at_succ
namespace Go.Proofs.Ytdepmcofnlggaaa.PResolverCycles
open Go.RowKit Go.Proofs.YtdepmcofnlggaaaW.PrintWords Go.Proofs.YtdepmcofnlggaaaW.PrintLast Go.Proofs.YtdepmcofnlggaaaW.PrintMore
open Classical

set_option maxHeartbeats 2000000 in
set_option maxRecDepth 20000 in
theorem away_walk (w0 : World) (G O c : Nat) (l : List S26) (hE00 : EdgesAt w0 G O l) (to_ : S24) (hto : InId to_) (hc : l.length ≤ c) (hm : l.length ≤ 1000) (hin : ∀ e ∈ l, InId e.f1 ∧ InId e.f2) :
    Calls Try.prog 30 #[.slice (some ⟨G, O, none⟩) l.length c, idV to_] w0 fun e w' => ∃ fb, e = .returned (.map (some fb)) ∧ MapIs w' fb (farV (Rc.dist ltI (edgesOf l) to_)) ∧ w0.heap.size ≤ fb ∧ Below w0.heap.size w0 w' := by
  obtain ⟨T, hT⟩ : ∃ b, b = w0.heap.size := ⟨_, rfl⟩
  have hTn := heap_alloc_new w0 (.cells #[.int .i64 to_.f0, .int .i64 to_.f1] 24)
  have hTb := below_alloc (Below.refl w0.heap.size w0) (.cells #[.int .i64 to_.f0, .int .i64 to_.f1] 24)
  have hE := hE00.below hTb
  unfold idV
  obtain ⟨n, hN⟩ : ∃ n, n = l.length := ⟨_, rfl⟩
  rw [← hN] at hc hm ⊢
  replace hN := Go.Lib.hid hN
  have hin' := Go.Lib.hid hin
  clear hin
  obtain ⟨w, hw⟩ : ∃ w, w = w0.alloc (.cells #[.int .i64 to_.f0, .int .i64 to_.f1] 24) := ⟨_, rfl⟩
  rw [← hw] at hE
  obtain ⟨B0, hB0⟩ : ∃ b, b = w.heap.size := ⟨_, rfl⟩
  have hB : Below B0 w (w.alloc (.map #[] 0)) := by rw [hB0]; exact below_alloc (Below.refl _ _) _
  have hR : RowsMap (w.alloc (.map #[] 0)) B0 B0 (rowOf (·.f2) (·.f1) (l.take 0)) (fun _ => 0) (fun _ => 0) := by
    rw [hB0]; exact RowsMap.made w (Nat.le_refl _) _ _
  have hE0 := Go.Lib.hid (show ∀ w', Below B0 w w' → EdgesAt w' G O l from fun w' hb => hE.below (by rw [← hB0]; exact hb))
  have hTc : ∀ w', Below B0 w w' → w'.cell? ⟨T, 0, none⟩ = some (.int .i64 to_.f0) ∧ w'.cell? ⟨T, 1, none⟩ = some (.int .i64 to_.f1) := fun w' hb => by
    have hb' : Below w.heap.size w w' := by rw [← hB0]; exact hb
    rw [← hw, ← hT] at hTn
    have c0 := blk_cell hTn 0
    have c1 := blk_cell hTn 1
    simp only [List.getElem?_toArray, List.getElem?_cons_zero, List.getElem?_cons_succ] at c0 c1
    exact ⟨pw_cell_below hb' c0, pw_cell_below hb' c1⟩
  replace hTc := Go.Lib.hid hTc
  have hs0 : B0 ≤ (w.alloc (.map #[] 0)).heap.size := by rw [hB0]; simp
  have hmk := run_make54 (w0.alloc (.cells #[.int .i64 to_.f0, .int .i64 to_.f1] 24))
  go_enter Try.func30, Try.ntmps30
  go_wp2_with fail
  rw [← hw, ← hT]
  rw [← hw] at hmk hTn hTb
  have hBT : B0 = T + 1 := by rw [hB0, hw, hT]; simp
  rw [← hBT]
  replace hBT := Go.Lib.hid hBT
  replace hT := Go.Lib.hid hT
  replace hw := Go.Lib.hid hw
  generalize w.alloc (.map #[] 0) = W at *
  replace hB0 := Go.Lib.hid hB0
  clear hE
  go_loopw [7, 17] (fun _ i wr => ∃ j : Nat, j ≤ n ∧ i = .int .i64 (j : Int) ∧ Below B0 w wr ∧ B0 ≤ wr.heap.size ∧ ∃ g c, RowsMap wr B0 B0 (rowOf (·.f2) (·.f1) (l.take j)) g c) (fun _ i _ => n - (intOf i).toNat)
  case atStart => exact ⟨0, by omega, rfl, hB, hs0, _, _, hR⟩
  case round =>
    clear hB hR hs0
    obtain ⟨j, hj, rfl, hBr, hsr, gr, cr, hRr⟩ := hrel
    by_cases hlt : j < n
    · have hltz : (j : Int) < (n : Int) := by omega
      have hjl : j < l.length := by rw [← hN.out]; exact hlt
      obtain ⟨a0, a1, a2, a3, a4⟩ := hE0.out wr hBr j hjl
      have htk := take_edge l j hjl
      have hii := hin'.out l[j] (List.getElem_mem hjl)
      have hll : (l.take j).length ≤ 1000 := by rw [List.length_take]; omega
      generalize l[j] = x at *
      replace htk := Go.Lib.hid htk
      go_upto_region 5 with fail
      have hB1 : Below wr.heap.size wr (wr.alloc (.cells #[.string x.f0, .int .i64 x.f1.f0, .int .i64 x.f1.f1, .int .i64 x.f2.f0, .int .i64 x.f2.f1] 26)) := below_alloc (Below.refl _ _) _
      have hx := heap_alloc_new wr (.cells #[.string x.f0, .int .i64 x.f1.f0, .int .i64 x.f1.f1, .int .i64 x.f2.f0, .int .i64 x.f2.f1] 26)
      have hb0lt := hRr.map.lt
      replace hRr := hRr.below hB1
      replace hBr := hBr.trans (hB1.mono hsr)
      replace hsr := Nat.le_trans hsr hB1.size
      obtain ⟨gx, hgx⟩ : ∃ y, y = wr.heap.size := ⟨_, rfl⟩
      rw [← hgx] at hx hb0lt ⊢
      generalize wr.alloc (.cells #[.string x.f0, .int .i64 x.f1.f0, .int .i64 x.f1.f1, .int .i64 x.f2.f0, .int .i64 x.f2.f1] 26) = V at *
      clear hgx a0 a1 a2 a3 a4 hB1
      have e1 := blk_cell hx 1
      have e2 := blk_cell hx 2
      have e3 := blk_cell hx 3
      have e4 := blk_cell hx 4
      simp only [List.getElem?_toArray, List.getElem?_cons_zero, List.getElem?_cons_succ] at e1 e2 e3 e4
      clear hx
      have hB2 : Below V.heap.size V (V.alloc (.cells #[.int .i64 x.f1.f0, .int .i64 x.f1.f1] 24)) := below_alloc (Below.refl _ _) _
      have hR2 := hRr.below hB2
      have hBr2 := hBr.trans (hB2.mono hsr)
      have hsr2 := Nat.le_trans hsr hB2.size
      have hp := hR2.push hsr2 (a := x.f2) (y := x.f1) hii.2 (Nat.le_trans (rowOf_len _ _ _ _) (by omega)) V.heap.size (heap_alloc_new V _) (by have := hRr.map.lt; omega) 1 27 Try.underlying54
      obtain ⟨v, k, w1, v', w2, w3, r1, r2, r3, ⟨g', c', hR3⟩, hB3, hs3⟩ := hp
      have r1' : (Instr.mapEntry 54 (.map (some B0)) (.agg #[.int .i64 x.f2.f0, .int .i64 x.f2.f1])).run Try.prog (V.alloc (.cells #[.int .i64 x.f1.f0, .int .i64 x.f1.f1] 24)) = .ok (.tuple #[v, goInt (k : Nat)]) w1 := r1
      have r3' : (Instr.entryStore 54 (.map (some B0)) (.int .i64 (k : Int)) v').run Try.prog w2 = .ok () w3 := r3
      clear r1 r3
      replace hR3 := Go.Lib.hid hR3
      replace hB3 := Go.Lib.hid hB3
      replace hs3 := Go.Lib.hid hs3
      go_wp2_with (first | (at_builtin; refine wpList_append_run rfl (.tmp 24) (.tmp 27) 27 rfl _ _ _ _ rfl rfl r2 ?_))
      have hfin : Below B0 w w3 := hBr2.trans (hB3.out B0 (Nat.le_refl _) hsr2 (Below.refl _ _))
      have hR4 : RowsMap w3 B0 B0 (rowOf (·.f2) (·.f1) (l.take (j + 1))) g' c' := by rw [htk.out, rowOf_push]; exact hR3.out
      go_roundw
      case rel => exact ⟨j + 1, hlt, rfl, hfin, Nat.le_trans hsr2 hs3.out, g', c', hR4⟩
      case measure => simp only [intOf]; omega
    · obtain rfl : j = n := by omega
      obtain ⟨Wf, hWf⟩ : ∃ x, x = wr := ⟨_, rfl⟩
      subst hWf
      have hTl : l.take j = l := by rw [hN.out, List.take_length]
      rw [hTl] at hRr
      have hlen : l.length ≤ 1000 := by rw [← hN.out]; exact hm
      replace hlen := Go.Lib.hid hlen
      have hfst := fb_start Wf hto
      obtain ⟨w7, hup', hA0⟩ := hfst
      obtain ⟨fb, hfb⟩ : ∃ b, b = Wf.heap.size := ⟨_, rfl⟩
      rw [← hfb] at hup' hA0
      have hmk2 : (Instr.makeMap 62 none).run Try.prog Wf = .ok (.map (some fb)) (Wf.alloc (.map #[] 0)) := by rw [hfb]; rfl
      have hBfb : B0 ≤ fb := by rw [hfb]; exact hsr
      have hB6 := hBr.trans ((below_alloc (Below.refl _ _) (.map #[] 0)).mono hsr)
      obtain ⟨t0, t1⟩ := hTc.out _ hB6
      have hB7 : Below B0 w w7 := hBr.trans (hA0.1.mono hBfb)
      obtain ⟨u0, u1⟩ := hTc.out _ hB7
      have hs7 : w7.heap.size = fb + 1 := hA0.2.2
      replace hA0 := Go.Lib.hid hA0.2.1
      replace hfb := Go.Lib.hid hfb
      clear hTl hB6 hB7
      go_wp2_with fail
      generalize w7.alloc (.cells #[.int .i64 to_.f0, .int .i64 to_.f1] 24) = W8 at *
      clear hup' hmk2 t0 t1 u0 u1 hs7
      clear hc hj hlt hmk hTn
      replace hTb := Go.Lib.hid hTb
      go_loopg [9] (1 + Rc.unknown (edgesOf l) (far0 to_)) (fun k v wq => ∃ far Q, k = Q.length + Rc.unknown (edgesOf l) far ∧ k ≤ 1001 ∧ AwM Wf fb wq v far Q ∧ Rc.BfsQ ltI (edgesOf l) to_ far Q ∧ ∀ x ∈ Q, InId x)
      case atStart => exact ⟨far0 to_, [to_], rfl, away_bound (by have := hlen.out; exact this) _, hA0.out, Rc.BfsQ.start ltI (edgesOf l) to_, fun x hx => by rw [List.mem_singleton.1 hx]; exact hto⟩
      case round =>
        clear hA0
        obtain ⟨far, Q, hk, hk1, hA, hBf, hIds⟩ := hrel
        obtain ⟨Wo, hWo⟩ : ∃ x, x = wr := ⟨_, rfl⟩
        subst hWo
        obtain ⟨K, hK⟩ : ∃ x, x = gk := ⟨_, rfl⟩
        subst hK
        have hBo : Below B0 w Wo := hBr.trans (hA.below.mono hBfb)
        have hq := hA.que
        obtain ⟨ad, cq, rfl, hq⟩ := hq
        cases Q with
        | nil =>
          have hfin : MapIs Wo fb (farV (Rc.dist ltI (edgesOf l) to_)) := hA.map.congr fun a => by unfold farV; rw [hBf.fin a]
          replace hfin := Go.Lib.hid hfin
          replace hk := Go.Lib.hid hk
          clear hA hBf hq hIds
          go_wp2_with fail
          go_ret
          refine ⟨fb, rfl, hfin.out, ?_, ?_⟩
          · rw [← hT.out]; have := hBT.out; omega
          · exact hTb.out.trans (hBo.mono (by rw [← hT.out]; have := hBT.out; omega))
        | cons h Q =>
          obtain ⟨gq, oq, rfl, hQ⟩ := hq (by simp)
          clear hq
          obtain ⟨d0, d1⟩ := hQ.head
          have hh : InId h := hIds h (by simp)
          have hRo := hRr.below (by rw [← hfb.out]; exact hA.below)
          have hL := hRo.map.lookup (t := 54) Try.underlying54 (zero27 Wo) hh false
          simp only [Bool.false_eq_true, if_false] at hL
          have hrow : ∃ ra rc, (rowF (rowOf (·.f2) (·.f1) l) gr cr h).getD (.slice none 0 0) = .slice ra (rowOf (·.f2) (·.f1) l h).length rc ∧ (rowOf (·.f2) (·.f1) l h ≠ [] → ∃ g c, ra = some ⟨g, 0, none⟩ ∧ IdRow Wf B0 g c (rowOf (·.f2) (·.f1) l h)) := by
            unfold rowF
            by_cases e : rowOf (·.f2) (·.f1) l h = []
            · rw [if_pos e, e]; exact ⟨none, 0, rfl, fun h => absurd rfl h⟩
            · rw [if_neg e]; exact ⟨_, _, rfl, fun _ => ⟨_, _, rfl, hRr.rows h e⟩⟩
          obtain ⟨ra, rc, hre, hrow⟩ := hrow
          rw [hre] at hL
          clear hre hRo
          obtain ⟨R, hR⟩ : ∃ R, R = rowOf (·.f2) (·.f1) l h := ⟨_, rfl⟩
          rw [← hR] at hL hrow
          obtain ⟨nr, hnr⟩ : ∃ n, n = R.length := ⟨_, rfl⟩
          rw [← hnr] at hL
          obtain ⟨nq, hnq⟩ : ∃ n, n = (h :: Q).length := ⟨_, rfl⟩
          rw [← hnq]
          have hpos : (0 : Int) < (nq : Int) := by rw [hnq]; simp
          have hRin : ∀ x ∈ R, (x, h) ∈ edgesOf l ∧ InId x := fun x hx => by
            rw [hR] at hx
            refine ⟨(mem_backOf l h x).1 hx, ?_⟩
            obtain ⟨e, he, rfl⟩ := List.mem_map.1 hx
            exact (hin'.out e (List.mem_filter.1 he).1).1
          have hRall : ∀ x, (x, h) ∈ edgesOf l → x ∈ R := fun x hx => by rw [hR]; exact (mem_backOf l h x).2 hx
          replace hR := Go.Lib.hid hR
          replace hnr := Go.Lib.hid hnr
          replace hnq := Go.Lib.hid hnq
          replace hk := Go.Lib.hid hk
          replace hA := Go.Lib.hid hA
          replace hBf := Go.Lib.hid hBf
          replace hRin := Go.Lib.hid hRin
          replace hRall := Go.Lib.hid hRall
          replace hrow := Go.Lib.hid hrow
          unfold idV at hL
          go_wp2_with fail
          clear hL hQ d0 d1
          generalize Value.bool (decide (0 < nq)) = v39
          go_loopg [9, 48] nr (fun k v9 v48 wq => ∃ (i : Nat) (far : S24 → Option Nat) (Q : List S24), k = nr - i ∧ i ≤ nr ∧ v48 = .int .i64 (i : Int) ∧ AwM Wf fb wq v9 far (h :: Q) ∧ Rc.BfsQ ltI (edgesOf l) to_ far (h :: Q) ∧ (∀ x ∈ h :: Q, InId x) ∧ (∀ x ∈ R.take i, ltI to_ x → far x ≠ none) ∧ Q.length + 1 + Rc.unknown (edgesOf l) far ≤ K)
          case atStart => exact ⟨0, far, Q, rfl, Nat.zero_le _, rfl, (by have := hA.out; rw [hnq.out]; exact this), hBf.out, hIds, (fun x hx => by simp at hx), (by have := hk.out; simp only [List.length_cons] at this; omega)⟩
          case round =>
            clear hA hBf hIds hk hnq hpos
            obtain ⟨i, far, Q, hk, hi, rfl, hA, hBf, hIds, hno, hKK⟩ := hrel
            obtain ⟨ad, cq, rfl, hq⟩ := hA.que
            obtain ⟨gq, oq, rfl, hQ⟩ := hq (by simp)
            clear hq
            obtain ⟨d0, d1⟩ := hQ.head
            have hgfq := Go.Lib.hid (show gq ≠ fb by have := hQ.lt.1; omega)
            by_cases hlt : i < nr
            · have hil : i < R.length := by rw [← hnr.out]; exact hlt
              have hltz : (i : Int) < (nr : Int) := by omega
              obtain ⟨gw, cw, hra, hrw⟩ := hrow.out (fun e => by rw [e] at hil; exact Nat.not_lt_zero _ hil)
              subst hra
              obtain ⟨a0, a1⟩ := idrow_cell hrw i hil
              replace a0 := pw_cell_below (by rw [← hfb.out]; exact hA.below) a0
              replace a1 := pw_cell_below (by rw [← hfb.out]; exact hA.below) a1
              obtain ⟨hxe, hxi⟩ := hRin.out R[i] (List.getElem_mem hil)
              have htk : R.take (i + 1) = R.take i ++ [R[i]] := by rw [List.take_add_one, List.getElem?_eq_getElem hil]; rfl
              replace htk := Go.Lib.hid htk
              generalize R[i] = x at *
              obtain ⟨nq, hnq⟩ : ∃ n, n = (h :: Q).length := ⟨_, rfl⟩
              rw [← hnq]
              replace hnq := Go.Lib.hid hnq
              have hn1 : wrap64 ((i : Int) + 1) = ((i + 1 : Nat) : Int) := by
                have : R.length ≤ 1000 := by rw [hR.out]; exact Nat.le_trans (rowOf_len _ _ l h) hlen.out
                have : i < 1000 := by omega
                clear hk hKK hlt hil hltz
                unfold wrap64; omega
              replace hn1 := Go.Lib.hid hn1
              replace hk := Go.Lib.hid hk
              replace hKK := Go.Lib.hid hKK
              replace hno := Go.Lib.hid hno
              clear hil hrw
              have hAV := hA.later (below_alloc (Below.refl wr.heap.size wr) (.cells #[.int .i64 x.f0, .int .i64 x.f1] 24))
              have hV := below_alloc (Below.refl wr.heap.size wr) (.cells #[.int .i64 x.f0, .int .i64 x.f1] 24)
              have hx := heap_alloc_new wr (.cells #[.int .i64 x.f0, .int .i64 x.f1] 24)
              go_upto_region 14 with fail
              obtain ⟨gx, hgx⟩ : ∃ y, y = wr.heap.size := ⟨_, rfl⟩
              rw [← hgx] at hx hV
              rw [← hgx]
              replace d0 := pw_cell_below (by rw [hgx] at hV; exact hV) d0
              replace d1 := pw_cell_below (by rw [hgx] at hV; exact hV) d1
              generalize wr.alloc (.cells #[.int .i64 x.f0, .int .i64 x.f1] 24) = V at *
              have hfx : gx ≠ fb := by have := hA.big; omega
              clear hV hgx hA hQ a0 a1
              have e0 := blk_cell hx 0
              have e1 := blk_cell hx 1
              simp only [List.getElem?_toArray, List.getElem?_cons_zero, List.getElem?_cons_succ] at e0 e1
              clear hx
              have hLf := hAV.map.lookup (t := 62) Try.underlying62 (zero3 V) hxi true
              simp only [if_true] at hLf
              unfold idV at hLf
              have hBV : Below B0 w V := hBr.trans (hAV.below.mono hBfb)
              obtain ⟨t0, t1⟩ := hTc.out V hBV
              cases hfar : far x with
              | some m =>
                have hfv : farV far x = some (.int .i64 (m : Int)) := by unfold farV; rw [hfar]; rfl
                rw [hfv] at hLf
                simp only [Option.getD_some, Option.isSome_some] at hLf
                clear hfv
                replace hfar := Go.Lib.hid hfar
                replace hAV := Go.Lib.hid hAV
                replace hBf := Go.Lib.hid hBf
                replace hfx := Go.Lib.hid hfx
                replace hxe := Go.Lib.hid hxe
                go_wp2_with fail
                rw [hn1.out]
                go_roundg (nr - (i + 1))
                case rel => exact ⟨i + 1, far, Q, rfl, hlt, rfl, (by have := hAV.out; rw [hnq.out]; exact this), hBf.out, hIds, (fun y hy hly => by
                  rw [htk.out] at hy
                  rcases List.mem_append.1 hy with hy | hy
                  · exact hno.out y hy hly
                  · rw [List.mem_singleton.1 hy, hfar.out]; simp), hKK.out⟩
                case measure => have := hk.out; omega
              | none =>
                have hfv : farV far x = none := by unfold farV; rw [hfar]; rfl
                rw [hfv] at hLf
                simp only [Option.getD_none, Option.isSome_none] at hLf
                clear hfv
                replace hfar := Go.Lib.hid hfar
                replace hAV := Go.Lib.hid hAV
                replace hBf := Go.Lib.hid hBf
                replace hfx := Go.Lib.hid hfx
                replace hxe := Go.Lib.hid hxe
                have hC := compare_walk x to_ V
                unfold idV at hC
                by_cases hgt : 0 < cmpI x to_
                · have hlt2 : ltI to_ x := cmpI_gt.1 hgt
                  replace hlt2 := Go.Lib.hid hlt2
                  obtain ⟨n, hfh⟩ := hBf.out.head
                  have hn1000 : n ≤ 1000 := by
                    have h1 := Rc.lev_top (hBf.out.sound h n hfh)
                    rw [edges_len] at h1
                    exact Nat.le_trans h1 hlen.out
                  have hn2 : IntKind.i64.wrap ((n : Int) + 1) = ((n + 1 : Nat) : Int) := by
                    clear hlt hi hltz hgt hk1
                    have h64 : wrap64 ((n : Int) + 1) = ((n + 1 : Nat) : Int) := by unfold wrap64; omega
                    exact (IntWalk.i64_left _).trans h64
                  replace hn2 := Go.Lib.hid hn2
                  go_upto_region 16 with (go_at_call 24; refine hC.mono ?_; rintro e u ⟨rfl, hu⟩)
                  have hub := hu.below
                  have hD : Below V.heap.size V u.drew := hub.trans ((below_drew (Below.refl u.heap.size u)).mono hub.size)
                  have hA2 := hAV.out.later hD
                  replace d0 := pw_cell_below hD d0
                  replace d1 := pw_cell_below hD d1
                  replace e0 := pw_cell_below hD e0
                  replace e1 := pw_cell_below hD e1
                  have hLh := hA2.map.lookup (t := 62) Try.underlying62 (zero3 u.drew) hh false
                  have hfv : farV far h = some (.int .i64 (n : Int)) := by unfold farV; rw [hfh]; rfl
                  rw [hfv] at hLh
                  simp only [Bool.false_eq_true, if_false, Option.getD_some] at hLh
                  unfold idV at hLh
                  obtain ⟨w5, hup, hA5, hg5, hs5⟩ := hA2.upd hxi (n + 1)
                  rw [← hn2.out] at hup
                  replace hfh := Go.Lib.hid hfh
                  replace hA5 := Go.Lib.hid hA5
                  clear hfv hD hub hAV hA2 hLf hC t0 t1 hBV
                  have hgf : gq ≠ fb := hgfq.out
                  have hS : u.drew.cell? ⟨gx, 0, none⟩ = some (.int .i64 x.f0) ∧ u.drew.cell? ⟨gx, 1, none⟩ = some (.int .i64 x.f1) ∧ u.drew.cell? ⟨gq, oq * 2, none⟩ = some (.int .i64 h.f0) ∧ u.drew.cell? ⟨gq, oq * 2 + 1, none⟩ = some (.int .i64 h.f1) := ⟨e0, e1, d0, d1⟩
                  have hS5 : w5.cell? ⟨gx, 0, none⟩ = some (.int .i64 x.f0) ∧ w5.cell? ⟨gx, 1, none⟩ = some (.int .i64 x.f1) ∧ w5.cell? ⟨gq, oq * 2, none⟩ = some (.int .i64 h.f0) ∧ w5.cell? ⟨gq, oq * 2 + 1, none⟩ = some (.int .i64 h.f1) := ⟨hg5.cell e0 (fun e => hfx.out (by cases e; rfl)), hg5.cell e1 (fun e => hfx.out (by cases e; rfl)), hg5.cell d0 (fun e => hgf (by cases e; rfl)), hg5.cell d1 (fun e => hgf (by cases e; rfl))⟩
                  have hS5' := Go.Lib.hid hS5
                  obtain ⟨f0, f1, _, _⟩ := hS5
                  have hid6 : IdsAt (w5.alloc (.cells #[.int .i64 x.f0, .int .i64 x.f1] 24)) ⟨w5.heap.size, 0, none⟩ [x] := by
                    intro j u hu
                    rw [add_off, Nat.zero_add, blk_cell (heap_alloc_new w5 _)]
                    simpa [idc, encId] using hu
                  have hQl : Q.length ≤ 100000000 := by have := hKK.out; omega
                  obtain ⟨v7, w7', hap, hA7⟩ := (hA5.out.later (below_alloc (Below.refl w5.heap.size w5) (.cells #[.int .i64 x.f0, .int .i64 x.f1] 24))).push x ⟨w5.heap.size, 0, none⟩ 1 hid6 27 hQl
                  rw [← hnq.out] at hap
                  replace hA7 := Go.Lib.hid hA7
                  replace hQl := Go.Lib.hid hQl
                  replace hs5 := Go.Lib.hid hs5
                  replace hid6 := Go.Lib.hid hid6
                  have hp : 0 < nq := by rw [hnq.out]; simp
                  have hpz : (0 : Int) < (nq : Int) := by omega
                  clear hgf hn1000
                  clear d0 d1 e0 e1
                  go_region_held_law (fun w' => w'.cell? ⟨gx, 0, none⟩ = some (.int .i64 x.f0) ∧ w'.cell? ⟨gx, 1, none⟩ = some (.int .i64 x.f1) ∧ w'.cell? ⟨gq, oq * 2, none⟩ = some (.int .i64 h.f0) ∧ w'.cell? ⟨gq, oq * 2 + 1, none⟩ = some (.int .i64 h.f1))
                    (first | exact hS | exact hS5'.out)
                    (fail)
                  go_wp2_with (first | (at_builtin; refine wpList_append_run rfl (.tmp 74) (.tmp 76) 27 rfl _ _ _ _ rfl rfl hap ?_))
                  rw [hn1.out]
                  have hB' := hBf.out.step hxe.out hfh.out hfar.out hlt2.out
                  have hun := Rc.unknown_less (n := n + 1) hxe.out hfar.out
                  go_roundg (nr - (i + 1))
                  case rel => exact ⟨i + 1, _, Q ++ [x], rfl, hlt, rfl, hA7.out, hB', (fun y hy => by
                    rcases List.mem_append.1 (show y ∈ (h :: Q) ++ [x] from hy) with hy | hy
                    · exact hIds y hy
                    · rw [List.mem_singleton.1 hy]; exact hxi), (fun y hy hly => by
                    rw [htk.out] at hy
                    unfold Rc.updF
                    split
                    · simp
                    · next hne =>
                      rcases List.mem_append.1 hy with hy | hy
                      · exact hno.out y hy hly
                      · exact absurd (List.mem_singleton.1 hy).symm hne), (by have := hKK.out; simp only [List.length_append, List.length_cons, List.length_nil]; omega)⟩
                  case measure => have := hk.out; omega
                · have hlt2 : ¬ ltI to_ x := fun h => hgt (cmpI_gt.2 h)
                  replace hlt2 := Go.Lib.hid hlt2
                  go_wp2_with (go_at_call 24; refine hC.mono ?_; rintro e u ⟨rfl, hu⟩)
                  rw [hn1.out]
                  replace hAV := Go.Lib.hid (hAV.out.later hu.below)
                  go_roundg (nr - (i + 1))
                  case rel => exact ⟨i + 1, far, Q, rfl, hlt, rfl, (by have := hAV.out; rw [hnq.out]; exact this), hBf.out, hIds, (fun y hy hly => by
                    rw [htk.out] at hy
                    rcases List.mem_append.1 hy with hy | hy
                    · exact hno.out y hy hly
                    · rw [List.mem_singleton.1 hy] at hly; exact absurd hly hlt2.out), hKK.out⟩
                  case measure => have := hk.out; omega
            · have hin : i = nr := by omega
              have hP : Rc.BfsQ ltI (edgesOf l) to_ far Q := hBf.pop fun x hx hlx => hno x (by
                have hm := hRall.out x hx
                rw [hin, hnr.out, List.take_length]
                exact hm) hlx
              obtain ⟨v', hsl, hA'⟩ := hA.pop
              obtain ⟨nq, hnq⟩ : ∃ n, n = (h :: Q).length := ⟨_, rfl⟩
              rw [← hnq] at hsl ⊢
              subst hin
              have hIds' : ∀ x ∈ Q, InId x := fun x hx => hIds x (by simp [hx])
              replace hnq := Go.Lib.hid hnq
              replace hA' := Go.Lib.hid hA'
              replace hP := Go.Lib.hid hP
              clear hA hBf hIds hno hQ d0 d1 hk
              replace hKK := Go.Lib.hid hKK
              go_wp2_with fail
              go_roundg (Q.length + Rc.unknown (edgesOf l) far)
              case rel => exact ⟨far, Q, rfl, (by have := hKK.out; omega), hA'.out, hP.out, hIds'⟩
              case measure => have := hKK.out; omega
end Go.Proofs.Ytdepmcofnlggaaa.PResolverCycles
end
section
set_option linter.unusedVariables false
set_option linter.unusedSimpArgs false
namespace Go.Proofs.Ytdepmcofnlggaaa.PResolverCycles
attribute [local go_sem] Oper.semAt_some
open Go.RowKit Go.Shelf Go.Proofs.YtdepmcofnlggaaaW.PrintWords Go.Proofs.YtdepmcofnlggaaaW.PrintLast Go.Proofs.YtdepmcofnlggaaaW.PrintMore
open Classical

/-- which keys have come -/
def Came (l : Ents) (done : Nat → Bool) (pre : List S24) : Prop := ∀ a, a ∈ pre ↔ ∃ (i : Nat) (v : Value), l[i]? = some (idV a, v) ∧ done i = true
theorem came_start (l : Ents) : Came l (fun _ => false) [] := fun a => ⟨fun h => (by cases h), fun ⟨_, _, _, h⟩ => (by cases h)⟩
theorem Came.step {l : Ents} {done : Nat → Bool} {pre : List S24} (h : Came l done pre) (hnd : (l.map (·.1)).Nodup) {i : Nat} {a : S24} {v : Value} (hi : l[i]? = some (idV a, v)) : Came l (fun j => done j || j == i) (pre ++ [a]) := fun x => by
  rw [List.mem_append, List.mem_singleton, h x]
  constructor
  · rintro (⟨j, u, hj, hd⟩ | rfl)
    · exact ⟨j, u, hj, by simp [hd]⟩
    · exact ⟨i, v, hi, by simp⟩
  · rintro ⟨j, u, hj, hd⟩
    by_cases e : j = i
    · subst e
      rw [hi] at hj
      right
      have := (Option.some.inj hj)
      simp only [Prod.mk.injEq] at this
      exact (idV_inj this.1).symm
    · left
      refine ⟨j, u, hj, ?_⟩
      simpa [e] using hd
theorem leftN_start (n : Nat) : leftN n (fun _ => false) = n := by
  unfold leftN
  have : (List.range n).filter (fun i => !(fun (_ : Nat) => false) i) = List.range n := List.filter_eq_self.2 (fun _ _ => rfl)
  rw [this, List.length_range]
theorem leftN_step (n : Nat) {done : Nat → Bool} {i : Nat} (hi : i < n) (hd : done i = false) : leftN n (fun j => done j || j == i) < leftN n done := leftN_less hi hd
theorem ranging_walks {w w' : World} {k : TypeId} {b r : Nat} {l : Ents} {done : Nat → Bool} (h : Ranging Try.prog k w b r l done) (hk : KeepsWalks w w') : Ranging Try.prog k w' b r l done := by
  obtain ⟨es, clock, since, seen, c0, h1, h2, h3, h4, h5, rest⟩ := h
  exact ⟨es, clock, since, seen, c0, hk.same b _ h1 rfl, h2, h3, h4, hk.same r _ h5 rfl, rest⟩
theorem ranging_iter {w : World} {k : TypeId} {b r : Nat} {l : Ents} {done : Nat → Bool} (h : Ranging Try.prog k w b r l done) : ∃ o : Obj, w.heap[r]? = some o ∧ o.isWalk = true := by
  obtain ⟨es, clock, since, seen, c0, h1, h2, h3, h4, h5, rest⟩ := h
  exact ⟨_, h5, rfl⟩
set_option maxHeartbeats 2000000 in
set_option maxRecDepth 100000 in
/-- the iterator of maps.Keys, for every loop body -/
theorem keys1_in (F : Fence) (n : Nat) (h64 : F.fn 64) (hro : F.round = none) (hn : 1 ≤ n) (l Bm b : Nat) (L : Ents) (J Jx : List S24 → World → Prop)
    (hY : ∀ pre x W, J pre W → pre.length < L.length → YieldAt F (n - 1) Try.prog l #[idV x] W fun e W' => (e = .returned (.bool true) ∧ J (pre ++ [x]) W' ∧ KeepsWalks W W') ∨ (e = .returned (.bool false) ∧ Jx (pre ++ [x]) W'))
    (W : World) (hJ : AbidesFrom W.heap.size J) (hBm : W.cell? ⟨Bm, 0, none⟩ = some (.map (some b))) (hM : MapAt Try.prog 24 W b L) (hL : ∀ p ∈ L, ∃ a, InId a ∧ p.1 = idV a) (h0 : J [] W) :
    CallsIn F n Try.prog 64 #[.func (.yield l) #[] #[], .pointer (some ⟨Bm, 0, none⟩)] W fun e W' => (∃ v, e = .returned v) ∧
      ((∃ ys, (ys.length ≤ L.length ∧ ∀ a, a ∈ ys ↔ ∃ (i : Nat) (v : Value), L[i]? = some (idV a, v)) ∧ J ys W') ∨ (∃ pre, True ∧ Jx pre W')) := by
  have hnd := hM.nodup
  obtain ⟨hrun, hRg⟩ := hM.range (t := 54) Try.underlying54
  generalize hW1 : W.alloc (.mapIter (some b) (match W.heap[b]? with | some (.map _ c) => c | _ => 0) #[] (match W.heap[b]? with | some (.map _ c) => c | _ => 0)) = W1 at *
  have hJ1 : J [] W1 := by rw [← hW1]; exact hJ [] W _ none h0 (World.grownBy_alloc W _ none) (fun r e => by cases e)
  have hsz1 : W1.heap.size = W.heap.size + 1 := by rw [← hW1]; simp
  obtain ⟨rr, hrr⟩ : ∃ r, r = W.heap.size := ⟨_, rfl⟩
  rw [← hrr] at hrun hRg hJ
  replace hrr := Go.Lib.hid hrr
  clear hW1
  replace hsz1 := Go.Lib.hid hsz1
  refine callsIn_of_wp Try.func64 rfl h64 ?_ hro
  simp only [Try.ntmps64, List.size_toArray, List.length_cons, List.length_nil, Nat.reduceAdd, Nat.reduceSub, Array.replicate_succ, Array.replicate_zero, List.push_toArray, List.append_toArray, List.nil_append, List.cons_append]
  gi_wp2
  gi_loopg [6] (L.length) (fun k _ wr => ∃ (done : Nat → Bool) (pre : List S24), k = leftN L.length done ∧ pre.length + k ≤ L.length ∧ Ranging Try.prog 24 wr b rr L done ∧ J pre wr ∧ Came L done pre)
  case atStart => exact ⟨_, [], (leftN_start _).symm, by simp, hRg, hJ1, came_start L⟩
  case round =>
    clear hRg hJ1 hrun
    obtain ⟨done, pre, hk, hpl, hR, hJp, hC⟩ := hrel
    rcases hR.next 0 with ⟨hall, hnx⟩ | ⟨i, a, v, w2, hi, hd, hnx, hR2, hg2, hs2, hent⟩
    · have hS : pre.length ≤ L.length ∧ ∀ a, a ∈ pre ↔ ∃ (i : Nat) (v : Value), L[i]? = some (idV a, v) := by
        have hz : leftN L.length done = 0 := by
          unfold leftN
          rw [List.length_eq_zero_iff, List.filter_eq_nil_iff]
          intro i hi
          simp [hall i (by simpa using hi)]
        refine ⟨by omega, fun a => (hC a).trans ⟨fun ⟨i, v, h, _⟩ => ⟨i, v, h⟩, fun ⟨i, v, h⟩ => ⟨i, v, h, hall i (List.getElem?_eq_some_iff.1 h).1⟩⟩⟩
      replace hS := Go.Lib.hid hS
      replace hJp := Go.Lib.hid hJp
      clear hC hR hk hpl
      gi_wp2
      go_end0
      exact ⟨⟨_, rfl⟩, .inl ⟨pre, hS.out, hJp.out⟩⟩
    · obtain ⟨x, hx, hxe⟩ := hL _ (List.mem_of_getElem? hi)
      simp only at hxe
      subst hxe
      have hlow := leftN_less (List.getElem?_eq_some_iff.1 hi).1 hd
      have hlt : pre.length < L.length := by omega
      have hC2 := hC.step hnd hi
      have hJ2 : J pre w2 := hJ pre wr w2 _ hJp hg2 (fun r e => by cases e; exact ⟨Nat.le_refl _, ranging_iter hR⟩)
      have hA := World.grownBy_alloc w2 (.cells #[.int .i64 x.f0, .int .i64 x.f1] 24) none
      have hJ3 : J pre (w2.alloc (.cells #[.int .i64 x.f0, .int .i64 x.f1] 24)) := hJ pre w2 _ none hJ2 hA (fun r e => by cases e)
      have hR3 := ranging_walks hR2 (KeepsWalks.alloc w2 (.cells #[.int .i64 x.f0, .int .i64 x.f1] 24))
      obtain ⟨fn, tmps, assign, body, hy, hRo⟩ := hY pre x _ hJ3 hlt
      replace hC2 := Go.Lib.hid hC2
      replace hlow := Go.Lib.hid hlow
      replace hk := Go.Lib.hid hk
      replace hpl := Go.Lib.hid hpl
      clear hC hJp hJ2 hJ3 hR hR2 hg2
      unfold idV at hnx hent hy
      gi_wp2
      refine hRo.mono ?_
      rintro e W3 (⟨rfl, hJ3, hk3⟩ | ⟨rfl, hJx3⟩)
      · have hR4 := Go.Lib.hid (ranging_walks hR3 hk3)
        replace hJ3 := Go.Lib.hid hJ3
        clear hR3
        gi_wp2
        gi_roundg (leftN L.length (fun j => done j || j == i))
        case rel => exact ⟨_, pre ++ [x], rfl, (by have := hlow.out; have := hk.out; have := hpl.out; simp only [List.length_append, List.length_cons, List.length_nil]; omega), hR4.out, hJ3.out, hC2.out⟩
        case measure => rw [hk.out]; exact hlow.out
      · replace hJx3 := Go.Lib.hid hJx3
        gi_wp2
        refine bodyPost_ret (results_none rfl _ _ _) rfl ?_
        exact ⟨⟨_, rfl⟩, .inr ⟨pre ++ [x], trivial, hJx3.out⟩⟩
/-- maps.Keys -/
theorem keys_walk (w : World) (b : Nat) : Calls Try.prog 28 #[.map (some b)] w fun e w' => e = .returned (.func (.func 64) #[] #[.pointer (some ⟨w.heap.size, 0, none⟩)]) ∧ w' = w.alloc (.cells #[.map (some b)] 54) := by
  go_enter Try.func28, Try.ntmps28
  go_wp2_with fail
  go_ret
  exact ⟨rfl, rfl⟩
theorem keys_stops (F : Fence) (n : Nat) (h64 : F.fn 64) (hro : F.round = none) (hn : 1 ≤ n) (Bm b : Nat) (L : Ents) (w : World) (hBm : w.cell? ⟨Bm, 0, none⟩ = some (.map (some b))) (hM : MapAt Try.prog 24 w b L) (hL : ∀ p ∈ L, ∃ a, InId a ∧ p.1 = idV a) :
    SeqStopsK F n Try.prog 64 #[.pointer (some ⟨Bm, 0, none⟩)] (fun x : S24 => #[idV x]) KeepsWalks (fun ys => ys.length ≤ L.length ∧ ∀ a, a ∈ ys ↔ ∃ (i : Nat) (v : Value), L[i]? = some (idV a, v)) (fun _ => True) L.length w := fun l J Jx W hW hJ _ hY h0 =>
  keys1_in F n h64 hro hn l Bm b L J Jx hY W hJ (pw_cell_below hW hBm) (hM.below hW) hL h0
end Go.Proofs.Ytdepmcofnlggaaa.PResolverCycles
end
section
set_option linter.unusedVariables false
set_option linter.unusedSimpArgs false
namespace Go.Proofs.Ytdepmcofnlggaaa.PResolverCycles
attribute [local go_sem] Oper.semAt_some
open Go.RowKit Go.Shelf Go.Proofs.YtdepmcofnlggaaaW.PrintWords Go.Proofs.YtdepmcofnlggaaaW.PrintLast Go.Proofs.YtdepmcofnlggaaaW.PrintMore
open Classical

theorem id_cells (w : World) (x : S24) : IdsAt (w.alloc (.cells #[.int .i64 x.f0, .int .i64 x.f1] 24)) ⟨w.heap.size, 0, none⟩ [x] := by
  intro j u hu
  rw [add_off, Nat.zero_add, blk_cell (heap_alloc_new w _)]
  simpa [idc, encId] using hu
/-- the loop's own variable: a block of its own -/
def LoopVar (B0 : Nat) (Bs : Nat) (sv : Value) (x : S24) (a' : Act) (W : World) : Prop := ∃ Bx, B0 ≤ Bx ∧ W.heap[Bx]? = some (.cells #[.int .i64 x.f0, .int .i64 x.f1] 24) ∧
  a' = { tmps := #[.slice none 0 0, sv, .pointer (some ⟨Bs, 0, none⟩), undef, .slice none 0 0, .pointer (some ⟨Bx, 0, none⟩), sv, .agg #[.int .i64 x.f0, .int .i64 x.f1], undef, undef, undef, undef, undef], defers := [] }
theorem loopVar_own (B0 Bs : Nat) (sv : Value) (x : S24) (a' : Act) (B : Nat) : OwnFrom B (fun (_ : Unit) W => LoopVar B0 Bs sv x a' W) := fun _ X Y row hs hg hr => by
  obtain ⟨Bx, h1, h2, h3⟩ := hs
  refine ⟨Bx, h1, (hg.block Bx (Array.getElem?_eq_some_iff.1 h2).1 (fun e => ?_)).trans h2, h3⟩
  obtain ⟨_, o, ho, hc⟩ := hr Bx e.symm
  rw [h2] at ho; cases ho; cases hc
set_option maxRecDepth 100000 in
set_option maxHeartbeats 2000000 in
theorem appendSeq_in (F : Fence) (n : Nat) (h63 : F.fn 63) (hro : F.round = none) (hn : 2 ≤ n) (gf : Nat) (lb : Array Value) (hgf : F.fn gf) (eg : ∀ args w, (callFunc gf args).run Try.prog w = .ok (.enter gf args) w)
    (S Sp : List S24 → Prop) (N : Nat) (hN : N ≤ 1000000) (w : World) (hseq : SeqStopsK F (n - 1) Try.prog gf lb (fun x : S24 => #[idV x]) KeepsWalks S Sp N w) (hSN : ∀ xs, S xs → xs.length ≤ N) :
    CallsIn F n Try.prog 63 #[.slice none 0 0, .func (.func gf) #[] lb] w fun e W' => ∃ v xs, e = .returned v ∧ S xs ∧ W'.ownsRow w.heap.size 24 2 v xs.length (idc xs) ∧ (v = .slice none 0 0 ↔ xs = []) ∧ Below w.heap.size w W' := by
  have h1 : 1 ≤ n := by omega
  obtain ⟨i0, hi, hz⟩ := Option.map_eq_some_iff.1 info24
  simp only [Prod.mk.injEq] at hz
  obtain ⟨hz0, hz1, hz2⟩ := hz
  refine callsIn_of_wp_marks Try.func63 rfl h63 ?_ hro
  simp only [Try.ntmps63, List.size_toArray, List.length_cons, List.length_nil, Nat.reduceAdd, Nat.reduceSub, Array.replicate_succ, Array.replicate_zero, List.push_toArray, List.append_toArray, List.nil_append, List.cons_append]
  have bO := Boxed.new w 27 (.slice none 0 0)
  have hB0 : Below w.heap.size w (w.alloc (.cells #[.slice none 0 0] 27)) := (Below.refl _ w).alloc (Nat.le_refl _) _
  have hsz : (w.alloc (.cells #[.slice none 0 0] 27)).heap.size = w.heap.size + 1 := by simp
  gi_wp2
  refine wpIn_rangeFunc_ownH hro h1 (gf := gf) (lb := lb) rfl hgf eg
    (show SeqStopsK F (n - 1) Try.prog gf lb (fun x : S24 => #[idV x]) KeepsWalks S Sp N w from hseq) walksK_t walksK_b hB0 (fun _ => rfl)
    (fun pre W => (∃ v, Boxed W w.heap.size 27 v ∧ W.ownsRow w.heap.size 24 2 v pre.length (idc pre) ∧ (v = .slice none 0 0 ↔ pre = [])) ∧ Below w.heap.size w W)
    (fun _ _ _ => False)
    (OwnFrom.and (Own.from (holdsRow_own w.heap.size w.heap.size 27 24 2 (fun pre => pre.length) (fun pre => idc pre) (fun pre v => v = .slice none 0 0 ↔ pre = [])) _) (ownFrom_below (Nat.le_refl _) (by omega)))
    (fun _ _ _ _ _ hs _ _ => hs)
    ⟨⟨_, bO, World.ownsRow_nil _ _ _ _, by simp⟩, hB0⟩
    (fun x a' W => LoopVar (w.heap.size + 1) w.heap.size (.func (.func gf) #[] lb) x a' W)
    (fun x a' => loopVar_own _ _ _ _ _ _) ?assign ?body ?done ?stop
  case assign =>
    rintro l pre x W K ⟨⟨v, hv, hrow, hnil⟩, hB⟩ hK
    have hlt := hv.lt
    have hsW := hB.size
    simp only [idV] 
    gi_wp2
    exact hK _ _ ((KeepsOthers.alloc _ _).from _) (KeepsWalks.alloc _ _) ⟨⟨v, hv.alloc _, hrow.alloc _, hnil⟩, hB.alloc hsW _⟩ ⟨W.heap.size, hlt, heap_alloc_new W _, rfl⟩
  case body =>
    rintro l pre x a' W hl hr ⟨⟨v, hv, hrow, hnil⟩, hB⟩ ⟨Bx, hBx, hbx, rfl⟩ hlt
    have hc := hv.cell
    have e0 := blk_cell hbx 0
    have e1 := blk_cell hbx 1
    simp only [List.getElem?_toArray, List.getElem?_cons_zero, List.getElem?_cons_succ] at e0 e1
    have hid := id_cells W x
    have hsW := hB.size
    have hpl : pre.length ≤ 1000000 := by omega
    have hids1 : (idc [x]).length = 1 * 2 := rfl
    clear hsz hbx
    gi_wp2_with (gi_at_builtin; refine wpListIn_append_own _ rfl _ _ 27 rfl w.heap.size 24 i0 _ 2 16 Try.underlying27 hi hz0 hz1 hz2 rfl (by decide) _ _ _ rfl (hrow.alloc _) ⟨W.heap.size, 0, none⟩ 1 1 (idc [x]) rfl rfl hid (idc_one [x]) (by simp only [maxLen]; omega) (by omega) (by simp; omega) ?_; intro v' w1 hown' hgrow _; obtain ⟨g', cap', rfl⟩ := ownsRow_succ hown'; obtain ⟨hv1, hv2, hr2, hk2, hb2⟩ := hv.appended (by decide) hrow hB.size (Nat.le_refl _) hown' hgrow; have hc1 := hv1.cell; have hf1 := hv1.frozen)
    refine ⟨hk2.from _, hk2.walks, ⟨_, hv2, ?_, by simp⟩, hB.trans hb2⟩
    rw [idc_append, List.length_append]
    exact hr2
  case done =>
    rintro D ys W hD hS ⟨⟨v, hv, hrow, hnil⟩, hB⟩ hK
    have hc := hv.cell
    gi_wp2
    refine ⟨by simp, .inl ⟨_, _, rfl, run_takeDeferred hK, ?_⟩⟩
    exact ⟨_, results_tmp rfl _ _ _, v, ys, rfl, hS, ownsRow_putObj hrow _ hK rfl, hnil, hB.trans (belowK_b (w := w) (Nat.le_refl _) W D _ _ (by simp at hD; omega) hK rfl rfl)⟩
  case stop =>
    rintro D c pre W _ _ h _
    exact h.elim
/-- slices.Collect(maps.Keys(m)) -/
theorem collect_walk (w : World) (Bm b : Nat) (L : Ents) (hBm : w.cell? ⟨Bm, 0, none⟩ = some (.map (some b))) (hM : MapAt Try.prog 24 w b L) (hL : ∀ p ∈ L, ∃ a, InId a ∧ p.1 = idV a) (hN : L.length ≤ 1000000) :
    Calls Try.prog 27 #[.func (.func 64) #[] #[.pointer (some ⟨Bm, 0, none⟩)]] w fun e w' => ∃ v xs, e = .returned v ∧ (∀ a, a ∈ xs ↔ ∃ (i : Nat) (v : Value), L[i]? = some (idV a, v)) ∧ xs.length ≤ L.length ∧ w'.ownsRow w.heap.size 24 2 v xs.length (idc xs) ∧ (v = .slice none 0 0 ↔ xs = []) ∧ Below w.heap.size w w' := by
  have H := appendSeq_in Fence.wide 5 trivial rfl (by omega) 64 #[.pointer (some ⟨Bm, 0, none⟩)] trivial (enters_of Try.func64 (by kernel_rfl) rfl) _ _ L.length hN w (keys_stops Fence.wide 4 trivial rfl (by omega) Bm b L w hBm hM hL) (fun xs h => h.1)
  have H' := (callsIn_wide (n := 5)).1 H
  clear H
  go_enter Try.func27, Try.ntmps27
  go_wp2_with (go_at_call 63; refine H'.mono ?_; rintro e w' ⟨v, xs, rfl, hS, hrow, hnil, hb⟩)
  go_ret
  exact ⟨v, xs, rfl, hS.2, hS.1, hrow, hnil, hb⟩
end Go.Proofs.Ytdepmcofnlggaaa.PResolverCycles
end
section
set_option linter.unusedVariables false
set_option linter.unusedSimpArgs false
namespace Go.Proofs.Ytdepmcofnlggaaa.PResolverCycles
open Go.RowKit Go.Proofs.YtdepmcofnlggaaaW.PrintWords Go.Proofs.YtdepmcofnlggaaaW.PrintLast Go.Proofs.YtdepmcofnlggaaaW.PrintMore
open Classical

/-- the three boxes: the distances, from, best -/
structure LM (w W : World) (fb T4 T5 T7 : Nat) (from_ : S24) (best : Int) : Prop where
  below : Below w.heap.size w W
  g4 : w.heap.size ≤ T4
  g5 : w.heap.size ≤ T5
  g7 : w.heap.size ≤ T7
  n47 : T4 ≠ T7
  n57 : T5 ≠ T7
  b4 : W.heap[T4]? = some (.cells #[.map (some fb)] 62 (0, 0))
  b5 : W.heap[T5]? = some (.cells #[.int .i64 from_.f0, .int .i64 from_.f1] 24 (0, 0))
  b7 : Boxed W T7 3 (.int .i64 best)
section
variable {w W W' : World} {fb T4 T5 T7 : Nat} {from_ : S24} {best : Int}
theorem lt_of_block {W : World} {b : Nat} {o : Obj} (h : W.heap[b]? = some o) : b < W.heap.size := (Array.getElem?_eq_some_iff.1 h).1
theorem LM.later (h : LM w W fb T4 T5 T7 from_ best) (hb : Below W.heap.size W W') : LM w W' fb T4 T5 T7 from_ best :=
  ⟨h.below.trans (hb.mono h.below.size), h.g4, h.g5, h.g7, h.n47, h.n57, (hb.block _ (lt_of_block h.b4)).trans h.b4, (hb.block _ (lt_of_block h.b5)).trans h.b5, (hb.block _ h.b7.lt).trans h.b7⟩
theorem LM.set (h : LM w W fb T4 T5 T7 from_ best) (b' : Int) : LM w (W.setCell ⟨T7, 0, none⟩ (.int .i64 b')) fb T4 T5 T7 from_ b' := by
  have hg := grownBy_setCell' W T7 (.int .i64 b')
  exact ⟨h.below.setCell (p := ⟨T7, 0, none⟩) h.g7 _, h.g4, h.g5, h.g7, h.n47, h.n57, (hg.block _ (lt_of_block h.b4) (fun e => h.n47 (by cases e; rfl))).trans h.b4, (hg.block _ (lt_of_block h.b5) (fun e => h.n57 (by cases e; rfl))).trans h.b5, h.b7.set _⟩
/-- a block of the call's own turned: neither of the three -/
theorem LM.kept {row : Option Nat} (h : LM w W fb T4 T5 T7 from_ best) (hg : W.grownBy W' row) (hr : ∀ k, row = some k → w.heap.size ≤ k ∧ k ≠ T4 ∧ k ≠ T5 ∧ k ≠ T7) : LM w W' fb T4 T5 T7 from_ best :=
  ⟨pw_below_grown h.below _ h.below.size hg (fun k e => (hr k e).1), h.g4, h.g5, h.g7, h.n47, h.n57, (hg.block _ (lt_of_block h.b4) (fun e => (hr T4 e.symm).2.1 rfl)).trans h.b4, (hg.block _ (lt_of_block h.b5) (fun e => (hr T5 e.symm).2.2.1 rfl)).trans h.b5, h.b7.kept hg (fun e => (hr T7 e.symm).2.2.2 rfl)⟩
theorem LM.cells (h : LM w W fb T4 T5 T7 from_ best) : W.cell? ⟨T4, 0, none⟩ = some (.map (some fb)) ∧ W.cell? ⟨T5, 0, none⟩ = some (.int .i64 from_.f0) ∧ W.cell? ⟨T5, 1, none⟩ = some (.int .i64 from_.f1) ∧ W.cell? ⟨T7, 0, none⟩ = some (.int .i64 best) ∧ W.frozen? ⟨T7, 0, none⟩ = false := by
  refine ⟨?_, ?_, ?_, h.b7.cell, h.b7.frozen⟩
  · rw [blk_cell h.b4]; rfl
  · rw [blk_cell h.b5]; rfl
  · rw [blk_cell h.b5]; rfl
end
theorem lm_start (w : World) (fb : Nat) (from_ : S24) :
    LM w (((w.alloc (.cells #[.map (some fb)] 62)).alloc (.cells #[.int .i64 from_.f0, .int .i64 from_.f1] 24)).alloc (.cells #[.int .i64 (-1)] 3)) fb w.heap.size (w.heap.size + 1) (w.heap.size + 2) from_ (-1) := by
  have s1 : (w.alloc (.cells #[.map (some fb)] 62)).heap.size = w.heap.size + 1 := by simp
  have s2 : ((w.alloc (.cells #[.map (some fb)] 62)).alloc (.cells #[.int .i64 from_.f0, .int .i64 from_.f1] 24)).heap.size = w.heap.size + 2 := by simp
  have h1 := heap_alloc_new w (.cells #[.map (some fb)] 62)
  have h2 := heap_alloc_new (w.alloc (.cells #[.map (some fb)] 62)) (.cells #[.int .i64 from_.f0, .int .i64 from_.f1] 24)
  have h3 := heap_alloc_new ((w.alloc (.cells #[.map (some fb)] 62)).alloc (.cells #[.int .i64 from_.f0, .int .i64 from_.f1] 24)) (.cells #[.int .i64 (-1)] 3)
  rw [s1] at h2
  rw [s2] at h3
  refine ⟨(((Below.refl _ w).alloc (Nat.le_refl _) _).alloc (by omega) _).alloc (by omega) _, by omega, by omega, by omega, by omega, by omega, ?_, ?_, h3⟩
  · rw [heap_alloc_old _ _ (by omega), heap_alloc_old _ _ (by omega)]; exact h1
  · rw [heap_alloc_old _ _ (by omega)]; exact h2
/-- the first loop: the least distance of those that have come -/
def BestOf (dst : S24 → Option Nat) (l : List S24) (best : Int) : Prop :=
  (best = -1 ∧ ∀ x ∈ l, dst x = none) ∨ ∃ m : Nat, best = (m : Int) ∧ (∃ x ∈ l, dst x = some m) ∧ ∀ x ∈ l, ∀ k, dst x = some k → m ≤ k
theorem BestOf.skip {dst : S24 → Option Nat} {l : List S24} {best : Int} (h : BestOf dst l best) {x : S24} (hx : dst x = none) : BestOf dst (l ++ [x]) best := by
  rcases h with ⟨h1, h2⟩ | ⟨m, h1, ⟨y, hy, hd⟩, h3⟩
  · refine .inl ⟨h1, fun y hy => ?_⟩
    rcases List.mem_append.1 hy with hy | hy
    · exact h2 y hy
    · rw [List.mem_singleton.1 hy]; exact hx
  · refine .inr ⟨m, h1, ⟨y, by simp [hy], hd⟩, fun y hy k hk => ?_⟩
    rcases List.mem_append.1 hy with hy | hy
    · exact h3 y hy k hk
    · rw [List.mem_singleton.1 hy, hx] at hk; cases hk
theorem BestOf.keep {dst : S24 → Option Nat} {l : List S24} {best : Int} (h : BestOf dst l best) {x : S24} {n : Nat} (hx : dst x = some n) (h0 : 0 ≤ best) (hb : best ≤ n) : BestOf dst (l ++ [x]) best := by
  rcases h with ⟨h1, h2⟩ | ⟨m, h1, ⟨y, hy, hd⟩, h3⟩
  · omega
  · refine .inr ⟨m, h1, ⟨y, by simp [hy], hd⟩, fun y hy k hk => ?_⟩
    rcases List.mem_append.1 hy with hy | hy
    · exact h3 y hy k hk
    · rw [List.mem_singleton.1 hy, hx] at hk; cases hk; omega
theorem BestOf.better {dst : S24 → Option Nat} {l : List S24} {best : Int} (h : BestOf dst l best) {x : S24} {n : Nat} (hx : dst x = some n) (hb : best < 0 ∨ (n : Int) < best) : BestOf dst (l ++ [x]) n := by
  refine .inr ⟨n, rfl, ⟨x, by simp, hx⟩, fun y hy k hk => ?_⟩
  rcases List.mem_append.1 hy with hy | hy
  · rcases h with ⟨h1, h2⟩ | ⟨m, h1, ⟨z, hz, hd⟩, h3⟩
    · rw [h2 y hy] at hk; cases hk
    · have := h3 y hy k hk; omega
  · rw [List.mem_singleton.1 hy, hx] at hk; cases hk; exact Nat.le_refl _
theorem BestOf.lo {dst : S24 → Option Nat} {l : List S24} {best : Int} (h : BestOf dst l best) : -1 ≤ best := by
  rcases h with ⟨h1, _⟩ | ⟨m, h1, _⟩ <;> omega
section
variable {E : List (S24 × S24)} {from_ : S24} {s : List S24} {best : Int}
/-- none: no round -/
theorem BestOf.no (h : BestOf (Rc.dist ltI E from_) s best) (hm : ∀ x, x ∈ s ↔ (from_, x) ∈ E) (hb : best < 0) : Rc.Round ltI E from_ none := by
  rcases h with ⟨_, h2⟩ | ⟨m, h1, _⟩
  · refine .inl ⟨fun m ⟨x, hx, hd⟩ => ?_, rfl⟩
    rw [h2 x ((hm x).2 hx)] at hd; cases hd
  · omega
theorem BestOf.yes (h : BestOf (Rc.dist ltI E from_) s best) (hm : ∀ x, x ∈ s ↔ (from_, x) ∈ E) (hb : ¬ best < 0) : ∃ m : Nat, best = (m : Int) ∧ Rc.Shortest ltI E from_ m := by
  rcases h with ⟨h1, h2⟩ | ⟨m, h1, ⟨x, hx, hd⟩, h3⟩
  · omega
  · refine ⟨m, h1, ⟨x, (hm x).1 hx, hd⟩, fun k hk ⟨y, hy, hdy⟩ => ?_⟩
    have := h3 y ((hm y).2 hy) k hdy
    omega
end
/-- the second loop: what has come, and what is still to come -/
def OnWay (E : List (S24 × S24)) (from_ : S24) (m : Nat) (a : S24) (k : Nat) (L : List S24) : Prop :=
  (∃ t, L = from_ :: t ∧ t.length + k = m ∧ ∀ r, Rc.Way ltI E from_ a k r → Rc.Way ltI E from_ from_ m (t ++ r)) ∧ ∃ g, (a, g) ∈ E ∧ Rc.dist ltI E from_ g = some k
theorem onWay_start {E : List (S24 × S24)} {from_ : S24} {m : Nat} (h : Rc.Shortest ltI E from_ m) : OnWay E from_ m from_ m [from_] :=
  ⟨⟨[], rfl, by simp, fun r h => h⟩, h.1⟩
theorem OnWay.step {E : List (S24 × S24)} {from_ : S24} {m k : Nat} {a x : S24} {L : List S24} (h : OnWay E from_ m a (k + 1) L) (hn : Rc.Next ltI E from_ a (k + 1) x) : OnWay E from_ m x k (L ++ [x]) := by
  obtain ⟨⟨t, rfl, hl, ht⟩, _⟩ := h
  refine ⟨⟨t ++ [x], rfl, by simp; omega, fun r hr => ?_⟩, next_more hn⟩
  rw [List.append_assoc]
  exact ht _ ⟨x, r, rfl, hn, hr⟩
theorem OnWay.fin {E : List (S24 × S24)} {from_ : S24} {m : Nat} {a : S24} {L : List S24} (h : OnWay E from_ m a 0 L) (hs : Rc.Shortest ltI E from_ m) : Rc.Round ltI E from_ (some L) := by
  obtain ⟨⟨t, rfl, hl, ht⟩, _⟩ := h
  exact .inr ⟨m, t, hs, rfl, by simpa using ht [] rfl⟩
theorem set_one {W : World} {b i : Nat} {cur : Array Value} {t : TypeId} (h : W.heap[b]? = some (.cells cur t (0, 0))) (v : Value) : (W.setCell ⟨b, i, none⟩ v).heap[b]? = some (.cells (cur.setIfInBounds i v) t (0, 0)) := by
  obtain ⟨hlt, hk⟩ := Array.getElem?_eq_some_iff.1 h
  show (W.heap.modify b _)[b]? = _
  rw [Array.getElem?_eq_getElem (by rw [Array.size_modify]; exact hlt), Array.getElem_modify_self, hk]
  rfl
/-- an identity stored into its block -/
theorem set_id {W : World} {b : Nat} {a : S24} (h : W.heap[b]? = some (.cells #[.int .i64 a.f0, .int .i64 a.f1] 24 (0, 0))) (x : S24) :
    ((W.setCell ⟨b, 0, none⟩ (.int .i64 x.f0)).setCell ⟨b, 1, none⟩ (.int .i64 x.f1)).heap[b]? = some (.cells #[.int .i64 x.f0, .int .i64 x.f1] 24 (0, 0)) := set_one (set_one h _) _
theorem set_grown (W : World) (b : Nat) (u v : Value) : W.grownBy ((W.setCell ⟨b, 0, none⟩ u).setCell ⟨b, 1, none⟩ v) (some b) := by
  have h1 := grownBy_setCell' W b u
  have h2 : ∀ W : World, W.grownBy (W.setCell ⟨b, 1, none⟩ v) (some b) := fun W => ⟨rfl, rfl, rfl, (KeepsWalks.setCell W _ v).size, fun k _ hk => Below.heap_setCell _ _ _ k (fun e => hk (by rw [e]))⟩
  have h3 := h2 (W.setCell ⟨b, 0, none⟩ u)
  exact ⟨rfl, rfl, rfl, Nat.le_trans h1.size h3.size, fun k hk hne => (h3.block k (Nat.lt_of_lt_of_le hk h1.size) hne).trans (h1.block k hk hne)⟩
end Go.Proofs.Ytdepmcofnlggaaa.PResolverCycles
end
