/- Records copied, walked. -/
import Derived.Test.YtggogenhakdhiaaDoorWalSmall2
import Derived.Laws.MakeOwn
set_option linter.unusedVariables false
set_option linter.unusedSimpArgs false
attribute [local go_sem ↓] Go.wp_at_zero Go.wp_at_succ
namespace Go.Proofs.YtggogenhakdhiaaDoor
open Go.RowKit

/-- make([]T, 0, n) for records -/
theorem wpList_make_recs {P : Program} {ops : Array Oper} {rest : List Oper} {o : Oper} {a : Act} {w : World} {Q : Exit → Act → World → Prop} (hgd : o.guard = none) (t T : TypeId) (x y : Operand) (ho : o.op = .makeSlice t x y) (n : Nat) (hx : a.eval x = .int .i64 0) (hy : a.eval y = .int .i64 n)
    (ht : P.underlying t = some (.slice T)) (hinfo : (P.info? T).map (fun i => (i.zero, i.size, i.bytes)) = some (some (.agg #[.int .i64 0, .slice none 0 0]), 2, 32)) (hn : n ≤ 4000000000000)
    (h : ∀ w1, RecsAt T w1 (fun k => w.heap.size ≤ k) (.slice (some ⟨w.heap.size, 0, none⟩) 0 n) [] → Below w.heap.size w w1 → wpList P ops Q rest (a.put o.dst (.slice (some ⟨w.heap.size, 0, none⟩) 0 n)) w1) : wpList P ops Q (o :: rest) a w := by
  obtain ⟨i, hi, hz, hs, hb⟩ := info_parts hinfo
  have hr := run_make (P := P) w t T i _ ht hi hz .i64 .i64 0 n (by omega) (by omega) (by rw [hb]; omega) (by omega)
  refine wpList_plain hgd fun K hK => ?_
  unfold Oper.wp execOp
  simp only [ho, hx, hy, Sem.run_bind, Sem.run_pure, Result.andThen_ok, hr]
  refine hK _ _ (h _ ⟨⟨[], ?_, fun i r hr => by simp at hr⟩, fun k hk => ?_⟩ ((Below.refl _ _).alloc (Nat.le_refl _) _))
  · have := World.ownsRow_made (base := 0) (e := T) (size := 2) w (madeCells (Value.agg #[.int .i64 0, .slice none 0 0]).cells (n * i.size)) n (Nat.zero_le _) (by simp only [maxLen]; omega) (by rw [hs]; simp [madeCells])
    simpa using this
  · have : w.heap.size = k := by simpa [Value.ownBlock] using hk
    omega
theorem RecsAt.loads {T : TypeId} {w : World} {Z : Nat → Prop} {v : Value} {l : List (Int × List UInt8)} (h : RecsAt T w Z v l) {i : Nat} (hi : i < l.length) :
    ∃ g cap A c, v = .slice (some ⟨g, 0, none⟩) l.length cap ∧ w.cell? ⟨g, i * 2, none⟩ = some (.int .i64 (l[i]).1) ∧ w.cell? ⟨g, i * 2 + 1, none⟩ = some (.slice A (l[i]).2.length c) ∧ OwnB w Z A (l[i]).2.length c (l[i]).2 ∧ l.length ≤ cap ∧ cap ≤ 9223372036854775807 := by
  obtain ⟨g, cap, A, c, hv, h1, h2, h3⟩ := h.cell (List.getElem?_eq_getElem hi)
  obtain ⟨A', c', hv', k1, k2⟩ := h.cap
  rw [hv'] at hv
  cases hv
  exact ⟨g, cap, A, c, hv', by rw [Nat.mul_comm]; exact h1, by rw [Nat.mul_comm]; exact h2, h3, k1, k2⟩
set_option maxHeartbeats 1000000 in
set_option maxRecDepth 20000 in
theorem copied_walk (w : World) (Z : Nat → Prop) (v : Value) (l : List (Int × List UInt8)) (h : RecsAt 50 w Z v l) (hl : l.length ≤ 1000000000) (hb : ∀ r ∈ l, r.2.length ≤ 100000000000000) :
    Calls Tryd.prog 62 #[v] w (fun e w' => ∃ v', e = .returned v' ∧ RecsAt 50 w' (fun k => w.heap.size ≤ k) v' l ∧ Below w.heap.size w w') := by
  obtain ⟨A0, c0, rfl, hc0, hc1⟩ := h.cap
  go_enter Tryd.func62, Tryd.ntmps62
  go_wp2_with (at_make; go_must (refine wpList_make_recs (o := ⟨some 8, _, _, _, _, _⟩) rfl 44 50 (.const (.int .i64 0)) (.tmp 7) rfl l.length rfl rfl Tryd.underlying44 info_rec (by omega) ?_; intro w1 hR1 hB1))
  go_loopw [3, 11] (fun v i wr => ∃ j : Nat, j ≤ l.length ∧ i = .int .i64 j ∧ RecsAt 50 wr (fun k => w.heap.size ≤ k) v (l.take j) ∧ Below w.heap.size w wr) (fun _ i _ => l.length - (intOf i).toNat)
  case atStart => exact ⟨0, by omega, rfl, by rw [List.take_zero]; exact hR1, hB1⟩
  case round =>
    obtain ⟨j, hj, rfl, hRj, hBr⟩ := hrel
    by_cases hlt : j < l.length
    · have hltz : (j : Int) < (l.length : Int) := by omega
      have hr := h.below hBr
      obtain ⟨g, cap, A, c, hv, k0, k1, hO, _, _⟩ := hr.loads hlt
      cases hv
      have hbl := hb l[j] (List.getElem_mem _)
      have htk : l.take (j + 1) = l.take j ++ [l[j]] := by rw [List.take_succ_eq_append_getElem hlt]
      generalize l[j] = r at *
      replace htk := Go.Lib.hid htk
      have hBX : Below wr.heap.size wr (wr.alloc (.cells #[.int .i64 r.1, .slice A r.2.length c] 50)) := (Below.refl _ _).alloc (Nat.le_refl _) _
      have hX := heap_alloc_new wr (.cells #[.int .i64 r.1, .slice A r.2.length c] 50)
      obtain ⟨gx, hgx⟩ : ∃ x, x = wr.heap.size := ⟨_, rfl⟩
      go_upto_region 5 with fail
      rw [← hgx] at hX ⊢
      have hgx1 : wr.heap.size ≤ gx := by omega
      clear hgx
      have hRX := hRj.below hBX
      have hBw : Below w.heap.size w (wr.alloc (.cells #[.int .i64 r.1, .slice A r.2.length c] 50)) := hBr.trans (hBX.mono hBr.size)
      have hby := hO.bys.below hBX
      have hlX : gx < (wr.alloc (.cells #[.int .i64 r.1, .slice A r.2.length c] 50)).heap.size := (Array.getElem?_eq_some_iff.1 hX).1
      have hzX := hBX.size
      have hvX := fun k hk => Nat.lt_of_lt_of_le (hRj.lt k hk) hgx1
      have hlt2 : (l.take j).length = j := by rw [List.length_take]; omega
      generalize wr.alloc (.cells #[.int .i64 r.1, .slice A r.2.length c] 50) = W at *
      have hsW := hBw.size
      have z0 := cell_of_row W gx 0 _ _ _ hX
      have z1 := cell_of_row W gx 1 _ _ _ hX
      have hd : Below W.heap.size W W.drew := below_drew (Below.refl _ _)
      have HC := clone_any W.drew A r.2.length c r.2 (hby.below hd) (by omega)
      replace hlt2 := Go.Lib.hid hlt2
      go_region_held_law (fun w' => w'.cell? ⟨gx, 0, none⟩ = some (.int .i64 r.1) ∧ w'.cell? ⟨gx, 1, none⟩ = some (.slice A r.2.length c)) (first | exact ⟨y0, y1⟩ | exact ⟨x0, x1⟩ | go_keep) ((first
        | (refine step_append_recs (o := ⟨some 23, _, _, _, _, _⟩) rfl (.tmp 15) (.tmp 22) 44 50 rfl (by decide) Tryd.underlying44 info_rec rfl hR3 rfl hone (by rw [show (l.take j).length = j from hlt2.out]; show j + 1 ≤ _; omega) ?_; intro v4 w4 hR4 hg4; obtain ⟨A4, c4, hv4⟩ := hR4.slice; subst hv4; have hX4 := (hg4.block gx hlX3 (fun e => by have := hvX gx e.symm; omega)).trans hX3; have y0 := cell_of_row w4 gx 0 _ _ _ hX4; have y1 := cell_of_row w4 gx 1 _ _ _ hX4)
        | (go_at_call 94; (with_reducible refine HC.mono ?_); intro e w2 hR; obtain ⟨A2, c2, rfl, hown2, hB2⟩ := hR; have hB2W := hd.trans hB2; have x0 := cell_below hB2W z0; have x1 := cell_below hB2W z1; have hB3 : Below W.heap.size W (w2.alloc (.cells #[.int .i64 r.1, .slice A2 r.2.length c2] 50)) := hB2W.alloc hB2W.size _; have hR3 := hRX.below hB3; have hone := RecsAt.one (T := 50) (k := r.1) (OwnB.mk' hown2); have hX3 := (hB3.block gx hlX).trans hX; have hlX3 := (Array.getElem?_eq_some_iff.1 hX3).1)))
      go_wp2_with fail
      have hBw4 : Below w.heap.size w w4 := by
        refine Below.grown (hBw.trans (hB3.mono hsW)) hg4 (Nat.le_trans hsW hB3.size) fun k hk => ?_
        exact hRj.in_ k hk
      have hR5 : RecsAt 50 w4 (fun k => w.heap.size ≤ k) (.slice A4 (l.take (j + 1)).length c4) (l.take (j + 1)) := by
        rw [htk.out]
        exact hR4.mono (fun k _ hz => by
          have h1 : W.drew.heap.size = W.heap.size := rfl
          have h2 := hB2W.size
          rcases hz with hz | (hz | hz) | hz
          · exact hz
          · omega
          · omega
          · simp at hz; omega)
      rw [show (l.take (j + 1)).length = j + 1 by rw [List.length_take]; omega] at hR5
      go_roundw
      case rel => exact ⟨j + 1, hlt, by go_num, hR5, hBw4⟩
      case measure => simp [intOf]; omega
    · have hjl : j = l.length := by omega
      subst hjl
      rw [List.take_length] at hRj
      obtain ⟨A9, c9, rfl⟩ := hRj.slice
      go_wp2
      go_ret
      exact ⟨_, rfl, hRj, hBr⟩
theorem records_walk (w : World) (Z : Nat → Prop) (gl g : Nat) (v : Value) (s : LS) (h : PLog w Z gl g v s) (hl : s.recs.length ≤ 1000000000) (hb : ∀ r ∈ s.recs, r.2.length ≤ 100000000000000) :
    Calls Tryd.prog 22 #[.pointer (some ⟨gl, 0, none⟩)] w (fun e w' => ∃ v', e = .returned v' ∧ RecsAt 50 w' (fun k => w.heap.size ≤ k) v' s.recs ∧ Below w.heap.size w w') := by
  obtain ⟨-, -, -, c3, -⟩ := h.cell
  have HC := copied_walk w Z v s.recs h.recs hl hb
  obtain ⟨A, c, rfl⟩ := h.recs.slice
  clear h
  go_enter Tryd.func22, Tryd.ntmps22
  go_wp2_with (go_at_call 62; go_must (refine HC.mono ?_; rintro e w1 ⟨v1, rfl, hR1, hB1⟩; obtain ⟨A1, c1, hv1⟩ := hR1.slice; subst hv1))
  go_ret
  exact ⟨_, rfl, hR1, hB1⟩
/-- the law's comparison of records that are the same -/
theorem same_recs (w : World) (Z Z' : Nat → Prop) (v v' : Value) (l : List (Int × List UInt8)) (h : RecsAt 50 w Z v l) (h' : RecsAt 102 w Z' v' l) :
    Calls Tryd.prog 52 #[v, v'] w (fun e w' => e = .returned (.bool true) ∧ Below w.heap.size w w') := by
  obtain ⟨A0, c0, rfl, hc0, hc1⟩ := h.cap
  obtain ⟨B0, d0, rfl, hd0, hd1⟩ := h'.cap
  have hq : ((l.length : Int) != (l.length : Int)) = false := by simp
  go_enter Tryd.func52, Tryd.ntmps52
  go_wp2
  go_loopw [5] (fun i wr => ∃ j : Nat, j ≤ l.length ∧ i = .int .i64 j ∧ Below w.heap.size w wr) (fun i _ => l.length - (intOf i).toNat)
  case atStart => exact ⟨0, by omega, rfl, Below.refl _ _⟩
  case round =>
    obtain ⟨j, hj, rfl, hBr⟩ := hrel
    by_cases hlt : j < l.length
    · have hltz : (j : Int) < (l.length : Int) := by omega
      obtain ⟨g, cap, A, c, hv, k0, k1, hO, _, _⟩ := (h.below hBr).loads hlt
      cases hv
      obtain ⟨g', cap', B, d, hv', k0', k1', hO', _, _⟩ := (h'.below hBr).loads hlt
      cases hv'
      generalize l[j] = r at *
      have st1 := (hO.bys.drew).string (P := Tryd.prog) Tryd.underlying22 Tryd.underlying5 Tryd.underlying9 c
      have st2 := (hO'.bys.drew).string (P := Tryd.prog) Tryd.underlying22 Tryd.underlying5 Tryd.underlying9 d
      have hne : (r.1 != r.1) = false := by simp
      go_upto_region 6 with fail
      go_region_held_law (fun w' => w'.cell? ⟨g, j * 2, none⟩ = some (.int .i64 r.1) ∧ w'.cell? ⟨g, j * 2 + 1, none⟩ = some (.slice A r.2.length c) ∧ w'.cell? ⟨g', j * 2, none⟩ = some (.int .i64 r.1) ∧ w'.cell? ⟨g', j * 2 + 1, none⟩ = some (.slice B r.2.length d)) (go_keep) (fail)
      all_goals
        go_wp2_with fail
        go_roundw
        case rel => exact ⟨j + 1, hlt, by go_num, below_drew hBr⟩
        case measure => simp [intOf]; omega
    · go_wp2
      go_ret
      exact ⟨rfl, hBr⟩
end Go.Proofs.YtggogenhakdhiaaDoor
