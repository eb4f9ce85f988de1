/- Records in memory: slices whose elements are a kind and bytes of their own. -/
import Derived.Test.YtggogenhakdhiaaDoorWalSmall
import Derived.Deep.RegionLaw
set_option linter.unusedVariables false
set_option linter.unusedSimpArgs false
namespace Go.Proofs.YtggogenhakdhiaaDoor
open Go.RowKit

/-- bytes of the call's own, in blocks of Z -/
structure OwnB (w : World) (Z : Nat → Prop) (A : Option Addr) (n c : Nat) (l : List UInt8) : Prop where
  own : w.ownsRow 0 5 1 (.slice A n c) n (bv l)
  in_ : ∀ k, (Value.slice A n c).ownBlock = some k → Z k
theorem OwnB.bys {w : World} {Z : Nat → Prop} {A : Option Addr} {n c : Nat} {l : List UInt8} (h : OwnB w Z A n c l) : Bys w A n l := Bys.own h.own
theorem OwnB.mk' {w : World} {base : Nat} {A : Option Addr} {n c : Nat} {l : List UInt8} (h : w.ownsRow base 5 1 (.slice A n c) n (bv l)) : OwnB w (fun k => base ≤ k) A n c l := ⟨own_lo h (Nat.zero_le _), fun k hk => own_base h k hk⟩
theorem OwnB.mono {w : World} {Z Z' : Nat → Prop} {A : Option Addr} {n c : Nat} {l : List UInt8} (h : OwnB w Z A n c l) (hz : ∀ k, k < w.heap.size → Z k → Z' k) : OwnB w Z' A n c l := ⟨h.own, fun k hk => hz k (own_lt h.own k hk) (h.in_ k hk)⟩
theorem OwnB.same {w w' : World} {Z : Nat → Prop} {A : Option Addr} {n c : Nat} {l : List UInt8} (h : OwnB w Z A n c l) (hb : ∀ k, k < w.heap.size → Z k → w'.heap[k]? = w.heap[k]?) : OwnB w' Z A n c l :=
  ⟨own_at h.own (fun j hj => hb j (own_lt h.own j hj) (h.in_ j hj)), h.in_⟩
/-- records of the call's own, in blocks of Z -/
structure RecsAt (T : TypeId) (w : World) (Z : Nat → Prop) (v : Value) (l : List (Int × List UInt8)) : Prop where
  ex : ∃ xs, w.ownsRow 0 T 2 v l.length xs ∧ ∀ i r, l[i]? = some r → ∃ A c, xs[2 * i]? = some (.int .i64 (r.1 : Int)) ∧ xs[2 * i + 1]? = some (.slice A r.2.length c) ∧ OwnB w Z A r.2.length c r.2
  in_ : ∀ k, v.ownBlock = some k → Z k
section
variable {T : TypeId} {w w' : World} {Z Z' : Nat → Prop} {v : Value} {l : List (Int × List UInt8)}
theorem RecsAt.nil (T : TypeId) (w : World) (Z : Nat → Prop) : RecsAt T w Z (.slice none 0 0) [] := ⟨⟨[], World.ownsRow_nil w 0 T 2, fun i r h => by simp at h⟩, fun k hk => by simp [Value.ownBlock] at hk⟩
theorem RecsAt.slice (h : RecsAt T w Z v l) : ∃ A c, v = .slice A l.length c := by
  obtain ⟨xs, ho, _⟩ := h.ex
  exact own_slice ho
theorem RecsAt.lt (h : RecsAt T w Z v l) : ∀ k, v.ownBlock = some k → k < w.heap.size := by
  obtain ⟨xs, ho, _⟩ := h.ex
  exact own_lt ho
theorem RecsAt.mono (h : RecsAt T w Z v l) (hz : ∀ k, k < w.heap.size → Z k → Z' k) : RecsAt T w Z' v l := by
  obtain ⟨xs, ho, hx⟩ := h.ex
  refine ⟨⟨xs, ho, fun i r hr => ?_⟩, fun k hk => hz k (own_lt ho k hk) (h.in_ k hk)⟩
  obtain ⟨A, c, h1, h2, h3⟩ := hx i r hr
  exact ⟨A, c, h1, h2, h3.mono hz⟩
theorem RecsAt.same (h : RecsAt T w Z v l) (hb : ∀ k, k < w.heap.size → Z k → w'.heap[k]? = w.heap[k]?) : RecsAt T w' Z v l := by
  obtain ⟨xs, ho, hx⟩ := h.ex
  refine ⟨⟨xs, own_at ho (fun j hj => hb j (own_lt ho j hj) (h.in_ j hj)), fun i r hr => ?_⟩, h.in_⟩
  obtain ⟨A, c, h1, h2, h3⟩ := hx i r hr
  exact ⟨A, c, h1, h2, h3.same hb⟩
theorem RecsAt.below (h : RecsAt T w Z v l) (hb : Below w.heap.size w w') : RecsAt T w' Z v l := h.same fun k hk _ => hb.block k hk
theorem RecsAt.chg {S : Nat → Prop} (h : RecsAt T w Z v l) (hc : Chg S w w') (hS : ∀ k, Z k → ¬ S k) : RecsAt T w' Z v l := h.same fun k hk hz => hc.block k hk (hS k hz)
/-- a block of another type is none of its blocks -/
theorem OwnB.ne {A : Option Addr} {n c : Nat} {m : List UInt8} (h : OwnB w Z A n c m) {g : Nat} {cs : Array Value} {t : TypeId} (hg : w.heap[g]? = some (.cells cs t (0, 0))) (ht : 5 ≠ t) : OwnB w (fun k => Z k ∧ k ≠ g) A n c m :=
  ⟨h.own, fun k hk => ⟨h.in_ k hk, fun e => own_blk_ne h.own hg ht (by rw [hk, e])⟩⟩
theorem RecsAt.ne (h : RecsAt T w Z v l) {g : Nat} {cs : Array Value} {t : TypeId} (hg : w.heap[g]? = some (.cells cs t (0, 0))) (ht : 5 ≠ t) (hT : T ≠ t) : RecsAt T w (fun k => Z k ∧ k ≠ g) v l := by
  obtain ⟨xs, ho, hx⟩ := h.ex
  refine ⟨⟨xs, ho, fun i r hr => ?_⟩, fun k hk => ⟨h.in_ k hk, fun e => own_blk_ne ho hg hT (by rw [hk, e])⟩⟩
  obtain ⟨A, c, h1, h2, h3⟩ := hx i r hr
  exact ⟨A, c, h1, h2, h3.ne hg ht⟩
theorem RecsAt.set (h : RecsAt T w Z v l) {g : Nat} {cs : Array Value} {t : TypeId} (hg : w.heap[g]? = some (.cells cs t (0, 0))) (ht : 5 ≠ t) (hT : T ≠ t) (i : Nat) (u : Value) : RecsAt T (w.setCell ⟨g, i, none⟩ u) Z v l :=
  ((h.ne hg ht hT).same (fun k _ hz => heap_setCell_other _ _ _ _ hz.2)).mono (fun _ _ hz => hz.1)
/-- the cells of a record -/
theorem RecsAt.cell (h : RecsAt T w Z v l) {i : Nat} {r : Int × List UInt8} (hr : l[i]? = some r) :
    ∃ g cap A c, v = .slice (some ⟨g, 0, none⟩) l.length cap ∧ w.cell? ⟨g, 2 * i, none⟩ = some (.int .i64 (r.1 : Int)) ∧ w.cell? ⟨g, 2 * i + 1, none⟩ = some (.slice A r.2.length c) ∧ OwnB w Z A r.2.length c r.2 := by
  obtain ⟨xs, ho, hx⟩ := h.ex
  obtain ⟨A, c, h1, h2, h3⟩ := hx i r hr
  have hl : i < l.length := (List.getElem?_eq_some_iff.1 hr).1
  obtain ⟨g, cap, hv, _, _⟩ := ho.form (by omega)
  have k1 := ho.cells (g := g) (by rw [hv]; rfl) (2 * i) _ h1
  have k2 := ho.cells (g := g) (by rw [hv]; rfl) (2 * i + 1) _ h2
  rw [add_plain] at k1 k2
  exact ⟨g, cap, A, c, hv, k1, k2, h3⟩
theorem RecsAt.cap (h : RecsAt T w Z v l) : ∃ A c, v = .slice A l.length c ∧ l.length ≤ c ∧ c ≤ 9223372036854775807 := by
  obtain ⟨xs, ho, _⟩ := h.ex
  rcases ho.2 with ⟨rfl, h0⟩ | ⟨g, cap, cur, rfl, _, _, h1, h2, _⟩
  · exact ⟨none, 0, by rw [h0], by omega, by omega⟩
  · exact ⟨_, cap, rfl, h1, by simpa only [maxLen] using h2⟩
/-- one record in a new block -/
theorem RecsAt.one {T : TypeId} {w : World} {Z : Nat → Prop} {k : Int} {A : Option Addr} {c : Nat} {l : List UInt8} (h : OwnB w Z A l.length c l) :
    RecsAt T (w.alloc (.cells #[.int .i64 k, .slice A l.length c] T)) (fun j => Z j ∨ w.heap.size ≤ j) (.slice (some ⟨w.heap.size, 0, none⟩) 1 1) [(k, l)] := by
  refine ⟨⟨[.int .i64 k, .slice A l.length c], ?_, fun i r hr => ?_⟩, fun j hj => ?_⟩
  · have := World.ownsRow_lit (base := 0) (e := T) (size := 2) w #[.int .i64 k, .slice A l.length c] 1 (Nat.zero_le _) (by simp only [maxLen]; omega) rfl
    simpa using this
  · rcases i with _ | i
    · simp only [List.getElem?_cons_zero, Option.some.injEq] at hr
      subst hr
      exact ⟨A, c, rfl, rfl, (h.same (w' := w.alloc _) (fun k hk _ => Below.heap_alloc w _ k hk)).mono (fun j _ hz => .inl hz)⟩
    · simp at hr
  · have : w.heap.size = j := by simpa [Value.ownBlock] using hj
    exact .inr (by omega)
theorem recInfo_parts {P : Program} {T : TypeId} {z : Value} {s b : Nat} (hinfo : (P.info? T).map (fun i => (i.zero, i.size, i.bytes)) = some (some z, s, b)) : ∃ i0, P.info? T = some i0 ∧ i0.zero = some z ∧ i0.size = s ∧ i0.bytes = b := by
  obtain ⟨i0, hi, hzz⟩ := Option.map_eq_some_iff.1 hinfo
  simp only [Prod.mk.injEq] at hzz
  exact ⟨i0, hi, hzz.1, hzz.2.1, hzz.2.2⟩
/-- append(recs, recs...) -/
theorem run_append_recs {P : Program} {t T : TypeId} (hT : T ≠ 5) (ht : P.underlying t = some (.slice T)) (hinfo : (P.info? T).map (fun i => (i.zero, i.size, i.bytes)) = some (some (.agg #[.int .i64 0, .slice none 0 0]), 2, 32)) (ty : TypeId)
    (h : RecsAt T w Z v l) {v2 : Value} {Z2 : Nat → Prop} {l2 : List (Int × List UInt8)} (h2 : RecsAt T w Z2 v2 l2) (hl : l.length + l2.length ≤ 4000000000000) :
    ∃ v' w', (Builtin.append_ #[t, t] ty #[v, v2]).run P w = .ok v' w' ∧ RecsAt T w' (fun k => Z k ∨ Z2 k ∨ w.heap.size ≤ k) v' (l ++ l2) ∧ w.grownBy w' v.ownBlock ∧ (v'.ownBlock = v.ownBlock ∨ v'.ownBlock = some w.heap.size) := by
  obtain ⟨i0, hi, hz0, hz1, hz2⟩ := recInfo_parts hinfo
  obtain ⟨xs, ho, hx⟩ := h.ex
  obtain ⟨ys, ho2, hy⟩ := h2.ex
  have hlx : xs.length = 2 * l.length := by have := ho.1; omega
  have hly : ys.length = 2 * l2.length := by have := ho2.1; omega
  have keep : ∀ {w' : World} {A : Option Addr} {c n : Nat} {m : List UInt8} {Y : Nat → Prop}, w.grownBy w' v.ownBlock → OwnB w Y A n c m → OwnB w' Y A n c m := by
    intro w' A c n m Y hg hb
    refine ⟨hb.own.kept hg ?_, hb.in_⟩
    rcases hb.own.2 with ⟨e, _⟩ | ⟨g, cap, cur, e, _, hh, _⟩
    · left; rw [e]; rfl
    · right
      intro he
      rw [e] at he
      have hv := he.symm
      rw [show (Value.slice (some ⟨g, 0, none⟩) n cap).ownBlock = some g by simp [Value.ownBlock]] at hv
      rcases ho.2 with ⟨e', _⟩ | ⟨g', cap', cur', e', _, hh', _⟩
      · rw [e'] at hv; simp [Value.ownBlock] at hv
      · rw [e'] at hv
        have hgg : g' = g := by simpa [Value.ownBlock] using hv
        subst hgg
        rw [hh] at hh'
        injection hh' with hh'
        injection hh' with _ hq
        exact hT hq.symm
  have both : ∀ {w' : World}, w.grownBy w' v.ownBlock → ∀ i r, (l ++ l2)[i]? = some r → ∃ A c, (xs ++ ys)[2 * i]? = some (.int .i64 (r.1 : Int)) ∧ (xs ++ ys)[2 * i + 1]? = some (.slice A r.2.length c) ∧ OwnB w' (fun k => Z k ∨ Z2 k ∨ w.heap.size ≤ k) A r.2.length c r.2 := by
    intro w' hg i r hr
    by_cases hi : i < l.length
    · rw [List.getElem?_append_left hi] at hr
      obtain ⟨A, c, e1, e2, e3⟩ := hx i r hr
      exact ⟨A, c, by rw [List.getElem?_append_left (by omega)]; exact e1, by rw [List.getElem?_append_left (by omega)]; exact e2, (keep hg e3).mono (fun _ _ hz => .inl hz)⟩
    · rw [List.getElem?_append_right (by omega)] at hr
      obtain ⟨A, c, e1, e2, e3⟩ := hy (i - l.length) r hr
      exact ⟨A, c, by rw [List.getElem?_append_right (by omega), hlx, show 2 * i - 2 * l.length = 2 * (i - l.length) by omega]; exact e1, by rw [List.getElem?_append_right (by omega), hlx, show 2 * i + 1 - 2 * l.length = 2 * (i - l.length) + 1 by omega]; exact e2, (keep hg e3).mono (fun _ _ hz => .inr (.inl hz))⟩
  rcases ho2.2 with ⟨rfl, h0⟩ | ⟨g2, cap2, cur2, rfl, _, hh2, hn2, hm2, _⟩
  · have hl0 : l2 = [] := List.eq_nil_of_length_eq_zero h0
    subst hl0
    have hrun : (Builtin.append_ #[t, t] ty #[v, .slice none 0 0]).run P w = .ok v w := by
      rcases ho.2 with ⟨rfl, _⟩ | ⟨g, cap, cur, rfl, _, _, hnc, _⟩
      · simp [Builtin.append_, run_underlying ht, sizeOf, typeInfo, hi, Builtin.lenOf, Builtin.firstCells]
      · simp [Builtin.append_, run_underlying ht, sizeOf, typeInfo, hi, Builtin.lenOf, Builtin.firstCells, hnc, storeCells]
    refine ⟨v, w, hrun, ?_, World.grownBy.refl w _, .inl rfl⟩
    rw [List.append_nil]
    exact h.mono (fun _ _ hz => .inl hz)
  · have hnews : ∀ j u, ys[j]? = some u → w.cell? ((⟨g2, 0, none⟩ : Addr).add j) = some u := ho2.cells (g := g2) (by simp [Value.ownBlock])
    have h1 : ∀ u ∈ ys, u.oneCell' = true := by
      intro u hu
      obtain ⟨j, hj, rfl⟩ := List.getElem_of_mem hu
      have hj2 : j / 2 < l2.length := by omega
      obtain ⟨A, c, e1, e2, _⟩ := hy (j / 2) _ (List.getElem?_eq_getElem hj2)
      rcases (show j = 2 * (j / 2) ∨ j = 2 * (j / 2) + 1 by omega) with e | e
      · rw [← e] at e1
        rw [List.getElem?_eq_getElem hj] at e1
        rw [Option.some.inj e1]; rfl
      · rw [← e] at e2
        rw [List.getElem?_eq_getElem hj] at e2
        rw [Option.some.inj e2]; rfl
    obtain ⟨v', w', hr, q2, q3, q4, q5⟩ := run_append_own_at (P := P) w 0 t ty T i0 (.agg #[.int .i64 0, .slice none 0 0]) 2 32 ht hi hz0 hz1 hz2 rfl (by omega) v l.length xs ho ⟨g2, 0, none⟩ l2.length cap2 ys (by omega) hnews h1 (by simp only [maxLen]; omega) (by omega) (Nat.zero_le _)
    refine ⟨v', w', hr, ⟨⟨xs ++ ys, by rw [List.length_append]; exact q2, both q3⟩, fun k hk => ?_⟩, q3, q5⟩
    rcases q5 with e | e
    · rw [e] at hk; exact .inl (h.in_ k hk)
    · rw [e] at hk; exact .inr (.inr (by have := Option.some.inj hk; omega))
theorem wpList_append_recs {P : Program} {ops : Array Oper} {rest : List Oper} {o : Oper} {a : Act} {Q : Exit → Act → World → Prop} (hgd : o.guard = none) (s x : Operand) (t T : TypeId)
    (ho : o.op = .call { callee := .builtin .append, args := #[s, x], argTypes := #[t, t] })
    (hT : T ≠ 5) (ht : P.underlying t = some (.slice T)) (hinfo : (P.info? T).map (fun i => (i.zero, i.size, i.bytes)) = some (some (.agg #[.int .i64 0, .slice none 0 0]), 2, 32))
    (hs : a.eval s = v) (h : RecsAt T w Z v l) {v2 : Value} {Z2 : Nat → Prop} {l2 : List (Int × List UInt8)} (hx : a.eval x = v2) (h2 : RecsAt T w Z2 v2 l2) (hl : l.length + l2.length ≤ 4000000000000)
    (hk : ∀ v1 w1, RecsAt T w1 (fun k => Z k ∨ Z2 k ∨ w.heap.size ≤ k) v1 (l ++ l2) → w.grownBy w1 v.ownBlock → wpList P ops Q rest (a.put o.dst v1) w1) :
    wpList P ops Q (o :: rest) a w := by
  obtain ⟨v', w', hr, r1, r2, _⟩ := run_append_recs hT ht hinfo o.type h h2 hl
  refine wpList_plain hgd fun K hK => ?_
  unfold Oper.wp execOp
  simp only [ho, resolve, invoke, builtin, Sem.run_bind, Sem.run_pure, Result.andThen_ok, List.map_toArray, List.map_cons, List.map_nil, hs, hx, hr]
  exact hK _ _ (hk v' w' r1 r2)
theorem step_append_recs {P : Program} {ops : Array Oper} {o : Oper} {a : Act} {K : Act → World → Prop} {Q : Exit → Act → World → Prop} {E : Prop} (hgd : o.guard = none) (s x : Operand) (t T : TypeId)
    (ho : o.op = .call { callee := .builtin .append, args := #[s, x], argTypes := #[t, t] })
    (hT : T ≠ 5) (ht : P.underlying t = some (.slice T)) (hinfo : (P.info? T).map (fun i => (i.zero, i.size, i.bytes)) = some (some (.agg #[.int .i64 0, .slice none 0 0]), 2, 32))
    (hs : a.eval s = v) (h : RecsAt T w Z v l) {v2 : Value} {Z2 : Nat → Prop} {l2 : List (Int × List UInt8)} (hx : a.eval x = v2) (h2 : RecsAt T w Z2 v2 l2) (hl : l.length + l2.length ≤ 4000000000000)
    (hk : ∀ v1 w1, RecsAt T w1 (fun k => Z k ∨ Z2 k ∨ w.heap.size ≤ k) v1 (l ++ l2) → w.grownBy w1 v.ownBlock → K (a.put o.dst v1) w1) :
    if Region.wanted o (yielded ops a.tmps) = true then Oper.wp P o a w K Q else E := by
  have hw : Region.wanted o (yielded ops a.tmps) = true := by simp [Region.wanted, hgd]
  rw [if_pos hw]
  obtain ⟨v', w', hr, r1, r2, _⟩ := run_append_recs hT ht hinfo o.type h h2 hl
  unfold Oper.wp execOp
  simp only [ho, resolve, invoke, builtin, Sem.run_bind, Sem.run_pure, Result.andThen_ok, List.map_toArray, List.map_cons, List.map_nil, hs, hx, hr]
  exact hk v' w' r1 r2
end
theorem info_rec : (Tryd.prog.info? 50).map (fun i => (i.zero, i.size, i.bytes)) = some (some (.agg #[.int .i64 0, .slice none 0 0]), 2, 32) := by kernel_rfl
theorem info_rrec : (Tryd.prog.info? 102).map (fun i => (i.zero, i.size, i.bytes)) = some (some (.agg #[.int .i64 0, .slice none 0 0]), 2, 32) := by kernel_rfl
end Go.Proofs.YtggogenhakdhiaaDoor
