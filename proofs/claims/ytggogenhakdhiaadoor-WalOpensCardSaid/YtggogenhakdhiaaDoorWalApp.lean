/- append onto a row of bytes that is full (a constant's bytes: marked, and not the call's own to grow in): a new row. -/
import Derived.Test.YtggogenhakdhiaaDoorMem
set_option linter.unusedVariables false
set_option linter.unusedSimpArgs false
namespace Go.Proofs.YtggogenhakdhiaaDoor
open Go.RowKit

/-- bytes of the call's own; or a full row that reads as bytes -/
def OwnOr (w : World) (base : Nat) (e : TypeId) (v : Value) (l : List UInt8) : Prop :=
  w.ownsRow base e 1 v l.length (bv l) ∨ ∃ ad, v = .slice (some ad) l.length l.length ∧ Bys w (some ad) l.length l
theorem OwnOr.slice {w : World} {base : Nat} {e : TypeId} {v : Value} {l : List UInt8} (h : OwnOr w base e v l) : ∃ A c, v = .slice A l.length c ∧ Bys w A l.length l := by
  rcases h with h | ⟨ad, rfl, hb⟩
  · obtain ⟨A, c, rfl, hb⟩ := Bys.of_own h
    exact ⟨A, c, rfl, hb⟩
  · exact ⟨_, _, rfl, hb⟩
theorem OwnOr.alloc {w : World} {base : Nat} {e : TypeId} {v : Value} {l : List UInt8} (h : OwnOr w base e v l) (o : Obj) : OwnOr (w.alloc o) base e v l := by
  rcases h with h | ⟨ad, rfl, hb⟩
  · exact .inl (h.alloc _)
  · exact .inr ⟨ad, rfl, hb.below ((Below.refl _ _).alloc (Nat.le_refl _) _)⟩
theorem wpList_append_or {P : Program} {w : World} {ops : Array Oper} {rest : List Oper} {o : Oper} {a : Act} {Q : Exit → Act → World → Prop} (w0 : World) (base : Nat) (hgd : o.guard = none) (s x : Operand) (t e : TypeId)
    (ho : o.op = .call { callee := .builtin .append, args := #[s, x], argTypes := #[t, t] })
    (ht : P.underlying t = some (.slice e)) (hinfo : (P.info? e).map (fun i => (i.zero, i.size, i.bytes)) = some (some (.int .u8 0), 1, 1))
    (v : Value) (xs : List UInt8) (hs : a.eval s = v) (hown : OwnOr w base e v xs)
    (A : Option Addr) (m c : Nat) (l : List UInt8) (hx : a.eval x = .slice A m c) (hl : Bys w A m l) (hm : 0 < m)
    (HB : Below base w0 w) (hbase : base ≤ w.heap.size) (hbytes : xs.length + m ≤ 140737488355328)
    (h : ∀ v1 w1, w1.ownsRow base e 1 v1 (xs.length + m) (bv (xs ++ l)) → Below base w0 w1 → base ≤ w1.heap.size → wpList P ops Q rest (a.put o.dst v1) w1) :
    wpList P ops Q (o :: rest) a w := by
  rcases hown with hown | ⟨ad, rfl, hb⟩
  · exact wpList_append_bys w0 base hgd s x t e ho ht hinfo v xs.length (bv xs) hs hown A m c l hx hl HB hbase hbytes (fun v1 w1 h1 h2 _ _ h3 => h v1 w1 (by rw [bv_append]; exact h1) h2 h3)
  · obtain ⟨i0, hi, hzz⟩ := Option.map_eq_some_iff.1 hinfo
    simp only [Prod.mk.injEq] at hzz
    obtain ⟨hz0, hz1, hz2⟩ := hzz
    obtain ⟨ad2, rfl, _⟩ := hl.cell 0 hm
    have hll := hl.len
    have hr := run_append_grow (P := P) w t o.type e i0 (.int .u8 0) ht hi hz0 ad xs.length xs.length (bv xs) (by rw [bv_length, hz1, Nat.mul_one]) hb.news ad2 m c (bv l) (by rw [bv_length, hz1, Nat.mul_one, hll]) hl.news (by omega) (by omega) (growslice_fits (by omega) (by rw [hz2]; omega))
    refine wpList_plain hgd fun K hK => ?_
    unfold Oper.wp execOp
    simp only [ho, resolve, invoke, builtin, Sem.run_bind, Sem.run_pure, Result.andThen_ok, List.map_toArray, List.map_cons, List.map_nil, hs, hx, hr]
    have hge := grownCap_ge w (xs.length + m) xs.length e
    have hcm := grownCap_le_maxLen w (xs.length + m) xs.length e (by simp only [maxLen]; omega)
    refine hK _ _ (h _ _ ⟨by rw [bv_length, List.length_append, hll]; omega, .inr ⟨w.heap.size, _, _, rfl, hbase, heap_alloc_new w.drew _, hge, hcm, ?_, ?_⟩⟩ (HB.drew.alloc hbase _) (by simp; omega))
    · simp [bv_length, size_zeroCells, Value.cells, hll]
      omega
    · rw [bv_append]
      simp only [Array.toList_append, List.append_assoc]
      rw [← List.append_assoc, Nat.mul_one, ← show (bv xs ++ bv l).length = xs.length + m by rw [List.length_append, bv_length, bv_length, hll]]
      exact List.take_left
end Go.Proofs.YtggogenhakdhiaaDoor
