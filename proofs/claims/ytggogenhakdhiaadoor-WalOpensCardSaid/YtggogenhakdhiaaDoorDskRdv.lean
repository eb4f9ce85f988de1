/- Slices that read as lists, nil or not; append of one in a region whose order is open; numbers that are returned. -/
import Derived.Test.YtggogenhakdhiaaDoorDskLay
import Derived.RegionTactic
set_option linter.unusedVariables false
set_option linter.unusedSimpArgs false
namespace Go.Proofs.YtggogenhakdhiaaDoor
open Go.RowKit

/-- A slice of one-cell values that reads as a list; nil and empty ones too. -/
structure Rdv (w : World) (A : Option Addr) (n : Nat) (xs : List Value) : Prop where
  len : xs.length = n
  cell : ∀ i u, xs[i]? = some u → ∃ ad, A = some ad ∧ w.cell? (ad.add i) = some u
section
variable {w w' : World} {A : Option Addr} {n : Nat} {xs : List Value}
theorem Rdv.keep (h : Rdv w A n xs) (hk : ∀ p v, w.cell? p = some v → w'.cell? p = some v) : Rdv w' A n xs :=
  ⟨h.len, fun i u hu => by
    obtain ⟨ad, e, hc⟩ := h.cell i u hu
    exact ⟨ad, e, hk _ _ hc⟩⟩
theorem Rdv.below (h : Rdv w A n xs) (hb : Below w.heap.size w w') : Rdv w' A n xs := h.keep fun _ _ hc => cell_below hb hc
theorem Rdv.drew (h : Rdv w A n xs) : Rdv w.drew A n xs := ⟨h.len, h.cell⟩
theorem Rdv.of_own {base : Nat} {E : TypeId} {c : Nat} (h : w.ownsRow base E 1 (.slice A n c) n xs) : Rdv w A n xs := by
  refine ⟨by simpa using h.1, fun i u hu => ?_⟩
  have hn : 0 < n := by
    have := (List.getElem?_eq_some_iff.1 hu).1
    have := h.1
    omega
  obtain ⟨g, cap, e, _, _⟩ := h.form hn
  cases e
  exact ⟨_, rfl, h.cells (g := g) rfl i u hu⟩
theorem Rdv.drop_if (h : Rdv w A n xs) (k c : Nat) (hk : k ≤ n) (hc : n ≤ c) : Rdv w (if c = k then A else A.map (·.add k)) (n - k) (xs.drop k) := by
  refine ⟨by rw [List.length_drop, h.len], fun i u hu => ?_⟩
  rw [List.getElem?_drop] at hu
  obtain ⟨ad, rfl, hcell⟩ := h.cell (k + i) u hu
  have := (List.getElem?_eq_some_iff.1 hu).1
  rw [h.len] at this
  rw [if_neg (by omega)]
  exact ⟨_, rfl, by rw [add_of_add]; exact hcell⟩
end
/-- append of a slice that reads onto one of the call's own, in a region whose order is open -/
theorem step_append_rd {P : Program} {ops : Array Oper} {o : Oper} {a : Act} {w : World} {K : Act → World → Prop} {Q : Exit → Act → World → Prop} {E : Prop} (w0 : World) (base : Nat) (hgd : o.guard = none) (s x : Operand) (t e : TypeId) (z : Value) (bytes : Nat)
    (ho : o.op = .call { callee := .builtin .append, args := #[s, x], argTypes := #[t, t] })
    (ht : P.underlying t = some (.slice e)) (hinfo : (P.info? e).map (fun i => (i.zero, i.size, i.bytes)) = some (some z, 1, bytes)) (hz : z.cells.size = 1)
    (v : Value) (n : Nat) (xs : List Value) (hs : a.eval s = v) (hown : w.ownsRow base e 1 v n xs)
    (A : Option Addr) (m c : Nat) (l : List Value) (hx : a.eval x = .slice A m c) (hl : Rdv w A m l) (h1 : ∀ u ∈ l, u.oneCell' = true)
    (HB : Below base w0 w) (hbase : base ≤ w.heap.size) (hmax : n + m ≤ 9223372036854775807) (hbytes : (n + m) * bytes ≤ 140737488355328)
    (h : ∀ v1 w1, w1.ownsRow base e 1 v1 (n + m) (xs ++ l) → Below base w0 w1 → w.grownBy w1 v.ownBlock → base ≤ w1.heap.size → K (a.put o.dst v1) w1) :
    if Region.wanted o (yielded ops a.tmps) = true then Oper.wp P o a w K Q else E := by
  have hw : Region.wanted o (yielded ops a.tmps) = true := by simp [Region.wanted, hgd]
  rw [if_pos hw]
  obtain ⟨i0, hi, hzz⟩ := Option.map_eq_some_iff.1 hinfo
  simp only [Prod.mk.injEq] at hzz
  obtain ⟨hz0, hz1, hz2⟩ := hzz
  unfold Oper.wp execOp
  cases A with
  | none =>
    have hm : l = [] := by
      cases l with
      | nil => rfl
      | cons u l => obtain ⟨ad, e', _⟩ := hl.cell 0 u rfl; cases e'
    subst hm
    have hm0 : m = 0 := by have := hl.len; simpa using this.symm
    subst hm0
    have hrun : (Builtin.append_ #[t, t] o.type #[v, .slice none 0 c]).run P w = .ok v w := by
      rcases hown.2 with ⟨rfl, rfl⟩ | ⟨g, cap, cur, rfl, _, _, hnc, _⟩
      · simp [Builtin.append_, run_underlying ht, sizeOf, typeInfo, hi, Builtin.lenOf, Builtin.firstCells]
      · simp [Builtin.append_, run_underlying ht, sizeOf, typeInfo, hi, Builtin.lenOf, Builtin.firstCells, hnc, storeCells]
    simp only [ho, resolve, invoke, builtin, Sem.run_bind, Sem.run_pure, Result.andThen_ok, List.map_toArray, List.map_cons, List.map_nil, hs, hx, hrun]
    exact h v w (by simpa using hown) HB (World.grownBy.refl w _) hbase
  | some ad =>
    obtain ⟨v', w', hr, h2, h3, h4, h5⟩ := run_append_own_at (P := P) w base t o.type e i0 z 1 bytes ht hi hz0 hz1 hz2 hz (by omega) v n xs hown ad m c l (by rw [hl.len]; omega)
      (fun j u hu => by obtain ⟨ad', e', hc⟩ := hl.cell j u hu; cases e'; exact hc) h1 (by simpa only [maxLen] using hmax) hbytes hbase
    simp only [ho, resolve, invoke, builtin, Sem.run_bind, Sem.run_pure, Result.andThen_ok, List.map_toArray, List.map_cons, List.map_nil, hs, hx, hr]
    exact h v' w' h2 (HB.grown h3 hbase (own_base hown)) h3 (Nat.le_trans hbase h3.size)

/-- new numbers are returned -/
def RetInts (B : Nat) (l : List Int) (w : World) (e : Ending) (w' : World) : Prop :=
  ∃ A c, e = .returned (.slice A l.length c) ∧ w'.ownsRow B 3 1 (.slice A l.length c) l.length (iv l) ∧ Below B w w'
theorem RetInts.of {B : Nat} {l : List Int} {w w' : World} {v : Value} {n : Nat} {xs : List Value} (h : w'.ownsRow B 3 1 v n xs) (hx : xs = iv l) (hb : Below B w w') : RetInts B l w (.returned v) w' := by
  subst hx
  obtain ⟨A, c, rfl⟩ := own_slice h
  have hn : n = l.length := by have := h.1; rw [iv_length] at this; omega
  subst hn
  exact ⟨A, c, rfl, h, hb⟩
/-- what Trail answers -/
def trailOf (d : DS) (z : Int) : List Int := d.trail.drop (min (max 0 z).toNat d.trail.length)

/-- the same where the order is settled -/
theorem wpList_append_rd {P : Program} {ops : Array Oper} {rest : List Oper} {o : Oper} {a : Act} {w : World} {Q : Exit → Act → World → Prop} (w0 : World) (base : Nat) (hgd : o.guard = none) (s x : Operand) (t e : TypeId) (z : Value) (bytes : Nat)
    (ho : o.op = .call { callee := .builtin .append, args := #[s, x], argTypes := #[t, t] })
    (ht : P.underlying t = some (.slice e)) (hinfo : (P.info? e).map (fun i => (i.zero, i.size, i.bytes)) = some (some z, 1, bytes)) (hz : z.cells.size = 1)
    (v : Value) (n : Nat) (xs : List Value) (hs : a.eval s = v) (hown : w.ownsRow base e 1 v n xs)
    (A : Option Addr) (m c : Nat) (l : List Value) (hx : a.eval x = .slice A m c) (hl : Rdv w A m l) (h1 : ∀ u ∈ l, u.oneCell' = true)
    (HB : Below base w0 w) (hbase : base ≤ w.heap.size) (hmax : n + m ≤ 9223372036854775807) (hbytes : (n + m) * bytes ≤ 140737488355328)
    (h : ∀ v1 w1, w1.ownsRow base e 1 v1 (n + m) (xs ++ l) → Below base w0 w1 → w.grownBy w1 v.ownBlock → base ≤ w1.heap.size → wpList P ops Q rest (a.put o.dst v1) w1) :
    wpList P ops Q (o :: rest) a w := by
  refine wpList_plain hgd fun K hK => ?_
  have hw : Region.wanted o (yielded ops a.tmps) = true := by simp [Region.wanted, hgd]
  have := step_append_rd (ops := ops) (E := True) (K := K) (Q := Q) w0 base hgd s x t e z bytes ho ht hinfo hz v n xs hs hown A m c l hx hl h1 HB hbase hmax hbytes (fun v1 w1 p1 p2 p3 p4 => hK _ _ (h v1 w1 p1 p2 p3 p4))
  rwa [if_pos hw] at this
end Go.Proofs.YtggogenhakdhiaaDoor
