/- Disks in memory: the words that the walks of the disk's functions use, for the program's disk and the document's alike. -/
import Derived.Test.YtggogenhakdhiaaDoorProg
import Derived.Test.YtggogenhakdhiaaDoorMem
import Derived.Laws.CopyOwn
import Derived.Laws.Tables
set_option linter.unusedVariables false
set_option linter.unusedSimpArgs false
namespace Go.Proofs.YtggogenhakdhiaaDoor
open Go.RowKit

/-! ### what a call may have turned -/
structure Chg (S : Nat → Prop) (w w' : World) : Prop where
  os : w'.os = w.os
  tape : w'.tape = w.tape
  output : w'.output = w.output
  size : w.heap.size ≤ w'.heap.size
  block : ∀ k, k < w.heap.size → ¬ S k → w'.heap[k]? = w.heap[k]?
section
variable {S T : Nat → Prop} {w w' w'' : World}
theorem Chg.refl (S : Nat → Prop) (w : World) : Chg S w w := ⟨rfl, rfl, rfl, Nat.le_refl _, fun _ _ _ => rfl⟩
theorem Chg.of_below (h : Below w.heap.size w w') : Chg S w w' := ⟨h.os, h.tape, h.output, h.size, fun k hk _ => h.block k hk⟩
theorem Chg.trans (h : Chg S w w') (k : Chg T w' w'') (hT : ∀ j, T j → j < w.heap.size → S j) : Chg S w w'' :=
  ⟨k.os.trans h.os, k.tape.trans h.tape, k.output.trans h.output, Nat.le_trans h.size k.size, fun j hj hs => (k.block j (Nat.lt_of_lt_of_le hj h.size) (fun ht => hs (hT j ht hj))).trans (h.block j hj hs)⟩
theorem Chg.mono (h : Chg S w w') (hS : ∀ j, j < w.heap.size → S j → T j) : Chg T w w' := ⟨h.os, h.tape, h.output, h.size, fun k hk hn => h.block k hk (fun hs => hn (hS k hk hs))⟩
theorem Chg.setCell (h : Chg S w w') {p : Addr} (hp : S p.block) (v : Value) : Chg S w (w'.setCell p v) :=
  ⟨h.os, h.tape, h.output, by simpa [World.setCell] using h.size, fun k hk hn => (Below.heap_setCell w' p v k (fun e => hn (by rw [e]; exact hp))).trans (h.block k hk hn)⟩
theorem Chg.alloc (h : Chg S w w') (o : Obj) : Chg S w (w'.alloc o) :=
  ⟨h.os, h.tape, h.output, Nat.le_trans h.size (by simp), fun k hk hn => (Below.heap_alloc w' o k (Nat.lt_of_lt_of_le hk h.size)).trans (h.block k hk hn)⟩
theorem Chg.drew (h : Chg S w w') : Chg S w w'.drew := ⟨h.os, h.tape, h.output, h.size, h.block⟩
theorem Chg.drewN (h : Chg S w w') (n : Nat) : Chg S w (w'.drewN n) := ⟨h.os, h.tape, h.output, h.size, h.block⟩
theorem Chg.grown {row : Option Nat} (h : Chg S w w') (hg : w'.grownBy w'' row) (hr : ∀ k, row = some k → k < w.heap.size → S k) : Chg S w w'' :=
  ⟨hg.os.trans h.os, hg.tape.trans h.tape, hg.output.trans h.output, Nat.le_trans h.size hg.size, fun k hk hn => (hg.block k (Nat.lt_of_lt_of_le hk h.size) (fun e => hn (hr k e.symm hk))).trans (h.block k hk hn)⟩
theorem Chg.below {B : Nat} (h : Chg S w w') (hB : B ≤ w.heap.size) (hS : ∀ k, k < B → ¬ S k) : Below B w w' := ⟨h.os, h.tape, h.output, h.size, fun k hk => h.block k (Nat.lt_of_lt_of_le hk hB) (hS k hk)⟩
end

/-! ### whole numbers -/
def iv (l : List Int) : List Value := l.map fun z => .int .i64 z
theorem iv_length (l : List Int) : (iv l).length = l.length := by simp [iv]
theorem iv_append (l m : List Int) : iv (l ++ m) = iv l ++ iv m := by simp [iv]
theorem iv_getElem? (l : List Int) (i : Nat) : (iv l)[i]? = l[i]?.map fun z => .int .i64 z := by simp [iv]
theorem iv_one (l : List Int) : ∀ u ∈ iv l, u.oneCell' = true := by
  intro u hu
  obtain ⟨b, _, rfl⟩ := List.mem_map.1 hu
  rfl

/-! ### a disk -/
structure DS where
  img : List UInt8
  trail : List Int
  armed : Int
  down : Bool
/-- A disk of n sectors in memory: its block g (of the type TD), the slice sv of what it holds (m elements of sz cells), the slice tv of its trail. -/
structure Dsk (TD TE sz m : Nat) (w : World) (g : Nat) (sv tv : Value) (n : Nat) (d : DS) : Prop where
  blk : w.heap[g]? = some (.cells #[sv, tv, .int .i64 d.armed, .bool d.down] TD (0, 0))
  sec : w.ownsRow 0 TE sz sv m (bv d.img)
  tr : w.ownsRow 0 3 1 tv d.trail.length (iv d.trail)
  len : d.img.length = 64 * n
  pos : 1 ≤ n
  le : n ≤ 16384
  lo : -1 ≤ d.armed
  hi : d.armed ≤ 9223372036854775807
/-- its blocks -/
def Foot (g : Nat) (sv tv : Value) (k : Nat) : Prop := k = g ∨ sv.ownBlock = some k ∨ tv.ownBlock = some k
section
variable {TD TE sz m g n : Nat} {w w' : World} {sv tv : Value} {d : DS}
theorem Dsk.c0 (h : Dsk TD TE sz m w g sv tv n d) : w.cell? ⟨g, 0, none⟩ = some sv := by rw [cell_of_row w g 0 _ _ _ h.blk]; rfl
theorem Dsk.c1 (h : Dsk TD TE sz m w g sv tv n d) : w.cell? ⟨g, 1, none⟩ = some tv := by rw [cell_of_row w g 1 _ _ _ h.blk]; rfl
theorem Dsk.c2 (h : Dsk TD TE sz m w g sv tv n d) : w.cell? ⟨g, 2, none⟩ = some (.int .i64 d.armed) := by rw [cell_of_row w g 2 _ _ _ h.blk]; rfl
theorem Dsk.c3 (h : Dsk TD TE sz m w g sv tv n d) : w.cell? ⟨g, 3, none⟩ = some (.bool d.down) := by rw [cell_of_row w g 3 _ _ _ h.blk]; rfl
theorem Dsk.fz (h : Dsk TD TE sz m w g sv tv n d) (i : Nat) : w.frozen? ⟨g, i, none⟩ = false := frozen_of_row w g i _ _ h.blk
theorem own_at {base e size k : Nat} {v : Value} {xs : List Value} (h : w.ownsRow base e size v k xs) (hb : ∀ j, v.ownBlock = some j → w'.heap[j]? = w.heap[j]?) : w'.ownsRow base e size v k xs :=
  ⟨h.1, by
    rcases h.2 with h0 | ⟨g, cap, cur, h1, h2, h3, h4⟩
    · exact .inl h0
    · refine .inr ⟨g, cap, cur, h1, h2, (hb g ?_).trans h3, h4⟩
      rw [h1]; rfl⟩
theorem Dsk.lt (h : Dsk TD TE sz m w g sv tv n d) : ∀ k, Foot g sv tv k → k < w.heap.size := by
  intro k hk
  rcases hk with rfl | hk | hk
  · exact (Array.getElem?_eq_some_iff.1 h.blk).1
  · exact own_lt h.sec k hk
  · exact own_lt h.tr k hk
theorem Dsk.same (h : Dsk TD TE sz m w g sv tv n d) (hb : ∀ k, Foot g sv tv k → w'.heap[k]? = w.heap[k]?) : Dsk TD TE sz m w' g sv tv n d :=
  ⟨(hb g (.inl rfl)).trans h.blk, own_at h.sec (fun j hj => hb j (.inr (.inl hj))), own_at h.tr (fun j hj => hb j (.inr (.inr hj))), h.len, h.pos, h.le, h.lo, h.hi⟩
theorem Dsk.chg {S : Nat → Prop} (h : Dsk TD TE sz m w g sv tv n d) (hc : Chg S w w') (hS : ∀ k, Foot g sv tv k → ¬ S k) : Dsk TD TE sz m w' g sv tv n d :=
  h.same fun k hk => hc.block k (h.lt k hk) (hS k hk)
theorem Dsk.below (h : Dsk TD TE sz m w g sv tv n d) (hb : Below w.heap.size w w') : Dsk TD TE sz m w' g sv tv n d := h.same fun k hk => hb.block k (h.lt k hk)
end

/-! ### several cells read at once -/
theorem run_load_cells {P : Program} (w : World) (ad : Addr) (ty : TypeId) (cs : List Value) (d : TypeDesc) (hc : ∀ j v, cs[j]? = some v → w.cell? (ad.add j) = some v)
    (hu : P.underlying ty = some d) (hd : (match d with | .struct _ | .array _ _ => true | _ => false) = true) (hi : (P.info? ty).map (·.size) = some cs.length) :
    (loadVar ty ad).run P w = .ok (.agg cs.toArray) w := by
  have hl : (loadCells ad cs.length).run P w = .ok cs.toArray w := run_loadCells_list (P := P) w ad cs hc
  cases hq : P.info? ty with
  | none => simp [hq] at hi
  | some i =>
    have hs : i.size = cs.length := by simpa [hq] using hi
    have hagg : (isAgg ty).run P w = .ok true w := by
      unfold isAgg
      rw [Sem.run_bind, run_underlying hu w]
      cases d <;> simp_all
    simp [loadVar, Sem.run_bind, hagg, sizeOf, typeInfo, hq, hs, hl]
theorem wpList_load_cells {P : Program} {ops : Array Oper} {rest : List Oper} {o : Oper} {a : Act} {w : World} {Q : Exit → Act → World → Prop} (hgd : o.guard = none) (ty : TypeId) (x : Operand) (ho : o.op = .load ty x)
    (ad : Addr) (hx : a.eval x = .pointer (some ad)) (cs : List Value) (d : TypeDesc) (hc : ∀ j v, cs[j]? = some v → w.cell? (ad.add j) = some v)
    (hu : P.underlying ty = some d) (hd : (match d with | .struct _ | .array _ _ => true | _ => false) = true) (hi : (P.info? ty).map (·.size) = some cs.length)
    (h : wpList P ops Q rest (a.put o.dst (.agg cs.toArray)) w) : wpList P ops Q (o :: rest) a w := by
  refine wpList_plain hgd fun K hK => ?_
  unfold Oper.wp execOp
  simp only [ho, hx, Instr.loadAt, Instr.sureAddr, Sem.run_bind, Sem.run_pure, Result.andThen_ok, run_load_cells w ad ty cs d hc hu hd hi]
  exact hK _ _ h
theorem wpList_store_row {P : Program} {ops : Array Oper} {rest : List Oper} {o : Oper} {a : Act} {w : World} {Q : Exit → Act → World → Prop} (hgd : o.guard = none) (ty : TypeId) (x y : Operand) (ho : o.op = .store ty x y)
    (g : Nat) (cells : Array Value) (hx : a.eval x = .pointer (some ⟨g, 0, none⟩)) (hy : a.eval y = .agg cells)
    (t : TypeId) (old : Array Value) (hg : w.heap[g]? = some (.cells old t (0, 0))) (hi : (P.info? ty).map (·.size) = some cells.size)
    (hold : old.size = cells.size) (h1 : cells.all (·.oneCell') = true)
    (h : wpList P ops Q rest (a.put o.dst undef) (w.setRow g cells)) : wpList P ops Q (o :: rest) a w :=
  wpList_plain hgd fun _ hK => wp_store_row ty x y ho g cells hx hy t old hg hi hold h1 (hK _ _ h)
theorem setRow_alloc (w : World) (cs old : Array Value) (t : TypeId) : (w.alloc (.cells old t)).setRow w.heap.size cs = w.alloc (.cells cs t) := by
  have hm : ∀ (a : Array Obj) (x : Obj) (f : Obj → Obj), (a.push x).modify a.size f = a.push (f x) := by
    intro a x f
    apply Array.ext
    · simp
    · intro i h1 h2
      simp only [Array.getElem_modify, Array.getElem_push]
      by_cases h : a.size = i
      · subst h
        simp
      · have hi : i < a.size := by simp at h1; omega
        simp [h, hi]
  unfold World.setRow
  show ({ w.alloc (.cells old t) with heap := (w.heap.push (.cells old t)).modify w.heap.size _ } : World) = _
  rw [hm]
  rfl
/-- an array is laid into a new variable -/
theorem wpList_store_fresh {P : Program} {ops : Array Oper} {rest : List Oper} {o : Oper} {a : Act} {w : World} {Q : Exit → Act → World → Prop} (hgd : o.guard = none) (ty : TypeId) (x y : Operand) (ho : o.op = .store ty x y)
    (cells : Array Value) (hx : a.eval x = .pointer (some ⟨w.heap.size, 0, none⟩)) (hy : a.eval y = .agg cells)
    (t : TypeId) (old : Array Value) (hi : (P.info? ty).map (·.size) = some cells.size)
    (hold : old.size = cells.size) (h1 : cells.all (·.oneCell') = true)
    (h : wpList P ops Q rest (a.put o.dst undef) (w.alloc (.cells cells t))) : wpList P ops Q (o :: rest) a (w.alloc (.cells old t)) :=
  wpList_store_row hgd ty x y ho w.heap.size cells hx hy t old (heap_alloc_new w _) hi hold h1 (by rw [setRow_alloc]; exact h)
theorem bv_all (l : List UInt8) : (bv l).toArray.all (·.oneCell') = true := by
  rw [Array.all_eq_true_iff_forall_mem]
  intro u hu
  exact bv_one l u (by simpa using hu)
/-- a new row -/
theorem own_new (w : World) (e : TypeId) (l : List UInt8) (n : Nat) (hn : l.length = n) (hm : n ≤ 9223372036854775807) : (w.alloc (.cells (bv l).toArray e)).ownsRow w.heap.size e 1 (.slice (some ⟨w.heap.size, 0, none⟩) n n) n (bv l) := by
  have := World.ownsRow_lit (base := w.heap.size) (e := e) (size := 1) w (bv l).toArray n (Nat.le_refl _) (by simpa [maxLen] using hm) (by simp [bv_length, hn])
  simpa using this
end Go.Proofs.YtggogenhakdhiaaDoor
