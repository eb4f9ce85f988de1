/- Small functions of the log and of the law: the records told, the room; both sides. -/
import Derived.Test.YtggogenhakdhiaaDoorWalROpen
import Derived.Deep.DeepCutAuto
import Derived.Deep.CutBlock
set_option linter.unusedVariables false
set_option linter.unusedSimpArgs false
attribute [local go_sem ↓] Go.wp_at_zero Go.wp_at_succ
namespace Go.Proofs.YtggogenhakdhiaaDoor
open Go.RowKit

theorem PLog.cell {w : World} {Z : Nat → Prop} {gl g : Nat} {v : Value} {s : LS} (h : PLog w Z gl g v s) : w.cell? ⟨gl, 0, none⟩ = some (.pointer (some ⟨g, 0, none⟩)) ∧ w.cell? ⟨gl, 1, none⟩ = some (.int .i64 (s.gen : Nat)) ∧ w.cell? ⟨gl, 2, none⟩ = some (.int .i64 (usedOf s.recs : Nat)) ∧ w.cell? ⟨gl, 3, none⟩ = some v ∧ w.cell? ⟨gl, 4, none⟩ = some (.bool s.down) :=
  ⟨cell_of_row w gl 0 _ _ _ h.blk, cell_of_row w gl 1 _ _ _ h.blk, cell_of_row w gl 2 _ _ _ h.blk, cell_of_row w gl 3 _ _ _ h.blk, cell_of_row w gl 4 _ _ _ h.blk⟩
theorem RLog.cell {w : World} {Z : Nat → Prop} {gl g : Nat} {v : Value} {s : LS} (h : RLog w Z gl g v s) : w.cell? ⟨gl, 0, none⟩ = some (.pointer (some ⟨g, 0, none⟩)) ∧ w.cell? ⟨gl, 1, none⟩ = some v ∧ w.cell? ⟨gl, 2, none⟩ = some (.int .i64 (s.gen : Nat)) ∧ w.cell? ⟨gl, 3, none⟩ = some (.int .i64 (usedOf s.recs : Nat)) ∧ w.cell? ⟨gl, 4, none⟩ = some (.bool s.down) :=
  ⟨cell_of_row w gl 0 _ _ _ h.blk, cell_of_row w gl 1 _ _ _ h.blk, cell_of_row w gl 2 _ _ _ h.blk, cell_of_row w gl 3 _ _ _ h.blk, cell_of_row w gl 4 _ _ _ h.blk⟩
/-- a clone of bytes of any kind, empty ones too -/
theorem clone_any (w : World) (A : Option Addr) (n c : Nat) (l : List UInt8) (h : Bys w A n l) (hn : n ≤ 100000000000000) :
    Calls Tryd.prog 94 #[.slice A n c] w (RetBys w.heap.size 5 l w) := by
  cases A with
  | some ad => exact clone_walk w ad n c l h hn
  | none =>
    have hl : l = [] := by
      cases l with
      | nil => rfl
      | cons z zs => obtain ⟨ad, e, _⟩ := h.cell 0 (by have := h.len; simp at this; omega); cases e
    subst hl
    have h0 : n = 0 := by have := h.len; simpa using this.symm
    subst h0
    have hq := fun (c : Nat) => Go.Lib.run_eql_slice_nil_nil (P := Tryd.prog) w 0 c Tryd.underlying22
    go_enter Tryd.func94, Tryd.ntmps94
    go_wp2
    go_ret
    exact ⟨none, 0, rfl, World.ownsRow_nil w _ _ _, Below.refl _ _⟩
theorem gen_walk (w : World) (Z : Nat → Prop) (gl g : Nat) (v : Value) (s : LS) (h : PLog w Z gl g v s) : Calls Tryd.prog 28 #[.pointer (some ⟨gl, 0, none⟩)] w (Says (.int .i64 (s.gen : Nat)) w) := by
  obtain ⟨-, c1, -⟩ := h.cell
  clear h
  go_enter Tryd.func28, Tryd.ntmps28
  go_wp2
  go_ret
  exact ⟨rfl, rfl⟩
theorem room_walk (w : World) (Z : Nat → Prop) (gl g : Nat) (v : Value) (s : LS) (h : PLog w Z gl g v s) (n : Nat) (sv tv : Value) (d : DS) (hd : PDsk w g sv tv n d) (hu : usedOf s.recs ≤ halfOf n) :
    Calls Tryd.prog 53 #[.pointer (some ⟨gl, 0, none⟩)] w (fun e w' => e = .returned (.int .i64 ((halfOf n - usedOf s.recs : Nat) : Int)) ∧ w' = w.drew) := by
  obtain ⟨c0, -, c2, -⟩ := h.cell
  have HH := half_walk w.drew g n sv tv d (hd.below (below_drew (Below.refl _ _)))
  have hh : halfOf n ≤ 16384 := by have := hd.le; unfold halfOf; omega
  generalize usedOf s.recs = us at *
  generalize halfOf n = hn at *
  have h1 : IntKind.i64.wrap ((hn : Int) - (us : Int)) = ((hn - us : Nat) : Int) := by rw [IntKind.wrap_i64]; omega
  clear h hd
  go_enter Tryd.func53, Tryd.ntmps53
  go_upto_region 1 with fail
  go_region_held_law (fun w' => w'.cell? ⟨gl, 0, none⟩ = some (.pointer (some ⟨g, 0, none⟩)) ∧ w'.cell? ⟨gl, 2, none⟩ = some (.int .i64 (us : Nat))) (go_keep) (
    ((go_at_call 41; (with_reducible refine HH.mono ?_); rintro e w' ⟨rfl, rfl⟩)))
  go_wp2
  go_ret
  exact ⟨rfl, rfl⟩
theorem rroom_walk (w : World) (Z : Nat → Prop) (gl g : Nat) (v : Value) (s : LS) (h : RLog w Z gl g v s) (n : Nat) (sv tv : Value) (d : DS) (hd : RDsk w g sv tv n d) (hu : usedOf s.recs ≤ halfOf n) :
    Calls Tryd.prog 54 #[.pointer (some ⟨gl, 0, none⟩)] w (fun e w' => e = .returned (.int .i64 ((halfOf n - usedOf s.recs : Nat) : Int)) ∧ w' = w.drew) := by
  obtain ⟨c0, -, -, c2, -⟩ := h.cell
  have HH := rhalf_walk w.drew g n sv tv d (hd.below (below_drew (Below.refl _ _)))
  have hh : halfOf n ≤ 16384 := by have := hd.le; unfold halfOf; omega
  generalize usedOf s.recs = us at *
  generalize halfOf n = hn at *
  have h1 : IntKind.i64.wrap ((hn : Int) - (us : Int)) = ((hn - us : Nat) : Int) := by rw [IntKind.wrap_i64]; omega
  clear h hd
  go_enter Tryd.func54, Tryd.ntmps54
  go_upto_region 1 with fail
  go_region_held_law (fun w' => w'.cell? ⟨gl, 0, none⟩ = some (.pointer (some ⟨g, 0, none⟩)) ∧ w'.cell? ⟨gl, 3, none⟩ = some (.int .i64 (us : Nat))) (go_keep) (
    ((go_at_call 49; (with_reducible refine HH.mono ?_); rintro e w' ⟨rfl, rfl⟩)))
  go_wp2
  go_ret
  exact ⟨rfl, rfl⟩
end Go.Proofs.YtggogenhakdhiaaDoor
