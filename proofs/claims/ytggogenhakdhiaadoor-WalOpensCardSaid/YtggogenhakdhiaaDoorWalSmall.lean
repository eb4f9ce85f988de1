/- The log's small functions, both sides, walked: halves, first sectors, a record's sectors, a clone of bytes. -/
import Derived.Test.YtggogenhakdhiaaDoorWalBytes
import Derived.Test.YtggogenhakdhiaaDoorDskSmall
import Derived.Test.YtggogenhakdhiaaDoorDskRead
import Derived.Lib.BufferMore
set_option linter.unusedVariables false
set_option linter.unusedSimpArgs false
namespace Go.Proofs.YtggogenhakdhiaaDoor
open Go.RowKit

/-- how many sectors each half has -/
def halfOf (n : Nat) : Nat := (n - 1) / 2
/-- the first sector of a generation's half -/
def firstOf (n gen : Nat) : Nat := if gen % 2 = 1 then 1 else 1 + halfOf n
theorem half_walk (w : World) (g n : Nat) (sv tv : Value) (d : DS) (h : PDsk w g sv tv n d) : Calls Tryd.prog 41 #[.pointer (some ⟨g, 0, none⟩)] w (Says (.int .i64 (halfOf n : Nat)) w) := by
  have hle := h.le
  have hp := h.pos
  have HS := sectors_walk w g n sv tv d h
  have h1 : IntKind.i64.wrap ((n : Int) - 1) = ((n - 1 : Nat) : Int) := by rw [IntKind.wrap_i64]; omega
  go_enter Tryd.func41, Tryd.ntmps41
  go_wp2_with (go_at_call 93; go_must (refine HS.mono ?_); rintro e w' ⟨rfl, rfl⟩)
  go_ret
  exact ⟨by show Ending.returned (.int .i64 _) = _; first | rfl | (congr 2; unfold halfOf; omega), rfl⟩
theorem rhalf_walk (w : World) (g n : Nat) (sv tv : Value) (d : DS) (h : RDsk w g sv tv n d) : Calls Tryd.prog 49 #[.pointer (some ⟨g, 0, none⟩)] w (Says (.int .i64 (halfOf n : Nat)) w) := by
  have hle := h.le
  have hp : 1 ≤ n := by have := h.pos; omega
  have HS := rsectors_walk w g n sv tv d h
  have h1 : IntKind.i64.wrap ((n : Int) - 1) = ((n - 1 : Nat) : Int) := by rw [IntKind.wrap_i64]; omega
  go_enter Tryd.func49, Tryd.ntmps49
  go_wp2_with (go_at_call 38; go_must (refine HS.mono ?_); rintro e w' ⟨rfl, rfl⟩)
  go_ret
  exact ⟨by show Ending.returned (.int .i64 _) = _; first | rfl | (congr 2; unfold halfOf; omega), rfl⟩
theorem first_walk (w : World) (g n : Nat) (sv tv : Value) (d : DS) (h : PDsk w g sv tv n d) (gen : Nat) (hg : gen < 9223372036854775808) : Calls Tryd.prog 40 #[.pointer (some ⟨g, 0, none⟩), .int .i64 gen] w (Says (.int .i64 (firstOf n gen : Nat)) w) := by
  have hle := h.le
  have HH := half_walk w g n sv tv d h
  have hh : halfOf n ≤ 16384 := by unfold halfOf; omega
  unfold firstOf
  generalize halfOf n = hn at *
  have h1 : IntKind.i64.wrap ((gen : Int) % 2) = ((gen % 2 : Nat) : Int) := by rw [IntKind.wrap_i64]; omega
  by_cases hr : gen % 2 = 1
  · rw [if_pos hr]
    have hr2 : ((gen : Int) % 2 == 1) = true := by simp; omega
    go_enter Tryd.func40, Tryd.ntmps40
    go_wp2_with (go_at_call 41; go_must (refine HH.mono ?_); rintro e w' ⟨rfl, rfl⟩)
    go_ret
    exact ⟨rfl, rfl⟩
  · rw [if_neg hr]
    have hr2 : ((gen : Int) % 2 == 1) = false := by simp; omega
    go_enter Tryd.func40, Tryd.ntmps40
    go_wp2_with (go_at_call 41; go_must (refine HH.mono ?_); rintro e w' ⟨rfl, rfl⟩)
    go_ret
    exact ⟨by show Ending.returned (.int .i64 _) = _; first | rfl | (congr 2; omega), rfl⟩
theorem rfirst_walk (w : World) (g n : Nat) (sv tv : Value) (d : DS) (h : RDsk w g sv tv n d) (gen : Nat) (hg : gen < 9223372036854775808) : Calls Tryd.prog 48 #[.pointer (some ⟨g, 0, none⟩), .int .i64 gen] w (Says (.int .i64 (firstOf n gen : Nat)) w) := by
  have hle := h.le
  have HH := rhalf_walk w g n sv tv d h
  have hh : halfOf n ≤ 16384 := by unfold halfOf; omega
  unfold firstOf
  generalize halfOf n = hn at *
  have h1 : IntKind.i64.wrap ((gen : Int) % 2) = ((gen % 2 : Nat) : Int) := by rw [IntKind.wrap_i64]; omega
  by_cases hr : gen % 2 = 1
  · rw [if_pos hr]
    have hr2 : ((gen : Int) % 2 == 1) = true := by simp; omega
    go_enter Tryd.func48, Tryd.ntmps48
    go_wp2_with (go_at_call 49; go_must (refine HH.mono ?_); rintro e w' ⟨rfl, rfl⟩)
    go_ret
    exact ⟨rfl, rfl⟩
  · rw [if_neg hr]
    have hr2 : ((gen : Int) % 2 == 1) = false := by simp; omega
    go_enter Tryd.func48, Tryd.ntmps48
    go_wp2_with (go_at_call 49; go_must (refine HH.mono ?_); rintro e w' ⟨rfl, rfl⟩)
    go_ret
    exact ⟨by show Ending.returned (.int .i64 _) = _; first | rfl | (congr 2; omega), rfl⟩
theorem rsectors2_walk (w : World) (k : Int) (A : Option Addr) (n c : Nat) (hn : n ≤ 1000000) :
    Calls Tryd.prog 51 #[.agg #[.int .i64 k, .slice A n c]] w (fun e w' => e = .returned (.int .i64 (secs n : Nat)) ∧ Below w.heap.size w w') := by
  have h1 : IntKind.i64.wrap (10 + (n : Int)) = ((n + 10 : Nat) : Int) := by rw [IntKind.wrap_i64]; omega
  have h2 : IntKind.i64.wrap (((n + 10 : Nat) : Int) + 64) = ((n + 74 : Nat) : Int) := by rw [IntKind.wrap_i64]; omega
  have h3 : IntKind.i64.wrap (((n + 74 : Nat) : Int) - 1) = ((n + 73 : Nat) : Int) := by rw [IntKind.wrap_i64]; omega
  have h4 : IntKind.i64.wrap (((n + 73 : Nat) : Int) / 64) = ((secs n : Nat) : Int) := by unfold secs; rw [IntKind.wrap_i64]; omega
  go_enter Tryd.func51, Tryd.ntmps51
  go_wp2
  go_ret
  exact ⟨by show Ending.returned (.int .i64 (((n : Int) + 10 + 64 - 1) / 64)) = _; congr 2; unfold secs; omega, (Below.refl _ _).alloc (Nat.le_refl _) _⟩
set_option maxHeartbeats 1000000 in
set_option maxRecDepth 20000 in
/-- a sector that is read: where it lies -/
theorem read_at (w : World) (g n : Nat) (sv tv : Value) (d : DS) (k : Nat) (h : PDsk w g sv tv n d) (hk : k < n) :
    Calls Tryd.prog 42 #[.pointer (some ⟨g, 0, none⟩), .int .i64 k] w (fun e w' => e = .returned (.tuple #[.slice (some ⟨w.heap.size, 0, none⟩) 64 64, .int .i64 0]) ∧ w.alloc (.cells (bv (secOf d.img k)).toArray 84) = w') := by
  have c0 := h.c0
  have hle := h.le
  obtain ⟨s, c, hv, _, hs, hc1, hc2, _⟩ := own_some h.sec h.pos
  subst hv
  have hcell := sec_cells h.sec h.len hk h.pos
  have hl64 := secOf_length h.len hk
  go_enter Tryd.func42, Tryd.ntmps42
  go_upto_region 3 with fail
  go_wp2_with (first
    | (refine wpList_load_cells (o := ⟨some 24, _, _, _, _, _⟩) rfl 84 (.tmp 23) rfl ⟨s, k * 64, none⟩ rfl (bv (secOf d.img k)) _ (sec_cells2 hcell) Tryd.underlying84 rfl (by rw [infoSec, bv_length, hl64]) ?_)
    | (refine wpList_store_fresh (o := ⟨none, _, _, _, _, _⟩) rfl 84 (.tmp 6) (.tmp 24) rfl (bv (secOf d.img k)).toArray rfl rfl _ _ (by rw [infoSec]; simp [bv_length, hl64]) (by simp [bv_length, hl64]) (bv_all _) ?_))
  go_ret2
  exact ⟨rfl, rfl⟩
set_option maxRecDepth 20000 in
/-- a clone of bytes that are somewhere -/
theorem clone_walk (w : World) (ad : Addr) (n c : Nat) (l : List UInt8) (h : Bys w (some ad) n l) (hn : n ≤ 100000000000000) :
    Calls Tryd.prog 94 #[.slice (some ad) n c] w (RetBys w.heap.size 5 l w) := by
  have hl := h.len
  have hq := Go.Lib.run_eql_slice_some_nil (P := Tryd.prog) w ad n c Tryd.underlying22
  go_enter Tryd.func94, Tryd.ntmps94
  go_wp2_with (at_builtin; go_must (refine wpList_append_bys (o := ⟨some 7, _, _, _, _, _⟩) w w.heap.size rfl (.tmp 5) (.tmp 6) 22 5 rfl Tryd.underlying22 info_b _ 0 [] rfl (own_empty _ _ _ _ _ (Nat.le_refl _) (heap_alloc_new w _)) (some ad) n c l rfl (h.below ((Below.refl _ _).alloc (Nat.le_refl _) _)) ((Below.refl _ _).alloc (Nat.le_refl _) _) (by simp) (by omega) ?_; intro v1 w1 hown1 hB1 _ _ _))
  go_ret
  exact RetBys.of hown1 (by simp) hB1
set_option maxRecDepth 20000 in
theorem clone_nil (w : World) :
    Calls Tryd.prog 94 #[.slice none 0 0] w (fun e w' => e = .returned (.slice none 0 0) ∧ w = w') := by
  have hq := Go.Lib.run_eql_slice_nil_nil (P := Tryd.prog) w 0 0 Tryd.underlying22
  go_enter Tryd.func94, Tryd.ntmps94
  go_wp2
  go_ret
  exact ⟨rfl, rfl⟩
end Go.Proofs.YtggogenhakdhiaaDoor
