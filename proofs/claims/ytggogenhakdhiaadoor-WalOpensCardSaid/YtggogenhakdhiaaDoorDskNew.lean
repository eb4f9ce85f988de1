/- New disks, the program's way and the document's. -/
import Derived.Test.YtggogenhakdhiaaDoorDskCl
set_option linter.unusedVariables false
set_option linter.unusedSimpArgs false
namespace Go.Proofs.YtggogenhakdhiaaDoor
open Go.RowKit

theorem World.heap_alloc_size (w : World) (o : Obj) : (w.alloc o).heap.size = w.heap.size + 1 := by simp
theorem wpList_make {P : Program} {ops : Array Oper} {rest : List Oper} {o : Oper} {a : Act} {w : World} {Q : Exit → Act → World → Prop} (hgd : o.guard = none) (t e : TypeId) (x : Operand) (ho : o.op = .makeSlice t x x) (n : Nat) (hx : a.eval x = .int .i64 n)
    (z : Value) (size bytes : Nat) (ht : P.underlying t = some (.slice e)) (hinfo : (P.info? e).map (fun i => (i.zero, i.size, i.bytes)) = some (some z, size, bytes)) (hb : bytes * n ≤ 281474976710656) (h63 : n ≤ 9223372036854775807)
    (h : wpList P ops Q rest (a.put o.dst (.slice (some ⟨w.heap.size, 0, none⟩) n n)) (w.alloc (.cells (madeCells z.cells (n * size)) e))) : wpList P ops Q (o :: rest) a w := by
  obtain ⟨i, hi, hz, hs, hy⟩ := info_parts hinfo
  subst hs hy
  have hr := run_make (P := P) w t e i z ht hi hz .i64 .i64 n n (by omega) (Int.le_refl _) (by rw [← Int.natCast_mul]; omega) (by omega)
  refine wpList_plain hgd fun K hK => ?_
  unfold Oper.wp execOp
  simp only [ho, hx, Sem.run_bind, Sem.run_pure, Result.andThen_ok, hr]
  exact hK _ _ h
theorem made_zeros (z : Array Value) (k n : Nat) (hz : z = Array.replicate k (.int .u8 0)) (hk : 0 < k) : madeCells z n = (bv (List.replicate n 0)).toArray := by
  subst hz
  unfold madeCells
  apply Array.ext
  · simp [bv]
  · intro i h1 h2
    simp [bv, Nat.mod_lt _ hk]
/-- a disk of zeros -/
def zeroDS (n : Nat) : DS := ⟨List.replicate (n * 64) 0, [], -1, false⟩
/-- New's answer -/
def RetNew (TD TE sz m B : Nat) (z : Int) (w : World) (e : Ending) (w' : World) : Prop :=
  if 1 ≤ z ∧ z ≤ 16384 then ∃ g sv tv, e = .returned (.tuple #[.pointer (some ⟨g, 0, none⟩), .int .i64 0]) ∧ Dsk TD TE sz m w' g sv tv z.toNat (zeroDS z.toNat) ∧ (∀ k, Foot g sv tv k → B ≤ k) ∧ Below B w w'
  else e = .returned (.tuple #[.pointer none, .int .i64 2]) ∧ w = w'
set_option maxHeartbeats 1000000 in
set_option maxRecDepth 20000 in
theorem new_in (w : World) (n : Nat) (h1 : 1 ≤ n) (h2 : n ≤ 16384) :
    Calls Tryd.prog 8 #[.int .i64 n] w (RetNew 82 84 64 n w.heap.size n w) := by
  go_enter Tryd.func8, Tryd.ntmps8
  go_wp2_with (refine wpList_make (o := ⟨some 11, _, _, _, _, _⟩) rfl 80 84 (.tmp 10) rfl n rfl (.agg (Array.replicate 64 (.int .u8 0))) 64 64 Tryd.underlying80 info_sec (by omega) (by omega) ?_)
  go_ret2
  rw [RetNew, if_pos (by omega)]
  simp only [Int.toNat_natCast]
  rw [made_zeros _ 64 (n * 64) rfl (by omega)]
  refine ⟨w.heap.size + 1, .slice (some ⟨w.heap.size, 0, none⟩) n n, .slice none 0 0, by simp, ⟨?_, ?_, own_nil _ _ _ _, by simp [zeroDS]; omega, h1, h2, by simp [zeroDS], by simp [zeroDS]⟩, ?_, ((Below.refl _ _).alloc (Nat.le_refl _) _).alloc (by simp) _⟩
  · have := heap_alloc_new (w.alloc (.cells (bv (List.replicate (n * 64) 0)).toArray 84)) (.cells #[.slice (some ⟨w.heap.size, 0, none⟩) n n, .slice none 0 0, .int .i64 (-1), .bool false] 82)
    rw [World.heap_alloc_size] at this
    exact this
  · exact (World.ownsRow_lit (base := 0) (size := 64) w (bv (List.replicate (n * 64) 0)).toArray n (Nat.zero_le _) (by simp only [maxLen]; omega) (by simp [bv_length])).alloc _
  · intro k hk
    rcases hk with rfl | hk | hk
    · omega
    · simp [Value.ownBlock] at hk; omega
    · simp [Value.ownBlock] at hk
theorem new_walk (w : World) (z : Int) (hz : -9223372036854775808 ≤ z ∧ z ≤ 9223372036854775807) :
    Calls Tryd.prog 8 #[.int .i64 z] w (RetNew 82 84 64 z.toNat w.heap.size z w) := by
  by_cases h1 : 1 ≤ z
  · by_cases h2 : z ≤ 16384
    · obtain ⟨n, rfl⟩ := Int.eq_ofNat_of_zero_le (show 0 ≤ z by omega)
      exact new_in w n (by omega) (by omega)
    · have h2' : 16384 < z := by omega
      go_enter Tryd.func8, Tryd.ntmps8
      go_wp2
      go_ret2
      rw [RetNew, if_neg (by omega)]
      exact ⟨rfl, rfl⟩
  · have h1' : z < 1 := by omega
    go_enter Tryd.func8, Tryd.ntmps8
    go_wp2
    go_ret2
    rw [RetNew, if_neg (by omega)]
    exact ⟨rfl, rfl⟩
end Go.Proofs.YtggogenhakdhiaaDoor
