/- New disks, the document's way. -/
import Derived.Test.YtggogenhakdhiaaDoorDskNew
set_option linter.unusedVariables false
set_option linter.unusedSimpArgs false
namespace Go.Proofs.YtggogenhakdhiaaDoor
open Go.RowKit

set_option maxHeartbeats 1000000 in
set_option maxRecDepth 20000 in
theorem rnew_in (w : World) (n : Nat) (h1 : 1 ≤ n) (h2 : n ≤ 16384) :
    Calls Tryd.prog 9 #[.int .i64 n] w (RetNew 65 5 1 (64 * n) w.heap.size n w) := by
  go_enter Tryd.func9, Tryd.ntmps9
  go_wp2_with (refine wpList_make (o := ⟨some 12, _, _, _, _, _⟩) rfl 22 5 (.tmp 11) rfl (n * 64) rfl (.int .u8 0) 1 1 Tryd.underlying22 info_u8 (by omega) (by omega) ?_)
  go_ret2
  rw [RetNew, if_pos (by omega)]
  simp only [Int.toNat_natCast, Nat.mul_one]
  rw [made_zeros #[.int .u8 0] 1 (n * 64) rfl (by omega)]
  refine ⟨w.heap.size + 1, .slice (some ⟨w.heap.size, 0, none⟩) (n * 64) (n * 64), .slice none 0 0, by simp, ⟨?_, ?_, own_nil _ _ _ _, by simp [zeroDS]; omega, h1, h2, by simp [zeroDS], by simp [zeroDS]⟩, ?_, ((Below.refl _ _).alloc (Nat.le_refl _) _).alloc (by simp) _⟩
  · have := heap_alloc_new (w.alloc (.cells (bv (List.replicate (n * 64) 0)).toArray 5)) (.cells #[.slice (some ⟨w.heap.size, 0, none⟩) (n * 64) (n * 64), .slice none 0 0, .int .i64 (-1), .bool false] 65)
    rw [World.heap_alloc_size] at this
    exact this
  · rw [Nat.mul_comm 64 n]
    exact (World.ownsRow_lit (base := 0) (size := 1) w (bv (List.replicate (n * 64) 0)).toArray (n * 64) (Nat.zero_le _) (by simp only [maxLen]; omega) (by simp [bv_length])).alloc _
  · intro k hk
    rcases hk with rfl | hk | hk
    · omega
    · simp [Value.ownBlock] at hk; omega
    · simp [Value.ownBlock] at hk
theorem rnew_walk (w : World) (z : Int) (hz : -9223372036854775808 ≤ z ∧ z ≤ 9223372036854775807) :
    Calls Tryd.prog 9 #[.int .i64 z] w (RetNew 65 5 1 (64 * z.toNat) w.heap.size z w) := by
  by_cases h1 : 1 ≤ z
  · by_cases h2 : z ≤ 16384
    · obtain ⟨n, rfl⟩ := Int.eq_ofNat_of_zero_le (show 0 ≤ z by omega)
      exact rnew_in w n (by omega) (by omega)
    · have h2' : 16384 < z := by omega
      go_enter Tryd.func9, Tryd.ntmps9
      go_wp2
      go_ret2
      rw [RetNew, if_neg (by omega)]
      exact ⟨rfl, rfl⟩
  · have h1' : z < 1 := by omega
    go_enter Tryd.func9, Tryd.ntmps9
    go_wp2
    go_ret2
    rw [RetNew, if_neg (by omega)]
    exact ⟨rfl, rfl⟩
end Go.Proofs.YtggogenhakdhiaaDoor
