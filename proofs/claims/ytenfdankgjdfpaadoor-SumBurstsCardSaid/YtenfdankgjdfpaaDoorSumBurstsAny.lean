/- The law SumBursts at every input. -/
import Derived.Test.YtenfdankgjdfpaaDoorSumBursts
set_option linter.unusedVariables false
set_option linter.unusedSimpArgs false
namespace Go.Proofs.YtenfdankgjdfpaaDoor
open Go.RowKit

set_option maxHeartbeats 400000 in
theorem bursts_easy (w : World) (A : Option Addr) (n c : Nat) (zs : List UInt8) (z : Int) (tb : BitVec 32) (ht : TabAt w) (h : n = 0 ∨ un tb = 0) :
    Calls Tryd.prog 6 #[.slice A n c, .int .i64 z, .int .u32 (un tb)] w (LawPost w) := by
  have H0 := works_walk w ht
  by_cases hn : n = 0
  · subst hn
    go_enter Tryd.func6, Tryd.ntmps6
    go_wp2_with (go_at_call 15; go_must (refine H0.mono ?_); rintro e w1 ⟨rfl, hB1⟩)
    go_ret
    exact ⟨rfl, hB1⟩
  · have ht0 : (un tb == 0) = true := by rcases h with h | h; exact absurd h hn; simp [h]
    have hnz : ((n : Int) == 0) = false := by simp; omega
    go_enter Tryd.func6, Tryd.ntmps6
    go_wp2_with (go_at_call 15; go_must (refine H0.mono ?_); rintro e w1 ⟨rfl, hB1⟩)
    go_ret
    exact ⟨rfl, hB1⟩
theorem bursts_any (w : World) (A : Option Addr) (n c : Nat) (zs : List UInt8) (hb : Bys w A n zs) (hc0 : n ≤ c) (z : Int) (tb : BitVec 32) (hz1 : -9223372036854775808 ≤ z) (hz2 : z ≤ 9223372036854775807) (ht : TabAt w) (hn : n ≤ 140737488351232) :
    Calls Tryd.prog 6 #[.slice A n c, .int .i64 z, .int .u32 (un tb)] w (LawPost w) := by
  by_cases h : n = 0 ∨ un tb = 0
  · exact bursts_easy w A n c zs z tb ht h
  · exact bursts_walk w A n c zs hb hc0 z tb hz1 hz2 ht hn (by omega) (by simp; omega)
end Go.Proofs.YtenfdankgjdfpaaDoor
