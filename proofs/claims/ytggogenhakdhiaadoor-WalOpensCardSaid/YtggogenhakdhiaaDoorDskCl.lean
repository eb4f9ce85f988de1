/- What a clone is: A disk's clone, the program's way. -/
import Derived.Test.YtggogenhakdhiaaDoorDskWrite
import Derived.Test.YtggogenhakdhiaaDoorDskRdv
set_option linter.unusedVariables false
set_option linter.unusedSimpArgs false
namespace Go.Proofs.YtggogenhakdhiaaDoor
open Go.RowKit

/-- a new disk is returned, of memory of its own -/
def RetDsk (TD TE sz m B n : Nat) (d : DS) (w : World) (e : Ending) (w' : World) : Prop :=
  ∃ g sv tv, e = .returned (.pointer (some ⟨g, 0, none⟩)) ∧ Dsk TD TE sz m w' g sv tv n d ∧ (∀ k, Foot g sv tv k → B ≤ k) ∧ Below B w w'
theorem own_lo {a b e size n : Nat} {v : Value} {xs : List Value} {w : World} (h : w.ownsRow b e size v n xs) (hab : a ≤ b) : w.ownsRow a e size v n xs :=
  ⟨h.1, h.2.imp id fun ⟨g, cap, cur, p, q, r⟩ => ⟨g, cap, cur, p, Nat.le_trans hab q, r⟩⟩
theorem info_sec : (Tryd.prog.info? 84).map (fun i => (i.zero, i.size, i.bytes)) = some (some (.agg (Array.replicate 64 (.int .u8 0))), 64, 64) := by kernel_rfl
end Go.Proofs.YtggogenhakdhiaaDoor
