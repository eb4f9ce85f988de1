/- What the bound on the arguments gives. -/
import Derived.Test.YtenfdankgjdfpaaDoorLaid
set_option linter.unusedVariables false
set_option linter.unusedSimpArgs false
namespace Go.Proofs.YtenfdankgjdfpaaDoor.Bulk
open Go.ChangeShapes Go.WideShapes Go.ChangeAt Go.RowKit

theorem one_le {H : Type} (d : DataW H) : 1 ≤ Rows.uptoBulk d := by
  cases d with
  | lit l => cases l <;> simp [Rows.uptoBulk]
  | nil => simp [Rows.uptoBulk]
  | ptr d => simp [Rows.uptoBulk]
  | slice elems spare => simp [Rows.uptoBulk]
  | agg parts => simp [Rows.uptoBulk]
  | iface t d => simp [Rows.uptoBulk]
  | map entries => simp [Rows.uptoBulk]
  | held h => simp [Rows.uptoBulk]
theorem length_le {H : Type} (l : List (DataW H)) : l.length ≤ Rows.uptoBulkAll l := by
  induction l with
  | nil => simp [Rows.uptoBulkAll]
  | cons x r ih => have := one_le x; simp only [Rows.uptoBulkAll, List.length_cons]; omega
theorem bound {H : Type} {l : List (DataW H)} (hk : Rows.uptoSmall H l = true) : Rows.uptoBulkAll l ≤ 1048576 := of_decide_eq_true hk
theorem bytes_le {H : Type} {enc : TypeId × Value → H} {W : World} {A : Option Addr} {n c : Nat} {l : List UInt8} {v : Value} {d : DataW H} {ps : List MemPlace}
    (h : DataW.Trod enc Tryd.prog W 0 (fun _ => true) true 22 v d ps) (hv : v = .slice A n c) (hb : Bys W A n l) : n ≤ Rows.uptoBulk d := by
  subst hv
  obtain ⟨fuel, hf⟩ := h
  rcases open_ints Tryd.underlying22 Tryd.underlying5 cellsU8 hf with ⟨hc, hx⟩ | ⟨a, len, cap, zs, hc, _, hl, hm, hlen, hx, hcell, hwf⟩
  · cases hc
    omega
  · cases hc
    have hlz : n ≤ zs.length := by split at hlen <;> omega
    have hd : d = .slice (lits .u8 (zs.take n)) (lits .u8 (zs.drop n)) := by cases hx; rfl
    subst hd
    have := length_le (lits (H := H) .u8 (zs.take n))
    simp only [Rows.uptoBulk]
    simp only [lits, List.length_map, List.length_take] at this
    simp only [lits]
    omega
end Go.Proofs.YtenfdankgjdfpaaDoor.Bulk
