/- The law's sameInts. -/
import Derived.Test.YtenfdankgjdfpaaDskRdv
import Derived.BigQuiet
set_option linter.unusedVariables false
set_option linter.unusedSimpArgs false
namespace Go.Proofs.Ytenfdankgjdfpaa
open Go.RowKit

/-- the call answered so, and turned nothing that was there -/
def Tells (B : Nat) (v : Value) (w : World) (e : Ending) (w' : World) : Prop := e = .returned v ∧ Below B w w'
theorem Rdv.at_ {w : World} {A : Option Addr} {n : Nat} {l : List Int} (h : Rdv w A n (iv l)) (k : Nat) (hk : k < n) : ∃ ad, A = some ad ∧ w.cell? (ad.add k) = some (.int .i64 (l.getD k 0)) := by
  have hl := h.len
  rw [iv_length] at hl
  exact h.cell k _ (by rw [iv_getElem?, List.getD_eq_getElem?_getD, List.getElem?_eq_getElem (by omega)]; rfl)
theorem take_getD_succ {l : List Int} {k : Nat} (hk : k < l.length) : l.take (k + 1) = l.take k ++ [l.getD k 0] := by
  rw [List.take_succ_eq_append_getElem hk, List.getD_eq_getElem?_getD, List.getElem?_eq_getElem hk]; rfl
set_option maxHeartbeats 1000000 in
theorem sameInts_walk (w : World) (A B : Option Addr) (n m c c' : Nat) (l r : List Int) (ha : Rdv w A n (iv l)) (hb : Rdv w B m (iv r)) (hn : n ≤ 9223372036854775807) (hm : m ≤ 9223372036854775807) :
    Calls Try.prog 19 #[.slice A n c, .slice B m c'] w (Tells w.heap.size (.bool (decide (l = r))) w) := by
  have hl : l.length = n := by have := ha.len; rwa [iv_length] at this
  have hr : r.length = m := by have := hb.len; rwa [iv_length] at this
  by_cases hnm : n = m
  · subst hnm
    go_enter Try.func19, Try.ntmps19
    go_wp2
    go_loopw [5] (fun i wr => ∃ k : Nat, k ≤ n ∧ i = .int .i64 k ∧ l.take k = r.take k ∧ Below w.heap.size w wr) (fun i _ => n - (intOf i).toNat)
    case atStart => exact ⟨0, by omega, rfl, by simp, Below.refl _ _⟩
    case round =>
      obtain ⟨k, hk, rfl, ht, hBr⟩ := hrel
      by_cases hlt : k < n
      · obtain ⟨ad, rfl, hca⟩ := (ha.below hBr).at_ k hlt
        obtain ⟨bd, rfl, hcb⟩ := (hb.below hBr).at_ k hlt
        have e1 := take_getD_succ (l := l) (k := k) (by omega)
        have e2 := take_getD_succ (l := r) (k := k) (by omega)
        by_cases hv : l.getD k 0 = r.getD k 0
        · have hT : l.take (k + 1) = r.take (k + 1) := by rw [e1, e2, ht, hv]
          generalize l.getD k 0 = x at *
          generalize r.getD k 0 = y at *
          subst hv
          clear e1 e2
          go_wp2
          go_quiet (fail)
          go_wp2
          go_roundw
          case rel => exact ⟨k + 1, hlt, by go_num, hT, below_drewN hBr _⟩
          case measure => simp [intOf]; omega
        · have hne : l ≠ r := by
            intro e
            exact hv (by rw [e])
          have hd : decide (l = r) = false := by simpa using hne
          rw [hd]
          generalize l.getD k 0 = x at *
          generalize r.getD k 0 = y at *
          have hxy : (x == y) = false := by simpa using hv
          clear e1 e2
          go_wp2
          go_quiet (fail)
          go_wp2
          go_ret
          exact ⟨rfl, below_drewN hBr _⟩
      · have hk' : k = n := by omega
        subst hk'
        have e : l = r := by
          rw [List.take_of_length_le (by omega), List.take_of_length_le (by omega)] at ht
          exact ht
        have hd : decide (l = r) = true := by simpa using e
        go_wp2
        go_ret
        exact ⟨by rw [hd]; rfl, hBr⟩
  · have hne : l ≠ r := by
      rintro rfl
      omega
    have hd : decide (l = r) = false := by simpa using hne
    rw [hd]
    go_enter Try.func19, Try.ntmps19
    go_wp2
    go_ret
    exact ⟨rfl, Below.refl _ _⟩
end Go.Proofs.Ytenfdankgjdfpaa
