/- The log's small functions on bytes, both sides, walked. -/
import Derived.Test.YtggogenhakdhiaaDoorWalNum
import Derived.Test.YtggogenhakdhiaaDoorWalApp
import Derived.Test.YtggogenhakdhiaaDoorSumCQuiet
import Derived.Lib.Hide
set_option linter.unusedVariables false
set_option linter.unusedSimpArgs false
namespace Go.Proofs.YtggogenhakdhiaaDoor
open Go.RowKit

theorem info_b : (Tryd.prog.info? 5).map (fun i => (i.zero, i.size, i.bytes)) = some (some (.int .u8 0), 1, 1) := by kernel_rfl
theorem bv_byte (q : Nat) : (#[Value.int .u8 ((q : Int) % 256)] : Array Value).toList = bv [UInt8.ofNat (q % 256)] := by
  simp [bv]
theorem bv_byte2 (z j : Nat) : (#[Value.int .u8 ((z : Int) / 2 ^ (8 * j) % 256)] : Array Value).toList = bv [UInt8.ofNat (z / 256 ^ j % 256)] := by
  have h : (2 : Int) ^ (8 * j) = ((256 ^ j : Nat) : Int) := by
    rw [show (256 : Nat) = 2 ^ 8 from rfl, ← Nat.pow_mul]
    simp
  have h2 : (z : Int) / 2 ^ (8 * j) % 256 = ((z / 256 ^ j % 256 : Nat) : Int) := by rw [h]; omega
  rw [h2]
  simp [bv]
theorem RetBys.mk {B : Nat} {E : TypeId} {l : List UInt8} {w w' : World} {A : Option Addr} {c : Nat} (h : w'.ownsRow B E 1 (.slice A l.length c) l.length (bv l)) (hb : Below B w w') : RetBys B E l w (.returned (.slice A l.length c)) w' := ⟨A, c, rfl, h, hb⟩
set_option maxHeartbeats 1000000 in
theorem little_walk (w : World) (base : Nat) (A : Option Addr) (c : Nat) (l : List UInt8) (z k : Nat) (h : OwnOr w base 5 (.slice A l.length c) l) (hk0 : 0 < k) (hb : base ≤ w.heap.size) (hz : z < 18446744073709551616) (hk : l.length + k ≤ 1000000000) :
    Calls Tryd.prog 98 #[.slice A l.length c, .int .u64 z, .int .i64 k] w (RetBys base 5 (l ++ le z k) w) := by
  go_enter Tryd.func98, Tryd.ntmps98
  go_wp2
  go_loopw [0, 1, 8] (fun v n i wr => ∃ j : Nat, j ≤ k ∧ i = .int .i64 j ∧ n = .int .u64 ((z / 256 ^ j : Nat) : Int) ∧ Below base w wr ∧ base ≤ wr.heap.size ∧ ∃ A' c', v = .slice A' (l.length + j) c' ∧ OwnOr wr base 5 (.slice A' (l.length + j) c') (l ++ le z j) ∧ (0 < j → wr.ownsRow base 5 1 (.slice A' (l.length + j) c') (l.length + j) (bv (l ++ le z j)))) (fun _ _ i _ => k - (intOf i).toNat)
  case atStart => exact ⟨0, by omega, rfl, by simp, Below.refl _ _, hb, A, c, rfl, by simpa [le] using h, fun h0 => absurd h0 (by omega)⟩
  case round =>
    obtain ⟨j, hj, rfl, rfl, hBr, hbr, A', c', rfl, hor, hown⟩ := hrel
    have hq : z / 256 ^ j < 18446744073709551616 := Nat.lt_of_le_of_lt (Nat.div_le_self _ _) hz
    have hq2 : z / 256 ^ (j + 1) = z / 256 ^ j / 256 := by rw [Nat.pow_succ, Nat.div_div_eq_div_mul]
    have hs := le_snoc z j
    generalize z / 256 ^ j = q at *
    replace hq2 := Go.Lib.hid hq2
    replace hs := Go.Lib.hid hs
    by_cases hlt : j < k
    · go_wp2_with (at_builtin; refine wpList_append_or (o := ⟨some 14, _, _, _, _, _⟩) w base rfl (.tmp 10) (.tmp 13) 22 5 rfl Tryd.underlying22 info_b _ (l ++ le z j) rfl (hor.alloc _) _ 1 1 [UInt8.ofNat (q % 256)] rfl (Bys.new wr _ _ _ (bv_byte q) (by simp)) (by omega) (hBr.alloc hbr _) (by simp; omega) (by rw [List.length_append, le_length]; omega) ?_; intro v1 w1 hown1 hB1 hs1; rw [List.append_assoc, ← show le z (j + 1) = _ from hs, List.length_append, le_length] at hown1; obtain ⟨A1, c1, hv1⟩ := own_slice hown1; subst hv1)
      go_roundw
      case rel => exact ⟨j + 1, hlt, by go_num, by rw [show z / 256 ^ (j + 1) = q / 256 from hq2]; go_num, hB1, hs1, A1, c1, rfl, .inl (by rw [List.length_append, le_length]; exact hown1), fun _ => hown1⟩
      case measure => simp [intOf]; omega
    · have hjk : j = k := by omega
      subst hjk
      go_wp2
      go_ret
      have hll : (l ++ le z j).length = l.length + j := by rw [List.length_append, le_length]
      exact ⟨A', c', by rw [hll]; rfl, by rw [hll]; exact hown hk0, hBr⟩
set_option maxHeartbeats 1000000 in
theorem low_walk (w : World) (base : Nat) (A : Option Addr) (c : Nat) (l : List UInt8) (z k : Nat) (h : OwnOr w base 5 (.slice A l.length c) l) (hk0 : 0 < k) (hb : base ≤ w.heap.size) (hz : z < 18446744073709551616) (hk : l.length + k ≤ 1000000000) (hk8 : k ≤ 8) :
    Calls Tryd.prog 95 #[.slice A l.length c, .int .u64 z, .int .i64 k] w (RetBys base 5 (l ++ le z k) w) := by
  go_enter Tryd.func95, Tryd.ntmps95
  go_wp2
  go_loopw [0, 7] (fun v i wr => ∃ j : Nat, j ≤ k ∧ i = .int .i64 j ∧ Below base w wr ∧ base ≤ wr.heap.size ∧ ∃ A' c', v = .slice A' (l.length + j) c' ∧ OwnOr wr base 5 (.slice A' (l.length + j) c') (l ++ le z j) ∧ (0 < j → wr.ownsRow base 5 1 (.slice A' (l.length + j) c') (l.length + j) (bv (l ++ le z j)))) (fun _ i _ => k - (intOf i).toNat)
  case atStart => exact ⟨0, by omega, rfl, Below.refl _ _, hb, A, c, rfl, by simpa [le] using h, fun h0 => absurd h0 (by omega)⟩
  case round =>
    obtain ⟨j, hj, rfl, hBr, hbr, A', c', rfl, hor, hown⟩ := hrel
    have hs := le_snoc z j
    replace hs := Go.Lib.hid hs
    by_cases hlt : j < k
    · have hw8 : IntKind.i64.wrap (8 * (j : Int)) = ((8 * j : Nat) : Int) := by rw [IntKind.wrap_i64]; omega
      go_wp2_with (at_builtin; refine wpList_append_or (o := ⟨some 20, _, _, _, _, _⟩) w base rfl (.tmp 13) (.tmp 19) 22 5 rfl Tryd.underlying22 info_b _ (l ++ le z j) rfl (hor.alloc _) _ 1 1 [UInt8.ofNat (z / 256 ^ j % 256)] rfl (Bys.new wr _ _ _ (bv_byte2 z j) (by simp)) (by omega) (hBr.alloc hbr _) (by simp; omega) (by rw [List.length_append, le_length]; omega) ?_; intro v1 w1 hown1 hB1 hs1; rw [List.append_assoc, ← show le z (j + 1) = _ from hs, List.length_append, le_length] at hown1; obtain ⟨A1, c1, hv1⟩ := own_slice hown1; subst hv1)
      go_roundw
      case rel => exact ⟨j + 1, hlt, by go_num, hB1, hs1, A1, c1, rfl, .inl (by rw [List.length_append, le_length]; exact hown1), fun _ => hown1⟩
      case measure => simp [intOf]; omega
    · have hjk : j = k := by omega
      subst hjk
      go_wp2
      go_ret
      have hll : (l ++ le z j).length = l.length + j := by rw [List.length_append, le_length]
      exact ⟨A', c', by rw [hll]; rfl, by rw [hll]; exact hown hk0, hBr⟩
set_option maxHeartbeats 1000000 in
theorem number_walk (w : World) (A : Option Addr) (n c : Nat) (l : List UInt8) (h : Bys w A n l) (hn : n ≤ 8) :
    Calls Tryd.prog 92 #[.slice A n c] w fun e w' => e = .returned (.int .u64 (num l)) ∧ w = w' := by
  have hl := h.len
  go_enter Tryd.func92, Tryd.ntmps92
  go_wp2
  go_loopw [3, 4] (fun v i wr => ∃ j : Nat, j ≤ n ∧ i = .int .i64 ((j : Int) - 1) ∧ v = .int .u64 ((num (l.drop j) : Nat) : Int) ∧ wr = w) (fun _ i _ => (intOf i + 1).toNat)
  case atStart => exact ⟨n, Nat.le_refl _, rfl, by rw [List.drop_eq_nil_of_le (by omega)]; rfl, rfl⟩
  case round =>
    obtain ⟨j, hj, rfl, rfl, rfl⟩ := hrel
    cases j with
    | zero =>
      go_wp2
      go_ret
      exact ⟨by simp, rfl⟩
    | succ i =>
      obtain ⟨ad, rfl, hcell⟩ := h.cell i (by omega)
      have hnd := num_drop l i (by omega)
      have hlt : num (l.drop (i + 1)) < 72057594037927936 := by
        have h1 := num_lt (l.drop (i + 1))
        have h2 : 256 ^ (l.drop (i + 1)).length ≤ 256 ^ 7 := Nat.pow_le_pow_right (by omega) (by rw [List.length_drop]; omega)
        omega
      have hb := (l.getD i 0).toNat_lt
      have hor := or_byte (num (l.drop (i + 1))) (l.getD i 0).toNat hlt hb
      have hwr : IntKind.u64.wrap ((num (l.drop (i + 1)) : Int) * 256) = ((num (l.drop (i + 1)) * 256 : Nat) : Int) := by rw [IntKind.wrap_u64]; omega
      have hj1 : ((i + 1 : Nat) : Int) - 1 = (i : Int) := by omega
      rw [hj1]
      generalize num (l.drop (i + 1)) = a at *
      generalize (l.getD i 0).toNat = b at *
      go_wp2
      go_roundw
      case rel => exact ⟨i, by omega, rfl, by rw [show ((a : Int) * 256) = ((a * 256 : Nat) : Int) by omega, hor, hnd], trivial⟩
      case measure => simp [intOf]
set_option maxHeartbeats 1000000 in
theorem high_walk (w : World) (A : Option Addr) (n c : Nat) (l : List UInt8) (h : Bys w A n l) (hn : n ≤ 8) :
    Calls Tryd.prog 46 #[.slice A n c] w fun e w' => e = .returned (.int .u64 (num l)) ∧ w = w' := by
  have hl := h.len
  go_enter Tryd.func46, Tryd.ntmps46
  go_wp2
  go_loopw [3, 4] (fun v i wr => ∃ j : Nat, j ≤ n ∧ i = .int .i64 ((j : Int) - 1) ∧ v = .int .u64 ((num (l.drop j) : Nat) : Int) ∧ wr = w) (fun _ i _ => (intOf i + 1).toNat)
  case atStart => exact ⟨n, Nat.le_refl _, rfl, by rw [List.drop_eq_nil_of_le (by omega)]; rfl, rfl⟩
  case round =>
    obtain ⟨j, hj, rfl, rfl, rfl⟩ := hrel
    cases j with
    | zero =>
      go_wp2
      go_ret
      exact ⟨by simp, rfl⟩
    | succ i =>
      obtain ⟨ad, rfl, hcell⟩ := h.cell i (by omega)
      have hnd := num_drop l i (by omega)
      have hlt : num (l.drop (i + 1)) < 72057594037927936 := by
        have h1 := num_lt (l.drop (i + 1))
        have h2 : 256 ^ (l.drop (i + 1)).length ≤ 256 ^ 7 := Nat.pow_le_pow_right (by omega) (by rw [List.length_drop]; omega)
        omega
      have hb := (l.getD i 0).toNat_lt
      have hor := or_byte (num (l.drop (i + 1))) (l.getD i 0).toNat hlt hb
      have hwr : IntKind.u64.wrap ((num (l.drop (i + 1)) : Int) * 256) = ((num (l.drop (i + 1)) * 256 : Nat) : Int) := by rw [IntKind.wrap_u64]; omega
      have hj1 : ((i + 1 : Nat) : Int) - 1 = (i : Int) := by omega
      rw [hj1]
      generalize num (l.drop (i + 1)) = a at *
      generalize (l.getD i 0).toNat = b at *
      go_wp2
      go_roundw
      case rel => exact ⟨i, by omega, rfl, by rw [show ((a : Int) * 256) = ((a * 256 : Nat) : Int) by omega, hor, hnd], trivial⟩
      case measure => simp [intOf]
/-- how many sectors a load needs -/
def secs (n : Nat) : Nat := (n + 73) / 64
theorem sectors_walk' (w : World) (n : Nat) (hn : n ≤ 4000000000000000000) : Calls Tryd.prog 59 #[.int .i64 n] w (fun e w' => e = .returned (.int .i64 (secs n : Nat)) ∧ w = w') := by
  have h1 : IntKind.i64.wrap (10 + (n : Int)) = ((n + 10 : Nat) : Int) := by rw [IntKind.wrap_i64]; omega
  have h2 : IntKind.i64.wrap (((n + 10 : Nat) : Int) + 64) = ((n + 74 : Nat) : Int) := by rw [IntKind.wrap_i64]; omega
  have h3 : IntKind.i64.wrap (((n + 74 : Nat) : Int) - 1) = ((n + 73 : Nat) : Int) := by rw [IntKind.wrap_i64]; omega
  have h4 : IntKind.i64.wrap (((n + 73 : Nat) : Int) / 64) = ((secs n : Nat) : Int) := by unfold secs; rw [IntKind.wrap_i64]; omega
  go_enter Tryd.func59, Tryd.ntmps59
  go_wp2
  go_ret
  exact ⟨by show Ending.returned (.int .i64 (((n : Int) + 10 + 64 - 1) / 64)) = _; congr 2; unfold secs; omega, rfl⟩
theorem equal_walk (w : World) (A B : Option Addr) (n m c d : Nat) (l r : List UInt8) (ha : Bys w A n l) (hb : Bys w B m r) : Calls Tryd.prog 43 #[.slice A n c, .slice B m d] w (fun e w' => e = .returned (.bool (decide (l = r))) ∧ w = w') := by
  have s1 := ha.string (P := Tryd.prog) Tryd.underlying22 Tryd.underlying5 Tryd.underlying9 c
  have s2 := hb.string (P := Tryd.prog) Tryd.underlying22 Tryd.underlying5 Tryd.underlying9 d
  by_cases he : l = r
  · subst he
    go_enter Tryd.func43, Tryd.ntmps43
    go_wp2
    go_ret
    exact ⟨by simp, rfl⟩
  · have hbe : ((str l).toList == (str r).toList) = false := by
      unfold str
      rw [ByteArray.toList_mk, ByteArray.toList_mk, beq_eq_false_iff_ne]
      exact he
    have hd : decide (l = r) = false := decide_eq_false he
    rw [hd]
    go_enter Tryd.func43, Tryd.ntmps43
    go_wp2
    go_ret
    exact ⟨by first | rfl | simp, rfl⟩
end Go.Proofs.YtggogenhakdhiaaDoor
