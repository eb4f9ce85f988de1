/- The plain laws of the printed comparers: each tells whether two lists are the same. -/
import Derived.Test.YtenfdankgjdfpaaPSnapSamex
import Derived.Test.YtenfdankgjdfpaaSsEqual
import Derived.Laws.Strings
set_option linter.unusedVariables false
set_option linter.unusedSimpArgs false
namespace Go.Proofs.Ytenfdankgjdfpaa.PSnapSame
open Go.RowKit Go.Proofs.YtenfdankgjdfpaaW.PrintWords Go.Proofs.YtenfdankgjdfpaaW.PrintLast Go.Proofs.YtenfdankgjdfpaaW.PrintMore
open Classical

theorem bytes_beq (x y : ByteArray) : (x.toList == y.toList) = decide (x = y) := by
  by_cases h : x = y
  · subst h; simp
  · rw [decide_eq_false h, beq_eq_false_iff_ne]
    intro e
    rw [ByteArray.toList_eq, ByteArray.toList_eq] at e
    exact h (ByteArray.ext (Array.toList_inj.1 e))
theorem ext63 (x y : S63) : x = y ↔ x.f0 = y.f0 ∧ x.f1 = y.f1 := by cases x; cases y; simp
theorem ne69 (x y : S69) : (!((x.f0.toList) == (y.f0.toList)) || (!((x.f1.toList) == (y.f1.toList)) || (!(x.f2 == y.f2)))) = !decide (x = y) := by
  rw [bytes_beq, bytes_beq]
  cases x; cases y
  simp only [S69.mk.injEq, Bool.decide_and, Bool.not_and]
  rfl
theorem ne73 (x y : S73) : (!((x.f0.toList) == (y.f0.toList)) || ((!(x.f1.f0 == y.f1.f0) || !(x.f1.f1 == y.f1.f1)) || !(x.f2 == y.f2))) = !decide (x = y) := by
  rw [bytes_beq]
  cases x; cases y
  simp only [S73.mk.injEq, ext63, Bool.decide_and, Bool.not_and]
  rfl
theorem ne76 (x y : S76) : (!((x.f0.toList) == (y.f0.toList)) || (!((x.f1.toList) == (y.f1.toList)) || (!(x.f2 == y.f2) || (!(x.f3 == y.f3) || (!(x.f4.f0 == y.f4.f0) || !(x.f4.f1 == y.f4.f1)))))) = !decide (x = y) := by
  rw [bytes_beq, bytes_beq]
  cases x; cases y
  simp only [S76.mk.injEq, ext63, Bool.decide_and, Bool.not_and]
  rfl
theorem ne79 (x y : S79) : (!((x.f0.toList) == (y.f0.toList)) || (!((x.f1.toList) == (y.f1.toList)) || (!(x.f2 == y.f2) || (!(x.f3.f0 == y.f3.f0) || !(x.f3.f1 == y.f3.f1))))) = !decide (x = y) := by
  rw [bytes_beq, bytes_beq]
  cases x; cases y
  simp only [S79.mk.injEq, ext63, Bool.decide_and, Bool.not_and]
  rfl
theorem ne82 (x y : S82) : ((!(x.f0.f0 == y.f0.f0) || !(x.f0.f1 == y.f0.f1)) || (!(x.f1 == y.f1) || (!(x.f2 == y.f2) || (!(x.f3 == y.f3) || !(x.f4 == y.f4))))) = !decide (x = y) := by
  cases x; cases y
  simp only [S82.mk.injEq, ext63, Bool.decide_and, Bool.not_and]
  rfl
theorem getD_at {α : Type} (l : List α) (z : α) (i : Nat) (h : i < l.length) : l.getD ((i : Int)).toNat z = l[i] := by
  rw [Int.toNat_natCast, List.getD_eq_getElem?_getD, List.getElem?_eq_getElem h]; rfl
theorem drop_eq_iff {α : Type} (l l' : List α) (i : Nat) (h : i < l.length) (h' : i < l'.length) : (l.drop i = l'.drop i) ↔ (l[i] = l'[i] ∧ l.drop (i + 1) = l'.drop (i + 1)) := by
  rw [List.drop_eq_getElem_cons h, List.drop_eq_getElem_cons h', List.cons.injEq]
theorem slices_Equal_int_int.l0_is : ∀ (d k : Nat) (l l' : List Int) (i : Nat), l.length = l'.length → i + d = l.length → d < k → l.length ≤ 9223372036854775806 → slices_Equal_int_int.l0 k l l' (l.length : Int) (i : Int) = some (decide (l.drop i = l'.drop i)) := by
  intro d
  induction d with
  | zero =>
    intro k l l' i hl hi hk hm
    obtain ⟨m, rfl⟩ : ∃ m, k = m + 1 := ⟨k - 1, by omega⟩
    simp only [slices_Equal_int_int.l0]
    rw [if_neg (by omega), List.drop_eq_nil_of_le (by omega), List.drop_eq_nil_of_le (by omega)]
    simp
  | succ d ih =>
    intro k l l' i hl hi hk hm
    obtain ⟨m, rfl⟩ : ∃ m, k = m + 1 := ⟨k - 1, by omega⟩
    simp only [slices_Equal_int_int.l0]
    rw [if_pos (by omega), if_pos (by omega), if_pos (by omega), if_pos (by omega)]
    have hw : wrap64 ((i : Int) + 1) = ((i + 1 : Nat) : Int) := by unfold wrap64; omega
    have h1 : i < l.length := by omega
    have h2 : i < l'.length := by omega
    have e1 : rd l (i : Int) = l[i] := getD_at l 0 i h1
    have e2 : rd l' (i : Int) = l'[i] := getD_at l' 0 i h2
    rw [e1, e2, hw, ih m l l' (i + 1) hl (by omega) (by omega) hm]
    by_cases he : l[i] = l'[i]
    · simp [drop_eq_iff l l' i h1 h2, he]
    · simp [drop_eq_iff l l' i h1 h2, he]
theorem slices_Equal_int_int.is (k : Nat) (l l' : List Int) (hk : l.length < k) (hm : l.length ≤ 9223372036854775806) : slices_Equal_int_int.f k l l' = some (decide (l = l')) := by
  unfold slices_Equal_int_int.f
  by_cases h : l.length = l'.length
  · rw [if_pos (by omega)]
    have := slices_Equal_int_int.l0_is l.length k l l' 0 h (by omega) hk hm
    simpa using this
  · rw [if_neg (by omega)]
    congr 1
    exact (decide_eq_false (fun e => h (by rw [e]))).symm
theorem api_Write.l0_is : ∀ (d k : Nat) (l l' : List S69) (i : Nat), l.length = l'.length → i + d = l.length → d < k → l.length ≤ 9223372036854775806 → api_Write.l0 k l l' (l.length : Int) (i : Int) = some (decide (l.drop i = l'.drop i)) := by
  intro d
  induction d with
  | zero =>
    intro k l l' i hl hi hk hm
    obtain ⟨m, rfl⟩ : ∃ m, k = m + 1 := ⟨k - 1, by omega⟩
    simp only [api_Write.l0]
    rw [if_neg (by omega), List.drop_eq_nil_of_le (by omega), List.drop_eq_nil_of_le (by omega)]
    simp
  | succ d ih =>
    intro k l l' i hl hi hk hm
    obtain ⟨m, rfl⟩ : ∃ m, k = m + 1 := ⟨k - 1, by omega⟩
    simp only [api_Write.l0]
    rw [if_pos (by omega), if_pos (by omega), if_pos (by omega), if_pos (by omega)]
    have hw : wrap64 ((i : Int) + 1) = ((i + 1 : Nat) : Int) := by unfold wrap64; omega
    have h1 : i < l.length := by omega
    have h2 : i < l'.length := by omega
    have e1 : rd_T69 l (i : Int) = l[i] := getD_at l z69 i h1
    have e2 : rd_T69 l' (i : Int) = l'[i] := getD_at l' z69 i h2
    rw [e1, e2, ne69, hw, ih m l l' (i + 1) hl (by omega) (by omega) hm]
    by_cases he : l[i] = l'[i]
    · rw [decide_eq_true he]
      simp [drop_eq_iff l l' i h1 h2, he]
    · rw [decide_eq_false he]
      simp [drop_eq_iff l l' i h1 h2, he]
theorem api_Write.is (k : Nat) (l l' : List S69) (hk : l.length < k) (hm : l.length ≤ 9223372036854775806) : api_Write.f k l l' = some (decide (l = l')) := by
  unfold api_Write.f
  by_cases h : l.length = l'.length
  · rw [if_pos (by omega)]
    have := api_Write.l0_is l.length k l l' 0 h (by omega) hk hm
    simpa using this
  · rw [if_neg (by omega)]
    congr 1
    exact (decide_eq_false (fun e => h (by rw [e]))).symm
theorem api_Lock.l0_is : ∀ (d k : Nat) (l l' : List S73) (i : Nat), l.length = l'.length → i + d = l.length → d < k → l.length ≤ 9223372036854775806 → api_Lock.l0 k l l' (l.length : Int) (i : Int) = some (decide (l.drop i = l'.drop i)) := by
  intro d
  induction d with
  | zero =>
    intro k l l' i hl hi hk hm
    obtain ⟨m, rfl⟩ : ∃ m, k = m + 1 := ⟨k - 1, by omega⟩
    simp only [api_Lock.l0]
    rw [if_neg (by omega), List.drop_eq_nil_of_le (by omega), List.drop_eq_nil_of_le (by omega)]
    simp
  | succ d ih =>
    intro k l l' i hl hi hk hm
    obtain ⟨m, rfl⟩ : ∃ m, k = m + 1 := ⟨k - 1, by omega⟩
    simp only [api_Lock.l0]
    rw [if_pos (by omega), if_pos (by omega), if_pos (by omega), if_pos (by omega)]
    have hw : wrap64 ((i : Int) + 1) = ((i + 1 : Nat) : Int) := by unfold wrap64; omega
    have h1 : i < l.length := by omega
    have h2 : i < l'.length := by omega
    have e1 : rd_T73 l (i : Int) = l[i] := getD_at l z73 i h1
    have e2 : rd_T73 l' (i : Int) = l'[i] := getD_at l' z73 i h2
    rw [e1, e2, ne73, hw, ih m l l' (i + 1) hl (by omega) (by omega) hm]
    by_cases he : l[i] = l'[i]
    · rw [decide_eq_true he]
      simp [drop_eq_iff l l' i h1 h2, he]
    · rw [decide_eq_false he]
      simp [drop_eq_iff l l' i h1 h2, he]
theorem api_Lock.is (k : Nat) (l l' : List S73) (hk : l.length < k) (hm : l.length ≤ 9223372036854775806) : api_Lock.f k l l' = some (decide (l = l')) := by
  unfold api_Lock.f
  by_cases h : l.length = l'.length
  · rw [if_pos (by omega)]
    have := api_Lock.l0_is l.length k l l' 0 h (by omega) hk hm
    simpa using this
  · rw [if_neg (by omega)]
    congr 1
    exact (decide_eq_false (fun e => h (by rw [e]))).symm
theorem api_Version.l0_is : ∀ (d k : Nat) (l l' : List S76) (i : Nat), l.length = l'.length → i + d = l.length → d < k → l.length ≤ 9223372036854775806 → api_Version.l0 k l l' (l.length : Int) (i : Int) = some (decide (l.drop i = l'.drop i)) := by
  intro d
  induction d with
  | zero =>
    intro k l l' i hl hi hk hm
    obtain ⟨m, rfl⟩ : ∃ m, k = m + 1 := ⟨k - 1, by omega⟩
    simp only [api_Version.l0]
    rw [if_neg (by omega), List.drop_eq_nil_of_le (by omega), List.drop_eq_nil_of_le (by omega)]
    simp
  | succ d ih =>
    intro k l l' i hl hi hk hm
    obtain ⟨m, rfl⟩ : ∃ m, k = m + 1 := ⟨k - 1, by omega⟩
    simp only [api_Version.l0]
    rw [if_pos (by omega), if_pos (by omega), if_pos (by omega), if_pos (by omega)]
    have hw : wrap64 ((i : Int) + 1) = ((i + 1 : Nat) : Int) := by unfold wrap64; omega
    have h1 : i < l.length := by omega
    have h2 : i < l'.length := by omega
    have e1 : rd_T76 l (i : Int) = l[i] := getD_at l z76 i h1
    have e2 : rd_T76 l' (i : Int) = l'[i] := getD_at l' z76 i h2
    rw [e1, e2, ne76, hw, ih m l l' (i + 1) hl (by omega) (by omega) hm]
    by_cases he : l[i] = l'[i]
    · rw [decide_eq_true he]
      simp [drop_eq_iff l l' i h1 h2, he]
    · rw [decide_eq_false he]
      simp [drop_eq_iff l l' i h1 h2, he]
theorem api_Version.is (k : Nat) (l l' : List S76) (hk : l.length < k) (hm : l.length ≤ 9223372036854775806) : api_Version.f k l l' = some (decide (l = l')) := by
  unfold api_Version.f
  by_cases h : l.length = l'.length
  · rw [if_pos (by omega)]
    have := api_Version.l0_is l.length k l l' 0 h (by omega) hk hm
    simpa using this
  · rw [if_neg (by omega)]
    congr 1
    exact (decide_eq_false (fun e => h (by rw [e]))).symm
theorem api_Intent.l0_is : ∀ (d k : Nat) (l l' : List S79) (i : Nat), l.length = l'.length → i + d = l.length → d < k → l.length ≤ 9223372036854775806 → api_Intent.l0 k l l' (l.length : Int) (i : Int) = some (decide (l.drop i = l'.drop i)) := by
  intro d
  induction d with
  | zero =>
    intro k l l' i hl hi hk hm
    obtain ⟨m, rfl⟩ : ∃ m, k = m + 1 := ⟨k - 1, by omega⟩
    simp only [api_Intent.l0]
    rw [if_neg (by omega), List.drop_eq_nil_of_le (by omega), List.drop_eq_nil_of_le (by omega)]
    simp
  | succ d ih =>
    intro k l l' i hl hi hk hm
    obtain ⟨m, rfl⟩ : ∃ m, k = m + 1 := ⟨k - 1, by omega⟩
    simp only [api_Intent.l0]
    rw [if_pos (by omega), if_pos (by omega), if_pos (by omega), if_pos (by omega)]
    have hw : wrap64 ((i : Int) + 1) = ((i + 1 : Nat) : Int) := by unfold wrap64; omega
    have h1 : i < l.length := by omega
    have h2 : i < l'.length := by omega
    have e1 : rd_T79 l (i : Int) = l[i] := getD_at l z79 i h1
    have e2 : rd_T79 l' (i : Int) = l'[i] := getD_at l' z79 i h2
    rw [e1, e2, ne79, hw, ih m l l' (i + 1) hl (by omega) (by omega) hm]
    by_cases he : l[i] = l'[i]
    · rw [decide_eq_true he]
      simp [drop_eq_iff l l' i h1 h2, he]
    · rw [decide_eq_false he]
      simp [drop_eq_iff l l' i h1 h2, he]
theorem api_Intent.is (k : Nat) (l l' : List S79) (hk : l.length < k) (hm : l.length ≤ 9223372036854775806) : api_Intent.f k l l' = some (decide (l = l')) := by
  unfold api_Intent.f
  by_cases h : l.length = l'.length
  · rw [if_pos (by omega)]
    have := api_Intent.l0_is l.length k l l' 0 h (by omega) hk hm
    simpa using this
  · rw [if_neg (by omega)]
    congr 1
    exact (decide_eq_false (fun e => h (by rw [e]))).symm
theorem api_Tx.l0_is : ∀ (d k : Nat) (l l' : List S82) (i : Nat), l.length = l'.length → i + d = l.length → d < k → l.length ≤ 9223372036854775806 → api_Tx.l0 k l l' (l.length : Int) (i : Int) = some (decide (l.drop i = l'.drop i)) := by
  intro d
  induction d with
  | zero =>
    intro k l l' i hl hi hk hm
    obtain ⟨m, rfl⟩ : ∃ m, k = m + 1 := ⟨k - 1, by omega⟩
    simp only [api_Tx.l0]
    rw [if_neg (by omega), List.drop_eq_nil_of_le (by omega), List.drop_eq_nil_of_le (by omega)]
    simp
  | succ d ih =>
    intro k l l' i hl hi hk hm
    obtain ⟨m, rfl⟩ : ∃ m, k = m + 1 := ⟨k - 1, by omega⟩
    simp only [api_Tx.l0]
    rw [if_pos (by omega), if_pos (by omega), if_pos (by omega), if_pos (by omega)]
    have hw : wrap64 ((i : Int) + 1) = ((i + 1 : Nat) : Int) := by unfold wrap64; omega
    have h1 : i < l.length := by omega
    have h2 : i < l'.length := by omega
    have e1 : rd_T82 l (i : Int) = l[i] := getD_at l z82 i h1
    have e2 : rd_T82 l' (i : Int) = l'[i] := getD_at l' z82 i h2
    rw [e1, e2, ne82, hw, ih m l l' (i + 1) hl (by omega) (by omega) hm]
    by_cases he : l[i] = l'[i]
    · rw [decide_eq_true he]
      simp [drop_eq_iff l l' i h1 h2, he]
    · rw [decide_eq_false he]
      simp [drop_eq_iff l l' i h1 h2, he]
theorem api_Tx.is (k : Nat) (l l' : List S82) (hk : l.length < k) (hm : l.length ≤ 9223372036854775806) : api_Tx.f k l l' = some (decide (l = l')) := by
  unfold api_Tx.f
  by_cases h : l.length = l'.length
  · rw [if_pos (by omega)]
    have := api_Tx.l0_is l.length k l l' 0 h (by omega) hk hm
    simpa using this
  · rw [if_neg (by omega)]
    congr 1
    exact (decide_eq_false (fun e => h (by rw [e]))).symm
theorem bursarref08_SameInts.l0_is : ∀ (d k : Nat) (l l' : List Int) (i : Nat), l.length = l'.length → i + d = l.length → d < k → l.length ≤ 9223372036854775806 → bursarref08_SameInts.l0 k l l' (i : Int) = some (decide (l.drop i = l'.drop i)) := by
  intro d
  induction d with
  | zero =>
    intro k l l' i hl hi hk hm
    obtain ⟨m, rfl⟩ : ∃ m, k = m + 1 := ⟨k - 1, by omega⟩
    simp only [bursarref08_SameInts.l0]
    rw [if_neg (by omega), List.drop_eq_nil_of_le (by omega), List.drop_eq_nil_of_le (by omega)]
    simp
  | succ d ih =>
    intro k l l' i hl hi hk hm
    obtain ⟨m, rfl⟩ : ∃ m, k = m + 1 := ⟨k - 1, by omega⟩
    simp only [bursarref08_SameInts.l0]
    rw [if_pos (by omega), if_pos (by omega), if_pos (by omega)]
    have hw : wrap64 ((i : Int) + 1) = ((i + 1 : Nat) : Int) := by unfold wrap64; omega
    have h1 : i < l.length := by omega
    have h2 : i < l'.length := by omega
    have e1 : rd l (i : Int) = l[i] := getD_at l 0 i h1
    have e2 : rd l' (i : Int) = l'[i] := getD_at l' 0 i h2
    rw [e1, e2, hw, ih m l l' (i + 1) hl (by omega) (by omega) hm]
    by_cases he : l[i] = l'[i]
    · simp [drop_eq_iff l l' i h1 h2, he]
    · simp [drop_eq_iff l l' i h1 h2, he]
theorem bursarref08_SameInts.is (k : Nat) (l l' : List Int) (hk : l.length < k) (hm : l.length ≤ 9223372036854775806) : bursarref08_SameInts.f k l l' = some (decide (l = l')) := by
  unfold bursarref08_SameInts.f
  by_cases h : l.length = l'.length
  · rw [if_pos (by omega)]
    have := bursarref08_SameInts.l0_is l.length k l l' 0 h (by omega) hk hm
    simpa using this
  · rw [if_neg (by omega)]
    congr 1
    exact (decide_eq_false (fun e => h (by rw [e]))).symm
theorem bursarref08_SameWrites.l0_is : ∀ (d k : Nat) (l l' : List S69) (i : Nat), l.length = l'.length → i + d = l.length → d < k → l.length ≤ 9223372036854775806 → bursarref08_SameWrites.l0 k l l' (i : Int) = some (decide (l.drop i = l'.drop i)) := by
  intro d
  induction d with
  | zero =>
    intro k l l' i hl hi hk hm
    obtain ⟨m, rfl⟩ : ∃ m, k = m + 1 := ⟨k - 1, by omega⟩
    simp only [bursarref08_SameWrites.l0]
    rw [if_neg (by omega), List.drop_eq_nil_of_le (by omega), List.drop_eq_nil_of_le (by omega)]
    simp
  | succ d ih =>
    intro k l l' i hl hi hk hm
    obtain ⟨m, rfl⟩ : ∃ m, k = m + 1 := ⟨k - 1, by omega⟩
    simp only [bursarref08_SameWrites.l0]
    rw [if_pos (by omega), if_pos (by omega), if_pos (by omega)]
    have hw : wrap64 ((i : Int) + 1) = ((i + 1 : Nat) : Int) := by unfold wrap64; omega
    have h1 : i < l.length := by omega
    have h2 : i < l'.length := by omega
    have e1 : rd_T69 l (i : Int) = l[i] := getD_at l z69 i h1
    have e2 : rd_T69 l' (i : Int) = l'[i] := getD_at l' z69 i h2
    rw [e1, e2, ne69, hw, ih m l l' (i + 1) hl (by omega) (by omega) hm]
    by_cases he : l[i] = l'[i]
    · rw [decide_eq_true he]
      simp [drop_eq_iff l l' i h1 h2, he]
    · rw [decide_eq_false he]
      simp [drop_eq_iff l l' i h1 h2, he]
theorem bursarref08_SameWrites.is (k : Nat) (l l' : List S69) (hk : l.length < k) (hm : l.length ≤ 9223372036854775806) : bursarref08_SameWrites.f k l l' = some (decide (l = l')) := by
  unfold bursarref08_SameWrites.f
  by_cases h : l.length = l'.length
  · rw [if_pos (by omega)]
    have := bursarref08_SameWrites.l0_is l.length k l l' 0 h (by omega) hk hm
    simpa using this
  · rw [if_neg (by omega)]
    congr 1
    exact (decide_eq_false (fun e => h (by rw [e]))).symm
theorem bursarref19_sameLocks.l0_is : ∀ (d k : Nat) (l l' : List S73) (i : Nat), l.length = l'.length → i + d = l.length → d < k → l.length ≤ 9223372036854775806 → bursarref19_sameLocks.l0 k l l' (i : Int) = some (decide (l.drop i = l'.drop i)) := by
  intro d
  induction d with
  | zero =>
    intro k l l' i hl hi hk hm
    obtain ⟨m, rfl⟩ : ∃ m, k = m + 1 := ⟨k - 1, by omega⟩
    simp only [bursarref19_sameLocks.l0]
    rw [if_neg (by omega), List.drop_eq_nil_of_le (by omega), List.drop_eq_nil_of_le (by omega)]
    simp
  | succ d ih =>
    intro k l l' i hl hi hk hm
    obtain ⟨m, rfl⟩ : ∃ m, k = m + 1 := ⟨k - 1, by omega⟩
    simp only [bursarref19_sameLocks.l0]
    rw [if_pos (by omega), if_pos (by omega), if_pos (by omega)]
    have hw : wrap64 ((i : Int) + 1) = ((i + 1 : Nat) : Int) := by unfold wrap64; omega
    have h1 : i < l.length := by omega
    have h2 : i < l'.length := by omega
    have e1 : rd_T73 l (i : Int) = l[i] := getD_at l z73 i h1
    have e2 : rd_T73 l' (i : Int) = l'[i] := getD_at l' z73 i h2
    rw [e1, e2, ne73, hw, ih m l l' (i + 1) hl (by omega) (by omega) hm]
    by_cases he : l[i] = l'[i]
    · rw [decide_eq_true he]
      simp [drop_eq_iff l l' i h1 h2, he]
    · rw [decide_eq_false he]
      simp [drop_eq_iff l l' i h1 h2, he]
theorem bursarref19_sameLocks.is (k : Nat) (l l' : List S73) (hk : l.length < k) (hm : l.length ≤ 9223372036854775806) : bursarref19_sameLocks.f k l l' = some (decide (l = l')) := by
  unfold bursarref19_sameLocks.f
  by_cases h : l.length = l'.length
  · rw [if_pos (by omega)]
    have := bursarref19_sameLocks.l0_is l.length k l l' 0 h (by omega) hk hm
    simpa using this
  · rw [if_neg (by omega)]
    congr 1
    exact (decide_eq_false (fun e => h (by rw [e]))).symm
theorem bursarref16_SameVersions.l0_is : ∀ (d k : Nat) (l l' : List S76) (i : Nat), l.length = l'.length → i + d = l.length → d < k → l.length ≤ 9223372036854775806 → bursarref16_SameVersions.l0 k l l' (i : Int) = some (decide (l.drop i = l'.drop i)) := by
  intro d
  induction d with
  | zero =>
    intro k l l' i hl hi hk hm
    obtain ⟨m, rfl⟩ : ∃ m, k = m + 1 := ⟨k - 1, by omega⟩
    simp only [bursarref16_SameVersions.l0]
    rw [if_neg (by omega), List.drop_eq_nil_of_le (by omega), List.drop_eq_nil_of_le (by omega)]
    simp
  | succ d ih =>
    intro k l l' i hl hi hk hm
    obtain ⟨m, rfl⟩ : ∃ m, k = m + 1 := ⟨k - 1, by omega⟩
    simp only [bursarref16_SameVersions.l0]
    rw [if_pos (by omega), if_pos (by omega), if_pos (by omega)]
    have hw : wrap64 ((i : Int) + 1) = ((i + 1 : Nat) : Int) := by unfold wrap64; omega
    have h1 : i < l.length := by omega
    have h2 : i < l'.length := by omega
    have e1 : rd_T76 l (i : Int) = l[i] := getD_at l z76 i h1
    have e2 : rd_T76 l' (i : Int) = l'[i] := getD_at l' z76 i h2
    rw [e1, e2, ne76, hw, ih m l l' (i + 1) hl (by omega) (by omega) hm]
    by_cases he : l[i] = l'[i]
    · rw [decide_eq_true he]
      simp [drop_eq_iff l l' i h1 h2, he]
    · rw [decide_eq_false he]
      simp [drop_eq_iff l l' i h1 h2, he]
theorem bursarref16_SameVersions.is (k : Nat) (l l' : List S76) (hk : l.length < k) (hm : l.length ≤ 9223372036854775806) : bursarref16_SameVersions.f k l l' = some (decide (l = l')) := by
  unfold bursarref16_SameVersions.f
  by_cases h : l.length = l'.length
  · rw [if_pos (by omega)]
    have := bursarref16_SameVersions.l0_is l.length k l l' 0 h (by omega) hk hm
    simpa using this
  · rw [if_neg (by omega)]
    congr 1
    exact (decide_eq_false (fun e => h (by rw [e]))).symm
theorem bursarref16_SameIntents.l0_is : ∀ (d k : Nat) (l l' : List S79) (i : Nat), l.length = l'.length → i + d = l.length → d < k → l.length ≤ 9223372036854775806 → bursarref16_SameIntents.l0 k l l' (i : Int) = some (decide (l.drop i = l'.drop i)) := by
  intro d
  induction d with
  | zero =>
    intro k l l' i hl hi hk hm
    obtain ⟨m, rfl⟩ : ∃ m, k = m + 1 := ⟨k - 1, by omega⟩
    simp only [bursarref16_SameIntents.l0]
    rw [if_neg (by omega), List.drop_eq_nil_of_le (by omega), List.drop_eq_nil_of_le (by omega)]
    simp
  | succ d ih =>
    intro k l l' i hl hi hk hm
    obtain ⟨m, rfl⟩ : ∃ m, k = m + 1 := ⟨k - 1, by omega⟩
    simp only [bursarref16_SameIntents.l0]
    rw [if_pos (by omega), if_pos (by omega), if_pos (by omega)]
    have hw : wrap64 ((i : Int) + 1) = ((i + 1 : Nat) : Int) := by unfold wrap64; omega
    have h1 : i < l.length := by omega
    have h2 : i < l'.length := by omega
    have e1 : rd_T79 l (i : Int) = l[i] := getD_at l z79 i h1
    have e2 : rd_T79 l' (i : Int) = l'[i] := getD_at l' z79 i h2
    rw [e1, e2, ne79, hw, ih m l l' (i + 1) hl (by omega) (by omega) hm]
    by_cases he : l[i] = l'[i]
    · rw [decide_eq_true he]
      simp [drop_eq_iff l l' i h1 h2, he]
    · rw [decide_eq_false he]
      simp [drop_eq_iff l l' i h1 h2, he]
theorem bursarref16_SameIntents.is (k : Nat) (l l' : List S79) (hk : l.length < k) (hm : l.length ≤ 9223372036854775806) : bursarref16_SameIntents.f k l l' = some (decide (l = l')) := by
  unfold bursarref16_SameIntents.f
  by_cases h : l.length = l'.length
  · rw [if_pos (by omega)]
    have := bursarref16_SameIntents.l0_is l.length k l l' 0 h (by omega) hk hm
    simpa using this
  · rw [if_neg (by omega)]
    congr 1
    exact (decide_eq_false (fun e => h (by rw [e]))).symm
theorem bursarref19_sameTxs.l0_is : ∀ (d k : Nat) (l l' : List S82) (i : Nat), l.length = l'.length → i + d = l.length → d < k → l.length ≤ 9223372036854775806 → bursarref19_sameTxs.l0 k l l' (i : Int) = some (decide (l.drop i = l'.drop i)) := by
  intro d
  induction d with
  | zero =>
    intro k l l' i hl hi hk hm
    obtain ⟨m, rfl⟩ : ∃ m, k = m + 1 := ⟨k - 1, by omega⟩
    simp only [bursarref19_sameTxs.l0]
    rw [if_neg (by omega), List.drop_eq_nil_of_le (by omega), List.drop_eq_nil_of_le (by omega)]
    simp
  | succ d ih =>
    intro k l l' i hl hi hk hm
    obtain ⟨m, rfl⟩ : ∃ m, k = m + 1 := ⟨k - 1, by omega⟩
    simp only [bursarref19_sameTxs.l0]
    rw [if_pos (by omega), if_pos (by omega), if_pos (by omega)]
    have hw : wrap64 ((i : Int) + 1) = ((i + 1 : Nat) : Int) := by unfold wrap64; omega
    have h1 : i < l.length := by omega
    have h2 : i < l'.length := by omega
    have e1 : rd_T82 l (i : Int) = l[i] := getD_at l z82 i h1
    have e2 : rd_T82 l' (i : Int) = l'[i] := getD_at l' z82 i h2
    rw [e1, e2, ne82, hw, ih m l l' (i + 1) hl (by omega) (by omega) hm]
    by_cases he : l[i] = l'[i]
    · rw [decide_eq_true he]
      simp [drop_eq_iff l l' i h1 h2, he]
    · rw [decide_eq_false he]
      simp [drop_eq_iff l l' i h1 h2, he]
theorem bursarref19_sameTxs.is (k : Nat) (l l' : List S82) (hk : l.length < k) (hm : l.length ≤ 9223372036854775806) : bursarref19_sameTxs.f k l l' = some (decide (l = l')) := by
  unfold bursarref19_sameTxs.f
  by_cases h : l.length = l'.length
  · rw [if_pos (by omega)]
    have := bursarref19_sameTxs.l0_is l.length k l l' 0 h (by omega) hk hm
    simpa using this
  · rw [if_neg (by omega)]
    congr 1
    exact (decide_eq_false (fun e => h (by rw [e]))).symm
end Go.Proofs.Ytenfdankgjdfpaa.PSnapSame
