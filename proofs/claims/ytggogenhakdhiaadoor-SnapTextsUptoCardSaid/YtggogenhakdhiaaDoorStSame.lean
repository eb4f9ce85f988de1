/- The plain laws of the copies and of the document's Same, at this seat (turned by st_turn.py). -/
import Derived.Test.YtggogenhakdhiaaDoorStX13
import Derived.Test.YtggogenhakdhiaaDoorStCopy
import Derived.Laws.Strings
set_option linter.unusedVariables false
set_option linter.unusedSimpArgs false
namespace Go.Proofs.YtggogenhakdhiaaDoor.PSnapTexts
open Go.RowKit Go.Proofs.YtggogenhakdhiaaDoorW.PrintWords Go.Proofs.YtggogenhakdhiaaDoorW.PrintLast Go.Proofs.YtggogenhakdhiaaDoorW.PrintMore
open Classical
theorem bytes_beq (x y : ByteArray) : (x.toList == y.toList) = decide (x = y) := by
  by_cases h : x = y
  · subst h; simp
  · rw [decide_eq_false h, beq_eq_false_iff_ne]
    intro e
    rw [ByteArray.toList_eq, ByteArray.toList_eq] at e
    exact h (ByteArray.ext (Array.toList_inj.1 e))
theorem ext115 (x y : S115) : x = y ↔ x.f0 = y.f0 ∧ x.f1 = y.f1 := by cases x; cases y; simp
theorem ne168 (x y : S168) : (!((x.f0.toList) == (y.f0.toList)) || (!((x.f1.toList) == (y.f1.toList)) || (!(x.f2 == y.f2)))) = !decide (x = y) := by
  rw [bytes_beq, bytes_beq]
  cases x; cases y
  simp only [S168.mk.injEq, Bool.decide_and, Bool.not_and]
  rfl
theorem ne135 (x y : S135) : (!((x.f0.toList) == (y.f0.toList)) || ((!(x.f1.f0 == y.f1.f0) || !(x.f1.f1 == y.f1.f1)) || !(x.f2 == y.f2))) = !decide (x = y) := by
  rw [bytes_beq]
  cases x; cases y
  simp only [S135.mk.injEq, ext115, Bool.decide_and, Bool.not_and]
  rfl
theorem ne138 (x y : S138) : (!((x.f0.toList) == (y.f0.toList)) || (!((x.f1.toList) == (y.f1.toList)) || (!(x.f2 == y.f2) || (!(x.f3 == y.f3) || (!(x.f4.f0 == y.f4.f0) || !(x.f4.f1 == y.f4.f1)))))) = !decide (x = y) := by
  rw [bytes_beq, bytes_beq]
  cases x; cases y
  simp only [S138.mk.injEq, ext115, Bool.decide_and, Bool.not_and]
  rfl
theorem ne140 (x y : S140) : (!((x.f0.toList) == (y.f0.toList)) || (!((x.f1.toList) == (y.f1.toList)) || (!(x.f2 == y.f2) || (!(x.f3.f0 == y.f3.f0) || !(x.f3.f1 == y.f3.f1))))) = !decide (x = y) := by
  rw [bytes_beq, bytes_beq]
  cases x; cases y
  simp only [S140.mk.injEq, ext115, Bool.decide_and, Bool.not_and]
  rfl
theorem ne142 (x y : S142) : ((!(x.f0.f0 == y.f0.f0) || !(x.f0.f1 == y.f0.f1)) || (!(x.f1 == y.f1) || (!(x.f2 == y.f2) || (!(x.f3 == y.f3) || !(x.f4 == y.f4))))) = !decide (x = y) := by
  cases x; cases y
  simp only [S142.mk.injEq, ext115, Bool.decide_and, Bool.not_and]
  rfl
theorem getD_at {α : Type} (l : List α) (z : α) (i : Nat) (h : i < l.length) : l.getD ((i : Int)).toNat z = l[i] := by
  rw [Int.toNat_natCast, List.getD_eq_getElem?_getD, List.getElem?_eq_getElem h]; rfl
theorem drop_eq_iff {α : Type} (l l' : List α) (i : Nat) (h : i < l.length) (h' : i < l'.length) : (l.drop i = l'.drop i) ↔ (l[i] = l'[i] ∧ l.drop (i + 1) = l'.drop (i + 1)) := by
  rw [List.drop_eq_getElem_cons h, List.drop_eq_getElem_cons h', List.cons.injEq]
theorem bursarref08_SameInts.l0_is : ∀ (d k : Nat) (l l' : List Int) (i : Nat), l.length = l'.length → i + d = l.length → d < k → l.length ≤ 9223372036854775806 → bursarref08_SameInts.l0 k l l' (i : Int) = some (decide (l.drop i = l'.drop i)) := by
  intro d
  induction d with
  | zero =>
    intro k l l' i hl hi hk hm
    obtain ⟨m, rfl⟩ : ∃ m, k = m + 1 := ⟨k - 1, by omega⟩
    simp only [bursarref08_SameInts.l0]
    rw [if_neg (by omega), List.drop_eq_nil_of_le (by omega), List.drop_eq_nil_of_le (by omega)]
    simp
  | succ d ih =>
    intro k l l' i hl hi hk hm
    obtain ⟨m, rfl⟩ : ∃ m, k = m + 1 := ⟨k - 1, by omega⟩
    simp only [bursarref08_SameInts.l0]
    rw [if_pos (by omega), if_pos (by omega), if_pos (by omega)]
    have hw : wrap64 ((i : Int) + 1) = ((i + 1 : Nat) : Int) := by unfold wrap64; omega
    have h1 : i < l.length := by omega
    have h2 : i < l'.length := by omega
    have e1 : rd l (i : Int) = l[i] := getD_at l 0 i h1
    have e2 : rd l' (i : Int) = l'[i] := getD_at l' 0 i h2
    rw [e1, e2, hw, ih m l l' (i + 1) hl (by omega) (by omega) hm]
    by_cases he : l[i] = l'[i]
    · simp [drop_eq_iff l l' i h1 h2, he]
    · simp [drop_eq_iff l l' i h1 h2, he]
theorem bursarref08_SameInts.is (k : Nat) (l l' : List Int) (hk : l.length < k) (hm : l.length ≤ 9223372036854775806) : bursarref08_SameInts.f k l l' = some (decide (l = l')) := by
  unfold bursarref08_SameInts.f
  by_cases h : l.length = l'.length
  · rw [if_pos (by omega)]
    have := bursarref08_SameInts.l0_is l.length k l l' 0 h (by omega) hk hm
    simpa using this
  · rw [if_neg (by omega)]
    congr 1
    exact (decide_eq_false (fun e => h (by rw [e]))).symm
theorem bursarref08_SameWrites.l0_is : ∀ (d k : Nat) (l l' : List S168) (i : Nat), l.length = l'.length → i + d = l.length → d < k → l.length ≤ 9223372036854775806 → bursarref08_SameWrites.l0 k l l' (i : Int) = some (decide (l.drop i = l'.drop i)) := by
  intro d
  induction d with
  | zero =>
    intro k l l' i hl hi hk hm
    obtain ⟨m, rfl⟩ : ∃ m, k = m + 1 := ⟨k - 1, by omega⟩
    simp only [bursarref08_SameWrites.l0]
    rw [if_neg (by omega), List.drop_eq_nil_of_le (by omega), List.drop_eq_nil_of_le (by omega)]
    simp
  | succ d ih =>
    intro k l l' i hl hi hk hm
    obtain ⟨m, rfl⟩ : ∃ m, k = m + 1 := ⟨k - 1, by omega⟩
    simp only [bursarref08_SameWrites.l0]
    rw [if_pos (by omega), if_pos (by omega), if_pos (by omega)]
    have hw : wrap64 ((i : Int) + 1) = ((i + 1 : Nat) : Int) := by unfold wrap64; omega
    have h1 : i < l.length := by omega
    have h2 : i < l'.length := by omega
    have e1 : rd_T168 l (i : Int) = l[i] := getD_at l z168 i h1
    have e2 : rd_T168 l' (i : Int) = l'[i] := getD_at l' z168 i h2
    rw [e1, e2, ne168, hw, ih m l l' (i + 1) hl (by omega) (by omega) hm]
    by_cases he : l[i] = l'[i]
    · rw [decide_eq_true he]
      simp [drop_eq_iff l l' i h1 h2, he]
    · rw [decide_eq_false he]
      simp [drop_eq_iff l l' i h1 h2, he]
theorem bursarref08_SameWrites.is (k : Nat) (l l' : List S168) (hk : l.length < k) (hm : l.length ≤ 9223372036854775806) : bursarref08_SameWrites.f k l l' = some (decide (l = l')) := by
  unfold bursarref08_SameWrites.f
  by_cases h : l.length = l'.length
  · rw [if_pos (by omega)]
    have := bursarref08_SameWrites.l0_is l.length k l l' 0 h (by omega) hk hm
    simpa using this
  · rw [if_neg (by omega)]
    congr 1
    exact (decide_eq_false (fun e => h (by rw [e]))).symm
theorem bursarref19_sameLocks.l0_is : ∀ (d k : Nat) (l l' : List S135) (i : Nat), l.length = l'.length → i + d = l.length → d < k → l.length ≤ 9223372036854775806 → bursarref19_sameLocks.l0 k l l' (i : Int) = some (decide (l.drop i = l'.drop i)) := by
  intro d
  induction d with
  | zero =>
    intro k l l' i hl hi hk hm
    obtain ⟨m, rfl⟩ : ∃ m, k = m + 1 := ⟨k - 1, by omega⟩
    simp only [bursarref19_sameLocks.l0]
    rw [if_neg (by omega), List.drop_eq_nil_of_le (by omega), List.drop_eq_nil_of_le (by omega)]
    simp
  | succ d ih =>
    intro k l l' i hl hi hk hm
    obtain ⟨m, rfl⟩ : ∃ m, k = m + 1 := ⟨k - 1, by omega⟩
    simp only [bursarref19_sameLocks.l0]
    rw [if_pos (by omega), if_pos (by omega), if_pos (by omega)]
    have hw : wrap64 ((i : Int) + 1) = ((i + 1 : Nat) : Int) := by unfold wrap64; omega
    have h1 : i < l.length := by omega
    have h2 : i < l'.length := by omega
    have e1 : rd_T135 l (i : Int) = l[i] := getD_at l z135 i h1
    have e2 : rd_T135 l' (i : Int) = l'[i] := getD_at l' z135 i h2
    rw [e1, e2, ne135, hw, ih m l l' (i + 1) hl (by omega) (by omega) hm]
    by_cases he : l[i] = l'[i]
    · rw [decide_eq_true he]
      simp [drop_eq_iff l l' i h1 h2, he]
    · rw [decide_eq_false he]
      simp [drop_eq_iff l l' i h1 h2, he]
theorem bursarref19_sameLocks.is (k : Nat) (l l' : List S135) (hk : l.length < k) (hm : l.length ≤ 9223372036854775806) : bursarref19_sameLocks.f k l l' = some (decide (l = l')) := by
  unfold bursarref19_sameLocks.f
  by_cases h : l.length = l'.length
  · rw [if_pos (by omega)]
    have := bursarref19_sameLocks.l0_is l.length k l l' 0 h (by omega) hk hm
    simpa using this
  · rw [if_neg (by omega)]
    congr 1
    exact (decide_eq_false (fun e => h (by rw [e]))).symm
theorem bursarref16_SameVersions.l0_is : ∀ (d k : Nat) (l l' : List S138) (i : Nat), l.length = l'.length → i + d = l.length → d < k → l.length ≤ 9223372036854775806 → bursarref16_SameVersions.l0 k l l' (i : Int) = some (decide (l.drop i = l'.drop i)) := by
  intro d
  induction d with
  | zero =>
    intro k l l' i hl hi hk hm
    obtain ⟨m, rfl⟩ : ∃ m, k = m + 1 := ⟨k - 1, by omega⟩
    simp only [bursarref16_SameVersions.l0]
    rw [if_neg (by omega), List.drop_eq_nil_of_le (by omega), List.drop_eq_nil_of_le (by omega)]
    simp
  | succ d ih =>
    intro k l l' i hl hi hk hm
    obtain ⟨m, rfl⟩ : ∃ m, k = m + 1 := ⟨k - 1, by omega⟩
    simp only [bursarref16_SameVersions.l0]
    rw [if_pos (by omega), if_pos (by omega), if_pos (by omega)]
    have hw : wrap64 ((i : Int) + 1) = ((i + 1 : Nat) : Int) := by unfold wrap64; omega
    have h1 : i < l.length := by omega
    have h2 : i < l'.length := by omega
    have e1 : rd_T138 l (i : Int) = l[i] := getD_at l z138 i h1
    have e2 : rd_T138 l' (i : Int) = l'[i] := getD_at l' z138 i h2
    rw [e1, e2, ne138, hw, ih m l l' (i + 1) hl (by omega) (by omega) hm]
    by_cases he : l[i] = l'[i]
    · rw [decide_eq_true he]
      simp [drop_eq_iff l l' i h1 h2, he]
    · rw [decide_eq_false he]
      simp [drop_eq_iff l l' i h1 h2, he]
theorem bursarref16_SameVersions.is (k : Nat) (l l' : List S138) (hk : l.length < k) (hm : l.length ≤ 9223372036854775806) : bursarref16_SameVersions.f k l l' = some (decide (l = l')) := by
  unfold bursarref16_SameVersions.f
  by_cases h : l.length = l'.length
  · rw [if_pos (by omega)]
    have := bursarref16_SameVersions.l0_is l.length k l l' 0 h (by omega) hk hm
    simpa using this
  · rw [if_neg (by omega)]
    congr 1
    exact (decide_eq_false (fun e => h (by rw [e]))).symm
theorem bursarref16_SameIntents.l0_is : ∀ (d k : Nat) (l l' : List S140) (i : Nat), l.length = l'.length → i + d = l.length → d < k → l.length ≤ 9223372036854775806 → bursarref16_SameIntents.l0 k l l' (i : Int) = some (decide (l.drop i = l'.drop i)) := by
  intro d
  induction d with
  | zero =>
    intro k l l' i hl hi hk hm
    obtain ⟨m, rfl⟩ : ∃ m, k = m + 1 := ⟨k - 1, by omega⟩
    simp only [bursarref16_SameIntents.l0]
    rw [if_neg (by omega), List.drop_eq_nil_of_le (by omega), List.drop_eq_nil_of_le (by omega)]
    simp
  | succ d ih =>
    intro k l l' i hl hi hk hm
    obtain ⟨m, rfl⟩ : ∃ m, k = m + 1 := ⟨k - 1, by omega⟩
    simp only [bursarref16_SameIntents.l0]
    rw [if_pos (by omega), if_pos (by omega), if_pos (by omega)]
    have hw : wrap64 ((i : Int) + 1) = ((i + 1 : Nat) : Int) := by unfold wrap64; omega
    have h1 : i < l.length := by omega
    have h2 : i < l'.length := by omega
    have e1 : rd_T140 l (i : Int) = l[i] := getD_at l z140 i h1
    have e2 : rd_T140 l' (i : Int) = l'[i] := getD_at l' z140 i h2
    rw [e1, e2, ne140, hw, ih m l l' (i + 1) hl (by omega) (by omega) hm]
    by_cases he : l[i] = l'[i]
    · rw [decide_eq_true he]
      simp [drop_eq_iff l l' i h1 h2, he]
    · rw [decide_eq_false he]
      simp [drop_eq_iff l l' i h1 h2, he]
theorem bursarref16_SameIntents.is (k : Nat) (l l' : List S140) (hk : l.length < k) (hm : l.length ≤ 9223372036854775806) : bursarref16_SameIntents.f k l l' = some (decide (l = l')) := by
  unfold bursarref16_SameIntents.f
  by_cases h : l.length = l'.length
  · rw [if_pos (by omega)]
    have := bursarref16_SameIntents.l0_is l.length k l l' 0 h (by omega) hk hm
    simpa using this
  · rw [if_neg (by omega)]
    congr 1
    exact (decide_eq_false (fun e => h (by rw [e]))).symm
theorem bursarref19_sameTxs.l0_is : ∀ (d k : Nat) (l l' : List S142) (i : Nat), l.length = l'.length → i + d = l.length → d < k → l.length ≤ 9223372036854775806 → bursarref19_sameTxs.l0 k l l' (i : Int) = some (decide (l.drop i = l'.drop i)) := by
  intro d
  induction d with
  | zero =>
    intro k l l' i hl hi hk hm
    obtain ⟨m, rfl⟩ : ∃ m, k = m + 1 := ⟨k - 1, by omega⟩
    simp only [bursarref19_sameTxs.l0]
    rw [if_neg (by omega), List.drop_eq_nil_of_le (by omega), List.drop_eq_nil_of_le (by omega)]
    simp
  | succ d ih =>
    intro k l l' i hl hi hk hm
    obtain ⟨m, rfl⟩ : ∃ m, k = m + 1 := ⟨k - 1, by omega⟩
    simp only [bursarref19_sameTxs.l0]
    rw [if_pos (by omega), if_pos (by omega), if_pos (by omega)]
    have hw : wrap64 ((i : Int) + 1) = ((i + 1 : Nat) : Int) := by unfold wrap64; omega
    have h1 : i < l.length := by omega
    have h2 : i < l'.length := by omega
    have e1 : rd_T142 l (i : Int) = l[i] := getD_at l z142 i h1
    have e2 : rd_T142 l' (i : Int) = l'[i] := getD_at l' z142 i h2
    rw [e1, e2, ne142, hw, ih m l l' (i + 1) hl (by omega) (by omega) hm]
    by_cases he : l[i] = l'[i]
    · rw [decide_eq_true he]
      simp [drop_eq_iff l l' i h1 h2, he]
    · rw [decide_eq_false he]
      simp [drop_eq_iff l l' i h1 h2, he]
theorem bursarref19_sameTxs.is (k : Nat) (l l' : List S142) (hk : l.length < k) (hm : l.length ≤ 9223372036854775806) : bursarref19_sameTxs.f k l l' = some (decide (l = l')) := by
  unfold bursarref19_sameTxs.f
  by_cases h : l.length = l'.length
  · rw [if_pos (by omega)]
    have := bursarref19_sameTxs.l0_is l.length k l l' 0 h (by omega) hk hm
    simpa using this
  · rw [if_neg (by omega)]
    congr 1
    exact (decide_eq_false (fun e => h (by rw [e]))).symm
/-- what fits: each list short enough to be copied -/
structure RecFits (M : Nat) (x : S118) : Prop where
  a : x.f1.length ≤ M
  b : x.f2.length ≤ M
  c : x.f6.length ≤ M
  a1 : x.f1.length < 17592186044416
  b1 : x.f2.length < 3518437208883
  c1 : x.f6.length < 17592186044416
theorem CopyRec.is {M : Nat} (x : S118) (h : RecFits M x) : bursarref17_CopyRec.f x.f0.f0 x.f0.f1 x.f1 x.f2 x.f3 x.f4 x.f5 x.f6 = some (x.f0.f0, x.f0.f1, x.f1, x.f2, x.f3, x.f4, x.f5, x.f6) := by
  unfold bursarref17_CopyRec.f
  have := h.a1
  have := h.b1
  have := h.c1
  simp only [Option.bind_some, List.length_nil, Nat.zero_add, List.nil_append]
  rw [if_pos (by omega), if_pos (by omega), if_pos (by omega)]
theorem Copy.l0_is {M : Nat} (c : Int) (l1 l2 : List S135) (l3 : List S138) (l4 : List S140) (l5 : List S142) (l : List S118) (hf : ∀ x ∈ l, RecFits M x) (hl : l.length < 1256584717458) :
    ∀ (d k i : Nat), i + d = l.length → d < k → bursarlaw19_Copy.l0 k (l.take i) (i : Int) c l1 l2 l3 l4 l5 l = some (c, l1, l2, l3, l4, l5, l) := by
  intro d
  induction d with
  | zero =>
    intro k i hi hk
    obtain ⟨m, rfl⟩ : ∃ m, k = m + 1 := ⟨k - 1, by omega⟩
    simp only [bursarlaw19_Copy.l0]
    rw [if_neg (by omega), List.take_of_length_le (by omega)]
  | succ d ih =>
    intro k i hi hk
    obtain ⟨m, rfl⟩ : ∃ m, k = m + 1 := ⟨k - 1, by omega⟩
    have h1 : i < l.length := by omega
    have e1 : rd_T118 l (i : Int) = l[i] := getD_at l z118 i h1
    have hw : wrap64 ((i : Int) + 1) = ((i + 1 : Nat) : Int) := by unfold wrap64; omega
    simp only [bursarlaw19_Copy.l0]
    rw [if_pos (by omega), if_pos (by omega), e1, CopyRec.is l[i] (hf _ (List.getElem_mem h1))]
    simp only [Option.bind_some]
    rw [if_pos (by rw [List.length_take]; omega), hw]
    have := ih m (i + 1) (by omega) (by omega)
    rw [List.take_add_one, List.getElem?_eq_getElem h1] at this
    exact this
/-- a state's lists -/
structure FoldV where
  c : Int
  l1 : List S135
  l2 : List S135
  l3 : List S138
  l4 : List S140
  l5 : List S142
  l6 : List S118
structure FoldFits (M : Nat) (f : FoldV) : Prop where
  h1 : f.l1.length < 3518437208883
  h2 : f.l2.length < 3518437208883
  h3 : f.l3.length < 2199023255552
  h4 : f.l4.length < 2513169434916
  h5 : f.l5.length < 2932031007402
  h6 : f.l6.length < 1256584717458
  m1 : f.l1.length ≤ M
  m2 : f.l2.length ≤ M
  m3 : f.l3.length ≤ M
  m4 : f.l4.length ≤ M
  m5 : f.l5.length ≤ M
  m6 : f.l6.length ≤ M
  mM : M ≤ 9223372036854775000
  r : ∀ x ∈ f.l6, RecFits M x
theorem Copy.is {M : Nat} (f : FoldV) (h : FoldFits M f) (k : Nat) (hk : M < k) : bursarlaw19_Copy.f k f.c f.l1 f.l2 f.l3 f.l4 f.l5 f.l6 = some (f.c, f.l1, f.l2, f.l3, f.l4, f.l5, f.l6) := by
  unfold bursarlaw19_Copy.f
  have := h.h1
  have := h.h2
  have := h.h3
  have := h.h4
  have := h.h5
  have := h.m6
  simp only [Option.bind_some, List.length_nil, Nat.zero_add, List.nil_append]
  rw [if_pos (by omega), if_pos (by omega), if_pos (by omega), if_pos (by omega), if_pos (by omega)]
  exact Copy.l0_is f.c f.l1 f.l2 f.l3 f.l4 f.l5 f.l6 h.r h.h6 f.l6.length k 0 (by omega) (by omega)
theorem ext118 (x y : S118) : x = y ↔ ((x.f0.f0 = y.f0.f0 ∧ x.f0.f1 = y.f0.f1) ∧ x.f1 = y.f1 ∧ x.f2 = y.f2 ∧ x.f3 = y.f3 ∧ x.f4 = y.f4 ∧ x.f5 = y.f5 ∧ x.f6 = y.f6) := by
  cases x; cases y
  simp [ext115]
theorem SameRec.is {M : Nat} (k : Nat) (x y : S118) (hx : RecFits M x) (hk : M < k) (hM : M ≤ 9223372036854775000) :
    bursarref19_SameRec.f k x.f0.f0 x.f0.f1 x.f1 x.f2 x.f3 x.f4 x.f5 x.f6 y.f0.f0 y.f0.f1 y.f1 y.f2 y.f3 y.f4 y.f5 y.f6 = some (decide (x = y)) := by
  have := hx.a
  have := hx.b
  have := hx.c
  unfold bursarref19_SameRec.f
  rw [bursarref08_SameInts.is k x.f1 y.f1 (by omega) (by omega), bursarref08_SameWrites.is k x.f2 y.f2 (by omega) (by omega), bursarref08_SameInts.is k x.f6 y.f6 (by omega) (by omega)]
  simp only [Option.bind_some]
  by_cases e0 : (x.f0.f0 = y.f0.f0 ∧ x.f0.f1 = y.f0.f1)
  · rw [if_pos (by simp [e0.1, e0.2])]
    by_cases e1 : x.f1 = y.f1
    · rw [if_pos (by simp [e1])]
      by_cases e2 : x.f2 = y.f2
      · rw [if_pos (by simp [e2])]
        by_cases e3 : x.f3 = y.f3
        · rw [if_pos e3]
          by_cases e4 : x.f4 = y.f4
          · rw [if_pos e4]
            by_cases e5 : x.f5 = y.f5
            · rw [if_pos e5]
              congr 1
              by_cases e6 : x.f6 = y.f6
              · rw [decide_eq_true e6, decide_eq_true ((ext118 x y).2 ⟨e0, e1, e2, e3, e4, e5, e6⟩)]
              · rw [decide_eq_false e6, decide_eq_false (fun h => e6 ((ext118 x y).1 h).2.2.2.2.2.2)]
            · rw [if_neg e5, decide_eq_false (fun h => e5 ((ext118 x y).1 h).2.2.2.2.2.1)]
          · rw [if_neg e4, decide_eq_false (fun h => e4 ((ext118 x y).1 h).2.2.2.2.1)]
        · rw [if_neg e3, decide_eq_false (fun h => e3 ((ext118 x y).1 h).2.2.2.1)]
      · rw [if_neg (by simp [e2]), decide_eq_false (fun h => e2 ((ext118 x y).1 h).2.2.1)]
    · rw [if_neg (by simp [e1]), decide_eq_false (fun h => e1 ((ext118 x y).1 h).2.1)]
  · rw [if_neg (by simpa using e0), decide_eq_false (fun h => e0 ((ext118 x y).1 h).1)]
theorem Same.l0_is {M : Nat} (f g : FoldV) (hr : ∀ x ∈ f.l6, RecFits M x) (hM : M ≤ 9223372036854775000) (hl : f.l6.length = g.l6.length) (hL : f.l6.length ≤ 9223372036854775000) :
    ∀ (d k i : Nat), i + d = f.l6.length → d + M + 1 < k → bursarref19_Same.l0 k (i : Int) f.c f.l1 f.l2 f.l3 f.l4 f.l5 f.l6 g.c g.l1 g.l2 g.l3 g.l4 g.l5 g.l6 = some (decide (f.l6.drop i = g.l6.drop i)) := by
  intro d
  induction d with
  | zero =>
    intro k i hi hk
    obtain ⟨m, rfl⟩ : ∃ m, k = m + 1 := ⟨k - 1, by omega⟩
    simp only [bursarref19_Same.l0]
    rw [if_neg (by omega), List.drop_eq_nil_of_le (by omega), List.drop_eq_nil_of_le (by omega)]
    simp
  | succ d ih =>
    intro k i hi hk
    obtain ⟨m, rfl⟩ : ∃ m, k = m + 1 := ⟨k - 1, by omega⟩
    have h1 : i < f.l6.length := by omega
    have h2 : i < g.l6.length := by omega
    have e1 : rd_T118 f.l6 (i : Int) = f.l6[i] := getD_at f.l6 z118 i h1
    have e2 : rd_T118 g.l6 (i : Int) = g.l6[i] := getD_at g.l6 z118 i h2
    have hw : wrap64 ((i : Int) + 1) = ((i + 1 : Nat) : Int) := by unfold wrap64; omega
    simp only [bursarref19_Same.l0]
    rw [if_pos (by omega), if_pos (by omega), if_pos (by omega), e1, e2, SameRec.is m f.l6[i] g.l6[i] (hr _ (List.getElem_mem h1)) (by omega) hM, hw, ih m (i + 1) (by omega) (by omega)]
    simp only [Option.bind_some]
    by_cases he : f.l6[i] = g.l6[i]
    · rw [if_pos (decide_eq_true he)]
      simp [drop_eq_iff f.l6 g.l6 i h1 h2, he]
    · rw [if_neg (by simp [he])]
      simp [drop_eq_iff f.l6 g.l6 i h1 h2, he]
theorem extF (f g : FoldV) : f = g ↔ (f.c = g.c ∧ f.l1 = g.l1 ∧ f.l2 = g.l2 ∧ f.l3 = g.l3 ∧ f.l4 = g.l4 ∧ f.l5 = g.l5 ∧ f.l6 = g.l6) := by
  cases f; cases g; simp
theorem Same.is {M : Nat} (f g : FoldV) (h : FoldFits M f) (k : Nat) (hk : M + M + 3 < k) :
    bursarref19_Same.f k f.c f.l1 f.l2 f.l3 f.l4 f.l5 f.l6 g.c g.l1 g.l2 g.l3 g.l4 g.l5 g.l6 = some (decide (f = g)) := by
  have := h.m1
  have := h.m2
  have := h.m3
  have := h.m4
  have := h.m5
  have := h.m6
  have := h.mM
  obtain ⟨m, rfl⟩ : ∃ m, k = m + 1 := ⟨k - 1, by omega⟩
  unfold bursarref19_Same.f
  rw [bursarref19_sameLocks.is (m + 1) f.l1 g.l1 (by omega) (by omega), bursarref19_sameLocks.is (m + 1) f.l2 g.l2 (by omega) (by omega), bursarref16_SameVersions.is (m + 1) f.l3 g.l3 (by omega) (by omega),
    bursarref16_SameIntents.is (m + 1) f.l4 g.l4 (by omega) (by omega), bursarref19_sameTxs.is (m + 1) f.l5 g.l5 (by omega) (by omega)]
  simp only [Option.bind_some, bursarref19_Same.j0, if_true]
  by_cases e0 : f.c = g.c
  · rw [if_pos e0]
    by_cases e1 : f.l1 = g.l1
    · rw [if_pos (decide_eq_true e1)]
      by_cases e2 : f.l2 = g.l2
      · rw [if_pos (decide_eq_true e2)]
        by_cases e3 : f.l3 = g.l3
        · rw [if_pos (decide_eq_true e3)]
          by_cases e4 : f.l4 = g.l4
          · rw [if_pos (decide_eq_true e4)]
            by_cases e5 : f.l5 = g.l5
            · rw [if_pos (decide_eq_true e5)]
              by_cases el : f.l6.length = g.l6.length
              · rw [if_neg (by simp [el])]
                have hs := Same.l0_is f g h.r h.mM el (by omega) f.l6.length m 0 (by omega) (by omega)
                rw [show ((0 : Nat) : Int) = 0 from rfl] at hs
                rw [hs]
                congr 1
                by_cases e6 : f.l6 = g.l6
                · rw [decide_eq_true (by simpa using e6), decide_eq_true ((extF f g).2 ⟨e0, e1, e2, e3, e4, e5, e6⟩)]
                · rw [decide_eq_false (by simpa using e6), decide_eq_false (fun h => e6 ((extF f g).1 h).2.2.2.2.2.2)]
              · rw [if_pos (by simp; omega), decide_eq_false (fun h => el (by rw [h]))]
            · rw [if_neg (by simp [e5]), decide_eq_false (fun h => e5 ((extF f g).1 h).2.2.2.2.2.1)]
          · rw [if_neg (by simp [e4]), decide_eq_false (fun h => e4 ((extF f g).1 h).2.2.2.2.1)]
        · rw [if_neg (by simp [e3]), decide_eq_false (fun h => e3 ((extF f g).1 h).2.2.2.1)]
      · rw [if_neg (by simp [e2]), decide_eq_false (fun h => e2 ((extF f g).1 h).2.2.1)]
    · rw [if_neg (by simp [e1]), decide_eq_false (fun h => e1 ((extF f g).1 h).2.1)]
  · rw [if_neg e0, decide_eq_false (fun h => e0 ((extF f g).1 h).1)]
structure FoldIn (w : World) (f : FoldV) (A1 A2 A3 A4 A5 A6 : Option Addr) (c1 c2 c3 c4 c5 c6 : Nat) : Prop where
  g1 : Kd.C k135 w A1 f.l1.length f.l1
  n1 : f.l1.length ≤ c1
  g2 : Kd.C k135 w A2 f.l2.length f.l2
  n2 : f.l2.length ≤ c2
  g3 : Kd.C k138 w A3 f.l3.length f.l3
  n3 : f.l3.length ≤ c3
  g4 : Kd.C k140 w A4 f.l4.length f.l4
  n4 : f.l4.length ≤ c4
  g5 : Kd.C k142 w A5 f.l5.length f.l5
  n5 : f.l5.length ≤ c5
  g6 : Kd.C k118 w A6 f.l6.length f.l6
  n6 : f.l6.length ≤ c6
theorem FoldIn.below {w w' : World} {f : FoldV} {A1 A2 A3 A4 A5 A6 : Option Addr} {c1 c2 c3 c4 c5 c6 : Nat} (h : FoldIn w f A1 A2 A3 A4 A5 A6 c1 c2 c3 c4 c5 c6) (hb : Below w.heap.size w w') : FoldIn w' f A1 A2 A3 A4 A5 A6 c1 c2 c3 c4 c5 c6 :=
  ⟨Kd.C_below h.g1 hb, h.n1, Kd.C_below h.g2 hb, h.n2, Kd.C_below h.g3 hb, h.n3, Kd.C_below h.g4 hb, h.n4, Kd.C_below h.g5 hb, h.n5, Kd.C_below h.g6 hb, h.n6⟩
/-- a copy: the same lists, in new memory -/
theorem copy_walk {M : Nat} (w : World) (f : FoldV) (A1 A2 A3 A4 A5 A6 : Option Addr) (c1 c2 c3 c4 c5 c6 : Nat) (hf : FoldIn w f A1 A2 A3 A4 A5 A6 c1 c2 c3 c4 c5 c6) (hM : FoldFits M f) :
    Calls Tryd.prog 34 #[.agg #[.int .i64 f.c, .slice A1 f.l1.length c1, .slice A2 f.l2.length c2, .slice A3 f.l3.length c3, .slice A4 f.l4.length c4, .slice A5 f.l5.length c5, .slice A6 f.l6.length c6]] w fun e w' => ∃ (B1 B2 B3 B4 B5 B6 : Option Addr) (d1 d2 d3 d4 d5 d6 : Nat), e = .returned (.agg #[.int .i64 f.c, .slice B1 f.l1.length d1, .slice B2 f.l2.length d2, .slice B3 f.l3.length d3, .slice B4 f.l4.length d4, .slice B5 f.l5.length d5, .slice B6 f.l6.length d6]) ∧ FoldIn w' f B1 B2 B3 B4 B5 B6 d1 d2 d3 d4 d5 d6 ∧ Below w.heap.size w w' := by
  refine (bursarlaw19_Copy.calls (M + 1) f.c A1 c1 f.l1 A2 c2 f.l2 A3 c3 f.l3 A4 c4 f.l4 A5 c5 f.l5 A6 c6 f.l6 _ _ _ _ _ _ _ w hf.g1 hf.n1 hf.g2 hf.n2 hf.g3 hf.n3 hf.g4 hf.n4 hf.g5 hf.n5 hf.g6 hf.n6 (Copy.is f hM (M + 1) (by omega))).mono ?_
  rintro e w' ⟨v1, v2, v3, v4, v5, v6, rfl, r1, r2, r3, r4, r5, r6, hb⟩
  obtain ⟨B1, d1, rfl, k1, g1⟩ := Kd.R_reads r1
  obtain ⟨B2, d2, rfl, k2, g2⟩ := Kd.R_reads r2
  obtain ⟨B3, d3, rfl, k3, g3⟩ := Kd.R_reads r3
  obtain ⟨B4, d4, rfl, k4, g4⟩ := Kd.R_reads r4
  obtain ⟨B5, d5, rfl, k5, g5⟩ := Kd.R_reads r5
  obtain ⟨B6, d6, rfl, k6, g6⟩ := Kd.R_reads (Kd.S_R r6)
  exact ⟨B1, B2, B3, B4, B5, B6, d1, d2, d3, d4, d5, d6, rfl, ⟨g1, k1, g2, k2, g3, k3, g4, k4, g5, k5, g6, k6⟩, hb⟩
theorem ref_walk {M : Nat} (w : World) (f g : FoldV) (A1 A2 A3 A4 A5 A6 : Option Addr) (c1 c2 c3 c4 c5 c6 : Nat) (B1 B2 B3 B4 B5 B6 : Option Addr) (d1 d2 d3 d4 d5 d6 : Nat) (hf : FoldIn w f A1 A2 A3 A4 A5 A6 c1 c2 c3 c4 c5 c6) (hg : FoldIn w g B1 B2 B3 B4 B5 B6 d1 d2 d3 d4 d5 d6) (hM : FoldFits M f) :
    Calls Tryd.prog 37 #[.agg #[.int .i64 f.c, .slice A1 f.l1.length c1, .slice A2 f.l2.length c2, .slice A3 f.l3.length c3, .slice A4 f.l4.length c4, .slice A5 f.l5.length c5, .slice A6 f.l6.length c6], .agg #[.int .i64 g.c, .slice B1 g.l1.length d1, .slice B2 g.l2.length d2, .slice B3 g.l3.length d3, .slice B4 g.l4.length d4, .slice B5 g.l5.length d5, .slice B6 g.l6.length d6]] w fun e w' => e = .returned (.bool (decide (f = g))) ∧ Below w.heap.size w w' :=
  bursarref19_Same.calls (M + M + 4) f.c A1 c1 f.l1 A2 c2 f.l2 A3 c3 f.l3 A4 c4 f.l4 A5 c5 f.l5 A6 c6 f.l6 g.c B1 d1 g.l1 B2 d2 g.l2 B3 d3 g.l3 B4 d4 g.l4 B5 d5 g.l5 B6 d6 g.l6 _ w hf.g1 hf.n1 hf.g2 hf.n2 hf.g3 hf.n3 hf.g4 hf.n4 hf.g5 hf.n5 hf.g6 hf.n6 hg.g1 hg.n1 hg.g2 hg.n2 hg.g3 hg.n3 hg.g4 hg.n4 hg.g5 hg.n5 hg.g6 hg.n6 (Same.is f g hM _ (by omega))
end Go.Proofs.YtggogenhakdhiaaDoor.PSnapTexts
