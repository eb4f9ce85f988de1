/- The plain laws of the copies and of the document's Same. -/
import Derived.Test.YtenfdankgjdfpaaSsPure
set_option linter.unusedVariables false
set_option linter.unusedSimpArgs false
namespace Go.Proofs.Ytenfdankgjdfpaa.PSnapSame
open Go.RowKit Go.Proofs.YtenfdankgjdfpaaW.PrintWords Go.Proofs.YtenfdankgjdfpaaW.PrintLast Go.Proofs.YtenfdankgjdfpaaW.PrintMore
open Classical

/-- what fits: each list short enough to be copied -/
structure RecFits (M : Nat) (x : S66) : Prop where
  a : x.f1.length ≤ M
  b : x.f2.length ≤ M
  c : x.f6.length ≤ M
  a1 : x.f1.length < 17592186044416
  b1 : x.f2.length < 3518437208883
  c1 : x.f6.length < 17592186044416
theorem CopyRec.is {M : Nat} (x : S66) (h : RecFits M x) : bursarref17_CopyRec.f x.f0.f0 x.f0.f1 x.f1 x.f2 x.f3 x.f4 x.f5 x.f6 = some (x.f0.f0, x.f0.f1, x.f1, x.f2, x.f3, x.f4, x.f5, x.f6) := by
  unfold bursarref17_CopyRec.f
  have := h.a1
  have := h.b1
  have := h.c1
  simp only [Option.bind_some, List.length_nil, Nat.zero_add, List.nil_append]
  rw [if_pos (by omega), if_pos (by omega), if_pos (by omega)]
theorem Copy.l0_is {M : Nat} (c : Int) (l1 l2 : List S73) (l3 : List S76) (l4 : List S79) (l5 : List S82) (l : List S66) (hf : ∀ x ∈ l, RecFits M x) (hl : l.length < 1256584717458) :
    ∀ (d k i : Nat), i + d = l.length → d < k → bursarlaw19_Copy.l0 k (l.take i) (i : Int) c l1 l2 l3 l4 l5 l = some (c, l1, l2, l3, l4, l5, l) := by
  intro d
  induction d with
  | zero =>
    intro k i hi hk
    obtain ⟨m, rfl⟩ : ∃ m, k = m + 1 := ⟨k - 1, by omega⟩
    simp only [bursarlaw19_Copy.l0]
    rw [if_neg (by omega), List.take_of_length_le (by omega)]
  | succ d ih =>
    intro k i hi hk
    obtain ⟨m, rfl⟩ : ∃ m, k = m + 1 := ⟨k - 1, by omega⟩
    have h1 : i < l.length := by omega
    have e1 : rd_T66 l (i : Int) = l[i] := getD_at l z66 i h1
    have hw : wrap64 ((i : Int) + 1) = ((i + 1 : Nat) : Int) := by unfold wrap64; omega
    simp only [bursarlaw19_Copy.l0]
    rw [if_pos (by omega), if_pos (by omega), e1, CopyRec.is l[i] (hf _ (List.getElem_mem h1))]
    simp only [Option.bind_some]
    rw [if_pos (by rw [List.length_take]; omega), hw]
    have := ih m (i + 1) (by omega) (by omega)
    rw [List.take_add_one, List.getElem?_eq_getElem h1] at this
    exact this
/-- a state's lists -/
structure FoldV where
  c : Int
  l1 : List S73
  l2 : List S73
  l3 : List S76
  l4 : List S79
  l5 : List S82
  l6 : List S66
structure FoldFits (M : Nat) (f : FoldV) : Prop where
  h1 : f.l1.length < 3518437208883
  h2 : f.l2.length < 3518437208883
  h3 : f.l3.length < 2199023255552
  h4 : f.l4.length < 2513169434916
  h5 : f.l5.length < 2932031007402
  h6 : f.l6.length < 1256584717458
  m1 : f.l1.length ≤ M
  m2 : f.l2.length ≤ M
  m3 : f.l3.length ≤ M
  m4 : f.l4.length ≤ M
  m5 : f.l5.length ≤ M
  m6 : f.l6.length ≤ M
  mM : M ≤ 9223372036854775000
  r : ∀ x ∈ f.l6, RecFits M x
theorem Copy.is {M : Nat} (f : FoldV) (h : FoldFits M f) (k : Nat) (hk : M < k) : bursarlaw19_Copy.f k f.c f.l1 f.l2 f.l3 f.l4 f.l5 f.l6 = some (f.c, f.l1, f.l2, f.l3, f.l4, f.l5, f.l6) := by
  unfold bursarlaw19_Copy.f
  have := h.h1
  have := h.h2
  have := h.h3
  have := h.h4
  have := h.h5
  have := h.m6
  simp only [Option.bind_some, List.length_nil, Nat.zero_add, List.nil_append]
  rw [if_pos (by omega), if_pos (by omega), if_pos (by omega), if_pos (by omega), if_pos (by omega)]
  exact Copy.l0_is f.c f.l1 f.l2 f.l3 f.l4 f.l5 f.l6 h.r h.h6 f.l6.length k 0 (by omega) (by omega)
theorem ext66 (x y : S66) : x = y ↔ ((x.f0.f0 = y.f0.f0 ∧ x.f0.f1 = y.f0.f1) ∧ x.f1 = y.f1 ∧ x.f2 = y.f2 ∧ x.f3 = y.f3 ∧ x.f4 = y.f4 ∧ x.f5 = y.f5 ∧ x.f6 = y.f6) := by
  cases x; cases y
  simp [ext63]
theorem SameRec.is {M : Nat} (k : Nat) (x y : S66) (hx : RecFits M x) (hk : M < k) (hM : M ≤ 9223372036854775000) :
    bursarref19_SameRec.f k x.f0.f0 x.f0.f1 x.f1 x.f2 x.f3 x.f4 x.f5 x.f6 y.f0.f0 y.f0.f1 y.f1 y.f2 y.f3 y.f4 y.f5 y.f6 = some (decide (x = y)) := by
  have := hx.a
  have := hx.b
  have := hx.c
  unfold bursarref19_SameRec.f
  rw [bursarref08_SameInts.is k x.f1 y.f1 (by omega) (by omega), bursarref08_SameWrites.is k x.f2 y.f2 (by omega) (by omega), bursarref08_SameInts.is k x.f6 y.f6 (by omega) (by omega)]
  simp only [Option.bind_some]
  by_cases e0 : (x.f0.f0 = y.f0.f0 ∧ x.f0.f1 = y.f0.f1)
  · rw [if_pos (by simp [e0.1, e0.2])]
    by_cases e1 : x.f1 = y.f1
    · rw [if_pos (by simp [e1])]
      by_cases e2 : x.f2 = y.f2
      · rw [if_pos (by simp [e2])]
        by_cases e3 : x.f3 = y.f3
        · rw [if_pos e3]
          by_cases e4 : x.f4 = y.f4
          · rw [if_pos e4]
            by_cases e5 : x.f5 = y.f5
            · rw [if_pos e5]
              congr 1
              by_cases e6 : x.f6 = y.f6
              · rw [decide_eq_true e6, decide_eq_true ((ext66 x y).2 ⟨e0, e1, e2, e3, e4, e5, e6⟩)]
              · rw [decide_eq_false e6, decide_eq_false (fun h => e6 ((ext66 x y).1 h).2.2.2.2.2.2)]
            · rw [if_neg e5, decide_eq_false (fun h => e5 ((ext66 x y).1 h).2.2.2.2.2.1)]
          · rw [if_neg e4, decide_eq_false (fun h => e4 ((ext66 x y).1 h).2.2.2.2.1)]
        · rw [if_neg e3, decide_eq_false (fun h => e3 ((ext66 x y).1 h).2.2.2.1)]
      · rw [if_neg (by simp [e2]), decide_eq_false (fun h => e2 ((ext66 x y).1 h).2.2.1)]
    · rw [if_neg (by simp [e1]), decide_eq_false (fun h => e1 ((ext66 x y).1 h).2.1)]
  · rw [if_neg (by simpa using e0), decide_eq_false (fun h => e0 ((ext66 x y).1 h).1)]
theorem Same.l0_is {M : Nat} (f g : FoldV) (hr : ∀ x ∈ f.l6, RecFits M x) (hM : M ≤ 9223372036854775000) (hl : f.l6.length = g.l6.length) (hL : f.l6.length ≤ 9223372036854775000) :
    ∀ (d k i : Nat), i + d = f.l6.length → d + M + 1 < k → bursarref19_Same.l0 k (i : Int) f.c f.l1 f.l2 f.l3 f.l4 f.l5 f.l6 g.c g.l1 g.l2 g.l3 g.l4 g.l5 g.l6 = some (decide (f.l6.drop i = g.l6.drop i)) := by
  intro d
  induction d with
  | zero =>
    intro k i hi hk
    obtain ⟨m, rfl⟩ : ∃ m, k = m + 1 := ⟨k - 1, by omega⟩
    simp only [bursarref19_Same.l0]
    rw [if_neg (by omega), List.drop_eq_nil_of_le (by omega), List.drop_eq_nil_of_le (by omega)]
    simp
  | succ d ih =>
    intro k i hi hk
    obtain ⟨m, rfl⟩ : ∃ m, k = m + 1 := ⟨k - 1, by omega⟩
    have h1 : i < f.l6.length := by omega
    have h2 : i < g.l6.length := by omega
    have e1 : rd_T66 f.l6 (i : Int) = f.l6[i] := getD_at f.l6 z66 i h1
    have e2 : rd_T66 g.l6 (i : Int) = g.l6[i] := getD_at g.l6 z66 i h2
    have hw : wrap64 ((i : Int) + 1) = ((i + 1 : Nat) : Int) := by unfold wrap64; omega
    simp only [bursarref19_Same.l0]
    rw [if_pos (by omega), if_pos (by omega), if_pos (by omega), e1, e2, SameRec.is m f.l6[i] g.l6[i] (hr _ (List.getElem_mem h1)) (by omega) hM, hw, ih m (i + 1) (by omega) (by omega)]
    simp only [Option.bind_some]
    by_cases he : f.l6[i] = g.l6[i]
    · rw [if_pos (decide_eq_true he)]
      simp [drop_eq_iff f.l6 g.l6 i h1 h2, he]
    · rw [if_neg (by simp [he])]
      simp [drop_eq_iff f.l6 g.l6 i h1 h2, he]
theorem extF (f g : FoldV) : f = g ↔ (f.c = g.c ∧ f.l1 = g.l1 ∧ f.l2 = g.l2 ∧ f.l3 = g.l3 ∧ f.l4 = g.l4 ∧ f.l5 = g.l5 ∧ f.l6 = g.l6) := by
  cases f; cases g; simp
theorem Same.is {M : Nat} (f g : FoldV) (h : FoldFits M f) (k : Nat) (hk : M + M + 3 < k) :
    bursarref19_Same.f k f.c f.l1 f.l2 f.l3 f.l4 f.l5 f.l6 g.c g.l1 g.l2 g.l3 g.l4 g.l5 g.l6 = some (decide (f = g)) := by
  have := h.m1
  have := h.m2
  have := h.m3
  have := h.m4
  have := h.m5
  have := h.m6
  have := h.mM
  obtain ⟨m, rfl⟩ : ∃ m, k = m + 1 := ⟨k - 1, by omega⟩
  unfold bursarref19_Same.f
  rw [bursarref19_sameLocks.is (m + 1) f.l1 g.l1 (by omega) (by omega), bursarref19_sameLocks.is (m + 1) f.l2 g.l2 (by omega) (by omega), bursarref16_SameVersions.is (m + 1) f.l3 g.l3 (by omega) (by omega),
    bursarref16_SameIntents.is (m + 1) f.l4 g.l4 (by omega) (by omega), bursarref19_sameTxs.is (m + 1) f.l5 g.l5 (by omega) (by omega)]
  simp only [Option.bind_some, bursarref19_Same.j0, if_true]
  by_cases e0 : f.c = g.c
  · rw [if_pos e0]
    by_cases e1 : f.l1 = g.l1
    · rw [if_pos (decide_eq_true e1)]
      by_cases e2 : f.l2 = g.l2
      · rw [if_pos (decide_eq_true e2)]
        by_cases e3 : f.l3 = g.l3
        · rw [if_pos (decide_eq_true e3)]
          by_cases e4 : f.l4 = g.l4
          · rw [if_pos (decide_eq_true e4)]
            by_cases e5 : f.l5 = g.l5
            · rw [if_pos (decide_eq_true e5)]
              by_cases el : f.l6.length = g.l6.length
              · rw [if_neg (by simp [el])]
                have hs := Same.l0_is f g h.r h.mM el (by omega) f.l6.length m 0 (by omega) (by omega)
                rw [show ((0 : Nat) : Int) = 0 from rfl] at hs
                rw [hs]
                congr 1
                by_cases e6 : f.l6 = g.l6
                · rw [decide_eq_true (by simpa using e6), decide_eq_true ((extF f g).2 ⟨e0, e1, e2, e3, e4, e5, e6⟩)]
                · rw [decide_eq_false (by simpa using e6), decide_eq_false (fun h => e6 ((extF f g).1 h).2.2.2.2.2.2)]
              · rw [if_pos (by simp; omega), decide_eq_false (fun h => el (by rw [h]))]
            · rw [if_neg (by simp [e5]), decide_eq_false (fun h => e5 ((extF f g).1 h).2.2.2.2.2.1)]
          · rw [if_neg (by simp [e4]), decide_eq_false (fun h => e4 ((extF f g).1 h).2.2.2.2.1)]
        · rw [if_neg (by simp [e3]), decide_eq_false (fun h => e3 ((extF f g).1 h).2.2.2.1)]
      · rw [if_neg (by simp [e2]), decide_eq_false (fun h => e2 ((extF f g).1 h).2.2.1)]
    · rw [if_neg (by simp [e1]), decide_eq_false (fun h => e1 ((extF f g).1 h).2.1)]
  · rw [if_neg e0, decide_eq_false (fun h => e0 ((extF f g).1 h).1)]
end Go.Proofs.Ytenfdankgjdfpaa.PSnapSame
