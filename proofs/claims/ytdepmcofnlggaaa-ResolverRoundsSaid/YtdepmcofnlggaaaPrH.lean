/- States at plain places; who is wounded; all edges: the plain part of Graph. (ahead of it: slices.Compact at rows of k cells: what lies in the row on the way. slices.Compact of edges, walked (printed by wip/cp_gen.py). Graph's closure, walked: whether an edge's waiter is wounded. The end of Graph: filtered, sorted, each once. Rows of edges: the print's form and mine. Rows of identities: the print's form and mine; one identity in a block of its own. Left of a state, walked (not finished).) -/
import Derived.Test.YtdepmcofnlggaaaPrG
import Derived.Test.YtdepmcofnlggaaaRcSx2
import Derived.Deep.QuietTactic
import Derived.BigQuiet
import Derived.IntWalk
import Derived.Test.YtdepmcofnlggaaaPrF
import Derived.Test.YtdepmcofnlggaaaPrE
section
set_option linter.unusedVariables false
set_option linter.unusedSimpArgs false
namespace Go.Proofs.Ytdepmcofnlggaaa.PResolverCycles
open Go.RowKit Go.Proofs.YtdepmcofnlggaaaW.PrintWords Go.Proofs.YtdepmcofnlggaaaW.PrintLast Go.Proofs.YtdepmcofnlggaaaW.PrintMore
open Classical

section
variable {α : Type}
/-- a list in order, each once -/
noncomputable def cL : List α → List α
  | [] => []
  | [a] => [a]
  | a :: b :: r => if a = b then cL (b :: r) else a :: cL (b :: r)
theorem cL_snoc (a b : α) : ∀ m : List α, cL (m ++ [a, b]) = if a = b then cL (m ++ [a]) else cL (m ++ [a]) ++ [b]
  | [] => by
    simp only [List.nil_append, cL]
    split
    · next e => rw [e]
    · rfl
  | [c] => by
    simp only [List.cons_append, List.nil_append, cL]
    by_cases h1 : a = b
    · subst h1; simp
    · simp only [if_neg h1]
      split <;> rfl
  | c :: d :: m => by
    have ih := cL_snoc a b (d :: m)
    simp only [List.cons_append, cL] at ih ⊢
    by_cases hcd : c = d
    · rw [if_pos hcd, if_pos hcd, ih]
    · rw [if_neg hcd, if_neg hcd, ih]
      split
      · rfl
      · rfl
theorem cL_mem (x : α) : ∀ m : List α, x ∈ cL m ↔ x ∈ m
  | [] => by simp [cL]
  | [a] => by simp [cL]
  | a :: b :: r => by
    have ih := cL_mem x (b :: r)
    simp only [cL]
    split
    · next e => subst e; rw [ih]; simp
    · rw [List.mem_cons, ih, List.mem_cons (l := b :: r)]
theorem cL_len : ∀ m : List α, (cL m).length ≤ m.length
  | [] => by simp [cL]
  | [a] => by simp [cL]
  | a :: b :: r => by
    have ih := cL_len (b :: r)
    simp only [cL]
    split
    · simp only [List.length_cons] at ih ⊢; omega
    · simp only [List.length_cons] at ih ⊢; omega
theorem cL_sorted {c : α → α → Int} (hc : Ord c) (h0 : ∀ a b, c a b = 0 ↔ a = b) : ∀ m : List α, m.Pairwise (fun a b => ¬ c b a < 0) → (cL m).Pairwise (fun a b => c a b < 0)
  | [], _ => by simp [cL]
  | [a], _ => by simp [cL]
  | a :: b :: r, h => by
    have h' := List.pairwise_cons.1 h
    have ih := cL_sorted hc h0 (b :: r) h'.2
    simp only [cL]
    split
    · exact ih
    · next hne =>
      have hab : c a b < 0 := by
        have q1 := h'.1 b (by simp)
        have q2 := hc.anti b a
        have q3 := h0 a b
        by_cases q4 : c a b = 0
        · exact absurd (q3.1 q4) hne
        · omega
      refine List.pairwise_cons.2 ⟨fun x hx => ?_, ih⟩
      rcases List.mem_cons.1 ((cL_mem x (b :: r)).1 hx) with e | e
      · rw [e]; exact hab
      · have q1 := (List.pairwise_cons.1 h'.2).1 x e
        have q2 := hc.anti x b
        exact hc.lt hab (by omega)
variable {enc : α → List Value} {k : Nat} {e : TypeId}
noncomputable def hK (l : List α) (m : Nat) : List α := cL (l.take m) ++ l.drop (cL (l.take m)).length
theorem hK_len (l : List α) (m : Nat) : (hK l m).length = l.length := by
  have h1 := cL_len (l.take m)
  have h2 : (l.take m).length ≤ l.length := by rw [List.length_take]; omega
  simp only [hK, List.length_append, List.length_drop]
  omega
theorem hK_old (l : List α) (m t : Nat) (hlt : (cL (l.take m)).length ≤ t) (ht : t < l.length) : (hK l m)[t]? = l[t]? := by
  unfold hK
  rw [List.getElem?_append_right hlt, List.getElem?_drop]
  congr 1
  omega
theorem take_two' (l : List α) (m : Nat) (h : m + 1 < l.length) : l.take (m + 2) = l.take m ++ [l[m], l[m + 1]] := by
  rw [show m + 2 = (m + 1) + 1 by omega, take_one' l (m + 1) h, take_one' l m (by omega), List.append_assoc]
  rfl
theorem cL_same (l : List α) (m : Nat) (h : m + 1 < l.length) (e : l[m] = l[m + 1]) : cL (l.take (m + 2)) = cL (l.take (m + 1)) := by
  rw [take_two' l m h, cL_snoc, if_pos e, take_one' l m (by omega)]
theorem cL_new (l : List α) (m : Nat) (h : m + 1 < l.length) (e : l[m] ≠ l[m + 1]) : cL (l.take (m + 2)) = cL (l.take (m + 1)) ++ [l[m + 1]] := by
  rw [take_two' l m h, cL_snoc, if_neg e, take_one' l m (by omega)]
theorem hK_same (l : List α) (m : Nat) (h : m + 1 < l.length) (e : l[m] = l[m + 1]) : hK l (m + 2) = hK l (m + 1) := by
  unfold hK; rw [cL_same l m h e]
theorem hK_new (l : List α) (m : Nat) (h : m + 1 < l.length) (e : l[m] ≠ l[m + 1]) : hK l (m + 2) = (hK l (m + 1)).set (cL (l.take (m + 1))).length l[m + 1] := by
  have hle := cL_len (l.take (m + 1))
  have hl2 : (l.take (m + 1)).length = m + 1 := by rw [List.length_take]; omega
  unfold hK
  rw [cL_new l m h e]
  generalize cL (l.take (m + 1)) = C at *
  have hCl : C.length < l.length := by omega
  rw [List.set_append_right _ _ (Nat.le_refl _), Nat.sub_self, List.length_append]
  rw [List.drop_eq_getElem_cons hCl, List.set_cons_zero]
  simp
/-- the outer loop's state -/
structure OstK (enc : α → List Value) (k : Nat) (e : TypeId) (w wr : World) (base g c : Nat) (l : List α) (j : Nat) : Prop where
  lt : j < l.length
  same : cL (l.take (j + 1)) = l.take (j + 1)
  row : Row enc k e wr base g c l
  grown : w.grownBy wr (some g)
/-- the inner loop's state: n entries are behind us, iv of them stand -/
structure CstK (enc : α → List Value) (k : Nat) (e : TypeId) (w wr : World) (base g c : Nat) (l : List α) (iv n : Nat) : Prop where
  len : (cL (l.take n)).length = iv
  lt : iv < n
  le : n ≤ l.length
  row : Row enc k e wr base g c (hK l n)
  grown : w.grownBy wr (some g)
variable {w wr : World} {base g c : Nat} {l : List α}
theorem row_cellz (hk : ∀ x, (enc x).length = k) (h : Row enc k e w base g c l) {i : Nat} {x : α} (hx : l[i]? = some x) (t : Nat) (v : Value) (hv : (enc x)[t]? = some v) : w.cell? ⟨g, i * k + t, none⟩ = some v := by
  obtain ⟨hi, rfl⟩ := List.getElem?_eq_some_iff.1 hx
  exact row_cell hk h i hi t v hv
theorem OstK.step (hk : ∀ x, (enc x).length = k) {j : Nat} (h : OstK enc k e w wr base g c l j) (hlt : j + 1 < l.length) : ∃ x y : α,
    (∀ t v, (enc x)[t]? = some v → wr.cell? ⟨g, j * k + t, none⟩ = some v) ∧ (∀ t v, (enc y)[t]? = some v → wr.cell? ⟨g, (j + 1) * k + t, none⟩ = some v) ∧
    (x = y → ∀ q, CstK enc k e w (wr.drewN q) base g c l (j + 1) (j + 0 + 2)) ∧ (x ≠ y → ∀ q, OstK enc k e w (wr.drewN q) base g c l (j + 1)) := by
  have hT : (l.take (j + 1)).length = j + 1 := by rw [List.length_take]; omega
  refine ⟨l[j], l[j + 1], fun t v => row_cell hk h.row j h.lt t v, fun t v => row_cell hk h.row (j + 1) hlt t v, fun e q => ?_, fun e q => ?_⟩
  · have e1 := cL_same l j hlt e
    rw [h.same] at e1
    refine ⟨by rw [e1, hT], by omega, hlt, ?_, grown_trans h.grown (grown_drewN _ _ _)⟩
    have hH : hK l (j + 0 + 2) = l := by
      unfold hK
      rw [e1, hT, List.take_append_drop]
    rw [hH]
    exact row_block h.row rfl hk
  · have e1 := cL_new l j hlt e
    rw [h.same] at e1
    exact ⟨hlt, by rw [e1, take_one' l (j + 1) hlt], row_block h.row rfl hk, grown_trans h.grown (grown_drewN _ _ _)⟩
theorem CstK.step (hk : ∀ x, (enc x).length = k) {iv j m : Nat} (h : CstK enc k e w wr base g c l iv (j + m + 2)) (hlt : j + m + 2 < l.length) : ∃ x y z : α,
    (∀ t v, (enc x)[t]? = some v → wr.cell? ⟨g, (j + 1) * k + m * k + t, none⟩ = some v) ∧ (∀ t v, (enc y)[t]? = some v → wr.cell? ⟨g, (j + 1) * k + (m + 1) * k + t, none⟩ = some v) ∧
    (∀ t v, (enc z)[t]? = some v → wr.cell? ⟨g, iv * k + t, none⟩ = some v) ∧ (∀ i, wr.frozen? ⟨g, i, none⟩ = false) ∧
    (x = y → ∀ q, CstK enc k e w (wr.drewN q) base g c l iv (j + (m + 1) + 2)) ∧
    (x ≠ y → ∀ q, CstK enc k e w (setCells (wr.drewN q) g (iv * k) (enc y)) base g c l (iv + 1) (j + (m + 1) + 2)) := by
  have hl := hK_len l (j + m + 2)
  have h1 := h.lt
  have o0 := hK_old l (j + m + 2) (j + m + 1) (by rw [h.len]; omega) (by omega)
  have o1 := hK_old l (j + m + 2) (j + m + 2) (by rw [h.len]; omega) hlt
  rw [List.getElem?_eq_getElem (l := l) (by omega)] at o0
  rw [List.getElem?_eq_getElem (l := l) hlt] at o1
  have c0 := row_cellz hk h.row o0
  have c1 := row_cellz hk h.row o1
  rw [show (j + m + 1) * k = (j + 1) * k + m * k by rw [← Nat.add_mul]; congr 1; omega] at c0
  rw [show (j + m + 2) * k = (j + 1) * k + (m + 1) * k by rw [← Nat.add_mul]; congr 1; omega] at c1
  refine ⟨l[j + m + 1], l[j + m + 1 + 1], (hK l (j + m + 2))[iv]'(by omega), c0, c1, fun t v => row_cell hk h.row iv (by omega) t v, fun i => row_frozen h.row i, fun e q => ?_, fun e q => ?_⟩
  · have e1 := cL_same l (j + m + 1) hlt e
    have e2 := hK_same l (j + m + 1) hlt e
    refine ⟨?_, by omega, by omega, ?_, grown_trans h.grown (grown_drewN _ _ _)⟩
    · show (cL (l.take (j + m + 1 + 2))).length = iv
      rw [e1]; exact h.len
    · show Row enc k _ _ base g c (hK l (j + m + 1 + 2))
      rw [e2]; exact row_block h.row rfl hk
  · have e1 := cL_new l (j + m + 1) hlt e
    have e2 := hK_new l (j + m + 1) hlt e
    refine ⟨?_, by omega, by omega, ?_, ?_⟩
    · show (cL (l.take (j + m + 1 + 2))).length = iv + 1
      rw [e1, List.length_append]
      exact congrArg (· + 1) h.len
    · show Row enc k _ _ base g c (hK l (j + m + 1 + 2))
      rw [e2]
      have hlen : (cL (l.take (j + m + 1 + 1))).length = iv := h.len
      rw [hlen]
      exact row_set hk (row_block (w' := wr.drewN q) h.row rfl hk) iv (by omega) _
    · exact grown_trans (grown_trans h.grown (grown_drewN _ q _)) (setCells_grown _ _ _ _)
theorem CstK.fin (hk : ∀ x, (enc x).length = k) {iv n : Nat} (h : CstK enc k e w wr base g c l iv n) (hn : n = l.length) (cc : Nat) (ts ty : TypeId) (z : Value)
    (hu : Try.prog.underlying ts = some (.slice e)) (hzv : ∀ w, (zeroValue e).run Try.prog w = .ok z w) (hzk : z.cells.size = k) (hz1 : ∀ v ∈ z.cells.toList, v.oneCell' = true) (hk0 : 0 < k) :
    ∃ w', (Builtin.clear_ #[ts] ty #[.slice (some ⟨g, iv * k, none⟩) (l.length - iv) cc]).run Try.prog wr = .ok (.tuple #[]) w' ∧ (cL l).length = iv ∧ Row enc k e w' base g c (cL l) ∧ w.grownBy w' (some g) := by
  subst hn
  have hl := hK_len l l.length
  have h1 := h.lt
  have h2 := h.len
  rw [List.take_length] at h2
  obtain ⟨w', e1, hg, hr⟩ := row_clear hk h.row iv (by omega) cc ts ty z hu hzv hzk hz1 hk0
  rw [hl] at e1
  refine ⟨w', e1, h2, ?_, grown_trans h.grown hg⟩
  have e2 : (hK l l.length).take iv = cL l := by
    unfold hK
    rw [List.take_length, List.take_append_of_le_length (by omega)]
    exact List.take_of_length_le (by omega)
  rw [e2] at hr
  exact hr
end
end Go.Proofs.Ytdepmcofnlggaaa.PResolverCycles
end
section
set_option linter.unusedVariables false
set_option linter.unusedSimpArgs false
attribute [local go_sem ↓] Go.wp_at_zero Go.wp_at_succ
namespace Go.Proofs.Ytdepmcofnlggaaa.PResolverCycles
open Go.RowKit Go.Proofs.YtdepmcofnlggaaaW.PrintWords Go.Proofs.YtdepmcofnlggaaaW.PrintLast Go.Proofs.YtdepmcofnlggaaaW.PrintMore
open Classical

theorem ed_ext {x y : S26} (h0 : x.f0 = y.f0) (h1 : x.f1 = y.f1) (h2 : x.f2 = y.f2) : x = y := by
  obtain ⟨a, b, c⟩ := x
  obtain ⟨a', b', c'⟩ := y
  simp only at h0 h1 h2
  rw [h0, h1, h2]
theorem ed_beq (x y : S26) : (x.f0.toList == y.f0.toList && ((x.f1.f0 == y.f1.f0 && (x.f1.f1 == y.f1.f1)) && ((x.f2.f0 == y.f2.f0 && (x.f2.f1 == y.f2.f1))))) = decide (x = y) := by
  rw [id_beq, id_beq]
  by_cases e : x = y
  · subst e; simp
  · rw [decide_eq_false e]
    by_cases h0 : x.f0 = y.f0
    · by_cases h1 : x.f1 = y.f1
      · have h2 : x.f2 ≠ y.f2 := fun h2 => e (ed_ext h0 h1 h2)
        simp [h2]
      · simp [h1]
    · have h0' : (x.f0.toList == y.f0.toList) = false := (Go.Lib.bytes_beq_false_iff _ _).2 h0
      simp [h0']
theorem ed_equal (x y : S26) (w : World) : (Op.equal 26 (.agg #[.string x.f0, .int .i64 x.f1.f0, .int .i64 x.f1.f1, .int .i64 x.f2.f0, .int .i64 x.f2.f1]) (.agg #[.string y.f0, .int .i64 y.f1.f0, .int .i64 y.f1.f1, .int .i64 y.f2.f0, .int .i64 y.f2.f1])).run Try.prog w = .ok (decide (x = y)) w := by
  rw [← ed_beq]
  exact eqA26 9997 w _ _ _ _ _ _ _ _ _ _
theorem ed_eql (x y : S26) (w : World) : (binOp .eql 26 (.agg #[.string x.f0, .int .i64 x.f1.f0, .int .i64 x.f1.f1, .int .i64 x.f2.f0, .int .i64 x.f2.f1]) (.agg #[.string y.f0, .int .i64 y.f1.f0, .int .i64 y.f1.f1, .int .i64 y.f2.f0, .int .i64 y.f2.f1])).run Try.prog w = .ok (.bool (decide (x = y))) w := by
  have h := ed_equal x y w
  simp only [binOp]
  simp [h]
theorem ed_neq (x y : S26) (w : World) : (binOp .neq 26 (.agg #[.string x.f0, .int .i64 x.f1.f0, .int .i64 x.f1.f1, .int .i64 x.f2.f0, .int .i64 x.f2.f1]) (.agg #[.string y.f0, .int .i64 y.f1.f0, .int .i64 y.f1.f1, .int .i64 y.f2.f0, .int .i64 y.f2.f1])).run Try.prog w = .ok (.bool (!decide (x = y))) w := by
  have h := ed_equal x y w
  simp only [binOp]
  simp [h]
set_option maxHeartbeats 4000000 in
set_option maxRecDepth 20000 in
theorem cpEd (w : World) (base g c : Nat) (l : List S26) (h : EdRow w base g c l) (hm : l.length ≤ 1000000000) :
    Calls Try.prog 45 #[.slice (some ⟨g, 0, none⟩) l.length c] w fun e w' => ∃ c', e = .returned (.slice (some ⟨g, 0, none⟩) (cL l).length c') ∧ EdRow w' base g c' (cL l) ∧ w.grownBy w' (some g) := by
  have hcc : l.length ≤ c := by obtain ⟨_, _, _, _, q, _⟩ := row_form h; exact q
  by_cases h2 : l.length < 2
  · have e : cL l = l := by
      match l, h2 with
      | [], _ => rfl
      | [a], _ => rfl
    have h2z : (l.length : Int) < 2 := by omega
    go_enter Try.func45, Try.ntmps45
    go_wp2_with fail
    go_ret
    exact ⟨c, by rw [e]; rfl, by rw [e]; exact h, grown_refl _ _⟩
  · have h2z : ¬ (l.length : Int) < 2 := by omega
    have hn : 0 < l.length := by omega
    obtain ⟨n, hN⟩ : ∃ n, n = l.length := ⟨_, rfl⟩
    have hO : OstK encE 5 26 w w base g c l 0 := ⟨hn, by rw [take_one' l 0 hn]; rfl, h, grown_refl _ _⟩
    rw [← hN] at hn hm hcc h2 h2z ⊢
    replace hN := Go.Lib.hid hN
    clear h
    go_enter Try.func45, Try.ntmps45
    go_wp2_with fail
    go_loopw [3] (fun i wr => ∃ j : Nat, j < n ∧ i = .int .i64 ((j : Int) + 1) ∧ OstK encE 5 26 w wr base g c l j) (fun i _ => n - (intOf i).toNat)
    case atStart => exact ⟨0, hn, rfl, hO⟩
    case round =>
      obtain ⟨j, hj, rfl, hst⟩ := hrel
      clear hO
      by_cases hlt : j + 1 < n
      · have hmeas0 := Go.Lib.hid (meas_down n j hlt)
        have hltz : (j : Int) + 1 < (n : Int) := by omega
        have hz1 : (0 : Int) ≤ (j : Int) + 1 := by omega
        have hz2 : (j : Int) < (n : Int) := by omega
        have hz3 : ((j : Int) + 1).toNat = j + 1 := by omega
        have v1 : (0 : Int) ≤ (j : Int) := by omega
        have v2 : (j : Int) ≤ 4000000000 := by omega
        have v3 : (0 : Int) ≤ (j : Int) + 1 + 1 := by omega
        have v4 : (j : Int) + 1 + 1 ≤ 4000000000 := by omega
        have hz4 : IntKind.i64.wrap ((j : Int) + 1 - 1) = (j : Int) := wrap_back _ v1 v2
        have hw0 : wrap64 ((j : Int) + 1 + 1) = (j : Int) + 1 + 1 := wrap_in64 _ v3 v4
        clear v1 v2 v3 v4
        have hstep := hst.step encE_len' (by rw [← hN.out]; exact hlt)
        obtain ⟨x, y, ha, hb, hsame, hnew⟩ := hstep
        have a0 : wr.cell? ⟨g, j * 5, none⟩ = some (.string x.f0) := ha 0 _ rfl
        have a1 : wr.cell? ⟨g, j * 5 + 1, none⟩ = some (.int .i64 x.f1.f0) := ha 1 _ rfl
        have a2 : wr.cell? ⟨g, j * 5 + 2, none⟩ = some (.int .i64 x.f1.f1) := ha 2 _ rfl
        have a3 : wr.cell? ⟨g, j * 5 + 3, none⟩ = some (.int .i64 x.f2.f0) := ha 3 _ rfl
        have a4 : wr.cell? ⟨g, j * 5 + 4, none⟩ = some (.int .i64 x.f2.f1) := ha 4 _ rfl
        have b0 : wr.cell? ⟨g, (j + 1) * 5, none⟩ = some (.string y.f0) := hb 0 _ rfl
        have b1 : wr.cell? ⟨g, (j + 1) * 5 + 1, none⟩ = some (.int .i64 y.f1.f0) := hb 1 _ rfl
        have b2 : wr.cell? ⟨g, (j + 1) * 5 + 2, none⟩ = some (.int .i64 y.f1.f1) := hb 2 _ rfl
        have b3 : wr.cell? ⟨g, (j + 1) * 5 + 3, none⟩ = some (.int .i64 y.f2.f0) := hb 3 _ rfl
        have b4 : wr.cell? ⟨g, (j + 1) * 5 + 4, none⟩ = some (.int .i64 y.f2.f1) := hb 4 _ rfl
        clear ha hb
        replace hsame := Go.Lib.hid hsame
        replace hnew := Go.Lib.hid hnew
        clear hst
        have hq := ed_eql y x
        by_cases he : x = y
        · subst he
          rw [decide_eq_true rfl] at hq
          replace hsame := Go.Lib.hid (show ∀ q, CstK encE 5 26 w (wr.drewN q) base g c l (j + 1) (j + 0 + 2) from hsame.out rfl)
          go_wp2_with fail
          go_quiet (fail)
          have hC := hsame.out nq
          generalize wr.drewN nq = wr at *
          clear a0 a1 a2 a3 a4 b0 b1 b2 b3 b4 hnew hsame hq
          replace hz4 := Go.Lib.hid hz4
          replace hw0 := Go.Lib.hid hw0
          go_wp2_with fail
          go_loopw [3, 5] (fun i k wq => ∃ iv m : Nat, j + m + 2 ≤ n ∧ iv < n ∧ i = .int .i64 (iv : Int) ∧ k = .int .i64 ((m : Int) + 1) ∧ CstK encE 5 26 w wq base g c l iv (j + m + 2)) (fun _ k _ => n - (intOf k).toNat)
          case atStart => exact ⟨j + 1, 0, by omega, by omega, rfl, rfl, hC⟩
          case round =>
            clear hC
            obtain ⟨iv, m, hm1, hivn, rfl, rfl, hst⟩ := hrel
            have hivc : iv ≤ c := by omega
            have hivz : (iv : Int) < (n : Int) := by omega
            by_cases hlt2 : j + m + 2 < n
            · have hiv2 : iv + 1 < n := by have := hst.lt; omega
              have hm3 : m + 1 < n - (j + 1) := by omega
              have hmeas := Go.Lib.hid (meas_down n m (by omega))
              have hj1 := Go.Lib.hid (show j + (m + 1) + 2 ≤ n from hlt2)
              have hy1 : (0 : Int) ≤ (m : Int) + 1 := by omega
              have hy3 : ((m : Int) + 1).toNat = m + 1 := by omega
              have hy5 : (m : Int) < ((n - (j + 1) : Nat) : Int) := by omega
              have hy6 : (m : Int) + 1 < ((n - (j + 1) : Nat) : Int) := by omega
              have v1 : (0 : Int) ≤ (m : Int) := by omega
              have v2 : (m : Int) ≤ 4000000000 := by omega
              have v3 : (0 : Int) ≤ (m : Int) + 1 + 1 := by omega
              have v4 : (m : Int) + 1 + 1 ≤ 4000000000 := by omega
              have v5 : (0 : Int) ≤ (iv : Int) + 1 := by omega
              have v6 : (iv : Int) + 1 ≤ 4000000000 := by omega
              have hy4 : IntKind.i64.wrap ((m : Int) + 1 - 1) = (m : Int) := wrap_back _ v1 v2
              have hy9 : IntKind.i64.wrap (m : Int) = (m : Int) := wrap_in _ v1 v2
              have hw : wrap64 ((m : Int) + 1 + 1) = (m : Int) + 1 + 1 := wrap_in64 _ v3 v4
              have hw2 : wrap64 ((iv : Int) + 1) = (iv : Int) + 1 := wrap_in64 _ v5 v6
              clear v1 v2 v3 v4 v5 v6
              have hstep := hst.step encE_len' (by rw [← hN.out]; exact hlt2)
              obtain ⟨x2, y2, z2, hp, hq2, hr, hfz, hsame, hnew⟩ := hstep
              have p0 : wr.cell? ⟨g, (j + 1) * 5 + m * 5, none⟩ = some (.string x2.f0) := hp 0 _ rfl
              have p1 : wr.cell? ⟨g, (j + 1) * 5 + m * 5 + 1, none⟩ = some (.int .i64 x2.f1.f0) := hp 1 _ rfl
              have p2 : wr.cell? ⟨g, (j + 1) * 5 + m * 5 + 2, none⟩ = some (.int .i64 x2.f1.f1) := hp 2 _ rfl
              have p3 : wr.cell? ⟨g, (j + 1) * 5 + m * 5 + 3, none⟩ = some (.int .i64 x2.f2.f0) := hp 3 _ rfl
              have p4 : wr.cell? ⟨g, (j + 1) * 5 + m * 5 + 4, none⟩ = some (.int .i64 x2.f2.f1) := hp 4 _ rfl
              have q0 : wr.cell? ⟨g, (j + 1) * 5 + (m + 1) * 5, none⟩ = some (.string y2.f0) := hq2 0 _ rfl
              have q1 : wr.cell? ⟨g, (j + 1) * 5 + (m + 1) * 5 + 1, none⟩ = some (.int .i64 y2.f1.f0) := hq2 1 _ rfl
              have q2 : wr.cell? ⟨g, (j + 1) * 5 + (m + 1) * 5 + 2, none⟩ = some (.int .i64 y2.f1.f1) := hq2 2 _ rfl
              have q3 : wr.cell? ⟨g, (j + 1) * 5 + (m + 1) * 5 + 3, none⟩ = some (.int .i64 y2.f2.f0) := hq2 3 _ rfl
              have q4 : wr.cell? ⟨g, (j + 1) * 5 + (m + 1) * 5 + 4, none⟩ = some (.int .i64 y2.f2.f1) := hq2 4 _ rfl
              have r0 : wr.cell? ⟨g, iv * 5, none⟩ = some (.string z2.f0) := hr 0 _ rfl
              have r1 : wr.cell? ⟨g, iv * 5 + 1, none⟩ = some (.int .i64 z2.f1.f0) := hr 1 _ rfl
              have r2 : wr.cell? ⟨g, iv * 5 + 2, none⟩ = some (.int .i64 z2.f1.f1) := hr 2 _ rfl
              have r3 : wr.cell? ⟨g, iv * 5 + 3, none⟩ = some (.int .i64 z2.f2.f0) := hr 3 _ rfl
              have r4 : wr.cell? ⟨g, iv * 5 + 4, none⟩ = some (.int .i64 z2.f2.f1) := hr 4 _ rfl
              have z0 : wr.frozen? ⟨g, iv * 5, none⟩ = false := hfz _
              have z1 : wr.frozen? ⟨g, iv * 5 + 1, none⟩ = false := hfz _
              have z2 : wr.frozen? ⟨g, iv * 5 + 2, none⟩ = false := hfz _
              have z3 : wr.frozen? ⟨g, iv * 5 + 3, none⟩ = false := hfz _
              have z4 : wr.frozen? ⟨g, iv * 5 + 4, none⟩ = false := hfz _
              clear hp hq2 hr hfz
              replace hsame := Go.Lib.hid hsame
              replace hnew := Go.Lib.hid hnew
              clear hst
              have hq := ed_neq y2 x2
              by_cases he2 : x2 = y2
              · subst he2
                rw [decide_eq_true rfl] at hq
                replace hsame := Go.Lib.hid (show ∀ q, CstK encE 5 26 w (wr.drewN q) base g c l iv (j + (m + 1) + 2) from hsame.out rfl)
                go_wp2_with fail
                go_quiet (fail)
                clear hy1 hy3 hy4 hy9 hy5 hy6 p0 p1 p2 p3 p4 q0 q1 q2 q3 q4 r0 r1 r2 r3 r4 z0 z1 z2 z3 z4 hw2 hz1 hz2 hz3 hnew hq
                go_wp2_with fail
                go_round
                case rel => exact ⟨iv, m + 1, hj1.out, hivn, rfl, rfl, hsame.out _⟩
                case measure => exact hmeas.out
              · rw [decide_eq_false (fun e => he2 e.symm)] at hq
                replace hnew := Go.Lib.hid (hnew.out he2)
                replace he2 := Go.Lib.hid he2
                go_wp2_with fail
                go_quiet (fail)
                clear hy4 hy9 hy5 p0 p1 p2 p3 p4 hsame hz1 hz2 hz3 hq
                go_wp2_with fail
                go_round
                case rel => exact ⟨iv + 1, m + 1, hj1.out, hiv2, rfl, rfl, hnew.out _⟩
                case measure => exact hmeas.out
            · have hx2 : j + m + 2 = l.length := by rw [← hN.out]; omega
              have hxz : ¬ ((m : Int) + 1 < ((n - (j + 1) : Nat) : Int)) := by omega
              obtain ⟨w', hrun, hlen, hrow, hgrn⟩ := hst.fin encE_len' hx2 (c - iv) 22 0 (.agg #[.string ⟨#[]⟩, .int .i64 0, .int .i64 0, .int .i64 0, .int .i64 0]) Try.underlying22 (fun w => by kernel_rfl) rfl (by decide) (by omega)
              rw [← hN.out] at hrun
              clear hst
              go_wp2_with fail
              go_ret
              exact ⟨c, rfl, hrow, hgrn⟩
        · rw [decide_eq_false (fun e => he e.symm)] at hq
          replace hnew := Go.Lib.hid (hnew.out he)
          replace he := Go.Lib.hid he
          go_wp2_with fail
          go_quiet (fail)
          clear hq
          go_wp2_with fail
          go_round
          case rel => exact ⟨j + 1, hlt, rfl, hnew.out _⟩
          case measure => exact hmeas0.out
      · have hx : j + 1 = n := by omega
        have hxz : ¬ ((j : Int) + 1 < (n : Int)) := by omega
        have hE : cL l = l := by
          have := hst.same
          rw [show j + 1 = l.length by rw [hx, hN.out], List.take_length] at this
          exact this
        have hR := hst.row
        have hG := hst.grown
        have hfin : ∃ c', (Value.slice (some ⟨g, 0, none⟩) n c) = .slice (some ⟨g, 0, none⟩) (cL l).length c' ∧ EdRow wr base g c' (cL l) ∧ w.grownBy wr (some g) := ⟨c, by rw [hE, ← hN.out], by rw [hE]; exact hR, hG⟩
        clear hst hR hG hE hx
        replace hfin := Go.Lib.hid hfin
        go_wp2_with fail
        go_ret
        obtain ⟨c', e1, e2, e3⟩ := hfin.out
        exact ⟨c', by rw [← e1]; rfl, e2, e3⟩
end Go.Proofs.Ytdepmcofnlggaaa.PResolverCycles
end
section
set_option linter.unusedVariables false
set_option linter.unusedSimpArgs false
attribute [local go_sem ↓] Go.wp_at_zero Go.wp_at_succ
namespace Go.Proofs.Ytdepmcofnlggaaa.PResolverCycles
open Go.RowKit Go.Proofs.YtdepmcofnlggaaaW.PrintWords Go.Proofs.YtdepmcofnlggaaaW.PrintLast Go.Proofs.YtdepmcofnlggaaaW.PrintMore
open Classical

/-- the values of a map of bools -/
def bV (f : S24 → Option Bool) (a : S24) : Option Value := (f a).map Value.bool
theorem bV_get (f : S24 → Option Bool) (a : S24) : (bV f a).getD (.bool false) = .bool ((f a).getD false) := by
  unfold bV
  cases f a <;> rfl
theorem bool_zero (w : World) : (zeroValue 4).run Try.prog w = .ok (.bool false) w := by kernel_rfl
theorem look79 {w : World} {mb : Nat} {f : S24 → Option Bool} (hM : MapIs w mb (bV f)) {a : S24} (ha : InId a) :
    (Instr.lookup 79 (.map (some mb)) (.agg #[.int .i64 a.f0, .int .i64 a.f1]) false).run Try.prog w = .ok (.bool ((f a).getD false)) w := by
  have hL := hM.lookup (t := 79) Try.underlying79 (bool_zero _) ha false
  rw [bV_get] at hL
  exact hL
set_option maxHeartbeats 1000000 in
set_option maxRecDepth 20000 in
theorem graph1_walk (w : World) (q mb : Nat) (f : S24 → Option Bool) (h0 : w.cell? ⟨q, 0, none⟩ = some (.map (some mb))) (hM : MapIs w mb (bV f)) (x : S26) (hx : InId x.f1) :
    Calls Try.prog 42 #[.agg #[.string x.f0, .int .i64 x.f1.f0, .int .i64 x.f1.f1, .int .i64 x.f2.f0, .int .i64 x.f2.f1], .pointer (some ⟨q, 0, none⟩)] w fun e w' => e = .returned (.bool ((f x.f1).getD false)) ∧ Below w.heap.size w w' := by
  have hB := below_alloc (Below.refl w.heap.size w) (.cells #[.string x.f0, .int .i64 x.f1.f0, .int .i64 x.f1.f1, .int .i64 x.f2.f0, .int .i64 x.f2.f1] 26)
  have hnew := heap_alloc_new w (.cells #[.string x.f0, .int .i64 x.f1.f0, .int .i64 x.f1.f1, .int .i64 x.f2.f0, .int .i64 x.f2.f1] 26)
  have k1 := blk_cell hnew 1
  have k2 := blk_cell hnew 2
  simp only [List.getElem?_toArray, List.getElem?_cons_zero, List.getElem?_cons_succ] at k1 k2
  clear hnew
  have hL := look79 (hM.below hB) hx
  replace h0 := pw_cell_below hB h0
  clear hM
  go_enter Try.func42, Try.ntmps42
  go_wp2_with fail
  go_ret
  exact ⟨rfl, hB⟩
/-- the filter of the edges, at a row of the call's own -/
theorem delGraph (w : World) (base g c q mb : Nat) (l : List S26) (f : S24 → Option Bool) (h0 : w.cell? ⟨q, 0, none⟩ = some (.map (some mb))) (hM : MapIs w mb (bV f)) (hR : EdRow w base g c l) (hq : q ≠ g) (hmb : mb ≠ g) (hm : l.length ≤ 1000000) (hin : ∀ x ∈ l, InId x.f1) :
    Calls Try.prog 41 #[.slice (some ⟨g, 0, none⟩) l.length c, .func (.func 42) #[] #[.pointer (some ⟨q, 0, none⟩)]] w fun e w' =>
      e = .returned (.slice (some ⟨g, 0, none⟩) (keepL (fun x : S26 => (f x.f1).getD false) l).length c) ∧ EdRow w' base g c (keepL (fun x : S26 => (f x.f1).getD false) l) ∧ w.grownBy w' (some g) :=
  delEd w base g c l 42 #[.pointer (some ⟨q, 0, none⟩)] (enters_of Try.func42 (by kernel_rfl) rfl) (fun x => (f x.f1).getD false) hR hm fun x hx u hu =>
    graph1_walk u q mb f (hu.cell h0 (fun e => hq (by injection e))) (hM.kept hu (fun e => hmb (by injection e))) x (hin x hx)
end Go.Proofs.Ytdepmcofnlggaaa.PResolverCycles
end
section
set_option linter.unusedVariables false
set_option linter.unusedSimpArgs false
attribute [local go_sem ↓] Go.wp_at_zero Go.wp_at_succ
namespace Go.Proofs.Ytdepmcofnlggaaa.PResolverCycles
open Go.RowKit Go.Proofs.YtdepmcofnlggaaaW.PrintWords Go.Proofs.YtdepmcofnlggaaaW.PrintLast Go.Proofs.YtdepmcofnlggaaaW.PrintMore
open Classical

theorem cpEd_none (w : World) (a : Option Addr) (c : Nat) : Calls Try.prog 45 #[.slice a 0 c] w fun e w' => e = .returned (.slice a 0 c) ∧ w' = w := by
  go_enter Try.func45, Try.ntmps45
  go_wp2_with fail
  go_ret
  exact ⟨rfl, rfl⟩
/-- in order, each once -/
def SortedE (l r : List S26) : Prop := r.Pairwise (fun a b => cmpE a b < 0) ∧ ∀ x, x ∈ r ↔ x ∈ l
theorem sortedE_nil : SortedE [] [] := ⟨List.Pairwise.nil, fun _ => Iff.rfl⟩
theorem sortedE_of {l s : List S26} (hp : s.Perm l) (hs : s.Pairwise (fun a b => ¬ cmpE b a < 0)) : SortedE l (cL s) :=
  ⟨cL_sorted ord_cmpE (fun _ _ => cmpE_zero) s hs, fun x => (cL_mem x s).trans hp.mem_iff⟩
theorem tot_E : Rc.Tot (fun a b : S26 => cmpE a b < 0) := ⟨fun a h => by have := ord_cmpE.anti a a; omega, fun h1 h2 => ord_cmpE.lt h1 (Int.le_of_lt h2), fun a b => by
  have h1 := ord_cmpE.anti b a
  by_cases h2 : cmpE a b = 0
  · exact .inr (.inl (cmpE_zero.1 h2))
  · by_cases h3 : cmpE a b < 0
    · exact .inl h3
    · exact .inr (.inr (h1.2 (by omega)))⟩
theorem sortedE_one {l r s : List S26} (h1 : SortedE l r) (h2 : SortedE l s) : r = s := Rc.sorted_one tot_E h1.1 h2.1 fun x => (h1.2 x).trans (h2.2 x).symm
end Go.Proofs.Ytdepmcofnlggaaa.PResolverCycles
end
section
set_option linter.unusedVariables false
set_option linter.unusedSimpArgs false
namespace Go.Proofs.Ytdepmcofnlggaaa.PResolverCycles
open Go.RowKit Go.Proofs.YtdepmcofnlggaaaW.PrintWords Go.Proofs.YtdepmcofnlggaaaW.PrintLast Go.Proofs.YtdepmcofnlggaaaW.PrintMore
open Classical

theorem reps_fl {α : Type} {enc : α → List Value} {k : Nat} {R : α → List Value → Prop} (hk : ∀ x, (enc x).length = k) (hk0 : 0 < k) (hR : ∀ x cs, R x cs → cs = enc x) (l : List α) (cs : List Value) (h : Reps R k l cs) : cs = fl enc l := by
  apply List.ext_getElem?
  intro t
  by_cases ht : t < l.length * k
  · have hj : t / k < l.length := Nat.div_lt_of_lt_mul (by rw [Nat.mul_comm]; exact ht)
    have hm : t % k < k := Nat.mod_lt _ hk0
    have htt : t / k * k + t % k = t := by rw [Nat.mul_comm]; exact Nat.div_add_mod t k
    have h1 := hR _ _ (h.2 (t / k) _ (List.getElem?_eq_getElem hj))
    have h2 : cs[t]? = ((cs.drop (t / k * k)).take k)[t % k]? := by
      rw [List.getElem?_take, if_pos hm, List.getElem?_drop, htt]
    have q := fl_at hk l (t / k) hj (t % k) hm
    rw [htt] at q
    rw [h2, h1, q]
  · rw [List.getElem?_eq_none (by rw [h.1]; omega), List.getElem?_eq_none (by rw [fl_len hk]; omega)]
/-- a row of edges of the print's, as mine -/
theorem edrow_of {w : World} {base : Nat} {ok : Nat → Prop} {v : Value} {l : List S26} (h : Kd.R k26 26 w base ok v l) : (v = .slice none 0 0 ∧ l = []) ∨ ∃ g c, v = .slice (some ⟨g, 0, none⟩) l.length c ∧ EdRow w base g c l ∧ base ≤ g := by
  obtain ⟨_, inner, ho, hr⟩ := h
  have hi := reps_fl (enc := encE) encE_len' (by omega) (fun x cs hx => k26_openM hx) l inner hr
  rw [hi] at ho
  have ho' := ho
  rcases ho'.2 with ⟨h0, h1⟩ | ⟨g, c, cur, rfl, hb, _, hc, _⟩
  · exact .inl ⟨h0, List.length_eq_zero_iff.1 h1⟩
  · exact .inr ⟨g, c, rfl, ho, hb⟩
/-- .. and read as the print reads -/
theorem edrow_reads {w : World} {base g c : Nat} {l : List S26} (h : EdRow w base g c l) (hl : l.length ≤ 1000000) : Kd.C k26 w (some ⟨g, 0, none⟩) l.length l := by
  refine ⟨rfl, by omega, fun _ => ⟨_, rfl, fun j p hp => ⟨encE p, rfl, k26_mk w p, fun i u hu => ?_⟩⟩⟩
  have := row_cellz encE_len' h hp i u hu
  show w.cell? ((⟨g, 0, none⟩ : Addr).add (j * 5 + i)) = some u
  rw [add_plain]
  exact this
end Go.Proofs.Ytdepmcofnlggaaa.PResolverCycles
end
section
set_option linter.unusedVariables false
set_option linter.unusedSimpArgs false
namespace Go.Proofs.Ytdepmcofnlggaaa.PResolverCycles
open Go.RowKit Go.Proofs.YtdepmcofnlggaaaW.PrintWords Go.Proofs.YtdepmcofnlggaaaW.PrintLast Go.Proofs.YtdepmcofnlggaaaW.PrintMore
open Classical

theorem idrow_of {w : World} {base : Nat} {ok : Nat → Prop} {v : Value} {l : List S24} (h : Kd.R k24 24 w base ok v l) : (v = .slice none 0 0 ∧ l = []) ∨ ∃ g c, v = .slice (some ⟨g, 0, none⟩) l.length c ∧ IdRow w base g c l ∧ base ≤ g := by
  obtain ⟨_, inner, ho, hr⟩ := h
  have hi := reps_fl (enc := encId) (k := 2) (fun _ => rfl) (by omega) (fun x cs hx => k24_openM hx) l inner hr
  rw [hi] at ho
  have ho' := ho
  rcases ho'.2 with ⟨h0, h1⟩ | ⟨g, c, cur, rfl, hb, _, hc, _⟩
  · exact .inl ⟨h0, List.length_eq_zero_iff.1 h1⟩
  · exact .inr ⟨g, c, rfl, ho, hb⟩
/-- a literal of one identity, read -/
theorem id_lit (w : World) (a : S24) : ReadsRow (k24.K (w.alloc (.cells #[.int .i64 a.f0, .int .i64 a.f1] 24))) 2 (w.alloc (.cells #[.int .i64 a.f0, .int .i64 a.f1] 24)) (some ⟨w.heap.size, 0, none⟩) 1 [a] := by
  have hnew := heap_alloc_new w (.cells #[.int .i64 a.f0, .int .i64 a.f1] 24)
  have k0 := blk_cell hnew 0
  have k1 := blk_cell hnew 1
  simp only [List.getElem?_toArray, List.getElem?_cons_zero, List.getElem?_cons_succ] at k0 k1
  refine ⟨rfl, by omega, fun _ => ⟨_, rfl, fun j p hp => ⟨encId p, rfl, k24_mk _ p, fun i u hu => ?_⟩⟩⟩
  have hj : j = 0 := by have := (List.getElem?_eq_some_iff.1 hp).1; simp at this; omega
  subst hj
  cases hp
  rw [add_plain]
  match i, hu with
  | 0, hu => cases hu; exact k0
  | 1, hu => cases hu; exact k1
end Go.Proofs.Ytdepmcofnlggaaa.PResolverCycles
end
section
set_option linter.unusedVariables false
set_option linter.unusedSimpArgs false
attribute [local go_sem ↓] Go.wp_at_zero Go.wp_at_succ
namespace Go.Proofs.Ytdepmcofnlggaaa.PResolverCycles
open Go.RowKit Go.Shelf Go.Proofs.YtdepmcofnlggaaaW.PrintWords Go.Proofs.YtdepmcofnlggaaaW.PrintLast Go.Proofs.YtdepmcofnlggaaaW.PrintMore
open Classical

/-- a row of identities, owned from further up -/
theorem idrow_base {w : World} {b b' g c : Nat} {l : List S24} (h : IdRow w b g c l) (hb : b' ≤ b) : IdRow w b' g c l := by
  have h' : Row encId 2 24 w b g c l := h
  obtain ⟨cur, rest, e1, e2, e3, e4, e5, e6⟩ := row_form h'
  exact row_mk (enc := encId) (k := 2) (fun _ => rfl) e1 (by omega) e3 e4 e5 e6
/-- what age.Sort gives -/
def SortPost (b : Nat) (w : World) (l : List S24) (e : Ending) (w' : World) : Prop := ∃ sa sc s, e = .returned (.slice sa s.length sc) ∧ Rc.SortedOf ltI l s ∧ (s ≠ [] → ∃ g, sa = some ⟨g, 0, none⟩ ∧ IdRow w' b g sc s) ∧ Below b w w'
theorem age_sort_row (w : World) (base g c : Nat) (l : List S24) (h : IdRow w base g c l) (hm : l.length ≤ 1000000) :
    Calls Try.prog 26 #[.slice (some ⟨g, 0, none⟩) l.length c] w (SortPost w.heap.size w l) := by
  by_cases e : l = []
  · subst e
    refine (age_sort_empty w g c).mono ?_
    rintro e' w' ⟨a, rfl, hb⟩
    exact ⟨a, 0, [], rfl, ⟨List.Pairwise.nil, fun _ => Iff.rfl⟩, fun h => absurd rfl h, hb⟩
  · refine (age_sort w ⟨g, 0, none⟩ c l (idrow_ids h) (List.length_pos_iff.2 e) (by omega)).mono ?_
    rintro e' w' ⟨g', c', s, rfl, hs, hr', hb⟩
    exact ⟨_, c', s, rfl, hs, fun _ => ⟨g', rfl, hr'⟩, hb⟩
def leftIds (x : S45) : List S24 := (x.f1 ++ x.f2).map (·.f1) ++ x.f4.map (·.f3)
noncomputable def leftP (x : S45) : List S24 := keepL (fun id => x.f5.any (livesP id)) (leftIds x)

set_option maxHeartbeats 2000000 in
set_option maxRecDepth 20000 in
theorem left_start (w : World) (x : S45) (cs : List Value) (hK : k45.K w x cs) (hL : x.f1.length ≤ 1000) (hW : x.f2.length ≤ 1000) (hI : x.f4.length ≤ 1000) (hT : x.f5.length ≤ 1000000) :
    Calls Try.prog 16 #[.agg ⟨cs⟩] w (SortPost w.heap.size w (leftP x)) := by
  obtain ⟨A1, c1, A2, c2, A3, c3, A4, c4, A5, c5, A6, c6, rfl, l1, g1, l2, g2, l3, g3, l4, g4, l5, g5, l6, g6⟩ := k45_open hK
  clear hK
  show Calls Try.prog 16 #[.agg #[.int .i64 x.f0, .slice A1 x.f1.length c1, .slice A2 x.f2.length c2, .slice A3 x.f3.length c3, .slice A4 x.f4.length c4, .slice A5 x.f5.length c5, .slice A6 x.f6.length c6]] w _
  have hB := below_alloc (Below.refl w.heap.size w) (.cells #[.int .i64 x.f0, .slice A1 x.f1.length c1, .slice A2 x.f2.length c2, .slice A3 x.f3.length c3, .slice A4 x.f4.length c4, .slice A5 x.f5.length c5, .slice A6 x.f6.length c6] 45)
  have hVs : w.heap.size < (w.alloc (.cells #[.int .i64 x.f0, .slice A1 x.f1.length c1, .slice A2 x.f2.length c2, .slice A3 x.f3.length c3, .slice A4 x.f4.length c4, .slice A5 x.f5.length c5, .slice A6 x.f6.length c6] 45)).heap.size := by simp
  replace hVs := Go.Lib.hid hVs
  have hnew := heap_alloc_new w (.cells #[.int .i64 x.f0, .slice A1 x.f1.length c1, .slice A2 x.f2.length c2, .slice A3 x.f3.length c3, .slice A4 x.f4.length c4, .slice A5 x.f5.length c5, .slice A6 x.f6.length c6] 45)
  have k1 := blk_cell hnew 1
  have k2 := blk_cell hnew 2
  have k4 := blk_cell hnew 4
  have k5 := blk_cell hnew 5
  simp only [List.getElem?_toArray, List.getElem?_cons_zero, List.getElem?_cons_succ] at k1 k2 k4 k5
  clear hnew
  replace g1 := Kd.C_below g1 hB
  replace g2 := Kd.C_below g2 hB
  replace g4 := Kd.C_below g4 hB
  replace g5 := Kd.C_below g5 hB
  clear g3 g6
  generalize hV : w.alloc (.cells #[.int .i64 x.f0, .slice A1 x.f1.length c1, .slice A2 x.f2.length c2, .slice A3 x.f3.length c3, .slice A4 x.f4.length c4, .slice A5 x.f5.length c5, .slice A6 x.f6.length c6] 45) = V at *
  have hc := heap_alloc_new V (.cells #[.slice A1 x.f1.length c1, .slice A2 x.f2.length c2] 39)
  have hb1 := below_alloc (Below.refl V.heap.size V) (.cells #[.slice A1 x.f1.length c1, .slice A2 x.f2.length c2] 39)
  have d0 := blk_cell hc 0
  have d1 := blk_cell hc 1
  simp only [List.getElem?_toArray, List.getElem?_cons_zero, List.getElem?_cons_succ] at d0 d1
  clear hc
  have HC := concat_walk (V.alloc (.cells #[.slice A1 x.f1.length c1, .slice A2 x.f2.length c2] 39)) V.heap.size A1 A2 c1 c2 x.f1 x.f2 d0 d1 (Kd.C_below g1 hb1) (Kd.C_below g2 hb1) hL hW
  clear d0 d1 g1 g2
  go_enter Try.func16, Try.ntmps16
  go_upto_region 2 with fail
  go_upto_region 3 with (go_at_call 48; refine HC.mono ?_; rintro e u ⟨v, rfl, hv, hu⟩; obtain ⟨B, cB, rfl, hcB, hCB⟩ := Kd.R_reads hv; obtain ⟨n, hN⟩ : ∃ n, n = (x.f1 ++ x.f2).length := ⟨_, rfl⟩; rw [← hN]; replace hN := Go.Lib.hid hN)
  have hnl : n ≤ 2000 := by rw [hN.out, List.length_append]; omega
  generalize hLx : x.f1 ++ x.f2 = L at *
  replace hLx := Go.Lib.hid hLx
  have hwu : w.heap.size < u.heap.size := by have := hB.size; have := hb1.size; have := hu.size; have := hVs.out; omega
  replace hwu := Go.Lib.hid hwu
  replace hCB := Go.Lib.hid (fun (W : World) (hb : Below u.heap.size u W) => Kd.C_below hCB hb)
  have hk4 := Go.Lib.hid (fun (W : World) (hb : Below u.heap.size u W) => pw_cell_below hb (pw_cell_below hu (pw_cell_below hb1 k4)))
  have hg4 := Go.Lib.hid (fun (W : World) (hb : Below u.heap.size u W) => Kd.C_below (Kd.C_below (Kd.C_below g4 hb1) hu) hb)
  have hk5 := Go.Lib.hid (fun (W : World) (hb : Below u.heap.size u W) => pw_cell_below hb (pw_cell_below hu (pw_cell_below hb1 k5)))
  have hg5 := Go.Lib.hid (fun (W : World) (hb : Below u.heap.size u W) => Kd.C_below (Kd.C_below (Kd.C_below g5 hb1) hu) hb)
  have hBu : Below w.heap.size w u := hB.trans ((hb1.mono hB.size).trans (hu.mono (Nat.le_trans hB.size hb1.size)))
  replace hBu := Go.Lib.hid hBu
  clear HC hv hcB k1 k2 k4 k5 g4 g5
  go_loopw [3, 16] (fun s i wr => ∃ j : Nat, j ≤ n ∧ i = .int .i64 (j : Int) ∧ Below u.heap.size u wr ∧ Kd.R k24 24 wr u.heap.size (fun _ => True) s ((L.take j).map (·.f1))) (fun _ i _ => n - (intOf i).toNat)
  case atStart => exact ⟨0, by omega, rfl, Below.refl _ _, Kd.R_nil _ _ _ _ _⟩
  case round =>
    obtain ⟨j, hj, rfl, hBr, hO⟩ := hrel
    by_cases hlt : j < n
    · have hltz : (j : Int) < (n : Int) := by omega
      have hjl : j < L.length := by rw [← hN.out]; exact hlt
      obtain ⟨G, O, hA, hcells⟩ := locks_plain (hCB.out wr hBr) (by omega)
      subst hA
      obtain ⟨a0, a1, a2, a3⟩ := hcells j hjl
      have htk := take_one' L j hjl
      have hxl : ((L.take j).map (·.f1)).length ≤ 2000 := by rw [List.length_map, List.length_take]; omega
      replace htk := Go.Lib.hid htk
      replace hxl := Go.Lib.hid hxl
      clear hcells
      generalize L[j] = y at *
      have hb2 := below_alloc (Below.refl wr.heap.size wr) (.cells #[.string y.f0, .int .i64 y.f1.f0, .int .i64 y.f1.f1, .int .i64 y.f2] 91)
      have hy := heap_alloc_new wr (.cells #[.string y.f0, .int .i64 y.f1.f0, .int .i64 y.f1.f1, .int .i64 y.f2] 91)
      have e1 := blk_cell hy 1
      have e2 := blk_cell hy 2
      simp only [List.getElem?_toArray, List.getElem?_cons_zero, List.getElem?_cons_succ] at e1 e2
      clear hy
      replace hO := Kd.R_below hO hb2
      replace hBr := hBr.trans (hb2.mono hBr.size)
      go_upto_region 5 with fail
      generalize wr.alloc (.cells #[.string y.f0, .int .i64 y.f1.f0, .int .i64 y.f1.f1, .int .i64 y.f2] 91) = V2 at *
      generalize wr.heap.size = g2 at *
      clear a0 a1 a2 a3 hb2
      have hb3 := below_alloc (Below.refl V2.heap.size V2) (.cells #[.int .i64 y.f1.f0, .int .i64 y.f1.f1] 24)
      have hO2 := Kd.R_below hO hb3
      have hB2 := hBr.trans (hb3.mono hBr.size)
      have hme : n - (j + 1) < n - j := by omega
      replace hme := Go.Lib.hid hme
      clear hb3 hO hBr
      go_wp2_with (at_builtin; refine Kd.R_append_rows k24 u.heap.size rfl (.tmp 20) (.tmp 23) 27 24 _ 16 rfl Try.underlying27 info24 rfl (by decide) (by omega) _ _ [y.f1] (some ⟨V2.heap.size, 0, none⟩) 1 1 (fun _ => True) (fun _ => False) rfl rfl hO2 (id_lit V2 y.f1) (fun x cs hx => by have := k24_open hx; subst this; exact k24_mkM _ _ _ x) (fun _ h => h.elim) (fun _ _ => trivial) hB2 hB2.size (by have := hxl.out; simp at this ⊢; omega) ?_; intro v1 w1 hO1 hB1 hg1 hat1; clear hat1 hg1; replace hO1 := Go.Lib.hid hO1; replace hB1 := Go.Lib.hid hB1)
      go_round
      case rel => exact ⟨j + 1, hlt, rfl, hB1.out, by rw [htk.out, List.map_append]; exact hO1.out⟩
      case measure => simpa [intOf] using hme.out
    · obtain rfl : j = n := by omega
      have hT : L.take j = L := by rw [hN.out, List.take_length]
      rw [hT] at hO
      clear hT
      have k4w := hk4.out wr hBr
      have hC4 := hg4.out wr hBr
      have hol : (L.map (·.f1)).length ≤ 2000 := by rw [List.length_map, ← hN.out]; omega
      obtain ⟨O1, hO1⟩ : ∃ y, y = L.map (·.f1) := ⟨_, rfl⟩
      rw [← hO1] at hO hol
      replace hO1 := Go.Lib.hid hO1
      obtain ⟨m, hM⟩ : ∃ n, n = x.f4.length := ⟨_, rfl⟩
      rw [← hM] at k4w hI
      replace hM := Go.Lib.hid hM
      replace hol := Go.Lib.hid hol
      obtain ⟨g1, hg1⟩ : ∃ y, y = wr.heap.size := ⟨_, rfl⟩
      obtain ⟨b0, hb0⟩ : ∃ y, y = u.heap.size := ⟨_, rfl⟩
      obtain ⟨wa, hwa⟩ : ∃ y, y = wr := ⟨_, rfl⟩
      subst hwa
      go_upto_region 8 with fail
      clear k4w
      go_loopw [3, 29] (fun s i wr => ∃ j : Nat, j ≤ m ∧ i = .int .i64 (j : Int) ∧ Below u.heap.size u wr ∧ Kd.R k24 24 wr u.heap.size (fun _ => True) s (O1 ++ (x.f4.take j).map (·.f3))) (fun _ i _ => m - (intOf i).toNat)
      case atStart => exact ⟨0, by omega, rfl, hBr, by simpa using hO⟩
      case round =>
        clear hO hBr hC4
        obtain ⟨j, hj, rfl, hBr, hO⟩ := hrel
        by_cases hlt : j < m
        · have hltz : (j : Int) < (m : Int) := by omega
          have hjl : j < x.f4.length := by rw [← hM.out]; exact hlt
          obtain ⟨G, O, hA, hcells⟩ := intents_plain (hg4.out wr hBr) (by omega)
          subst hA
          obtain ⟨a0, a1, a2, a3, a4⟩ := hcells j hjl
          have htk := take_one' x.f4 j hjl
          have hxl : (O1 ++ (x.f4.take j).map (·.f3)).length ≤ 4000 := by have := hol.out; rw [List.length_append, List.length_map, List.length_take]; omega
          replace htk := Go.Lib.hid htk
          replace hxl := Go.Lib.hid hxl
          clear hcells
          generalize x.f4[j] = y at *
          have hb2 := below_alloc (Below.refl wr.heap.size wr) (.cells #[.string y.f0, .string y.f1, .bool y.f2, .int .i64 y.f3.f0, .int .i64 y.f3.f1] 93)
          have hy := heap_alloc_new wr (.cells #[.string y.f0, .string y.f1, .bool y.f2, .int .i64 y.f3.f0, .int .i64 y.f3.f1] 93)
          have e3 := blk_cell hy 3
          have e4 := blk_cell hy 4
          simp only [List.getElem?_toArray, List.getElem?_cons_zero, List.getElem?_cons_succ] at e3 e4
          clear hy
          replace hO := Kd.R_below hO hb2
          replace hBr := hBr.trans (hb2.mono hBr.size)
          go_upto_region 10 with fail
          generalize wr.alloc (.cells #[.string y.f0, .string y.f1, .bool y.f2, .int .i64 y.f3.f0, .int .i64 y.f3.f1] 93) = V2 at *
          generalize wr.heap.size = g2 at *
          clear a0 a1 a2 a3 a4 hb2
          have hb3 := below_alloc (Below.refl V2.heap.size V2) (.cells #[.int .i64 y.f3.f0, .int .i64 y.f3.f1] 24)
          have hO2 := Kd.R_below hO hb3
          have hB2 := hBr.trans (hb3.mono hBr.size)
          have hme : m - (j + 1) < m - j := by omega
          replace hme := Go.Lib.hid hme
          clear hb3 hO hBr
          go_wp2_with (at_builtin; refine Kd.R_append_rows k24 u.heap.size rfl (.tmp 33) (.tmp 36) 27 24 _ 16 rfl Try.underlying27 info24 rfl (by decide) (by omega) _ _ [y.f3] (some ⟨V2.heap.size, 0, none⟩) 1 1 (fun _ => True) (fun _ => False) rfl rfl hO2 (id_lit V2 y.f3) (fun x cs hx => by have := k24_open hx; subst this; exact k24_mkM _ _ _ x) (fun _ h => h.elim) (fun _ _ => trivial) hB2 hB2.size (by have := hxl.out; simp at this ⊢; omega) ?_; intro v1 w1 hO1' hB1 hg1' hat1; clear hat1 hg1'; replace hO1' := Go.Lib.hid hO1'; replace hB1 := Go.Lib.hid hB1)
          go_round
          case rel => exact ⟨j + 1, hlt, rfl, hB1.out, by rw [htk.out, List.map_append, ← List.append_assoc]; exact hO1'.out⟩
          case measure => simpa [intOf] using hme.out
        · obtain rfl : j = m := by omega
          have hT : x.f4.take j = x.f4 := by rw [hM.out, List.take_length]
          rw [hT] at hO
          clear hT
          have hL2 : O1 ++ x.f4.map (·.f3) = leftIds x := by rw [hO1.out, ← hLx.out]; rfl
          rw [hL2] at hO
          have hlen : (leftIds x).length ≤ 1000000 := by rw [← hL2]; have := hol.out; rw [List.length_append, List.length_map, ← hM.out]; omega
          clear hL2
          have hBw : Below w.heap.size w wr := hBu.out.trans (hBr.mono hBu.out.size)
          have hus := hBr.size
          have hgu : w.heap.size < u.heap.size := hwu.out
          obtain ⟨l, hl⟩ : ∃ l, l = leftIds x := ⟨_, rfl⟩
          rw [← hl] at hO hlen
          have hPost : keepL (fun id => x.f5.any (livesP id)) l = leftP x := by rw [hl]; rfl
          replace hPost := Go.Lib.hid hPost
          clear hl
          rcases idrow_of hO with ⟨rfl, rfl⟩ | ⟨g, c, rfl, hrow, hgb⟩
          · have H1 := delId_none wr 49 #[.pointer (some ⟨w.heap.size, 0, none⟩)]
            have H2 := age_sort_none wr
            clear hO
            replace hBw := Go.Lib.hid hBw
            go_wp2_with (first | (go_at_call 52; refine H1.mono ?_; rintro e w1 ⟨rfl, rfl⟩) | (go_at_call 26; refine H2.mono ?_; rintro e w2 ⟨rfl, rfl⟩))
            go_ret
            rw [← hPost.out]
            exact ⟨none, 0, [], rfl, ⟨List.Pairwise.nil, fun _ => Iff.rfl⟩, fun h => absurd rfl h, hBw.out⟩
          · have H1 := delId wr u.heap.size g c l 49 #[.pointer (some ⟨w.heap.size, 0, none⟩)] (enters_of Try.func49 (by kernel_rfl) rfl) (fun id => x.f5.any (livesP id)) hrow hlen (fun id hid W hW =>
              left1_walk W w.heap.size id A5 c5 x.f5 (hk5.out W (below_own hBr hW hgb)) (hg5.out W (below_own hBr hW hgb)) hT)
            clear hO
            have hkl := keepL_len (p := fun id => x.f5.any (livesP id)) l
            generalize keepL (fun id => x.f5.any (livesP id)) l = K at *
            go_wp2_with (first | (go_at_call 52; refine H1.mono ?_; rintro e w1 ⟨rfl, hrow1, hgr1⟩; have H2 := age_sort_row w1 u.heap.size g c K hrow1 (by omega)) | (go_at_call 26; refine H2.mono ?_; rintro e w2 ⟨sa, sc, s, rfl, hs, hr2, hb2⟩))
            go_ret
            have hBw1 : Below w.heap.size w w1 := below_own hBw hgr1 (by omega)
            rw [← hPost.out]
            exact ⟨sa, sc, s, rfl, hs, fun h => by obtain ⟨g', e1, e2⟩ := hr2 h; exact ⟨g', e1, idrow_base e2 hBw1.size⟩, hBw1.trans (hb2.mono hBw1.size)⟩
end Go.Proofs.Ytdepmcofnlggaaa.PResolverCycles
end
section
set_option linter.unusedVariables false
set_option linter.unusedSimpArgs false
namespace Go.Proofs.Ytdepmcofnlggaaa.PResolverCycles
open Go.RowKit Go.Proofs.YtdepmcofnlggaaaW.PrintWords Go.Proofs.YtdepmcofnlggaaaW.PrintLast Go.Proofs.YtdepmcofnlggaaaW.PrintMore
open Classical

/-- a state lies here -/
structure FoldAt (w : World) (G O : Nat) (x : S45) (A1 : Option Addr) (c1 : Nat) (A2 : Option Addr) (c2 : Nat) (A3 : Option Addr) (c3 : Nat) (A4 : Option Addr) (c4 : Nat) (A5 : Option Addr) (c5 : Nat) (A6 : Option Addr) (c6 : Nat) : Prop where
  k0 : w.cell? ⟨G, O, none⟩ = some (.int .i64 x.f0)
  k1 : w.cell? ⟨G, O + 1, none⟩ = some (.slice A1 x.f1.length c1)
  k2 : w.cell? ⟨G, O + 2, none⟩ = some (.slice A2 x.f2.length c2)
  k3 : w.cell? ⟨G, O + 3, none⟩ = some (.slice A3 x.f3.length c3)
  k4 : w.cell? ⟨G, O + 4, none⟩ = some (.slice A4 x.f4.length c4)
  k5 : w.cell? ⟨G, O + 5, none⟩ = some (.slice A5 x.f5.length c5)
  k6 : w.cell? ⟨G, O + 6, none⟩ = some (.slice A6 x.f6.length c6)
  l1 : x.f1.length ≤ c1
  g1 : Kd.C k91 w A1 x.f1.length x.f1
  l2 : x.f2.length ≤ c2
  g2 : Kd.C k91 w A2 x.f2.length x.f2
  l3 : x.f3.length ≤ c3
  g3 : Kd.C k140 w A3 x.f3.length x.f3
  l4 : x.f4.length ≤ c4
  g4 : Kd.C k93 w A4 x.f4.length x.f4
  l5 : x.f5.length ≤ c5
  g5 : Kd.C k81 w A5 x.f5.length x.f5
  l6 : x.f6.length ≤ c6
  g6 : Kd.C k109 w A6 x.f6.length x.f6
theorem FoldAt.below {w w' : World} {G O : Nat} {x : S45} {A1 : Option Addr} {c1 : Nat} {A2 : Option Addr} {c2 : Nat} {A3 : Option Addr} {c3 : Nat} {A4 : Option Addr} {c4 : Nat} {A5 : Option Addr} {c5 : Nat} {A6 : Option Addr} {c6 : Nat}
    (h : FoldAt w G O x A1 c1 A2 c2 A3 c3 A4 c4 A5 c5 A6 c6) (hb : Below w.heap.size w w') : FoldAt w' G O x A1 c1 A2 c2 A3 c3 A4 c4 A5 c5 A6 c6 :=
  ⟨pw_cell_below hb h.k0, pw_cell_below hb h.k1, pw_cell_below hb h.k2, pw_cell_below hb h.k3, pw_cell_below hb h.k4, pw_cell_below hb h.k5, pw_cell_below hb h.k6,
    h.l1, Kd.C_below h.g1 hb, h.l2, Kd.C_below h.g2 hb, h.l3, Kd.C_below h.g3 hb, h.l4, Kd.C_below h.g4 hb, h.l5, Kd.C_below h.g5 hb, h.l6, Kd.C_below h.g6 hb⟩
theorem rd_T45_at (l : List S45) (i : Nat) (h : i < l.length) : rd_T45 l (i : Int) = l[i] := by
  unfold rd_T45
  rw [Int.toNat_natCast, List.getD_eq_getElem?_getD, List.getElem?_eq_getElem h]
  rfl
theorem folds_plain {w : World} {A : Option Addr} {l : List S45} (h : Kd.C k45 w A l.length l) (hp : 0 < l.length) : ∃ G O, A = some ⟨G, O, none⟩ ∧ ∀ i (hi : i < l.length),
    ∃ A1 c1 A2 c2 A3 c3 A4 c4 A5 c5 A6 c6, FoldAt w G (O + i * 7) l[i] A1 c1 A2 c2 A3 c3 A4 c4 A5 c5 A6 c6 := by
  obtain ⟨ad, A1, c1, A2, c2, A3, c3, A4, c4, A5, c5, A6, c6, e, hz, _⟩ := at_T45 h 0 (by omega) (by omega)
  have hpl : ad = ⟨ad.block, ad.off, none⟩ := spot_plain (i := 0) (a := ad) (by simpa [Addr.add] using hz)
  clear hz
  refine ⟨ad.block, ad.off, by rw [e, ← hpl], fun i hi => ?_⟩
  obtain ⟨ad', A1, c1, A2, c2, A3, c3, A4, c4, A5, c5, A6, c6, e', h0, h1, h2, h3, h4, h5, h6, l1, g1, l2, g2, l3, g3, l4, g4, l5, g5, l6, g6⟩ := at_T45 h (i : Int) (by omega) (by omega)
  obtain rfl : ad = ad' := by rw [e] at e'; exact Option.some.inj e'
  rw [hpl, Int.toNat_natCast, add_off] at h0 h1 h2 h3 h4 h5 h6
  rw [rd_T45_at l i hi] at h0 h1 h2 h3 h4 h5 h6 l1 g1 l2 g2 l3 g3 l4 g4 l5 g5 l6 g6
  exact ⟨A1, c1, A2, c2, A3, c3, A4, c4, A5, c5, A6, c6, h0, h1, h2, h3, h4, h5, h6, l1, g1, l2, g2, l3, g3, l4, g4, l5, g5, l6, g6⟩
/-- one transaction more: is it wounded? -/
noncomputable def wnd1 (f : S24 → Option Bool) (t : S81) : S24 → Option Bool := fun a => if a = t.f0 then some ((f t.f0).getD false || t.f3) else f a
noncomputable def wndL (l : List S81) (f : S24 → Option Bool) : S24 → Option Bool := l.foldl wnd1 f
noncomputable def wndF (l : List S45) : S24 → Option Bool := l.foldl (fun f x => wndL x.f5 f) (fun _ => none)
theorem wndL_step (l : List S81) (f : S24 → Option Bool) (j : Nat) (h : j < l.length) : wndL (l.take (j + 1)) f = wnd1 (wndL (l.take j) f) l[j] := by
  unfold wndL
  rw [List.take_add_one, List.getElem?_eq_getElem h, Option.toList_some, List.foldl_append]
  rfl
theorem wndF_step (l : List S45) (j : Nat) (h : j < l.length) : wndF (l.take (j + 1)) = wndL l[j].f5 (wndF (l.take j)) := by
  unfold wndF
  rw [List.take_add_one, List.getElem?_eq_getElem h, Option.toList_some, List.foldl_append]
  rfl
noncomputable def hurtP (a : S24) (t : S81) : Bool := decide (t.f0 = a) && t.f3
theorem wndL_is (a : S24) : ∀ (l : List S81) (f : S24 → Option Bool), (wndL l f a).getD false = ((f a).getD false || l.any (hurtP a))
  | [], f => by simp [wndL]
  | t :: l, f => by
    have h := wndL_is a l (wnd1 f t)
    unfold wndL at h ⊢
    rw [List.foldl_cons, h, List.any_cons]
    unfold wnd1 hurtP
    by_cases e : a = t.f0
    · subst e
      rw [if_pos rfl, Option.getD_some, Bool.or_assoc]
      simp
    · rw [if_neg e]
      have : decide (t.f0 = a) = false := decide_eq_false fun h => e h.symm
      rw [this, Bool.false_and, Bool.false_or]
theorem wndF_is (a : S24) (l : List S45) : (wndF l a).getD false = l.any fun x => x.f5.any (hurtP a) := by
  have key : ∀ (l : List S45) (f : S24 → Option Bool), ((l.foldl (fun f x => wndL x.f5 f) f) a).getD false = ((f a).getD false || l.any fun x => x.f5.any (hurtP a)) := by
    intro l
    induction l with
    | nil => intro f; simp
    | cons x l ih =>
      intro f
      rw [List.foldl_cons, ih, wndL_is, List.any_cons, Bool.or_assoc]
  unfold wndF
  rw [key]
  rfl
/-- all edges -/
noncomputable def allE (l : List S45) : List S26 := l.flatMap fun x => edgesP x.f1 x.f2
theorem allE_step (l : List S45) (j : Nat) (h : j < l.length) : allE (l.take (j + 1)) = allE (l.take j) ++ edgesP l[j].f1 l[j].f2 := by
  unfold allE
  rw [List.take_add_one, List.getElem?_eq_getElem h, Option.toList_some, List.flatMap_append]
  simp
theorem edgesP_mem {locks waits : List S91} {e : S26} (h : e ∈ edgesP locks waits) : ∃ w ∈ waits, ∃ k ∈ locks, e = ⟨w.f0, w.f1, k.f1⟩ := by
  unfold edgesP at h
  obtain ⟨w, hw, h⟩ := List.mem_flatMap.1 h
  obtain ⟨k, hk, h⟩ := List.mem_flatMap.1 h
  refine ⟨w, hw, k, hk, ?_⟩
  unfold edge1 at h
  split at h
  · simpa using h
  · cases h
theorem allE_mem {l : List S45} {e : S26} (h : e ∈ allE l) : ∃ x ∈ l, ∃ w ∈ x.f2, ∃ k ∈ x.f1, e = ⟨w.f0, w.f1, k.f1⟩ := by
  obtain ⟨x, hx, h⟩ := List.mem_flatMap.1 h
  obtain ⟨w, hw, k, hk, e⟩ := edgesP_mem h
  exact ⟨x, hx, w, hw, k, hk, e⟩
/-- what the walk of Graph asks of the states -/
structure FoldsOk (l : List S45) : Prop where
  n : l.length ≤ 8
  locks : ∀ x ∈ l, x.f1.length ≤ 60
  waits : ∀ x ∈ l, x.f2.length ≤ 60
  txs : ∀ x ∈ l, x.f5.length ≤ 1000
  wid : ∀ x ∈ l, ∀ k ∈ x.f2, InId k.f1
  tid : ∀ x ∈ l, ∀ t ∈ x.f5, InId t.f0
theorem allE_len : ∀ l : List S45, (∀ x ∈ l, x.f1.length ≤ 60) → (∀ x ∈ l, x.f2.length ≤ 60) → (allE l).length ≤ l.length * 3600
  | [], _, _ => by simp [allE]
  | x :: l, h1, h2 => by
    have h := allE_len l (fun y hy => h1 y (List.mem_cons_of_mem _ hy)) (fun y hy => h2 y (List.mem_cons_of_mem _ hy))
    have a := edgesP_len x.f1 x.f2
    have b := Nat.mul_le_mul (h2 x (List.mem_cons_self ..)) (h1 x (List.mem_cons_self ..))
    unfold allE at h ⊢
    rw [List.flatMap_cons, List.length_append, List.length_cons]
    omega
/-- the edges' row, over a change of one block that lies ahead of it -/
theorem edR_grown {w w1 : World} {base B : Nat} {s : Value} {l : List S26} (h : Kd.R k26 26 w base (fun _ => True) s l) (hg : w.grownBy w1 (some B)) (hB : B < base) : Kd.R k26 26 w1 base (fun _ => True) s l := by
  refine Kd.R_grown1 h rfl hg ?_
  rcases edrow_of h with ⟨rfl, _⟩ | ⟨g, c, rfl, _, hb⟩
  · intro e; cases e
  · intro e
    have : B = g := by simpa [Value.ownBlock] using e
    omega
end Go.Proofs.Ytdepmcofnlggaaa.PResolverCycles
end
