/- resolver.graph, walked. (ahead of it: The closure that looks for the next one on the way back, walked. slices.IndexFunc of identities, walked. slices.Compact of identities in order, walked. slices.Compact of identities, walked. age.Sort, walked: identities in order, each once. A range over a map of rows whose rounds lay a new row at their key. A round of the range over a map of rows, in one.) -/
import Derived.Test.YtdepmcofnlggaaaPrB
import Derived.Deep.QuietTactic
import Derived.BigQuiet
import Derived.IntWalk
import Derived.Test.YtdepmcofnlggaaaPrA
import Derived.Deep.LoopGhost
import Derived.Deep.RegionHeldLaw
import Derived.Deep.DrawnRows
section
set_option linter.unusedVariables false
set_option linter.unusedSimpArgs false
attribute [local go_sem ↓] Go.wp_at_zero Go.wp_at_succ
namespace Go.Proofs.Ytdepmcofnlggaaa.PResolverCycles
open Go.RowKit Go.Proofs.YtdepmcofnlggaaaW.PrintWords Go.Proofs.YtdepmcofnlggaaaW.PrintLast Go.Proofs.YtdepmcofnlggaaaW.PrintMore
open Classical

def farV (far : S24 → Option Nat) (a : S24) : Option Value := (far a).map fun m => .int .i64 (m : Int)
theorem zero3 (w : World) : (zeroValue 3).run Try.prog w = .ok (.int .i64 0) w := by kernel_rfl
set_option maxHeartbeats 1000000 in
set_option maxRecDepth 20000 in
theorem pick_walk (w : World) (b q1 q2 q3 : Nat) (far : S24 → Option Nat) (n : Nat) (from_ x : S24) (hM : MapIs w b (farV far)) (h1 : w.cell? ⟨q1, 0, none⟩ = some (.map (some b))) (h2 : w.cell? ⟨q2, 0, none⟩ = some (.int .i64 (n : Int)))
    (h3 : w.cell? ⟨q3, 0, none⟩ = some (.int .i64 from_.f0)) (h4 : w.cell? ⟨q3, 1, none⟩ = some (.int .i64 from_.f1)) (hx : InId x) :
    Calls Try.prog 66 #[idV x, .pointer (some ⟨q1, 0, none⟩), .pointer (some ⟨q2, 0, none⟩), .pointer (some ⟨q3, 0, none⟩)] w fun e w' => e = .returned (.bool (decide (far x = some n ∧ x ≠ from_))) ∧ Below w.heap.size w w' := by
  have hB := below_alloc (Below.refl w.heap.size w) (.cells #[.int .i64 x.f0, .int .i64 x.f1] 24)
  have hnew := heap_alloc_new w (.cells #[.int .i64 x.f0, .int .i64 x.f1] 24)
  have k0 := blk_cell hnew 0
  have k1 := blk_cell hnew 1
  simp only [List.getElem?_toArray, List.getElem?_cons_zero, List.getElem?_cons_succ] at k0 k1
  clear hnew
  replace h1 := pw_cell_below hB h1
  replace h2 := pw_cell_below hB h2
  replace h3 := pw_cell_below hB h3
  replace h4 := pw_cell_below hB h4
  have hL := (hM.below hB).lookup (t := 62) Try.underlying62 (zero3 _) hx true
  unfold idV at hL ⊢
  simp only [if_true] at hL
  cases hf : far x with
  | none =>
    have hv : farV far x = none := by simp [farV, hf]
    rw [hv] at hL
    simp only [Option.getD_none, Option.isSome_none] at hL
    have hr : decide ((none : Option Nat) = some n ∧ x ≠ from_) = false := by simp
    rw [hr]
    replace hf := Go.Lib.hid hf
    go_enter Try.func66, Try.ntmps66
    go_wp2_with fail
    go_ret
    exact ⟨rfl, hB⟩
  | some m =>
    have hv : farV far x = some (.int .i64 (m : Int)) := by simp [farV, hf]
    rw [hv] at hL
    simp only [Option.getD_some, Option.isSome_some] at hL
    clear hv
    replace hf := Go.Lib.hid hf
    by_cases hmn : m = n
    · subst hmn
      have key : (x = from_) ∨ (x.f0 == from_.f0) = false ∨ ((x.f0 == from_.f0) = true ∧ (x.f1 == from_.f1) = false) := by
        by_cases e0 : x.f0 = from_.f0
        · by_cases e1 : x.f1 = from_.f1
          · exact .inl (id_ext e0 e1)
          · exact .inr (.inr ⟨by simpa using e0, by simpa using e1⟩)
        · exact .inr (.inl (by simpa using e0))
      rcases key with e | d1 | ⟨d1, d2⟩
      · have hr : decide (some m = some m ∧ x ≠ from_) = false := by simp [e]
        rw [hr]
        subst e
        go_enter Try.func66, Try.ntmps66
        go_wp2_with fail
        go_ret
        exact ⟨rfl, hB⟩
      · have hr : decide (some m = some m ∧ x ≠ from_) = true := decide_eq_true ⟨rfl, fun e => by rw [e] at d1; simp at d1⟩
        rw [hr]
        clear hr
        go_enter Try.func66, Try.ntmps66
        go_wp2_with fail
        go_ret
        exact ⟨rfl, hB⟩
      · have hr : decide (some m = some m ∧ x ≠ from_) = true := decide_eq_true ⟨rfl, fun e => by rw [e] at d2; simp at d2⟩
        rw [hr]
        clear hr
        go_enter Try.func66, Try.ntmps66
        go_wp2_with fail
        go_ret
        exact ⟨rfl, hB⟩
    · have hr : decide (some m = some n ∧ x ≠ from_) = false := by simp [hmn]
      have hbe : ((m : Int) == (n : Int)) = false := by simp; omega
      rw [hr]
      clear hr
      replace hmn := Go.Lib.hid hmn
      go_enter Try.func66, Try.ntmps66
      go_wp2_with fail
      go_ret
      exact ⟨rfl, hB⟩
end Go.Proofs.Ytdepmcofnlggaaa.PResolverCycles
end
section
set_option linter.unusedVariables false
set_option linter.unusedSimpArgs false
attribute [local go_sem ↓] Go.wp_at_zero Go.wp_at_succ
namespace Go.Proofs.Ytdepmcofnlggaaa.PResolverCycles
open Go.RowKit Go.Proofs.YtdepmcofnlggaaaW.PrintWords Go.Proofs.YtdepmcofnlggaaaW.PrintLast Go.Proofs.YtdepmcofnlggaaaW.PrintMore
open Classical

/-- where the first one lies -/
def FirstAt (p : S24 → Bool) (l : List S24) (r : Int) : Prop :=
  (∃ (i : Nat) (x : S24), l[i]? = some x ∧ r = (i : Int) ∧ p x = true ∧ ∀ y ∈ l.take i, p y = false) ∨ (r = -1 ∧ ∀ y ∈ l, p y = false)
theorem ids_cell {w : World} {G O : Nat} {l : List S24} (h : IdsAt w ⟨G, O, none⟩ l) (i : Nat) (hi : i < l.length) : w.cell? ⟨G, O + i * 2, none⟩ = some (.int .i64 l[i].f0) ∧ w.cell? ⟨G, O + i * 2 + 1, none⟩ = some (.int .i64 l[i].f1) := by
  obtain ⟨a, b⟩ := idc_at l i hi
  have h0 := h _ _ a
  have h1 := h _ _ b
  have ad : ∀ n, (⟨G, O, none⟩ : Addr).add n = ⟨G, O + n, none⟩ := fun n => by unfold Addr.add; split <;> simp_all
  rw [ad] at h0 h1
  exact ⟨h0, h1⟩
set_option maxHeartbeats 1000000 in
set_option maxRecDepth 20000 in
theorem index_walk (w : World) (G O c : Nat) (l : List S24) (q1 q2 q3 : Addr) (p : S24 → Bool) (hI : IdsAt w ⟨G, O, none⟩ l) (hm : l.length ≤ 1000000)
    (hcall : ∀ x ∈ l, ∀ u, Below w.heap.size w u → Calls Try.prog 66 #[idV x, .pointer (some q1), .pointer (some q2), .pointer (some q3)] u fun e u' => e = .returned (.bool (p x)) ∧ Below u.heap.size u u') :
    Calls Try.prog 65 #[.slice (some ⟨G, O, none⟩) l.length c, .func (.func 66) #[] #[.pointer (some q1), .pointer (some q2), .pointer (some q3)]] w fun e w' =>
      ∃ r, e = .returned (.int .i64 r) ∧ FirstAt p l r ∧ Below w.heap.size w w' := by
  obtain ⟨n, hN⟩ : ∃ n, n = l.length := ⟨_, rfl⟩
  rw [← hN] at hm ⊢
  replace hN := Go.Lib.hid hN
  replace hcall := Go.Lib.hid hcall
  replace hI := Go.Lib.hid hI
  go_enter Try.func65, Try.ntmps65
  go_wp2_with fail
  go_loopw [8] (fun i wr => ∃ j : Nat, j ≤ n ∧ i = .int .i64 (j : Int) ∧ Below w.heap.size w wr ∧ ∀ y ∈ l.take j, p y = false) (fun i _ => n - (intOf i).toNat)
  case atStart => exact ⟨0, by omega, rfl, Below.refl _ _, by simp⟩
  case round =>
    obtain ⟨j, hj, rfl, hB, hno⟩ := hrel
    replace hno := Go.Lib.hid hno
    by_cases hlt : j < n
    · have hltz : (j : Int) < (n : Int) := by omega
      have hjl : j < l.length := by rw [← hN.out]; exact hlt
      obtain ⟨a0, a1⟩ := ids_cell (hI.out.below hB) j hjl
      have hgx := Go.Lib.hid (List.getElem?_eq_getElem hjl)
      have H := hcall.out l[j] (List.getElem_mem hjl) wr hB
      have htk : l.take (j + 1) = l.take j ++ [l[j]] := by rw [List.take_add_one, List.getElem?_eq_getElem hjl]; rfl
      replace htk := Go.Lib.hid htk
      generalize l[j] = x at *
      unfold idV at H
      cases hp : p x with
      | true =>
        rw [hp] at H
        have hF := Go.Lib.hid (show FirstAt p l (j : Int) from .inl ⟨j, x, hgx.out, rfl, hp, hno.out⟩)
        replace hp := Go.Lib.hid hp
        go_wp2_with (go_at_call 66; refine H.mono ?_; rintro e u ⟨rfl, hu⟩)
        go_ret
        exact ⟨(j : Int), rfl, hF.out, hB.trans (hu.mono hB.size)⟩
      | false =>
        rw [hp] at H
        have hF := Go.Lib.hid (show ∀ y ∈ l.take (j + 1), p y = false from fun y hy => by
          rw [htk.out] at hy
          rcases List.mem_append.1 hy with h | h
          · exact hno.out y h
          · rw [List.mem_singleton.1 h]; exact hp)
        replace hp := Go.Lib.hid hp
        have hw64 : wrap64 ((j : Int) + 1) = ((j + 1 : Nat) : Int) := by unfold wrap64; omega
        have hme : n - (j + 1) < n - j := by clear hw64; omega
        replace hme := Go.Lib.hid hme
        go_wp2_with (go_at_call 66; refine H.mono ?_; rintro e u ⟨rfl, hu⟩)
        go_round
        case rel => exact ⟨j + 1, hlt, rfl, hB.trans (hu.mono hB.size), hF.out⟩
        case measure => simpa [intOf] using hme.out
    · obtain rfl : j = n := by omega
      have hF : FirstAt p l (-1) := .inr ⟨rfl, by have := hno.out; rwa [hN.out, List.take_length] at this⟩
      replace hF := Go.Lib.hid hF
      go_wp2_with fail
      go_ret
      exact ⟨-1, rfl, hF.out, hB⟩
end Go.Proofs.Ytdepmcofnlggaaa.PResolverCycles
end
section
set_option linter.unusedVariables false
set_option linter.unusedSimpArgs false
attribute [local go_sem ↓] Go.wp_at_zero Go.wp_at_succ
namespace Go.Proofs.Ytdepmcofnlggaaa.PResolverCycles
open Go.RowKit Go.Proofs.YtdepmcofnlggaaaW.PrintWords Go.Proofs.YtdepmcofnlggaaaW.PrintLast Go.Proofs.YtdepmcofnlggaaaW.PrintMore
open Classical

/-- a list in order, each once -/
noncomputable def compactL : List S24 → List S24
  | [] => []
  | [a] => [a]
  | a :: b :: r => if a = b then compactL (b :: r) else a :: compactL (b :: r)
theorem compactL_snoc (a b : S24) : ∀ m : List S24, compactL (m ++ [a, b]) = if a = b then compactL (m ++ [a]) else compactL (m ++ [a]) ++ [b]
  | [] => by
    simp only [List.nil_append, compactL]
    split
    · next e => rw [e]
    · rfl
  | [c] => by
    simp only [List.cons_append, List.nil_append, compactL]
    by_cases h1 : a = b
    · subst h1; simp
    · simp only [if_neg h1]
      split <;> rfl
  | c :: d :: m => by
    have ih := compactL_snoc a b (d :: m)
    simp only [List.cons_append, compactL] at ih ⊢
    by_cases hcd : c = d
    · rw [if_pos hcd, if_pos hcd, ih]
    · rw [if_neg hcd, if_neg hcd, ih]
      split
      · rfl
      · rfl
theorem compactL_mem (x : S24) : ∀ m : List S24, x ∈ compactL m ↔ x ∈ m
  | [] => by simp [compactL]
  | [a] => by simp [compactL]
  | a :: b :: r => by
    have ih := compactL_mem x (b :: r)
    simp only [compactL]
    split
    · next e => subst e; rw [ih]; simp
    · rw [List.mem_cons, ih, List.mem_cons (l := b :: r)]
theorem compactL_len : ∀ m : List S24, (compactL m).length ≤ m.length
  | [] => by simp [compactL]
  | [a] => by simp [compactL]
  | a :: b :: r => by
    have ih := compactL_len (b :: r)
    simp only [compactL]
    split
    · simp only [List.length_cons] at ih ⊢; omega
    · simp only [List.length_cons] at ih ⊢; omega
theorem compactL_sorted : ∀ m : List S24, m.Pairwise (fun a b => ¬ ltI b a) → (compactL m).Pairwise ltI
  | [], _ => by simp [compactL]
  | [a], _ => by simp [compactL]
  | a :: b :: r, h => by
    have h' := List.pairwise_cons.1 h
    have ih := compactL_sorted (b :: r) h'.2
    simp only [compactL]
    split
    · exact ih
    · next hne =>
      refine List.pairwise_cons.2 ⟨fun x hx => ?_, ih⟩
      have hx' := (compactL_mem x (b :: r)).1 hx
      rcases tot_id.tot a x with e | e | e
      · exact e
      · subst e
        have hab := h'.1 b (by simp)
        rcases List.mem_cons.1 hx' with e | e
        · exact absurd e hne
        · have hb := (List.pairwise_cons.1 h'.2).1 a e
          rcases tot_id.tot a b with q | q | q
          · exact absurd q hb
          · exact absurd q hne
          · exact absurd q hab
      · exact absurd e (h'.1 x hx')
/-- the row with one identity laid anew -/
theorem idrow_set {w : World} {base g c : Nat} {l : List S24} (h : IdRow w base g c l) (i : Nat) (hi : i < l.length) (x : S24) :
    w.ownsRow base 24 2 (.slice (some ⟨g, 0, none⟩) l.length c) l.length (idc l) → IdRow ((w.setCell ⟨g, i * 2, none⟩ (.int .i64 x.f0)).setCell ⟨g, i * 2 + 1, none⟩ (.int .i64 x.f1)) base g c (l.set i x) := by
  intro _
  have hn : 0 < l.length := by omega
  obtain ⟨cur, hg, hb, hc, hm, hz, ht⟩ := idrow_form h hn
  have hlt := (Array.getElem?_eq_some_iff.1 hg).1
  have hh : ((w.setCell ⟨g, i * 2, none⟩ (.int .i64 x.f0)).setCell ⟨g, i * 2 + 1, none⟩ (.int .i64 x.f1)).heap[g]? = some (.cells ((cur.setIfInBounds (i * 2) (.int .i64 x.f0)).setIfInBounds (i * 2 + 1) (.int .i64 x.f1)) 24 (0, 0)) := by
    rw [Go.Sort.setCell_eq, Go.Sort.setCell_eq, Go.Sort.mapBlock_mapBlock]
    show (w.heap.modify g _)[g]? = _
    rw [Array.getElem?_modify, if_pos rfl, hg]
    rfl
  have hl : (l.set i x).length = l.length := by simp
  refine ⟨by rw [idc_len], .inr ⟨g, c, _, rfl, hb, hh, by omega, hm, by simp [hz], ?_⟩⟩
  rw [hl]
  apply List.ext_getElem?
  intro t
  rw [List.getElem?_take]
  by_cases htt : t < l.length * 2
  · rw [if_pos htt]
    have hi2 : t / 2 < (l.set i x).length := by rw [hl]; omega
    obtain ⟨q0, q1⟩ := idc_at (l.set i x) (t / 2) hi2
    obtain ⟨p0, p1⟩ := idc_at l (t / 2) (by omega)
    have hc1 : cur[t]? = (idc l)[t]? := by rw [← ht, List.getElem?_take, if_pos htt, Array.getElem?_toList]
    rw [Array.getElem?_toList, Array.getElem?_setIfInBounds, Array.getElem?_setIfInBounds]
    have hsz : (cur.setIfInBounds (i * 2) (.int .i64 x.f0)).size = c * 2 := by simp [hz]
    rcases Nat.mod_two_eq_zero_or_one t with e | e
    · have hte : t = t / 2 * 2 := by omega
      rw [if_neg (by omega)]
      by_cases hti : t / 2 = i
      · rw [if_pos (by omega), if_pos (by rw [hz]; omega), hte, q0, List.getElem_set]
        rw [if_pos hti.symm]
      · rw [if_neg (by omega), hc1, hte, q0, p0, List.getElem_set, if_neg (fun h => hti h.symm)]
    · have hte : t = t / 2 * 2 + 1 := by omega
      by_cases hti : t / 2 = i
      · rw [if_pos (by omega), if_pos (by rw [hsz]; omega), hte, q1, List.getElem_set]
        rw [if_pos hti.symm]
      · rw [if_neg (by omega), if_neg (by omega), hc1, hte, q1, p1, List.getElem_set, if_neg (fun h => hti h.symm)]
  · rw [if_neg htt, List.getElem?_eq_none (by rw [idc_len, hl]; omega)]
theorem only_set {w : World} {g o : Nat} (v : Value) : w.grownBy (w.setCell ⟨g, o, none⟩ v) (some g) :=
  ⟨rfl, rfl, rfl, by simp, fun k _ hne => Below.heap_setCell w ⟨g, o, none⟩ v k (fun e => hne (by rw [e]))⟩
/-- the tail of the row laid to nought -/
theorem run_clear_ids {w : World} {base g c : Nat} {l : List S24} (h : IdRow w base g c l) (i : Nat) (hi : i < l.length) (cc : Nat) (ty : TypeId) :
    ∃ w', (Builtin.clear_ #[27] ty #[.slice (some ⟨g, i * 2, none⟩) (l.length - i) cc]).run Try.prog w = .ok (.tuple #[]) w' ∧ w.grownBy w' (some g) ∧ ∀ P, l.take i = P → w'.ownsRow base 24 2 (.slice (some ⟨g, 0, none⟩) i c) i (idc P) := by
  have hn : 0 < l.length := by omega
  obtain ⟨cur, hg, hb, hc, hm, hz, ht⟩ := idrow_form h hn
  have hzv : (zeroValue 24).run Try.prog w = .ok (.agg #[.int .i64 0, .int .i64 0]) w := by kernel_rfl
  have hst := run_storeCells_at (P := Try.prog) g (i * 2) 24 (Builtin.zeroCells (Value.agg #[.int .i64 0, .int .i64 0]).cells (l.length - i)).toList 0 cur w hg
    (by rw [Array.length_toList, size_zeroCells, hz]; show i * 2 + 0 + (l.length - i) * 2 ≤ c * 2; omega)
    (by
      intro v hv
      simp only [Builtin.zeroCells, Array.toList_map, List.mem_map] at hv
      obtain ⟨q, _, rfl⟩ := hv
      rcases Nat.mod_two_eq_zero_or_one q with e | e
      all_goals
        simp only [Value.cells]
        rw [show (#[Value.int .i64 0, Value.int .i64 0] : Array Value).size = 2 from rfl, e]
        rfl)
  obtain ⟨d, hd⟩ : ∃ d, l.length - i = d + 1 := ⟨l.length - i - 1, by omega⟩
  have hZ : (Builtin.zeroCells (Value.agg #[.int .i64 0, .int .i64 0]).cells (l.length - i)).toList.length = (l.length - i) * 2 := by rw [Array.length_toList, size_zeroCells]; rfl
  have hrun : (Builtin.clear_ #[27] ty #[.slice (some ⟨g, i * 2, none⟩) (l.length - i) cc]).run Try.prog w = .ok (.tuple #[]) (w.setRow g (cur.toList.take (i * 2 + 0) ++ (Builtin.zeroCells (Value.agg #[.int .i64 0, .int .i64 0]).cells (l.length - i)).toList ++ cur.toList.drop (i * 2 + 0 + (Builtin.zeroCells (Value.agg #[.int .i64 0, .int .i64 0]).cells (l.length - i)).toList.length)).toArray) := by
    rw [hd] at hst ⊢
    simp only [Builtin.clear_]
    simp [run_underlying Try.underlying27, hzv, hst]
  generalize (Builtin.zeroCells (Value.agg #[.int .i64 0, .int .i64 0]).cells (l.length - i)).toList = Z at *
  clear hst
  refine ⟨_, hrun, ⟨rfl, rfl, rfl, by simp, fun k _ hk => setRow_other w g k _ (fun e => hk (by rw [e]))⟩, fun P hP => ?_⟩
  subst hP
  refine ⟨by rw [idc_len, List.length_take]; omega, .inr ⟨g, c, _, rfl, hb, setRow_heap w g cur _ _ _ hg, by omega, hm, ?_, ?_⟩⟩
  · simp only [List.size_toArray, List.length_append, List.length_take, List.length_drop, Array.length_toList, hZ, hz]
    omega
  · rw [List.toList_toArray, List.append_assoc, Nat.add_zero, List.take_append_of_le_length (by rw [List.length_take, Array.length_toList, hz]; omega), List.take_take, Nat.min_self]
    have h1 : (cur.toList.take (l.length * 2)).take (i * 2) = cur.toList.take (i * 2) := by rw [List.take_take, Nat.min_eq_left (by omega)]
    rw [← h1, ht]
    have h2 : idc l = idc (l.take i) ++ idc (l.drop i) := by rw [← idc_append, List.take_append_drop]
    rw [h2, List.take_append_of_le_length (by rw [idc_len, List.length_take]; omega)]
    exact List.take_of_length_le (by rw [idc_len, List.length_take]; omega)
end Go.Proofs.Ytdepmcofnlggaaa.PResolverCycles
end
section
set_option linter.unusedVariables false
set_option linter.unusedSimpArgs false
attribute [local go_sem ↓] Go.wp_at_zero Go.wp_at_succ
namespace Go.Proofs.Ytdepmcofnlggaaa.PResolverCycles
open Go.RowKit Go.Proofs.YtdepmcofnlggaaaW.PrintWords Go.Proofs.YtdepmcofnlggaaaW.PrintLast Go.Proofs.YtdepmcofnlggaaaW.PrintMore
open Classical

/-- what lies in the row behind m entries -/
noncomputable def heapC (l : List S24) (m : Nat) : List S24 := compactL (l.take m) ++ l.drop (compactL (l.take m)).length
theorem heapC_len (l : List S24) (m : Nat) : (heapC l m).length = l.length := by
  have h1 := compactL_len (l.take m)
  have h2 : (l.take m).length ≤ l.length := by rw [List.length_take]; omega
  simp only [heapC, List.length_append, List.length_drop]
  omega
theorem heapC_old (l : List S24) (m t : Nat) (hlt : (compactL (l.take m)).length ≤ t) (ht : t < l.length) : (heapC l m)[t]? = l[t]? := by
  unfold heapC
  rw [List.getElem?_append_right hlt, List.getElem?_drop]
  congr 1
  omega
theorem take_one (l : List S24) (m : Nat) (h : m < l.length) : l.take (m + 1) = l.take m ++ [l[m]] := by
  rw [List.take_add_one, List.getElem?_eq_getElem h]; rfl
theorem take_two (l : List S24) (m : Nat) (h : m + 1 < l.length) : l.take (m + 2) = l.take m ++ [l[m], l[m + 1]] := by
  rw [show m + 2 = (m + 1) + 1 by omega, take_one l (m + 1) h, take_one l m (by omega), List.append_assoc]
  rfl
theorem compact_same (l : List S24) (m : Nat) (h : m + 1 < l.length) (e : l[m] = l[m + 1]) : compactL (l.take (m + 2)) = compactL (l.take (m + 1)) := by
  rw [take_two l m h, compactL_snoc, if_pos e, take_one l m (by omega)]
theorem compact_new (l : List S24) (m : Nat) (h : m + 1 < l.length) (e : l[m] ≠ l[m + 1]) : compactL (l.take (m + 2)) = compactL (l.take (m + 1)) ++ [l[m + 1]] := by
  rw [take_two l m h, compactL_snoc, if_neg e, take_one l m (by omega)]
theorem heapC_same (l : List S24) (m : Nat) (h : m + 1 < l.length) (e : l[m] = l[m + 1]) : heapC l (m + 2) = heapC l (m + 1) := by
  unfold heapC; rw [compact_same l m h e]
theorem heapC_new (l : List S24) (m : Nat) (h : m + 1 < l.length) (e : l[m] ≠ l[m + 1]) : heapC l (m + 2) = (heapC l (m + 1)).set (compactL (l.take (m + 1))).length l[m + 1] := by
  have hle := compactL_len (l.take (m + 1))
  have hl2 : (l.take (m + 1)).length = m + 1 := by rw [List.length_take]; omega
  unfold heapC
  rw [compact_new l m h e]
  generalize hC : compactL (l.take (m + 1)) = C at *
  have hCl : C.length < l.length := by omega
  rw [List.set_append_right _ _ (Nat.le_refl _), Nat.sub_self, List.length_append]
  rw [List.drop_eq_getElem_cons hCl, List.set_cons_zero]
  simp
theorem grown_refl (w : World) (x : Option Nat) : w.grownBy w x := ⟨rfl, rfl, rfl, Nat.le_refl _, fun _ _ _ => rfl⟩
theorem grown_drewN (w : World) (q : Nat) (x : Option Nat) : w.grownBy (w.drewN q) x := ⟨rfl, rfl, rfl, Nat.le_refl _, fun _ _ _ => rfl⟩
theorem grown_trans {w w' w'' : World} {x : Option Nat} (h : w.grownBy w' x) (h' : w'.grownBy w'' x) : w.grownBy w'' x := by
  obtain ⟨a1, a2, a3, a4, a5⟩ := h
  obtain ⟨b1, b2, b3, b4, b5⟩ := h'
  exact ⟨b1.trans a1, b2.trans a2, b3.trans a3, Nat.le_trans a4 b4, fun k hk hne => (b5 k (Nat.lt_of_lt_of_le hk a4) hne).trans (a5 k hk hne)⟩
theorem wrap_in (n : Int) (h0 : 0 ≤ n) (h1 : n ≤ 4000000000) : IntKind.i64.wrap n = n := IntWalk.i64_in _ (by omega)
theorem wrap_in64 (n : Int) (h0 : 0 ≤ n) (h1 : n ≤ 4000000000) : wrap64 n = n := by unfold wrap64; omega
theorem wrap_back (n : Int) (h0 : 0 ≤ n) (h1 : n ≤ 4000000000) : IntKind.i64.wrap (n + 1 - 1) = n := by rw [show n + 1 - 1 = n by omega]; exact wrap_in n h0 h1
theorem meas_down (n m : Nat) (h : m + 2 ≤ n) : n - (intOf (Value.int .i64 ((m : Int) + 1 + 1))).toNat < n - (intOf (Value.int .i64 ((m : Int) + 1))).toNat := by simp only [intOf]; omega
theorem idrow_drew {w : World} {base g c : Nat} {l : List S24} (h : IdRow w base g c l) (q : Nat) : IdRow (w.drewN q) base g c l := h
theorem idrow_at {w : World} {base g c : Nat} {l : List S24} (h : IdRow w base g c l) (i : Nat) (x : S24) (hx : l[i]? = some x) : w.cell? ⟨g, i * 2, none⟩ = some (.int .i64 x.f0) ∧ w.cell? ⟨g, i * 2 + 1, none⟩ = some (.int .i64 x.f1) := by
  obtain ⟨hi, rfl⟩ := List.getElem?_eq_some_iff.1 hx
  exact idrow_cell h i hi
theorem idrow_frozen {w : World} {base g c : Nat} {l : List S24} (h : IdRow w base g c l) (hn : 0 < l.length) (i j : Nat) : w.frozen? ⟨g, i, none⟩ = false ∧ w.frozen? ⟨g, j, none⟩ = false := by
  obtain ⟨cur, hg, _⟩ := idrow_form h hn
  exact ⟨blk_frozen hg i, blk_frozen hg j⟩
/-- the outer loop's state -/
structure Ost (w wr : World) (base g c : Nat) (l : List S24) (j : Nat) : Prop where
  lt : j < l.length
  same : compactL (l.take (j + 1)) = l.take (j + 1)
  row : IdRow wr base g c l
  grown : w.grownBy wr (some g)
/-- the inner loop's state: n entries are behind us, iv of them stand -/
structure Cst (w wr : World) (base g c : Nat) (l : List S24) (iv n : Nat) : Prop where
  len : (compactL (l.take n)).length = iv
  lt : iv < n
  le : n ≤ l.length
  row : IdRow wr base g c (heapC l n)
  grown : w.grownBy wr (some g)
theorem Ost.step {w wr : World} {base g c : Nat} {l : List S24} {j : Nat} (h : Ost w wr base g c l j) (hlt : j + 1 < l.length) : ∃ x y : S24,
    (wr.cell? ⟨g, j * 2, none⟩ = some (.int .i64 x.f0) ∧ wr.cell? ⟨g, j * 2 + 1, none⟩ = some (.int .i64 x.f1)) ∧
    (wr.cell? ⟨g, (j + 1) * 2, none⟩ = some (.int .i64 y.f0) ∧ wr.cell? ⟨g, (j + 1) * 2 + 1, none⟩ = some (.int .i64 y.f1)) ∧
    (x = y → ∀ q, Cst w (wr.drewN q) base g c l (j + 1) (j + 0 + 2)) ∧ (x ≠ y → ∀ q, Ost w (wr.drewN q) base g c l (j + 1)) := by
  have hT : (l.take (j + 1)).length = j + 1 := by rw [List.length_take]; omega
  refine ⟨l[j], l[j + 1], idrow_cell h.row j h.lt, idrow_cell h.row (j + 1) hlt, fun e q => ?_, fun e q => ?_⟩
  · have e1 := compact_same l j hlt e
    rw [h.same] at e1
    refine ⟨by rw [e1, hT], by omega, hlt, ?_, World.grownBy.trans h.grown (grown_drewN _ _ _)⟩
    have hH : heapC l (j + 0 + 2) = l := by
      unfold heapC
      rw [e1, hT, List.take_append_drop]
    rw [hH]
    exact h.row
  · have e1 := compact_new l j hlt e
    rw [h.same] at e1
    exact ⟨hlt, by rw [e1, take_one l (j + 1) hlt], h.row, World.grownBy.trans h.grown (grown_drewN _ _ _)⟩
theorem Cst.step {w wr : World} {base g c : Nat} {l : List S24} {iv j m : Nat} (h : Cst w wr base g c l iv (j + m + 2)) (hlt : j + m + 2 < l.length) : ∃ x y z : S24,
    (wr.cell? ⟨g, (j + 1) * 2 + m * 2, none⟩ = some (.int .i64 x.f0) ∧ wr.cell? ⟨g, (j + 1) * 2 + m * 2 + 1, none⟩ = some (.int .i64 x.f1)) ∧
    (wr.cell? ⟨g, (j + 1) * 2 + (m + 1) * 2, none⟩ = some (.int .i64 y.f0) ∧ wr.cell? ⟨g, (j + 1) * 2 + (m + 1) * 2 + 1, none⟩ = some (.int .i64 y.f1)) ∧
    (wr.cell? ⟨g, iv * 2, none⟩ = some (.int .i64 z.f0) ∧ wr.cell? ⟨g, iv * 2 + 1, none⟩ = some (.int .i64 z.f1)) ∧
    (wr.frozen? ⟨g, iv * 2, none⟩ = false ∧ wr.frozen? ⟨g, iv * 2 + 1, none⟩ = false) ∧
    (x = y → ∀ q, Cst w (wr.drewN q) base g c l iv (j + (m + 1) + 2)) ∧
    (x ≠ y → ∀ q, Cst w (((wr.drewN q).setCell ⟨g, iv * 2, none⟩ (.int .i64 y.f0)).setCell ⟨g, iv * 2 + 1, none⟩ (.int .i64 y.f1)) base g c l (iv + 1) (j + (m + 1) + 2)) := by
  have hl := heapC_len l (j + m + 2)
  have h1 := h.lt
  have o0 := heapC_old l (j + m + 2) (j + m + 1) (by rw [h.len]; omega) (by omega)
  have o1 := heapC_old l (j + m + 2) (j + m + 2) (by rw [h.len]; omega) hlt
  rw [List.getElem?_eq_getElem (l := l) (by omega)] at o0
  rw [List.getElem?_eq_getElem (l := l) hlt] at o1
  have c0 := idrow_at h.row _ _ o0
  have c1 := idrow_at h.row _ _ o1
  rw [show (j + m + 1) * 2 = (j + 1) * 2 + m * 2 by omega] at c0
  rw [show (j + m + 2) * 2 = (j + 1) * 2 + (m + 1) * 2 by omega] at c1
  refine ⟨l[j + m + 1], l[j + m + 1 + 1], (heapC l (j + m + 2))[iv]'(by omega), c0, c1, idrow_cell h.row iv (by omega), idrow_frozen h.row (by omega) _ _, fun e q => ?_, fun e q => ?_⟩
  · have e1 := compact_same l (j + m + 1) hlt e
    have e2 := heapC_same l (j + m + 1) hlt e
    refine ⟨?_, by omega, by omega, ?_, World.grownBy.trans h.grown (grown_drewN _ _ _)⟩
    · show (compactL (l.take (j + m + 1 + 2))).length = iv
      rw [e1]; exact h.len
    · show IdRow _ base g c (heapC l (j + m + 1 + 2))
      rw [e2]; exact h.row
  · have e1 := compact_new l (j + m + 1) hlt e
    have e2 := heapC_new l (j + m + 1) hlt e
    refine ⟨?_, by omega, by omega, ?_, ?_⟩
    · show (compactL (l.take (j + m + 1 + 2))).length = iv + 1
      rw [e1, List.length_append]
      exact congrArg (· + 1) h.len
    · show IdRow _ base g c (heapC l (j + m + 1 + 2))
      rw [e2]
      have hlen : (compactL (l.take (j + m + 1 + 1))).length = iv := h.len
      rw [hlen]
      exact idrow_set (w := wr.drewN q) h.row iv (by omega) _ h.row
    · exact World.grownBy.trans (World.grownBy.trans h.grown (grown_drewN _ q _)) (World.grownBy.trans (only_set _) (only_set _))
theorem Cst.fin {w wr : World} {base g c : Nat} {l : List S24} {iv n : Nat} (h : Cst w wr base g c l iv n) (hn : n = l.length) (cc : Nat) (ty : TypeId) :
    ∃ w', (Builtin.clear_ #[27] ty #[.slice (some ⟨g, iv * 2, none⟩) (l.length - iv) cc]).run Try.prog wr = .ok (.tuple #[]) w' ∧ (compactL l).length = iv ∧ IdRow w' base g c (compactL l) ∧ w.grownBy w' (some g) := by
  subst hn
  have hl := heapC_len l l.length
  have h1 := h.lt
  have h2 := h.len
  rw [List.take_length] at h2
  obtain ⟨w', e, hg, hP⟩ := run_clear_ids h.row iv (by omega) cc ty
  rw [hl] at e
  refine ⟨w', e, h2, ?_, World.grownBy.trans h.grown hg⟩
  have := hP (compactL l) (by
    unfold heapC
    rw [List.take_length, List.take_append_of_le_length (by omega)]
    exact List.take_of_length_le (by omega))
  rw [← h2] at this
  exact this
set_option maxHeartbeats 4000000 in
set_option maxRecDepth 20000 in
theorem compact_walk (w : World) (base g c : Nat) (l : List S24) (h : IdRow w base g c l) (hn : 0 < l.length) (hm : l.length ≤ 1000000000) :
    Calls Try.prog 62 #[.slice (some ⟨g, 0, none⟩) l.length c] w fun e w' => ∃ c', e = .returned (.slice (some ⟨g, 0, none⟩) (compactL l).length c') ∧ IdRow w' base g c' (compactL l) ∧ w.grownBy w' (some g) := by
  have hcc : l.length ≤ c := by obtain ⟨_, _, _, q, _, _, _⟩ := idrow_form h hn; exact q
  by_cases h2 : l.length < 2
  · have e : compactL l = l := by
      match l, h2 with
      | [], _ => rfl
      | [a], _ => rfl
    have h2z : (l.length : Int) < 2 := by omega
    go_enter Try.func62, Try.ntmps62
    go_wp2_with fail
    go_ret
    exact ⟨c, by rw [e]; rfl, by rw [e]; exact h, grown_refl _ _⟩
  · have h2z : ¬ (l.length : Int) < 2 := by omega
    obtain ⟨n, hN⟩ : ∃ n, n = l.length := ⟨_, rfl⟩
    have hO : Ost w w base g c l 0 := ⟨hn, by rw [take_one l 0 hn]; rfl, h, grown_refl _ _⟩
    rw [← hN] at hn hm hcc h2 h2z ⊢
    replace hN := Go.Lib.hid hN
    clear h
    go_enter Try.func62, Try.ntmps62
    go_wp2_with fail
    go_loopw [3] (fun i wr => ∃ j : Nat, j < n ∧ i = .int .i64 ((j : Int) + 1) ∧ Ost w wr base g c l j) (fun i _ => n - (intOf i).toNat)
    case atStart => exact ⟨0, hn, rfl, hO⟩
    case round =>
      obtain ⟨j, hj, rfl, hst⟩ := hrel
      clear hO
      by_cases hlt : j + 1 < n
      · have hmeas0 := Go.Lib.hid (meas_down n j hlt)
        have hltz : (j : Int) + 1 < (n : Int) := by omega
        have hz1 : (0 : Int) ≤ (j : Int) + 1 := by omega
        have hz2 : (j : Int) < (n : Int) := by omega
        have hz3 : ((j : Int) + 1).toNat = j + 1 := by omega
        have v1 : (0 : Int) ≤ (j : Int) := by omega
        have v2 : (j : Int) ≤ 4000000000 := by omega
        have v3 : (0 : Int) ≤ (j : Int) + 1 + 1 := by omega
        have v4 : (j : Int) + 1 + 1 ≤ 4000000000 := by omega
        have hz4 : IntKind.i64.wrap ((j : Int) + 1 - 1) = (j : Int) := wrap_back _ v1 v2
        have hw0 : wrap64 ((j : Int) + 1 + 1) = (j : Int) + 1 + 1 := wrap_in64 _ v3 v4
        clear v1 v2 v3 v4
        have hstep := hst.step (by rw [← hN.out]; exact hlt)
        obtain ⟨x, y, ⟨a0, a1⟩, ⟨b0, b1⟩, hsame, hnew⟩ := hstep
        replace hsame := Go.Lib.hid hsame
        replace hnew := Go.Lib.hid hnew
        clear hst
        by_cases he : x = y
        · subst he
          replace hsame := Go.Lib.hid (show ∀ q, Cst w (wr.drewN q) base g c l (j + 1) (j + 0 + 2) from hsame.out rfl)
          go_wp2_with fail
          go_quiet (fail)
          have hC := hsame.out nq
          generalize wr.drewN nq = wr at *
          clear a0 a1 b0 b1 hnew hsame
          replace hz4 := Go.Lib.hid hz4
          replace hw0 := Go.Lib.hid hw0
          go_wp2_with fail
          go_loopw [3, 5] (fun i k wq => ∃ iv m : Nat, j + m + 2 ≤ n ∧ iv < n ∧ i = .int .i64 (iv : Int) ∧ k = .int .i64 ((m : Int) + 1) ∧ Cst w wq base g c l iv (j + m + 2)) (fun _ k _ => n - (intOf k).toNat)
          case atStart => exact ⟨j + 1, 0, by omega, by omega, rfl, rfl, hC⟩
          case round =>
            clear hC
            obtain ⟨iv, m, hm1, hivn, rfl, rfl, hst⟩ := hrel
            have hivc : iv ≤ c := by omega
            have hivz : (iv : Int) < (n : Int) := by omega
            by_cases hlt2 : j + m + 2 < n
            · have hiv2 : iv + 1 < n := by have := hst.lt; omega
              have hm3 : m + 1 < n - (j + 1) := by omega
              have hmeas := Go.Lib.hid (meas_down n m (by omega))
              have hj1 := Go.Lib.hid (show j + (m + 1) + 2 ≤ n from hlt2)
              have hy1 : (0 : Int) ≤ (m : Int) + 1 := by omega
              have hy3 : ((m : Int) + 1).toNat = m + 1 := by omega
              have hy5 : (m : Int) < ((n - (j + 1) : Nat) : Int) := by omega
              have hy6 : (m : Int) + 1 < ((n - (j + 1) : Nat) : Int) := by omega
              have v1 : (0 : Int) ≤ (m : Int) := by omega
              have v2 : (m : Int) ≤ 4000000000 := by omega
              have v3 : (0 : Int) ≤ (m : Int) + 1 + 1 := by omega
              have v4 : (m : Int) + 1 + 1 ≤ 4000000000 := by omega
              have v5 : (0 : Int) ≤ (iv : Int) + 1 := by omega
              have v6 : (iv : Int) + 1 ≤ 4000000000 := by omega
              have hy4 : IntKind.i64.wrap ((m : Int) + 1 - 1) = (m : Int) := wrap_back _ v1 v2
              have hy9 : IntKind.i64.wrap (m : Int) = (m : Int) := wrap_in _ v1 v2
              have hw : wrap64 ((m : Int) + 1 + 1) = (m : Int) + 1 + 1 := wrap_in64 _ v3 v4
              have hw2 : wrap64 ((iv : Int) + 1) = (iv : Int) + 1 := wrap_in64 _ v5 v6
              clear v1 v2 v3 v4 v5 v6
              have hstep := hst.step (by rw [← hN.out]; exact hlt2)
              obtain ⟨x2, y2, z2, ⟨p0, p1⟩, ⟨q0, q1⟩, ⟨r0, r1⟩, ⟨z0, z1⟩, hsame, hnew⟩ := hstep
              replace hsame := Go.Lib.hid hsame
              replace hnew := Go.Lib.hid hnew
              clear hst
              by_cases he2 : x2 = y2
              · subst he2
                replace hsame := Go.Lib.hid (show ∀ q, Cst w (wr.drewN q) base g c l iv (j + (m + 1) + 2) from hsame.out rfl)
                go_wp2_with fail
                go_quiet (fail)
                clear hy1 hy3 hy4 hy9 hy5 hy6 p0 p1 q0 q1 r0 r1 z0 z1 hw2 hz1 hz2 hz3 hnew
                go_wp2_with fail
                go_round
                case rel => exact ⟨iv, m + 1, hj1.out, hivn, rfl, rfl, hsame.out _⟩
                case measure => exact hmeas.out
              · have k2 : (y2.f0 == x2.f0) = false ∨ ((y2.f0 == x2.f0) = true ∧ (y2.f1 == x2.f1) = false) := by
                  by_cases h0 : y2.f0 = x2.f0
                  · exact .inr ⟨by simpa using h0, by simpa using fun h1 : y2.f1 = x2.f1 => he2 (id_ext h0.symm h1.symm)⟩
                  · exact .inl (by simpa using h0)
                rcases k2 with d1 | ⟨d1, d2⟩
                all_goals
                  replace he2 := Go.Lib.hid he2
                  go_wp2_with fail
                  go_quiet (fail)
                  clear hy4 hy9 hy5 p0 p1 hsame hz1 hz2 hz3
                  go_wp2_with fail
                  go_round
                  case rel => exact ⟨iv + 1, m + 1, hj1.out, hiv2, rfl, rfl, hnew.out he2.out _⟩
                  case measure => exact hmeas.out
            · have hx2 : j + m + 2 = l.length := by rw [← hN.out]; omega
              have hxz : ¬ ((m : Int) + 1 < ((n - (j + 1) : Nat) : Int)) := by omega
              obtain ⟨w', hrun, hlen, hrow, hgrn⟩ := hst.fin hx2 (c - iv) 0
              rw [← hN.out] at hrun
              clear hst
              go_wp2_with fail
              go_ret
              exact ⟨c, rfl, hrow, hgrn⟩
        · have k2 : (y.f0 == x.f0) = false ∨ ((y.f0 == x.f0) = true ∧ (y.f1 == x.f1) = false) := by
            by_cases h0 : y.f0 = x.f0
            · exact .inr ⟨by simpa using h0, by simpa using fun h1 : y.f1 = x.f1 => he (id_ext h0.symm h1.symm)⟩
            · exact .inl (by simpa using h0)
          rcases k2 with d1 | ⟨d1, d2⟩
          all_goals
            replace he := Go.Lib.hid he
            go_wp2_with fail
            go_quiet (fail)
            go_wp2_with fail
            go_round
            case rel => exact ⟨j + 1, hlt, rfl, hnew.out he.out _⟩
            case measure => exact hmeas0.out
      · have hx : j + 1 = n := by omega
        have hxz : ¬ ((j : Int) + 1 < (n : Int)) := by omega
        have hE : compactL l = l := by
          have := hst.same
          rw [show j + 1 = l.length by rw [hx, hN.out], List.take_length] at this
          exact this
        have hR := hst.row
        have hG := hst.grown
        have hfin : ∃ c', (Value.slice (some ⟨g, 0, none⟩) n c) = .slice (some ⟨g, 0, none⟩) (compactL l).length c' ∧ IdRow wr base g c' (compactL l) ∧ w.grownBy wr (some g) := ⟨c, by rw [hE, ← hN.out], by rw [hE]; exact hR, hG⟩
        clear hst hR hG hE hx
        replace hfin := Go.Lib.hid hfin
        go_wp2_with fail
        go_ret
        obtain ⟨c', e1, e2, e3⟩ := hfin.out
        exact ⟨c', by rw [← e1]; rfl, e2, e3⟩
end Go.Proofs.Ytdepmcofnlggaaa.PResolverCycles
end
section
set_option linter.unusedVariables false
set_option linter.unusedSimpArgs false
attribute [local go_sem ↓] Go.wp_at_zero Go.wp_at_succ
namespace Go.Proofs.Ytdepmcofnlggaaa.PResolverCycles
open Go.RowKit Go.Proofs.YtdepmcofnlggaaaW.PrintWords Go.Proofs.YtdepmcofnlggaaaW.PrintLast Go.Proofs.YtdepmcofnlggaaaW.PrintMore
open Classical

theorem sortedOf_compact {l s : List S24} (hp : s.Perm l) (hs : s.Pairwise (fun a b => ¬ ltI b a)) : Rc.SortedOf ltI l (compactL s) :=
  ⟨compactL_sorted s hs, fun x => (compactL_mem x s).trans hp.mem_iff⟩
theorem below_own {w w1 w2 : World} {g : Nat} (h : Below w.heap.size w w1) (hg : w1.grownBy w2 (some g)) (hb : w.heap.size ≤ g) : Below w.heap.size w w2 :=
  pw_below_grown h _ h.size hg (fun k hk => by cases hk; exact hb)
set_option maxHeartbeats 1000000 in
set_option maxRecDepth 20000 in
theorem age_sort (w : World) (ad : Addr) (c : Nat) (l : List S24) (h : IdsAt w ad l) (hn : 0 < l.length) (hm : l.length ≤ 1000000000) :
    Calls Try.prog 26 #[.slice (some ad) l.length c] w fun e w' => ∃ g c' s, e = .returned (.slice (some ⟨g, 0, none⟩) s.length c') ∧ Rc.SortedOf ltI l s ∧ IdRow w' w.heap.size g c' s ∧ Below w.heap.size w w' := by
  obtain ⟨n, hN⟩ : ∃ n, n = l.length := ⟨_, rfl⟩
  have H1 := clone_walk w ad c l h hn hm
  rw [← hN] at hn hm H1 ⊢
  replace hN := Go.Lib.hid hN
  go_enter Try.func26, Try.ntmps26
  go_upto_region 2 with (go_at_call 60; refine H1.mono ?_; rintro e w1 ⟨g, c1, rfl, hr1, hB1⟩)
  have hbg : w.heap.size ≤ g := by obtain ⟨_, _, q, _⟩ := idrow_form hr1 (by rw [← hN.out]; exact hn); exact q
  have H2 := sort_walk w1 w.heap.size g c1 l hr1 (by rw [← hN.out]; exact hn) (by rw [← hN.out]; exact hm)
  rw [← hN.out] at H2
  go_upto_region 3 with (go_at_call 61; refine H2.mono ?_; rintro e w2 ⟨rfl, s, hp, hs, hr2, hg2⟩)
  have hB2 := below_own hB1 hg2 hbg
  have hl : s.length = n := by rw [hp.length_eq, hN.out]
  have H3 := compact_walk w2 w.heap.size g c1 s hr2 (by rw [hl]; exact hn) (by rw [hl]; exact hm)
  rw [hl] at H3
  go_wp2_with (go_at_call 62; refine H3.mono ?_; rintro e w3 ⟨c3, rfl, hr3, hg3⟩)
  go_ret
  exact ⟨g, c3, compactL s, rfl, sortedOf_compact hp hs, hr3, below_own hB2 hg3 hbg⟩
end Go.Proofs.Ytdepmcofnlggaaa.PResolverCycles
end
section
set_option linter.unusedVariables false
set_option linter.unusedSimpArgs false
namespace Go.Proofs.Ytdepmcofnlggaaa.PResolverCycles
open Go.RowKit Go.Proofs.YtdepmcofnlggaaaW.PrintWords Go.Proofs.YtdepmcofnlggaaaW.PrintLast Go.Proofs.YtdepmcofnlggaaaW.PrintMore
open Classical

theorem leftN_less {n i : Nat} {done : Nat → Bool} (hi : i < n) (hd : done i = false) : leftN n (fun j => done j || j == i) < leftN n done := by
  unfold leftN
  exact Rc.filter_less (w := i) (fun x hx => by
    simp only [Bool.not_or, Bool.and_eq_true] at hx
    exact hx.1) (by simpa using hi) (by simp [hd]) (by simp)
theorem sorted_ne {l s : List S24} (h : Rc.SortedOf ltI l s) (hl : l ≠ []) : s ≠ [] := by
  intro e
  cases l with
  | nil => exact hl rfl
  | cons a l => exact absurd ((h.2 a).2 (by simp)) (by simp [e])
structure RowsRange (w : World) (base b r : Nat) (f0 f : S24 → List S24) (g c : S24 → Nat) (l : Ents) (done fin : Nat → Bool) : Prop where
  rng : Ranging Try.prog 24 w b r l done
  keys : ∀ p ∈ l, ∃ a, InId a ∧ p.1 = idV a
  ents : ∀ a, atK l (idV a) = rowF f g c a
  above : base ≤ b
  rows : ∀ a, f a ≠ [] → IdRow w base (g a) (c a) (f a)
  ne : ∀ a, f a ≠ [] → g a ≠ b
  inj : ∀ a a', f a ≠ [] → f a' ≠ [] → g a = g a' → a = a'
  prog : ∀ i p a, l[i]? = some p → p.1 = idV a → f a ≠ [] ∧ if fin i then Rc.SortedOf ltI (f0 a) (f a) else f a = f0 a
section
variable {w w' : World} {base b r : Nat} {f0 f : S24 → List S24} {g c : S24 → Nat} {l : Ents} {done fin : Nat → Bool}
theorem RowsRange.map (h : RowsRange w base b r f0 f g c l done fin) : RowsMap w base b f g c :=
  ⟨⟨l, h.rng.map, h.keys, h.ents⟩, h.above, h.rows, h.ne, h.inj⟩
theorem RowsRange.below (h : RowsRange w base b r f0 f g c l done fin) (hb : Below w.heap.size w w') : RowsRange w' base b r f0 f g c l done fin :=
  ⟨h.rng.below hb, h.keys, h.ents, h.above, (h.map.below hb).rows, h.ne, h.inj, h.prog⟩
theorem RowsMap.range {t e : TypeId} (h : RowsMap w base b f g c) (ht : Try.prog.underlying t = some (.map 24 e)) :
    ∃ l w', (Instr.range t (.map (some b))).run Try.prog w = .ok (.pointer (some ⟨w.heap.size, 0, none⟩)) w' ∧ RowsRange w' base b w.heap.size f f g c l (fun _ => false) (fun _ => false) ∧ Below w.heap.size w w' ∧ l.length = l.length := by
  obtain ⟨l, h1, h2, h3⟩ := h.map
  obtain ⟨r1, r2⟩ := h1.range ht
  have hb : Below w.heap.size w (w.alloc (.mapIter (some b) (match w.heap[b]? with | some (.map _ c) => c | _ => 0) #[] (match w.heap[b]? with | some (.map _ c) => c | _ => 0))) := below_alloc (Below.refl _ _) _
  refine ⟨l, _, r1, ⟨r2, h2, h3, h.above, (h.below hb).rows, h.ne, h.inj, fun i p a hp hpa => ⟨fun e => ?_, rfl⟩⟩, hb, rfl⟩
  have hat := atK_at h1.nodup i p hp hpa
  rw [h3 a] at hat
  unfold rowF at hat
  rw [if_pos e] at hat
  cases hat
theorem RowsRange.next (h : RowsRange w base b r f0 f g c l done fin) (ty : TypeId) :
    ((∀ i, i < l.length → done i = true) ∧ (Instr.next (.pointer (some ⟨r, 0, none⟩)) false ty).run Try.prog w = .ok (.tuple #[.bool false]) w) ∨
    ∃ i a w', l[i]? = some (idV a, rowV f g c a) ∧ InId a ∧ f a ≠ [] ∧ done i = false ∧ (Instr.next (.pointer (some ⟨r, 0, none⟩)) false ty).run Try.prog w = .ok (.tuple #[.bool true, idV a, rowV f g c a]) w' ∧
      RowsRange w' base b r f0 f g c l (fun j => done j || j == i) fin ∧ w.grownBy w' (some r) ∧ w'.heap.size = w.heap.size ∧
      (Instr.entry (.pointer (some ⟨r, 0, none⟩))).run Try.prog w' = .ok (.tuple #[idV a, rowV f g c a]) w' := by
  rcases h.rng.next ty with h1 | ⟨i, x, v, w', hl, hd, hrun, hR, hg, hs, hent⟩
  · exact .inl h1
  · obtain ⟨a, ha, hx⟩ := h.keys _ (List.mem_of_getElem? hl)
    simp only at hx
    subst hx
    have hp := h.prog i _ a hl rfl
    have hat := atK_at h.rng.map.nodup i _ hl rfl
    rw [h.ents a] at hat
    unfold rowF at hat
    rw [if_neg hp.1] at hat
    cases hat
    have hr : ∀ x, f x ≠ [] → some (g x) ≠ some r := by
      intro x hx e
      have e' : g x = r := by cases e; rfl
      obtain ⟨cur, hg1, _⟩ := idrow_form (h.rows x hx) (List.length_pos_iff.2 hx)
      obtain ⟨es, clock, since, seen, c0, _, _, _, _, hr1, _⟩ := h.rng
      rw [e', hr1] at hg1
      cases hg1
    exact .inr ⟨i, a, w', hl, ha, hp.1, hd, hrun, ⟨hR, h.keys, h.ents, h.above, fun x hx => idrow_kept (h.rows x hx) hx hg (hr x hx), h.ne, h.inj, h.prog⟩, hg, hs, hent⟩
/-- the key's row, laid anew -/
theorem RowsRange.store {t e : TypeId} (h : RowsRange w base b r f0 f g c l done fin) (ht : Try.prog.underlying t = some (.map 24 e)) {i : Nat} {a : S24} {v : Value} (hi : l[i]? = some (idV a, v)) (ha : InId a)
    {g1 c1 : Nat} {s : List S24} (hrow : IdRow w base g1 c1 s) (hs : s ≠ []) (hso : Rc.SortedOf ltI (f0 a) s) (hgb : g1 ≠ b) (hfresh : ∀ x, f x ≠ [] → g x ≠ g1) :
    ∃ w' f' g' c' l', (Instr.mapUpdate t (.map (some b)) (idV a) (.slice (some ⟨g1, 0, none⟩) s.length c1)).run Try.prog w = .ok () w' ∧ RowsRange w' base b r f0 f' g' c' l' done (fun j => fin j || j == i) ∧ l'.length = l.length ∧ (∀ x, f' x ≠ [] ↔ f x ≠ []) ∧ w.grownBy w' (some b) ∧ w'.heap.size = w.heap.size := by
  obtain ⟨kl, hkl⟩ := id_key ha
  have hnd := h.rng.map.nodup
  have hat := atK_at hnd i _ hi rfl
  have hfa := (h.prog i _ a hi rfl).1
  obtain ⟨w', r1, r2, r3, r4⟩ := h.rng.update id_keyed ht (v := .slice (some ⟨g1, 0, none⟩) s.length c1) hkl hat
  have hput : putK l (idV a) (.slice (some ⟨g1, 0, none⟩) s.length c1) = l.set i (idV a, .slice (some ⟨g1, 0, none⟩) s.length c1) := putK_at hnd i _ hi rfl
  refine ⟨w', fun x => if x = a then s else f x, fun x => if x = a then g1 else g x, fun x => if x = a then c1 else c x, _, r1, ⟨r2, ?_, fun x => ?_, h.above, fun x hx => ?_, fun x hx => ?_, fun x x' hx hx' e => ?_, fun j p x hp hpx => ?_⟩, by rw [hput, List.length_set], fun x => ?_, r3, r4⟩
  · exact fun p hp => keys_putK (G := fun v => ∃ a, InId a ∧ v = idV a) h.keys ⟨a, ha, rfl⟩ p hp
  · rw [put_fun h.ents a _ x]
    unfold rowF rowV
    by_cases e : x = a
    · simp only [if_pos e]
      rw [if_neg hs]
    · simp only [if_neg e]
  · by_cases e : x = a
    · simp only [if_pos e]
      exact idrow_kept hrow hs r3 (fun e => hgb (by cases e; rfl))
    · simp only [if_neg e] at hx ⊢
      exact idrow_kept (h.rows x hx) hx r3 (fun e => h.ne x hx (by cases e; rfl))
  · by_cases e : x = a
    · simp only [if_pos e]; exact hgb
    · simp only [if_neg e] at hx ⊢; exact h.ne x hx
  · by_cases e1 : x = a
    · by_cases e2 : x' = a
      · rw [e1, e2]
      · simp only [if_pos e1, if_neg e2] at e hx'
        exact absurd e.symm (hfresh x' hx')
    · by_cases e2 : x' = a
      · simp only [if_neg e1, if_pos e2] at e hx
        exact absurd e (hfresh x hx)
      · simp only [if_neg e1, if_neg e2] at e hx hx'
        exact h.inj x x' hx hx' e
  · rw [hput, List.getElem?_set] at hp
    split at hp
    · next hij =>
      subst hij
      split at hp
      · cases hp
        have := idV_inj hpx
        subst this
        simp only [if_pos, beq_self_eq_true, Bool.or_true]
        exact ⟨hs, hso⟩
      · cases hp
    · next hij =>
      have hxa : x ≠ a := by
        rintro rfl
        have h1 : (l.map (·.1))[j]? = some (idV x) := by rw [List.getElem?_map, hp]; simp [hpx]
        have h2 : (l.map (·.1))[i]? = some (idV x) := by rw [List.getElem?_map, hi]; rfl
        obtain ⟨q1, q2⟩ := List.getElem?_eq_some_iff.1 h1
        obtain ⟨q3, q4⟩ := List.getElem?_eq_some_iff.1 h2
        rcases Nat.lt_trichotomy i j with q | q | q
        · exact List.pairwise_iff_getElem.1 hnd i j q3 q1 q (q4.trans q2.symm)
        · exact hij q
        · exact List.pairwise_iff_getElem.1 hnd j i q1 q3 q (q2.trans q4.symm)
      simp only [if_neg hxa]
      have hji : (j == i) = false := by simp; exact fun e => hij e.symm
      rw [hji, Bool.or_false]
      exact h.prog j p x hp hpx
  · by_cases e : x = a
    · simp only [if_pos e]
      rw [e]
      exact ⟨fun _ => hfa, fun _ => hs⟩
    · simp only [if_neg e]
/-- all have come -/
theorem RowsRange.fin_ (h : RowsRange w base b r f0 f g c l done fin) (hall : ∀ i, i < l.length → fin i = true) (a : S24) (ha : f a ≠ []) : Rc.SortedOf ltI (f0 a) (f a) := by
  have hat := h.ents a
  unfold rowF at hat
  rw [if_neg ha] at hat
  obtain ⟨p, hp, hpx⟩ := atK_some hat
  obtain ⟨i, hi⟩ := List.getElem?_of_mem hp
  have := (h.prog i p a hi hpx).2
  rw [hall i (List.getElem?_eq_some_iff.1 hi).1] at this
  simpa using this
end
end Go.Proofs.Ytdepmcofnlggaaa.PResolverCycles
end
section
set_option linter.unusedVariables false
set_option linter.unusedSimpArgs false
namespace Go.Proofs.Ytdepmcofnlggaaa.PResolverCycles
open Go.RowKit Go.Proofs.YtdepmcofnlggaaaW.PrintWords Go.Proofs.YtdepmcofnlggaaaW.PrintLast Go.Proofs.YtdepmcofnlggaaaW.PrintMore
open Classical

theorem idrow_mono {w : World} {base base' g c : Nat} {l : List S24} (h : IdRow w base' g c l) (hn : l ≠ []) (hb : base ≤ base') : IdRow w base g c l := by
  obtain ⟨cur, hg, hbb, hc, hm, hs, ht⟩ := idrow_form h (List.length_pos_iff.2 hn)
  exact ⟨by rw [idc_len], .inr ⟨g, c, cur, rfl, Nat.le_trans hb hbb, hg, hc, hm, hs, ht⟩⟩
theorem lay_row {w u : World} {base b r : Nat} {F f : S24 → List S24} {g c : S24 → Nat} {l : Ents} {done fin : Nat → Bool} (h : RowsRange w base b r F f g c l done fin) (hb : base ≤ w.heap.size) {i : Nat} {a : S24} {v : Value} (hi : l[i]? = some (idV a, v)) (ha : InId a) (hF : f a = F a)
    {g1 c1 : Nat} {s : List S24} (hso : Rc.SortedOf ltI (f a) s) (hrow : IdRow u w.heap.size g1 c1 s) (hbu : Below w.heap.size w u) :
    ∃ w5 f' g' c' l', (Instr.mapUpdate 54 (.map (some b)) (.agg #[.int .i64 a.f0, .int .i64 a.f1]) (.slice (some ⟨g1, 0, none⟩) s.length c1)).run Try.prog u = .ok () w5 ∧ RowsRange w5 base b r F f' g' c' l' done (fun j => fin j || j == i) ∧ l'.length = l.length ∧ (∀ x, f' x ≠ [] ↔ f x ≠ []) ∧ Below base w w5 ∧ base ≤ w5.heap.size ∧ u.grownBy w5 (some b) := by
  have hfa := (h.prog i _ a hi rfl).1
  have hs := sorted_ne hso hfa
  have hlt := idrow_lt hrow hs
  have hm := h.map.map.lt
  have hrow' : IdRow u base g1 c1 s := idrow_mono hrow hs hb
  have hgb : g1 ≠ b := by omega
  have hfr : ∀ x, f x ≠ [] → g x ≠ g1 := fun x hx => by have := (idrow_lt (h.rows x hx) hx).2; omega
  have hso' : Rc.SortedOf ltI (F a) s := by rw [← hF]; exact hso
  have hu := h.below hbu
  obtain ⟨w5, f', g', c', l', q1, q2, q3, q4, q5, q6⟩ := hu.store (t := 54) (e := 27) Try.underlying54 hi ha hrow' hs hso' hgb hfr
  have q1' : (Instr.mapUpdate 54 (.map (some b)) (.agg #[.int .i64 a.f0, .int .i64 a.f1]) (.slice (some ⟨g1, 0, none⟩) s.length c1)).run Try.prog u = .ok () w5 := q1
  have hb2 : Below base w u := hbu.mono hb
  exact ⟨w5, f', g', c', l', q1', q2, q3, q4, pw_below_grown hb2 _ (Nat.le_trans hb hb2.size) q5 (fun k hk => by cases hk; exact h.above), (by rw [q6]; exact Nat.le_trans hb hb2.size), q5⟩
end Go.Proofs.Ytdepmcofnlggaaa.PResolverCycles
end
section
set_option linter.unusedVariables false
set_option linter.unusedSimpArgs false
attribute [local go_sem ↓] Go.wp_at_zero Go.wp_at_succ
namespace Go.Proofs.Ytdepmcofnlggaaa.PResolverCycles
open Go.RowKit Go.Proofs.YtdepmcofnlggaaaW.PrintWords Go.Proofs.YtdepmcofnlggaaaW.PrintLast Go.Proofs.YtdepmcofnlggaaaW.PrintMore
open Classical

/-- edges that lie one behind the other -/
def EdgesAt (w : World) (G O : Nat) (l : List S26) : Prop := ∀ j (h : j < l.length),
  w.cell? ⟨G, O + j * 5, none⟩ = some (.string l[j].f0) ∧ w.cell? ⟨G, O + j * 5 + 1, none⟩ = some (.int .i64 l[j].f1.f0) ∧ w.cell? ⟨G, O + j * 5 + 2, none⟩ = some (.int .i64 l[j].f1.f1) ∧ w.cell? ⟨G, O + j * 5 + 3, none⟩ = some (.int .i64 l[j].f2.f0) ∧ w.cell? ⟨G, O + j * 5 + 4, none⟩ = some (.int .i64 l[j].f2.f1)
theorem EdgesAt.below {w w' : World} {G O : Nat} {l : List S26} (h : EdgesAt w G O l) (hb : Below w.heap.size w w') : EdgesAt w' G O l := fun j hj => by
  obtain ⟨a, b, c, d, e⟩ := h j hj
  exact ⟨pw_cell_below hb a, pw_cell_below hb b, pw_cell_below hb c, pw_cell_below hb d, pw_cell_below hb e⟩
noncomputable def rowOf (key val : S26 → S24) (l : List S26) (a : S24) : List S24 := (l.filter (fun e => decide (key e = a))).map val
theorem rowOf_push (key val : S26 → S24) (l : List S26) (e : S26) : rowOf key val (l ++ [e]) = pushF (rowOf key val l) (key e) (val e) := by
  funext a
  unfold rowOf pushF
  rw [List.filter_append, List.map_append]
  by_cases h : a = key e
  · subst h; simp
  · rw [if_neg h]
    simp [Ne.symm h]
theorem rowOf_len (key val : S26 → S24) (l : List S26) (a : S24) : (rowOf key val l a).length ≤ l.length := by
  unfold rowOf
  rw [List.length_map]
  exact List.length_filter_le _ _
theorem rowOf_nil (key val : S26 → S24) : rowOf key val [] = fun _ => [] := rfl
theorem take_edge (l : List S26) (m : Nat) (h : m < l.length) : l.take (m + 1) = l.take m ++ [l[m]] := by
  rw [List.take_add_one, List.getElem?_eq_getElem h]; rfl
theorem run_make54 (w : World) : (Instr.makeMap 54 none).run Try.prog w = .ok (.map (some w.heap.size)) (w.alloc (.map #[] 0)) := rfl
/-- an append whose run is known -/
theorem wpList_append_run {P : Program} {w : World} {ops : Array Oper} {rest : List Oper} {o : Oper} {a : Act} {Q : Exit → Act → World → Prop} (hgd : o.guard = none) (s x : Operand) (t : TypeId)
    (ho : o.op = .call { callee := .builtin .append, args := #[s, x], argTypes := #[t, t] }) (v v2 v' : Value) (w' : World) (hs : a.eval s = v) (hx : a.eval x = v2)
    (hr : (Builtin.append_ #[t, t] o.type #[v, v2]).run P w = .ok v' w') (h : wpList P ops Q rest (a.put o.dst v') w') : wpList P ops Q (o :: rest) a w := by
  refine wpList_plain hgd fun K hK => ?_
  unfold Oper.wp execOp
  simp only [ho, resolve, invoke, builtin, Sem.run_bind, Sem.run_pure, Result.andThen_ok, List.map_toArray, List.map_cons, List.map_nil, hs, hx, hr]
  exact hK _ _ h
/-- edges that lie one behind the other, where there are any -/
def EdgesN (w : World) (A : Option Addr) (l : List S26) : Prop := 0 < l.length → ∃ G O, A = some ⟨G, O, none⟩ ∧ EdgesAt w G O l
theorem EdgesN.below {w w' : World} {A : Option Addr} {l : List S26} (h : EdgesN w A l) (hb : Below w.heap.size w w') : EdgesN w' A l := fun hl => by
  obtain ⟨G, O, e, h1⟩ := h hl
  exact ⟨G, O, e, h1.below hb⟩
set_option maxHeartbeats 2000000 in
set_option maxRecDepth 20000 in
theorem graph_any (w : World) (A : Option Addr) (c : Nat) (l : List S26) (hE : EdgesN w A l) (hc : l.length ≤ c) (hm : l.length ≤ 1000) (hin : ∀ e ∈ l, InId e.f1 ∧ InId e.f2) :
    Calls Try.prog 25 #[.slice A l.length c] w fun e w' =>
      ∃ b f g c, e = .returned (.map (some b)) ∧ RowsMap w' w.heap.size b f g c ∧ (∀ a, Rc.SortedOf ltI (rowOf (·.f1) (·.f2) l a) (f a)) ∧ (∀ a, f a ≠ [] ↔ rowOf (·.f1) (·.f2) l a ≠ []) ∧ Below w.heap.size w w' := by
  obtain ⟨n, hN⟩ : ∃ n, n = l.length := ⟨_, rfl⟩
  rw [← hN] at hc hm ⊢
  replace hN := Go.Lib.hid hN
  have hin' := Go.Lib.hid hin
  clear hin
  obtain ⟨B0, hB0⟩ : ∃ b, b = w.heap.size := ⟨_, rfl⟩
  have hB : Below B0 w (w.alloc (.map #[] 0)) := by rw [hB0]; exact below_alloc (Below.refl _ _) _
  have hR : RowsMap (w.alloc (.map #[] 0)) B0 B0 (rowOf (·.f1) (·.f2) (l.take 0)) (fun _ => 0) (fun _ => 0) := by
    rw [hB0]; exact RowsMap.made w (Nat.le_refl _) _ _
  have hE0 := Go.Lib.hid (show ∀ w', Below B0 w w' → EdgesN w' A l from fun w' hb => hE.below (by rw [← hB0]; exact hb))
  have hs0 : B0 ≤ (w.alloc (.map #[] 0)).heap.size := by rw [hB0]; simp
  have hmk := run_make54 w
  go_enter Try.func25, Try.ntmps25
  go_wp2_with fail
  rw [← hB0]
  generalize w.alloc (.map #[] 0) = W at *
  replace hB0 := Go.Lib.hid hB0
  clear hE
  go_loopw [10] (fun i wr => ∃ j : Nat, j ≤ n ∧ i = .int .i64 (j : Int) ∧ Below B0 w wr ∧ B0 ≤ wr.heap.size ∧ ∃ g c, RowsMap wr B0 B0 (rowOf (·.f1) (·.f2) (l.take j)) g c) (fun i _ => n - (intOf i).toNat)
  case atStart => exact ⟨0, by omega, rfl, hB, hs0, _, _, hR⟩
  case round =>
    clear hB hR hs0
    obtain ⟨j, hj, rfl, hBr, hsr, gr, cr, hRr⟩ := hrel
    by_cases hlt : j < n
    · have hltz : (j : Int) < (n : Int) := by omega
      have hjl : j < l.length := by rw [← hN.out]; exact hlt
      obtain ⟨G, O, hA, hEr⟩ := hE0.out wr hBr (by omega)
      subst hA
      obtain ⟨a0, a1, a2, a3, a4⟩ := hEr j hjl
      clear hEr
      have htk := take_edge l j hjl
      have hii := hin'.out l[j] (List.getElem_mem hjl)
      have hll : (l.take j).length ≤ 1000 := by rw [List.length_take]; omega
      generalize l[j] = x at *
      replace htk := Go.Lib.hid htk
      go_upto_region 5 with fail
      have hB1 : Below wr.heap.size wr (wr.alloc (.cells #[.string x.f0, .int .i64 x.f1.f0, .int .i64 x.f1.f1, .int .i64 x.f2.f0, .int .i64 x.f2.f1] 26)) := below_alloc (Below.refl _ _) _
      have hx := heap_alloc_new wr (.cells #[.string x.f0, .int .i64 x.f1.f0, .int .i64 x.f1.f1, .int .i64 x.f2.f0, .int .i64 x.f2.f1] 26)
      have hb0lt := hRr.map.lt
      replace hRr := hRr.below hB1
      replace hBr := hBr.trans (hB1.mono hsr)
      replace hsr := Nat.le_trans hsr hB1.size
      obtain ⟨gx, hgx⟩ : ∃ y, y = wr.heap.size := ⟨_, rfl⟩
      rw [← hgx] at hx hb0lt ⊢
      generalize wr.alloc (.cells #[.string x.f0, .int .i64 x.f1.f0, .int .i64 x.f1.f1, .int .i64 x.f2.f0, .int .i64 x.f2.f1] 26) = V at *
      clear hgx a0 a1 a2 a3 a4 hB1
      have e1 := blk_cell hx 1
      have e2 := blk_cell hx 2
      have e3 := blk_cell hx 3
      have e4 := blk_cell hx 4
      simp only [List.getElem?_toArray, List.getElem?_cons_zero, List.getElem?_cons_succ] at e1 e2 e3 e4
      clear hx
      have hB2 : Below V.heap.size V (V.alloc (.cells #[.int .i64 x.f2.f0, .int .i64 x.f2.f1] 24)) := below_alloc (Below.refl _ _) _
      have hR2 := hRr.below hB2
      have hBr2 := hBr.trans (hB2.mono hsr)
      have hsr2 := Nat.le_trans hsr hB2.size
      have hp := hR2.push hsr2 (a := x.f1) (y := x.f2) hii.1 (Nat.le_trans (rowOf_len _ _ _ _) (by omega)) V.heap.size (heap_alloc_new V _) (by have := hRr.map.lt; omega) 1 27 Try.underlying54
      obtain ⟨v, k, w1, v', w2, w3, r1, r2, r3, ⟨g', c', hR3⟩, hB3, hs3⟩ := hp
      have r1' : (Instr.mapEntry 54 (.map (some B0)) (.agg #[.int .i64 x.f1.f0, .int .i64 x.f1.f1])).run Try.prog (V.alloc (.cells #[.int .i64 x.f2.f0, .int .i64 x.f2.f1] 24)) = .ok (.tuple #[v, goInt (k : Nat)]) w1 := r1
      have r3' : (Instr.entryStore 54 (.map (some B0)) (.int .i64 (k : Int)) v').run Try.prog w2 = .ok () w3 := r3
      clear r1 r3
      replace hR3 := Go.Lib.hid hR3
      replace hB3 := Go.Lib.hid hB3
      replace hs3 := Go.Lib.hid hs3
      go_wp2_with (first | (at_builtin; refine wpList_append_run rfl (.tmp 17) (.tmp 20) 27 rfl _ _ _ _ rfl rfl r2 ?_))
      have hfin : Below B0 w w3 := hBr2.trans (hB3.out B0 (Nat.le_refl _) hsr2 (Below.refl _ _))
      have hR4 : RowsMap w3 B0 B0 (rowOf (·.f1) (·.f2) (l.take (j + 1))) g' c' := by rw [htk.out, rowOf_push]; exact hR3.out
      go_round
      case rel => exact ⟨j + 1, hlt, rfl, hfin, Nat.le_trans hsr2 hs3.out, g', c', hR4⟩
      case measure => simp only [intOf]; omega
    · obtain rfl : j = n := by omega
      have hT : l.take j = l := by rw [hN.out, List.take_length]
      rw [hT] at hRr
      have hlenF : ∀ a, (rowOf (·.f1) (·.f2) l a).length ≤ 1000 := fun a => Nat.le_trans (rowOf_len _ _ l a) (by rw [← hN.out]; exact hm)
      generalize hF : rowOf (·.f1) (·.f2) l = F at *
      replace hF := Go.Lib.hid hF
      obtain ⟨L, w1, hrun, hRR, hB1, _⟩ := hRr.range (t := 54) Try.underlying54
      have hB2 := hBr.trans (hB1.mono hsr)
      have hs2 := Nat.le_trans hsr hB1.size
      obtain ⟨r, hr⟩ : ∃ r, r = wr.heap.size := ⟨_, rfl⟩
      have hrB : B0 ≤ r := by rw [hr]; exact hsr
      rw [← hr] at hrun hRR
      clear hRr hB1 hr
      go_wp2_with fail
      go_loopg [27] (leftN L.length (fun _ => false)) (fun k v wq => ∃ f g c l done, k = leftN l.length done ∧ RowsRange wq B0 B0 r F f g c l done done ∧ (∀ x, f x ≠ [] ↔ F x ≠ []) ∧ Below B0 w wq ∧ B0 ≤ wq.heap.size)
      case atStart => exact ⟨F, gr, cr, L, _, rfl, hRR, fun _ => Iff.rfl, hB2, hs2⟩
      case round =>
        clear hRR hB2 hs2 hrun
        obtain ⟨f, g, c3, l3, done, rfl, hR, hne, hBq, hsq⟩ := hrel
        rcases hR.next 0 with ⟨hall, hrun⟩ | ⟨i, a, w2, hi, ha, hfa, hd, hrun, hR2, hg2, hs2, hent⟩
        · have hfin : ∃ b f g c, (Value.map (some B0)) = .map (some b) ∧ RowsMap wr B0 b f g c ∧ (∀ a, Rc.SortedOf ltI (F a) (f a)) ∧ (∀ a, f a ≠ [] ↔ F a ≠ []) ∧ Below B0 w wr := ⟨B0, f, g, c3, rfl, hR.map, fun a => by
            by_cases e : f a = []
            · have e2 : F a = [] := Classical.byContradiction fun h => (hne a).2 h e
              rw [e, e2]
              exact ⟨List.Pairwise.nil, fun _ => Iff.rfl⟩
            · exact hR.fin_ hall a e, hne, hBq⟩
          clear hR hne hBq
          replace hfin := Go.Lib.hid hfin
          go_wp2_with fail
          go_ret
          obtain ⟨b, f, g, c, e1, e2, e3, e4, e5⟩ := hfin.out
          rw [← hB0.out, hF.out]
          exact ⟨b, f, g, c, by rw [← e1]; rfl, e2, e3, e4, e5⟩
        · have hlow := leftN_less (done := done) (List.getElem?_eq_some_iff.1 hi).1 hd
          have hfF := (hR.prog i _ a hi rfl).2
          rw [hd] at hfF
          simp only [Bool.false_eq_true, if_false] at hfF
          have hB3 : Below B0 w w2 := pw_below_grown hBq _ hsq hg2 (fun k hk => by cases hk; exact hrB)
          unfold idV at hrun hent
          clear hR hg2 hBq
          replace hlow := Go.Lib.hid hlow
          go_upto_region 10 with fail
          have hA := below_alloc (Below.refl w2.heap.size w2) (.cells #[.int .i64 a.f0, .int .i64 a.f1] 24)
          have hx := heap_alloc_new w2 (.cells #[.int .i64 a.f0, .int .i64 a.f1] 24)
          have hsz : B0 ≤ w2.heap.size := by rw [hs2]; exact hsq
          have hR4 := hR2.below hA
          have hB4 := hB3.trans (hA.mono hsz)
          have hs4 := Nat.le_trans hsz hA.size
          obtain ⟨gx, hgx⟩ : ∃ y, y = wr.heap.size := ⟨_, rfl⟩
          rw [hs2, ← hgx] at hx
          rw [← hgx]
          generalize w2.alloc (.cells #[.int .i64 a.f0, .int .i64 a.f1] 24) = V at *
          have a0 := blk_cell hx 0
          have a1 := blk_cell hx 1
          simp only [List.getElem?_toArray, List.getElem?_cons_zero, List.getElem?_cons_succ] at a0 a1
          have hbx : some gx ≠ some B0 := by
            have h9 := hR2.map.map.lt
            rw [hs2, ← hgx] at h9
            intro e
            cases e
            exact Nat.lt_irrefl _ h9
          replace hbx := Go.Lib.hid hbx
          clear hx hA hR2 hB3 hrun hent
          have hD : Below V.heap.size V V.drew := below_drew (Below.refl _ _)
          have d0 := pw_cell_below hD a0
          have d1 := pw_cell_below hD a1
          have hR5 := hR4.below hD
          have hB5 := hB4.trans (hD.mono hs4)
          have hs5 : B0 ≤ V.drew.heap.size := Nat.le_trans hs4 hD.size
          have hL := hR5.map.map.lookup (t := 54) Try.underlying54 (zero27 V.drew) ha false
          unfold rowF at hL
          rw [if_neg hfa] at hL
          simp only [Bool.false_eq_true, if_false, Option.getD_some] at hL
          unfold idV rowV at hL
          have HS := age_sort V.drew ⟨g a, 0, none⟩ (c3 a) (f a) (idrow_ids (hR5.rows a hfa)) (List.length_pos_iff.2 hfa) (by rw [hfF]; exact Nat.le_trans (hlenF a) (by omega))
          have hS : V.drew.cell? ⟨gx, 0, none⟩ = some (.int .i64 a.f0) ∧ V.drew.cell? ⟨gx, 1, none⟩ = some (.int .i64 a.f1) := ⟨d0, d1⟩
          have hlay := fun (u : World) (g1 c1 : Nat) (s : List S24) (h1 : Rc.SortedOf ltI (f a) s) (h2 : IdRow u V.drew.heap.size g1 c1 s) (h3 : Below V.drew.heap.size V.drew u) => lay_row hR5 hs5 hi ha hfF h1 h2 h3
          replace hlay := Go.Lib.hid hlay
          replace hfF := Go.Lib.hid hfF
          clear hgx a0 a1 d0 d1 hj hlt hT hR5 hR4 hi hd hD
          go_region_held_law (fun w' => w'.cell? ⟨gx, 0, none⟩ = some (.int .i64 a.f0) ∧ w'.cell? ⟨gx, 1, none⟩ = some (.int .i64 a.f1))
            (first | exact hS | exact ⟨pw_cell_below hbu hS.1, pw_cell_below hbu hS.2⟩ | exact ⟨hgu.cell (pw_cell_below hbu hS.1) hbx.out, hgu.cell (pw_cell_below hbu hS.2) hbx.out⟩)
            ((first
              | (go_at_call 26; refine HS.mono ?_; rintro e u ⟨g1, c1, s, rfl, hso, hrow, hbu⟩; obtain ⟨w5, f', g', c', l', hup, hR7, hll, hnn, hb7, hs7, hgu⟩ := hlay.out u g1 c1 s hso hrow hbu; replace hR7 := Go.Lib.hid hR7; replace hnn := Go.Lib.hid hnn)))
          all_goals
            go_wp2_with fail
            go_roundg (leftN l'.length (fun j => done j || j == i))
            case rel => exact ⟨f', g', c', l', _, rfl, hR7.out, fun x => (hnn.out x).trans (hne x), hB5.trans hb7, hs7⟩
            case measure => rw [hll]; exact hlow.out
theorem graph_walk (w : World) (G O c : Nat) (l : List S26) (hE : EdgesAt w G O l) (hc : l.length ≤ c) (hm : l.length ≤ 1000) (hin : ∀ e ∈ l, InId e.f1 ∧ InId e.f2) :
    Calls Try.prog 25 #[.slice (some ⟨G, O, none⟩) l.length c] w fun e w' =>
      ∃ b f g c, e = .returned (.map (some b)) ∧ RowsMap w' w.heap.size b f g c ∧ (∀ a, Rc.SortedOf ltI (rowOf (·.f1) (·.f2) l a) (f a)) ∧ (∀ a, f a ≠ [] ↔ rowOf (·.f1) (·.f2) l a ≠ []) ∧ Below w.heap.size w w' :=
  graph_any w (some ⟨G, O, none⟩) c l (fun _ => ⟨G, O, rfl, hE⟩) hc hm hin
end Go.Proofs.Ytdepmcofnlggaaa.PResolverCycles
end
