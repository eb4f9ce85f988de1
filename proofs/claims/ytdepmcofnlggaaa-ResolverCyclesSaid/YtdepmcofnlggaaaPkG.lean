/- ResolverCycles walked. (ahead of it: The document's Sort: what the printed function answers; the call. What the document's Cycle wants beside its walk: an append onto a row of one's own; ways exist; next by far. The document's Cycle, walked. ResolverCycles: edges that came in; what the two comparisons answer.) -/
import Derived.Test.YtdepmcofnlggaaaRcSortRef
import Derived.Test.YtdepmcofnlggaaaPkF
import Derived.Test.YtdepmcofnlggaaaPkE
import Derived.Test.YtdepmcofnlggaaaPResolverCyclesx6
section
set_option linter.unusedVariables false
set_option linter.unusedSimpArgs false
namespace Go.Proofs.Ytdepmcofnlggaaa.PResolverCycles
open Go.RowKit Go.Proofs.YtdepmcofnlggaaaW.PrintWords Go.Proofs.YtdepmcofnlggaaaW.PrintLast Go.Proofs.YtdepmcofnlggaaaW.PrintMore
open Classical

theorem cmpf (a b : S24) : bursarref02_Compare.f a.f0 a.f1 b.f0 b.f1 = some (cmpR a b) := by
  rw [cmpR_f]
  unfold bursarref02_Compare.f
  repeat' split
  all_goals first | rfl | (exfalso; omega)
theorem rd_at (l : List S24) (i : Nat) (h : i < l.length) : rd_T24 l (i : Int) = l[i] := by
  unfold rd_T24
  rw [Int.toNat_natCast, List.getD_eq_getElem?_getD, List.getElem?_eq_getElem h]
  rfl
theorem wrap_suc (i : Nat) (h : i ≤ 1000000) : wrap64 ((i : Int) + 1) = ((i + 1 : Nat) : Int) := by unfold wrap64; omega
section
variable {x0 x3 : List S24} {i j : Nat}
theorem so_lt (k : Nat) (hi : i < x0.length) (hj : j < x3.length) (hb : j ≤ 1000000) (h : cmpR x3[j] x0[i] < 0) : bursarref02_Sort.l1 (k + 1) x0 x3 i j = bursarref02_Sort.l1 k x0 x3 i ((j + 1 : Nat) : Int) := by
  rw [bursarref02_Sort.l1, if_pos (by omega), if_pos (by omega), if_pos (by omega), if_pos (by omega), rd_at x3 j hj, rd_at x0 i hi, cmpf, Option.bind_some, if_pos h, wrap_suc j hb]
theorem so_eq (k : Nat) (hi : i < x0.length) (hj : j < x3.length) (hb : i ≤ 1000000) (h : x3[j] = x0[i]) : bursarref02_Sort.l1 (k + 1) x0 x3 i j = bursarref02_Sort.l0 k x0 x3 ((i + 1 : Nat) : Int) := by
  have hc : ¬ cmpR x3[j] x0[i] < 0 := by rw [h, cmpR_lt]; exact tot_id.irr _
  rw [bursarref02_Sort.l1, if_pos (by omega), if_pos (by omega), if_pos (by omega), if_pos (by omega), rd_at x3 j hj, rd_at x0 i hi, cmpf, Option.bind_some, if_neg hc, if_pos (by rw [h]; simp), wrap_suc i hb]
theorem so_ins (k : Nat) (hi : i < x0.length) (hj : j < x3.length) (hb : i ≤ 1000000) (hl : x3.length ≤ 1000000) (h : ltI x0[i] x3[j]) : bursarref02_Sort.l1 (k + 1) x0 x3 i j = bursarref02_Sort.l0 k x0 ((x3.take j ++ [x0[i]]) ++ x3.drop j) ((i + 1 : Nat) : Int) := by
  have hc : ¬ cmpR x3[j] x0[i] < 0 := by rw [cmpR_lt]; exact fun h2 => tot_id.irr _ (tot_id.tr h h2)
  have hne : ¬ (x3[j].f0 == x0[i].f0 && x3[j].f1 == x0[i].f1) = true := by
    rw [id_beq]
    intro e
    have := of_decide_eq_true e
    rw [this] at h
    exact tot_id.irr _ h
  have l1 : (x3.drop j).length ≤ 1000000 := by rw [List.length_drop]; omega
  have l2 : (x3.take j).length ≤ 1000000 := by rw [List.length_take]; omega
  rw [bursarref02_Sort.l1, if_pos (by omega), if_pos (by omega), if_pos (by omega), if_pos (by omega), rd_at x3 j hj, rd_at x0 i hi, cmpf, Option.bind_some, if_neg hc, if_neg hne, Option.bind_some, if_pos (by omega), Option.bind_some, Int.toNat_natCast, if_pos (by simp only [List.length_nil]; omega), Option.bind_some, Option.bind_some, if_pos (by omega), Option.bind_some, if_pos (by simp only [List.length_append, List.length_cons, List.length_nil]; omega), wrap_suc i hb, List.nil_append]
theorem so_end (k : Nat) (hi : i < x0.length) (hb : i ≤ 1000000) (hl : x3.length ≤ 1000000) : bursarref02_Sort.l1 (k + 1) x0 x3 i (x3.length : Nat) = bursarref02_Sort.l0 k x0 (x3 ++ [x0[i]]) ((i + 1 : Nat) : Int) := by
  rw [bursarref02_Sort.l1, if_neg (by omega), rd_at x0 i hi, Option.bind_some, if_pos (by omega), if_pos (by omega), Option.bind_some, Int.toNat_natCast, if_pos (by simp), Option.bind_some, Option.bind_some, if_pos (by omega), if_pos (by omega), if_pos (by simp only [List.length_take]; omega), Option.bind_some, if_pos (by simp only [List.length_append, List.length_cons, List.length_nil, List.length_take, List.length_drop]; omega), wrap_suc i hb, List.nil_append, List.take_length, List.drop_length, List.append_nil]
theorem so_next (k : Nat) (hi : i < x0.length) : bursarref02_Sort.l0 (k + 1) x0 x3 (i : Nat) = bursarref02_Sort.l1 k x0 x3 i ((0 : Nat) : Int) := by
  rw [bursarref02_Sort.l0, if_pos (by omega)]
  rfl
theorem so_fin (k : Nat) (hi : ¬ i < x0.length) : bursarref02_Sort.l0 (k + 1) x0 x3 (i : Nat) = some x3 := by
  rw [bursarref02_Sort.l0, if_neg (by omega)]
end
theorem sort_ins {x3 : List S24} {j : Nat} {x : S24} (hs : x3.Pairwise ltI) (hj : j ≤ x3.length) (h1 : ∀ m (hm : m < x3.length), m < j → ltI x3[m] x) (h2 : ∀ m (hm : m < x3.length), j ≤ m → ltI x x3[m]) : (((x3.take j ++ [x]) ++ x3.drop j)).Pairwise ltI := by
  rw [List.append_assoc]
  refine List.pairwise_append.2 ⟨hs.sublist (List.take_sublist _ _), ?_, ?_⟩
  · refine List.pairwise_append.2 ⟨List.pairwise_singleton _ _, hs.sublist (List.drop_sublist _ _), fun a ha b hb => ?_⟩
    rw [List.mem_singleton.1 ha]
    obtain ⟨m, hm, rfl⟩ := List.mem_iff_getElem.1 hb
    rw [List.getElem_drop]
    exact h2 _ _ (by omega)
  · intro a ha b hb
    obtain ⟨m, hm, rfl⟩ := List.mem_iff_getElem.1 ha
    rw [List.length_take] at hm
    rw [List.getElem_take]
    have hax := h1 m (by omega) (by omega)
    rcases List.mem_append.1 hb with hb | hb
    · rw [List.mem_singleton.1 hb]; exact hax
    · obtain ⟨q, hq, rfl⟩ := List.mem_iff_getElem.1 hb
      rw [List.getElem_drop]
      exact tot_id.tr hax (h2 _ _ (by omega))
theorem sort_all (x0 : List S24) (hl : x0.length ≤ 100000) : ∀ (d i : Nat) (x3 : List S24), i + d = x0.length → x3.Pairwise ltI → x3.length ≤ i → ∃ k s, bursarref02_Sort.l0 k x0 x3 (i : Nat) = some s ∧ s.Pairwise ltI ∧ ∀ x, x ∈ s ↔ x ∈ x3 ∨ x ∈ x0.drop i := by
  intro d
  induction d with
  | zero =>
    intro i x3 hi hs hx
    refine ⟨1, x3, so_fin 0 (by omega), hs, fun x => ?_⟩
    rw [List.drop_eq_nil_of_le (by omega)]
    simp
  | succ d ih =>
    intro i x3 hi hs hx
    have hil : i < x0.length := by omega
    have hd : x0.drop i = x0[i] :: x0.drop (i + 1) := List.drop_eq_getElem_cons hil
    have inner : ∀ (q j : Nat), j + q = x3.length → (∀ m (hm : m < x3.length), m < j → ltI x3[m] x0[i]) → ∃ k s, bursarref02_Sort.l1 k x0 x3 i (j : Nat) = some s ∧ s.Pairwise ltI ∧ ∀ x, x ∈ s ↔ x ∈ x3 ∨ x ∈ x0.drop i := by
      intro q
      induction q with
      | zero =>
        intro j hj hlt
        obtain rfl : j = x3.length := by omega
        have hs' : (x3 ++ [x0[i]]).Pairwise ltI := by
          have := sort_ins (j := x3.length) hs (Nat.le_refl _) hlt (fun m hm h => by omega)
          rwa [List.take_length, List.drop_length, List.append_nil] at this
        obtain ⟨k, s, e, h1, h2⟩ := ih (i + 1) (x3 ++ [x0[i]]) (by omega) hs' (by simp; omega)
        refine ⟨k + 1, s, (so_end k hil (by omega) (by omega)).trans e, h1, fun x => ?_⟩
        rw [h2 x, hd, List.mem_append, List.mem_singleton, List.mem_cons, or_assoc]
      | succ q ihq =>
        intro j hj hlt
        have hjl : j < x3.length := by omega
        rcases tot_id.tot x3[j] x0[i] with h | h | h
        · obtain ⟨k, s, e, h1, h2⟩ := ihq (j + 1) (by omega) (fun m hm hmj => by
            by_cases e : m = j
            · subst e; exact h
            · exact hlt m hm (by omega))
          exact ⟨k + 1, s, (so_lt k hil hjl (by omega) ((cmpR_lt _ _).2 h)).trans e, h1, h2⟩
        · obtain ⟨k, s, e, h1, h2⟩ := ih (i + 1) x3 (by omega) hs (by omega)
          refine ⟨k + 1, s, (so_eq k hil hjl (by omega) h).trans e, h1, fun x => ?_⟩
          rw [h2 x, hd, List.mem_cons]
          constructor
          · rintro (h3 | h3)
            · exact .inl h3
            · exact .inr (.inr h3)
          · rintro (h3 | h3 | h3)
            · exact .inl h3
            · refine .inl ?_
              rw [h3, ← h]
              exact List.getElem_mem hjl
            · exact .inr h3
        · have hs' := sort_ins (j := j) (x := x0[i]) hs (by omega) hlt (fun m hm hjm => by
            by_cases e : m = j
            · subst e; exact h
            · rw [List.pairwise_iff_getElem] at hs
              exact tot_id.tr h (hs j m hjl hm (by omega)))
          obtain ⟨k, s, e, h1, h2⟩ := ih (i + 1) _ (by omega) hs' (by simp; omega)
          refine ⟨k + 1, s, (so_ins k hil hjl (by omega) (by omega) h).trans e, h1, fun x => ?_⟩
          rw [h2 x, hd, List.mem_cons, List.mem_append, List.mem_append, List.mem_singleton]
          have h5 : x ∈ x3 ↔ x ∈ x3.take j ∨ x ∈ x3.drop j := by
            rw [← List.mem_append, List.take_append_drop]
          rw [h5]
          constructor
          · rintro (((h3 | h3) | h3) | h3)
            · exact .inl (.inl h3)
            · exact .inr (.inl h3)
            · exact .inl (.inr h3)
            · exact .inr (.inr h3)
          · rintro ((h3 | h3) | h3 | h3)
            · exact .inl (.inl (.inl h3))
            · exact .inl (.inr h3)
            · exact .inl (.inl (.inr h3))
            · exact .inr h3
    obtain ⟨k, s, e, h1, h2⟩ := inner x3.length 0 (by omega) (fun m hm h => by omega)
    exact ⟨k + 1, s, (so_next k hil).trans e, h1, h2⟩
theorem sort_answers (l : List S24) (hl : l.length ≤ 100000) : ∃ k s, bursarref02_Sort.f k l = some s ∧ Rc.SortedOf ltI l s := by
  obtain ⟨k, s, e, h1, h2⟩ := sort_all l hl l.length 0 [] (by omega) List.Pairwise.nil (Nat.le_refl _)
  exact ⟨k, s, e, h1, fun x => by rw [h2 x]; simp⟩
/-- the rows of the print are my rows -/
theorem reps_idc {R : S24 → List Value → Prop} (hR : ∀ x cs, R x cs → cs = encId x) : ∀ (l : List S24) (cs : List Value), Reps R 2 l cs → cs = idc l := by
  intro l cs h
  apply List.ext_getElem?
  intro t
  by_cases ht : t < l.length * 2
  · have hj : t / 2 < l.length := by omega
    have h1 := hR _ _ (h.2 (t / 2) _ (List.getElem?_eq_getElem hj))
    have h2 : cs[t]? = ((cs.drop (t / 2 * 2)).take 2)[t % 2]? := by
      rw [List.getElem?_take, if_pos (Nat.mod_lt _ (by omega)), List.getElem?_drop, show t / 2 * 2 + t % 2 = t by omega]
    rw [h2, h1]
    obtain ⟨q0, q1⟩ := idc_at l (t / 2) hj
    rcases Nat.mod_two_eq_zero_or_one t with e | e
    · rw [e, show (idc l)[t]? = (idc l)[t / 2 * 2]? by rw [show t / 2 * 2 = t by omega], q0]; rfl
    · rw [e, show (idc l)[t]? = (idc l)[t / 2 * 2 + 1]? by rw [show t / 2 * 2 + 1 = t by omega], q1]; rfl
  · rw [List.getElem?_eq_none (by rw [h.1]; omega), List.getElem?_eq_none (by rw [idc_len]; omega)]
theorem ids_reads {w : World} {ad : Addr} {l : List S24} (h : IdsAt w ad l) (hl : l.length ≤ 1000000) : Kd.C k24 w (some ad) l.length l := by
  refine ⟨rfl, by omega, fun _ => ⟨ad, rfl, fun j p hp => ⟨encId p, rfl, k24_mk w p, fun i u hu => ?_⟩⟩⟩
  obtain ⟨hj, he⟩ := List.getElem?_eq_some_iff.1 hp
  obtain ⟨q0, q1⟩ := idc_at l j hj
  rw [he] at q0 q1
  match i, hu with
  | 0, hu => cases hu; exact h _ _ q0
  | 1, hu => cases hu; exact h _ _ q1
/-- the document's Sort -/
theorem rsort_walk (w : World) (base : Nat) (v : Value) (l : List S24) (h : w.ownsRow base 24 2 v l.length (idc l)) (hl : l.length ≤ 100000) :
    Calls Try.prog 31 #[v] w fun e w' => ∃ v' s, e = .returned v' ∧ Rc.SortedOf ltI l s ∧ w'.ownsRow w.heap.size 24 2 v' s.length (idc s) ∧ Below w.heap.size w w' := by
  obtain ⟨k, s, hf, hs⟩ := sort_answers l hl
  have key : ∃ A c, v = .slice A l.length c ∧ Kd.C k24 w A l.length l ∧ l.length ≤ c := by
    have h' := h
    rcases h'.2 with ⟨rfl, h0⟩ | ⟨g, cap, cur, rfl, _, _, hc, _⟩
    · exact ⟨none, 0, by rw [h0], ⟨rfl, by omega, fun h => by omega⟩, by omega⟩
    · exact ⟨_, cap, rfl, ids_reads (h.cells (g := g) rfl) (by omega), hc⟩
  obtain ⟨A, c, rfl, hC, hc⟩ := key
  refine (bursarref02_Sort.calls k A c l s w hC hc hf).mono ?_
  rintro e w' ⟨v0, rfl, ⟨_, inner, ho, hr⟩, hb⟩
  have hi := reps_idc (fun x cs hx => k24_openM hx) s inner hr
  rw [hi] at ho
  exact ⟨v0, s, rfl, hs, ho, hb⟩
end Go.Proofs.Ytdepmcofnlggaaa.PResolverCycles
end
section
set_option linter.unusedVariables false
set_option linter.unusedSimpArgs false
namespace Go.Proofs.Ytdepmcofnlggaaa.PResolverCycles
open Go.RowKit Go.Proofs.YtdepmcofnlggaaaW.PrintWords Go.Proofs.YtdepmcofnlggaaaW.PrintLast Go.Proofs.YtdepmcofnlggaaaW.PrintMore
open Classical

theorem own_push (w : World) (base : Nat) (v : Value) (xs : List S24) (h : w.ownsRow base 24 2 v xs.length (idc xs)) (hb : base ≤ w.heap.size) (hm : xs.length ≤ 1000000) (y : S24) (ad : Addr) (k : Nat) (hy : IdsAt w ad [y]) (ty : TypeId) :
    ∃ v' w', (Builtin.append_ #[27, 27] ty #[v, .slice (some ad) 1 k]).run Try.prog w = .ok v' w' ∧ w'.ownsRow base 24 2 v' (xs ++ [y]).length (idc (xs ++ [y])) ∧ Below base w w' := by
  obtain ⟨i0, hi, hz⟩ := Option.map_eq_some_iff.1 info24
  simp only [Prod.mk.injEq] at hz
  obtain ⟨hz0, hz1, hz2⟩ := hz
  obtain ⟨v', w', r1, o1, g1, _, _⟩ := run_append_own_at (P := Try.prog) w base 27 ty 24 i0 _ 2 16 Try.underlying27 hi hz0 hz1 hz2 rfl (by omega) v xs.length (idc xs) h ad 1 k (idc [y]) rfl hy (idc_one [y]) (by simp only [maxLen]; omega) (by omega) hb
  rw [← idc_append] at o1
  refine ⟨v', w', r1, by rw [List.length_append]; exact o1, pw_below_grown (Below.refl base w) _ hb g1 (fun q hq => own_base h q hq)⟩
theorem own_form {w : World} {base : Nat} {v : Value} {l : List S24} (h : w.ownsRow base 24 2 v l.length (idc l)) : ∃ sa sc, v = .slice sa l.length sc ∧ (l ≠ [] → ∃ g, sa = some ⟨g, 0, none⟩ ∧ IdRow w base g sc l) := by
  have h' := h
  rcases h'.2 with ⟨rfl, h0⟩ | ⟨g, cap, cur, rfl, _, _, hc, _⟩
  · exact ⟨none, 0, by rw [h0], fun h => absurd (List.length_eq_zero_iff.1 h0) h⟩
  · exact ⟨_, cap, rfl, fun _ => ⟨g, rfl, h⟩⟩
theorem wrap_pred (a b : Nat) (h : a = b + 1) (hb : b ≤ 1000000) : wrap64 ((a : Int) - 1) = (b : Int) := by unfold wrap64; omega
section
variable {E : List (S24 × S24)} {to_ : S24}
theorem min_of : ∀ (l : List S24) (p : S24 → Prop), (∃ x ∈ l, p x) → ∃ x ∈ l, p x ∧ ∀ y ∈ l, p y → ¬ ltI y x
  | [], p, ⟨x, hx, _⟩ => by cases hx
  | a :: l, p, ⟨x, hx, hp⟩ => by
    by_cases hl : ∃ x ∈ l, p x
    · obtain ⟨z, hz, hpz, hm⟩ := min_of l p hl
      by_cases ha : p a ∧ ltI a z
      · refine ⟨a, by simp, ha.1, fun y hy hpy hlt => ?_⟩
        rcases List.mem_cons.1 hy with rfl | hy
        · exact tot_id.irr _ hlt
        · exact hm y hy hpy (tot_id.tr hlt ha.2)
      · refine ⟨z, by simp [hz], hpz, fun y hy hpy hlt => ?_⟩
        rcases List.mem_cons.1 hy with rfl | hy
        · exact ha ⟨hpy, hlt⟩
        · exact hm y hy hpy hlt
    · rcases List.mem_cons.1 hx with rfl | hx
      · refine ⟨x, by simp, hp, fun y hy hpy hlt => ?_⟩
        rcases List.mem_cons.1 hy with rfl | hy
        · exact tot_id.irr _ hlt
        · exact hl ⟨y, hy, hpy⟩
      · exact absurd ⟨x, hx, hp⟩ hl
theorem way_exists : ∀ (n : Nat) (a : S24), (∃ g, (a, g) ∈ E ∧ Rc.dist ltI E to_ g = some n) → ∃ r, Rc.Way ltI E to_ a n r
  | 0, _, _ => ⟨[], rfl⟩
  | n + 1, a, ⟨g, hg, hd⟩ => by
    obtain ⟨x, hx, hp, hm⟩ := min_of (E.map (·.2)) (fun x => (a, x) ∈ E ∧ Rc.dist ltI E to_ x = some (n + 1)) ⟨g, List.mem_map.2 ⟨_, hg, rfl⟩, hg, hd⟩
    have hn : Rc.Next ltI E to_ a (n + 1) x := ⟨hp.1, hp.2, fun y hy hdy => hm y (List.mem_map.2 ⟨_, hy, rfl⟩) ⟨hy, hdy⟩⟩
    obtain ⟨r, hr⟩ := way_exists n x (Rc.dist_step hp.2).2
    exact ⟨x :: r, x, r, rfl, hn, hr⟩
theorem round_exists {m : Nat} (h : Rc.Shortest ltI E to_ m) : ∃ L, Rc.Round ltI E to_ (some L) ∧ L.length = m + 1 := by
  obtain ⟨r, hr⟩ := way_exists m to_ h.1
  exact ⟨to_ :: r, .inr ⟨m, r, h, rfl, hr⟩, by simp [Rc.way_len hr]⟩
theorem far_is {m k : Nat} (h : Rc.Shortest ltI E to_ m) (h1 : 1 ≤ k) (h2 : k ≤ m) (g : S24) : Rc.farR ltI E to_ g = some k ↔ Rc.dist ltI E to_ g = some k := by
  by_cases e : g = to_
  · subst e
    rw [Rc.farR_some tot_id h, Rc.dist_zero.2 rfl]
    constructor
    · intro e; cases e; omega
    · intro e; cases e; omega
  · rw [Rc.farR_dist tot_id e]
theorem nextOf_next {m k : Nat} {a y : S24} {found : Bool} (h : Rc.Shortest ltI E to_ m) (h1 : 1 ≤ k) (h2 : k ≤ m) (hex : ∃ g, (a, g) ∈ E ∧ Rc.dist ltI E to_ g = some k) (hn : NextOf E a (Rc.farR ltI E to_) k found y) : Rc.Next ltI E to_ a k y := by
  rcases hn with ⟨_, hno⟩ | ⟨_, h3, h4, h5⟩
  · obtain ⟨g, hg, hd⟩ := hex
    exact absurd ((far_is h h1 h2 g).2 hd) (hno g hg)
  · exact ⟨h3, (far_is h h1 h2 y).1 h4, fun g hg hd => h5 g hg ((far_is h h1 h2 g).2 hd)⟩
/-- what far says of the one itself -/
theorem far_self (to_ : S24) : (Rc.farR ltI E to_ to_ = none ∧ Rc.Round ltI E to_ none) ∨ ∃ m, Rc.farR ltI E to_ to_ = some (m + 1) ∧ Rc.Shortest ltI E to_ m := by
  by_cases h : ∃ m, Rc.Back ltI E to_ m
  · obtain ⟨m, hm⟩ := h
    obtain ⟨k, hk⟩ := Rc.shortest_or hm
    exact .inr ⟨k, Rc.farR_some tot_id hk, hk⟩
  · have h' : ∀ m, ¬ Rc.Back ltI E to_ m := fun m hm => h ⟨m, hm⟩
    exact .inl ⟨Rc.farR_none tot_id h', .inl ⟨h', rfl⟩⟩
end
end Go.Proofs.Ytdepmcofnlggaaa.PResolverCycles
end
section
set_option linter.unusedVariables false
set_option linter.unusedSimpArgs false
attribute [local go_sem ↓] Go.wp_at_zero Go.wp_at_succ
namespace Go.Proofs.Ytdepmcofnlggaaa.PResolverCycles
open Go.RowKit Go.Proofs.YtdepmcofnlggaaaW.PrintWords Go.Proofs.YtdepmcofnlggaaaW.PrintLast Go.Proofs.YtdepmcofnlggaaaW.PrintMore
open Classical

theorem take_w (l : List S26) (i : Nat) (h : i < l.length) : (l.map (·.f1)).take (i + 1) = (l.map (·.f1)).take i ++ [l[i].f1] := by
  rw [List.take_add_one, List.getElem?_eq_getElem (by simpa using h)]
  simp
set_option maxHeartbeats 4000000 in
set_option maxRecDepth 20000 in
theorem rcycle_walk (w : World) (A : Option Addr) (c : Nat) (l : List S26) (hE : EdgesR w A l) (hm : l.length ≤ 1000) (hin : ∀ e ∈ l, InId e.f1 ∧ InId e.f2) :
    Calls Try.prog 8 #[.slice A l.length c] w fun e w' => ∃ v s r, e = .returned v ∧ Rc.SortedOf ltI (l.map (·.f1)) s ∧ Rc.Least ltI (edgesOf l) s none r ∧ RoundV w' v r ∧ Below w.heap.size w w' := by
  obtain ⟨n, hN⟩ : ∃ n, n = l.length := ⟨_, rfl⟩
  rw [← hN]
  replace hN := Go.Lib.hid hN
  replace hE := Go.Lib.hid hE
  replace hin := Go.Lib.hid hin
  replace hm := Go.Lib.hid hm
  go_enter Try.func8, Try.ntmps8
  go_wp2_with fail
  go_loopg [3, 4] n (fun k v3 v4 wq => ∃ i : Nat, k = n - i ∧ i ≤ n ∧ v4 = .int .i64 (i : Int) ∧ wq.ownsRow w.heap.size 24 2 v3 ((l.map (·.f1)).take i).length (idc ((l.map (·.f1)).take i)) ∧ Below w.heap.size w wq)
  case atStart => exact ⟨0, rfl, Nat.zero_le _, rfl, World.ownsRow_nil _ _ _ _, Below.refl _ _⟩
  case round =>
    obtain ⟨i, hk, hi, rfl, hO, hb⟩ := hrel
    by_cases hlt : i < n
    · have hil : i < l.length := by rw [← hN.out]; exact hlt
      have hltz : (i : Int) < (n : Int) := by omega
      obtain ⟨G, O, hA, hEd⟩ := hE.out (fun e => by rw [e] at hil; exact Nat.not_lt_zero _ hil)
      subst hA
      obtain ⟨_, a1, a2, _, _⟩ := hEd i hil
      replace a1 := pw_cell_below hb a1
      replace a2 := pw_cell_below hb a2
      have htk := take_w l i hil
      replace htk := Go.Lib.hid htk
      generalize l[i] = x at *
      have hn1 : wrap64 ((i : Int) + 1) = ((i + 1 : Nat) : Int) := wrap_suc i (by have := hm.out; omega)
      have hA := below_alloc (Below.refl wr.heap.size wr) (.cells #[.int .i64 x.f1.f0, .int .i64 x.f1.f1] 24)
      have hO2 := hO.alloc (.cells #[.int .i64 x.f1.f0, .int .i64 x.f1.f1] 24)
      obtain ⟨v', w', hap, hO3, hb3⟩ := own_push _ w.heap.size u3 _ hO2 (Nat.le_trans hb.size hA.size) (by rw [List.length_take]; have := hm.out; simp; omega) x.f1 ⟨wr.heap.size, 0, none⟩ 1 (id_cells wr x.f1) 27
      rw [← htk.out] at hO3
      have hb4 := (hb.trans (hA.mono hb.size)).trans hb3
      replace hn1 := Go.Lib.hid hn1
      replace hk := Go.Lib.hid hk
      replace hO3 := Go.Lib.hid hO3
      clear hO hO2 hA hb3 hEd hil
      go_wp2_with (first | (at_builtin; refine wpList_append_run rfl (.tmp 15) (.tmp 21) 27 rfl _ _ _ _ rfl rfl hap ?_))
      rw [hn1.out]
      go_roundg (n - (i + 1))
      case rel => exact ⟨i + 1, rfl, hlt, rfl, hO3.out, hb4⟩
      case measure => have := hk.out; omega
    · have hin2 : i = n := by omega
      have hO1 : wr.ownsRow w.heap.size 24 2 u3 (l.map (·.f1)).length (idc (l.map (·.f1))) := by
        have e : (l.map (·.f1)).take i = l.map (·.f1) := List.take_of_length_le (by rw [List.length_map, hin2, hN.out]; exact Nat.le_refl _)
        rw [e] at hO; exact hO
      have HS := rsort_walk wr w.heap.size u3 (l.map (·.f1)) hO1 (by rw [List.length_map]; have := hm.out; omega)
      subst hin2
      clear hO hO1 hk
      go_wp2_with (go_at_call 31; refine HS.mono ?_; rintro e w2 ⟨v3, s, rfl, hso, hO2, hb2⟩; obtain ⟨sa, sc, rfl, hsr⟩ := own_form hO2; obtain ⟨ns, hns⟩ : ∃ n, n = s.length := ⟨_, rfl⟩; rw [← hns]; replace hns := Go.Lib.hid hns)
      have hb2w : Below w.heap.size w w2 := hb.trans (hb2.mono hb.size)
      have hsin : ∀ x ∈ s, InId x := fun x hx => by
        obtain ⟨e, he, rfl⟩ := List.mem_map.1 ((hso.2 x).1 hx)
        exact (hin.out e he).1
      have hnsl : ns ≤ 1000 := by
        have hnd : s.Nodup := hso.1.imp (fun {x y} h e => by subst e; exact tot_id.irr _ h)
        have h1 := Rc.nodup_len hnd (fun y hy => (hso.2 y).1 hy)
        rw [List.length_map] at h1
        have := hm.out; rw [hns.out]; omega
      replace hsr := Go.Lib.hid hsr
      replace hso := Go.Lib.hid hso
      replace hsin := Go.Lib.hid hsin
      replace hnsl := Go.Lib.hid hnsl
      replace hb2w := Go.Lib.hid hb2w
      clear HS hO2 hb2 hb
      go_loopg [5, 6] ns (fun k v5 v6 wq => ∃ (i : Nat) (r : Option (List S24)), k = ns - i ∧ i ≤ ns ∧ v6 = .int .i64 (i : Int) ∧ Rc.Least ltI (edgesOf l) (s.take i) none r ∧ RoundV wq v5 r ∧ Below w2.heap.size w2 wq)
      case atStart => exact ⟨0, none, rfl, Nat.zero_le _, rfl, rfl, ⟨fun _ => rfl, fun L h => by cases h⟩, Below.refl _ _⟩
      case round =>
        obtain ⟨j, r, hk, hj, rfl, hLe, hRV, hb⟩ := hrel
        by_cases hlt2 : j < ns
        · have hjl : j < s.length := by rw [← hns.out]; exact hlt2
          have hltz : (j : Int) < (ns : Int) := by omega
          obtain ⟨gs, hsa, hrow⟩ := hsr.out (fun e => by rw [e] at hjl; exact Nat.not_lt_zero _ hjl)
          subst hsa
          obtain ⟨a0, a1⟩ := idrow_cell hrow j hjl
          have htk : s.take (j + 1) = s.take j ++ [s[j]] := by rw [List.take_add_one, List.getElem?_eq_getElem hjl]; rfl
          have hxi := hsin.out _ (List.getElem_mem hjl)
          replace htk := Go.Lib.hid htk
          generalize s[j] = x at *
          have p0 := pw_cell_below hb a0
          have p1 := pw_cell_below hb a1
          have hn1 : wrap64 ((j : Int) + 1) = ((j + 1 : Nat) : Int) := wrap_suc j (by have := hnsl.out; omega)
          replace hn1 := Go.Lib.hid hn1
          replace hk := Go.Lib.hid hk
          have HF := far_walk wr A c l (hE.out.below (hb2w.out.trans (hb.mono hb2w.out.size))) x hxi hm.out hin.out
          rw [← hN.out] at HF
          unfold idV at HF
          replace hRV := Go.Lib.hid hRV
          replace hLe := Go.Lib.hid hLe
          clear hjl hrow
          go_upto_region 12 with (go_at_call 32; refine HF.mono ?_; rintro e u ⟨fb, rfl, hMu, hu⟩)
          have hbu := hb.trans (hu.mono hb.size)
          replace hRV := Go.Lib.hid (hRV.out.below hu)
          replace p0 := pw_cell_below hbu a0
          replace p1 := pw_cell_below hbu a1
          have hLk := hMu.lookup (t := 62) Try.underlying62 (zero3 u) hxi false
          simp only [Bool.false_eq_true, if_false] at hLk
          unfold idV at hLk
          have heq := fun (w : World) (a : Option Addr) (n c : Nat) => Lib.run_eql_slice_nil (P := Try.prog) w 27 24 a n c 0 0 Try.underlying27
          have hneq := fun (w : World) (a : Option Addr) (n c : Nat) => run_neq_slice_nil_any (P := Try.prog) w 27 24 a n c 0 0 Try.underlying27
          clear HF hu hb
          rcases far_self (E := edgesOf l) x with ⟨hfx, hRno⟩ | ⟨m, hfx, hSh⟩
          · have hfv : farV (Rc.farR ltI (edgesOf l) x) x = none := by unfold farV; rw [hfx]; rfl
            rw [hfv] at hLk
            simp only [Option.getD_none] at hLk
            have hLe2 := Rc.least_snoc hLe.out hRno
            rw [← htk.out] at hLe2
            have hbe : Rc.better r none = r := rfl
            rw [hbe] at hLe2
            replace hLe2 := Go.Lib.hid hLe2
            clear hfv hbe hfx hRno
            go_wp2_with fail
            rw [hn1.out]
            go_roundg (ns - (j + 1))
            case rel => exact ⟨j + 1, r, rfl, hlt2, rfl, hLe2.out, hRV.out, hbu⟩
            case measure => have := hk.out; omega
          · have hfv : farV (Rc.farR ltI (edgesOf l) x) x = some (.int .i64 ((m + 1 : Nat) : Int)) := by unfold farV; rw [hfx]; rfl
            rw [hfv] at hLk
            simp only [Option.getD_some] at hLk
            obtain ⟨M, hMm⟩ : ∃ M, M = m + 1 := ⟨_, rfl⟩
            rw [← hMm] at hLk
            have hm1000 : m ≤ 1000 := by
              have h1 := Rc.back_top tot_id hSh.1
              rw [edges_len] at h1
              have := hm.out; omega
            have q0 : ((M : Int) == 0) = false := by simp; omega
            have hwM : wrap64 ((M : Int) - 1) = (m : Int) := by
              clear hltz hlt2 hj hlt hi
              unfold wrap64; omega
            replace hwM := Go.Lib.hid hwM
            replace hMm := Go.Lib.hid hMm
            have hcase : (r = none ∧ u5 = .slice none 0 0) ∨ (∃ (Lr : List S24) (ad : Addr) (c2 : Nat), r = some Lr ∧ u5 = .slice (some ad) Lr.length c2) := by
              cases r with
              | none => exact .inl ⟨rfl, hRV.out.1 rfl⟩
              | some Lr => obtain ⟨ad, c2, h1, _⟩ := hRV.out.2 Lr rfl; exact .inr ⟨Lr, ad, c2, rfl, h1⟩
            rcases hcase with ⟨rfl, rfl⟩ | ⟨Lr, ad, c2, rfl, rfl⟩
            · have hLeT : ∀ L, Rc.Round ltI (edgesOf l) x (some L) → L.length = m + 1 → Rc.Least ltI (edgesOf l) (s.take (j + 1)) none (some L) := fun L hRo _ => by
                have h1 := Rc.least_snoc hLe.out hRo
                rw [← htk.out] at h1
                exact h1
              replace hLeT := Go.Lib.hid hLeT
              clear hRV hLe hfx
              go_upto_region 14 with fail
              replace hLeT := hLeT.out
              clear hfv hLk heq hneq
              have hs5 := below_alloc (Below.refl u.heap.size u) (.cells #[.int .i64 x.f0, .int .i64 x.f1] 24)
              have hQ5 : QueueAt (u.alloc (.cells #[.int .i64 x.f0, .int .i64 x.f1] 24)) u.heap.size u.heap.size 0 1 [x] :=
                ⟨_, heap_alloc_new u _, Nat.le_refl _, by simp, by simp [maxLen], by simp, by simp [idc, encId]⟩
              obtain ⟨B5, hB5⟩ : ∃ y, y = u.heap.size := ⟨_, rfl⟩
              rw [← hB5] at hQ5 hs5
              replace hQ5 := Go.Lib.hid hQ5
              replace hs5 := Go.Lib.hid hs5
              replace hSh := Go.Lib.hid hSh
              replace hMu := Go.Lib.hid hMu
              replace hbu := Go.Lib.hid hbu
              replace hm1000 := Go.Lib.hid hm1000
              go_wp2_with fail
              rw [← hB5]
              rw [hwM.out]
              replace hB5 := Go.Lib.hid hB5
              obtain ⟨K, hK⟩ : ∃ x, x = gk := ⟨_, rfl⟩
              subst hK
              generalize u.alloc (.cells #[.int .i64 x.f0, .int .i64 x.f1] 24) = W5 at *
              clear p0 p1
              go_loopg [5, 8] m (fun k v5 v8 wq => ∃ (a : S24) (L : List S24) (gq oq cq : Nat), v8 = .int .i64 (k : Int) ∧ k ≤ m ∧ v5 = .slice (some ⟨gq, oq * 2, none⟩) L.length cq ∧ QueueAt wq B5 gq oq cq L ∧ OnWay (edgesOf l) x m a k L ∧ L.getLast? = some a ∧ InId a ∧ Below B5 u wq)
              case atStart => exact ⟨x, [x], B5, 0, 1, rfl, Nat.le_refl _, rfl, hQ5.out, onWay_start hSh.out, rfl, hxi, hs5.out⟩
              case round =>
                clear hQ5 hs5
                obtain ⟨k, hk3⟩ : ∃ k, k = gk := ⟨_, rfl⟩
                subst hk3
                obtain ⟨a, L, gq, oq, cq, rfl, hkm, rfl, hQ, hOn, hlast, hai, hbq⟩ := hrel
                have hbq2 : Below u.heap.size u wr := by rw [← hB5.out]; exact hbq
                rcases Nat.eq_zero_or_pos k with hk0 | hkp
                · subst hk0
                  have hids := hQ.ids
                  have hRo := hOn.fin hSh.out
                  have hLl : L.length = m + 1 := by obtain ⟨⟨t, rfl, hl, _⟩, _⟩ := hOn; simp; omega
                  have hLe2 := hLeT L hRo hLl
                  have hbf := hbu.out.trans (hbq2.mono hbu.out.size)
                  have hRVn : RoundV wr (.slice (some ⟨gq, oq * 2, none⟩) L.length cq) (some L) := ⟨fun h => (by cases h), fun L' h => by cases h; exact ⟨_, _, rfl, (by obtain ⟨_, _, _, h, _⟩ := hQ; exact h), hids⟩⟩
                  obtain ⟨nL, hnL⟩ : ∃ n, n = L.length := ⟨_, rfl⟩
                  rw [← hnL] at hRVn ⊢
                  replace hnL := Go.Lib.hid hnL
                  replace hLe2 := Go.Lib.hid hLe2
                  replace hRVn := Go.Lib.hid hRVn
                  replace hLl := Go.Lib.hid hLl
                  replace hids := Go.Lib.hid hids
                  replace hRo := Go.Lib.hid hRo
                  clear hOn hQ hlast hbq2 hbq
                  go_wp2_with fail
                  rw [hn1.out]
                  go_roundg (ns - (j + 1))
                  case rel => exact ⟨j + 1, some L, rfl, hlt2, rfl, hLe2.out, hRVn.out, hbf⟩
                  case measure => have := hk.out; omega
                · obtain ⟨k', hk'⟩ : ∃ j, k = j + 1 := ⟨k - 1, by omega⟩
                  have hpz : (0 : Int) < (k : Int) := by omega
                  have hex := hOn.2
                  have hLlen : L.length + k = m + 1 := by obtain ⟨⟨t, rfl, hl, _⟩, _⟩ := hOn; simp; omega
                  obtain ⟨q, hq⟩ : ∃ q, L.length = q + 1 := by
                    cases L with
                    | nil => cases hlast
                    | cons b L => exact ⟨L.length, rfl⟩
                  have hql : q < L.length := by omega
                  have hLa : L[q] = a := by
                    have h1 : L.getLast? = some L[q] := by
                      rw [List.getLast?_eq_getElem?, hq, Nat.add_sub_cancel, List.getElem?_eq_getElem hql]
                    rw [h1] at hlast
                    exact Option.some.inj hlast
                  obtain ⟨z0, z1⟩ := ids_cell hQ.ids q hql
                  rw [hLa] at z0 z1
                  have hmm := hm1000.out
                  have hMw := hMu.out.below hbq2
                  have HN := rnext_walk wr A c fb l (Rc.farR ltI (edgesOf l) x) k (hE.out.below (hb2w.out.trans ((hbu.out.trans (hbq2.mono hbu.out.size)).mono hb2w.out.size))) a hMw hkp hm.out hin.out
                  rw [← hN.out] at HN
                  unfold idV at HN
                  have hws : wrap64 ((k : Int) - 1) = (k' : Int) := wrap_pred k k' hk' (by omega)
                  obtain ⟨nL, hnL⟩ : ∃ n, n = L.length := ⟨_, rfl⟩
                  have hwq : wrap64 ((nL : Int) - 1) = (q : Int) := wrap_pred nL q (by omega) (by omega)
                  have hwq2 : IntKind.i64.wrap ((nL : Int) - 1) = (q : Int) := (IntWalk.i64_left _).trans hwq
                  have hqz : (q : Int) < (nL : Int) := by omega
                  have hLb : L.length ≤ 1000000 := by omega
                  rw [← hnL]
                  replace hnL := Go.Lib.hid hnL
                  replace hws := Go.Lib.hid hws
                  replace hk' := Go.Lib.hid hk'
                  replace hq := Go.Lib.hid hq
                  replace hLlen := Go.Lib.hid hLlen
                  replace hLb := Go.Lib.hid hLb
                  replace hex := Go.Lib.hid hex
                  replace hOn := Go.Lib.hid hOn
                  replace hmm := Go.Lib.hid hmm
                  replace hlast := Go.Lib.hid hlast
                  replace hkm := Go.Lib.hid hkm
                  replace hkp := Go.Lib.hid hkp
                  clear hLa hql
                  have hgB := hQ.lt.1
                  have hbs := hbq.size
                  replace hgB := Go.Lib.hid hgB
                  replace hbs := Go.Lib.hid hbs
                  go_wp2_with (first
                    | (at_builtin; refine wpList_append_run rfl (.tmp 66) (.tmp 77) 27 rfl _ _ _ _ rfl rfl hap ?_)
                    | (go_at_call 33; refine HN.mono ?_; rintro e u2 ⟨found, y, rfl, hNo, hu2⟩; have hQ2 := hQ.block (hu2.block gq hQ.lt.2); have hA2 := below_alloc (Below.refl u2.heap.size u2) (.cells #[.int .i64 y.f0, .int .i64 y.f1] 24); obtain ⟨g', o', c', w8, hap, hQ8, hg8, _⟩ := (hQ2.block (hA2.block gq hQ2.lt.2)).push (Nat.le_trans (Nat.le_trans (Nat.le_of_lt (Nat.lt_of_le_of_lt hgB.out hQ.lt.2)) hu2.size) hA2.size) (Nat.le_trans hLb.out (by omega)) y ⟨u2.heap.size, 0, none⟩ 1 (id_cells u2 y) 27; rw [← hnL.out] at hap; replace hQ8 := Go.Lib.hid hQ8; replace hNo := Go.Lib.hid hNo; replace hA2 := Go.Lib.hid hA2; clear HN))
                  rw [hws.out]
                  have hNx := nextOf_next hSh.out hkp.out hkm.out hex.out hNo.out
                  have hOn2 : OnWay (edgesOf l) x m y k' (L ++ [y]) := by have h1 := hk'.out; subst h1; exact hOn.out.step hNx
                  have hyi : InId y := by
                    obtain ⟨e, he, hee⟩ := List.mem_map.1 hNx.1
                    simp only [Prod.mk.injEq] at hee
                    rw [← hee.2]
                    exact (hin.out e he).2
                  have hbw : Below B5 u w8 := pw_below_grown ((hbq.trans (hu2.mono (Nat.le_of_lt (Nat.lt_of_le_of_lt hgB.out hQ.lt.2)))).trans (hA2.out.mono (Nat.le_trans (Nat.le_of_lt (Nat.lt_of_le_of_lt hgB.out hQ.lt.2)) hu2.size))) _ (Nat.le_trans (Nat.le_trans (Nat.le_of_lt (Nat.lt_of_le_of_lt hgB.out hQ.lt.2)) hu2.size) hA2.out.size) hg8 (fun q hq => by cases hq; exact hgB.out)
                  go_roundg k'
                  case rel => exact ⟨y, L ++ [y], g', o', c', rfl, (by have := hkm.out; have := hk'.out; omega), by rw [hnL.out, List.length_append]; rfl, hQ8.out, hOn2, by simp, hyi, hbw⟩
                  case measure => have := hk'.out; omega
            · by_cases hge : M < Lr.length
              · have hLeT : ∀ L, Rc.Round ltI (edgesOf l) x (some L) → L.length = m + 1 → Rc.Least ltI (edgesOf l) (s.take (j + 1)) none (some L) := fun L hRo hl => by
                  have h1 := Rc.least_snoc hLe.out hRo
                  rw [← htk.out] at h1
                  have hbe : Rc.better (some Lr) (some L) = if L.length < Lr.length then some L else some Lr := rfl
                  rw [hbe, if_pos (by have := hMm.out; omega)] at h1
                  exact h1
                replace hLeT := Go.Lib.hid hLeT
                clear hRV hLe hfx
                obtain ⟨nr, hnr⟩ : ∃ n, n = Lr.length := ⟨_, rfl⟩
                rw [← hnr] at hge ⊢
                replace hnr := Go.Lib.hid hnr
                have hgz : ¬ (nr : Int) ≤ (M : Int) := by omega
                go_upto_region 14 with fail
                clear hgz hge
                replace hLeT := hLeT.out
                clear hfv hLk heq hneq
                have hs5 := below_alloc (Below.refl u.heap.size u) (.cells #[.int .i64 x.f0, .int .i64 x.f1] 24)
                have hQ5 : QueueAt (u.alloc (.cells #[.int .i64 x.f0, .int .i64 x.f1] 24)) u.heap.size u.heap.size 0 1 [x] :=
                  ⟨_, heap_alloc_new u _, Nat.le_refl _, by simp, by simp [maxLen], by simp, by simp [idc, encId]⟩
                obtain ⟨B5, hB5⟩ : ∃ y, y = u.heap.size := ⟨_, rfl⟩
                rw [← hB5] at hQ5 hs5
                replace hQ5 := Go.Lib.hid hQ5
                replace hs5 := Go.Lib.hid hs5
                replace hSh := Go.Lib.hid hSh
                replace hMu := Go.Lib.hid hMu
                replace hbu := Go.Lib.hid hbu
                replace hm1000 := Go.Lib.hid hm1000
                go_wp2_with fail
                rw [← hB5]
                rw [hwM.out]
                replace hB5 := Go.Lib.hid hB5
                obtain ⟨K, hK⟩ : ∃ x, x = gk := ⟨_, rfl⟩
                subst hK
                generalize u.alloc (.cells #[.int .i64 x.f0, .int .i64 x.f1] 24) = W5 at *
                clear p0 p1
                go_loopg [5, 8] m (fun k v5 v8 wq => ∃ (a : S24) (L : List S24) (gq oq cq : Nat), v8 = .int .i64 (k : Int) ∧ k ≤ m ∧ v5 = .slice (some ⟨gq, oq * 2, none⟩) L.length cq ∧ QueueAt wq B5 gq oq cq L ∧ OnWay (edgesOf l) x m a k L ∧ L.getLast? = some a ∧ InId a ∧ Below B5 u wq)
                case atStart => exact ⟨x, [x], B5, 0, 1, rfl, Nat.le_refl _, rfl, hQ5.out, onWay_start hSh.out, rfl, hxi, hs5.out⟩
                case round =>
                  clear hQ5 hs5
                  obtain ⟨k, hk3⟩ : ∃ k, k = gk := ⟨_, rfl⟩
                  subst hk3
                  obtain ⟨a, L, gq, oq, cq, rfl, hkm, rfl, hQ, hOn, hlast, hai, hbq⟩ := hrel
                  have hbq2 : Below u.heap.size u wr := by rw [← hB5.out]; exact hbq
                  rcases Nat.eq_zero_or_pos k with hk0 | hkp
                  · subst hk0
                    have hids := hQ.ids
                    have hRo := hOn.fin hSh.out
                    have hLl : L.length = m + 1 := by obtain ⟨⟨t, rfl, hl, _⟩, _⟩ := hOn; simp; omega
                    have hLe2 := hLeT L hRo hLl
                    have hbf := hbu.out.trans (hbq2.mono hbu.out.size)
                    have hRVn : RoundV wr (.slice (some ⟨gq, oq * 2, none⟩) L.length cq) (some L) := ⟨fun h => (by cases h), fun L' h => by cases h; exact ⟨_, _, rfl, (by obtain ⟨_, _, _, h, _⟩ := hQ; exact h), hids⟩⟩
                    obtain ⟨nL, hnL⟩ : ∃ n, n = L.length := ⟨_, rfl⟩
                    rw [← hnL] at hRVn ⊢
                    replace hnL := Go.Lib.hid hnL
                    replace hLe2 := Go.Lib.hid hLe2
                    replace hRVn := Go.Lib.hid hRVn
                    replace hLl := Go.Lib.hid hLl
                    replace hids := Go.Lib.hid hids
                    replace hRo := Go.Lib.hid hRo
                    clear hOn hQ hlast hbq2 hbq
                    go_wp2_with fail
                    rw [hn1.out]
                    go_roundg (ns - (j + 1))
                    case rel => exact ⟨j + 1, some L, rfl, hlt2, rfl, hLe2.out, hRVn.out, hbf⟩
                    case measure => have := hk.out; omega
                  · obtain ⟨k', hk'⟩ : ∃ j, k = j + 1 := ⟨k - 1, by omega⟩
                    have hpz : (0 : Int) < (k : Int) := by omega
                    have hex := hOn.2
                    have hLlen : L.length + k = m + 1 := by obtain ⟨⟨t, rfl, hl, _⟩, _⟩ := hOn; simp; omega
                    obtain ⟨q, hq⟩ : ∃ q, L.length = q + 1 := by
                      cases L with
                      | nil => cases hlast
                      | cons b L => exact ⟨L.length, rfl⟩
                    have hql : q < L.length := by omega
                    have hLa : L[q] = a := by
                      have h1 : L.getLast? = some L[q] := by
                        rw [List.getLast?_eq_getElem?, hq, Nat.add_sub_cancel, List.getElem?_eq_getElem hql]
                      rw [h1] at hlast
                      exact Option.some.inj hlast
                    obtain ⟨z0, z1⟩ := ids_cell hQ.ids q hql
                    rw [hLa] at z0 z1
                    have hmm := hm1000.out
                    have hMw := hMu.out.below hbq2
                    have HN := rnext_walk wr A c fb l (Rc.farR ltI (edgesOf l) x) k (hE.out.below (hb2w.out.trans ((hbu.out.trans (hbq2.mono hbu.out.size)).mono hb2w.out.size))) a hMw hkp hm.out hin.out
                    rw [← hN.out] at HN
                    unfold idV at HN
                    have hws : wrap64 ((k : Int) - 1) = (k' : Int) := wrap_pred k k' hk' (by omega)
                    obtain ⟨nL, hnL⟩ : ∃ n, n = L.length := ⟨_, rfl⟩
                    have hwq : wrap64 ((nL : Int) - 1) = (q : Int) := wrap_pred nL q (by omega) (by omega)
                    have hwq2 : IntKind.i64.wrap ((nL : Int) - 1) = (q : Int) := (IntWalk.i64_left _).trans hwq
                    have hqz : (q : Int) < (nL : Int) := by omega
                    have hLb : L.length ≤ 1000000 := by omega
                    rw [← hnL]
                    replace hnL := Go.Lib.hid hnL
                    replace hws := Go.Lib.hid hws
                    replace hk' := Go.Lib.hid hk'
                    replace hq := Go.Lib.hid hq
                    replace hLlen := Go.Lib.hid hLlen
                    replace hLb := Go.Lib.hid hLb
                    replace hex := Go.Lib.hid hex
                    replace hOn := Go.Lib.hid hOn
                    replace hmm := Go.Lib.hid hmm
                    replace hlast := Go.Lib.hid hlast
                    replace hkm := Go.Lib.hid hkm
                    replace hkp := Go.Lib.hid hkp
                    clear hLa hql
                    have hgB := hQ.lt.1
                    have hbs := hbq.size
                    replace hgB := Go.Lib.hid hgB
                    replace hbs := Go.Lib.hid hbs
                    go_wp2_with (first
                      | (at_builtin; refine wpList_append_run rfl (.tmp 66) (.tmp 77) 27 rfl _ _ _ _ rfl rfl hap ?_)
                      | (go_at_call 33; refine HN.mono ?_; rintro e u2 ⟨found, y, rfl, hNo, hu2⟩; have hQ2 := hQ.block (hu2.block gq hQ.lt.2); have hA2 := below_alloc (Below.refl u2.heap.size u2) (.cells #[.int .i64 y.f0, .int .i64 y.f1] 24); obtain ⟨g', o', c', w8, hap, hQ8, hg8, _⟩ := (hQ2.block (hA2.block gq hQ2.lt.2)).push (Nat.le_trans (Nat.le_trans (Nat.le_of_lt (Nat.lt_of_le_of_lt hgB.out hQ.lt.2)) hu2.size) hA2.size) (Nat.le_trans hLb.out (by omega)) y ⟨u2.heap.size, 0, none⟩ 1 (id_cells u2 y) 27; rw [← hnL.out] at hap; replace hQ8 := Go.Lib.hid hQ8; replace hNo := Go.Lib.hid hNo; replace hA2 := Go.Lib.hid hA2; clear HN))
                    rw [hws.out]
                    have hNx := nextOf_next hSh.out hkp.out hkm.out hex.out hNo.out
                    have hOn2 : OnWay (edgesOf l) x m y k' (L ++ [y]) := by have h1 := hk'.out; subst h1; exact hOn.out.step hNx
                    have hyi : InId y := by
                      obtain ⟨e, he, hee⟩ := List.mem_map.1 hNx.1
                      simp only [Prod.mk.injEq] at hee
                      rw [← hee.2]
                      exact (hin.out e he).2
                    have hbw : Below B5 u w8 := pw_below_grown ((hbq.trans (hu2.mono (Nat.le_of_lt (Nat.lt_of_le_of_lt hgB.out hQ.lt.2)))).trans (hA2.out.mono (Nat.le_trans (Nat.le_of_lt (Nat.lt_of_le_of_lt hgB.out hQ.lt.2)) hu2.size))) _ (Nat.le_trans (Nat.le_trans (Nat.le_of_lt (Nat.lt_of_le_of_lt hgB.out hQ.lt.2)) hu2.size) hA2.out.size) hg8 (fun q hq => by cases hq; exact hgB.out)
                    go_roundg k'
                    case rel => exact ⟨y, L ++ [y], g', o', c', rfl, (by have := hkm.out; have := hk'.out; omega), by rw [hnL.out, List.length_append]; rfl, hQ8.out, hOn2, by simp, hyi, hbw⟩
                    case measure => have := hk'.out; omega
              · obtain ⟨Lx, hRx, hlx⟩ := round_exists hSh
                have hLe2 := Rc.least_snoc hLe.out hRx
                rw [← htk.out] at hLe2
                have hbe : Rc.better (some Lr) (some Lx) = if Lx.length < Lr.length then some Lx else some Lr := rfl
                rw [hbe, if_neg (by have := hMm.out; omega)] at hLe2
                obtain ⟨nr, hnr⟩ : ∃ n, n = Lr.length := ⟨_, rfl⟩
                rw [← hnr] at hge ⊢
                have hgz : (nr : Int) ≤ (M : Int) := by omega
                replace hnr := Go.Lib.hid hnr
                replace hLe2 := Go.Lib.hid hLe2
                replace hlx := Go.Lib.hid hlx
                clear hbe hLe hfx hRx
                go_wp2_with fail
                rw [hn1.out]
                go_roundg (ns - (j + 1))
                case rel => exact ⟨j + 1, some Lr, rfl, hlt2, rfl, hLe2.out, (by have := hRV.out; rw [hnr.out]; exact this), hbu⟩
                case measure => have := hk.out; omega
        · have hin3 : j = ns := by omega
          have hLf : Rc.Least ltI (edgesOf l) s none r := by rw [hin3, hns.out, List.take_length] at hLe; exact hLe
          have hbf := hb2w.out.trans (hb.mono hb2w.out.size)
          subst hin3
          replace hLf := Go.Lib.hid hLf
          replace hRV := Go.Lib.hid hRV
          clear hk hLe
          go_wp2_with fail
          go_ret
          exact ⟨_, s, r, rfl, hso.out, hLf.out, hRV.out, hbf⟩
end Go.Proofs.Ytdepmcofnlggaaa.PResolverCycles
end
section
set_option linter.unusedVariables false
set_option linter.unusedSimpArgs false
namespace Go.Proofs.Ytdepmcofnlggaaa.PResolverCycles
open Go.RowKit Go.Proofs.YtdepmcofnlggaaaW.PrintWords Go.Proofs.YtdepmcofnlggaaaW.PrintLast Go.Proofs.YtdepmcofnlggaaaW.PrintMore
open Classical

theorem spot_plain {w : World} {a : Addr} {v : Value} {i : Nat} (h : w.cell? ⟨a.block, a.off + i, a.spot⟩ = some v) : a = ⟨a.block, a.off, none⟩ := by
  obtain ⟨b, o, s⟩ := a
  unfold World.cell? at h
  cases s with
  | none => rfl
  | some s => split at h <;> simp at h
theorem rd_T26_at (l : List S26) (i : Nat) (h : i < l.length) : rd_T26 l (i : Int) = l[i] := by
  unfold rd_T26
  rw [Int.toNat_natCast, List.getD_eq_getElem?_getD, List.getElem?_eq_getElem h]
  rfl
theorem edgesR_of {w : World} {A : Option Addr} {l : List S26} (h : Kd.C k26 w A l.length l) : EdgesR w A l := fun hl => by
  have hp : 0 < l.length := List.length_pos_iff.2 hl
  obtain ⟨ad, e, hz, _⟩ := at_T26 h 0 (by omega) (by omega)
  have hpl : ad = ⟨ad.block, ad.off, none⟩ := spot_plain (i := 0) (a := ad) (by simpa [Addr.add] using hz)
  clear hz
  refine ⟨ad.block, ad.off, by rw [e, ← hpl], fun i hi => ?_⟩
  obtain ⟨ad', e', h0, h1, h2, h3, h4⟩ := at_T26 h (i : Int) (by omega) (by omega)
  obtain rfl : ad = ad' := by rw [e] at e'; exact Option.some.inj e'
  rw [hpl, Int.toNat_natCast, add_off] at h0 h1 h2 h3 h4
  rw [rd_T26_at l i hi] at h0 h1 h2 h3 h4
  exact ⟨h0, h1, h2, h3, h4⟩
theorem EdgesAt.pre {w : World} {G O : Nat} {l m : List S26} (h : EdgesAt w G O (l ++ m)) : EdgesAt w G O l := fun j hj => by
  have := h j (by simp; omega)
  rw [List.getElem_append_left hj] at this
  exact this
theorem c26_pre {w : World} {A : Option Addr} {l m : List S26} (h : Kd.C k26 w A (l ++ m).length (l ++ m)) : Kd.C k26 w A l.length l := by
  obtain ⟨h1, h2, h3⟩ := h
  refine ⟨rfl, by rw [List.length_append] at h2; omega, fun hl => ?_⟩
  obtain ⟨ad, e, hc⟩ := h3 (by rw [List.length_append]; omega)
  refine ⟨ad, e, fun j p hp => hc j p ?_⟩
  rw [List.getElem?_append_left (List.getElem?_eq_some_iff.1 hp).1]
  exact hp
theorem same_edges (l : List S26) (hl : l.length ≤ 1000) : bursarref18_SameEdges.f (l.length + 1) l l = some true := by
  unfold bursarref18_SameEdges.f
  rw [if_pos rfl]
  have key : ∀ (d i : Nat), i + d = l.length → bursarref18_SameEdges.l0 (d + 1) l l (i : Nat) = some true := by
    intro d
    induction d with
    | zero => intro i hi; rw [bursarref18_SameEdges.l0, if_neg (by omega)]
    | succ d ih =>
      intro i hi
      rw [bursarref18_SameEdges.l0, if_pos (by omega), if_pos (by omega), if_pos (by omega), if_neg (by simp), wrap_suc i (by omega)]
      exact ih (i + 1) (by omega)
  exact key l.length 0 (by omega)
theorem same_ids (l : List S24) (hl : l.length ≤ 1000000) : bursarlaw22_sameIds.f (l.length + 1) l l = some true := by
  unfold bursarlaw22_sameIds.f
  rw [if_pos rfl]
  have key : ∀ (d i : Nat), i + d = l.length → bursarlaw22_sameIds.l0 (d + 1) l l (i : Nat) = some true := by
    intro d
    induction d with
    | zero => intro i hi; rw [bursarlaw22_sameIds.l0, if_neg (by omega)]
    | succ d ih =>
      intro i hi
      rw [bursarlaw22_sameIds.l0, if_pos (by omega), if_pos (by omega), if_pos (by omega), if_neg (by simp), wrap_suc i (by omega)]
      exact ih (i + 1) (by omega)
  exact key l.length 0 (by omega)
theorem least_is {E : List (S24 × S24)} : ∀ {l : List S24} {b r : Option (List S24)}, Rc.Least ltI E l b r → r = b ∨ ∃ x ∈ l, Rc.Round ltI E x r
  | [], b, r, h => .inl h
  | x :: l, b, r, h => by
    obtain ⟨q, hq, h2⟩ := h
    rcases least_is h2 with h3 | ⟨y, hy, h3⟩
    · have hb : Rc.better b q = b ∨ Rc.better b q = q := by
        cases q with
        | none => exact .inl rfl
        | some L =>
          cases b with
          | none => exact .inr rfl
          | some B =>
            show (if L.length < B.length then some L else some B) = _ ∨ (if L.length < B.length then some L else some B) = _
            split
            · exact .inr rfl
            · exact .inl rfl
      rcases hb with hb | hb
      · rw [hb] at h3; exact .inl h3
      · rw [hb] at h3; rw [h3]; exact .inr ⟨x, by simp, hq⟩
    · exact .inr ⟨y, by simp [hy], h3⟩
theorem least_len {l : List S26} {s : List S24} {r : Option (List S24)} (h : Rc.Least ltI (edgesOf l) s none r) (hl : l.length ≤ 1000) : ∀ L, r = some L → L.length ≤ 1000000 := by
  rintro L rfl
  rcases least_is h with h1 | ⟨x, _, h1⟩
  · cases h1
  · rcases h1 with ⟨_, h2⟩ | ⟨m, t, h2, h3, h4⟩
    · cases h2
    · cases h3
      have h5 := Rc.back_top tot_id h2.1
      rw [edges_len] at h5
      simp only [List.length_cons, Rc.way_len h4]
      omega
theorem roundv_form {w : World} {v : Value} {r : Option (List S24)} (h : RoundV w v r) (hl : ∀ L, r = some L → L.length ≤ 1000000) : ∃ A c L, v = .slice A L.length c ∧ L.length ≤ c ∧ Kd.C k24 w A L.length L ∧ L.length ≤ 1000000 ∧ L = r.getD [] := by
  cases r with
  | none => exact ⟨none, 0, [], h.1 rfl, Nat.le_refl _, ⟨rfl, by simp, fun h => by simp at h⟩, by simp, rfl⟩
  | some L =>
    obtain ⟨ad, c, h1, h2, h3⟩ := h.2 L rfl
    exact ⟨some ad, c, L, h1, h2, ids_reads h3 (hl L rfl), hl L rfl, rfl⟩
/-- two rounds alike are the same -/
theorem same_rounds (w : World) (v v' : Value) (r : Option (List S24)) (h : RoundV w v r) (h' : RoundV w v' r) (hl : ∀ L, r = some L → L.length ≤ 1000000) :
    Calls Try.prog 7 #[v, v'] w fun e w' => e = .returned (.bool true) ∧ Drawn0 w w' := by
  obtain ⟨A, c, L, rfl, h1, h2, h3, h4⟩ := roundv_form h hl
  obtain ⟨A', c', L', rfl, h1', h2', h3', h4'⟩ := roundv_form h' hl
  have e : L' = L := by rw [h4, h4']
  subst e
  exact bursarlaw22_sameIds.calls _ A c L' A' c' L' true w h2 h1 h2' h1' (same_ids L' h3)
end Go.Proofs.Ytdepmcofnlggaaa.PResolverCycles
end
section
set_option linter.unusedVariables false
set_option linter.unusedSimpArgs false
attribute [local go_sem ↓] Go.wp_at_zero Go.wp_at_succ
namespace Go.Proofs.Ytdepmcofnlggaaa.PResolverCycles
open Go.RowKit Go.Proofs.YtdepmcofnlggaaaW.PrintWords Go.Proofs.YtdepmcofnlggaaaW.PrintLast Go.Proofs.YtdepmcofnlggaaaW.PrintMore
open Classical

def qEdge : S26 := ⟨⟨#[63]⟩, z24, z24⟩
theorem info26 : (Try.prog.info? 26).map (fun i => (i.zero, i.size, i.bytes)) = some (some (.agg #[.string ⟨#[]⟩, .int .i64 0, .int .i64 0, .int .i64 0, .int .i64 0]), 5, 48) := by kernel_rfl
theorem lit_own (w : World) : k26.R 26 (w.alloc (.cells #[] 26)) w.heap.size (fun _ => True) (.slice (some ⟨w.heap.size, 0, none⟩) 0 0) [] :=
  ⟨fun _ _ => trivial, [], World.ownsRow_lit (base := w.heap.size) (size := 5) w #[] 0 (Nat.le_refl _) (Nat.zero_le _) rfl, Reps.none _ _⟩
theorem q_reads (w : World) : ReadsRow (k26.K (w.alloc (.cells #[.string ⟨#[63]⟩, .int .i64 0, .int .i64 0, .int .i64 0, .int .i64 0] 26))) 5 (w.alloc (.cells #[.string ⟨#[63]⟩, .int .i64 0, .int .i64 0, .int .i64 0, .int .i64 0] 26)) (some ⟨w.heap.size, 0, none⟩) 1 [qEdge] := by
  refine ⟨rfl, by omega, fun _ => ⟨_, rfl, fun j p hp => ?_⟩⟩
  have hj : j = 0 := by
    have := (List.getElem?_eq_some_iff.1 hp).1
    simp at this; omega
  subst hj
  cases hp
  refine ⟨_, rfl, k26_mk _ qEdge, fun i u hu => ?_⟩
  rw [add_off, blk_cell (heap_alloc_new w _)]
  simpa [qEdge, z24] using hu
theorem run_slice_all26 (wx : World) (G O m d n : Nat) (hn : n ≤ d) : (Instr.slice 22 (.slice (some ⟨G, O, none⟩) m d) none (some (.int .i64 (n : Int))) none).run Try.prog wx = .ok (.slice (some ⟨G, O, none⟩) n d) wx := by
  have hu : Try.prog.underlying 22 = some (.slice (Try.prog.elem 22)) := by kernel_rfl
  have hs : (sizeOf (Try.prog.elem 22)).run Try.prog wx = .ok 5 wx := by kernel_rfl
  have hr := run_slice_h (P := Try.prog) wx 22 (some ⟨G, O, none⟩) m d hu .i64 (n : Int) (by omega) (by omega)
  rw [hs] at hr
  refine hr.trans ?_
  simp [Result.andThen, sliced, add_off]
set_option maxHeartbeats 4000000 in
set_option maxRecDepth 20000 in
theorem law_walk (w : World) (A : Option Addr) (c : Nat) (l : List S26) (hC : Kd.C k26 w A l.length l) (hlc : l.length ≤ c) (hin : l.length ≤ 60 → ∀ e ∈ l, InId e.f1 ∧ InId e.f2) :
    Calls Try.prog 3 #[.slice A l.length c] w fun e w' => e = .returned (.bool true) ∧ Below w.heap.size w w' := by
  by_cases hbig : 60 < l.length
  · obtain ⟨n, hN⟩ : ∃ n, n = l.length := ⟨_, rfl⟩
    rw [← hN] at hbig ⊢
    have hz : (60 : Int) < (n : Int) := by omega
    replace hN := Go.Lib.hid hN
    go_enter Try.func3, Try.ntmps3
    go_wp2_with fail
    go_ret
    exact ⟨rfl, Below.refl _ _⟩
  · have hm : l.length ≤ 60 := by omega
    replace hin := hin hm
    have hW0 := below_alloc (Below.refl w.heap.size w) (.cells #[] 26)
    have hO := lit_own w
    have hC0 := Kd.C_below hC hW0
    have hLR := hC0
    obtain ⟨n, hN⟩ : ∃ n, n = l.length := ⟨_, rfl⟩
    have hz : ¬ (60 : Int) < (n : Int) := by omega
    rw [← hN]
    have hCn : ReadsRow (k26.K (w.alloc (.cells #[] 26))) 5 (w.alloc (.cells #[] 26)) A n l := by rw [hN]; exact hC0
    replace hN := Go.Lib.hid hN
    go_enter Try.func3, Try.ntmps3
    go_upto_region 4 with (first
      | (at_builtin; refine Kd.R_append_rows k26 w.heap.size rfl (.tmp 10) (.tmp 12) 22 26 _ 48 rfl Try.underlying22 info26 rfl (by decide) (by omega) _ l [qEdge] (some ⟨w1.heap.size, 0, none⟩) 1 1 (fun _ => True) (fun _ => False) rfl rfl hO2 (q_reads w1) (fun x cs hx => by have := k26_open hx; subst this; exact k26_mkM _ _ _ x) (fun _ h => h.elim) (fun _ _ => trivial) hB2 hB2.size (by omega) ?_; intro v2 w2 hO3 hB3 hg2 hat2; obtain ⟨B, d, rfl, hcd, hCB⟩ := Kd.R_reads hO3; obtain ⟨m1, hm1⟩ : ∃ k, k = (l ++ [qEdge]).length := ⟨_, rfl⟩; rw [← hm1]; replace hm1 := Go.Lib.hid hm1; clear hat2 hg2)
      | (at_builtin; refine Kd.R_append_rows k26 w.heap.size rfl (.tmp 8) (.tmp 9) 22 26 _ 48 rfl Try.underlying22 info26 rfl (by decide) (by omega) _ [] l A n c (fun _ => True) (fun _ => False) rfl rfl hO hCn (fun x cs hx => by have := k26_open hx; subst this; exact k26_mkM _ _ _ x) (fun _ h => h.elim) (fun _ _ => trivial) hW0 hW0.size (by have := hN.out; simp; omega) ?_; intro v1 w1 hO1 hB1 hg1 hat1; clear hat1 hg1; have hO2 := Kd.R_below (show k26.R 26 w1 w.heap.size (fun _ => True) v1 l from hO1) (below_alloc (Below.refl w1.heap.size w1) (.cells #[.string ⟨#[63]⟩, .int .i64 0, .int .i64 0, .int .i64 0, .int .i64 0] 26)); have hB2 := hB1.trans ((below_alloc (Below.refl w1.heap.size w1) (.cells #[.string ⟨#[63]⟩, .int .i64 0, .int .i64 0, .int .i64 0, .int .i64 0] 26)).mono hB1.size); clear hO1))
    obtain ⟨G, O, rfl, hEd⟩ := edgesR_of hCB (by simp)
    have hEl := hEd.pre
    have hnl : n < (l ++ [qEdge]).length := by rw [hN.out]; simp
    obtain ⟨hq, _⟩ := hEd n hnl
    have hqe : (l ++ [qEdge])[n] = qEdge := by
      have h1 : (l ++ [qEdge])[l.length]? = some qEdge := by simp
      rw [← hN.out, List.getElem?_eq_getElem hnl] at h1
      exact Option.some.inj h1
    rw [hqe] at hq
    replace hq : w2.cell? ⟨G, O + n * 5, none⟩ = some (.string ⟨#[63]⟩) := hq
    have hnd : n ≤ d := by rw [List.length_append] at hcd; rw [hN.out]; omega
    have hsl := fun wx => run_slice_all26 wx G O m1 d n hnd
    have hnm : (n : Int) < (m1 : Int) := by rw [hm1.out]; omega
    have hC1 := cycle_walk w2 G O d l hEl (by rw [← hN.out]; exact hnd) (by omega) hin
    rw [← hN.out] at hC1
    have hCl := c26_pre hCB
    have hBw : Below w.heap.size w w2 := hB3
    have hl1000 : l.length ≤ 1000 := by omega
    replace hqe := Go.Lib.hid hqe
    replace hnl := Go.Lib.hid hnl
    replace hcd := Go.Lib.hid hcd
    replace hC := Go.Lib.hid hC
    replace hCl := Go.Lib.hid hCl
    replace hlc := Go.Lib.hid hlc
    replace hin := Go.Lib.hid hin
    replace hl1000 := Go.Lib.hid hl1000
    clear hO hC0 hLR hCn hO2 hB2 hO3 hCB hEd hEl hW0 hB1
    go_wp2_with (first
      | (go_at_call 9; refine HE.mono ?_; rintro e u4 ⟨rfl, hd4⟩; replace hq := pw_cell_below hd4.below hq)
      | (go_at_call 7; refine HI.mono ?_; rintro e u3 ⟨rfl, hd3⟩; have hb4 := hb3.trans (hd3.below.mono hb3.size); replace hq := pw_cell_below hb4 hq; have HE := bursarref18_SameEdges.calls (l.length + 1) (some ⟨G, O, none⟩) d l A c l true u3 (Kd.C_below hCl.out hb4) (by rw [← hN.out]; exact hnd) (Kd.C_below hC.out (hBw.trans (hb4.mono hBw.size))) hlc.out (same_edges l hl1000.out); rw [← hN.out] at HE)
      | (go_at_call 8; refine HR.mono ?_; rintro e u2 ⟨v', s', r', rfl, hs', hL', hV', hb2⟩; obtain rfl := Rc.sorted_one tot_id hs.1 hs'.1 (fun x => (hs.2 x).trans (hs'.2 x).symm); obtain rfl := Rc.least_one tot_id hL hL'; have hb3 := hb1.trans (hb2.mono hb1.size); have HI := same_rounds u2 v v' r (hV.below hb2) hV' (least_len hL hl1000.out))
      | (go_at_call 6; refine hC1.mono ?_; rintro e u1 ⟨v, s, r, rfl, hs, hL, hV, hb1⟩; have HR := rcycle_walk u1 A c l (edgesR_of (Kd.C_below hC.out (hBw.trans (hb1.mono hBw.size)))) hl1000.out hin.out; rw [← hN.out] at HR))
    go_ret
    exact ⟨rfl, (hBw.trans (hb4.mono hBw.size)).trans (hd4.below.mono (Nat.le_trans hBw.size hb4.size))⟩
end Go.Proofs.Ytdepmcofnlggaaa.PResolverCycles
end
