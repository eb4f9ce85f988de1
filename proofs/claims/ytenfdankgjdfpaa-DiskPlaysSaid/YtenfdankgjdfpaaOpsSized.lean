/- The arguments []Op opened with their bounds: no slice takes more than a machine has, a number is an int. -/
import Derived.Test.YtenfdankgjdfpaaOps
import Derived.SizedLaws
set_option linter.unusedVariables false
set_option linter.unusedSimpArgs false
namespace Go.Proofs.Ytenfdankgjdfpaa
open Go.ChangeShapes Go.WideShapes Go.ChangeAt Go.RowKit Go.Deep

section
variable {H : Type} {enc : TypeId × Value → H} {W : World} {base : Nat} {spare : Nat → Bool} {held : Bool}
theorem weights_mem_all {P : Program} {e : TypeId} : ∀ {ds : List (DataW H)} {d : DataW H}, d ∈ ds → ∀ n ∈ d.weights P e, n ∈ DataW.weightsAll P e ds
  | d0 :: ds, d, hd, n, hn => by
    simp only [DataW.weightsAll, List.mem_append]
    rcases List.mem_cons.1 hd with rfl | h
    · exact .inl hn
    · exact .inr (weights_mem_all h n hn)
theorem fields_of2 {P : Program} {t : TypeId} {fs : Array Field} {fuel : Nat} {cs : List Value} {x : DataW H × List MemPlace} (ht : P.underlying t = some (.struct fs)) (hone : oneCellFields P fs = true)
    (hC : P.cellsOf t = fs.size) (h : DataW.trod enc P W base spare held fuel t cs = some x) :
    ∃ xs : List (DataW H × List MemPlace), x.1 = .agg (xs.map (·.1)) ∧ ∀ (j : Nat) (f : Field), fs[j]? = some f → ∃ v n y, cs[j]? = some v ∧ xs[j]? = some y ∧ DataW.trod enc P W base spare held n f.type [v] = some y := by
  obtain ⟨xs, n, _, hx, hlen, hxl, hf⟩ := DataW.trod_struct ht h
  refine ⟨xs, by rw [hx], fun j f hj => ?_⟩
  have hlt : j < fs.size := (Array.getElem?_eq_some_iff.1 hj).1
  have hjc : j < cs.length := by omega
  obtain ⟨e1, e2⟩ := hone_of hone j f hj
  have h1 := hf j f hj
  rw [e1, e2, List.drop_eq_getElem_cons hjc, List.take_succ_cons, List.take_zero, List.getElem?_eq_getElem (show j < xs.length by omega)] at h1
  exact ⟨cs[j], n, xs[j], List.getElem?_eq_getElem hjc, List.getElem?_eq_getElem (by omega), h1⟩
theorem bys_sized {fuel : Nat} {cs : List Value} {x : DataW H × List MemPlace} (h : DataW.trod enc Try.prog W base spare held fuel 39 cs = some x)
    (hz : ∀ m ∈ x.1.weights Try.prog 39, m ≤ reachBytes) : ∃ A n c l, cs = [.slice A n c] ∧ Bys W A n l ∧ n ≤ c ∧ n ≤ reachBytes := by
  obtain ⟨A, n, c, l, hc, hb, hn⟩ := bys_of_trod h
  refine ⟨A, n, c, l, hc, hb, hn, ?_⟩
  rcases open_ints Try.underlying39 Try.underlying5 (show Try.prog.cellsOf 5 = 1 by kernel_rfl) h with ⟨hc2, hx⟩ | ⟨a, n2, c2, zs, hc2, _, hl, hm, hlen, hx, _⟩
  · rw [hc2] at hc; cases hc; exact Nat.zero_le _
  · rw [hc2] at hc
    cases hc
    have hlz : n ≤ zs.length := by split at hlen <;> omega
    have := hz (((lits (H := H) .u8 (zs.take n)).length + (lits (H := H) .u8 (zs.drop n)).length) * Try.prog.bytesOf 5) (by rw [hx]; simp only [DataW.weights, Try.underlying39]; exact List.mem_cons_self)
    rw [show Try.prog.bytesOf 5 = 1 by kernel_rfl] at this
    simp only [lits, List.length_map, List.length_take, List.length_drop] at this
    omega
theorem open_ops_sized {v : Value} {d : DataW H} {ps : List MemPlace} (hval : Value.okWide Try.prog W .any base 31 v) (h : DataW.Trod enc Try.prog W 0 spare held 31 v d ps)
    (hz : ∀ m ∈ d.weights Try.prog 31, m ≤ reachBytes) :
    ∃ A n c l, v = .slice A n c ∧ OpsAt W A n l ∧ n ≤ c ∧ ∀ o ∈ l, o.b.length ≤ 140737488351232 ∧ o.n ≤ 9223372036854775807 := by
  obtain ⟨fuel, hf⟩ := h
  obtain ⟨A, n, c, rfl⟩ := okWide_slice Try.underlying31 hval
  have hcells : Try.prog.cellsOf 41 = 5 := by kernel_rfl
  rcases open_slice Try.underlying31 hf with ⟨hc, hx⟩ | ⟨a, len, cap, m, k, D, Pl, hc, _, hl, _, hm, hx, hi⟩
  · cases hc
    exact ⟨none, 0, 0, [], rfl, ⟨rfl, fun i o hi => by simp at hi⟩, Nat.le_refl _, fun o ho => by cases ho⟩
  · cases hc
    have hnm : n ≤ m := by split at hm <;> omega
    have hd : d = .slice ((List.range n).map D) ((List.range (m - n)).map fun j => D (n + j)) := by cases hx; rfl
    have hall : ∀ i, i < n → ∃ o : OpV, (∃ G O Ab nb cb, (some a : Option Addr) = some ⟨G, O, none⟩ ∧ W.cell? ⟨G, O + i * 5, none⟩ = some (.int .i64 o.kind) ∧ W.cell? ⟨G, O + i * 5 + 1, none⟩ = some (.int .i64 o.at_) ∧ W.cell? ⟨G, O + i * 5 + 2, none⟩ = some (.int .i64 o.n)
        ∧ W.cell? ⟨G, O + i * 5 + 3, none⟩ = some (.slice Ab nb cb) ∧ Bys W Ab nb o.b ∧ W.cell? ⟨G, O + i * 5 + 4, none⟩ = some (.bool o.two)) ∧ o.b.length ≤ 140737488351232 ∧ o.n ≤ 9223372036854775807 := by
      intro i hin
      have ha : a = ⟨a.block, a.off, none⟩ := by
        obtain ⟨cs, hcs, ht⟩ := hi 0 (by omega)
        rw [hcells] at hcs
        obtain ⟨_, hcl, hat⟩ := World.cells?_some hcs
        have := hat 0 (by omega)
        rw [List.getElem?_eq_getElem (by omega)] at this
        exact spot_none (a := a) (by simpa [Addr.add] using this)
      obtain ⟨cs, hcs, ht⟩ := hi i (by omega)
      rw [hcells] at hcs
      obtain ⟨_, hcl, hat⟩ := World.cells?_some hcs
      obtain ⟨xs, hDi, hf⟩ := fields_of2 Try.underlying41 (by kernel_rfl) (by kernel_rfl) ht
      obtain ⟨v0, n0, y0, e0, g0, t0⟩ := hf 0 _ rfl
      obtain ⟨v1, n1, y1, e1, g1, t1⟩ := hf 1 _ rfl
      obtain ⟨v2, n2, y2, e2, g2, t2⟩ := hf 2 _ rfl
      obtain ⟨v3, n3, y3, e3, g3, t3⟩ := hf 3 _ rfl
      obtain ⟨v4, n4, y4, e4, g4, t4⟩ := hf 4 _ rfl
      obtain ⟨z0, hz0, _, _⟩ := DataW.trod_int Try.underlying3 t0
      obtain ⟨z1, hz1, _, _⟩ := DataW.trod_int Try.underlying3 t1
      obtain ⟨z2, hz2, _, hw2⟩ := DataW.trod_int Try.underlying3 t2
      have hDi' : D i = .agg (xs.map (·.1)) := hDi
      obtain ⟨Ab, nb, cb, lb, hz3, hb, _, hnb⟩ := bys_sized t3 (fun q hq => hz q (by
        rw [hd]
        simp only [DataW.weights, Try.underlying31]
        refine List.mem_cons_of_mem _ (List.mem_append_left _ (weights_mem_all (d := D i) (List.mem_map.2 ⟨i, List.mem_range.2 hin, rfl⟩) q ?_))
        rw [hDi']
        simp only [DataW.weights, Try.underlying41]
        exact DataW.weights_mem_each (j := 3) rfl (by rw [List.getElem?_map, g3]; rfl) q hq))
      obtain ⟨b4, hz4, _⟩ := DataW.trod_bool Try.underlying4 t4
      cases hz0; cases hz1; cases hz2; cases hz3; cases hz4
      have c0 := (hat 0 (by omega)).trans e0
      have c1 := (hat 1 (by omega)).trans e1
      have c2 := (hat 2 (by omega)).trans e2
      have c3 := (hat 3 (by omega)).trans e3
      have c4 := (hat 4 (by omega)).trans e4
      rw [ha, plain_add, plain_add] at c0 c1 c2 c3 c4
      have hw3 : z2 ≤ 9223372036854775807 := by
        have : -9223372036854775808 ≤ z2 ∧ z2 ≤ 9223372036854775807 := by simpa [Lit.wf, IntKind.min, IntKind.max, IntKind.signed, IntKind.bits] using hw2
        exact this.2
      exact ⟨⟨z0, z1, z2, lb, b4⟩, ⟨a.block, a.off, Ab, nb, cb, by rw [← ha], c0, c1, c2, c3, hb, c4⟩, by show lb.length ≤ _; rw [hb.len]; simp only [reachBytes] at hnb; omega, hw3⟩
    have hch : ∃ f : Nat → OpV, ∀ i, i < n → (∃ G O Ab nb cb, (some a : Option Addr) = some ⟨G, O, none⟩ ∧ W.cell? ⟨G, O + i * 5, none⟩ = some (.int .i64 (f i).kind) ∧ W.cell? ⟨G, O + i * 5 + 1, none⟩ = some (.int .i64 (f i).at_) ∧ W.cell? ⟨G, O + i * 5 + 2, none⟩ = some (.int .i64 (f i).n)
        ∧ W.cell? ⟨G, O + i * 5 + 3, none⟩ = some (.slice Ab nb cb) ∧ Bys W Ab nb (f i).b ∧ W.cell? ⟨G, O + i * 5 + 4, none⟩ = some (.bool (f i).two)) ∧ (f i).b.length ≤ 140737488351232 ∧ (f i).n ≤ 9223372036854775807 := by
      classical
      refine ⟨fun i => if h : i < n then (hall i h).choose else ⟨0, 0, 0, [], false⟩, fun i hin => ?_⟩
      simp only [dif_pos hin]
      exact (hall i hin).choose_spec
    obtain ⟨f, hf⟩ := hch
    refine ⟨some a, n, c, (List.range n).map f, rfl, ⟨by simp, fun i o hio => ?_⟩, hl, fun o ho => ?_⟩
    · rw [List.getElem?_map] at hio
      by_cases hin : i < n
      · rw [List.getElem?_range hin] at hio
        cases hio
        exact (hf i hin).1
      · rw [List.getElem?_eq_none (by simp; omega)] at hio
        cases hio
    · obtain ⟨i, hir, rfl⟩ := List.mem_map.1 ho
      exact (hf i (List.mem_range.1 hir)).2
end
end Go.Proofs.Ytenfdankgjdfpaa
