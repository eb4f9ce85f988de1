/- The arguments []Op of the disk's laws opened: five cells each. -/
import Derived.Test.YtenfdankgjdfpaaDskCutLaw
import Derived.Test.YtenfdankgjdfpaaRow
import Derived.Deep.Slices
import Derived.Deep.Fields
import Derived.ChangeSame
set_option linter.unusedVariables false
set_option linter.unusedSimpArgs false
namespace Go.Proofs.Ytenfdankgjdfpaa
open Go.ChangeShapes Go.WideShapes Go.ChangeAt Go.RowKit Go.Deep

/-- an act of the law's -/
structure OpV where
  kind : Int
  at_ : Int
  n : Int
  b : List UInt8
  two : Bool
/-- acts in memory: five cells each -/
structure OpsAt (w : World) (A : Option Addr) (n : Nat) (l : List OpV) : Prop where
  len : l.length = n
  cell : ∀ i o, l[i]? = some o → ∃ G O Ab nb cb, A = some ⟨G, O, none⟩ ∧ w.cell? ⟨G, O + i * 5, none⟩ = some (.int .i64 o.kind) ∧ w.cell? ⟨G, O + i * 5 + 1, none⟩ = some (.int .i64 o.at_) ∧ w.cell? ⟨G, O + i * 5 + 2, none⟩ = some (.int .i64 o.n)
    ∧ w.cell? ⟨G, O + i * 5 + 3, none⟩ = some (.slice Ab nb cb) ∧ Bys w Ab nb o.b ∧ w.cell? ⟨G, O + i * 5 + 4, none⟩ = some (.bool o.two)
theorem OpsAt.below {w w' : World} {A : Option Addr} {n : Nat} {l : List OpV} (h : OpsAt w A n l) (hb : Below w.heap.size w w') : OpsAt w' A n l :=
  ⟨h.len, fun i o hi => by
    obtain ⟨G, O, Ab, nb, cb, e, h0, h1, h2, h3, h4, h5⟩ := h.cell i o hi
    exact ⟨G, O, Ab, nb, cb, e, cell_below hb h0, cell_below hb h1, cell_below hb h2, cell_below hb h3, h4.below hb, cell_below hb h5⟩⟩

theorem foot_step {g : Nat} {s t t' : Value} {w : World} (ht : t'.ownBlock = t.ownBlock ∨ ∃ k, t'.ownBlock = some k ∧ w.heap.size ≤ k) {j : Nat} (h : Foot g s t' j) : Foot g s t j ∨ w.heap.size ≤ j := by
  rcases h with h | h | h
  · exact .inl (.inl h)
  · exact .inl (.inr (.inl h))
  · rcases ht with e | ⟨k, e, hk⟩
    · exact .inl (.inr (.inr (e ▸ h)))
    · rw [e] at h
      cases h
      exact .inr hk
theorem sep_step {TD TE sz m TD' TE' sz' m' ga gb n n' B : Nat} {sa ta ta' sb tb : Value} {w w' : World} {db : DS} (hb : Dsk TD' TE' sz' m' w gb sb tb n' db) (hC : Chg (Foot ga sa ta) w w')
    (ht : ta'.ownBlock = ta.ownBlock ∨ ∃ k, ta'.ownBlock = some k ∧ w.heap.size ≤ k) (hsep : ∀ j, Foot ga sa ta j → ¬ Foot gb sb tb j) (hFa : ∀ j, Foot ga sa ta j → B ≤ j) (hB : B ≤ w.heap.size) :
    Dsk TD' TE' sz' m' w' gb sb tb n' db ∧ (∀ j, Foot ga sa ta' j → B ≤ j) ∧ (∀ j, Foot ga sa ta' j → ¬ Foot gb sb tb j) := by
  refine ⟨hb.chg hC (fun j h1 h2 => hsep j h2 h1), fun j hj => ?_, fun j hj hj2 => ?_⟩
  · rcases foot_step ht hj with h | h
    · exact hFa j h
    · omega
  · rcases foot_step ht hj with h | h
    · exact hsep j h hj2
    · have := hb.lt j hj2; omega
theorem modk (z m : Int) (hm : 0 < m) (hm2 : m ≤ 1000) : ∃ k : Nat, (k : Int) < m ∧ wrap64 ((IntKind.u64.wrap z).tmod m) = k := by
  have h0 : 0 ≤ IntKind.u64.wrap z := by rw [IntKind.wrap_u64]; omega
  rw [Int.tmod_eq_emod_of_nonneg h0]
  have h1 := Int.emod_nonneg (IntKind.u64.wrap z) (show m ≠ 0 by omega)
  have h2 := Int.emod_lt_of_pos (IntKind.u64.wrap z) hm
  obtain ⟨k, hk⟩ := Int.eq_ofNat_of_zero_le h1
  refine ⟨k, by omega, ?_⟩
  rw [hk]
  unfold wrap64
  omega
section
variable {H : Type} {enc : TypeId × Value → H} {W : World} {base : Nat} {spare : Nat → Bool} {held : Bool}
/-- the fields of a struct of cells, each with its reading -/
theorem fields_of {P : Program} {t : TypeId} {fs : Array Field} {fuel : Nat} {cs : List Value} {x : DataW H × List MemPlace} (ht : P.underlying t = some (.struct fs)) (hone : oneCellFields P fs = true)
    (hC : P.cellsOf t = fs.size) (h : DataW.trod enc P W base spare held fuel t cs = some x) (j : Nat) (f : Field) (hj : fs[j]? = some f) :
    ∃ v n y, cs[j]? = some v ∧ DataW.trod enc P W base spare held n f.type [v] = some y := by
  obtain ⟨xs, n, _, _, hlen, hxl, hf⟩ := DataW.trod_struct ht h
  have hlt : j < fs.size := (Array.getElem?_eq_some_iff.1 hj).1
  have hjc : j < cs.length := by omega
  obtain ⟨e1, e2⟩ := hone_of hone j f hj
  have h1 := hf j f hj
  rw [e1, e2, List.drop_eq_getElem_cons hjc, List.take_succ_cons, List.take_zero, List.getElem?_eq_getElem (show j < xs.length by omega)] at h1
  exact ⟨cs[j], n, xs[j], List.getElem?_eq_getElem hjc, h1⟩
/-- bytes read anywhere -/
theorem bys_of_trod {fuel : Nat} {cs : List Value} {x : DataW H × List MemPlace} (h : DataW.trod enc Try.prog W base spare held fuel 39 cs = some x) :
    ∃ A n c l, cs = [.slice A n c] ∧ Bys W A n l ∧ n ≤ c := by
  rcases open_ints Try.underlying39 Try.underlying5 (show Try.prog.cellsOf 5 = 1 by kernel_rfl) h with ⟨hc, hx⟩ | ⟨a, n, c, zs, hc, _, hl, hm, hlen, hx, hcell, hwf⟩
  · exact ⟨none, 0, 0, [], hc, Bys.nil W, Nat.le_refl _⟩
  · have hlz : n ≤ zs.length := by split at hlen <;> omega
    have hm2 : n ≤ 9223372036854775807 := by simp only [maxLen] at hm; omega
    refine ⟨some a, n, c, (zs.take n).map (fun z => UInt8.ofNat z.toNat), hc, ⟨by simp; omega, hm2, fun i hi => ⟨a, rfl, ?_⟩⟩, hl⟩
    have hz' : zs.getD i 0 ∈ zs := by
      rw [List.getD_eq_getElem?_getD, List.getElem?_eq_getElem (by omega)]
      exact List.getElem_mem (by omega)
    have hw := hwf _ hz'
    have hw2 : 0 ≤ zs.getD i 0 ∧ zs.getD i 0 < 256 := by
      generalize zs.getD i 0 = z at hw
      have : 0 ≤ z ∧ z ≤ 255 := by simpa [Lit.wf, IntKind.min, IntKind.max, IntKind.signed, IntKind.bits] using hw
      omega
    rw [hcell i (by omega)]
    have he : (((zs.take n).map (fun z => UInt8.ofNat z.toNat)).getD i 0).toNat = (zs.getD i 0).toNat := by
      have h1 : ((zs.take n).map (fun z => UInt8.ofNat z.toNat)).getD i 0 = UInt8.ofNat (zs.getD i 0).toNat := by
        rw [List.getD_eq_getElem?_getD, List.getElem?_map, List.getElem?_take, if_pos hi, List.getD_eq_getElem?_getD, List.getElem?_eq_getElem (show i < zs.length by omega)]
        rfl
      rw [h1, UInt8.toNat_ofNat']
      omega
    rw [he]
    congr 2
    omega
theorem plain_add {G O : Nat} (k : Nat) : (⟨G, O, none⟩ : Addr).add k = ⟨G, O + k, none⟩ := by
  unfold Addr.add
  split
  · next h => subst h; rfl
  · rfl
theorem spot_none {a : Addr} {v : Value} (h : W.cell? a = some v) : a = ⟨a.block, a.off, none⟩ := by
  obtain ⟨b, o, s⟩ := a
  unfold World.cell? at h
  cases s with
  | none => rfl
  | some s => split at h <;> simp at h
theorem open_ops {v : Value} {d : DataW H} {ps : List MemPlace} (hval : Value.okWide Try.prog W .any base 31 v) (h : DataW.Trod enc Try.prog W 0 spare held 31 v d ps) :
    ∃ A n c l, v = .slice A n c ∧ OpsAt W A n l ∧ n ≤ c := by
  obtain ⟨fuel, hf⟩ := h
  obtain ⟨A, n, c, rfl⟩ := okWide_slice Try.underlying31 hval
  have hcells : Try.prog.cellsOf 41 = 5 := by kernel_rfl
  rcases open_slice Try.underlying31 hf with ⟨hc, hx⟩ | ⟨a, len, cap, m, k, D, Pl, hc, _, hl, _, hm, _, hi⟩
  · cases hc
    exact ⟨none, 0, 0, [], rfl, ⟨rfl, fun i o hi => by simp at hi⟩, Nat.le_refl _⟩
  · cases hc
    have hnm : n ≤ m := by split at hm <;> omega
    have hall : ∀ i, i < n → ∃ o : OpV, ∃ G O Ab nb cb, (some a : Option Addr) = some ⟨G, O, none⟩ ∧ W.cell? ⟨G, O + i * 5, none⟩ = some (.int .i64 o.kind) ∧ W.cell? ⟨G, O + i * 5 + 1, none⟩ = some (.int .i64 o.at_) ∧ W.cell? ⟨G, O + i * 5 + 2, none⟩ = some (.int .i64 o.n)
        ∧ W.cell? ⟨G, O + i * 5 + 3, none⟩ = some (.slice Ab nb cb) ∧ Bys W Ab nb o.b ∧ W.cell? ⟨G, O + i * 5 + 4, none⟩ = some (.bool o.two) := by
      intro i hin
      have ha : a = ⟨a.block, a.off, none⟩ := by
        obtain ⟨cs, hcs, ht⟩ := hi 0 (by omega)
        rw [hcells] at hcs
        obtain ⟨_, hcl, hat⟩ := World.cells?_some hcs
        have := hat 0 (by omega)
        rw [List.getElem?_eq_getElem (by omega)] at this
        exact spot_none (a := a) (by simpa [Addr.add] using this)
      obtain ⟨cs, hcs, ht⟩ := hi i (by omega)
      rw [hcells] at hcs
      obtain ⟨_, hcl, hat⟩ := World.cells?_some hcs
      have hf := fields_of Try.underlying41 (by kernel_rfl) (by kernel_rfl) ht
      obtain ⟨v0, n0, y0, e0, t0⟩ := hf 0 _ rfl
      obtain ⟨v1, n1, y1, e1, t1⟩ := hf 1 _ rfl
      obtain ⟨v2, n2, y2, e2, t2⟩ := hf 2 _ rfl
      obtain ⟨v3, n3, y3, e3, t3⟩ := hf 3 _ rfl
      obtain ⟨v4, n4, y4, e4, t4⟩ := hf 4 _ rfl
      obtain ⟨z0, hz0, _, _⟩ := DataW.trod_int Try.underlying3 t0
      obtain ⟨z1, hz1, _, _⟩ := DataW.trod_int Try.underlying3 t1
      obtain ⟨z2, hz2, _, _⟩ := DataW.trod_int Try.underlying3 t2
      obtain ⟨Ab, nb, cb, lb, hz3, hb, _⟩ := bys_of_trod t3
      obtain ⟨b4, hz4, _⟩ := DataW.trod_bool Try.underlying4 t4
      cases hz0; cases hz1; cases hz2; cases hz3; cases hz4
      have c0 := (hat 0 (by omega)).trans e0
      have c1 := (hat 1 (by omega)).trans e1
      have c2 := (hat 2 (by omega)).trans e2
      have c3 := (hat 3 (by omega)).trans e3
      have c4 := (hat 4 (by omega)).trans e4
      rw [ha, plain_add, plain_add] at c0 c1 c2 c3 c4
      exact ⟨⟨z0, z1, z2, lb, b4⟩, a.block, a.off, Ab, nb, cb, by rw [← ha], c0, c1, c2, c3, hb, c4⟩
    have hch : ∃ f : Nat → OpV, ∀ i, i < n → ∃ G O Ab nb cb, (some a : Option Addr) = some ⟨G, O, none⟩ ∧ W.cell? ⟨G, O + i * 5, none⟩ = some (.int .i64 (f i).kind) ∧ W.cell? ⟨G, O + i * 5 + 1, none⟩ = some (.int .i64 (f i).at_) ∧ W.cell? ⟨G, O + i * 5 + 2, none⟩ = some (.int .i64 (f i).n)
        ∧ W.cell? ⟨G, O + i * 5 + 3, none⟩ = some (.slice Ab nb cb) ∧ Bys W Ab nb (f i).b ∧ W.cell? ⟨G, O + i * 5 + 4, none⟩ = some (.bool (f i).two) := by
      classical
      refine ⟨fun i => if h : i < n then (hall i h).choose else ⟨0, 0, 0, [], false⟩, fun i hin => ?_⟩
      simp only [dif_pos hin]
      exact (hall i hin).choose_spec
    obtain ⟨f, hf⟩ := hch
    refine ⟨some a, n, c, (List.range n).map f, rfl, ⟨by simp, fun i o hio => ?_⟩, hl⟩
    rw [List.getElem?_map] at hio
    by_cases hin : i < n
    · rw [List.getElem?_range hin] at hio
      cases hio
      exact hf i hin
    · rw [List.getElem?_eq_none (by simp; omega)] at hio
      cases hio
end
end Go.Proofs.Ytenfdankgjdfpaa
