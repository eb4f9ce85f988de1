/- SnapTexts: for any state, the program writes the same text as the document, and the state stays as it is (the card: the library's three tables of numbers hold what their text lays; the argument holds at most 1048576 values and letters). (ahead of it: A law's row out of its walk: whatever the arguments are, a call that answers true and leaves all that was there as it was meets the row. The library's table of powers of ten in the rows' words; a world for the witness. A state handed in, opened; what it weighs. The law of SnapTexts, walked.) -/
import Derived.Test.YtggogenhakdhiaaDoorRows
import Derived.Test.YtggogenhakdhiaaDoorPsM
import Derived.ProofKit
import Derived.OpenShut
import Derived.WideKeyArgs
import Derived.Below
import Derived.Test.YtggogenhakdhiaaDoorPsP0
import Derived.Test.YtggogenhakdhiaaDoorCards
import Derived.Test.YtggogenhakdhiaaDoorTie
import Derived.Deep.DeepHandedRow
import Derived.Lib.LaidTab
import Derived.SizedLaws
import Derived.Lay
import Derived.Test.YtggogenhakdhiaaDoorStTexts
import Derived.Deep.Slices
import Derived.ChangeSame
import Derived.Test.YtggogenhakdhiaaDoorPsR2
import Derived.Test.YtggogenhakdhiaaDoorPsP2
import Derived.Deep.RegionHeldLaw
import Derived.Deep.DrawnRows
section
set_option linter.unusedVariables false
set_option linter.unusedSimpArgs false
namespace Go.Proofs.YtggogenhakdhiaaDoor
open Go.ChangeShapes Go.WideShapes Go.ChangeAt Go.RowKit

/-- the law's answer -/
def LawPost (w : World) (e : Ending) (w' : World) : Prop := e = .returned (.bool true) ∧ Below w.heap.size w w'

theorem laid_out : laidOutB Tryd.prog = true := by kernel_rfl

section
variable {H : Type} {enc : TypeId × Value → H}
theorem trodAll_stays {W W' : World} {sp : Nat → Bool} : ∀ {ts : List TypeId} {vs : List Value} {ds : List (DataW H)} {ps : List MemPlace},
    (∀ t ∈ ts, Tryd.prog.readableRec t = true ∧ t < Tryd.prog.types.size) → DataW.TrodAll enc Tryd.prog W 0 (fun _ => true) true ts vs ds ps →
    (∀ p ∈ ps, W.sameAt W' p) → (∀ p ∈ ps, sp p.block = true) → DataW.TrodAll enc Tryd.prog W' 0 sp true ts vs ds ps
  | [], vs, ds, ps, _, h, _, _ => by
    obtain ⟨rfl, rfl, rfl⟩ := trodAll_nil h
    exact trodAll_mk0
  | t :: ts, vs, ds, ps, hr, h, hs, hp => by
    obtain ⟨v, vs', d, ds', p, q, rfl, rfl, rfl, h0, h1⟩ := trodAll_cons h
    exact trodAll_cons_mk (WideElems.Trod_stays laid_out (hr t (by simp)).1 (hr t (by simp)).2 h0 (fun x hx => hs x (by simp [hx])) (fun x hx => hp x (by simp [hx])))
      (trodAll_stays (fun t' ht' => hr t' (by simp [ht'])) h1 (fun x hx => hs x (by simp [hx])) (fun x hx => hp x (by simp [hx])))

/-- the row's last step -/
theorem law_post {fn : Func} {s : ChangeSpec} {W W' : World} {args : Array Value} {e : Ending} {ds gs : List (DataW H)} {before : List MemPlace}
    (hW : DataW.Whole enc Tryd.prog fn.params.toList s.vars false W args.toList ds gs before)
    (hread : ∀ t ∈ fn.params.toList, Tryd.prog.readableRec t = true ∧ t < Tryd.prog.types.size) (hres : fn.resultTypes = #[4]) (hvars : s.vars = [])
    (hfn : s.fn H (ds ++ gs) = { results := [.lit (.bool true)], args := ds })
    (h : LawPost W e W') : ∃ v, e = .returned v ∧ s.post enc Tryd.prog fn false true false false W args v W' := by
  obtain ⟨rfl, hb⟩ := h
  have hlt : ∀ p ∈ before, p.block < W.heap.size := fun p hp => hW.lt p hp
  have hW' := hW
  obtain ⟨p, q, hA, hV, hpq, hz, hn⟩ := hW
  rw [hvars] at hV
  obtain ⟨hgs, hq⟩ := trodVars_none hV
  subst hgs hq
  refine ⟨_, rfl, ds, [], before, [], before, [], hW', ?_, ?_, ?_, World.keptBut_mono (fun p hp => ⟨hp, Or.inr (Or.inl hp)⟩) (hb.frame (· ∈ before)), fun h => by cases h⟩
  · rw [hfn, hres]
    exact trodAll_cons_mk (shut_bool Tryd.underlying4 _) trodAll_mk0
  · rw [hfn]
    have hpb : before = p := by simpa using hpq
    subst hpb
    exact trodAll_stays hread hA (fun x hx => hb.same (hlt x hx)) (fun x hx => by simpa using hlt x hx)
  · rw [hfn, hvars]
    rfl
end
end Go.Proofs.YtggogenhakdhiaaDoor
end
section
set_option maxRecDepth 20000
set_option linter.unusedVariables false
set_option linter.unusedSimpArgs false
namespace Go.Proofs.YtggogenhakdhiaaDoor.PSnapTexts
open Go.ChangeShapes Go.WideShapes Go.ChangeAt Go.RowKit

theorem own_knob : ownKnob Tryd.prog.godebug = none := by kernel_rfl
theorem gTab : Tryd.prog.globalNamed "internal/strconv.uint64pow10" = some 2 := by kernel_rfl
theorem gTabType : (Tryd.prog.globals[2]?).map (·.type) = some 175 := by kernel_rfl
theorem cellsTab : Tryd.prog.cellsOf 175 = 20 := by kernel_rfl
theorem cellsU64 : Tryd.prog.cellsOf 59 = 1 := by kernel_rfl
theorem tabIs_third {P : Program} {W : World} {n1 n2 name : String} {d1 d2 : DataW Unit} {k : IntKind} {zs : List Int} {rest : List (String × DataW Unit)} {g : Nat} {t e : TypeId} {n : Nat}
    (hg : P.globalNamed name = some g) (hty : (P.globals[g]?).map (·.type) = some t) (ht : P.underlying t = some (.array n e)) (he : P.underlying e = some (.int k)) (hce : P.cellsOf e = 1) (hct : P.cellsOf t = n)
    (h : laidMet P ((n1, d1) :: (n2, d2) :: (name, Lib.tabData k zs) :: rest) W) : Lib.TabIs P W name k zs := by
  obtain ⟨ps, ⟨_, _, _, _, _, _, _, _, _, _, ⟨_, _, _, _, _, _, _, _, _, _, ⟨g', t', cs, fuel, p, q, hg', ht', hvar, hd, _, _⟩, _⟩, _⟩, _⟩ := h
  obtain rfl := Option.some.inj (hg.symm.trans hg')
  obtain rfl := Option.some.inj (hty.symm.trans ht')
  unfold Lib.TabIs
  rw [hvar, ← Lib.cells_of_tab ht he hce hct hd]
theorem pow10_list : Lib.pow10Tab = [1, 10, 100, 1000, 10000, 100000, 1000000, 10000000, 100000000, 1000000000, 10000000000, 100000000000, 1000000000000, 10000000000000, 100000000000000, 1000000000000000, 10000000000000000, 100000000000000000, 1000000000000000000, 10000000000000000000] := by decide
theorem pow_of_laid {W : World} (h : laidMetH Tryd.prog Rows.snapTextsUptoRow.laid W) : Pow W := by
  unfold Pow
  rw [pow10_list]
  exact tabIs_third (rest := []) gTab gTabType Tryd.underlying175 Tryd.underlying59 cellsU64 cellsTab h
/-- A world for the witness: the tables holding what their initialisers lay. -/
noncomputable def laidWorld (os : Os) : World := World.laidAll Tryd.prog os Rows.snapTextsUptoRow.laid
theorem laid_met (os : Os) (args : Array Value) : laidMet Tryd.prog Rows.snapTextsUptoRow.laid ((laidWorld os).forCall (fun _ _ => 0) ⟨#[], args, []⟩).memory :=
  laidMet_laidAll args (by kernel_rfl) (by kernel_rfl)
end Go.Proofs.YtggogenhakdhiaaDoor.PSnapTexts
end
section
set_option linter.unusedVariables false
set_option linter.unusedSimpArgs false
set_option maxRecDepth 20000
namespace Go.Proofs.YtggogenhakdhiaaDoor.PSnapTexts
open Go.ChangeShapes Go.WideShapes Go.RowKit Go.Deep Go.Proofs.YtggogenhakdhiaaDoorW.PrintWords Go.Proofs.YtggogenhakdhiaaDoorW.PrintLast Go.Proofs.YtggogenhakdhiaaDoorW.PrintMore

section
variable {H : Type} {enc : TypeId × Value → H} {W : World} {base : Nat} {spare : Nat → Bool} {held : Bool}
theorem bulk_mem {d : DataW H} : ∀ {l : List (DataW H)}, d ∈ l → Rows.uptoBulk d ≤ Rows.uptoBulkAll l
  | x :: l, h => by
    simp only [Rows.uptoBulkAll]
    rcases List.mem_cons.1 h with rfl | h
    · omega
    · have := bulk_mem h; omega
theorem bulk_pos (d : DataW H) : 1 ≤ Rows.uptoBulk d := by
  cases d with
  | lit l => cases l <;> simp [Rows.uptoBulk]
  | nil => simp [Rows.uptoBulk]
  | ptr d => simp [Rows.uptoBulk]
  | slice elems spare => simp [Rows.uptoBulk]
  | agg parts => simp [Rows.uptoBulk]
  | iface t d => simp [Rows.uptoBulk]
  | map entries => simp [Rows.uptoBulk]
  | held h => simp [Rows.uptoBulk]
theorem bulk_len (l : List (DataW H)) : l.length ≤ Rows.uptoBulkAll l := by
  induction l with
  | nil => simp [Rows.uptoBulkAll]
  | cons x r ih => have := bulk_pos x; simp only [Rows.uptoBulkAll, List.length_cons]; omega
theorem inr_wf {z : Int} (h : (Lit.int .i64 z).wf = true) : InR z := by
  simpa [InR, Lit.wf, IntKind.min, IntKind.max, IntKind.signed, IntKind.bits] using h
theorem part_bulk {N : Nat} {d : DataW H} {xs : List (DataW H × List MemPlace)} (hd : d = .agg (xs.map (·.1))) (hb : Rows.uptoBulk d ≤ N) (i : Nat) (hi : i < xs.length) : Rows.uptoBulk xs[i].1 ≤ N := by
  have := bulk_mem (List.mem_map.2 ⟨xs[i], List.getElem_mem hi, rfl⟩ : xs[i].1 ∈ xs.map (·.1))
  rw [hd] at hb
  simp only [Rows.uptoBulk] at hb
  omega
theorem str_bulk {N : Nat} {z : ByteArray} {x : DataW H × List MemPlace} (hx : x = (.lit (.string z.data.toList), [])) (hb : Rows.uptoBulk x.1 ≤ N) : z.size ≤ N := by
  rw [hx] at hb
  simp only [Rows.uptoBulk] at hb
  rw [toList_len] at hb
  omega
theorem pick {α : Type} (Q : Nat → α → Prop) : ∀ n, (∀ i, i < n → ∃ a, Q i a) → ∃ xs : List α, xs.length = n ∧ ∀ j p, xs[j]? = some p → Q j p
  | 0, _ => ⟨[], rfl, fun j p h => by simp at h⟩
  | n + 1, h => by
    obtain ⟨xs, hl, hx⟩ := pick Q n (fun i hi => h i (by omega))
    obtain ⟨a, ha⟩ := h n (by omega)
    refine ⟨xs ++ [a], by simp [hl], fun j p hj => ?_⟩
    rcases Nat.lt_or_ge j n with hlt | hge
    · rw [List.getElem?_append_left (by omega)] at hj; exact hx j p hj
    · have hjn : j = n := by have := (List.getElem?_eq_some_iff.1 hj).1; simp at this; omega
      subst hjn
      rw [List.getElem?_append_right (by omega), hl, Nat.sub_self] at hj
      cases hj; exact ha
/-- a row opened: of each element what its reading tells -/
theorem row_of {α : Type} (D : Kd α) (Pz : α → Prop) {N : Nat} {t e : TypeId} (ht : Tryd.prog.underlying t = some (.slice e)) (hsz : Tryd.prog.cellsOf e = D.sz)
    (hK : ∀ n cs y, DataW.trod enc Tryd.prog W base spare held n e cs = some y → Rows.uptoBulk y.1 ≤ N → ∃ a, D.K W a cs ∧ Pz a)
    {fuel : Nat} {cs : List Value} {x : DataW H × List MemPlace} (h : DataW.trod enc Tryd.prog W base spare held fuel t cs = some x) (hz : Rows.uptoBulk x.1 ≤ N) :
    ∃ A c xs, cs = [.slice A xs.length c] ∧ xs.length ≤ c ∧ D.C W A xs.length xs ∧ xs.length ≤ N ∧ ∀ a ∈ xs, Pz a := by
  rcases open_slice ht h with ⟨hc, hx⟩ | ⟨ad, n, c, m, k, Dt, Pl, hc, _, hl, hm0, hm, hx, hi⟩
  · exact ⟨none, 0, [], hc, Nat.zero_le _, Kd.C_nil D W, by simp, fun a ha => by cases ha⟩
  · have hnm : n ≤ m := by split at hm <;> omega
    have hd : x.1 = .slice ((List.range n).map Dt) ((List.range (m - n)).map fun j => Dt (n + j)) := by rw [hx]
    rw [hd] at hz
    simp only [Rows.uptoBulk] at hz
    have hall : ∀ i, i < n → ∃ a : α, (∃ cs', cs'.length = D.sz ∧ D.K W a cs' ∧ ∀ j u, cs'[j]? = some u → W.cell? (ad.add (i * D.sz + j)) = some u) ∧ Pz a := by
      intro i hin
      obtain ⟨cs', hcs, htr⟩ := hi i (by omega)
      obtain ⟨a, ha, hp⟩ := hK k cs' _ htr (by
        have := bulk_mem (List.mem_map.2 ⟨i, List.mem_range.2 hin, rfl⟩ : Dt i ∈ (List.range n).map Dt)
        show Rows.uptoBulk (Dt i) ≤ N
        omega)
      obtain ⟨_, hcl, hat⟩ := World.cells?_some hcs
      refine ⟨a, ⟨cs', D.K_len ha, ha, fun j u hu => ?_⟩, hp⟩
      have hj : j < cs'.length := (List.getElem?_eq_some_iff.1 hu).1
      have := hat j (by omega)
      rw [hu, Go.Deep.add_add, hsz] at this
      exact this
    obtain ⟨xs, hxl, hx2⟩ := pick _ n hall
    subst hxl
    refine ⟨some ad, c, xs, hc, hl, ⟨rfl, by simp only [maxLen] at hm0; omega, fun _ => ⟨ad, rfl, fun j p hj => ?_⟩⟩, ?_, fun q hq => ?_⟩
    · obtain ⟨cs', h1, h2, h3⟩ := (hx2 j p hj).1
      exact ⟨cs', h1, h2, h3⟩
    · have := bulk_len ((List.range xs.length).map Dt)
      simp only [List.length_map, List.length_range] at this
      omega
    · obtain ⟨j, hj, rfl⟩ := List.getElem_of_mem hq
      exact (hx2 j xs[j] (List.getElem?_eq_getElem hj)).2
theorem k115_of {fuel : Nat} {cs : List Value} {y : DataW H × List MemPlace} (h : DataW.trod enc Tryd.prog W base spare held fuel 115 cs = some y) (hb : Rows.uptoBulk y.1 ≤ 1048576) : ∃ a, k115.K W a cs ∧ (InId) a := by
  obtain ⟨xs, n, _, hx, hlen, hxl, hf⟩ := DataW.trod_struct Tryd.underlying115 h
  rw [show Tryd.prog.cellsOf 115 = 2 by kernel_rfl] at hlen
  obtain ⟨u0, u1, rfl⟩ : ∃ u0 u1, cs = [u0, u1] := by
    match cs, hlen with
    | [u0, u1], _ => exact ⟨u0, u1, rfl⟩
  have hxl2 : xs.length = 2 := hxl
  have hd : y.1 = .agg (xs.map (·.1)) := by rw [hx]
  have f0 : DataW.trod enc Tryd.prog W base spare held n 3 (([u0, u1].drop 0).take (Tryd.prog.cellsOf 3)) = xs[0]? := hf 0 _ rfl
  rw [show Tryd.prog.cellsOf 3 = 1 by kernel_rfl, List.getElem?_eq_getElem (show 0 < xs.length by omega)] at f0
  replace f0 : DataW.trod enc Tryd.prog W base spare held n 3 [u0] = some xs[0] := f0
  have f1 : DataW.trod enc Tryd.prog W base spare held n 3 (([u0, u1].drop 1).take (Tryd.prog.cellsOf 3)) = xs[1]? := hf 1 _ rfl
  rw [show Tryd.prog.cellsOf 3 = 1 by kernel_rfl, List.getElem?_eq_getElem (show 1 < xs.length by omega)] at f1
  replace f1 : DataW.trod enc Tryd.prog W base spare held n 3 [u1] = some xs[1] := f1
  obtain ⟨z0, e0, _, w0⟩ := DataW.trod_int Tryd.underlying3 f0
  have r0 := inr_wf w0
  cases e0
  obtain ⟨z1, e1, _, w1⟩ := DataW.trod_int Tryd.underlying3 f1
  have r1 := inr_wf w1
  cases e1
  exact ⟨⟨z0, z1⟩, k115_mk W ⟨z0, z1⟩, ⟨r0, r1⟩⟩
theorem k135_of {fuel : Nat} {cs : List Value} {y : DataW H × List MemPlace} (h : DataW.trod enc Tryd.prog W base spare held fuel 135 cs = some y) (hb : Rows.uptoBulk y.1 ≤ 1048576) : ∃ a, k135.K W a cs ∧ (LockOk 1048576) a := by
  obtain ⟨xs, n, _, hx, hlen, hxl, hf⟩ := DataW.trod_struct Tryd.underlying135 h
  rw [show Tryd.prog.cellsOf 135 = 4 by kernel_rfl] at hlen
  obtain ⟨u0, u1, u2, u3, rfl⟩ : ∃ u0 u1 u2 u3, cs = [u0, u1, u2, u3] := by
    match cs, hlen with
    | [u0, u1, u2, u3], _ => exact ⟨u0, u1, u2, u3, rfl⟩
  have hxl2 : xs.length = 3 := hxl
  have hd : y.1 = .agg (xs.map (·.1)) := by rw [hx]
  have f0 : DataW.trod enc Tryd.prog W base spare held n 9 (([u0, u1, u2, u3].drop 0).take (Tryd.prog.cellsOf 9)) = xs[0]? := hf 0 _ rfl
  rw [show Tryd.prog.cellsOf 9 = 1 by kernel_rfl, List.getElem?_eq_getElem (show 0 < xs.length by omega)] at f0
  replace f0 : DataW.trod enc Tryd.prog W base spare held n 9 [u0] = some xs[0] := f0
  have f1 : DataW.trod enc Tryd.prog W base spare held n 115 (([u0, u1, u2, u3].drop 1).take (Tryd.prog.cellsOf 115)) = xs[1]? := hf 1 _ rfl
  rw [show Tryd.prog.cellsOf 115 = 2 by kernel_rfl, List.getElem?_eq_getElem (show 1 < xs.length by omega)] at f1
  replace f1 : DataW.trod enc Tryd.prog W base spare held n 115 [u1, u2] = some xs[1] := f1
  have f2 : DataW.trod enc Tryd.prog W base spare held n 3 (([u0, u1, u2, u3].drop 3).take (Tryd.prog.cellsOf 3)) = xs[2]? := hf 2 _ rfl
  rw [show Tryd.prog.cellsOf 3 = 1 by kernel_rfl, List.getElem?_eq_getElem (show 2 < xs.length by omega)] at f2
  replace f2 : DataW.trod enc Tryd.prog W base spare held n 3 [u3] = some xs[2] := f2
  obtain ⟨z0, e0, x0, _⟩ := DataW.trod_string Tryd.underlying9 f0
  have b0 := str_bulk x0 (part_bulk hd hb 0 (by omega))
  cases e0
  obtain ⟨z1, hz1, p1⟩ := k115_of f1 (part_bulk hd hb 1 (by omega))
  have e1 := k115_open hz1
  cases e1
  obtain ⟨z2, e2, _, w2⟩ := DataW.trod_int Tryd.underlying3 f2
  have r2 := inr_wf w2
  cases e2
  exact ⟨⟨z0, z1, z2⟩, k135_mk W ⟨z0, z1, z2⟩, ⟨b0, p1, r2⟩⟩
theorem k138_of {fuel : Nat} {cs : List Value} {y : DataW H × List MemPlace} (h : DataW.trod enc Tryd.prog W base spare held fuel 138 cs = some y) (hb : Rows.uptoBulk y.1 ≤ 1048576) : ∃ a, k138.K W a cs ∧ (VersionOk 1048576) a := by
  obtain ⟨xs, n, _, hx, hlen, hxl, hf⟩ := DataW.trod_struct Tryd.underlying138 h
  rw [show Tryd.prog.cellsOf 138 = 6 by kernel_rfl] at hlen
  obtain ⟨u0, u1, u2, u3, u4, u5, rfl⟩ : ∃ u0 u1 u2 u3 u4 u5, cs = [u0, u1, u2, u3, u4, u5] := by
    match cs, hlen with
    | [u0, u1, u2, u3, u4, u5], _ => exact ⟨u0, u1, u2, u3, u4, u5, rfl⟩
  have hxl2 : xs.length = 5 := hxl
  have hd : y.1 = .agg (xs.map (·.1)) := by rw [hx]
  have f0 : DataW.trod enc Tryd.prog W base spare held n 9 (([u0, u1, u2, u3, u4, u5].drop 0).take (Tryd.prog.cellsOf 9)) = xs[0]? := hf 0 _ rfl
  rw [show Tryd.prog.cellsOf 9 = 1 by kernel_rfl, List.getElem?_eq_getElem (show 0 < xs.length by omega)] at f0
  replace f0 : DataW.trod enc Tryd.prog W base spare held n 9 [u0] = some xs[0] := f0
  have f1 : DataW.trod enc Tryd.prog W base spare held n 9 (([u0, u1, u2, u3, u4, u5].drop 1).take (Tryd.prog.cellsOf 9)) = xs[1]? := hf 1 _ rfl
  rw [show Tryd.prog.cellsOf 9 = 1 by kernel_rfl, List.getElem?_eq_getElem (show 1 < xs.length by omega)] at f1
  replace f1 : DataW.trod enc Tryd.prog W base spare held n 9 [u1] = some xs[1] := f1
  have f2 : DataW.trod enc Tryd.prog W base spare held n 4 (([u0, u1, u2, u3, u4, u5].drop 2).take (Tryd.prog.cellsOf 4)) = xs[2]? := hf 2 _ rfl
  rw [show Tryd.prog.cellsOf 4 = 1 by kernel_rfl, List.getElem?_eq_getElem (show 2 < xs.length by omega)] at f2
  replace f2 : DataW.trod enc Tryd.prog W base spare held n 4 [u2] = some xs[2] := f2
  have f3 : DataW.trod enc Tryd.prog W base spare held n 3 (([u0, u1, u2, u3, u4, u5].drop 3).take (Tryd.prog.cellsOf 3)) = xs[3]? := hf 3 _ rfl
  rw [show Tryd.prog.cellsOf 3 = 1 by kernel_rfl, List.getElem?_eq_getElem (show 3 < xs.length by omega)] at f3
  replace f3 : DataW.trod enc Tryd.prog W base spare held n 3 [u3] = some xs[3] := f3
  have f4 : DataW.trod enc Tryd.prog W base spare held n 115 (([u0, u1, u2, u3, u4, u5].drop 4).take (Tryd.prog.cellsOf 115)) = xs[4]? := hf 4 _ rfl
  rw [show Tryd.prog.cellsOf 115 = 2 by kernel_rfl, List.getElem?_eq_getElem (show 4 < xs.length by omega)] at f4
  replace f4 : DataW.trod enc Tryd.prog W base spare held n 115 [u4, u5] = some xs[4] := f4
  obtain ⟨z0, e0, x0, _⟩ := DataW.trod_string Tryd.underlying9 f0
  have b0 := str_bulk x0 (part_bulk hd hb 0 (by omega))
  cases e0
  obtain ⟨z1, e1, x1, _⟩ := DataW.trod_string Tryd.underlying9 f1
  have b1 := str_bulk x1 (part_bulk hd hb 1 (by omega))
  cases e1
  obtain ⟨z2, e2, _⟩ := DataW.trod_bool Tryd.underlying4 f2
  cases e2
  obtain ⟨z3, e3, _, w3⟩ := DataW.trod_int Tryd.underlying3 f3
  have r3 := inr_wf w3
  cases e3
  obtain ⟨z4, hz4, p4⟩ := k115_of f4 (part_bulk hd hb 4 (by omega))
  have e4 := k115_open hz4
  cases e4
  exact ⟨⟨z0, z1, z2, z3, z4⟩, k138_mk W ⟨z0, z1, z2, z3, z4⟩, ⟨b0, b1, r3, p4⟩⟩
theorem k140_of {fuel : Nat} {cs : List Value} {y : DataW H × List MemPlace} (h : DataW.trod enc Tryd.prog W base spare held fuel 140 cs = some y) (hb : Rows.uptoBulk y.1 ≤ 1048576) : ∃ a, k140.K W a cs ∧ (IntentOk 1048576) a := by
  obtain ⟨xs, n, _, hx, hlen, hxl, hf⟩ := DataW.trod_struct Tryd.underlying140 h
  rw [show Tryd.prog.cellsOf 140 = 5 by kernel_rfl] at hlen
  obtain ⟨u0, u1, u2, u3, u4, rfl⟩ : ∃ u0 u1 u2 u3 u4, cs = [u0, u1, u2, u3, u4] := by
    match cs, hlen with
    | [u0, u1, u2, u3, u4], _ => exact ⟨u0, u1, u2, u3, u4, rfl⟩
  have hxl2 : xs.length = 4 := hxl
  have hd : y.1 = .agg (xs.map (·.1)) := by rw [hx]
  have f0 : DataW.trod enc Tryd.prog W base spare held n 9 (([u0, u1, u2, u3, u4].drop 0).take (Tryd.prog.cellsOf 9)) = xs[0]? := hf 0 _ rfl
  rw [show Tryd.prog.cellsOf 9 = 1 by kernel_rfl, List.getElem?_eq_getElem (show 0 < xs.length by omega)] at f0
  replace f0 : DataW.trod enc Tryd.prog W base spare held n 9 [u0] = some xs[0] := f0
  have f1 : DataW.trod enc Tryd.prog W base spare held n 9 (([u0, u1, u2, u3, u4].drop 1).take (Tryd.prog.cellsOf 9)) = xs[1]? := hf 1 _ rfl
  rw [show Tryd.prog.cellsOf 9 = 1 by kernel_rfl, List.getElem?_eq_getElem (show 1 < xs.length by omega)] at f1
  replace f1 : DataW.trod enc Tryd.prog W base spare held n 9 [u1] = some xs[1] := f1
  have f2 : DataW.trod enc Tryd.prog W base spare held n 4 (([u0, u1, u2, u3, u4].drop 2).take (Tryd.prog.cellsOf 4)) = xs[2]? := hf 2 _ rfl
  rw [show Tryd.prog.cellsOf 4 = 1 by kernel_rfl, List.getElem?_eq_getElem (show 2 < xs.length by omega)] at f2
  replace f2 : DataW.trod enc Tryd.prog W base spare held n 4 [u2] = some xs[2] := f2
  have f3 : DataW.trod enc Tryd.prog W base spare held n 115 (([u0, u1, u2, u3, u4].drop 3).take (Tryd.prog.cellsOf 115)) = xs[3]? := hf 3 _ rfl
  rw [show Tryd.prog.cellsOf 115 = 2 by kernel_rfl, List.getElem?_eq_getElem (show 3 < xs.length by omega)] at f3
  replace f3 : DataW.trod enc Tryd.prog W base spare held n 115 [u3, u4] = some xs[3] := f3
  obtain ⟨z0, e0, x0, _⟩ := DataW.trod_string Tryd.underlying9 f0
  have b0 := str_bulk x0 (part_bulk hd hb 0 (by omega))
  cases e0
  obtain ⟨z1, e1, x1, _⟩ := DataW.trod_string Tryd.underlying9 f1
  have b1 := str_bulk x1 (part_bulk hd hb 1 (by omega))
  cases e1
  obtain ⟨z2, e2, _⟩ := DataW.trod_bool Tryd.underlying4 f2
  cases e2
  obtain ⟨z3, hz3, p3⟩ := k115_of f3 (part_bulk hd hb 3 (by omega))
  have e3 := k115_open hz3
  cases e3
  exact ⟨⟨z0, z1, z2, z3⟩, k140_mk W ⟨z0, z1, z2, z3⟩, ⟨b0, b1, p3⟩⟩
theorem k142_of {fuel : Nat} {cs : List Value} {y : DataW H × List MemPlace} (h : DataW.trod enc Tryd.prog W base spare held fuel 142 cs = some y) (hb : Rows.uptoBulk y.1 ≤ 1048576) : ∃ a, k142.K W a cs ∧ (TxOk) a := by
  obtain ⟨xs, n, _, hx, hlen, hxl, hf⟩ := DataW.trod_struct Tryd.underlying142 h
  rw [show Tryd.prog.cellsOf 142 = 6 by kernel_rfl] at hlen
  obtain ⟨u0, u1, u2, u3, u4, u5, rfl⟩ : ∃ u0 u1 u2 u3 u4 u5, cs = [u0, u1, u2, u3, u4, u5] := by
    match cs, hlen with
    | [u0, u1, u2, u3, u4, u5], _ => exact ⟨u0, u1, u2, u3, u4, u5, rfl⟩
  have hxl2 : xs.length = 5 := hxl
  have hd : y.1 = .agg (xs.map (·.1)) := by rw [hx]
  have f0 : DataW.trod enc Tryd.prog W base spare held n 115 (([u0, u1, u2, u3, u4, u5].drop 0).take (Tryd.prog.cellsOf 115)) = xs[0]? := hf 0 _ rfl
  rw [show Tryd.prog.cellsOf 115 = 2 by kernel_rfl, List.getElem?_eq_getElem (show 0 < xs.length by omega)] at f0
  replace f0 : DataW.trod enc Tryd.prog W base spare held n 115 [u0, u1] = some xs[0] := f0
  have f1 : DataW.trod enc Tryd.prog W base spare held n 3 (([u0, u1, u2, u3, u4, u5].drop 2).take (Tryd.prog.cellsOf 3)) = xs[1]? := hf 1 _ rfl
  rw [show Tryd.prog.cellsOf 3 = 1 by kernel_rfl, List.getElem?_eq_getElem (show 1 < xs.length by omega)] at f1
  replace f1 : DataW.trod enc Tryd.prog W base spare held n 3 [u2] = some xs[1] := f1
  have f2 : DataW.trod enc Tryd.prog W base spare held n 3 (([u0, u1, u2, u3, u4, u5].drop 3).take (Tryd.prog.cellsOf 3)) = xs[2]? := hf 2 _ rfl
  rw [show Tryd.prog.cellsOf 3 = 1 by kernel_rfl, List.getElem?_eq_getElem (show 2 < xs.length by omega)] at f2
  replace f2 : DataW.trod enc Tryd.prog W base spare held n 3 [u3] = some xs[2] := f2
  have f3 : DataW.trod enc Tryd.prog W base spare held n 4 (([u0, u1, u2, u3, u4, u5].drop 4).take (Tryd.prog.cellsOf 4)) = xs[3]? := hf 3 _ rfl
  rw [show Tryd.prog.cellsOf 4 = 1 by kernel_rfl, List.getElem?_eq_getElem (show 3 < xs.length by omega)] at f3
  replace f3 : DataW.trod enc Tryd.prog W base spare held n 4 [u4] = some xs[3] := f3
  have f4 : DataW.trod enc Tryd.prog W base spare held n 3 (([u0, u1, u2, u3, u4, u5].drop 5).take (Tryd.prog.cellsOf 3)) = xs[4]? := hf 4 _ rfl
  rw [show Tryd.prog.cellsOf 3 = 1 by kernel_rfl, List.getElem?_eq_getElem (show 4 < xs.length by omega)] at f4
  replace f4 : DataW.trod enc Tryd.prog W base spare held n 3 [u5] = some xs[4] := f4
  obtain ⟨z0, hz0, p0⟩ := k115_of f0 (part_bulk hd hb 0 (by omega))
  have e0 := k115_open hz0
  cases e0
  obtain ⟨z1, e1, _, w1⟩ := DataW.trod_int Tryd.underlying3 f1
  have r1 := inr_wf w1
  cases e1
  obtain ⟨z2, e2, _, w2⟩ := DataW.trod_int Tryd.underlying3 f2
  have r2 := inr_wf w2
  cases e2
  obtain ⟨z3, e3, _⟩ := DataW.trod_bool Tryd.underlying4 f3
  cases e3
  obtain ⟨z4, e4, _, w4⟩ := DataW.trod_int Tryd.underlying3 f4
  have r4 := inr_wf w4
  cases e4
  exact ⟨⟨z0, z1, z2, z3, z4⟩, k142_mk W ⟨z0, z1, z2, z3, z4⟩, ⟨p0, r1, r2, r4⟩⟩
theorem k168_of {fuel : Nat} {cs : List Value} {y : DataW H × List MemPlace} (h : DataW.trod enc Tryd.prog W base spare held fuel 168 cs = some y) (hb : Rows.uptoBulk y.1 ≤ 1048576) : ∃ a, k168.K W a cs ∧ (fun _ => True) a := by
  obtain ⟨xs, n, _, hx, hlen, hxl, hf⟩ := DataW.trod_struct Tryd.underlying168 h
  rw [show Tryd.prog.cellsOf 168 = 3 by kernel_rfl] at hlen
  obtain ⟨u0, u1, u2, rfl⟩ : ∃ u0 u1 u2, cs = [u0, u1, u2] := by
    match cs, hlen with
    | [u0, u1, u2], _ => exact ⟨u0, u1, u2, rfl⟩
  have hxl2 : xs.length = 3 := hxl
  have hd : y.1 = .agg (xs.map (·.1)) := by rw [hx]
  have f0 : DataW.trod enc Tryd.prog W base spare held n 9 (([u0, u1, u2].drop 0).take (Tryd.prog.cellsOf 9)) = xs[0]? := hf 0 _ rfl
  rw [show Tryd.prog.cellsOf 9 = 1 by kernel_rfl, List.getElem?_eq_getElem (show 0 < xs.length by omega)] at f0
  replace f0 : DataW.trod enc Tryd.prog W base spare held n 9 [u0] = some xs[0] := f0
  have f1 : DataW.trod enc Tryd.prog W base spare held n 9 (([u0, u1, u2].drop 1).take (Tryd.prog.cellsOf 9)) = xs[1]? := hf 1 _ rfl
  rw [show Tryd.prog.cellsOf 9 = 1 by kernel_rfl, List.getElem?_eq_getElem (show 1 < xs.length by omega)] at f1
  replace f1 : DataW.trod enc Tryd.prog W base spare held n 9 [u1] = some xs[1] := f1
  have f2 : DataW.trod enc Tryd.prog W base spare held n 4 (([u0, u1, u2].drop 2).take (Tryd.prog.cellsOf 4)) = xs[2]? := hf 2 _ rfl
  rw [show Tryd.prog.cellsOf 4 = 1 by kernel_rfl, List.getElem?_eq_getElem (show 2 < xs.length by omega)] at f2
  replace f2 : DataW.trod enc Tryd.prog W base spare held n 4 [u2] = some xs[2] := f2
  obtain ⟨z0, e0, x0, _⟩ := DataW.trod_string Tryd.underlying9 f0
  have b0 := str_bulk x0 (part_bulk hd hb 0 (by omega))
  cases e0
  obtain ⟨z1, e1, x1, _⟩ := DataW.trod_string Tryd.underlying9 f1
  have b1 := str_bulk x1 (part_bulk hd hb 1 (by omega))
  cases e1
  obtain ⟨z2, e2, _⟩ := DataW.trod_bool Tryd.underlying4 f2
  cases e2
  exact ⟨⟨z0, z1, z2⟩, k168_mk W ⟨z0, z1, z2⟩, trivial⟩
theorem k118_of {fuel : Nat} {cs : List Value} {y : DataW H × List MemPlace} (h : DataW.trod enc Tryd.prog W base spare held fuel 118 cs = some y) (hb : Rows.uptoBulk y.1 ≤ 1048576) : ∃ a, k118.K W a cs ∧ (RecOk 1048576) a := by
  obtain ⟨xs, n, _, hx, hlen, hxl, hf⟩ := DataW.trod_struct Tryd.underlying118 h
  rw [show Tryd.prog.cellsOf 118 = 8 by kernel_rfl] at hlen
  obtain ⟨u0, u1, u2, u3, u4, u5, u6, u7, rfl⟩ : ∃ u0 u1 u2 u3 u4 u5 u6 u7, cs = [u0, u1, u2, u3, u4, u5, u6, u7] := by
    match cs, hlen with
    | [u0, u1, u2, u3, u4, u5, u6, u7], _ => exact ⟨u0, u1, u2, u3, u4, u5, u6, u7, rfl⟩
  have hxl2 : xs.length = 7 := hxl
  have hd : y.1 = .agg (xs.map (·.1)) := by rw [hx]
  have f0 : DataW.trod enc Tryd.prog W base spare held n 115 (([u0, u1, u2, u3, u4, u5, u6, u7].drop 0).take (Tryd.prog.cellsOf 115)) = xs[0]? := hf 0 _ rfl
  rw [show Tryd.prog.cellsOf 115 = 2 by kernel_rfl, List.getElem?_eq_getElem (show 0 < xs.length by omega)] at f0
  replace f0 : DataW.trod enc Tryd.prog W base spare held n 115 [u0, u1] = some xs[0] := f0
  have f1 : DataW.trod enc Tryd.prog W base spare held n 63 (([u0, u1, u2, u3, u4, u5, u6, u7].drop 2).take (Tryd.prog.cellsOf 63)) = xs[1]? := hf 1 _ rfl
  rw [show Tryd.prog.cellsOf 63 = 1 by kernel_rfl, List.getElem?_eq_getElem (show 1 < xs.length by omega)] at f1
  replace f1 : DataW.trod enc Tryd.prog W base spare held n 63 [u2] = some xs[1] := f1
  have f2 : DataW.trod enc Tryd.prog W base spare held n 116 (([u0, u1, u2, u3, u4, u5, u6, u7].drop 3).take (Tryd.prog.cellsOf 116)) = xs[2]? := hf 2 _ rfl
  rw [show Tryd.prog.cellsOf 116 = 1 by kernel_rfl, List.getElem?_eq_getElem (show 2 < xs.length by omega)] at f2
  replace f2 : DataW.trod enc Tryd.prog W base spare held n 116 [u3] = some xs[2] := f2
  have f3 : DataW.trod enc Tryd.prog W base spare held n 3 (([u0, u1, u2, u3, u4, u5, u6, u7].drop 4).take (Tryd.prog.cellsOf 3)) = xs[3]? := hf 3 _ rfl
  rw [show Tryd.prog.cellsOf 3 = 1 by kernel_rfl, List.getElem?_eq_getElem (show 3 < xs.length by omega)] at f3
  replace f3 : DataW.trod enc Tryd.prog W base spare held n 3 [u4] = some xs[3] := f3
  have f4 : DataW.trod enc Tryd.prog W base spare held n 3 (([u0, u1, u2, u3, u4, u5, u6, u7].drop 5).take (Tryd.prog.cellsOf 3)) = xs[4]? := hf 4 _ rfl
  rw [show Tryd.prog.cellsOf 3 = 1 by kernel_rfl, List.getElem?_eq_getElem (show 4 < xs.length by omega)] at f4
  replace f4 : DataW.trod enc Tryd.prog W base spare held n 3 [u5] = some xs[4] := f4
  have f5 : DataW.trod enc Tryd.prog W base spare held n 24 (([u0, u1, u2, u3, u4, u5, u6, u7].drop 6).take (Tryd.prog.cellsOf 24)) = xs[5]? := hf 5 _ rfl
  rw [show Tryd.prog.cellsOf 24 = 1 by kernel_rfl, List.getElem?_eq_getElem (show 5 < xs.length by omega)] at f5
  replace f5 : DataW.trod enc Tryd.prog W base spare held n 24 [u6] = some xs[5] := f5
  have f6 : DataW.trod enc Tryd.prog W base spare held n 63 (([u0, u1, u2, u3, u4, u5, u6, u7].drop 7).take (Tryd.prog.cellsOf 63)) = xs[6]? := hf 6 _ rfl
  rw [show Tryd.prog.cellsOf 63 = 1 by kernel_rfl, List.getElem?_eq_getElem (show 6 < xs.length by omega)] at f6
  replace f6 : DataW.trod enc Tryd.prog W base spare held n 63 [u7] = some xs[6] := f6
  obtain ⟨z0, hz0, p0⟩ := k115_of f0 (part_bulk hd hb 0 (by omega))
  have e0 := k115_open hz0
  cases e0
  obtain ⟨A1, c1, z1, e1, n1, g1, m1, p1⟩ := row_of (Kd.int .i64) InR Tryd.underlying63 (by kernel_rfl) (fun n cs y hh _ => by obtain ⟨z, ez, _, wz⟩ := DataW.trod_int Tryd.underlying3 hh; exact ⟨z, ez, inr_wf wz⟩) f1 (part_bulk hd hb 1 (by omega))
  cases e1
  obtain ⟨A2, c2, z2, e2, n2, g2, m2, p2⟩ := row_of k168 (fun _ => True) Tryd.underlying116 (by kernel_rfl) (fun n cs y hh hq => k168_of hh hq) f2 (part_bulk hd hb 2 (by omega))
  cases e2
  obtain ⟨z3, e3, _, w3⟩ := DataW.trod_int Tryd.underlying3 f3
  have r3 := inr_wf w3
  cases e3
  obtain ⟨z4, e4, _, w4⟩ := DataW.trod_int Tryd.underlying3 f4
  have r4 := inr_wf w4
  cases e4
  obtain ⟨z5, e5, _, w5⟩ := DataW.trod_int Tryd.underlying24 f5
  have r5 := inr_wf w5
  cases e5
  obtain ⟨A6, c6, z6, e6, n6, g6, m6, p6⟩ := row_of (Kd.int .i64) InR Tryd.underlying63 (by kernel_rfl) (fun n cs y hh _ => by obtain ⟨z, ez, _, wz⟩ := DataW.trod_int Tryd.underlying3 hh; exact ⟨z, ez, inr_wf wz⟩) f6 (part_bulk hd hb 6 (by omega))
  cases e6
  exact ⟨⟨z0, z1, z2, z3, z4, z5, z6⟩, k118_mk W ⟨z0, z1, z2, z3, z4, z5, z6⟩ n1 g1 n2 g2 n6 g6, ⟨p0, r3, r4, r5, m1, m2, m6, p1⟩⟩
theorem open_fold {v : Value} {d : DataW H} {ps : List MemPlace} (hval : Value.okWide Tryd.prog W .any base 75 v) (h : DataW.Trod enc Tryd.prog W 0 spare held 75 v d ps) (hb : Rows.uptoBulk d ≤ 1048576) :
    ∃ (f : FoldV) (A1 A2 A3 A4 A5 A6 : Option Addr) (c1 c2 c3 c4 c5 c6 : Nat), v = .agg #[.int .i64 f.c, .slice A1 f.l1.length c1, .slice A2 f.l2.length c2, .slice A3 f.l3.length c3, .slice A4 f.l4.length c4, .slice A5 f.l5.length c5, .slice A6 f.l6.length c6] ∧ FoldIn W f A1 A2 A3 A4 A5 A6 c1 c2 c3 c4 c5 c6 ∧ FoldOk 1048576 f := by
  obtain ⟨cs, rfl, hsize⟩ := okWide_struct Tryd.underlying75 hval
  obtain ⟨fuel, h⟩ := h
  obtain ⟨xs, n, _, hx, hlen, hxl, hf⟩ := DataW.trod_struct Tryd.underlying75 h
  rw [show Tryd.prog.cellsOf 75 = 7 by kernel_rfl] at hlen
  obtain ⟨l⟩ := cs
  have hlen2 : l.length = 7 := by simpa [Value.cells] using hlen
  obtain ⟨u0, u1, u2, u3, u4, u5, u6, rfl⟩ : ∃ u0 u1 u2 u3 u4 u5 u6, l = [u0, u1, u2, u3, u4, u5, u6] := by
    match l, hlen2 with
    | [u0, u1, u2, u3, u4, u5, u6], _ => exact ⟨u0, u1, u2, u3, u4, u5, u6, rfl⟩
  have hxl2 : xs.length = 7 := hxl
  have hd : d = .agg (xs.map (·.1)) := by cases hx; rfl
  have f0 : DataW.trod enc Tryd.prog W 0 spare held n 3 (((Value.agg #[u0, u1, u2, u3, u4, u5, u6]).cells.toList.drop 0).take (Tryd.prog.cellsOf 3)) = xs[0]? := hf 0 _ rfl
  rw [show Tryd.prog.cellsOf 3 = 1 by kernel_rfl, List.getElem?_eq_getElem (show 0 < xs.length by omega)] at f0
  replace f0 : DataW.trod enc Tryd.prog W 0 spare held n 3 [u0] = some xs[0] := f0
  have f1 : DataW.trod enc Tryd.prog W 0 spare held n 69 (((Value.agg #[u0, u1, u2, u3, u4, u5, u6]).cells.toList.drop 1).take (Tryd.prog.cellsOf 69)) = xs[1]? := hf 1 _ rfl
  rw [show Tryd.prog.cellsOf 69 = 1 by kernel_rfl, List.getElem?_eq_getElem (show 1 < xs.length by omega)] at f1
  replace f1 : DataW.trod enc Tryd.prog W 0 spare held n 69 [u1] = some xs[1] := f1
  have f2 : DataW.trod enc Tryd.prog W 0 spare held n 69 (((Value.agg #[u0, u1, u2, u3, u4, u5, u6]).cells.toList.drop 2).take (Tryd.prog.cellsOf 69)) = xs[2]? := hf 2 _ rfl
  rw [show Tryd.prog.cellsOf 69 = 1 by kernel_rfl, List.getElem?_eq_getElem (show 2 < xs.length by omega)] at f2
  replace f2 : DataW.trod enc Tryd.prog W 0 spare held n 69 [u2] = some xs[2] := f2
  have f3 : DataW.trod enc Tryd.prog W 0 spare held n 70 (((Value.agg #[u0, u1, u2, u3, u4, u5, u6]).cells.toList.drop 3).take (Tryd.prog.cellsOf 70)) = xs[3]? := hf 3 _ rfl
  rw [show Tryd.prog.cellsOf 70 = 1 by kernel_rfl, List.getElem?_eq_getElem (show 3 < xs.length by omega)] at f3
  replace f3 : DataW.trod enc Tryd.prog W 0 spare held n 70 [u3] = some xs[3] := f3
  have f4 : DataW.trod enc Tryd.prog W 0 spare held n 71 (((Value.agg #[u0, u1, u2, u3, u4, u5, u6]).cells.toList.drop 4).take (Tryd.prog.cellsOf 71)) = xs[4]? := hf 4 _ rfl
  rw [show Tryd.prog.cellsOf 71 = 1 by kernel_rfl, List.getElem?_eq_getElem (show 4 < xs.length by omega)] at f4
  replace f4 : DataW.trod enc Tryd.prog W 0 spare held n 71 [u4] = some xs[4] := f4
  have f5 : DataW.trod enc Tryd.prog W 0 spare held n 72 (((Value.agg #[u0, u1, u2, u3, u4, u5, u6]).cells.toList.drop 5).take (Tryd.prog.cellsOf 72)) = xs[5]? := hf 5 _ rfl
  rw [show Tryd.prog.cellsOf 72 = 1 by kernel_rfl, List.getElem?_eq_getElem (show 5 < xs.length by omega)] at f5
  replace f5 : DataW.trod enc Tryd.prog W 0 spare held n 72 [u5] = some xs[5] := f5
  have f6 : DataW.trod enc Tryd.prog W 0 spare held n 73 (((Value.agg #[u0, u1, u2, u3, u4, u5, u6]).cells.toList.drop 6).take (Tryd.prog.cellsOf 73)) = xs[6]? := hf 6 _ rfl
  rw [show Tryd.prog.cellsOf 73 = 1 by kernel_rfl, List.getElem?_eq_getElem (show 6 < xs.length by omega)] at f6
  replace f6 : DataW.trod enc Tryd.prog W 0 spare held n 73 [u6] = some xs[6] := f6
  obtain ⟨z0, e0, _, w0⟩ := DataW.trod_int Tryd.underlying3 f0
  have r0 := inr_wf w0
  cases e0
  obtain ⟨A1, c1, z1, e1, n1, g1, m1, p1⟩ := row_of k135 (LockOk 1048576) Tryd.underlying69 (by kernel_rfl) (fun n cs y hh hq => k135_of hh hq) f1 (part_bulk hd hb 1 (by omega))
  cases e1
  obtain ⟨A2, c2, z2, e2, n2, g2, m2, p2⟩ := row_of k135 (LockOk 1048576) Tryd.underlying69 (by kernel_rfl) (fun n cs y hh hq => k135_of hh hq) f2 (part_bulk hd hb 2 (by omega))
  cases e2
  obtain ⟨A3, c3, z3, e3, n3, g3, m3, p3⟩ := row_of k138 (VersionOk 1048576) Tryd.underlying70 (by kernel_rfl) (fun n cs y hh hq => k138_of hh hq) f3 (part_bulk hd hb 3 (by omega))
  cases e3
  obtain ⟨A4, c4, z4, e4, n4, g4, m4, p4⟩ := row_of k140 (IntentOk 1048576) Tryd.underlying71 (by kernel_rfl) (fun n cs y hh hq => k140_of hh hq) f4 (part_bulk hd hb 4 (by omega))
  cases e4
  obtain ⟨A5, c5, z5, e5, n5, g5, m5, p5⟩ := row_of k142 (TxOk) Tryd.underlying72 (by kernel_rfl) (fun n cs y hh hq => k142_of hh hq) f5 (part_bulk hd hb 5 (by omega))
  cases e5
  obtain ⟨A6, c6, z6, e6, n6, g6, m6, p6⟩ := row_of k118 (RecOk 1048576) Tryd.underlying73 (by kernel_rfl) (fun n cs y hh hq => k118_of hh hq) f6 (part_bulk hd hb 6 (by omega))
  cases e6
  exact ⟨⟨z0, z1, z2, z3, z4, z5, z6⟩, A1, A2, A3, A4, A5, A6, c1, c2, c3, c4, c5, c6, rfl, ⟨g1, n1, g2, n2, g3, n3, g4, n4, g5, n5, g6, n6⟩, ⟨r0, m1, m2, m3, m4, m5, m6, p1, p2, p3, p4, p5, p6, by omega⟩⟩
end
end Go.Proofs.YtggogenhakdhiaaDoor.PSnapTexts
end
section
set_option linter.unusedVariables false
set_option linter.unusedSimpArgs false
attribute [local go_sem ↓] Go.wp_at_zero Go.wp_at_succ
namespace Go.Proofs.YtggogenhakdhiaaDoor.PSnapTexts
open Go.RowKit Go.Proofs.YtggogenhakdhiaaDoorW.PrintWords Go.Proofs.YtggogenhakdhiaaDoorW.PrintLast Go.Proofs.YtggogenhakdhiaaDoorW.PrintMore
open Classical

set_option maxHeartbeats 8000000 in
set_option maxRecDepth 20000 in
theorem law_walk {M : Nat} (w : World) (f : FoldV) (A1 A2 A3 A4 A5 A6 : Option Addr) (c1 c2 c3 c4 c5 c6 : Nat) (hf : FoldIn w f A1 A2 A3 A4 A5 A6 c1 c2 c3 c4 c5 c6) (hk : FoldOk M f) (hpow : Pow w) :
    Calls Tryd.prog 7 #[.agg #[.int .i64 f.c, .slice A1 f.l1.length c1, .slice A2 f.l2.length c2, .slice A3 f.l3.length c3, .slice A4 f.l4.length c4, .slice A5 f.l5.length c5, .slice A6 f.l6.length c6]] w fun e w' => e = .returned (.bool true) ∧ Below w.heap.size w w' := by
  have hx := heap_alloc_new w (.cells #[.int .i64 f.c, .slice A1 f.l1.length c1, .slice A2 f.l2.length c2, .slice A3 f.l3.length c3, .slice A4 f.l4.length c4, .slice A5 f.l5.length c5, .slice A6 f.l6.length c6] 75)
  have hW : Below w.heap.size w (w.alloc (.cells #[.int .i64 f.c, .slice A1 f.l1.length c1, .slice A2 f.l2.length c2, .slice A3 f.l3.length c3, .slice A4 f.l4.length c4, .slice A5 f.l5.length c5, .slice A6 f.l6.length c6] 75)) := below_alloc (Below.refl _ _) _
  replace hf := hf.below hW
  replace hpow := hpow.below hW
  go_enter Tryd.func7, Tryd.ntmps7
  go_upto_region 1 with fail
  generalize w.alloc (.cells #[.int .i64 f.c, .slice A1 f.l1.length c1, .slice A2 f.l2.length c2, .slice A3 f.l3.length c3, .slice A4 f.l4.length c4, .slice A5 f.l5.length c5, .slice A6 f.l6.length c6] 75) = W at *
  obtain ⟨gx, hgx⟩ : ∃ y, y = w.heap.size := ⟨_, rfl⟩
  rw [← hgx] at hx ⊢
  replace hgx := Go.Lib.hid hgx
  have a0 := blk_cell hx 0
  have a1 := blk_cell hx 1
  have a2 := blk_cell hx 2
  have a3 := blk_cell hx 3
  have a4 := blk_cell hx 4
  have a5 := blk_cell hx 5
  have a6 := blk_cell hx 6
  simp only [List.getElem?_toArray, List.getElem?_cons_zero, List.getElem?_cons_succ] at a0 a1 a2 a3 a4 a5 a6
  clear hx
  go_upto_region 2 with (go_at_call 34; refine (copy_walk W f A1 A2 A3 A4 A5 A6 c1 c2 c3 c4 c5 c6 hf hk.fits).mono ?_; rintro e w2 ⟨B1, B2, B3, B4, B5, B6, d1, d2, d3, d4, d5, d6, rfl, hF2, hB2⟩)
  have hx := heap_alloc_new w2 (.cells #[.int .i64 f.c, .slice B1 f.l1.length d1, .slice B2 f.l2.length d2, .slice B3 f.l3.length d3, .slice B4 f.l4.length d4, .slice B5 f.l5.length d5, .slice B6 f.l6.length d6] 75)
  have hV : Below w2.heap.size w2 (w2.alloc (.cells #[.int .i64 f.c, .slice B1 f.l1.length d1, .slice B2 f.l2.length d2, .slice B3 f.l3.length d3, .slice B4 f.l4.length d4, .slice B5 f.l5.length d5, .slice B6 f.l6.length d6] 75)) := below_alloc (Below.refl _ _) _
  have hWV := hB2.trans (hV.mono hB2.size)
  replace hF2 := hF2.below hV
  replace hf := hf.below hWV
  replace hpow := hpow.below hWV
  replace a0 := pw_cell_below hWV a0
  replace a1 := pw_cell_below hWV a1
  replace a2 := pw_cell_below hWV a2
  replace a3 := pw_cell_below hWV a3
  replace a4 := pw_cell_below hWV a4
  replace a5 := pw_cell_below hWV a5
  replace a6 := pw_cell_below hWV a6
  generalize w2.alloc (.cells #[.int .i64 f.c, .slice B1 f.l1.length d1, .slice B2 f.l2.length d2, .slice B3 f.l3.length d3, .slice B4 f.l4.length d4, .slice B5 f.l5.length d5, .slice B6 f.l6.length d6] 75) = V at *
  obtain ⟨gy, hgy⟩ : ∃ y, y = w2.heap.size := ⟨_, rfl⟩
  rw [← hgy] at hx ⊢
  replace hgy := Go.Lib.hid hgy
  have b0 := blk_cell hx 0
  have b1 := blk_cell hx 1
  have b2 := blk_cell hx 2
  have b3 := blk_cell hx 3
  have b4 := blk_cell hx 4
  have b5 := blk_cell hx 5
  have b6 := blk_cell hx 6
  simp only [List.getElem?_toArray, List.getElem?_cons_zero, List.getElem?_cons_succ] at b0 b1 b2 b3 b4 b5 b6
  clear hx
  have hd3 : Below V.heap.size V V.drew := below_drew (Below.refl _ _)
  have HT := fun u hu => ptext_walk u f B1 B2 B3 B4 B5 B6 d1 d2 d3 d4 d5 d6 hu hk
  have HR := fun u hu => rtext_walk u f A1 A2 A3 A4 A5 A6 c1 c2 c3 c4 c5 c6 hu hk
  generalize B (textL f) = tx at *
  go_region_held_law (fun w' => w'.cell? ⟨gx, 0, none⟩ = some (.int .i64 f.c) ∧ w'.cell? ⟨gx, 1, none⟩ = some (.slice A1 f.l1.length c1) ∧ w'.cell? ⟨gx, 2, none⟩ = some (.slice A2 f.l2.length c2) ∧ w'.cell? ⟨gx, 3, none⟩ = some (.slice A3 f.l3.length c3) ∧ w'.cell? ⟨gx, 4, none⟩ = some (.slice A4 f.l4.length c4) ∧ w'.cell? ⟨gx, 5, none⟩ = some (.slice A5 f.l5.length c5) ∧ w'.cell? ⟨gx, 6, none⟩ = some (.slice A6 f.l6.length c6) ∧ w'.cell? ⟨gy, 0, none⟩ = some (.int .i64 f.c) ∧ w'.cell? ⟨gy, 1, none⟩ = some (.slice B1 f.l1.length d1) ∧ w'.cell? ⟨gy, 2, none⟩ = some (.slice B2 f.l2.length d2) ∧ w'.cell? ⟨gy, 3, none⟩ = some (.slice B3 f.l3.length d3) ∧ w'.cell? ⟨gy, 4, none⟩ = some (.slice B4 f.l4.length d4) ∧ w'.cell? ⟨gy, 5, none⟩ = some (.slice B5 f.l5.length d5) ∧ w'.cell? ⟨gy, 6, none⟩ = some (.slice B6 f.l6.length d6))
    (first | go_keep | exact ⟨pw_cell_below hd6 a0, pw_cell_below hd6 a1, pw_cell_below hd6 a2, pw_cell_below hd6 a3, pw_cell_below hd6 a4, pw_cell_below hd6 a5, pw_cell_below hd6 a6, pw_cell_below hd6 b0, pw_cell_below hd6 b1, pw_cell_below hd6 b2, pw_cell_below hd6 b3, pw_cell_below hd6 b4, pw_cell_below hd6 b5, pw_cell_below hd6 b6⟩ | exact ⟨pw_cell_below hd5 a0, pw_cell_below hd5 a1, pw_cell_below hd5 a2, pw_cell_below hd5 a3, pw_cell_below hd5 a4, pw_cell_below hd5 a5, pw_cell_below hd5 a6, pw_cell_below hd5 b0, pw_cell_below hd5 b1, pw_cell_below hd5 b2, pw_cell_below hd5 b3, pw_cell_below hd5 b4, pw_cell_below hd5 b5, pw_cell_below hd5 b6⟩ | exact ⟨pw_cell_below hd4 a0, pw_cell_below hd4 a1, pw_cell_below hd4 a2, pw_cell_below hd4 a3, pw_cell_below hd4 a4, pw_cell_below hd4 a5, pw_cell_below hd4 a6, pw_cell_below hd4 b0, pw_cell_below hd4 b1, pw_cell_below hd4 b2, pw_cell_below hd4 b3, pw_cell_below hd4 b4, pw_cell_below hd4 b5, pw_cell_below hd4 b6⟩ | exact ⟨pw_cell_below hd3 a0, pw_cell_below hd3 a1, pw_cell_below hd3 a2, pw_cell_below hd3 a3, pw_cell_below hd3 a4, pw_cell_below hd3 a5, pw_cell_below hd3 a6, pw_cell_below hd3 b0, pw_cell_below hd3 b1, pw_cell_below hd3 b2, pw_cell_below hd3 b3, pw_cell_below hd3 b4, pw_cell_below hd3 b5, pw_cell_below hd3 b6⟩)
    ((first
      | (go_at_call 37; refine (ref_walk w5 f f B1 B2 B3 B4 B5 B6 d1 d2 d3 d4 d5 d6 A1 A2 A3 A4 A5 A6 c1 c2 c3 c4 c5 c6 (hF2.below hd5) (hf.below hd5) hk.fits).mono ?_; rintro e w6 ⟨rfl, hB6⟩; have hd6 := hd5.trans (hB6.mono hd5.size); rw [show decide (f = f) = true from decide_eq_true rfl])
      | (go_at_call 36; refine (HR w4 (hf.below hd4)).mono ?_; rintro e w5 ⟨rfl, hB5⟩; have hd5 := hd4.trans (hB5.mono hd4.size))
      | (go_at_call 35; refine (HT _ (hF2.below hd3) (hpow.below hd3)).mono ?_; rintro e w4 ⟨rfl, hB4⟩; have hd4 := hd3.trans (hB4.mono hd3.size))))
  all_goals (go_wp2_with fail; go_ret; exact ⟨by first | rfl | (simp; done), hW.trans ((hWV.trans (hd6.mono hWV.size)).mono hW.size)⟩)
end Go.Proofs.YtggogenhakdhiaaDoor.PSnapTexts
end
section
set_option linter.unusedVariables false
set_option linter.unusedSimpArgs false
namespace Go.Proofs.YtggogenhakdhiaaDoor.lawSnapTexts
open Go.ChangeShapes Go.WideShapes Go.ChangeAt Go.RowKit Go.Proofs.YtggogenhakdhiaaDoor.PSnapTexts

set_option maxRecDepth 100000 in
theorem contract (H : Type) (enc : TypeId × Value → H) (W : World) (base : Nat) (args : Array Value) (ds gs : List (DataW H)) (before : List MemPlace)
    (hval : ∀ (j : Nat) t v, Tryd.f7.params[j]? = some t → args[j]? = some v → Value.okWide Tryd.prog W .any base t v)
    (hW : DataW.Whole enc Tryd.prog Tryd.f7.params.toList Rows.snapTextsSpec.vars false W args.toList ds gs before)
    (hk : Rows.uptoSmall H (ds ++ gs) = true)
    (hsz : (DataW.weightsEach Tryd.prog (Tryd.f7.params.toList ++ []) (ds ++ gs)).all (· ≤ reachBytes) = true)
    (hL : laidMetH Tryd.prog Rows.snapTextsUptoRow.laid W) :
    Calls Tryd.prog 7 args W fun e W' => ∃ v, e = .returned v ∧ Rows.snapTextsSpec.post enc Tryd.prog Tryd.f7 false true false false W args v W' := by
  have hW' := hW
  obtain ⟨p, q, hA0, hV, _, _, _⟩ := hW
  have hA : DataW.TrodAll enc Tryd.prog W 0 (fun _ => true) true Tryd.f7.params.toList args.toList ds p := hA0
  rw [Tryd.params7] at hA hval hsz
  obtain ⟨v0, vs0, d0, ds0, p0, q0, hargs0, rfl, _, h0, r0⟩ := trodAll_cons hA
  obtain ⟨rfl, rfl, _⟩ := trodAll_nil r0
  obtain rfl : args = #[v0] := by cases args; simp_all
  obtain ⟨rfl, _⟩ := trodVars_none hV
  have hbb : Rows.uptoBulk d0 ≤ 1048576 := by
    have : Rows.uptoBulkAll (([d0] : List (DataW H)) ++ []) ≤ 1048576 := of_decide_eq_true hk
    simp only [List.append_nil, Rows.uptoBulkAll] at this
    omega
  obtain ⟨f, A1, A2, A3, A4, A5, A6, c1, c2, c3, c4, c5, c6, rfl, hf, hok⟩ := open_fold (hval 0 75 v0 rfl rfl) h0 hbb
  refine (law_walk W f A1 A2 A3 A4 A5 A6 c1 c2 c3 c4 c5 c6 hf hok (pow_of_laid hL)).mono fun e W' h => ?_
  refine law_post hW' ?_ rfl rfl rfl h
  rw [Tryd.params7]
  intro t ht
  simp only [List.mem_cons, List.not_mem_nil, or_false] at ht
  rcases ht with rfl <;> exact ⟨by kernel_rfl, of_decide_eq_true (by kernel_rfl)⟩

theorem reads (os : Os) {H : Type} (enc : TypeId × Value → H) : ∃ places, DataW.whole enc Tryd.prog ((laidWorld os).forCall (fun _ _ => 0) ⟨#[], #[Value.agg #[.int .i64 0, .slice none 0 0, .slice none 0 0, .slice none 0 0, .slice none 0 0, .slice none 0 0, .slice none 0 0]], []⟩).memory Tryd.f7.params.toList Rows.snapTextsSpec.vars false #[Value.agg #[.int .i64 0, .slice none 0 0, .slice none 0 0, .slice none 0 0, .slice none 0 0, .slice none 0 0, .slice none 0 0]].toList 8 = some ([.agg [.lit (.int .i64 0), .nil, .nil, .nil, .nil, .nil, .nil]], [], places) :=
  ⟨[], by kernel_rfl⟩

set_option maxRecDepth 100000 in
theorem lifted (os : Os) (started : os.Started) (H : Type) (enc : TypeId × Value → H) (F : Stop.Interp) :
    ReturnsInHanded {} Tryd.checked os 7 .any ((Rows.OpenSpec.upto Rows.snapTextsSpec).preRow enc Tryd.prog Tryd.f7 Rows.snapTextsUptoRow.domain false Rows.snapTextsUptoRow.laid) (((Rows.OpenSpec.upto Rows.snapTextsSpec).at F).post enc Tryd.prog Tryd.f7 false true false false) := by
  obtain ⟨places, hx⟩ := reads os enc
  refine returnsInHanded_of_row (C := Tryd.checked) (s := Rows.OpenSpec.upto Rows.snapTextsSpec) own_knob started (by kernel_rfl) Tryd.func7
    (witness_row_at (enc := enc) (C := Tryd.checked) false (laidWorld os) #[Value.agg #[.int .i64 0, .slice none 0 0, .slice none 0 0, .slice none 0 0, .slice none 0 0, .slice none 0 0, .slice none 0 0]] rfl (by kernel_rfl) (by kernel_rfl) (by kernel_rfl)
      (OpenSpec.preRow_of_cond 8 hx (by kernel_rfl) (fun k hk => by cases hk; kernel_rfl) (by kernel_rfl) (laid_met os _))) ?_
  intro W base args ds gs before hval hW _ hcond hsz hL _ _
  exact contract H enc W base args ds gs before hval hW (hcond _ rfl) hsz hL

theorem said : Rows.SnapTextsUptoSaid :=
  OpenClaim.holds_of_cond 7 Tryd.f7 rfl rfl rfl rfl rfl rfl rfl ⟨rfl, rfl, rfl, rfl, rfl⟩ rfl rfl rfl rfl rfl (by kernel_rfl) Tryd.func7 (by kernel_rfl)
    (of_decide_eq_true (by kernel_rfl)) (by unfold Func.isWrapper; first | (rw [if_pos (by decide +kernel)]; kernel_rfl) | (rw [if_neg (by decide +kernel)]; exact ⟨rfl, rfl⟩))
    (fun os started H enc _ F => by rw [OpenClaim.pre_eq_preRow]; exact lifted os started H enc F)

/-- No parameter wants a stand-in; the program's own looks are off: what the card asks. -/
theorem plain (f : FuncId) (fn : Func) (hf : Tryd.pinned.checked.prog.funcNamed "bursar/bursarlaw19.SnapTexts" = some f) (hfn : Tryd.pinned.checked.prog.funcs[f]? = some fn) :
    false = Tryd.pinned.checked.prog.looks [] ∧ ∀ (j : Nat) t, fn.params[j]? = some t → Tryd.pinned.checked.prog.wantsStandIn t = false := by
  obtain rfl : f = 7 := Option.some.inj ((show Tryd.prog.funcNamed "bursar/bursarlaw19.SnapTexts" = some 7 by kernel_rfl).symm.trans hf) |>.symm
  obtain rfl : fn = Tryd.f7 := (Option.some.inj (Tryd.func7.symm.trans hfn)).symm
  refine ⟨by kernel_rfl, fun j t ht => ?_⟩
  rw [Tryd.params7] at ht
  have hm := Array.mem_of_getElem? ht
  simp only [List.mem_toArray, List.mem_cons, List.not_mem_nil, or_false] at hm
  rcases hm with rfl
  exact (show Tryd.prog.wantsStandIn 75 = false by kernel_rfl)

theorem card : Rows.SnapTextsUptoCardSaid :=
  Claim7.holds_tied_plain_at .later [] _ _ _ _ said (fun _ h => by cases h) (by kernel_rfl) (fun _ h => by cases h) snapTextsUpto_row_tie rfl ⟨rfl, rfl⟩ (by kernel_rfl) rfl plain (by kernel_rfl)
end Go.Proofs.YtggogenhakdhiaaDoor.lawSnapTexts
end
