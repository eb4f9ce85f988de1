/- ResolverCycles: for any edges, the program's Cycle answers the round that the document's answers, and leaves the edges and what lies behind them as they were. No condition on the argument. (ahead of it: Edges handed in, opened. A law's row out of its walk: whatever the arguments are, a call that answers true and leaves all that was there as it was meets the row.) -/
import Derived.Test.YtdepmcofnlggaaaPkG
import Derived.Test.YtdepmcofnlggaaaRows
import Derived.Deep.Slices
import Derived.ChangeSame
import Derived.SizedLaws
import Derived.OpenShut
import Derived.Test.YtdepmcofnlggaaaPkA
import Derived.ProofKit
import Derived.WideKeyArgs
import Derived.Below
import Derived.JoinedCond
section
set_option linter.unusedVariables false
set_option linter.unusedSimpArgs false
namespace Go.Proofs.Ytdepmcofnlggaaa.PResolverCycles
open Go.ChangeShapes Go.WideShapes Go.RowKit Go.Deep Go.Proofs.YtdepmcofnlggaaaW.PrintWords Go.Proofs.YtdepmcofnlggaaaW.PrintLast Go.Proofs.YtdepmcofnlggaaaW.PrintMore

section
variable {H : Type} {enc : TypeId × Value → H} {W : World} {base : Nat} {spare : Nat → Bool} {held : Bool}
theorem in_all {P : Program} {e : TypeId} : ∀ {ds : List (DataW H)} {d : DataW H}, d ∈ ds → ∀ n ∈ d.weights P e, n ∈ DataW.weightsAll P e ds
  | d0 :: ds, d, hd, n, hn => by
    simp only [DataW.weightsAll, List.mem_append]
    rcases List.mem_cons.1 hd with rfl | h
    · exact .inl hn
    · exact .inr (in_all h n hn)
theorem pick {α : Type} (Q : Nat → α → Prop) : ∀ n, (∀ i, i < n → ∃ a, Q i a) → ∃ xs : List α, xs.length = n ∧ ∀ j p, xs[j]? = some p → Q j p
  | 0, _ => ⟨[], rfl, fun j p h => by simp at h⟩
  | n + 1, h => by
    obtain ⟨xs, hl, hx⟩ := pick Q n (fun i hi => h i (by omega))
    obtain ⟨a, ha⟩ := h n (by omega)
    refine ⟨xs ++ [a], by simp [hl], fun j p hj => ?_⟩
    rcases Nat.lt_or_ge j n with hlt | hge
    · rw [List.getElem?_append_left (by omega)] at hj; exact hx j p hj
    · have hjn : j = n := by have := (List.getElem?_eq_some_iff.1 hj).1; simp at this; omega
      subst hjn
      rw [List.getElem?_append_right (by omega), hl, Nat.sub_self] at hj
      cases hj; exact ha
/-- a row opened: of each element what its reading tells -/
theorem row_of {α : Type} (D : Kd α) (Pz : α → Prop) {t e : TypeId} {b : Nat} (ht : Try.prog.underlying t = some (.slice e)) (hsz : Try.prog.cellsOf e = D.sz) (hby : Try.prog.bytesOf e = b)
    (hK : ∀ n cs y, DataW.trod enc Try.prog W base spare held n e cs = some y → (∀ q ∈ y.1.weights Try.prog e, q ≤ reachBytes) → ∃ a, D.K W a cs ∧ Pz a)
    {fuel : Nat} {cs : List Value} {x : DataW H × List MemPlace} (h : DataW.trod enc Try.prog W base spare held fuel t cs = some x) (hz : ∀ q ∈ x.1.weights Try.prog t, q ≤ reachBytes) :
    ∃ A c xs, cs = [.slice A xs.length c] ∧ xs.length ≤ c ∧ D.C W A xs.length xs ∧ xs.length * b ≤ reachBytes ∧ ∀ a ∈ xs, Pz a := by
  rcases open_slice ht h with ⟨hc, hx⟩ | ⟨ad, n, c, m, k, Dt, Pl, hc, _, hl, hm0, hm, hx, hi⟩
  · exact ⟨none, 0, [], hc, Nat.zero_le _, Kd.C_nil D W, by simp, fun a ha => by cases ha⟩
  · have hnm : n ≤ m := by split at hm <;> omega
    have hd : x.1 = .slice ((List.range n).map Dt) ((List.range (m - n)).map fun j => Dt (n + j)) := by rw [hx]
    have hall : ∀ i, i < n → ∃ a : α, (∃ cs', cs'.length = D.sz ∧ D.K W a cs' ∧ ∀ j u, cs'[j]? = some u → W.cell? (ad.add (i * D.sz + j)) = some u) ∧ Pz a := by
      intro i hin
      obtain ⟨cs', hcs, htr⟩ := hi i (by omega)
      obtain ⟨a, ha, hp⟩ := hK k cs' _ htr (fun q hq => hz q (by
        rw [hd]
        simp only [DataW.weights, ht]
        exact List.mem_cons_of_mem _ (List.mem_append_left _ (in_all (d := Dt i) (List.mem_map.2 ⟨i, List.mem_range.2 hin, rfl⟩) q hq))))
      obtain ⟨_, hcl, hat⟩ := World.cells?_some hcs
      refine ⟨a, ⟨cs', D.K_len ha, ha, fun j u hu => ?_⟩, hp⟩
      have hj : j < cs'.length := (List.getElem?_eq_some_iff.1 hu).1
      have := hat j (by omega)
      rw [hu, Go.Deep.add_add, hsz] at this
      exact this
    obtain ⟨xs, hxl, hx2⟩ := pick _ n hall
    subst hxl
    refine ⟨some ad, c, xs, hc, hl, ⟨rfl, by simp only [maxLen] at hm0; omega, fun _ => ⟨ad, rfl, fun j p hj => ?_⟩⟩, ?_, fun q hq => ?_⟩
    · obtain ⟨cs', h1, h2, h3⟩ := (hx2 j p hj).1
      exact ⟨cs', h1, h2, h3⟩
    · have := hz ((((List.range xs.length).map Dt).length + ((List.range (m - xs.length)).map fun j => Dt (xs.length + j)).length) * Try.prog.bytesOf e) (by rw [hd]; simp only [DataW.weights, ht]; exact List.mem_cons_self)
      rw [hby] at this
      simp only [List.length_map, List.length_range] at this
      exact Nat.le_trans (Nat.mul_le_mul_right b (Nat.le_add_right _ _)) this
    · obtain ⟨j, hj, rfl⟩ := List.getElem_of_mem hq
      exact (hx2 j xs[j] (List.getElem?_eq_getElem hj)).2
theorem in_range {n : Int} (h : (Lit.int .i64 n).wf = true) : InR n := by
  simpa [InR, Lit.wf, IntKind.min, IntKind.max, IntKind.signed, IntKind.bits] using h
set_option maxRecDepth 100000 in
theorem k24_of {fuel : Nat} {cs : List Value} {y : DataW H × List MemPlace} (h : DataW.trod enc Try.prog W base spare held fuel 24 cs = some y) : ∃ a, k24.K W a cs ∧ InId a := by
  obtain ⟨xs, n, _, hx, hlen, hxl, hf⟩ := DataW.trod_struct Try.underlying24 h
  rw [show Try.prog.cellsOf 24 = 2 by kernel_rfl] at hlen
  obtain ⟨u0, u1, rfl⟩ : ∃ u0 u1, cs = [u0, u1] := by
    match cs, hlen with
    | [u0, u1], _ => exact ⟨u0, u1, rfl⟩
  have hxl2 : xs.length = 2 := hxl
  have f0 : DataW.trod enc Try.prog W base spare held n 3 (([u0, u1].drop 0).take (Try.prog.cellsOf 3)) = xs[0]? := hf 0 _ rfl
  rw [show Try.prog.cellsOf 3 = 1 by kernel_rfl, List.getElem?_eq_getElem (show 0 < xs.length by omega)] at f0
  replace f0 : DataW.trod enc Try.prog W base spare held n 3 [u0] = some xs[0] := f0
  have f1 : DataW.trod enc Try.prog W base spare held n 3 (([u0, u1].drop 1).take (Try.prog.cellsOf 3)) = xs[1]? := hf 1 _ rfl
  rw [show Try.prog.cellsOf 3 = 1 by kernel_rfl, List.getElem?_eq_getElem (show 1 < xs.length by omega)] at f1
  replace f1 : DataW.trod enc Try.prog W base spare held n 3 [u1] = some xs[1] := f1
  obtain ⟨z0, e0, _, g0⟩ := DataW.trod_int Try.underlying3 f0
  cases e0
  obtain ⟨z1, e1, _, g1⟩ := DataW.trod_int Try.underlying3 f1
  cases e1
  exact ⟨⟨z0, z1⟩, k24_mk W ⟨z0, z1⟩, in_range g0, in_range g1⟩
set_option maxRecDepth 100000 in
theorem k26_of {fuel : Nat} {cs : List Value} {y : DataW H × List MemPlace} (h : DataW.trod enc Try.prog W base spare held fuel 26 cs = some y) : ∃ a, k26.K W a cs ∧ (InId a.f1 ∧ InId a.f2) := by
  obtain ⟨xs, n, _, hx, hlen, hxl, hf⟩ := DataW.trod_struct Try.underlying26 h
  rw [show Try.prog.cellsOf 26 = 5 by kernel_rfl] at hlen
  obtain ⟨u0, u1, u2, u3, u4, rfl⟩ : ∃ u0 u1 u2 u3 u4, cs = [u0, u1, u2, u3, u4] := by
    match cs, hlen with
    | [u0, u1, u2, u3, u4], _ => exact ⟨u0, u1, u2, u3, u4, rfl⟩
  have hxl2 : xs.length = 3 := hxl
  have f0 : DataW.trod enc Try.prog W base spare held n 9 (([u0, u1, u2, u3, u4].drop 0).take (Try.prog.cellsOf 9)) = xs[0]? := hf 0 _ rfl
  rw [show Try.prog.cellsOf 9 = 1 by kernel_rfl, List.getElem?_eq_getElem (show 0 < xs.length by omega)] at f0
  replace f0 : DataW.trod enc Try.prog W base spare held n 9 [u0] = some xs[0] := f0
  have f1 : DataW.trod enc Try.prog W base spare held n 24 (([u0, u1, u2, u3, u4].drop 1).take (Try.prog.cellsOf 24)) = xs[1]? := hf 1 _ rfl
  rw [show Try.prog.cellsOf 24 = 2 by kernel_rfl, List.getElem?_eq_getElem (show 1 < xs.length by omega)] at f1
  replace f1 : DataW.trod enc Try.prog W base spare held n 24 [u1, u2] = some xs[1] := f1
  have f2 : DataW.trod enc Try.prog W base spare held n 24 (([u0, u1, u2, u3, u4].drop 3).take (Try.prog.cellsOf 24)) = xs[2]? := hf 2 _ rfl
  rw [show Try.prog.cellsOf 24 = 2 by kernel_rfl, List.getElem?_eq_getElem (show 2 < xs.length by omega)] at f2
  replace f2 : DataW.trod enc Try.prog W base spare held n 24 [u3, u4] = some xs[2] := f2
  obtain ⟨z0, e0, _, _⟩ := DataW.trod_string Try.underlying9 f0
  cases e0
  obtain ⟨z1, hz1, q1⟩ := k24_of f1
  have e1 := k24_open hz1
  cases e1
  obtain ⟨z2, hz2, q2⟩ := k24_of f2
  have e2 := k24_open hz2
  cases e2
  exact ⟨⟨z0, z1, z2⟩, k26_mk W ⟨z0, z1, z2⟩, q1, q2⟩
set_option maxRecDepth 100000 in
/-- edges handed in -/
theorem open_edges {v : Value} {d : DataW H} {ps : List MemPlace} (hval : Value.okWide Try.prog W .any base 22 v) (h : DataW.Trod enc Try.prog W 0 spare held 22 v d ps) (hz : ∀ q ∈ d.weights Try.prog 22, q ≤ reachBytes) :
    ∃ A c l, v = .slice A l.length c ∧ l.length ≤ c ∧ Kd.C k26 W A l.length l ∧ ∀ e ∈ l, InId e.f1 ∧ InId e.f2 := by
  obtain ⟨A0, n0, c0, rfl⟩ := okWide_slice Try.underlying22 hval
  obtain ⟨fuel, h⟩ := h
  obtain ⟨A, c, l, e, h1, h2, _, h3⟩ := row_of k26 (fun a => InId a.f1 ∧ InId a.f2) Try.underlying22 (b := 48) (by kernel_rfl) (by kernel_rfl) (fun n cs y hh _ => k26_of hh) h hz
  cases e
  exact ⟨_, _, l, rfl, h1, h2, h3⟩
end
end Go.Proofs.Ytdepmcofnlggaaa.PResolverCycles
end
section
set_option linter.unusedVariables false
set_option linter.unusedSimpArgs false
namespace Go.Proofs.Ytdepmcofnlggaaa
open Go.ChangeShapes Go.WideShapes Go.ChangeAt Go.RowKit

/-- the law's answer -/
def LawPost (w : World) (e : Ending) (w' : World) : Prop := e = .returned (.bool true) ∧ Below w.heap.size w w'

theorem laid_out : laidOutB Try.prog = true := by kernel_rfl

section
variable {H : Type} {enc : TypeId × Value → H}
theorem trodAll_stays {W W' : World} {sp : Nat → Bool} : ∀ {ts : List TypeId} {vs : List Value} {ds : List (DataW H)} {ps : List MemPlace},
    (∀ t ∈ ts, Try.prog.readableRec t = true ∧ t < Try.prog.types.size) → DataW.TrodAll enc Try.prog W 0 (fun _ => true) true ts vs ds ps →
    (∀ p ∈ ps, W.sameAt W' p) → (∀ p ∈ ps, sp p.block = true) → DataW.TrodAll enc Try.prog W' 0 sp true ts vs ds ps
  | [], vs, ds, ps, _, h, _, _ => by
    obtain ⟨rfl, rfl, rfl⟩ := trodAll_nil h
    exact trodAll_mk0
  | t :: ts, vs, ds, ps, hr, h, hs, hp => by
    obtain ⟨v, vs', d, ds', p, q, rfl, rfl, rfl, h0, h1⟩ := trodAll_cons h
    exact trodAll_cons_mk (WideElems.Trod_stays laid_out (hr t (by simp)).1 (hr t (by simp)).2 h0 (fun x hx => hs x (by simp [hx])) (fun x hx => hp x (by simp [hx])))
      (trodAll_stays (fun t' ht' => hr t' (by simp [ht'])) h1 (fun x hx => hs x (by simp [hx])) (fun x hx => hp x (by simp [hx])))

/-- the row's last step -/
theorem law_post {fn : Func} {s : ChangeSpec} {W W' : World} {args : Array Value} {e : Ending} {ds gs : List (DataW H)} {before : List MemPlace}
    (hW : DataW.Whole enc Try.prog fn.params.toList s.vars false W args.toList ds gs before)
    (hread : ∀ t ∈ fn.params.toList, Try.prog.readableRec t = true ∧ t < Try.prog.types.size) (hres : fn.resultTypes = #[4]) (hvars : s.vars = [])
    (hfn : s.fn H (ds ++ gs) = { results := [.lit (.bool true)], args := ds })
    (h : LawPost W e W') : ∃ v, e = .returned v ∧ s.post enc Try.prog fn false true false false W args v W' := by
  obtain ⟨rfl, hb⟩ := h
  have hlt : ∀ p ∈ before, p.block < W.heap.size := fun p hp => hW.lt p hp
  have hW' := hW
  obtain ⟨p, q, hA, hV, hpq, hz, hn⟩ := hW
  rw [hvars] at hV
  obtain ⟨hgs, hq⟩ := trodVars_none hV
  subst hgs hq
  refine ⟨_, rfl, ds, [], before, [], before, [], hW', ?_, ?_, ?_, World.keptBut_mono (fun p hp => ⟨hp, Or.inr (Or.inl hp)⟩) (hb.frame (· ∈ before)), fun h => by cases h⟩
  · rw [hfn, hres]
    exact trodAll_cons_mk (shut_bool Try.underlying4 _) trodAll_mk0
  · rw [hfn]
    have hpb : before = p := by simpa using hpq
    subst hpb
    exact trodAll_stays hread hA (fun x hx => hb.same (hlt x hx)) (fun x hx => by simpa using hlt x hx)
  · rw [hfn, hvars]
    rfl
end
end Go.Proofs.Ytdepmcofnlggaaa
end
section
set_option linter.unusedVariables false
set_option linter.unusedSimpArgs false
namespace Go.Proofs.Ytdepmcofnlggaaa.lawResolverCycles
open Go.ChangeShapes Go.WideShapes Go.ChangeAt Go.RowKit

theorem own : ownKnob Try.prog.godebug = none := by kernel_rfl
set_option maxRecDepth 100000 in
theorem contract (H : Type) (enc : TypeId × Value → H) (W : World) (base : Nat) (args : Array Value) (ds gs : List (DataW H)) (before : List MemPlace)
    (hval : ∀ (j : Nat) t v, Try.f3.params[j]? = some t → args[j]? = some v → Value.okWide Try.prog W .any base t v)
    (hW : DataW.Whole enc Try.prog Try.f3.params.toList Rows.resolverCyclesSpec.vars false W args.toList ds gs before)
    (hsz : (DataW.weightsEach Try.prog (Try.f3.params.toList ++ []) (ds ++ gs)).all (· ≤ reachBytes) = true) :
    Calls Try.prog 3 args W fun e W' => ∃ v, e = .returned v ∧ Rows.resolverCyclesSpec.post enc Try.prog Try.f3 false true false false W args v W' := by
  have hW' := hW
  obtain ⟨p, q, hA0, hV, _, _, _⟩ := hW
  have hA : DataW.TrodAll enc Try.prog W 0 (fun _ => true) true Try.f3.params.toList args.toList ds p := hA0
  rw [Try.params3] at hA hval hsz
  obtain ⟨v0, vs0, d0, ds0, p0, q0, hargs0, rfl, _, h0, r0⟩ := trodAll_cons hA
  obtain ⟨rfl, rfl, _⟩ := trodAll_nil r0
  obtain rfl : args = #[v0] := by cases args; simp_all
  obtain ⟨rfl, _⟩ := trodVars_none hV
  obtain ⟨A, c, l, rfl, hlc, hC, hin⟩ := PResolverCycles.open_edges (hval 0 22 v0 rfl rfl) h0 (fun m hm => by have := List.all_eq_true.1 hsz m (DataW.weights_mem_each (j := 0) rfl rfl m hm); simpa using this)
  refine (PResolverCycles.law_walk W A c l hC hlc (fun _ => hin)).mono fun e W' h => ?_
  refine law_post hW' ?_ rfl rfl rfl h
  rw [Try.params3]
  intro t ht
  simp only [List.mem_cons, List.not_mem_nil, or_false] at ht
  rcases ht with rfl <;> exact ⟨by kernel_rfl, of_decide_eq_true (by kernel_rfl)⟩

set_option maxRecDepth 100000 in
theorem lifted (os : Os) (started : os.Started) (H : Type) (enc : TypeId × Value → H) :
    ReturnsInHanded {} Try.checked os 3 .any (Rows.resolverCyclesSpec.pre6 enc Try.prog Try.f3 Rows.resolverCyclesRow.domain false) (Rows.resolverCyclesSpec.post enc Try.prog Try.f3 false true false false) := by
  refine returnsInHanded_of_change_sized (C := Try.checked) own started (by kernel_rfl) Try.func3
    (ChangeSpec.witness6 (enc := enc) (C := Try.checked) false ⟨#[], #[Value.slice none 0 0], []⟩ 8 (by kernel_rfl) (by kernel_rfl) (by kernel_rfl) (by kernel_rfl)) ?_
  intro W base args ds gs before hval hW _ hsz _
  exact contract H enc W base args ds gs before hval hW hsz

theorem proved : Rows.ResolverCyclesSaid :=
  OpenClaim.holds_of_wide 3 Try.f3 rfl rfl rfl rfl rfl rfl rfl ⟨rfl, rfl, rfl, rfl, rfl⟩ rfl rfl rfl rfl rfl (by kernel_rfl) Try.func3 (by kernel_rfl)
    (of_decide_eq_true (by kernel_rfl)) (by unfold Func.isWrapper; first | (rw [if_pos (by decide +kernel)]; kernel_rfl) | (rw [if_neg (by decide +kernel)]; exact ⟨rfl, rfl⟩))
    (fun os started H enc _ => lifted os started H enc)
end Go.Proofs.Ytdepmcofnlggaaa.lawResolverCycles
end
