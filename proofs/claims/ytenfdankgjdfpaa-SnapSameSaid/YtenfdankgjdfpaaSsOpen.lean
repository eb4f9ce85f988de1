/- States handed in, opened. -/
import Derived.Test.YtenfdankgjdfpaaSsLaw
import Derived.Test.YtenfdankgjdfpaaRows
import Derived.Deep.Slices
import Derived.ChangeSame
import Derived.SizedLaws
import Derived.OpenShut
set_option linter.unusedVariables false
set_option linter.unusedSimpArgs false
namespace Go.Proofs.Ytenfdankgjdfpaa.PSnapSame
open Go.ChangeShapes Go.WideShapes Go.RowKit Go.Deep Go.Proofs.YtenfdankgjdfpaaW.PrintWords Go.Proofs.YtenfdankgjdfpaaW.PrintLast Go.Proofs.YtenfdankgjdfpaaW.PrintMore

section
variable {H : Type} {enc : TypeId × Value → H} {W : World} {base : Nat} {spare : Nat → Bool} {held : Bool}
theorem in_all {P : Program} {e : TypeId} : ∀ {ds : List (DataW H)} {d : DataW H}, d ∈ ds → ∀ n ∈ d.weights P e, n ∈ DataW.weightsAll P e ds
  | d0 :: ds, d, hd, n, hn => by
    simp only [DataW.weightsAll, List.mem_append]
    rcases List.mem_cons.1 hd with rfl | h
    · exact .inl hn
    · exact .inr (in_all h n hn)
theorem pick {α : Type} (Q : Nat → α → Prop) : ∀ n, (∀ i, i < n → ∃ a, Q i a) → ∃ xs : List α, xs.length = n ∧ ∀ j p, xs[j]? = some p → Q j p
  | 0, _ => ⟨[], rfl, fun j p h => by simp at h⟩
  | n + 1, h => by
    obtain ⟨xs, hl, hx⟩ := pick Q n (fun i hi => h i (by omega))
    obtain ⟨a, ha⟩ := h n (by omega)
    refine ⟨xs ++ [a], by simp [hl], fun j p hj => ?_⟩
    rcases Nat.lt_or_ge j n with hlt | hge
    · rw [List.getElem?_append_left (by omega)] at hj; exact hx j p hj
    · have hjn : j = n := by have := (List.getElem?_eq_some_iff.1 hj).1; simp at this; omega
      subst hjn
      rw [List.getElem?_append_right (by omega), hl, Nat.sub_self] at hj
      cases hj; exact ha
/-- a row opened: of each element what its reading tells -/
theorem row_of {α : Type} (D : Kd α) (Pz : α → Prop) {t e : TypeId} {b : Nat} (ht : Try.prog.underlying t = some (.slice e)) (hsz : Try.prog.cellsOf e = D.sz) (hby : Try.prog.bytesOf e = b)
    (hK : ∀ n cs y, DataW.trod enc Try.prog W base spare held n e cs = some y → (∀ q ∈ y.1.weights Try.prog e, q ≤ reachBytes) → ∃ a, D.K W a cs ∧ Pz a)
    {fuel : Nat} {cs : List Value} {x : DataW H × List MemPlace} (h : DataW.trod enc Try.prog W base spare held fuel t cs = some x) (hz : ∀ q ∈ x.1.weights Try.prog t, q ≤ reachBytes) :
    ∃ A c xs, cs = [.slice A xs.length c] ∧ xs.length ≤ c ∧ D.C W A xs.length xs ∧ xs.length * b ≤ reachBytes ∧ ∀ a ∈ xs, Pz a := by
  rcases open_slice ht h with ⟨hc, hx⟩ | ⟨ad, n, c, m, k, Dt, Pl, hc, _, hl, hm0, hm, hx, hi⟩
  · exact ⟨none, 0, [], hc, Nat.zero_le _, Kd.C_nil D W, by simp, fun a ha => by cases ha⟩
  · have hnm : n ≤ m := by split at hm <;> omega
    have hd : x.1 = .slice ((List.range n).map Dt) ((List.range (m - n)).map fun j => Dt (n + j)) := by rw [hx]
    have hall : ∀ i, i < n → ∃ a : α, (∃ cs', cs'.length = D.sz ∧ D.K W a cs' ∧ ∀ j u, cs'[j]? = some u → W.cell? (ad.add (i * D.sz + j)) = some u) ∧ Pz a := by
      intro i hin
      obtain ⟨cs', hcs, htr⟩ := hi i (by omega)
      obtain ⟨a, ha, hp⟩ := hK k cs' _ htr (fun q hq => hz q (by
        rw [hd]
        simp only [DataW.weights, ht]
        exact List.mem_cons_of_mem _ (List.mem_append_left _ (in_all (d := Dt i) (List.mem_map.2 ⟨i, List.mem_range.2 hin, rfl⟩) q hq))))
      obtain ⟨_, hcl, hat⟩ := World.cells?_some hcs
      refine ⟨a, ⟨cs', D.K_len ha, ha, fun j u hu => ?_⟩, hp⟩
      have hj : j < cs'.length := (List.getElem?_eq_some_iff.1 hu).1
      have := hat j (by omega)
      rw [hu, Go.Deep.add_add, hsz] at this
      exact this
    obtain ⟨xs, hxl, hx2⟩ := pick _ n hall
    subst hxl
    refine ⟨some ad, c, xs, hc, hl, ⟨rfl, by simp only [maxLen] at hm0; omega, fun _ => ⟨ad, rfl, fun j p hj => ?_⟩⟩, ?_, fun q hq => ?_⟩
    · obtain ⟨cs', h1, h2, h3⟩ := (hx2 j p hj).1
      exact ⟨cs', h1, h2, h3⟩
    · have := hz ((((List.range xs.length).map Dt).length + ((List.range (m - xs.length)).map fun j => Dt (xs.length + j)).length) * Try.prog.bytesOf e) (by rw [hd]; simp only [DataW.weights, ht]; exact List.mem_cons_self)
      rw [hby] at this
      simp only [List.length_map, List.length_range] at this
      exact Nat.le_trans (Nat.mul_le_mul_right b (Nat.le_add_right _ _)) this
    · obtain ⟨j, hj, rfl⟩ := List.getElem_of_mem hq
      exact (hx2 j xs[j] (List.getElem?_eq_getElem hj)).2
theorem k63_of {fuel : Nat} {cs : List Value} {y : DataW H × List MemPlace} (h : DataW.trod enc Try.prog W base spare held fuel 63 cs = some y) : ∃ a, k63.K W a cs := by
  obtain ⟨xs, n, _, hx, hlen, hxl, hf⟩ := DataW.trod_struct Try.underlying63 h
  rw [show Try.prog.cellsOf 63 = 2 by kernel_rfl] at hlen
  obtain ⟨u0, u1, rfl⟩ : ∃ u0 u1, cs = [u0, u1] := by
    match cs, hlen with
    | [u0, u1], _ => exact ⟨u0, u1, rfl⟩
  have hxl2 : xs.length = 2 := hxl
  have f0 : DataW.trod enc Try.prog W base spare held n 3 (([u0, u1].drop 0).take (Try.prog.cellsOf 3)) = xs[0]? := hf 0 _ rfl
  rw [show Try.prog.cellsOf 3 = 1 by kernel_rfl, List.getElem?_eq_getElem (show 0 < xs.length by omega)] at f0
  replace f0 : DataW.trod enc Try.prog W base spare held n 3 [u0] = some xs[0] := f0
  have f1 : DataW.trod enc Try.prog W base spare held n 3 (([u0, u1].drop 1).take (Try.prog.cellsOf 3)) = xs[1]? := hf 1 _ rfl
  rw [show Try.prog.cellsOf 3 = 1 by kernel_rfl, List.getElem?_eq_getElem (show 1 < xs.length by omega)] at f1
  replace f1 : DataW.trod enc Try.prog W base spare held n 3 [u1] = some xs[1] := f1
  obtain ⟨z0, e0, _, _⟩ := DataW.trod_int Try.underlying3 f0
  cases e0
  obtain ⟨z1, e1, _, _⟩ := DataW.trod_int Try.underlying3 f1
  cases e1
  exact ⟨⟨z0, z1⟩, k63_mk W ⟨z0, z1⟩⟩
theorem k73_of {fuel : Nat} {cs : List Value} {y : DataW H × List MemPlace} (h : DataW.trod enc Try.prog W base spare held fuel 73 cs = some y) : ∃ a, k73.K W a cs := by
  obtain ⟨xs, n, _, hx, hlen, hxl, hf⟩ := DataW.trod_struct Try.underlying73 h
  rw [show Try.prog.cellsOf 73 = 4 by kernel_rfl] at hlen
  obtain ⟨u0, u1, u2, u3, rfl⟩ : ∃ u0 u1 u2 u3, cs = [u0, u1, u2, u3] := by
    match cs, hlen with
    | [u0, u1, u2, u3], _ => exact ⟨u0, u1, u2, u3, rfl⟩
  have hxl2 : xs.length = 3 := hxl
  have f0 : DataW.trod enc Try.prog W base spare held n 9 (([u0, u1, u2, u3].drop 0).take (Try.prog.cellsOf 9)) = xs[0]? := hf 0 _ rfl
  rw [show Try.prog.cellsOf 9 = 1 by kernel_rfl, List.getElem?_eq_getElem (show 0 < xs.length by omega)] at f0
  replace f0 : DataW.trod enc Try.prog W base spare held n 9 [u0] = some xs[0] := f0
  have f1 : DataW.trod enc Try.prog W base spare held n 63 (([u0, u1, u2, u3].drop 1).take (Try.prog.cellsOf 63)) = xs[1]? := hf 1 _ rfl
  rw [show Try.prog.cellsOf 63 = 2 by kernel_rfl, List.getElem?_eq_getElem (show 1 < xs.length by omega)] at f1
  replace f1 : DataW.trod enc Try.prog W base spare held n 63 [u1, u2] = some xs[1] := f1
  have f2 : DataW.trod enc Try.prog W base spare held n 3 (([u0, u1, u2, u3].drop 3).take (Try.prog.cellsOf 3)) = xs[2]? := hf 2 _ rfl
  rw [show Try.prog.cellsOf 3 = 1 by kernel_rfl, List.getElem?_eq_getElem (show 2 < xs.length by omega)] at f2
  replace f2 : DataW.trod enc Try.prog W base spare held n 3 [u3] = some xs[2] := f2
  obtain ⟨z0, e0, _, _⟩ := DataW.trod_string Try.underlying9 f0
  cases e0
  obtain ⟨z1, hz1⟩ := k63_of f1
  have e1 := k63_open hz1
  cases e1
  obtain ⟨z2, e2, _, _⟩ := DataW.trod_int Try.underlying3 f2
  cases e2
  exact ⟨⟨z0, z1, z2⟩, k73_mk W ⟨z0, z1, z2⟩⟩
theorem k76_of {fuel : Nat} {cs : List Value} {y : DataW H × List MemPlace} (h : DataW.trod enc Try.prog W base spare held fuel 76 cs = some y) : ∃ a, k76.K W a cs := by
  obtain ⟨xs, n, _, hx, hlen, hxl, hf⟩ := DataW.trod_struct Try.underlying76 h
  rw [show Try.prog.cellsOf 76 = 6 by kernel_rfl] at hlen
  obtain ⟨u0, u1, u2, u3, u4, u5, rfl⟩ : ∃ u0 u1 u2 u3 u4 u5, cs = [u0, u1, u2, u3, u4, u5] := by
    match cs, hlen with
    | [u0, u1, u2, u3, u4, u5], _ => exact ⟨u0, u1, u2, u3, u4, u5, rfl⟩
  have hxl2 : xs.length = 5 := hxl
  have f0 : DataW.trod enc Try.prog W base spare held n 9 (([u0, u1, u2, u3, u4, u5].drop 0).take (Try.prog.cellsOf 9)) = xs[0]? := hf 0 _ rfl
  rw [show Try.prog.cellsOf 9 = 1 by kernel_rfl, List.getElem?_eq_getElem (show 0 < xs.length by omega)] at f0
  replace f0 : DataW.trod enc Try.prog W base spare held n 9 [u0] = some xs[0] := f0
  have f1 : DataW.trod enc Try.prog W base spare held n 9 (([u0, u1, u2, u3, u4, u5].drop 1).take (Try.prog.cellsOf 9)) = xs[1]? := hf 1 _ rfl
  rw [show Try.prog.cellsOf 9 = 1 by kernel_rfl, List.getElem?_eq_getElem (show 1 < xs.length by omega)] at f1
  replace f1 : DataW.trod enc Try.prog W base spare held n 9 [u1] = some xs[1] := f1
  have f2 : DataW.trod enc Try.prog W base spare held n 4 (([u0, u1, u2, u3, u4, u5].drop 2).take (Try.prog.cellsOf 4)) = xs[2]? := hf 2 _ rfl
  rw [show Try.prog.cellsOf 4 = 1 by kernel_rfl, List.getElem?_eq_getElem (show 2 < xs.length by omega)] at f2
  replace f2 : DataW.trod enc Try.prog W base spare held n 4 [u2] = some xs[2] := f2
  have f3 : DataW.trod enc Try.prog W base spare held n 3 (([u0, u1, u2, u3, u4, u5].drop 3).take (Try.prog.cellsOf 3)) = xs[3]? := hf 3 _ rfl
  rw [show Try.prog.cellsOf 3 = 1 by kernel_rfl, List.getElem?_eq_getElem (show 3 < xs.length by omega)] at f3
  replace f3 : DataW.trod enc Try.prog W base spare held n 3 [u3] = some xs[3] := f3
  have f4 : DataW.trod enc Try.prog W base spare held n 63 (([u0, u1, u2, u3, u4, u5].drop 4).take (Try.prog.cellsOf 63)) = xs[4]? := hf 4 _ rfl
  rw [show Try.prog.cellsOf 63 = 2 by kernel_rfl, List.getElem?_eq_getElem (show 4 < xs.length by omega)] at f4
  replace f4 : DataW.trod enc Try.prog W base spare held n 63 [u4, u5] = some xs[4] := f4
  obtain ⟨z0, e0, _, _⟩ := DataW.trod_string Try.underlying9 f0
  cases e0
  obtain ⟨z1, e1, _, _⟩ := DataW.trod_string Try.underlying9 f1
  cases e1
  obtain ⟨z2, e2, _⟩ := DataW.trod_bool Try.underlying4 f2
  cases e2
  obtain ⟨z3, e3, _, _⟩ := DataW.trod_int Try.underlying3 f3
  cases e3
  obtain ⟨z4, hz4⟩ := k63_of f4
  have e4 := k63_open hz4
  cases e4
  exact ⟨⟨z0, z1, z2, z3, z4⟩, k76_mk W ⟨z0, z1, z2, z3, z4⟩⟩
theorem k79_of {fuel : Nat} {cs : List Value} {y : DataW H × List MemPlace} (h : DataW.trod enc Try.prog W base spare held fuel 79 cs = some y) : ∃ a, k79.K W a cs := by
  obtain ⟨xs, n, _, hx, hlen, hxl, hf⟩ := DataW.trod_struct Try.underlying79 h
  rw [show Try.prog.cellsOf 79 = 5 by kernel_rfl] at hlen
  obtain ⟨u0, u1, u2, u3, u4, rfl⟩ : ∃ u0 u1 u2 u3 u4, cs = [u0, u1, u2, u3, u4] := by
    match cs, hlen with
    | [u0, u1, u2, u3, u4], _ => exact ⟨u0, u1, u2, u3, u4, rfl⟩
  have hxl2 : xs.length = 4 := hxl
  have f0 : DataW.trod enc Try.prog W base spare held n 9 (([u0, u1, u2, u3, u4].drop 0).take (Try.prog.cellsOf 9)) = xs[0]? := hf 0 _ rfl
  rw [show Try.prog.cellsOf 9 = 1 by kernel_rfl, List.getElem?_eq_getElem (show 0 < xs.length by omega)] at f0
  replace f0 : DataW.trod enc Try.prog W base spare held n 9 [u0] = some xs[0] := f0
  have f1 : DataW.trod enc Try.prog W base spare held n 9 (([u0, u1, u2, u3, u4].drop 1).take (Try.prog.cellsOf 9)) = xs[1]? := hf 1 _ rfl
  rw [show Try.prog.cellsOf 9 = 1 by kernel_rfl, List.getElem?_eq_getElem (show 1 < xs.length by omega)] at f1
  replace f1 : DataW.trod enc Try.prog W base spare held n 9 [u1] = some xs[1] := f1
  have f2 : DataW.trod enc Try.prog W base spare held n 4 (([u0, u1, u2, u3, u4].drop 2).take (Try.prog.cellsOf 4)) = xs[2]? := hf 2 _ rfl
  rw [show Try.prog.cellsOf 4 = 1 by kernel_rfl, List.getElem?_eq_getElem (show 2 < xs.length by omega)] at f2
  replace f2 : DataW.trod enc Try.prog W base spare held n 4 [u2] = some xs[2] := f2
  have f3 : DataW.trod enc Try.prog W base spare held n 63 (([u0, u1, u2, u3, u4].drop 3).take (Try.prog.cellsOf 63)) = xs[3]? := hf 3 _ rfl
  rw [show Try.prog.cellsOf 63 = 2 by kernel_rfl, List.getElem?_eq_getElem (show 3 < xs.length by omega)] at f3
  replace f3 : DataW.trod enc Try.prog W base spare held n 63 [u3, u4] = some xs[3] := f3
  obtain ⟨z0, e0, _, _⟩ := DataW.trod_string Try.underlying9 f0
  cases e0
  obtain ⟨z1, e1, _, _⟩ := DataW.trod_string Try.underlying9 f1
  cases e1
  obtain ⟨z2, e2, _⟩ := DataW.trod_bool Try.underlying4 f2
  cases e2
  obtain ⟨z3, hz3⟩ := k63_of f3
  have e3 := k63_open hz3
  cases e3
  exact ⟨⟨z0, z1, z2, z3⟩, k79_mk W ⟨z0, z1, z2, z3⟩⟩
theorem k82_of {fuel : Nat} {cs : List Value} {y : DataW H × List MemPlace} (h : DataW.trod enc Try.prog W base spare held fuel 82 cs = some y) : ∃ a, k82.K W a cs := by
  obtain ⟨xs, n, _, hx, hlen, hxl, hf⟩ := DataW.trod_struct Try.underlying82 h
  rw [show Try.prog.cellsOf 82 = 6 by kernel_rfl] at hlen
  obtain ⟨u0, u1, u2, u3, u4, u5, rfl⟩ : ∃ u0 u1 u2 u3 u4 u5, cs = [u0, u1, u2, u3, u4, u5] := by
    match cs, hlen with
    | [u0, u1, u2, u3, u4, u5], _ => exact ⟨u0, u1, u2, u3, u4, u5, rfl⟩
  have hxl2 : xs.length = 5 := hxl
  have f0 : DataW.trod enc Try.prog W base spare held n 63 (([u0, u1, u2, u3, u4, u5].drop 0).take (Try.prog.cellsOf 63)) = xs[0]? := hf 0 _ rfl
  rw [show Try.prog.cellsOf 63 = 2 by kernel_rfl, List.getElem?_eq_getElem (show 0 < xs.length by omega)] at f0
  replace f0 : DataW.trod enc Try.prog W base spare held n 63 [u0, u1] = some xs[0] := f0
  have f1 : DataW.trod enc Try.prog W base spare held n 3 (([u0, u1, u2, u3, u4, u5].drop 2).take (Try.prog.cellsOf 3)) = xs[1]? := hf 1 _ rfl
  rw [show Try.prog.cellsOf 3 = 1 by kernel_rfl, List.getElem?_eq_getElem (show 1 < xs.length by omega)] at f1
  replace f1 : DataW.trod enc Try.prog W base spare held n 3 [u2] = some xs[1] := f1
  have f2 : DataW.trod enc Try.prog W base spare held n 3 (([u0, u1, u2, u3, u4, u5].drop 3).take (Try.prog.cellsOf 3)) = xs[2]? := hf 2 _ rfl
  rw [show Try.prog.cellsOf 3 = 1 by kernel_rfl, List.getElem?_eq_getElem (show 2 < xs.length by omega)] at f2
  replace f2 : DataW.trod enc Try.prog W base spare held n 3 [u3] = some xs[2] := f2
  have f3 : DataW.trod enc Try.prog W base spare held n 4 (([u0, u1, u2, u3, u4, u5].drop 4).take (Try.prog.cellsOf 4)) = xs[3]? := hf 3 _ rfl
  rw [show Try.prog.cellsOf 4 = 1 by kernel_rfl, List.getElem?_eq_getElem (show 3 < xs.length by omega)] at f3
  replace f3 : DataW.trod enc Try.prog W base spare held n 4 [u4] = some xs[3] := f3
  have f4 : DataW.trod enc Try.prog W base spare held n 3 (([u0, u1, u2, u3, u4, u5].drop 5).take (Try.prog.cellsOf 3)) = xs[4]? := hf 4 _ rfl
  rw [show Try.prog.cellsOf 3 = 1 by kernel_rfl, List.getElem?_eq_getElem (show 4 < xs.length by omega)] at f4
  replace f4 : DataW.trod enc Try.prog W base spare held n 3 [u5] = some xs[4] := f4
  obtain ⟨z0, hz0⟩ := k63_of f0
  have e0 := k63_open hz0
  cases e0
  obtain ⟨z1, e1, _, _⟩ := DataW.trod_int Try.underlying3 f1
  cases e1
  obtain ⟨z2, e2, _, _⟩ := DataW.trod_int Try.underlying3 f2
  cases e2
  obtain ⟨z3, e3, _⟩ := DataW.trod_bool Try.underlying4 f3
  cases e3
  obtain ⟨z4, e4, _, _⟩ := DataW.trod_int Try.underlying3 f4
  cases e4
  exact ⟨⟨z0, z1, z2, z3, z4⟩, k82_mk W ⟨z0, z1, z2, z3, z4⟩⟩
theorem k69_of {fuel : Nat} {cs : List Value} {y : DataW H × List MemPlace} (h : DataW.trod enc Try.prog W base spare held fuel 69 cs = some y) : ∃ a, k69.K W a cs := by
  obtain ⟨xs, n, _, hx, hlen, hxl, hf⟩ := DataW.trod_struct Try.underlying69 h
  rw [show Try.prog.cellsOf 69 = 3 by kernel_rfl] at hlen
  obtain ⟨u0, u1, u2, rfl⟩ : ∃ u0 u1 u2, cs = [u0, u1, u2] := by
    match cs, hlen with
    | [u0, u1, u2], _ => exact ⟨u0, u1, u2, rfl⟩
  have hxl2 : xs.length = 3 := hxl
  have f0 : DataW.trod enc Try.prog W base spare held n 9 (([u0, u1, u2].drop 0).take (Try.prog.cellsOf 9)) = xs[0]? := hf 0 _ rfl
  rw [show Try.prog.cellsOf 9 = 1 by kernel_rfl, List.getElem?_eq_getElem (show 0 < xs.length by omega)] at f0
  replace f0 : DataW.trod enc Try.prog W base spare held n 9 [u0] = some xs[0] := f0
  have f1 : DataW.trod enc Try.prog W base spare held n 9 (([u0, u1, u2].drop 1).take (Try.prog.cellsOf 9)) = xs[1]? := hf 1 _ rfl
  rw [show Try.prog.cellsOf 9 = 1 by kernel_rfl, List.getElem?_eq_getElem (show 1 < xs.length by omega)] at f1
  replace f1 : DataW.trod enc Try.prog W base spare held n 9 [u1] = some xs[1] := f1
  have f2 : DataW.trod enc Try.prog W base spare held n 4 (([u0, u1, u2].drop 2).take (Try.prog.cellsOf 4)) = xs[2]? := hf 2 _ rfl
  rw [show Try.prog.cellsOf 4 = 1 by kernel_rfl, List.getElem?_eq_getElem (show 2 < xs.length by omega)] at f2
  replace f2 : DataW.trod enc Try.prog W base spare held n 4 [u2] = some xs[2] := f2
  obtain ⟨z0, e0, _, _⟩ := DataW.trod_string Try.underlying9 f0
  cases e0
  obtain ⟨z1, e1, _, _⟩ := DataW.trod_string Try.underlying9 f1
  cases e1
  obtain ⟨z2, e2, _⟩ := DataW.trod_bool Try.underlying4 f2
  cases e2
  exact ⟨⟨z0, z1, z2⟩, k69_mk W ⟨z0, z1, z2⟩⟩
theorem k66_of {fuel : Nat} {cs : List Value} {y : DataW H × List MemPlace} (h : DataW.trod enc Try.prog W base spare held fuel 66 cs = some y) (hz : ∀ q ∈ y.1.weights Try.prog 66, q ≤ reachBytes) : ∃ a, k66.K W a cs ∧ RecFits 140737488355328 a := by
  obtain ⟨xs, n, _, hx, hlen, hxl, hf⟩ := DataW.trod_struct Try.underlying66 h
  rw [show Try.prog.cellsOf 66 = 8 by kernel_rfl] at hlen
  obtain ⟨u0, u1, u2, u3, u4, u5, u6, u7, rfl⟩ : ∃ u0 u1 u2 u3 u4 u5 u6 u7, cs = [u0, u1, u2, u3, u4, u5, u6, u7] := by
    match cs, hlen with
    | [u0, u1, u2, u3, u4, u5, u6, u7], _ => exact ⟨u0, u1, u2, u3, u4, u5, u6, u7, rfl⟩
  have hxl2 : xs.length = 7 := hxl
  have f0 : DataW.trod enc Try.prog W base spare held n 63 (([u0, u1, u2, u3, u4, u5, u6, u7].drop 0).take (Try.prog.cellsOf 63)) = xs[0]? := hf 0 _ rfl
  rw [show Try.prog.cellsOf 63 = 2 by kernel_rfl, List.getElem?_eq_getElem (show 0 < xs.length by omega)] at f0
  replace f0 : DataW.trod enc Try.prog W base spare held n 63 [u0, u1] = some xs[0] := f0
  have f1 : DataW.trod enc Try.prog W base spare held n 47 (([u0, u1, u2, u3, u4, u5, u6, u7].drop 2).take (Try.prog.cellsOf 47)) = xs[1]? := hf 1 _ rfl
  rw [show Try.prog.cellsOf 47 = 1 by kernel_rfl, List.getElem?_eq_getElem (show 1 < xs.length by omega)] at f1
  replace f1 : DataW.trod enc Try.prog W base spare held n 47 [u2] = some xs[1] := f1
  have f2 : DataW.trod enc Try.prog W base spare held n 64 (([u0, u1, u2, u3, u4, u5, u6, u7].drop 3).take (Try.prog.cellsOf 64)) = xs[2]? := hf 2 _ rfl
  rw [show Try.prog.cellsOf 64 = 1 by kernel_rfl, List.getElem?_eq_getElem (show 2 < xs.length by omega)] at f2
  replace f2 : DataW.trod enc Try.prog W base spare held n 64 [u3] = some xs[2] := f2
  have f3 : DataW.trod enc Try.prog W base spare held n 3 (([u0, u1, u2, u3, u4, u5, u6, u7].drop 4).take (Try.prog.cellsOf 3)) = xs[3]? := hf 3 _ rfl
  rw [show Try.prog.cellsOf 3 = 1 by kernel_rfl, List.getElem?_eq_getElem (show 3 < xs.length by omega)] at f3
  replace f3 : DataW.trod enc Try.prog W base spare held n 3 [u4] = some xs[3] := f3
  have f4 : DataW.trod enc Try.prog W base spare held n 3 (([u0, u1, u2, u3, u4, u5, u6, u7].drop 5).take (Try.prog.cellsOf 3)) = xs[4]? := hf 4 _ rfl
  rw [show Try.prog.cellsOf 3 = 1 by kernel_rfl, List.getElem?_eq_getElem (show 4 < xs.length by omega)] at f4
  replace f4 : DataW.trod enc Try.prog W base spare held n 3 [u5] = some xs[4] := f4
  have f5 : DataW.trod enc Try.prog W base spare held n 35 (([u0, u1, u2, u3, u4, u5, u6, u7].drop 6).take (Try.prog.cellsOf 35)) = xs[5]? := hf 5 _ rfl
  rw [show Try.prog.cellsOf 35 = 1 by kernel_rfl, List.getElem?_eq_getElem (show 5 < xs.length by omega)] at f5
  replace f5 : DataW.trod enc Try.prog W base spare held n 35 [u6] = some xs[5] := f5
  have f6 : DataW.trod enc Try.prog W base spare held n 47 (([u0, u1, u2, u3, u4, u5, u6, u7].drop 7).take (Try.prog.cellsOf 47)) = xs[6]? := hf 6 _ rfl
  rw [show Try.prog.cellsOf 47 = 1 by kernel_rfl, List.getElem?_eq_getElem (show 6 < xs.length by omega)] at f6
  replace f6 : DataW.trod enc Try.prog W base spare held n 47 [u7] = some xs[6] := f6
  obtain ⟨z0, hz0⟩ := k63_of f0
  have e0 := k63_open hz0
  cases e0
  obtain ⟨A1, c1, z1, e1, n1, g1, w1, _⟩ := row_of (Kd.int .i64) (fun _ => True) Try.underlying47 (b := 8) (by kernel_rfl) (by kernel_rfl) (fun n cs y hh _ => by obtain ⟨z, ez, _, _⟩ := DataW.trod_int Try.underlying3 hh; exact ⟨z, ez, trivial⟩) f1 (fun q hq => hz q (by
    have hy : y.1 = .agg (xs.map (·.1)) := by rw [hx]
    rw [hy]
    simp only [DataW.weights, Try.underlying66]
    exact DataW.weights_mem_each (j := 1) rfl (by rw [List.getElem?_map, List.getElem?_eq_getElem (show 1 < xs.length by omega)]; rfl) q hq))
  cases e1
  obtain ⟨A2, c2, z2, e2, n2, g2, w2, _⟩ := row_of k69 (fun _ => True) Try.underlying64 (b := 40) (by kernel_rfl) (by kernel_rfl) (fun n cs y hh _ => by obtain ⟨z, hz⟩ := k69_of hh; exact ⟨z, hz, trivial⟩) f2 (fun q hq => hz q (by
    have hy : y.1 = .agg (xs.map (·.1)) := by rw [hx]
    rw [hy]
    simp only [DataW.weights, Try.underlying66]
    exact DataW.weights_mem_each (j := 2) rfl (by rw [List.getElem?_map, List.getElem?_eq_getElem (show 2 < xs.length by omega)]; rfl) q hq))
  cases e2
  obtain ⟨z3, e3, _, _⟩ := DataW.trod_int Try.underlying3 f3
  cases e3
  obtain ⟨z4, e4, _, _⟩ := DataW.trod_int Try.underlying3 f4
  cases e4
  obtain ⟨z5, e5, _, _⟩ := DataW.trod_int Try.underlying35 f5
  cases e5
  obtain ⟨A6, c6, z6, e6, n6, g6, w6, _⟩ := row_of (Kd.int .i64) (fun _ => True) Try.underlying47 (b := 8) (by kernel_rfl) (by kernel_rfl) (fun n cs y hh _ => by obtain ⟨z, ez, _, _⟩ := DataW.trod_int Try.underlying3 hh; exact ⟨z, ez, trivial⟩) f6 (fun q hq => hz q (by
    have hy : y.1 = .agg (xs.map (·.1)) := by rw [hx]
    rw [hy]
    simp only [DataW.weights, Try.underlying66]
    exact DataW.weights_mem_each (j := 6) rfl (by rw [List.getElem?_map, List.getElem?_eq_getElem (show 6 < xs.length by omega)]; rfl) q hq))
  cases e6
  simp only [reachBytes] at w1 w2 w6
  exact ⟨⟨z0, z1, z2, z3, z4, z5, z6⟩, k66_mk W ⟨z0, z1, z2, z3, z4, z5, z6⟩ n1 g1 n2 g2 n6 g6, ⟨by show z1.length ≤ _; omega, by show z2.length ≤ _; omega, by show z6.length ≤ _; omega, by show z1.length < _; omega, by show z2.length < _; omega, by show z6.length < _; omega⟩⟩
theorem open_fold {v : Value} {d : DataW H} {ps : List MemPlace} (hval : Value.okWide Try.prog W .any base 28 v) (h : DataW.Trod enc Try.prog W 0 spare held 28 v d ps) (hz : ∀ q ∈ d.weights Try.prog 28, q ≤ reachBytes) :
    ∃ (f : FoldV) (A1 A2 A3 A4 A5 A6 : Option Addr) (c1 c2 c3 c4 c5 c6 : Nat), v = .agg #[.int .i64 f.c, .slice A1 f.l1.length c1, .slice A2 f.l2.length c2, .slice A3 f.l3.length c3, .slice A4 f.l4.length c4, .slice A5 f.l5.length c5, .slice A6 f.l6.length c6] ∧ FoldIn W f A1 A2 A3 A4 A5 A6 c1 c2 c3 c4 c5 c6 ∧ FoldFits 140737488355328 f := by
  obtain ⟨cs, rfl, hsize⟩ := okWide_struct Try.underlying28 hval
  obtain ⟨fuel, h⟩ := h
  obtain ⟨xs, n, _, hx, hlen, hxl, hf⟩ := DataW.trod_struct Try.underlying28 h
  rw [show Try.prog.cellsOf 28 = 7 by kernel_rfl] at hlen
  obtain ⟨l⟩ := cs
  have hlen2 : l.length = 7 := by simpa [Value.cells] using hlen
  obtain ⟨u0, u1, u2, u3, u4, u5, u6, rfl⟩ : ∃ u0 u1 u2 u3 u4 u5 u6, l = [u0, u1, u2, u3, u4, u5, u6] := by
    match l, hlen2 with
    | [u0, u1, u2, u3, u4, u5, u6], _ => exact ⟨u0, u1, u2, u3, u4, u5, u6, rfl⟩
  have hxl2 : xs.length = 7 := hxl
  have hd : d = .agg (xs.map (·.1)) := by cases hx; rfl
  have f0 : DataW.trod enc Try.prog W 0 spare held n 3 (((Value.agg #[u0, u1, u2, u3, u4, u5, u6]).cells.toList.drop 0).take (Try.prog.cellsOf 3)) = xs[0]? := hf 0 _ rfl
  rw [show Try.prog.cellsOf 3 = 1 by kernel_rfl, List.getElem?_eq_getElem (show 0 < xs.length by omega)] at f0
  replace f0 : DataW.trod enc Try.prog W 0 spare held n 3 [u0] = some xs[0] := f0
  have f1 : DataW.trod enc Try.prog W 0 spare held n 22 (((Value.agg #[u0, u1, u2, u3, u4, u5, u6]).cells.toList.drop 1).take (Try.prog.cellsOf 22)) = xs[1]? := hf 1 _ rfl
  rw [show Try.prog.cellsOf 22 = 1 by kernel_rfl, List.getElem?_eq_getElem (show 1 < xs.length by omega)] at f1
  replace f1 : DataW.trod enc Try.prog W 0 spare held n 22 [u1] = some xs[1] := f1
  have f2 : DataW.trod enc Try.prog W 0 spare held n 22 (((Value.agg #[u0, u1, u2, u3, u4, u5, u6]).cells.toList.drop 2).take (Try.prog.cellsOf 22)) = xs[2]? := hf 2 _ rfl
  rw [show Try.prog.cellsOf 22 = 1 by kernel_rfl, List.getElem?_eq_getElem (show 2 < xs.length by omega)] at f2
  replace f2 : DataW.trod enc Try.prog W 0 spare held n 22 [u2] = some xs[2] := f2
  have f3 : DataW.trod enc Try.prog W 0 spare held n 23 (((Value.agg #[u0, u1, u2, u3, u4, u5, u6]).cells.toList.drop 3).take (Try.prog.cellsOf 23)) = xs[3]? := hf 3 _ rfl
  rw [show Try.prog.cellsOf 23 = 1 by kernel_rfl, List.getElem?_eq_getElem (show 3 < xs.length by omega)] at f3
  replace f3 : DataW.trod enc Try.prog W 0 spare held n 23 [u3] = some xs[3] := f3
  have f4 : DataW.trod enc Try.prog W 0 spare held n 24 (((Value.agg #[u0, u1, u2, u3, u4, u5, u6]).cells.toList.drop 4).take (Try.prog.cellsOf 24)) = xs[4]? := hf 4 _ rfl
  rw [show Try.prog.cellsOf 24 = 1 by kernel_rfl, List.getElem?_eq_getElem (show 4 < xs.length by omega)] at f4
  replace f4 : DataW.trod enc Try.prog W 0 spare held n 24 [u4] = some xs[4] := f4
  have f5 : DataW.trod enc Try.prog W 0 spare held n 25 (((Value.agg #[u0, u1, u2, u3, u4, u5, u6]).cells.toList.drop 5).take (Try.prog.cellsOf 25)) = xs[5]? := hf 5 _ rfl
  rw [show Try.prog.cellsOf 25 = 1 by kernel_rfl, List.getElem?_eq_getElem (show 5 < xs.length by omega)] at f5
  replace f5 : DataW.trod enc Try.prog W 0 spare held n 25 [u5] = some xs[5] := f5
  have f6 : DataW.trod enc Try.prog W 0 spare held n 26 (((Value.agg #[u0, u1, u2, u3, u4, u5, u6]).cells.toList.drop 6).take (Try.prog.cellsOf 26)) = xs[6]? := hf 6 _ rfl
  rw [show Try.prog.cellsOf 26 = 1 by kernel_rfl, List.getElem?_eq_getElem (show 6 < xs.length by omega)] at f6
  replace f6 : DataW.trod enc Try.prog W 0 spare held n 26 [u6] = some xs[6] := f6
  obtain ⟨z0, e0, _, _⟩ := DataW.trod_int Try.underlying3 f0
  cases e0
  obtain ⟨A1, c1, z1, e1, n1, g1, w1, r1⟩ := row_of k73 (fun _ => True) Try.underlying22 (b := 40) (by kernel_rfl) (by kernel_rfl) (fun n cs y hh _ => by obtain ⟨z, hz⟩ := k73_of hh; exact ⟨z, hz, trivial⟩) f1 (fun q hq => hz q (by
    rw [hd]
    simp only [DataW.weights, Try.underlying28]
    exact DataW.weights_mem_each (j := 1) rfl (by rw [List.getElem?_map, List.getElem?_eq_getElem (show 1 < xs.length by omega)]; rfl) q hq))
  cases e1
  obtain ⟨A2, c2, z2, e2, n2, g2, w2, r2⟩ := row_of k73 (fun _ => True) Try.underlying22 (b := 40) (by kernel_rfl) (by kernel_rfl) (fun n cs y hh _ => by obtain ⟨z, hz⟩ := k73_of hh; exact ⟨z, hz, trivial⟩) f2 (fun q hq => hz q (by
    rw [hd]
    simp only [DataW.weights, Try.underlying28]
    exact DataW.weights_mem_each (j := 2) rfl (by rw [List.getElem?_map, List.getElem?_eq_getElem (show 2 < xs.length by omega)]; rfl) q hq))
  cases e2
  obtain ⟨A3, c3, z3, e3, n3, g3, w3, r3⟩ := row_of k76 (fun _ => True) Try.underlying23 (b := 64) (by kernel_rfl) (by kernel_rfl) (fun n cs y hh _ => by obtain ⟨z, hz⟩ := k76_of hh; exact ⟨z, hz, trivial⟩) f3 (fun q hq => hz q (by
    rw [hd]
    simp only [DataW.weights, Try.underlying28]
    exact DataW.weights_mem_each (j := 3) rfl (by rw [List.getElem?_map, List.getElem?_eq_getElem (show 3 < xs.length by omega)]; rfl) q hq))
  cases e3
  obtain ⟨A4, c4, z4, e4, n4, g4, w4, r4⟩ := row_of k79 (fun _ => True) Try.underlying24 (b := 56) (by kernel_rfl) (by kernel_rfl) (fun n cs y hh _ => by obtain ⟨z, hz⟩ := k79_of hh; exact ⟨z, hz, trivial⟩) f4 (fun q hq => hz q (by
    rw [hd]
    simp only [DataW.weights, Try.underlying28]
    exact DataW.weights_mem_each (j := 4) rfl (by rw [List.getElem?_map, List.getElem?_eq_getElem (show 4 < xs.length by omega)]; rfl) q hq))
  cases e4
  obtain ⟨A5, c5, z5, e5, n5, g5, w5, r5⟩ := row_of k82 (fun _ => True) Try.underlying25 (b := 48) (by kernel_rfl) (by kernel_rfl) (fun n cs y hh _ => by obtain ⟨z, hz⟩ := k82_of hh; exact ⟨z, hz, trivial⟩) f5 (fun q hq => hz q (by
    rw [hd]
    simp only [DataW.weights, Try.underlying28]
    exact DataW.weights_mem_each (j := 5) rfl (by rw [List.getElem?_map, List.getElem?_eq_getElem (show 5 < xs.length by omega)]; rfl) q hq))
  cases e5
  obtain ⟨A6, c6, z6, e6, n6, g6, w6, r6⟩ := row_of k66 (RecFits 140737488355328) Try.underlying26 (b := 112) (by kernel_rfl) (by kernel_rfl) (fun n cs y hh hq => k66_of hh hq) f6 (fun q hq => hz q (by
    rw [hd]
    simp only [DataW.weights, Try.underlying28]
    exact DataW.weights_mem_each (j := 6) rfl (by rw [List.getElem?_map, List.getElem?_eq_getElem (show 6 < xs.length by omega)]; rfl) q hq))
  cases e6
  simp only [reachBytes] at w1 w2 w3 w4 w5 w6
  refine ⟨⟨z0, z1, z2, z3, z4, z5, z6⟩, A1, A2, A3, A4, A5, A6, c1, c2, c3, c4, c5, c6, rfl, ⟨g1, n1, g2, n2, g3, n3, g4, n4, g5, n5, g6, n6⟩, ⟨?_, ?_, ?_, ?_, ?_, ?_, ?_, ?_, ?_, ?_, ?_, ?_, by omega, r6⟩⟩
  · show z1.length < _; omega
  · show z2.length < _; omega
  · show z3.length < _; omega
  · show z4.length < _; omega
  · show z5.length < _; omega
  · show z6.length < _; omega
  · show z1.length ≤ _; omega
  · show z2.length ≤ _; omega
  · show z3.length ≤ _; omega
  · show z4.length ≤ _; omega
  · show z5.length ≤ _; omega
  · show z6.length ≤ _; omega
end
end Go.Proofs.Ytenfdankgjdfpaa.PSnapSame
