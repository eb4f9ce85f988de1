/- The library's sort at edges: what it leaves. (ahead of it: age.Sort of an empty slice that is not nil. Locks and intents at plain places. slices.IndexFunc and slices.DeleteFunc at bursar/api.Edge, walked (printed by wip/del_gen.py). Comparing strings and edges, walked. Comparing edges, walked. Orders by comparing: two comparisons one behind the other; numbers, strings, identities, edges. DERIVED: THE SHELF's CONTRACTS AT THIS DUMP, IN PLAIN WORDS (tools/lay-plain.mjs out of 'YtdepmcofnlggaaaRsShelf.lean', which tools/lay-shelf.mjs wrote): THE SAME DECLARATIONS UNDER THE SAME NAMES: 'import', 'namespace', 'open', 'def', 'theorem' AND NOTHING ELSE: no command of the shelf's: FOR A HAND-IN. Each laying: the table of numbers ('.._ren') and one theorem, a field a fact of the dump's own or the kernel's comparison; each contract: ONE APPLICATION.) -/
import Derived.Test.YtdepmcofnlggaaaPrE
import Derived.Test.YtdepmcofnlggaaaPrF
import Derived.BigQuiet
import Derived.Deep.RegionHeldLaw
import Derived.Deep.DrawnRows
import Derived.Lib.SlicesS
import Derived.Shelf.SlGeneric
import Derived.Shelf.SlSortCmp.WholeK
import Derived.Ground.SlsfProg
import Derived.Test.YtdepmcofnlggaaaProg
section
set_option linter.unusedVariables false
set_option linter.unusedSimpArgs false
attribute [local go_sem ↓] Go.wp_at_zero Go.wp_at_succ
namespace Go.Proofs.Ytdepmcofnlggaaa.PResolverCycles
open Go.RowKit Go.Proofs.YtdepmcofnlggaaaW.PrintWords Go.Proofs.YtdepmcofnlggaaaW.PrintLast Go.Proofs.YtdepmcofnlggaaaW.PrintMore
open Classical

theorem clone_empty (w : World) (g c : Nat) : Calls Try.prog 60 #[.slice (some ⟨g, 0, none⟩) 0 c] w fun e w' => e = .returned (.slice (some ⟨w.heap.size, 0, none⟩) 0 0) ∧ w' = w.alloc (.cells #[] 24) := by
  have heq := Lib.run_eql_slice_nil (P := Try.prog) w 27 24 (some ⟨g, 0, none⟩) 0 c 0 0 Try.underlying27
  go_enter Try.func60, Try.ntmps60
  go_wp2_with fail
  go_ret
  exact ⟨rfl, rfl⟩
theorem compact_empty (w : World) (a : Option Addr) (c : Nat) : Calls Try.prog 62 #[.slice a 0 c] w fun e w' => e = .returned (.slice a 0 c) ∧ w' = w := by
  go_enter Try.func62, Try.ntmps62
  go_wp2_with fail
  go_ret
  exact ⟨rfl, rfl⟩
theorem age_sort_empty (w : World) (g c : Nat) : Calls Try.prog 26 #[.slice (some ⟨g, 0, none⟩) 0 c] w fun e w' => ∃ a, e = .returned (.slice a 0 0) ∧ Below w.heap.size w w' := by
  have H1 := clone_empty w g c
  have hb := below_alloc (Below.refl w.heap.size w) (.cells #[] 24)
  have hS := fun W => AnyF.slices_SortFunc_none Try.sortId (some ⟨w.heap.size, 0, none⟩) 0 (.func (.func 24) #[] #[]) W
  have H2 : ∀ W, Calls Try.prog 61 #[.slice (some ⟨w.heap.size, 0, none⟩) 0 0, .func (.func 24) #[] #[]] W fun e w' => e = .returned (.tuple #[]) ∧ w' = W := hS
  have H3 := fun W => compact_empty W (some ⟨w.heap.size, 0, none⟩) 0
  clear hS
  go_enter Try.func26, Try.ntmps26
  go_upto_region 2 with (go_at_call 60; refine H1.mono ?_; rintro e w1 ⟨rfl, rfl⟩)
  go_upto_region 3 with (go_at_call 61; refine (H2 _).mono ?_; rintro e w2 ⟨rfl, rfl⟩)
  go_wp2_with (go_at_call 62; refine (H3 _).mono ?_; rintro e w3 ⟨rfl, rfl⟩)
  go_ret
  exact ⟨_, rfl, hb⟩
end Go.Proofs.Ytdepmcofnlggaaa.PResolverCycles
end
section
set_option linter.unusedVariables false
set_option linter.unusedSimpArgs false
namespace Go.Proofs.Ytdepmcofnlggaaa.PResolverCycles
open Go.RowKit Go.Proofs.YtdepmcofnlggaaaW.PrintWords Go.Proofs.YtdepmcofnlggaaaW.PrintLast Go.Proofs.YtdepmcofnlggaaaW.PrintMore
open Classical

theorem locks_plain {w : World} {A : Option Addr} {l : List S91} (h : Kd.C k91 w A l.length l) (hp : 0 < l.length) : ∃ G O, A = some ⟨G, O, none⟩ ∧ ∀ i (hi : i < l.length),
    w.cell? ⟨G, O + i * 4, none⟩ = some (.string l[i].f0) ∧ w.cell? ⟨G, O + i * 4 + 1, none⟩ = some (.int .i64 l[i].f1.f0) ∧ w.cell? ⟨G, O + i * 4 + 2, none⟩ = some (.int .i64 l[i].f1.f1) ∧ w.cell? ⟨G, O + i * 4 + 3, none⟩ = some (.int .i64 l[i].f2) := by
  obtain ⟨ad, e, hz, _⟩ := at_T91 h 0 (by omega) (by omega)
  have hpl : ad = ⟨ad.block, ad.off, none⟩ := spot_plain (i := 0) (a := ad) (by simpa [Addr.add] using hz)
  clear hz
  refine ⟨ad.block, ad.off, by rw [e, ← hpl], fun i hi => ?_⟩
  obtain ⟨ad', e', h0, h1, h2, h3⟩ := at_T91 h (i : Int) (by omega) (by omega)
  obtain rfl : ad = ad' := by rw [e] at e'; exact Option.some.inj e'
  rw [hpl, Int.toNat_natCast, add_off] at h0 h1 h2 h3
  rw [rd_T91_at l i hi] at h0 h1 h2 h3
  exact ⟨h0, h1, h2, h3⟩
theorem rd_T93_at (l : List S93) (i : Nat) (h : i < l.length) : rd_T93 l (i : Int) = l[i] := by
  unfold rd_T93
  rw [Int.toNat_natCast, List.getD_eq_getElem?_getD, List.getElem?_eq_getElem h]
  rfl
theorem intents_plain {w : World} {A : Option Addr} {l : List S93} (h : Kd.C k93 w A l.length l) (hp : 0 < l.length) : ∃ G O, A = some ⟨G, O, none⟩ ∧ ∀ i (hi : i < l.length),
    w.cell? ⟨G, O + i * 5, none⟩ = some (.string l[i].f0) ∧ w.cell? ⟨G, O + i * 5 + 1, none⟩ = some (.string l[i].f1) ∧ w.cell? ⟨G, O + i * 5 + 2, none⟩ = some (.bool l[i].f2) ∧ w.cell? ⟨G, O + i * 5 + 3, none⟩ = some (.int .i64 l[i].f3.f0) ∧ w.cell? ⟨G, O + i * 5 + 4, none⟩ = some (.int .i64 l[i].f3.f1) := by
  obtain ⟨ad, e, hz, _⟩ := at_T93 h 0 (by omega) (by omega)
  have hpl : ad = ⟨ad.block, ad.off, none⟩ := spot_plain (i := 0) (a := ad) (by simpa [Addr.add] using hz)
  clear hz
  refine ⟨ad.block, ad.off, by rw [e, ← hpl], fun i hi => ?_⟩
  obtain ⟨ad', e', h0, h1, h2, h3, h4⟩ := at_T93 h (i : Int) (by omega) (by omega)
  obtain rfl : ad = ad' := by rw [e] at e'; exact Option.some.inj e'
  rw [hpl, Int.toNat_natCast, add_off] at h0 h1 h2 h3 h4
  rw [rd_T93_at l i hi] at h0 h1 h2 h3 h4
  exact ⟨h0, h1, h2, h3, h4⟩
end Go.Proofs.Ytdepmcofnlggaaa.PResolverCycles
end
section
set_option linter.unusedVariables false
set_option linter.unusedSimpArgs false
attribute [local go_sem ↓] Go.wp_at_zero Go.wp_at_succ
namespace Go.Proofs.Ytdepmcofnlggaaa.PResolverCycles
open Go.RowKit Go.Shelf Go.Proofs.YtdepmcofnlggaaaW.PrintWords Go.Proofs.YtdepmcofnlggaaaW.PrintLast Go.Proofs.YtdepmcofnlggaaaW.PrintMore
open Classical

def encE (x : S26) : List Value := [.string x.f0, .int .i64 x.f1.f0, .int .i64 x.f1.f1, .int .i64 x.f2.f0, .int .i64 x.f2.f1]
theorem encE_len' (x : S26) : (encE x).length = 5 := rfl
abbrev EdRow (w : World) (base g c : Nat) (l : List S26) : Prop := Row encE 5 26 w base g c l
set_option maxHeartbeats 1000000 in
set_option maxRecDepth 20000 in
theorem indexEd (w : World) (base g c : Nat) (l : List S26) (gf : Nat) (lb : Array Value) (eg : ∀ args w, (callFunc gf args).run Try.prog w = .ok (.enter gf args) w) (p : S26 → Bool) (hR : EdRow w base g c l) (hm : l.length ≤ 1000000)
    (hcall : ∀ x ∈ l, ∀ u, Below w.heap.size w u → Calls Try.prog gf (#[.agg #[.string x.f0, .int .i64 x.f1.f0, .int .i64 x.f1.f1, .int .i64 x.f2.f0, .int .i64 x.f2.f1]] ++ lb) u fun e u' => e = .returned (.bool (p x)) ∧ Below u.heap.size u u') :
    Calls Try.prog 68 #[.slice (some ⟨g, 0, none⟩) l.length c, .func (.func gf) #[] lb] w fun e w' => ∃ r, e = .returned (.int .i64 r) ∧ FirstIn p l r ∧ Below w.heap.size w w' := by
  obtain ⟨n, hN⟩ : ∃ n, n = l.length := ⟨_, rfl⟩
  have hcap : l.length ≤ c := by obtain ⟨_, _, _, _, q, _⟩ := row_form hR; exact q
  rw [← hN] at hm hcap ⊢
  have hcells : ∀ wr, Below w.heap.size w wr → ∀ j (hj : j < l.length) t v, (encE l[j])[t]? = some v → wr.cell? ⟨g, j * 5 + t, none⟩ = some v := fun wr hb j hj t v hv => pw_cell_below hb (row_cell encE_len' hR j hj t v hv)
  clear hR
  replace hN := Go.Lib.hid hN
  replace hcall := Go.Lib.hid hcall
  replace hcells := Go.Lib.hid hcells
  go_enter Try.func68, Try.ntmps68
  go_wp2_with fail
  go_loopw [8] (fun i wr => ∃ j : Nat, j ≤ n ∧ i = .int .i64 (j : Int) ∧ Below w.heap.size w wr ∧ ∀ y ∈ l.take j, p y = false) (fun i _ => n - (intOf i).toNat)
  case atStart => exact ⟨0, by omega, rfl, Below.refl _ _, by simp⟩
  case round =>
    obtain ⟨j, hj, rfl, hB, hno⟩ := hrel
    replace hno := Go.Lib.hid hno
    by_cases hlt : j < n
    · have hltz : (j : Int) < (n : Int) := by omega
      have hjl : j < l.length := by rw [← hN.out]; exact hlt

      have a0 : wr.cell? ⟨g, j * 5, none⟩ = some (.string l[j].f0) := hcells.out wr hB j hjl 0 _ rfl
      have a1 : wr.cell? ⟨g, j * 5 + 1, none⟩ = some (.int .i64 l[j].f1.f0) := hcells.out wr hB j hjl 1 _ rfl
      have a2 : wr.cell? ⟨g, j * 5 + 2, none⟩ = some (.int .i64 l[j].f1.f1) := hcells.out wr hB j hjl 2 _ rfl
      have a3 : wr.cell? ⟨g, j * 5 + 3, none⟩ = some (.int .i64 l[j].f2.f0) := hcells.out wr hB j hjl 3 _ rfl
      have a4 : wr.cell? ⟨g, j * 5 + 4, none⟩ = some (.int .i64 l[j].f2.f1) := hcells.out wr hB j hjl 4 _ rfl
      have hgx := Go.Lib.hid (List.getElem?_eq_getElem hjl)
      have H := hcall.out l[j] (List.getElem_mem hjl) wr hB
      have htk := take_one' l j hjl
      replace htk := Go.Lib.hid htk
      generalize l[j] = x at *
      cases hp : p x with
      | true =>
        rw [hp] at H
        have hF := Go.Lib.hid (show FirstIn p l (j : Int) from .inl ⟨j, x, hgx.out, rfl, hp, hno.out⟩)
        replace hp := Go.Lib.hid hp
        go_wp2_with (go_at_fn gf; refine H.mono ?_; rintro e u ⟨rfl, hu⟩)
        go_ret
        exact ⟨(j : Int), rfl, hF.out, hB.trans (hu.mono hB.size)⟩
      | false =>
        rw [hp] at H
        have hF := Go.Lib.hid (show ∀ y ∈ l.take (j + 1), p y = false from fun y hy => by
          rw [htk.out] at hy
          rcases List.mem_append.1 hy with h | h
          · exact hno.out y h
          · rw [List.mem_singleton.1 h]; exact hp)
        replace hp := Go.Lib.hid hp
        have hw64 : wrap64 ((j : Int) + 1) = ((j + 1 : Nat) : Int) := by unfold wrap64; omega
        have hme : n - (j + 1) < n - j := by clear hw64; omega
        replace hme := Go.Lib.hid hme
        go_wp2_with (go_at_fn gf; refine H.mono ?_; rintro e u ⟨rfl, hu⟩)
        go_round
        case rel => exact ⟨j + 1, hlt, rfl, hB.trans (hu.mono hB.size), hF.out⟩
        case measure => simpa [intOf] using hme.out
    · obtain rfl : j = n := by omega
      have hF : FirstIn p l (-1) := .inr ⟨rfl, by have := hno.out; rwa [hN.out, List.take_length] at this⟩
      replace hF := Go.Lib.hid hF
      go_wp2_with fail
      go_ret
      exact ⟨-1, rfl, hF.out, hB⟩
set_option maxHeartbeats 1000000 in
set_option maxRecDepth 20000 in
theorem indexEd_none (w : World) (gf : Nat) (lb : Array Value) : Calls Try.prog 68 #[.slice none 0 0, .func (.func gf) #[] lb] w fun e w' => e = .returned (.int .i64 (-1)) ∧ w' = w := by
  go_enter Try.func68, Try.ntmps68
  go_wp2_with fail
  go_loopw [8] (fun i wr => i = .int .i64 0 ∧ wr = w) (fun i _ => 0)
  case atStart => exact ⟨rfl, rfl⟩
  case round =>
    obtain ⟨rfl, rfl⟩ := hrel
    go_wp2_with fail
    go_ret
    exact ⟨rfl, rfl⟩
set_option maxHeartbeats 1000000 in
set_option maxRecDepth 20000 in
theorem delEd_none (w : World) (gf : Nat) (lb : Array Value) : Calls Try.prog 41 #[.slice none 0 0, .func (.func gf) #[] lb] w fun e w' => e = .returned (.slice none 0 0) ∧ w' = w := by
  go_enter Try.func41, Try.ntmps41
  go_wp2_with (go_at_call 68; refine (indexEd_none _ _ _).mono ?_; rintro e u ⟨rfl, rfl⟩)
  go_ret
  exact ⟨rfl, rfl⟩

set_option maxHeartbeats 4000000 in
set_option maxRecDepth 20000 in
theorem delEd (w : World) (base g c : Nat) (l : List S26) (gf : Nat) (lb : Array Value) (eg : ∀ args w, (callFunc gf args).run Try.prog w = .ok (.enter gf args) w) (p : S26 → Bool) (hR : EdRow w base g c l) (hm : l.length ≤ 1000000)
    (hcall : ∀ x ∈ l, ∀ u, w.grownBy u (some g) → Calls Try.prog gf (#[.agg #[.string x.f0, .int .i64 x.f1.f0, .int .i64 x.f1.f1, .int .i64 x.f2.f0, .int .i64 x.f2.f1]] ++ lb) u fun e u' => e = .returned (.bool (p x)) ∧ Below u.heap.size u u') :
    Calls Try.prog 41 #[.slice (some ⟨g, 0, none⟩) l.length c, .func (.func gf) #[] lb] w fun e w' => e = .returned (.slice (some ⟨g, 0, none⟩) (keepL p l).length c) ∧ EdRow w' base g c (keepL p l) ∧ w.grownBy w' (some g) := by
  have HI := indexEd w base g c l gf lb eg p hR hm (fun x hx u hu => hcall x hx u (grown_of_below hu _))
  obtain ⟨n, hN⟩ : ∃ n, n = l.length := ⟨_, rfl⟩
  have hcap : l.length ≤ c := by obtain ⟨_, _, _, _, q, _⟩ := row_form hR; exact q
  rw [← hN] at hm hcap HI ⊢
  obtain ⟨kn, hkn⟩ : ∃ x, x = (keepL p l).length := ⟨_, rfl⟩
  rw [← hkn]
  replace hkn := Go.Lib.hid hkn
  replace hN := Go.Lib.hid hN
  replace hcall := Go.Lib.hid hcall
  replace hR := Go.Lib.hid hR
  go_enter Try.func41, Try.ntmps41
  go_upto_region 2 with (go_at_call 68; refine HI.mono ?_; rintro e u ⟨r, rfl, hF, hu⟩)
  clear HI
  rcases hF with ⟨i, x, hx, rfl, hpx, hno⟩ | ⟨rfl, hno⟩
  · have hRu : EdRow u base g c l := row_block hR.out (hu.block g (row_lt hR.out)) encE_len'
    have hst := Dst.start (w := w) hx hpx hno hRu (grown_of_below hu (some g))
    have hi : i < n := by rw [hN.out]; exact (List.getElem?_eq_some_iff.1 hx).1
    have hw0 : wrap64 ((i : Int) + 1) = ((i + 1 : Nat) : Int) := by unfold wrap64; omega
    clear hx hpx hno hRu hR
    have hne : ((i : Int) == -1) = false := by rw [beq_eq_false_iff_ne]; omega
    replace hst := Go.Lib.hid hst
    go_upto_region 5 with fail
    replace hw0 := Go.Lib.hid hw0
    go_loopw [5, 6] (fun a b wr => ∃ iv j : Nat, j ≤ n ∧ iv < n ∧ a = .int .i64 (iv : Int) ∧ b = .int .i64 (j : Int) ∧ Dst encE 5 26 p w wr base g c l iv j) (fun _ b _ => n - (intOf b).toNat)
    case atStart => exact ⟨i, i + 1, hi, hi, rfl, rfl, hst.out⟩
    case round =>
      clear hne hst hw0 hi hu
      obtain ⟨iv, j, hj, hivn, rfl, rfl, hst⟩ := hrel
      by_cases hlt : j < n
      · have hltz : (j : Int) < (n : Int) := by omega
        have hivz : (iv : Int) < (n : Int) := by omega
        have hjl : j < l.length := by rw [← hN.out]; exact hlt
        have b0 : wr.cell? ⟨g, j * 5, none⟩ = some (.string l[j].f0) := hst.cell encE_len' hjl 0 _ rfl
        have b1 : wr.cell? ⟨g, j * 5 + 1, none⟩ = some (.int .i64 l[j].f1.f0) := hst.cell encE_len' hjl 1 _ rfl
        have b2 : wr.cell? ⟨g, j * 5 + 2, none⟩ = some (.int .i64 l[j].f1.f1) := hst.cell encE_len' hjl 2 _ rfl
        have b3 : wr.cell? ⟨g, j * 5 + 3, none⟩ = some (.int .i64 l[j].f2.f0) := hst.cell encE_len' hjl 3 _ rfl
        have b4 : wr.cell? ⟨g, j * 5 + 4, none⟩ = some (.int .i64 l[j].f2.f1) := hst.cell encE_len' hjl 4 _ rfl
        obtain ⟨z, hz⟩ := hst.room encE_len'
        have z0 : wr.cell? ⟨g, iv * 5, none⟩ = some (.string z.f0) := hz 0 _ rfl
        have z1 : wr.cell? ⟨g, iv * 5 + 1, none⟩ = some (.int .i64 z.f1.f0) := hz 1 _ rfl
        have z2 : wr.cell? ⟨g, iv * 5 + 2, none⟩ = some (.int .i64 z.f1.f1) := hz 2 _ rfl
        have z3 : wr.cell? ⟨g, iv * 5 + 3, none⟩ = some (.int .i64 z.f2.f0) := hz 3 _ rfl
        have z4 : wr.cell? ⟨g, iv * 5 + 4, none⟩ = some (.int .i64 z.f2.f1) := hz 4 _ rfl
        clear hz
        have hb1 := below_alloc (Below.refl wr.heap.size wr) (.cells #[.string l[j].f0, .int .i64 l[j].f1.f0, .int .i64 l[j].f1.f1, .int .i64 l[j].f2.f0, .int .i64 l[j].f2.f1] 26)
        have hxn := heap_alloc_new wr (.cells #[.string l[j].f0, .int .i64 l[j].f1.f0, .int .i64 l[j].f1.f1, .int .i64 l[j].f2.f0, .int .i64 l[j].f2.f1] 26)
        have e0 := blk_cell hxn 0
        have e1 := blk_cell hxn 1
        have e2 := blk_cell hxn 2
        have e3 := blk_cell hxn 3
        have e4 := blk_cell hxn 4
        simp only [List.getElem?_toArray, List.getElem?_cons_zero, List.getElem?_cons_succ] at e0 e1 e2 e3 e4
        clear hxn
        have hst1 := hst.later encE_len' hb1
        have H := hcall.out l[j] (List.getElem_mem hjl) _ hst1.grown
        have hsk : p l[j] = true → ∀ W, Dst encE 5 26 p w W base g c l iv j → Dst encE 5 26 p w W base g c l iv (j + 1) := fun hp W h => h.skip hjl hp
        have hke : p l[j] = false → ∀ W, Dst encE 5 26 p w W base g c l iv j → Dst encE 5 26 p w (setCells W g (iv * 5) (encE l[j])) base g c l (iv + 1) (j + 1) := fun hp W h => h.keep encE_len' hjl hp
        replace hsk := Go.Lib.hid hsk
        replace hke := Go.Lib.hid hke
        replace hst1 := Go.Lib.hid hst1
        clear hst
        generalize l[j] = x at *
        replace z0 := pw_cell_below hb1 z0
        replace z1 := pw_cell_below hb1 z1
        replace z2 := pw_cell_below hb1 z2
        replace z3 := pw_cell_below hb1 z3
        replace z4 := pw_cell_below hb1 z4
        go_upto_region 8 with fail
        generalize wr.alloc (.cells #[.string x.f0, .int .i64 x.f1.f0, .int .i64 x.f1.f1, .int .i64 x.f2.f0, .int .i64 x.f2.f1] 26) = V at *
        generalize wr.heap.size = gx at *
        clear b0 b1 b2 b3 b4 hb1
        have hw64 : wrap64 ((j : Int) + 1) = ((j + 1 : Nat) : Int) := by unfold wrap64; omega
        have hw65 : wrap64 ((iv : Int) + 1) = ((iv + 1 : Nat) : Int) := by unfold wrap64; omega
        have hme : n - (j + 1) < n - j := by clear hw64 hw65; omega
        have hiv1 : p x = false → iv + 1 < n := fun hp => by have := (hke.out hp V hst1.out); have h1 := this.lt; omega
        replace hme := Go.Lib.hid hme
        replace hiv1 := Go.Lib.hid hiv1
        cases hp : p x with
        | true =>
          rw [hp] at H
          replace hp := Go.Lib.hid hp
          go_wp2_with (go_at_fn gf; refine H.mono ?_; rintro e0 u1 ⟨rfl, hu1⟩)
          go_round
          case rel => exact ⟨iv, j + 1, hlt, hivn, rfl, rfl, hsk.out hp.out _ (hst1.out.later encE_len' hu1)⟩
          case measure => simpa [intOf] using hme.out
        | false =>
          rw [hp] at H
          replace hp := Go.Lib.hid hp
          go_wp2_with (go_at_fn gf; refine H.mono ?_; rintro e0 u1 ⟨rfl, hu1⟩; have hst2 := hst1.out.later encE_len' hu1; replace e0 := pw_cell_below hu1 e0; replace z0 := pw_cell_below hu1 z0; have f0 : u1.frozen? ⟨g, iv * 5, none⟩ = false := row_frozen hst2.row _; replace e1 := pw_cell_below hu1 e1; replace z1 := pw_cell_below hu1 z1; have f1 : u1.frozen? ⟨g, iv * 5 + 1, none⟩ = false := row_frozen hst2.row _; replace e2 := pw_cell_below hu1 e2; replace z2 := pw_cell_below hu1 z2; have f2 : u1.frozen? ⟨g, iv * 5 + 2, none⟩ = false := row_frozen hst2.row _; replace e3 := pw_cell_below hu1 e3; replace z3 := pw_cell_below hu1 z3; have f3 : u1.frozen? ⟨g, iv * 5 + 3, none⟩ = false := row_frozen hst2.row _; replace e4 := pw_cell_below hu1 e4; replace z4 := pw_cell_below hu1 z4; have f4 : u1.frozen? ⟨g, iv * 5 + 4, none⟩ = false := row_frozen hst2.row _; replace hst2 := Go.Lib.hid hst2)
          go_round
          case rel => exact ⟨iv + 1, j + 1, hlt, hiv1.out hp.out, rfl, rfl, hke.out hp.out _ hst2.out⟩
          case measure => simpa [intOf] using hme.out
      · have hx2 : j = l.length := by rw [← hN.out]; omega
        have hltz : ¬ ((j : Int) < (n : Int)) := by omega
        have hivc : iv ≤ c := by omega
        obtain ⟨w', hrun, hlen, hrow, hgrn⟩ := hst.fin encE_len' hx2 (c - iv) 22 0 (.agg #[.string ⟨#[]⟩, .int .i64 0, .int .i64 0, .int .i64 0, .int .i64 0]) Try.underlying22 (fun w => by kernel_rfl) rfl (by decide) (by omega)
        rw [← hN.out] at hrun
        clear hst
        have hki : kn = iv := by rw [hkn.out]; exact hlen
        replace hki := Go.Lib.hid hki
        replace hrow := Go.Lib.hid hrow
        replace hgrn := Go.Lib.hid hgrn
        go_wp2_with fail
        go_ret
        exact ⟨by rw [hki.out]; rfl, hrow.out, hgrn.out⟩
  · have hall := keepL_all hno
    replace hno := Go.Lib.hid hno
    have hRu : EdRow u base g c l := row_block hR.out (hu.block g (row_lt hR.out)) encE_len'
    replace hRu := Go.Lib.hid hRu
    replace hall := Go.Lib.hid hall
    go_wp2_with fail
    go_ret
    exact ⟨by rw [hkn.out, hall.out, ← hN.out]; rfl, by rw [hall.out]; exact hRu.out, grown_of_below hu _⟩

end Go.Proofs.Ytdepmcofnlggaaa.PResolverCycles
end
section
set_option linter.unusedVariables false
set_option linter.unusedSimpArgs false
attribute [local go_sem ↓] Go.wp_at_zero Go.wp_at_succ
namespace Go.Proofs.Ytdepmcofnlggaaa.PResolverCycles
open Go.RowKit Go.Shelf Go.Proofs.YtdepmcofnlggaaaW.PrintWords Go.Proofs.YtdepmcofnlggaaaW.PrintLast Go.Proofs.YtdepmcofnlggaaaW.PrintMore
open Classical

def cmpS (x y : ByteArray) : Int := if Op.bytesLess x.toList y.toList = true then -1 else if (x.toList == y.toList) = true then 0 else 1
theorem nanS_walk (x : ByteArray) (w : World) : Calls Try.prog 92 #[.string x] w fun e w' => e = .returned (.bool false) ∧ w' = w := by
  have h : (x.toList != x.toList) = false := by simp
  go_enter Try.func92, Try.ntmps92
  go_wp2_with fail
  go_ret
  exact ⟨rfl, rfl⟩
theorem gtr_str (x y : ByteArray) (w : World) : (binOp .gtr 9 (.string x) (.string y)).run Try.prog w = .ok (.bool (!(Op.bytesLess x.toList y.toList || x.toList == y.toList))) w := by
  simp [binOp, Op.stringOp]
theorem cmpS_walk (x y : ByteArray) (w : World) : Calls Try.prog 71 #[.string x, .string y] w fun e w' => e = .returned (.int .i64 (cmpS x y)) ∧ w' = w := by
  cases h1 : Op.bytesLess x.toList y.toList with
  | true =>
    have e : cmpS x y = -1 := by unfold cmpS; rw [if_pos h1]
    rw [e]
    go_enter Try.func71, Try.ntmps71
    go_wp2_with (go_at_call 92; refine (nanS_walk _ _).mono ?_; rintro e w' ⟨rfl, rfl⟩)
    go_ret
    exact ⟨rfl, rfl⟩
  | false =>
    cases h2 : (x.toList == y.toList) with
    | false =>
      have hg := gtr_str x y
      rw [h1, h2] at hg
      have e : cmpS x y = 1 := by unfold cmpS; rw [h1, h2]; rfl
      rw [e]
      go_enter Try.func71, Try.ntmps71
      go_wp2_with (go_at_call 92; refine (nanS_walk _ _).mono ?_; rintro e w' ⟨rfl, rfl⟩)
      go_ret
      exact ⟨rfl, rfl⟩
    | true =>
      have hg := gtr_str x y
      rw [h1, h2] at hg
      have e : cmpS x y = 0 := by unfold cmpS; rw [h1, h2]; rfl
      rw [e]
      go_enter Try.func71, Try.ntmps71
      go_wp2_with (go_at_call 92; refine (nanS_walk _ _).mono ?_; rintro e w' ⟨rfl, rfl⟩)
      go_ret
      exact ⟨rfl, rfl⟩
theorem or3_walk (w : World) (g : Nat) (x y z : Int) (h0 : w.cell? ⟨g, 0, none⟩ = some (.int .i64 x)) (h1 : w.cell? ⟨g, 1, none⟩ = some (.int .i64 y)) (h2 : w.cell? ⟨g, 2, none⟩ = some (.int .i64 z)) :
    Calls Try.prog 58 #[.slice (some ⟨g, 0, none⟩) 3 3] w fun e w' => e = .returned (.int .i64 (orZ x (orZ y z))) ∧ w' = w := by
  go_enter Try.func58, Try.ntmps58
  go_wp2_with fail
  go_loop [8] (fun i => i = .int .i64 0 ∨ (i = .int .i64 1 ∧ x = 0) ∨ (i = .int .i64 2 ∧ x = 0 ∧ y = 0) ∨ (i = .int .i64 3 ∧ x = 0 ∧ y = 0 ∧ z = 0)) (fun i => 3 - (intOf i).toNat)
  case atStart => exact .inl rfl
  case round =>
    rcases hrel with rfl | ⟨rfl, hx⟩ | ⟨rfl, hx, hy⟩ | ⟨rfl, hx, hy, hz⟩
    · by_cases h : x = 0
      · have hb : (x != 0) = false := by simp [h]
        replace h := Go.Lib.hid h
        go_wp2_with fail
        go_round
        case rel => exact .inr (.inl ⟨rfl, h.out⟩)
        case measure => simp [intOf]
      · have hb : (x != 0) = true := by simp [h]
        have hr : orZ x (orZ y z) = x := if_neg h
        replace hr := Go.Lib.hid hr
        replace h := Go.Lib.hid h
        go_wp2_with fail
        go_ret
        exact ⟨by rw [hr.out]; rfl, rfl⟩
    · by_cases h : y = 0
      · have hb : (y != 0) = false := by simp [h]
        replace h := Go.Lib.hid h
        replace hx := Go.Lib.hid hx
        go_wp2_with fail
        go_round
        case rel => exact .inr (.inr (.inl ⟨rfl, hx.out, h.out⟩))
        case measure => simp [intOf]
      · have hb : (y != 0) = true := by simp [h]
        have hr : orZ x (orZ y z) = y := by unfold orZ; rw [if_pos hx, if_neg h]
        replace hr := Go.Lib.hid hr
        replace h := Go.Lib.hid h
        replace hx := Go.Lib.hid hx
        go_wp2_with fail
        go_ret
        exact ⟨by rw [hr.out]; rfl, rfl⟩
    · by_cases h : z = 0
      · have hb : (z != 0) = false := by simp [h]
        replace h := Go.Lib.hid h
        replace hx := Go.Lib.hid hx
        replace hy := Go.Lib.hid hy
        go_wp2_with fail
        go_round
        case rel => exact .inr (.inr (.inr ⟨rfl, hx.out, hy.out, h.out⟩))
        case measure => simp [intOf]
      · have hb : (z != 0) = true := by simp [h]
        have hr : orZ x (orZ y z) = z := by unfold orZ; rw [if_pos hx, if_pos hy]
        replace hr := Go.Lib.hid hr
        replace h := Go.Lib.hid h
        replace hx := Go.Lib.hid hx
        replace hy := Go.Lib.hid hy
        go_wp2_with fail
        go_ret
        exact ⟨by rw [hr.out]; rfl, rfl⟩
    · have hr : orZ x (orZ y z) = 0 := by unfold orZ; rw [if_pos hx, if_pos hy, hz]
      replace hr := Go.Lib.hid hr
      replace hx := Go.Lib.hid hx
      replace hy := Go.Lib.hid hy
      replace hz := Go.Lib.hid hz
      go_wp2_with fail
      go_ret
      exact ⟨by rw [hr.out]; rfl, rfl⟩
theorem or3_new (w : World) (x y z : Int) : Calls Try.prog 58 #[.slice (some ⟨w.heap.size, 0, none⟩) 3 3] (w.alloc (.cells #[.int .i64 x, .int .i64 y, .int .i64 z] 3)) fun e w' => e = .returned (.int .i64 (orZ x (orZ y z))) ∧ w' = w.alloc (.cells #[.int .i64 x, .int .i64 y, .int .i64 z] 3) := by
  have hc := heap_alloc_new w (.cells #[.int .i64 x, .int .i64 y, .int .i64 z] 3)
  have c0 := blk_cell hc 0
  have c1 := blk_cell hc 1
  have c2 := blk_cell hc 2
  simp only [List.getElem?_toArray, List.getElem?_cons_zero, List.getElem?_cons_succ] at c0 c1 c2
  exact or3_walk _ _ x y z c0 c1 c2
theorem Grown.trans {w W W' : World} (h : Grown w W) (h' : Grown W W') : Grown w W' := by
  obtain ⟨q, os, rfl⟩ := h
  obtain ⟨q', os', rfl⟩ := h'
  refine ⟨q + q', os ++ os', ?_⟩
  show Sort.grow (Sort.grow ((w.drewN q).drewN q') os) os' = _
  rw [Go.Sort.grow_grow, World.drewN_drewN]
/-- -1, 0 or 1: by waiter, holder and key -/
def cmpE (a b : S26) : Int := orZ (cmpI a.f1 b.f1) (orZ (cmpI a.f2 b.f2) (cmpS a.f0 b.f0))
end Go.Proofs.Ytdepmcofnlggaaa.PResolverCycles
end
section
set_option linter.unusedVariables false
set_option linter.unusedSimpArgs false
attribute [local go_sem ↓] Go.wp_at_zero Go.wp_at_succ
namespace Go.Proofs.Ytdepmcofnlggaaa.PResolverCycles
open Go.RowKit Go.Shelf Go.Proofs.YtdepmcofnlggaaaW.PrintWords Go.Proofs.YtdepmcofnlggaaaW.PrintLast Go.Proofs.YtdepmcofnlggaaaW.PrintMore
open Classical

theorem keepE {u u' V : World} {gx gy : Nat} {v0 v1 v2 v3 v4 y0 y1 y2 y3 y4 : Value}
    (h : u.cell? ⟨gx, 0, none⟩ = some v0 ∧ u.cell? ⟨gx, 1, none⟩ = some v1 ∧ u.cell? ⟨gx, 2, none⟩ = some v2 ∧ u.cell? ⟨gx, 3, none⟩ = some v3 ∧ u.cell? ⟨gx, 4, none⟩ = some v4 ∧ u.cell? ⟨gy, 0, none⟩ = some y0 ∧ u.cell? ⟨gy, 1, none⟩ = some y1 ∧ u.cell? ⟨gy, 2, none⟩ = some y2 ∧ u.cell? ⟨gy, 3, none⟩ = some y3 ∧ u.cell? ⟨gy, 4, none⟩ = some y4 ∧ Grown V u) (hg : Grown u u') :
    u'.cell? ⟨gx, 0, none⟩ = some v0 ∧ u'.cell? ⟨gx, 1, none⟩ = some v1 ∧ u'.cell? ⟨gx, 2, none⟩ = some v2 ∧ u'.cell? ⟨gx, 3, none⟩ = some v3 ∧ u'.cell? ⟨gx, 4, none⟩ = some v4 ∧ u'.cell? ⟨gy, 0, none⟩ = some y0 ∧ u'.cell? ⟨gy, 1, none⟩ = some y1 ∧ u'.cell? ⟨gy, 2, none⟩ = some y2 ∧ u'.cell? ⟨gy, 3, none⟩ = some y3 ∧ u'.cell? ⟨gy, 4, none⟩ = some y4 ∧ Grown V u' := by
  obtain ⟨a0, a1, a2, a3, a4, b0, b1, b2, b3, b4, hG⟩ := h
  have hb := hg.below
  exact ⟨pw_cell_below hb a0, pw_cell_below hb a1, pw_cell_below hb a2, pw_cell_below hb a3, pw_cell_below hb a4, pw_cell_below hb b0, pw_cell_below hb b1, pw_cell_below hb b2, pw_cell_below hb b3, pw_cell_below hb b4, hG.trans hg⟩
theorem compare_any (p q r s : Int) (w : World) : Calls Try.prog 24 #[.agg #[.int .i64 p, .int .i64 q], .agg #[.int .i64 r, .int .i64 s]] w fun e w' => e = .returned (.int .i64 (cmpI ⟨p, q⟩ ⟨r, s⟩)) ∧ Grown w w' := compare_walk ⟨p, q⟩ ⟨r, s⟩ w
set_option maxHeartbeats 8000000 in
set_option maxRecDepth 20000 in
theorem cmpE_walk (a b : S26) (w : World) : Calls Try.prog 44 #[.agg #[.string a.f0, .int .i64 a.f1.f0, .int .i64 a.f1.f1, .int .i64 a.f2.f0, .int .i64 a.f2.f1], .agg #[.string b.f0, .int .i64 b.f1.f0, .int .i64 b.f1.f1, .int .i64 b.f2.f0, .int .i64 b.f2.f1]] w fun e w' => e = .returned (.int .i64 (cmpE a b)) ∧ Grown w w' := by
  have hG : Grown w ((w.alloc (.cells #[.string a.f0, .int .i64 a.f1.f0, .int .i64 a.f1.f1, .int .i64 a.f2.f0, .int .i64 a.f2.f1] 26)).alloc (.cells #[.string b.f0, .int .i64 b.f1.f0, .int .i64 b.f1.f1, .int .i64 b.f2.f0, .int .i64 b.f2.f1] 26)) := ((Grown.refl w).alloc _).alloc _
  have hx := two_old w (.cells #[.string a.f0, .int .i64 a.f1.f0, .int .i64 a.f1.f1, .int .i64 a.f2.f0, .int .i64 a.f2.f1] 26) (.cells #[.string b.f0, .int .i64 b.f1.f0, .int .i64 b.f1.f1, .int .i64 b.f2.f0, .int .i64 b.f2.f1] 26)
  have hy := two_new w (.cells #[.string a.f0, .int .i64 a.f1.f0, .int .i64 a.f1.f1, .int .i64 a.f2.f0, .int .i64 a.f2.f1] 26) (.cells #[.string b.f0, .int .i64 b.f1.f0, .int .i64 b.f1.f1, .int .i64 b.f2.f0, .int .i64 b.f2.f1] 26)
  go_enter Try.func44, Try.ntmps44
  go_upto_region 1 with fail
  generalize (w.alloc (.cells #[.string a.f0, .int .i64 a.f1.f0, .int .i64 a.f1.f1, .int .i64 a.f2.f0, .int .i64 a.f2.f1] 26)).alloc (.cells #[.string b.f0, .int .i64 b.f1.f0, .int .i64 b.f1.f1, .int .i64 b.f2.f0, .int .i64 b.f2.f1] 26) = V at *
  generalize w.heap.size + 1 = gy at *
  obtain ⟨gx, hgx⟩ : ∃ y, y = w.heap.size := ⟨_, rfl⟩
  rw [← hgx] at hx ⊢
  clear hgx
  have a0 := blk_cell hx 0
  have a1 := blk_cell hx 1
  have a2 := blk_cell hx 2
  have a3 := blk_cell hx 3
  have a4 := blk_cell hx 4
  have b0 := blk_cell hy 0
  have b1 := blk_cell hy 1
  have b2 := blk_cell hy 2
  have b3 := blk_cell hy 3
  have b4 := blk_cell hy 4
  simp only [List.getElem?_toArray, List.getElem?_cons_zero, List.getElem?_cons_succ] at a0 a1 a2 a3 a4 b0 b1 b2 b3 b4
  clear hx hy
  have hS0 := keepE (V := V) ⟨a0, a1, a2, a3, a4, b0, b1, b2, b3, b4, Grown.refl V⟩ (Grown.refl V).drew
  clear a0 a1 a2 a3 a4 b0 b1 b2 b3 b4
  have hdef : orZ (cmpI a.f1 b.f1) (orZ (cmpI a.f2 b.f2) (cmpS a.f0 b.f0)) = cmpE a b := rfl
  go_region_held_law (fun w' => w'.cell? ⟨gx, 0, none⟩ = some (.string a.f0) ∧ w'.cell? ⟨gx, 1, none⟩ = some (.int .i64 a.f1.f0) ∧ w'.cell? ⟨gx, 2, none⟩ = some (.int .i64 a.f1.f1) ∧ w'.cell? ⟨gx, 3, none⟩ = some (.int .i64 a.f2.f0) ∧ w'.cell? ⟨gx, 4, none⟩ = some (.int .i64 a.f2.f1) ∧
      w'.cell? ⟨gy, 0, none⟩ = some (.string b.f0) ∧ w'.cell? ⟨gy, 1, none⟩ = some (.int .i64 b.f1.f0) ∧ w'.cell? ⟨gy, 2, none⟩ = some (.int .i64 b.f1.f1) ∧ w'.cell? ⟨gy, 3, none⟩ = some (.int .i64 b.f2.f0) ∧ w'.cell? ⟨gy, 4, none⟩ = some (.int .i64 b.f2.f1) ∧ Grown V w')
    (first | assumption | exact keepE (by assumption) hu1 | exact keepE (by assumption) ((Grown.refl _).alloc _))
    ((first
      | (go_at_call 24; refine (compare_any _ _ _ _ _).mono ?_; rintro e w1 ⟨rfl, hu1⟩)
      | (go_at_call 71; refine (cmpS_walk _ _ _).mono ?_; rintro e w' ⟨rfl, rfl⟩)
      | (go_at_call 58; refine (or3_new _ _ _ _).mono ?_; rintro e w' ⟨rfl, rfl⟩)))
  all_goals (go_wp2_with fail; go_ret; exact ⟨rfl, hG.trans (by rename_i hSS; exact hSS.2.2.2.2.2.2.2.2.2.2)⟩)
end Go.Proofs.Ytdepmcofnlggaaa.PResolverCycles
end
section
set_option linter.unusedVariables false
set_option linter.unusedSimpArgs false
namespace Go.Proofs.Ytdepmcofnlggaaa.PResolverCycles
open Go.RowKit Go.Proofs.YtdepmcofnlggaaaW.PrintWords Go.Proofs.YtdepmcofnlggaaaW.PrintLast Go.Proofs.YtdepmcofnlggaaaW.PrintMore
open Classical

/-- a comparison that orders -/
structure Ord {α : Type} (c : α → α → Int) : Prop where
  anti : ∀ a b, c a b < 0 ↔ 0 < c b a
  le : ∀ {a b d}, c a b ≤ 0 → c b d ≤ 0 → c a d ≤ 0
theorem Ord.zero {α : Type} {c : α → α → Int} (h : Ord c) {a b : α} (e : c a b = 0) : c b a = 0 := by
  have h1 := h.anti a b
  have h2 := h.anti b a
  omega
theorem Ord.lt {α : Type} {c : α → α → Int} (h : Ord c) {a b d : α} (h1 : c a b < 0) (h2 : c b d ≤ 0) : c a d < 0 := by
  have h3 := h.anti a b
  have h4 := h.anti d a
  have h5 := h.anti a d
  by_cases h6 : c a d < 0
  · exact h6
  · have h7 : c d a ≤ 0 := by omega
    have := h.le h2 h7
    omega
theorem Ord.lt' {α : Type} {c : α → α → Int} (h : Ord c) {a b d : α} (h1 : c a b ≤ 0) (h2 : c b d < 0) : c a d < 0 := by
  have h3 := h.anti b d
  have h5 := h.anti a d
  have h6 := h.anti d a
  by_cases h7 : c a d < 0
  · exact h7
  · have h8 : c d a ≤ 0 := by omega
    have := h.le h8 h1
    omega
theorem Ord.or {α : Type} {c c' : α → α → Int} (h : Ord c) (h' : Ord c') : Ord fun a b => orZ (c a b) (c' a b) := by
  refine ⟨fun a b => ?_, fun {a b d} h1 h2 => ?_⟩
  · have h3 := h.anti a b
    have h4 := h.anti b a
    have h5 := h'.anti a b
    unfold orZ
    by_cases e : c a b = 0
    · rw [if_pos e, if_pos (h.zero e)]; exact h5
    · rw [if_neg e, if_neg (fun e' => e (h.zero e'))]; exact h3
  · unfold orZ at h1 h2 ⊢
    by_cases e1 : c a b = 0
    · rw [if_pos e1] at h1
      by_cases e2 : c b d = 0
      · rw [if_pos e2] at h2
        have e3 : c a d = 0 := by
          have q1 := h.le (Int.le_of_eq e1) (Int.le_of_eq e2)
          have q2 := h.le (Int.le_of_eq (h.zero e2)) (Int.le_of_eq (h.zero e1))
          have q3 := h.anti a d
          omega
        rw [if_pos e3]
        exact h'.le h1 h2
      · rw [if_neg e2] at h2
        have q := h.lt' (Int.le_of_eq e1) (show c b d < 0 by omega)
        rw [if_neg (by omega)]
        omega
    · rw [if_neg e1] at h1
      have q : c a d < 0 := by
        refine h.lt (show c a b < 0 by omega) ?_
        by_cases e2 : c b d = 0
        · omega
        · rw [if_neg e2] at h2; exact h2
      rw [if_neg (by omega)]
      omega
theorem Ord.map {α β : Type} {c : β → β → Int} (h : Ord c) (f : α → β) : Ord fun a b => c (f a) (f b) := ⟨fun a b => h.anti (f a) (f b), fun h1 h2 => h.le h1 h2⟩
theorem Ord.swo {α : Type} {c : α → α → Int} (h : Ord c) : Go.Sort.SWO (ltOf c) where
  irrefl x := by
    have := h.anti x x
    exact decide_eq_false (by omega)
  trans x y z h1 h2 := decide_eq_true (h.lt (of_decide_eq_true h1) (Int.le_of_lt (of_decide_eq_true h2)))
  ntrans x y z h1 h2 := by
    have h1' := of_decide_eq_false h1
    have h2' := of_decide_eq_false h2
    refine decide_eq_false fun h3 => ?_
    have a1 := h.anti x y
    have a2 := h.anti y x
    have a3 := h.anti y z
    have a4 := h.anti z y
    have a5 := h.anti x z
    have := h.le (show c z y ≤ 0 by omega) (show c y x ≤ 0 by omega)
    omega
theorem ord_cmpZ : Ord cmpZ := by
  refine ⟨fun a b => ?_, fun {a b d} h1 h2 => ?_⟩
  · unfold cmpZ; repeat' split
    all_goals omega
  · unfold cmpZ at *
    split at h1 <;> split at h2 <;> split
    all_goals (repeat' split at *)
    all_goals omega
theorem ord_cmpI : Ord cmpI := (ord_cmpZ.map fun a : S24 => a.f0).or (ord_cmpZ.map fun a : S24 => a.f1)
theorem bl_cons (a b : UInt8) (x y : List UInt8) : Op.bytesLess (a :: x) (b :: y) = true ↔ a.toNat < b.toNat ∨ (a = b ∧ Op.bytesLess x y = true) := by
  simp only [Op.bytesLess, Bool.or_eq_true, Bool.and_eq_true, decide_eq_true_eq, beq_iff_eq, UInt8.lt_iff_toNat_lt]
theorem bl_tri : ∀ x y : List UInt8, Op.bytesLess x y = true ∨ x = y ∨ Op.bytesLess y x = true
  | [], [] => .inr (.inl rfl)
  | [], b :: y => .inl rfl
  | a :: x, [] => .inr (.inr rfl)
  | a :: x, b :: y => by
    rw [bl_cons, bl_cons]
    rcases Nat.lt_trichotomy a.toNat b.toNat with h | h | h
    · exact .inl (.inl h)
    · have e : a = b := UInt8.toNat_inj.1 h
      subst e
      rcases bl_tri x y with q | q | q
      · exact .inl (.inr ⟨rfl, q⟩)
      · exact .inr (.inl (by rw [q]))
      · exact .inr (.inr (.inr ⟨rfl, q⟩))
    · exact .inr (.inr (.inl h))
theorem bl_irr : ∀ x : List UInt8, Op.bytesLess x x ≠ true
  | [] => by simp [Op.bytesLess]
  | a :: x => by
    rw [Ne, bl_cons]
    rintro (h | ⟨_, h⟩)
    · omega
    · exact bl_irr x h
theorem bl_tr : ∀ x y z : List UInt8, Op.bytesLess x y = true → Op.bytesLess y z = true → Op.bytesLess x z = true
  | _, [], z, h1, _ => by cases ‹List UInt8› <;> simp [Op.bytesLess] at h1
  | x, b :: y, [], _, h2 => by simp [Op.bytesLess] at h2
  | [], b :: y, c :: z, _, _ => rfl
  | a :: x, b :: y, c :: z, h1, h2 => by
    rw [bl_cons] at *
    rcases h1 with h1 | ⟨rfl, h1⟩
    · rcases h2 with h2 | ⟨rfl, h2⟩
      · exact .inl (by omega)
      · exact .inl h1
    · rcases h2 with h2 | ⟨rfl, h2⟩
      · exact .inl h2
      · exact .inr ⟨rfl, bl_tr x y z h1 h2⟩
theorem cmpS_neg {x y : ByteArray} : cmpS x y < 0 ↔ Op.bytesLess x.toList y.toList = true := by
  unfold cmpS
  by_cases h : Op.bytesLess x.toList y.toList = true
  · rw [if_pos h]; simp [h]
  · rw [if_neg h]
    constructor
    · intro h'; split at h' <;> omega
    · intro h'; exact absurd h' h
theorem cmpS_zero {x y : ByteArray} : cmpS x y = 0 ↔ x = y := by
  unfold cmpS
  by_cases h : Op.bytesLess x.toList y.toList = true
  · rw [if_pos h]
    constructor
    · intro h'; omega
    · rintro rfl; exact absurd h (bl_irr _)
  · rw [if_neg h]
    by_cases e : (x.toList == y.toList) = true
    · rw [if_pos e]; simp [(Go.Lib.bytes_beq_iff x y).1 e]
    · rw [if_neg e]
      constructor
      · intro h'; omega
      · intro h'; exact absurd ((Go.Lib.bytes_beq_iff x y).2 h') e
theorem cmpS_pos {x y : ByteArray} : 0 < cmpS x y ↔ Op.bytesLess y.toList x.toList = true := by
  have h1 := cmpS_neg (x := x) (y := y)
  have h2 := cmpS_zero (x := x) (y := y)
  constructor
  · intro h
    rcases bl_tri x.toList y.toList with q | q | q
    · have := h1.2 q; omega
    · have := h2.2 ((Go.Lib.bytes_beq_iff x y).1 (by rw [q]; simp)); omega
    · exact q
  · intro h
    by_cases h3 : cmpS x y < 0
    · exact absurd (bl_tr _ _ _ (h1.1 h3) h) (bl_irr _)
    · by_cases h4 : cmpS x y = 0
      · rw [h2.1 h4] at h; exact absurd h (bl_irr _)
      · omega
theorem ord_cmpS : Ord cmpS := by
  refine ⟨fun a b => cmpS_neg.trans cmpS_pos.symm, fun {a b d} h1 h2 => ?_⟩
  by_cases e1 : cmpS a b = 0
  · rw [cmpS_zero.1 e1]; exact h2
  · by_cases e2 : cmpS b d = 0
    · rw [← cmpS_zero.1 e2]; exact h1
    · have := cmpS_neg.2 (bl_tr _ _ _ (cmpS_neg.1 (show cmpS a b < 0 by omega)) (cmpS_neg.1 (show cmpS b d < 0 by omega)))
      omega
theorem ord_cmpE : Ord cmpE := (ord_cmpI.map fun a : S26 => a.f1).or ((ord_cmpI.map fun a : S26 => a.f2).or (ord_cmpS.map fun a : S26 => a.f0))
theorem orZ_zero {x y : Int} : orZ x y = 0 ↔ x = 0 ∧ y = 0 := by
  unfold orZ
  by_cases h : x = 0 <;> simp [h]
theorem cmpZ_zero {x y : Int} : cmpZ x y = 0 ↔ x = y := by
  unfold cmpZ; repeat' split
  all_goals omega
theorem cmpI_zero {x y : S24} : cmpI x y = 0 ↔ x = y := by
  unfold cmpI
  rw [orZ_zero, cmpZ_zero, cmpZ_zero]
  exact ⟨fun h => id_ext h.1 h.2, fun h => by rw [h]; exact ⟨rfl, rfl⟩⟩
theorem cmpE_zero {a b : S26} : cmpE a b = 0 ↔ a = b := by
  unfold cmpE
  rw [orZ_zero, orZ_zero, cmpI_zero, cmpI_zero, cmpS_zero]
  obtain ⟨a0, a1, a2⟩ := a
  obtain ⟨b0, b1, b2⟩ := b
  simp only [S26.mk.injEq]
  exact ⟨fun ⟨h1, h2, h3⟩ => ⟨h3, h1, h2⟩, fun ⟨h1, h2, h3⟩ => ⟨h2, h3, h1⟩⟩
end Go.Proofs.Ytdepmcofnlggaaa.PResolverCycles
end
section
namespace Go.Proofs
open Go.Shelf
def Try.sortEd_ren : Go.Shelf.Ren := ⟨fun | 6 => 43 | 15 => 70 | 14 => 69 | 28 => 90 | 29 => 91 | 20 => 82 | 21 => 83 | 22 => 84 | 23 => 85 | 24 => 86 | 25 => 87 | 26 => 88 | 27 => 89 | 46 => 102 | 47 => 103 | 48 => 104 | 49 => 105 | 50 => 106 | 57 => 112 | n => n, fun | 22 => 22 | 24 => 26 | 25 => 86 | 3 => 3 | 39 => 114 | 0 => 0 | 53 => 135 | 55 => 137 | 4 => 4 | 46 => 129 | 45 => 128 | 50 => 104 | 5 => 5 | 9 => 9 | 66 => 147 | 70 => 151 | 76 => 157 | 77 => 158 | n => n, fun | n => n⟩
theorem Try.sortEd : Go.Proofs.SlLaysF0.n6 Try.prog Try.sortEd_ren := {
  mixed := by kernel_rfl
  f6 := ⟨Try.f43.name, by decide, Try.func43.trans (congrArg some (by kernel_rfl))⟩
  f14 := ⟨Try.f69.name, by decide, Try.func69.trans (congrArg some (by kernel_rfl))⟩
  f15 := Try.func70.trans (congrArg some (by kernel_rfl))
  f20 := ⟨Try.f82.name, by decide, Try.func82.trans (congrArg some (by kernel_rfl))⟩
  f21 := ⟨Try.f83.name, by decide, Try.func83.trans (congrArg some (by kernel_rfl))⟩
  f22 := ⟨Try.f84.name, by decide, Try.func84.trans (congrArg some (by kernel_rfl))⟩
  f23 := ⟨Try.f85.name, by decide, Try.func85.trans (congrArg some (by kernel_rfl))⟩
  f24 := ⟨Try.f86.name, by decide, Try.func86.trans (congrArg some (by kernel_rfl))⟩
  f25 := ⟨Try.f87.name, by decide, Try.func87.trans (congrArg some (by kernel_rfl))⟩
  f26 := ⟨Try.f88.name, by decide, Try.func88.trans (congrArg some (by kernel_rfl))⟩
  f27 := ⟨Try.f89.name, by decide, Try.func89.trans (congrArg some (by kernel_rfl))⟩
  f28 := Try.func90.trans (congrArg some (by kernel_rfl))
  f29 := Try.func91.trans (congrArg some (by kernel_rfl))
  f46 := ⟨Try.f102.name, by decide, Try.func102.trans (congrArg some (by kernel_rfl))⟩
  f47 := Try.func103.trans (congrArg some (by kernel_rfl))
  f48 := Try.func104.trans (congrArg some (by kernel_rfl))
  f49 := ⟨Try.f105.name, by decide, Try.func105.trans (congrArg some (by kernel_rfl))⟩
  f50 := ⟨Try.f106.name, by decide, Try.func106.trans (congrArg some (by kernel_rfl))⟩
  f57 := ⟨Try.f112.name, by decide, Try.func112.trans (congrArg some (by kernel_rfl))⟩
  t0 := Try.underlying0
  a0 := Try.isAgg0
  z0 := Try.sizeOf0
  v0 := Try.zeroValue0
  t3 := Try.underlying3
  a3 := Try.isAgg3
  z3 := Try.sizeOf3
  v3 := Try.zeroValue3
  t4 := Try.underlying4
  a4 := Try.isAgg4
  z4 := Try.sizeOf4
  v4 := Try.zeroValue4
  t5 := Try.underlying5
  a5 := Try.isAgg5
  z5 := Try.sizeOf5
  v5 := Try.zeroValue5
  t9 := Try.underlying9
  a9 := Try.isAgg9
  z9 := Try.sizeOf9
  v9 := Try.zeroValue9
  t22 := Try.underlying22
  a22 := Try.isAgg22
  z22 := Try.sizeOf22
  v22 := Try.zeroValue22
  t25 := Try.underlying86
  a25 := Try.isAgg86
  z25 := Try.sizeOf86
  v25 := Try.zeroValue86
  t39 := Try.underlying114
  a39 := Try.isAgg114
  z39 := Try.sizeOf114
  v39 := Try.zeroValue114
  t45 := Try.underlying128
  a45 := Try.isAgg128
  z45 := Try.sizeOf128
  v45 := Try.zeroValue128
  t46 := Try.underlying129
  a46 := Try.isAgg129
  z46 := Try.sizeOf129
  v46 := Try.zeroValue129
  t50 := Try.underlying104
  a50 := Try.isAgg104
  z50 := Try.sizeOf104
  v50 := Try.zeroValue104
  t53 := Try.underlying135
  a53 := Try.isAgg135
  z53 := Try.sizeOf135
  v53 := Try.zeroValue135
  t55 := Try.underlying137
  a55 := Try.isAgg137
  z55 := Try.sizeOf137
  v55 := Try.zeroValue137
  t66 := Try.underlying147
  a66 := Try.isAgg147
  z66 := Try.sizeOf147
  v66 := Try.zeroValue147
  t70 := Try.underlying151
  a70 := Try.isAgg151
  z70 := Try.sizeOf151
  v70 := Try.zeroValue151
  t76 := Try.underlying157
  a76 := Try.isAgg157
  z76 := Try.sizeOf157
  v76 := Try.zeroValue157
  t77 := Try.underlying158
  a77 := Try.isAgg158
  z77 := Try.sizeOf158
  v77 := Try.zeroValue158 }
end Go.Proofs
end
section
set_option linter.unusedVariables false
set_option linter.unusedSimpArgs false
namespace Go.Proofs.Ytdepmcofnlggaaa.PResolverCycles
open Go.RowKit Go.Proofs.YtdepmcofnlggaaaW.PrintWords Go.Proofs.YtdepmcofnlggaaaW.PrintLast Go.Proofs.YtdepmcofnlggaaaW.PrintMore
open Classical

section
variable {α : Type} [Inhabited α] {enc : α → List Value} {k : Nat} {e : TypeId}
theorem flat_fl (hk : ∀ x, (enc x).length = k) (hk0 : 0 < k) (d : Array α) : (Go.Sort.flatK enc k d).toList = fl enc d.toList := by
  apply List.ext_getElem?
  intro t
  by_cases h : t < d.size * k
  · have h1 : (Go.Sort.flatK enc k d).toList[t]? = some ((enc d[t / k]!)[t % k]!) := by
      rw [Array.getElem?_toList, Array.getElem?_eq_getElem (by simpa using h), ← getElem!_pos _ t (by simpa using h), Go.Sort.get_flatK enc k d t h]
    have hi : t / k < d.toList.length := by rw [Array.length_toList]; exact Nat.div_lt_of_lt_mul (by rw [Nat.mul_comm]; exact h)
    have hm : t % k < k := Nat.mod_lt _ hk0
    have q := fl_at hk d.toList (t / k) hi (t % k) hm
    have ht : t / k * k + t % k = t := by rw [Nat.mul_comm]; exact Nat.div_add_mod t k
    rw [ht] at q
    have hd : d[t / k]! = d.toList[t / k] := by rw [getElem!_pos d (t / k) (by simpa using hi)]; simp
    rw [h1, q, hd, getElem!_pos _ _ (by rw [hk]; exact hm), List.getElem?_eq_getElem]
  · rw [List.getElem?_eq_none (by simp; omega), List.getElem?_eq_none (by rw [fl_len hk]; simp; omega)]
theorem row_holds (hk : ∀ x, (enc x).length = k) (hk0 : 0 < k) {w : World} {base g c : Nat} {l : List α} (h : Row enc k e w base g c l) : Go.Sort.HoldsK enc k w g 0 l.toArray := by
  obtain ⟨cur, rest, hg, _, hc, _, hs, ht⟩ := row_form h
  intro j hj
  have hj' : j < l.length * k := by simpa using hj
  have hf := flat_fl hk hk0 l.toArray
  rw [Nat.zero_add]
  refine ⟨?_, blk_frozen hg j⟩
  rw [blk_cell hg j]
  have hjl : j < (fl enc l).length := by rw [fl_len hk]; exact hj'
  have h1 : (fl enc l)[j]? = cur[j]? := by rw [← Array.getElem?_toList, ht, List.getElem?_append_left hjl]
  rw [← h1]
  have h2 : (Go.Sort.flatK enc k l.toArray)[j]! = (fl enc l)[j]'hjl := by
    rw [getElem!_pos _ j hj]
    have : (Go.Sort.flatK enc k l.toArray)[j] = (Go.Sort.flatK enc k l.toArray).toList[j]'(by simpa using hj) := by simp
    rw [this]
    simp only [hf]
  rw [h2, List.getElem?_eq_getElem hjl]
  rfl
/-- the world behind a sort: the row holds the list sorted; every other block stands -/
theorem sortWorld_rowK (hk : ∀ x, (enc x).length = k) (hk0 : 0 < k) {w : World} {base g c : Nat} {l s : List α} (h : Row enc k e w base g c l) (hs : s.length = l.length) (m : Nat) (os : Array Obj) :
    Row enc k e (sortWorldK enc k w g 0 m s.toArray os) base g c s ∧ w.grownBy (sortWorldK enc k w g 0 m s.toArray os) (some g) := by
  obtain ⟨cur, rest, hg, hb, hc, hm, hz, ht⟩ := row_form h
  have hlt := (Array.getElem?_eq_some_iff.1 hg).1
  have hFs : (Go.Sort.flatK enc k s.toArray).size = l.length * k := by simp [hs]
  have hh : (sortWorldK enc k w g 0 m s.toArray os).heap[g]? = some (.cells (Go.Sort.putCells id 0 (Go.Sort.flatK enc k s.toArray) cur) e (0, 0)) := by
    show ((w.heap.modify g (Go.Sort.onCells (Go.Sort.putCells id 0 (Go.Sort.flatK enc k s.toArray)))) ++ os)[g]? = _
    rw [Array.getElem?_append_left (by simpa using hlt), Array.getElem?_modify, if_pos rfl, hg]
    rfl
  have ho : ∀ k', k' < w.heap.size → k' ≠ g → (sortWorldK enc k w g 0 m s.toArray os).heap[k']? = w.heap[k']? := by
    intro k' hk' hne
    show ((w.heap.modify g (Go.Sort.onCells (Go.Sort.putCells id 0 (Go.Sort.flatK enc k s.toArray)))) ++ os)[k']? = _
    rw [Array.getElem?_append_left (by simpa using hk'), Array.getElem?_modify, if_neg (fun e => hne e.symm)]
  have hck : l.length * k ≤ c * k := Nat.mul_le_mul_right k hc
  have hcur : (Go.Sort.putCells id 0 (Go.Sort.flatK enc k s.toArray) cur).toList = fl enc s ++ (Go.Sort.putCells id 0 (Go.Sort.flatK enc k s.toArray) cur).toList.drop (l.length * k) := by
    have hF' : (Go.Sort.flatK enc k s.toArray).toList = fl enc s := by simpa using flat_fl hk hk0 s.toArray
    rw [← hF']
    refine (List.take_append_drop (l.length * k) _).symm.trans ?_
    congr 1
    apply List.ext_getElem?
    intro t
    rw [List.getElem?_take]
    by_cases htt : t < l.length * k
    · rw [if_pos htt, Array.getElem?_toList, Array.getElem?_toList]
      have h1 : t < cur.size := by rw [hz]; omega
      have h2 : t < (Go.Sort.flatK enc k s.toArray).size := by rw [hFs]; omega
      unfold Go.Sort.putCells
      rw [Array.getElem?_mapIdx, Array.getElem?_eq_getElem h1, Option.map_some, if_pos ⟨Nat.zero_le _, by omega⟩, Array.getElem?_eq_getElem h2]
      simp only [id, Nat.sub_zero]
      rw [getElem!_pos _ t h2]
    · rw [if_neg htt, Array.getElem?_toList, Array.getElem?_eq_none (by rw [hFs]; omega)]
  refine ⟨row_mk hk hh hb (by omega) hm (by simp [Go.Sort.putCells, hz]) hcur, ⟨rfl, rfl, rfl, ?_, fun k' hk' hne => ho k' hk' (fun e => hne (by rw [e]))⟩⟩
  show w.heap.size ≤ ((w.heap.modify g _) ++ os).size
  simp
end
instance : Inhabited S26 := ⟨z26⟩
theorem cmpE_lays (g size : Nat) (w : World) : CmpLays Try.prog 44 #[] encE 5 cmpE g 0 size w :=
  fun _ _ _ _ x y => (cmpE_walk x y _).mono fun _ _ h => h
theorem ed_agg (w : World) : (isAgg 26).run Try.prog w = .ok true w := by kernel_rfl
theorem ed_size (w : World) : (Go.sizeOf 26).run Try.prog w = .ok 5 w := by kernel_rfl
/-- the library's sort of edges -/
theorem sortEd_walk (w : World) (base g c : Nat) (l : List S26) (h : EdRow w base g c l) (hm : l.length ≤ 1000000000) :
    Calls Try.prog 43 #[.slice (some ⟨g, 0, none⟩) l.length c, .func (.func 44) #[] #[]] w fun e w' =>
      e = .returned (.tuple #[]) ∧ ∃ s, s.Perm l ∧ s.Pairwise (fun a b => ¬ cmpE b a < 0) ∧ EdRow w' base g c s ∧ w.grownBy w' (some g) := by
  have eg : ∀ args w, (callFunc 44 args).run Try.prog w = .ok (.enter 44 args) w := enters_of Try.func44 (by kernel_rfl) rfl
  have hlt := row_lt h
  have hcon := AnyQ.slices_SortFunc Try.sortEd 5 ed_agg ed_size encE (fun _ => rfl) (fun x v hv => by simp [encE] at hv; rcases hv with rfl | rfl | rfl | rfl | rfl <;> rfl) cmpE ord_cmpE.swo 44 #[] g 0 c l.toArray w eg (cmpE_lays g _ w) (row_holds encE_len' (by omega) h) hlt (by simp; omega)
  refine (show Calls Try.prog 43 _ _ _ from hcon).mono ?_
  rintro e w' ⟨rfl, d', n, os, hp, hs, rfl⟩
  obtain ⟨p1, _, p3⟩ := hp
  have hs' : d'.toList.length = l.length := by simpa using p1
  have hr := sortWorld_rowK encE_len' (by omega) h (s := d'.toList) hs' n os
  refine ⟨rfl, d'.toList, ?_, ?_, hr.1, hr.2⟩
  · have e1 : (d'.extract 0 l.toArray.size) = d' := by rw [← p1]; simp
    rw [e1] at p3
    simpa using p3
  · rw [List.pairwise_iff_getElem]
    intro i j hi hj hij
    have := hs i j (Nat.zero_le _) hij (by simpa [hs'] using hj)
    have h2 := of_decide_eq_false this
    rw [getElem!_pos d' i (by simpa using hi), getElem!_pos d' j (by simpa using hj)] at h2
    simpa using h2
theorem sortEd_none (w : World) (a : Option Addr) (c : Nat) : Calls Try.prog 43 #[.slice a 0 c, .func (.func 44) #[] #[]] w fun e w' => e = .returned (.tuple #[]) ∧ w' = w :=
  AnyF.slices_SortFunc_none Try.sortEd a c (.func (.func 44) #[] #[]) w
end Go.Proofs.Ytdepmcofnlggaaa.PResolverCycles
end
