/- resolver.away, walked. (ahead of it: resolver.graph, walked. The closure that looks for the next one on the way back, walked. slices.IndexFunc of identities, walked. The first that is so far in a row in order is the next one on the way back. The memory of the walk backwards: a map of distances, a queue.) -/
import Derived.Test.YtdepmcofnlggaaaPkB
import Derived.Test.YtdepmcofnlggaaaPkC
import Derived.Deep.LoopGhost
import Derived.Deep.RegionHeldLaw
import Derived.Deep.DrawnRows
import Derived.Test.YtdepmcofnlggaaaPkA
section
set_option linter.unusedVariables false
set_option linter.unusedSimpArgs false
attribute [local go_sem ↓] Go.wp_at_zero Go.wp_at_succ
namespace Go.Proofs.Ytdepmcofnlggaaa.PResolverCycles
open Go.RowKit Go.Proofs.YtdepmcofnlggaaaW.PrintWords Go.Proofs.YtdepmcofnlggaaaW.PrintLast Go.Proofs.YtdepmcofnlggaaaW.PrintMore
open Classical

/-- edges that lie one behind the other -/
def EdgesAt (w : World) (G O : Nat) (l : List S26) : Prop := ∀ j (h : j < l.length),
  w.cell? ⟨G, O + j * 5, none⟩ = some (.string l[j].f0) ∧ w.cell? ⟨G, O + j * 5 + 1, none⟩ = some (.int .i64 l[j].f1.f0) ∧ w.cell? ⟨G, O + j * 5 + 2, none⟩ = some (.int .i64 l[j].f1.f1) ∧ w.cell? ⟨G, O + j * 5 + 3, none⟩ = some (.int .i64 l[j].f2.f0) ∧ w.cell? ⟨G, O + j * 5 + 4, none⟩ = some (.int .i64 l[j].f2.f1)
theorem EdgesAt.below {w w' : World} {G O : Nat} {l : List S26} (h : EdgesAt w G O l) (hb : Below w.heap.size w w') : EdgesAt w' G O l := fun j hj => by
  obtain ⟨a, b, c, d, e⟩ := h j hj
  exact ⟨pw_cell_below hb a, pw_cell_below hb b, pw_cell_below hb c, pw_cell_below hb d, pw_cell_below hb e⟩
noncomputable def rowOf (key val : S26 → S24) (l : List S26) (a : S24) : List S24 := (l.filter (fun e => decide (key e = a))).map val
theorem rowOf_push (key val : S26 → S24) (l : List S26) (e : S26) : rowOf key val (l ++ [e]) = pushF (rowOf key val l) (key e) (val e) := by
  funext a
  unfold rowOf pushF
  rw [List.filter_append, List.map_append]
  by_cases h : a = key e
  · subst h; simp
  · rw [if_neg h]
    simp [Ne.symm h]
theorem rowOf_len (key val : S26 → S24) (l : List S26) (a : S24) : (rowOf key val l a).length ≤ l.length := by
  unfold rowOf
  rw [List.length_map]
  exact List.length_filter_le _ _
theorem rowOf_nil (key val : S26 → S24) : rowOf key val [] = fun _ => [] := rfl
theorem take_edge (l : List S26) (m : Nat) (h : m < l.length) : l.take (m + 1) = l.take m ++ [l[m]] := by
  rw [List.take_add_one, List.getElem?_eq_getElem h]; rfl
theorem run_make54 (w : World) : (Instr.makeMap 54 none).run Try.prog w = .ok (.map (some w.heap.size)) (w.alloc (.map #[] 0)) := rfl
/-- an append whose run is known -/
theorem wpList_append_run {P : Program} {w : World} {ops : Array Oper} {rest : List Oper} {o : Oper} {a : Act} {Q : Exit → Act → World → Prop} (hgd : o.guard = none) (s x : Operand) (t : TypeId)
    (ho : o.op = .call { callee := .builtin .append, args := #[s, x], argTypes := #[t, t] }) (v v2 v' : Value) (w' : World) (hs : a.eval s = v) (hx : a.eval x = v2)
    (hr : (Builtin.append_ #[t, t] o.type #[v, v2]).run P w = .ok v' w') (h : wpList P ops Q rest (a.put o.dst v') w') : wpList P ops Q (o :: rest) a w := by
  refine wpList_plain hgd fun K hK => ?_
  unfold Oper.wp execOp
  simp only [ho, resolve, invoke, builtin, Sem.run_bind, Sem.run_pure, Result.andThen_ok, List.map_toArray, List.map_cons, List.map_nil, hs, hx, hr]
  exact hK _ _ h
set_option maxHeartbeats 2000000 in
set_option maxRecDepth 20000 in
theorem graph_walk (w : World) (G O c : Nat) (l : List S26) (hE : EdgesAt w G O l) (hc : l.length ≤ c) (hm : l.length ≤ 1000) (hin : ∀ e ∈ l, InId e.f1 ∧ InId e.f2) :
    Calls Try.prog 25 #[.slice (some ⟨G, O, none⟩) l.length c] w fun e w' =>
      ∃ b f g c, e = .returned (.map (some b)) ∧ RowsMap w' w.heap.size b f g c ∧ (∀ a, Rc.SortedOf ltI (rowOf (·.f1) (·.f2) l a) (f a)) ∧ (∀ a, f a ≠ [] ↔ rowOf (·.f1) (·.f2) l a ≠ []) ∧ Below w.heap.size w w' := by
  obtain ⟨n, hN⟩ : ∃ n, n = l.length := ⟨_, rfl⟩
  rw [← hN] at hc hm ⊢
  replace hN := Go.Lib.hid hN
  have hin' := Go.Lib.hid hin
  clear hin
  obtain ⟨B0, hB0⟩ : ∃ b, b = w.heap.size := ⟨_, rfl⟩
  have hB : Below B0 w (w.alloc (.map #[] 0)) := by rw [hB0]; exact below_alloc (Below.refl _ _) _
  have hR : RowsMap (w.alloc (.map #[] 0)) B0 B0 (rowOf (·.f1) (·.f2) (l.take 0)) (fun _ => 0) (fun _ => 0) := by
    rw [hB0]; exact RowsMap.made w (Nat.le_refl _) _ _
  have hE0 := Go.Lib.hid (show ∀ w', Below B0 w w' → EdgesAt w' G O l from fun w' hb => hE.below (by rw [← hB0]; exact hb))
  have hs0 : B0 ≤ (w.alloc (.map #[] 0)).heap.size := by rw [hB0]; simp
  have hmk := run_make54 w
  go_enter Try.func25, Try.ntmps25
  go_wp2_with fail
  rw [← hB0]
  generalize w.alloc (.map #[] 0) = W at *
  replace hB0 := Go.Lib.hid hB0
  clear hE
  go_loopw [10] (fun i wr => ∃ j : Nat, j ≤ n ∧ i = .int .i64 (j : Int) ∧ Below B0 w wr ∧ B0 ≤ wr.heap.size ∧ ∃ g c, RowsMap wr B0 B0 (rowOf (·.f1) (·.f2) (l.take j)) g c) (fun i _ => n - (intOf i).toNat)
  case atStart => exact ⟨0, by omega, rfl, hB, hs0, _, _, hR⟩
  case round =>
    clear hB hR hs0
    obtain ⟨j, hj, rfl, hBr, hsr, gr, cr, hRr⟩ := hrel
    by_cases hlt : j < n
    · have hltz : (j : Int) < (n : Int) := by omega
      have hjl : j < l.length := by rw [← hN.out]; exact hlt
      obtain ⟨a0, a1, a2, a3, a4⟩ := hE0.out wr hBr j hjl
      have htk := take_edge l j hjl
      have hii := hin'.out l[j] (List.getElem_mem hjl)
      have hll : (l.take j).length ≤ 1000 := by rw [List.length_take]; omega
      generalize l[j] = x at *
      replace htk := Go.Lib.hid htk
      go_upto_region 5 with fail
      have hB1 : Below wr.heap.size wr (wr.alloc (.cells #[.string x.f0, .int .i64 x.f1.f0, .int .i64 x.f1.f1, .int .i64 x.f2.f0, .int .i64 x.f2.f1] 26)) := below_alloc (Below.refl _ _) _
      have hx := heap_alloc_new wr (.cells #[.string x.f0, .int .i64 x.f1.f0, .int .i64 x.f1.f1, .int .i64 x.f2.f0, .int .i64 x.f2.f1] 26)
      have hb0lt := hRr.map.lt
      replace hRr := hRr.below hB1
      replace hBr := hBr.trans (hB1.mono hsr)
      replace hsr := Nat.le_trans hsr hB1.size
      obtain ⟨gx, hgx⟩ : ∃ y, y = wr.heap.size := ⟨_, rfl⟩
      rw [← hgx] at hx hb0lt ⊢
      generalize wr.alloc (.cells #[.string x.f0, .int .i64 x.f1.f0, .int .i64 x.f1.f1, .int .i64 x.f2.f0, .int .i64 x.f2.f1] 26) = V at *
      clear hgx a0 a1 a2 a3 a4 hB1
      have e1 := blk_cell hx 1
      have e2 := blk_cell hx 2
      have e3 := blk_cell hx 3
      have e4 := blk_cell hx 4
      simp only [List.getElem?_toArray, List.getElem?_cons_zero, List.getElem?_cons_succ] at e1 e2 e3 e4
      clear hx
      have hB2 : Below V.heap.size V (V.alloc (.cells #[.int .i64 x.f2.f0, .int .i64 x.f2.f1] 24)) := below_alloc (Below.refl _ _) _
      have hR2 := hRr.below hB2
      have hBr2 := hBr.trans (hB2.mono hsr)
      have hsr2 := Nat.le_trans hsr hB2.size
      have hp := hR2.push hsr2 (a := x.f1) (y := x.f2) hii.1 (Nat.le_trans (rowOf_len _ _ _ _) (by omega)) V.heap.size (heap_alloc_new V _) (by have := hRr.map.lt; omega) 1 27 Try.underlying54
      obtain ⟨v, k, w1, v', w2, w3, r1, r2, r3, ⟨g', c', hR3⟩, hB3, hs3⟩ := hp
      have r1' : (Instr.mapEntry 54 (.map (some B0)) (.agg #[.int .i64 x.f1.f0, .int .i64 x.f1.f1])).run Try.prog (V.alloc (.cells #[.int .i64 x.f2.f0, .int .i64 x.f2.f1] 24)) = .ok (.tuple #[v, goInt (k : Nat)]) w1 := r1
      have r3' : (Instr.entryStore 54 (.map (some B0)) (.int .i64 (k : Int)) v').run Try.prog w2 = .ok () w3 := r3
      clear r1 r3
      replace hR3 := Go.Lib.hid hR3
      replace hB3 := Go.Lib.hid hB3
      replace hs3 := Go.Lib.hid hs3
      go_wp2_with (first | (at_builtin; refine wpList_append_run rfl (.tmp 17) (.tmp 20) 27 rfl _ _ _ _ rfl rfl r2 ?_))
      have hfin : Below B0 w w3 := hBr2.trans (hB3.out B0 (Nat.le_refl _) hsr2 (Below.refl _ _))
      have hR4 : RowsMap w3 B0 B0 (rowOf (·.f1) (·.f2) (l.take (j + 1))) g' c' := by rw [htk.out, rowOf_push]; exact hR3.out
      go_round
      case rel => exact ⟨j + 1, hlt, rfl, hfin, Nat.le_trans hsr2 hs3.out, g', c', hR4⟩
      case measure => simp only [intOf]; omega
    · obtain rfl : j = n := by omega
      have hT : l.take j = l := by rw [hN.out, List.take_length]
      rw [hT] at hRr
      have hlenF : ∀ a, (rowOf (·.f1) (·.f2) l a).length ≤ 1000 := fun a => Nat.le_trans (rowOf_len _ _ l a) (by rw [← hN.out]; exact hm)
      generalize hF : rowOf (·.f1) (·.f2) l = F at *
      replace hF := Go.Lib.hid hF
      obtain ⟨L, w1, hrun, hRR, hB1, _⟩ := hRr.range (t := 54) Try.underlying54
      have hB2 := hBr.trans (hB1.mono hsr)
      have hs2 := Nat.le_trans hsr hB1.size
      obtain ⟨r, hr⟩ : ∃ r, r = wr.heap.size := ⟨_, rfl⟩
      have hrB : B0 ≤ r := by rw [hr]; exact hsr
      rw [← hr] at hrun hRR
      clear hRr hB1 hr
      go_wp2_with fail
      go_loopg [27] (leftN L.length (fun _ => false)) (fun k v wq => ∃ f g c l done, k = leftN l.length done ∧ RowsRange wq B0 B0 r F f g c l done done ∧ (∀ x, f x ≠ [] ↔ F x ≠ []) ∧ Below B0 w wq ∧ B0 ≤ wq.heap.size)
      case atStart => exact ⟨F, gr, cr, L, _, rfl, hRR, fun _ => Iff.rfl, hB2, hs2⟩
      case round =>
        clear hRR hB2 hs2 hrun
        obtain ⟨f, g, c3, l3, done, rfl, hR, hne, hBq, hsq⟩ := hrel
        rcases hR.next 0 with ⟨hall, hrun⟩ | ⟨i, a, w2, hi, ha, hfa, hd, hrun, hR2, hg2, hs2, hent⟩
        · have hfin : ∃ b f g c, (Value.map (some B0)) = .map (some b) ∧ RowsMap wr B0 b f g c ∧ (∀ a, Rc.SortedOf ltI (F a) (f a)) ∧ (∀ a, f a ≠ [] ↔ F a ≠ []) ∧ Below B0 w wr := ⟨B0, f, g, c3, rfl, hR.map, fun a => by
            by_cases e : f a = []
            · have e2 : F a = [] := Classical.byContradiction fun h => (hne a).2 h e
              rw [e, e2]
              exact ⟨List.Pairwise.nil, fun _ => Iff.rfl⟩
            · exact hR.fin_ hall a e, hne, hBq⟩
          clear hR hne hBq
          replace hfin := Go.Lib.hid hfin
          go_wp2_with fail
          go_ret
          obtain ⟨b, f, g, c, e1, e2, e3, e4, e5⟩ := hfin.out
          rw [← hB0.out, hF.out]
          exact ⟨b, f, g, c, by rw [← e1]; rfl, e2, e3, e4, e5⟩
        · have hlow := leftN_less (done := done) (List.getElem?_eq_some_iff.1 hi).1 hd
          have hfF := (hR.prog i _ a hi rfl).2
          rw [hd] at hfF
          simp only [Bool.false_eq_true, if_false] at hfF
          have hB3 : Below B0 w w2 := pw_below_grown hBq _ hsq hg2 (fun k hk => by cases hk; exact hrB)
          unfold idV at hrun hent
          clear hR hg2 hBq
          replace hlow := Go.Lib.hid hlow
          go_upto_region 10 with fail
          have hA := below_alloc (Below.refl w2.heap.size w2) (.cells #[.int .i64 a.f0, .int .i64 a.f1] 24)
          have hx := heap_alloc_new w2 (.cells #[.int .i64 a.f0, .int .i64 a.f1] 24)
          have hsz : B0 ≤ w2.heap.size := by rw [hs2]; exact hsq
          have hR4 := hR2.below hA
          have hB4 := hB3.trans (hA.mono hsz)
          have hs4 := Nat.le_trans hsz hA.size
          obtain ⟨gx, hgx⟩ : ∃ y, y = wr.heap.size := ⟨_, rfl⟩
          rw [hs2, ← hgx] at hx
          rw [← hgx]
          generalize w2.alloc (.cells #[.int .i64 a.f0, .int .i64 a.f1] 24) = V at *
          have a0 := blk_cell hx 0
          have a1 := blk_cell hx 1
          simp only [List.getElem?_toArray, List.getElem?_cons_zero, List.getElem?_cons_succ] at a0 a1
          have hbx : some gx ≠ some B0 := by
            have h9 := hR2.map.map.lt
            rw [hs2, ← hgx] at h9
            intro e
            cases e
            exact Nat.lt_irrefl _ h9
          replace hbx := Go.Lib.hid hbx
          clear hx hA hR2 hB3 hrun hent
          have hD : Below V.heap.size V V.drew := below_drew (Below.refl _ _)
          have d0 := pw_cell_below hD a0
          have d1 := pw_cell_below hD a1
          have hR5 := hR4.below hD
          have hB5 := hB4.trans (hD.mono hs4)
          have hs5 : B0 ≤ V.drew.heap.size := Nat.le_trans hs4 hD.size
          have hL := hR5.map.map.lookup (t := 54) Try.underlying54 (zero27 V.drew) ha false
          unfold rowF at hL
          rw [if_neg hfa] at hL
          simp only [Bool.false_eq_true, if_false, Option.getD_some] at hL
          unfold idV rowV at hL
          have HS := age_sort V.drew ⟨g a, 0, none⟩ (c3 a) (f a) (idrow_ids (hR5.rows a hfa)) (List.length_pos_iff.2 hfa) (by rw [hfF]; exact Nat.le_trans (hlenF a) (by omega))
          have hS : V.drew.cell? ⟨gx, 0, none⟩ = some (.int .i64 a.f0) ∧ V.drew.cell? ⟨gx, 1, none⟩ = some (.int .i64 a.f1) := ⟨d0, d1⟩
          have hlay := fun (u : World) (g1 c1 : Nat) (s : List S24) (h1 : Rc.SortedOf ltI (f a) s) (h2 : IdRow u V.drew.heap.size g1 c1 s) (h3 : Below V.drew.heap.size V.drew u) => lay_row hR5 hs5 hi ha hfF h1 h2 h3
          replace hlay := Go.Lib.hid hlay
          replace hfF := Go.Lib.hid hfF
          clear hgx a0 a1 d0 d1 hj hlt hT hR5 hR4 hi hd hD
          go_region_held_law (fun w' => w'.cell? ⟨gx, 0, none⟩ = some (.int .i64 a.f0) ∧ w'.cell? ⟨gx, 1, none⟩ = some (.int .i64 a.f1))
            (first | exact hS | exact ⟨pw_cell_below hbu hS.1, pw_cell_below hbu hS.2⟩ | exact ⟨hgu.cell (pw_cell_below hbu hS.1) hbx.out, hgu.cell (pw_cell_below hbu hS.2) hbx.out⟩)
            ((first
              | (go_at_call 26; refine HS.mono ?_; rintro e u ⟨g1, c1, s, rfl, hso, hrow, hbu⟩; obtain ⟨w5, f', g', c', l', hup, hR7, hll, hnn, hb7, hs7, hgu⟩ := hlay.out u g1 c1 s hso hrow hbu; replace hR7 := Go.Lib.hid hR7; replace hnn := Go.Lib.hid hnn)))
          all_goals
            go_wp2_with fail
            go_roundg (leftN l'.length (fun j => done j || j == i))
            case rel => exact ⟨f', g', c', l', _, rfl, hR7.out, fun x => (hnn.out x).trans (hne x), hB5.trans hb7, hs7⟩
            case measure => rw [hll]; exact hlow.out
end Go.Proofs.Ytdepmcofnlggaaa.PResolverCycles
end
section
set_option linter.unusedVariables false
set_option linter.unusedSimpArgs false
attribute [local go_sem ↓] Go.wp_at_zero Go.wp_at_succ
namespace Go.Proofs.Ytdepmcofnlggaaa.PResolverCycles
open Go.RowKit Go.Proofs.YtdepmcofnlggaaaW.PrintWords Go.Proofs.YtdepmcofnlggaaaW.PrintLast Go.Proofs.YtdepmcofnlggaaaW.PrintMore
open Classical

def farV (far : S24 → Option Nat) (a : S24) : Option Value := (far a).map fun m => .int .i64 (m : Int)
theorem zero3 (w : World) : (zeroValue 3).run Try.prog w = .ok (.int .i64 0) w := by kernel_rfl
set_option maxHeartbeats 1000000 in
set_option maxRecDepth 20000 in
theorem pick_walk (w : World) (b q1 q2 q3 : Nat) (far : S24 → Option Nat) (n : Nat) (from_ x : S24) (hM : MapIs w b (farV far)) (h1 : w.cell? ⟨q1, 0, none⟩ = some (.map (some b))) (h2 : w.cell? ⟨q2, 0, none⟩ = some (.int .i64 (n : Int)))
    (h3 : w.cell? ⟨q3, 0, none⟩ = some (.int .i64 from_.f0)) (h4 : w.cell? ⟨q3, 1, none⟩ = some (.int .i64 from_.f1)) (hx : InId x) :
    Calls Try.prog 66 #[idV x, .pointer (some ⟨q1, 0, none⟩), .pointer (some ⟨q2, 0, none⟩), .pointer (some ⟨q3, 0, none⟩)] w fun e w' => e = .returned (.bool (decide (far x = some n ∧ x ≠ from_))) ∧ Below w.heap.size w w' := by
  have hB := below_alloc (Below.refl w.heap.size w) (.cells #[.int .i64 x.f0, .int .i64 x.f1] 24)
  have hnew := heap_alloc_new w (.cells #[.int .i64 x.f0, .int .i64 x.f1] 24)
  have k0 := blk_cell hnew 0
  have k1 := blk_cell hnew 1
  simp only [List.getElem?_toArray, List.getElem?_cons_zero, List.getElem?_cons_succ] at k0 k1
  clear hnew
  replace h1 := pw_cell_below hB h1
  replace h2 := pw_cell_below hB h2
  replace h3 := pw_cell_below hB h3
  replace h4 := pw_cell_below hB h4
  have hL := (hM.below hB).lookup (t := 62) Try.underlying62 (zero3 _) hx true
  unfold idV at hL ⊢
  simp only [if_true] at hL
  cases hf : far x with
  | none =>
    have hv : farV far x = none := by simp [farV, hf]
    rw [hv] at hL
    simp only [Option.getD_none, Option.isSome_none] at hL
    have hr : decide ((none : Option Nat) = some n ∧ x ≠ from_) = false := by simp
    rw [hr]
    replace hf := Go.Lib.hid hf
    go_enter Try.func66, Try.ntmps66
    go_wp2_with fail
    go_ret
    exact ⟨rfl, hB⟩
  | some m =>
    have hv : farV far x = some (.int .i64 (m : Int)) := by simp [farV, hf]
    rw [hv] at hL
    simp only [Option.getD_some, Option.isSome_some] at hL
    clear hv
    replace hf := Go.Lib.hid hf
    by_cases hmn : m = n
    · subst hmn
      have key : (x = from_) ∨ (x.f0 == from_.f0) = false ∨ ((x.f0 == from_.f0) = true ∧ (x.f1 == from_.f1) = false) := by
        by_cases e0 : x.f0 = from_.f0
        · by_cases e1 : x.f1 = from_.f1
          · exact .inl (id_ext e0 e1)
          · exact .inr (.inr ⟨by simpa using e0, by simpa using e1⟩)
        · exact .inr (.inl (by simpa using e0))
      rcases key with e | d1 | ⟨d1, d2⟩
      · have hr : decide (some m = some m ∧ x ≠ from_) = false := by simp [e]
        rw [hr]
        subst e
        go_enter Try.func66, Try.ntmps66
        go_wp2_with fail
        go_ret
        exact ⟨rfl, hB⟩
      · have hr : decide (some m = some m ∧ x ≠ from_) = true := decide_eq_true ⟨rfl, fun e => by rw [e] at d1; simp at d1⟩
        rw [hr]
        clear hr
        go_enter Try.func66, Try.ntmps66
        go_wp2_with fail
        go_ret
        exact ⟨rfl, hB⟩
      · have hr : decide (some m = some m ∧ x ≠ from_) = true := decide_eq_true ⟨rfl, fun e => by rw [e] at d2; simp at d2⟩
        rw [hr]
        clear hr
        go_enter Try.func66, Try.ntmps66
        go_wp2_with fail
        go_ret
        exact ⟨rfl, hB⟩
    · have hr : decide (some m = some n ∧ x ≠ from_) = false := by simp [hmn]
      have hbe : ((m : Int) == (n : Int)) = false := by simp; omega
      rw [hr]
      clear hr
      replace hmn := Go.Lib.hid hmn
      go_enter Try.func66, Try.ntmps66
      go_wp2_with fail
      go_ret
      exact ⟨rfl, hB⟩
end Go.Proofs.Ytdepmcofnlggaaa.PResolverCycles
end
section
set_option linter.unusedVariables false
set_option linter.unusedSimpArgs false
attribute [local go_sem ↓] Go.wp_at_zero Go.wp_at_succ
namespace Go.Proofs.Ytdepmcofnlggaaa.PResolverCycles
open Go.RowKit Go.Proofs.YtdepmcofnlggaaaW.PrintWords Go.Proofs.YtdepmcofnlggaaaW.PrintLast Go.Proofs.YtdepmcofnlggaaaW.PrintMore
open Classical

/-- where the first one lies -/
def FirstAt (p : S24 → Bool) (l : List S24) (r : Int) : Prop :=
  (∃ (i : Nat) (x : S24), l[i]? = some x ∧ r = (i : Int) ∧ p x = true ∧ ∀ y ∈ l.take i, p y = false) ∨ (r = -1 ∧ ∀ y ∈ l, p y = false)
theorem ids_cell {w : World} {G O : Nat} {l : List S24} (h : IdsAt w ⟨G, O, none⟩ l) (i : Nat) (hi : i < l.length) : w.cell? ⟨G, O + i * 2, none⟩ = some (.int .i64 l[i].f0) ∧ w.cell? ⟨G, O + i * 2 + 1, none⟩ = some (.int .i64 l[i].f1) := by
  obtain ⟨a, b⟩ := idc_at l i hi
  have h0 := h _ _ a
  have h1 := h _ _ b
  have ad : ∀ n, (⟨G, O, none⟩ : Addr).add n = ⟨G, O + n, none⟩ := fun n => by unfold Addr.add; split <;> simp_all
  rw [ad] at h0 h1
  exact ⟨h0, h1⟩
set_option maxHeartbeats 1000000 in
set_option maxRecDepth 20000 in
theorem index_walk (w : World) (G O c : Nat) (l : List S24) (q1 q2 q3 : Addr) (p : S24 → Bool) (hI : IdsAt w ⟨G, O, none⟩ l) (hm : l.length ≤ 1000000)
    (hcall : ∀ x ∈ l, ∀ u, Below w.heap.size w u → Calls Try.prog 66 #[idV x, .pointer (some q1), .pointer (some q2), .pointer (some q3)] u fun e u' => e = .returned (.bool (p x)) ∧ Below u.heap.size u u') :
    Calls Try.prog 65 #[.slice (some ⟨G, O, none⟩) l.length c, .func (.func 66) #[] #[.pointer (some q1), .pointer (some q2), .pointer (some q3)]] w fun e w' =>
      ∃ r, e = .returned (.int .i64 r) ∧ FirstAt p l r ∧ Below w.heap.size w w' := by
  obtain ⟨n, hN⟩ : ∃ n, n = l.length := ⟨_, rfl⟩
  rw [← hN] at hm ⊢
  replace hN := Go.Lib.hid hN
  replace hcall := Go.Lib.hid hcall
  replace hI := Go.Lib.hid hI
  go_enter Try.func65, Try.ntmps65
  go_wp2_with fail
  go_loopw [8] (fun i wr => ∃ j : Nat, j ≤ n ∧ i = .int .i64 (j : Int) ∧ Below w.heap.size w wr ∧ ∀ y ∈ l.take j, p y = false) (fun i _ => n - (intOf i).toNat)
  case atStart => exact ⟨0, by omega, rfl, Below.refl _ _, by simp⟩
  case round =>
    obtain ⟨j, hj, rfl, hB, hno⟩ := hrel
    replace hno := Go.Lib.hid hno
    by_cases hlt : j < n
    · have hltz : (j : Int) < (n : Int) := by omega
      have hjl : j < l.length := by rw [← hN.out]; exact hlt
      obtain ⟨a0, a1⟩ := ids_cell (hI.out.below hB) j hjl
      have hgx := Go.Lib.hid (List.getElem?_eq_getElem hjl)
      have H := hcall.out l[j] (List.getElem_mem hjl) wr hB
      have htk : l.take (j + 1) = l.take j ++ [l[j]] := by rw [List.take_add_one, List.getElem?_eq_getElem hjl]; rfl
      replace htk := Go.Lib.hid htk
      generalize l[j] = x at *
      unfold idV at H
      cases hp : p x with
      | true =>
        rw [hp] at H
        have hF := Go.Lib.hid (show FirstAt p l (j : Int) from .inl ⟨j, x, hgx.out, rfl, hp, hno.out⟩)
        replace hp := Go.Lib.hid hp
        go_wp2_with (go_at_call 66; refine H.mono ?_; rintro e u ⟨rfl, hu⟩)
        go_ret
        exact ⟨(j : Int), rfl, hF.out, hB.trans (hu.mono hB.size)⟩
      | false =>
        rw [hp] at H
        have hF := Go.Lib.hid (show ∀ y ∈ l.take (j + 1), p y = false from fun y hy => by
          rw [htk.out] at hy
          rcases List.mem_append.1 hy with h | h
          · exact hno.out y h
          · rw [List.mem_singleton.1 h]; exact hp)
        replace hp := Go.Lib.hid hp
        have hw64 : wrap64 ((j : Int) + 1) = ((j + 1 : Nat) : Int) := by unfold wrap64; omega
        have hme : n - (j + 1) < n - j := by clear hw64; omega
        replace hme := Go.Lib.hid hme
        go_wp2_with (go_at_call 66; refine H.mono ?_; rintro e u ⟨rfl, hu⟩)
        go_round
        case rel => exact ⟨j + 1, hlt, rfl, hB.trans (hu.mono hB.size), hF.out⟩
        case measure => simpa [intOf] using hme.out
    · obtain rfl : j = n := by omega
      have hF : FirstAt p l (-1) := .inr ⟨rfl, by have := hno.out; rwa [hN.out, List.take_length] at this⟩
      replace hF := Go.Lib.hid hF
      go_wp2_with fail
      go_ret
      exact ⟨-1, rfl, hF.out, hB⟩
end Go.Proofs.Ytdepmcofnlggaaa.PResolverCycles
end
section
set_option linter.unusedVariables false
set_option linter.unusedSimpArgs false
namespace Go.Proofs.Ytdepmcofnlggaaa.PResolverCycles
open Go.RowKit Go.Proofs.YtdepmcofnlggaaaW.PrintWords Go.Proofs.YtdepmcofnlggaaaW.PrintLast Go.Proofs.YtdepmcofnlggaaaW.PrintMore
open Classical

/-- the edges as pairs: who waits, for whom -/
def edgesOf (l : List S26) : List (S24 × S24) := l.map fun e => (e.f1, e.f2)
theorem mem_rowOf (l : List S26) (a x : S24) : x ∈ rowOf (·.f1) (·.f2) l a ↔ (a, x) ∈ edgesOf l := by
  unfold rowOf edgesOf
  simp only [List.mem_map, List.mem_filter, decide_eq_true_eq, Prod.mk.injEq]
  constructor
  · rintro ⟨e, ⟨h1, h2⟩, h3⟩; exact ⟨e, h1, h2, h3⟩
  · rintro ⟨e, h1, h2, h3⟩; exact ⟨e, ⟨h1, h2⟩, h3⟩
theorem mem_backOf (l : List S26) (a x : S24) : x ∈ rowOf (·.f2) (·.f1) l a ↔ (x, a) ∈ edgesOf l := by
  unfold rowOf edgesOf
  simp only [List.mem_map, List.mem_filter, decide_eq_true_eq, Prod.mk.injEq]
  constructor
  · rintro ⟨e, ⟨h1, h2⟩, h3⟩; exact ⟨e, h1, h3, h2⟩
  · rintro ⟨e, h1, h2, h3⟩; exact ⟨e, ⟨h1, h3⟩, h2⟩
theorem edges_len (l : List S26) : (edgesOf l).length = l.length := by simp [edgesOf]
section
variable {E : List (S24 × S24)} {to_ at_ : S24} {n : Nat} {s : List S24} {far : S24 → Option Nat} {r : Int}
theorem first_next (hs : s.Pairwise ltI) (hm : ∀ x, x ∈ s ↔ (at_, x) ∈ E) (hfar : ∀ x, far x = Rc.dist ltI E to_ x) (hn : 0 < n)
    (h : FirstAt (fun x => decide (far x = some n ∧ x ≠ to_)) s r) (hex : ∃ g, (at_, g) ∈ E ∧ Rc.dist ltI E to_ g = some n) : ∃ (i : Nat) (x : S24), s[i]? = some x ∧ r = (i : Int) ∧ Rc.Next ltI E to_ at_ n x := by
  have hp : ∀ g, Rc.dist ltI E to_ g = some n → decide (far g = some n ∧ g ≠ to_) = true := fun g hg => decide_eq_true ⟨(hfar g).trans hg, fun e => by
    rw [e, Rc.dist_zero.2 rfl] at hg
    cases hg
    omega⟩
  rcases h with ⟨i, x, hi, hr, hx, hno⟩ | ⟨_, hno⟩
  · have hx' := of_decide_eq_true hx
    obtain ⟨hil, hie⟩ := List.getElem?_eq_some_iff.1 hi
    refine ⟨i, x, hi, hr, (hm x).1 (List.mem_of_getElem? hi), (hfar x).symm.trans hx'.1, fun g hg hd hlt => ?_⟩
    obtain ⟨k, hk⟩ := List.getElem?_of_mem ((hm g).2 hg)
    obtain ⟨hkl, hke⟩ := List.getElem?_eq_some_iff.1 hk
    rw [List.pairwise_iff_getElem] at hs
    rcases Nat.lt_trichotomy k i with q | q | q
    · have : g ∈ s.take i := by
        rw [List.mem_iff_getElem?]
        exact ⟨k, by rw [List.getElem?_take, if_pos q, hk]⟩
      have h1 := hno g this
      exact Bool.noConfusion ((hp g hd).symm.trans h1)
    · subst q
      rw [hi] at hk
      cases hk
      exact tot_id.irr _ hlt
    · have h1 := hs i k hil hkl q
      rw [hie, hke] at h1
      exact tot_id.irr _ (tot_id.tr h1 hlt)
  · obtain ⟨g, hg, hd⟩ := hex
    have h1 := hno g ((hm g).2 hg)
    exact Bool.noConfusion ((hp g hd).symm.trans h1)
/-- behind the next one there is one more, until the way is at its end -/
theorem next_more {x : S24} {k : Nat} (h : Rc.Next ltI E to_ at_ (k + 1) x) : ∃ g, (x, g) ∈ E ∧ Rc.dist ltI E to_ g = some k := (Rc.dist_step h.2.1).2
end
end Go.Proofs.Ytdepmcofnlggaaa.PResolverCycles
end
section
set_option linter.unusedVariables false
set_option linter.unusedSimpArgs false
namespace Go.Proofs.Ytdepmcofnlggaaa.PResolverCycles
open Go.RowKit Go.Proofs.YtdepmcofnlggaaaW.PrintWords Go.Proofs.YtdepmcofnlggaaaW.PrintLast Go.Proofs.YtdepmcofnlggaaaW.PrintMore
open Classical

/-- block fb: the distances; v: the queue, in blocks above fb; all below fb as in Wf -/
structure AwM (Wf : World) (fb : Nat) (w : World) (v : Value) (far : S24 → Option Nat) (Q : List S24) : Prop where
  below : Below fb Wf w
  big : fb + 1 ≤ w.heap.size
  map : MapIs w fb (farV far)
  que : ∃ ad c, v = .slice (some ad) Q.length c ∧ (Q ≠ [] → ∃ g o, ad = ⟨g, o * 2, none⟩ ∧ QueueAt w (fb + 1) g o c Q)
theorem queue_block {w w' : World} {base g o c : Nat} {l : List S24} (h : QueueAt w base g o c l) (hb : ∀ i, base ≤ i → i < w.heap.size → w'.heap[i]? = w.heap[i]?) : QueueAt w' base g o c l := h.block (hb g h.lt.1 h.lt.2)
theorem AwM.later {Wf w w' : World} {fb : Nat} {v : Value} {far : S24 → Option Nat} {Q : List S24} (h : AwM Wf fb w v far Q) (hb : Below w.heap.size w w') : AwM Wf fb w' v far Q := by
  obtain ⟨h1, h2, h3, ad, c, e, h4⟩ := h
  refine ⟨h1.trans (hb.mono (by omega)), Nat.le_trans h2 hb.size, h3.below hb, ad, c, e, fun hq => ?_⟩
  obtain ⟨g, o, rfl, q⟩ := h4 hq
  exact ⟨g, o, rfl, queue_block q fun i _ hi => hb.block i hi⟩
theorem farV_upd (far : S24 → Option Nat) (x : S24) (m : Nat) (a : S24) : (if a = x then some (.int .i64 (m : Int)) else farV far a) = farV (Rc.updF far x m) a := by
  unfold farV Rc.updF
  by_cases e : a = x
  · rw [if_pos e, if_pos e.symm]; rfl
  · rw [if_neg e, if_neg (fun h => e h.symm)]
theorem AwM.upd {Wf w : World} {fb : Nat} {v : Value} {far : S24 → Option Nat} {Q : List S24} (h : AwM Wf fb w v far Q) {x : S24} (hx : InId x) (m : Nat) :
    ∃ w', (Instr.mapUpdate 62 (.map (some fb)) (.agg #[.int .i64 x.f0, .int .i64 x.f1]) (.int .i64 (m : Int))).run Try.prog w = .ok () w' ∧ AwM Wf fb w' v (Rc.updF far x m) Q ∧ w.grownBy w' (some fb) ∧ w'.heap.size = w.heap.size := by
  obtain ⟨h1, h2, h3, ad, c, e, h4⟩ := h
  obtain ⟨w', r1, r2, r3, r4⟩ := h3.update (t := 62) (e := 3) Try.underlying62 hx (.int .i64 (m : Int))
  refine ⟨w', r1, ⟨pw_below_grown h1 _ (by omega) r3 (fun k hk => by cases hk; exact Nat.le_refl _), by omega, r2.congr (farV_upd far x m), ad, c, e, fun hq => ?_⟩, r3, r4⟩
  obtain ⟨g, o, rfl, q⟩ := h4 hq
  exact ⟨g, o, rfl, queue_block q fun i hi hlt => r3.block i hlt (fun e => by cases e; omega)⟩
theorem AwM.push {Wf w : World} {fb : Nat} {v : Value} {far : S24 → Option Nat} {h : S24} {Q : List S24} (H : AwM Wf fb w v far (h :: Q)) (x : S24) (ad : Addr) (k : Nat) (hx : IdsAt w ad [x]) (ty : TypeId) (hm : Q.length ≤ 100000000) :
    ∃ v' w', (Builtin.append_ #[27, 27] ty #[v, .slice (some ad) 1 k]).run Try.prog w = .ok v' w' ∧ AwM Wf fb w' v' far ((h :: Q) ++ [x]) := by
  obtain ⟨h1, h2, h3, ad', c, e, h4⟩ := H
  obtain ⟨g, o, rfl, q⟩ := h4 (by simp)
  subst e
  obtain ⟨g', o', c', w', r1, r2, r3, r4⟩ := q.push h2 (by simp; omega) x ad k hx ty
  have hgl := q.lt
  refine ⟨_, w', r1, pw_below_grown h1 _ (by omega) r3 (fun k hk => by cases hk; omega), Nat.le_trans h2 r3.size, h3.kept r3 (fun e => by cases e; omega), ⟨g', o' * 2, none⟩, c', by simp, fun _ => ⟨g', o', rfl, r2⟩⟩
theorem AwM.pop {Wf w : World} {fb : Nat} {v : Value} {far : S24 → Option Nat} {h : S24} {Q : List S24} (H : AwM Wf fb w v far (h :: Q)) : ∃ v', (∀ wx, (Instr.slice 27 v (some (.int .i64 1)) none none).run Try.prog wx = .ok v' wx) ∧ AwM Wf fb w v' far Q := by
  obtain ⟨h1, h2, h3, ad', c, e, h4⟩ := H
  obtain ⟨g, o, rfl, q⟩ := h4 (by simp)
  subst e
  have hc : Q.length + 1 ≤ c := by obtain ⟨_, _, _, h, _⟩ := q; simpa using h
  refine ⟨.slice (some (if c = 1 then ⟨g, o * 2, none⟩ else (⟨g, o * 2, none⟩ : Addr).add 2)) Q.length (c - 1), fun wx => ?_, h1, h2, h3, _, _, rfl, fun hq => ?_⟩
  · have hu : Try.prog.underlying 27 = some (.slice (Try.prog.elem 27)) := by kernel_rfl
    have hs : (sizeOf (Try.prog.elem 27)).run Try.prog wx = .ok 2 wx := by kernel_rfl
    have hr := run_slice_l (P := Try.prog) wx 27 (some ⟨g, o * 2, none⟩) (h :: Q).length c hu .i64 1 (by omega) (by simp; omega)
    rw [hs] at hr
    refine hr.trans ?_
    simp only [Result.andThen, sliced, Int.toNat_one, List.length_cons, Nat.add_sub_cancel, Nat.one_mul]
    by_cases e : c = 1
    · rw [if_pos e, if_pos e]
    · rw [if_neg e, if_neg e]; rfl
  · have hc2 : c ≠ 1 := fun e => by
      rw [e] at hc
      exact hq (List.length_eq_zero_iff.1 (by omega))
    rw [if_neg hc2, add_off]
    exact ⟨g, o + 1, by rw [Nat.add_mul], q.pop⟩
noncomputable def far0 (to_ : S24) : S24 → Option Nat := fun x => if to_ = x then some 0 else none
/-- the beginning: the map made, `to` laid in it, the queue of `to` alone -/
theorem fb_start (Wf : World) {to_ : S24} (hto : InId to_) : ∃ w7, (Instr.mapUpdate 62 (.map (some Wf.heap.size)) (.agg #[.int .i64 to_.f0, .int .i64 to_.f1]) (.int .i64 0)).run Try.prog (Wf.alloc (.map #[] 0)) = .ok () w7 ∧ Below Wf.heap.size Wf w7 ∧
    AwM Wf Wf.heap.size (w7.alloc (.cells #[.int .i64 to_.f0, .int .i64 to_.f1] 24)) (.slice (some ⟨Wf.heap.size + 1, 0, none⟩) 1 1) (far0 to_) [to_] ∧ w7.heap.size = Wf.heap.size + 1 := by
  have hsz : (Wf.alloc (.map #[] 0)).heap.size = Wf.heap.size + 1 := by simp
  have hM0 := MapIs.made Wf
  obtain ⟨w7, r1, r2, r3, r4⟩ := hM0.update (t := 62) (e := 3) Try.underlying62 hto (.int .i64 0)
  have hb : Below Wf.heap.size Wf w7 := pw_below_grown (below_alloc (Below.refl _ _) _) _ (by rw [hsz]; omega) r3 (fun k hk => by cases hk; exact Nat.le_refl _)
  have hz7 : w7.heap.size = Wf.heap.size + 1 := r4.trans hsz
  have hA := below_alloc (Below.refl w7.heap.size w7) (.cells #[.int .i64 to_.f0, .int .i64 to_.f1] 24)
  have hn := heap_alloc_new w7 (.cells #[.int .i64 to_.f0, .int .i64 to_.f1] 24)
  refine ⟨w7, r1, hb, ⟨hb.trans (hA.mono (by omega)), by simp; omega, ?_, ⟨Wf.heap.size + 1, 0, none⟩, 1, rfl, fun _ => ⟨Wf.heap.size + 1, 0, by simp, ?_⟩⟩, hz7⟩
  · refine (r2.below hA).congr fun a => ?_
    unfold farV far0
    by_cases e : a = to_
    · rw [if_pos e, if_pos e.symm]; rfl
    · rw [if_neg e, if_neg (fun h => e h.symm)]; rfl
  · rw [hz7] at hn
    exact ⟨_, hn, Nat.le_refl _, by simp, by simp [maxLen], by simp, by simp [idc, encId]⟩
theorem away_bound {l : List S26} (h : l.length ≤ 1000) (far : S24 → Option Nat) : 1 + Rc.unknown (edgesOf l) far ≤ 1001 := by
  unfold Rc.unknown
  have := List.length_filter_le (fun x => decide (far x = none)) ((edgesOf l).map (·.1))
  rw [List.length_map, edges_len] at this
  omega
end Go.Proofs.Ytdepmcofnlggaaa.PResolverCycles
end
section
set_option linter.unusedVariables false
set_option linter.unusedSimpArgs false
attribute [local go_sem ↓] Go.wp_at_zero Go.wp_at_succ
namespace Go.Proofs.Ytdepmcofnlggaaa.PResolverCycles
open Go.RowKit Go.Proofs.YtdepmcofnlggaaaW.PrintWords Go.Proofs.YtdepmcofnlggaaaW.PrintLast Go.Proofs.YtdepmcofnlggaaaW.PrintMore
open Classical

set_option maxHeartbeats 2000000 in
set_option maxRecDepth 20000 in
theorem away_walk (w0 : World) (G O c : Nat) (l : List S26) (hE00 : EdgesAt w0 G O l) (to_ : S24) (hto : InId to_) (hc : l.length ≤ c) (hm : l.length ≤ 1000) (hin : ∀ e ∈ l, InId e.f1 ∧ InId e.f2) :
    Calls Try.prog 30 #[.slice (some ⟨G, O, none⟩) l.length c, idV to_] w0 fun e w' => ∃ fb, e = .returned (.map (some fb)) ∧ MapIs w' fb (farV (Rc.dist ltI (edgesOf l) to_)) ∧ w0.heap.size ≤ fb ∧ Below w0.heap.size w0 w' := by
  obtain ⟨T, hT⟩ : ∃ b, b = w0.heap.size := ⟨_, rfl⟩
  have hTn := heap_alloc_new w0 (.cells #[.int .i64 to_.f0, .int .i64 to_.f1] 24)
  have hTb := below_alloc (Below.refl w0.heap.size w0) (.cells #[.int .i64 to_.f0, .int .i64 to_.f1] 24)
  have hE := hE00.below hTb
  unfold idV
  obtain ⟨n, hN⟩ : ∃ n, n = l.length := ⟨_, rfl⟩
  rw [← hN] at hc hm ⊢
  replace hN := Go.Lib.hid hN
  have hin' := Go.Lib.hid hin
  clear hin
  obtain ⟨w, hw⟩ : ∃ w, w = w0.alloc (.cells #[.int .i64 to_.f0, .int .i64 to_.f1] 24) := ⟨_, rfl⟩
  rw [← hw] at hE
  obtain ⟨B0, hB0⟩ : ∃ b, b = w.heap.size := ⟨_, rfl⟩
  have hB : Below B0 w (w.alloc (.map #[] 0)) := by rw [hB0]; exact below_alloc (Below.refl _ _) _
  have hR : RowsMap (w.alloc (.map #[] 0)) B0 B0 (rowOf (·.f2) (·.f1) (l.take 0)) (fun _ => 0) (fun _ => 0) := by
    rw [hB0]; exact RowsMap.made w (Nat.le_refl _) _ _
  have hE0 := Go.Lib.hid (show ∀ w', Below B0 w w' → EdgesAt w' G O l from fun w' hb => hE.below (by rw [← hB0]; exact hb))
  have hTc : ∀ w', Below B0 w w' → w'.cell? ⟨T, 0, none⟩ = some (.int .i64 to_.f0) ∧ w'.cell? ⟨T, 1, none⟩ = some (.int .i64 to_.f1) := fun w' hb => by
    have hb' : Below w.heap.size w w' := by rw [← hB0]; exact hb
    rw [← hw, ← hT] at hTn
    have c0 := blk_cell hTn 0
    have c1 := blk_cell hTn 1
    simp only [List.getElem?_toArray, List.getElem?_cons_zero, List.getElem?_cons_succ] at c0 c1
    exact ⟨pw_cell_below hb' c0, pw_cell_below hb' c1⟩
  replace hTc := Go.Lib.hid hTc
  have hs0 : B0 ≤ (w.alloc (.map #[] 0)).heap.size := by rw [hB0]; simp
  have hmk := run_make54 (w0.alloc (.cells #[.int .i64 to_.f0, .int .i64 to_.f1] 24))
  go_enter Try.func30, Try.ntmps30
  go_wp2_with fail
  rw [← hw, ← hT]
  rw [← hw] at hmk hTn hTb
  have hBT : B0 = T + 1 := by rw [hB0, hw, hT]; simp
  rw [← hBT]
  replace hBT := Go.Lib.hid hBT
  replace hT := Go.Lib.hid hT
  replace hw := Go.Lib.hid hw
  generalize w.alloc (.map #[] 0) = W at *
  replace hB0 := Go.Lib.hid hB0
  clear hE
  go_loopw [7, 17] (fun _ i wr => ∃ j : Nat, j ≤ n ∧ i = .int .i64 (j : Int) ∧ Below B0 w wr ∧ B0 ≤ wr.heap.size ∧ ∃ g c, RowsMap wr B0 B0 (rowOf (·.f2) (·.f1) (l.take j)) g c) (fun _ i _ => n - (intOf i).toNat)
  case atStart => exact ⟨0, by omega, rfl, hB, hs0, _, _, hR⟩
  case round =>
    clear hB hR hs0
    obtain ⟨j, hj, rfl, hBr, hsr, gr, cr, hRr⟩ := hrel
    by_cases hlt : j < n
    · have hltz : (j : Int) < (n : Int) := by omega
      have hjl : j < l.length := by rw [← hN.out]; exact hlt
      obtain ⟨a0, a1, a2, a3, a4⟩ := hE0.out wr hBr j hjl
      have htk := take_edge l j hjl
      have hii := hin'.out l[j] (List.getElem_mem hjl)
      have hll : (l.take j).length ≤ 1000 := by rw [List.length_take]; omega
      generalize l[j] = x at *
      replace htk := Go.Lib.hid htk
      go_upto_region 5 with fail
      have hB1 : Below wr.heap.size wr (wr.alloc (.cells #[.string x.f0, .int .i64 x.f1.f0, .int .i64 x.f1.f1, .int .i64 x.f2.f0, .int .i64 x.f2.f1] 26)) := below_alloc (Below.refl _ _) _
      have hx := heap_alloc_new wr (.cells #[.string x.f0, .int .i64 x.f1.f0, .int .i64 x.f1.f1, .int .i64 x.f2.f0, .int .i64 x.f2.f1] 26)
      have hb0lt := hRr.map.lt
      replace hRr := hRr.below hB1
      replace hBr := hBr.trans (hB1.mono hsr)
      replace hsr := Nat.le_trans hsr hB1.size
      obtain ⟨gx, hgx⟩ : ∃ y, y = wr.heap.size := ⟨_, rfl⟩
      rw [← hgx] at hx hb0lt ⊢
      generalize wr.alloc (.cells #[.string x.f0, .int .i64 x.f1.f0, .int .i64 x.f1.f1, .int .i64 x.f2.f0, .int .i64 x.f2.f1] 26) = V at *
      clear hgx a0 a1 a2 a3 a4 hB1
      have e1 := blk_cell hx 1
      have e2 := blk_cell hx 2
      have e3 := blk_cell hx 3
      have e4 := blk_cell hx 4
      simp only [List.getElem?_toArray, List.getElem?_cons_zero, List.getElem?_cons_succ] at e1 e2 e3 e4
      clear hx
      have hB2 : Below V.heap.size V (V.alloc (.cells #[.int .i64 x.f1.f0, .int .i64 x.f1.f1] 24)) := below_alloc (Below.refl _ _) _
      have hR2 := hRr.below hB2
      have hBr2 := hBr.trans (hB2.mono hsr)
      have hsr2 := Nat.le_trans hsr hB2.size
      have hp := hR2.push hsr2 (a := x.f2) (y := x.f1) hii.2 (Nat.le_trans (rowOf_len _ _ _ _) (by omega)) V.heap.size (heap_alloc_new V _) (by have := hRr.map.lt; omega) 1 27 Try.underlying54
      obtain ⟨v, k, w1, v', w2, w3, r1, r2, r3, ⟨g', c', hR3⟩, hB3, hs3⟩ := hp
      have r1' : (Instr.mapEntry 54 (.map (some B0)) (.agg #[.int .i64 x.f2.f0, .int .i64 x.f2.f1])).run Try.prog (V.alloc (.cells #[.int .i64 x.f1.f0, .int .i64 x.f1.f1] 24)) = .ok (.tuple #[v, goInt (k : Nat)]) w1 := r1
      have r3' : (Instr.entryStore 54 (.map (some B0)) (.int .i64 (k : Int)) v').run Try.prog w2 = .ok () w3 := r3
      clear r1 r3
      replace hR3 := Go.Lib.hid hR3
      replace hB3 := Go.Lib.hid hB3
      replace hs3 := Go.Lib.hid hs3
      go_wp2_with (first | (at_builtin; refine wpList_append_run rfl (.tmp 24) (.tmp 27) 27 rfl _ _ _ _ rfl rfl r2 ?_))
      have hfin : Below B0 w w3 := hBr2.trans (hB3.out B0 (Nat.le_refl _) hsr2 (Below.refl _ _))
      have hR4 : RowsMap w3 B0 B0 (rowOf (·.f2) (·.f1) (l.take (j + 1))) g' c' := by rw [htk.out, rowOf_push]; exact hR3.out
      go_roundw
      case rel => exact ⟨j + 1, hlt, rfl, hfin, Nat.le_trans hsr2 hs3.out, g', c', hR4⟩
      case measure => simp only [intOf]; omega
    · obtain rfl : j = n := by omega
      obtain ⟨Wf, hWf⟩ : ∃ x, x = wr := ⟨_, rfl⟩
      subst hWf
      have hTl : l.take j = l := by rw [hN.out, List.take_length]
      rw [hTl] at hRr
      have hlen : l.length ≤ 1000 := by rw [← hN.out]; exact hm
      replace hlen := Go.Lib.hid hlen
      have hfst := fb_start Wf hto
      obtain ⟨w7, hup', hA0⟩ := hfst
      obtain ⟨fb, hfb⟩ : ∃ b, b = Wf.heap.size := ⟨_, rfl⟩
      rw [← hfb] at hup' hA0
      have hmk2 : (Instr.makeMap 62 none).run Try.prog Wf = .ok (.map (some fb)) (Wf.alloc (.map #[] 0)) := by rw [hfb]; rfl
      have hBfb : B0 ≤ fb := by rw [hfb]; exact hsr
      have hB6 := hBr.trans ((below_alloc (Below.refl _ _) (.map #[] 0)).mono hsr)
      obtain ⟨t0, t1⟩ := hTc.out _ hB6
      have hB7 : Below B0 w w7 := hBr.trans (hA0.1.mono hBfb)
      obtain ⟨u0, u1⟩ := hTc.out _ hB7
      have hs7 : w7.heap.size = fb + 1 := hA0.2.2
      replace hA0 := Go.Lib.hid hA0.2.1
      replace hfb := Go.Lib.hid hfb
      clear hTl hB6 hB7
      go_wp2_with fail
      generalize w7.alloc (.cells #[.int .i64 to_.f0, .int .i64 to_.f1] 24) = W8 at *
      clear hup' hmk2 t0 t1 u0 u1 hs7
      clear hc hj hlt hmk hTn
      replace hTb := Go.Lib.hid hTb
      go_loopg [9] (1 + Rc.unknown (edgesOf l) (far0 to_)) (fun k v wq => ∃ far Q, k = Q.length + Rc.unknown (edgesOf l) far ∧ k ≤ 1001 ∧ AwM Wf fb wq v far Q ∧ Rc.BfsQ ltI (edgesOf l) to_ far Q ∧ ∀ x ∈ Q, InId x)
      case atStart => exact ⟨far0 to_, [to_], rfl, away_bound (by have := hlen.out; exact this) _, hA0.out, Rc.BfsQ.start ltI (edgesOf l) to_, fun x hx => by rw [List.mem_singleton.1 hx]; exact hto⟩
      case round =>
        clear hA0
        obtain ⟨far, Q, hk, hk1, hA, hBf, hIds⟩ := hrel
        obtain ⟨Wo, hWo⟩ : ∃ x, x = wr := ⟨_, rfl⟩
        subst hWo
        obtain ⟨K, hK⟩ : ∃ x, x = gk := ⟨_, rfl⟩
        subst hK
        have hBo : Below B0 w Wo := hBr.trans (hA.below.mono hBfb)
        have hq := hA.que
        obtain ⟨ad, cq, rfl, hq⟩ := hq
        cases Q with
        | nil =>
          have hfin : MapIs Wo fb (farV (Rc.dist ltI (edgesOf l) to_)) := hA.map.congr fun a => by unfold farV; rw [hBf.fin a]
          replace hfin := Go.Lib.hid hfin
          replace hk := Go.Lib.hid hk
          clear hA hBf hq hIds
          go_wp2_with fail
          go_ret
          refine ⟨fb, rfl, hfin.out, ?_, ?_⟩
          · rw [← hT.out]; have := hBT.out; omega
          · exact hTb.out.trans (hBo.mono (by rw [← hT.out]; have := hBT.out; omega))
        | cons h Q =>
          obtain ⟨gq, oq, rfl, hQ⟩ := hq (by simp)
          clear hq
          obtain ⟨d0, d1⟩ := hQ.head
          have hh : InId h := hIds h (by simp)
          have hRo := hRr.below (by rw [← hfb.out]; exact hA.below)
          have hL := hRo.map.lookup (t := 54) Try.underlying54 (zero27 Wo) hh false
          simp only [Bool.false_eq_true, if_false] at hL
          have hrow : ∃ ra rc, (rowF (rowOf (·.f2) (·.f1) l) gr cr h).getD (.slice none 0 0) = .slice ra (rowOf (·.f2) (·.f1) l h).length rc ∧ (rowOf (·.f2) (·.f1) l h ≠ [] → ∃ g c, ra = some ⟨g, 0, none⟩ ∧ IdRow Wf B0 g c (rowOf (·.f2) (·.f1) l h)) := by
            unfold rowF
            by_cases e : rowOf (·.f2) (·.f1) l h = []
            · rw [if_pos e, e]; exact ⟨none, 0, rfl, fun h => absurd rfl h⟩
            · rw [if_neg e]; exact ⟨_, _, rfl, fun _ => ⟨_, _, rfl, hRr.rows h e⟩⟩
          obtain ⟨ra, rc, hre, hrow⟩ := hrow
          rw [hre] at hL
          clear hre hRo
          obtain ⟨R, hR⟩ : ∃ R, R = rowOf (·.f2) (·.f1) l h := ⟨_, rfl⟩
          rw [← hR] at hL hrow
          obtain ⟨nr, hnr⟩ : ∃ n, n = R.length := ⟨_, rfl⟩
          rw [← hnr] at hL
          obtain ⟨nq, hnq⟩ : ∃ n, n = (h :: Q).length := ⟨_, rfl⟩
          rw [← hnq]
          have hpos : (0 : Int) < (nq : Int) := by rw [hnq]; simp
          have hRin : ∀ x ∈ R, (x, h) ∈ edgesOf l ∧ InId x := fun x hx => by
            rw [hR] at hx
            refine ⟨(mem_backOf l h x).1 hx, ?_⟩
            obtain ⟨e, he, rfl⟩ := List.mem_map.1 hx
            exact (hin'.out e (List.mem_filter.1 he).1).1
          have hRall : ∀ x, (x, h) ∈ edgesOf l → x ∈ R := fun x hx => by rw [hR]; exact (mem_backOf l h x).2 hx
          replace hR := Go.Lib.hid hR
          replace hnr := Go.Lib.hid hnr
          replace hnq := Go.Lib.hid hnq
          replace hk := Go.Lib.hid hk
          replace hA := Go.Lib.hid hA
          replace hBf := Go.Lib.hid hBf
          replace hRin := Go.Lib.hid hRin
          replace hRall := Go.Lib.hid hRall
          replace hrow := Go.Lib.hid hrow
          unfold idV at hL
          go_wp2_with fail
          clear hL hQ d0 d1
          generalize Value.bool (decide (0 < nq)) = v39
          go_loopg [9, 48] nr (fun k v9 v48 wq => ∃ (i : Nat) (far : S24 → Option Nat) (Q : List S24), k = nr - i ∧ i ≤ nr ∧ v48 = .int .i64 (i : Int) ∧ AwM Wf fb wq v9 far (h :: Q) ∧ Rc.BfsQ ltI (edgesOf l) to_ far (h :: Q) ∧ (∀ x ∈ h :: Q, InId x) ∧ (∀ x ∈ R.take i, ltI to_ x → far x ≠ none) ∧ Q.length + 1 + Rc.unknown (edgesOf l) far ≤ K)
          case atStart => exact ⟨0, far, Q, rfl, Nat.zero_le _, rfl, (by have := hA.out; rw [hnq.out]; exact this), hBf.out, hIds, (fun x hx => by simp at hx), (by have := hk.out; simp only [List.length_cons] at this; omega)⟩
          case round =>
            clear hA hBf hIds hk hnq hpos
            obtain ⟨i, far, Q, hk, hi, rfl, hA, hBf, hIds, hno, hKK⟩ := hrel
            obtain ⟨ad, cq, rfl, hq⟩ := hA.que
            obtain ⟨gq, oq, rfl, hQ⟩ := hq (by simp)
            clear hq
            obtain ⟨d0, d1⟩ := hQ.head
            have hgfq := Go.Lib.hid (show gq ≠ fb by have := hQ.lt.1; omega)
            by_cases hlt : i < nr
            · have hil : i < R.length := by rw [← hnr.out]; exact hlt
              have hltz : (i : Int) < (nr : Int) := by omega
              obtain ⟨gw, cw, hra, hrw⟩ := hrow.out (fun e => by rw [e] at hil; exact Nat.not_lt_zero _ hil)
              subst hra
              obtain ⟨a0, a1⟩ := idrow_cell hrw i hil
              replace a0 := pw_cell_below (by rw [← hfb.out]; exact hA.below) a0
              replace a1 := pw_cell_below (by rw [← hfb.out]; exact hA.below) a1
              obtain ⟨hxe, hxi⟩ := hRin.out R[i] (List.getElem_mem hil)
              have htk : R.take (i + 1) = R.take i ++ [R[i]] := by rw [List.take_add_one, List.getElem?_eq_getElem hil]; rfl
              replace htk := Go.Lib.hid htk
              generalize R[i] = x at *
              obtain ⟨nq, hnq⟩ : ∃ n, n = (h :: Q).length := ⟨_, rfl⟩
              rw [← hnq]
              replace hnq := Go.Lib.hid hnq
              have hn1 : wrap64 ((i : Int) + 1) = ((i + 1 : Nat) : Int) := by
                have : R.length ≤ 1000 := by rw [hR.out]; exact Nat.le_trans (rowOf_len _ _ l h) hlen.out
                have : i < 1000 := by omega
                clear hk hKK hlt hil hltz
                unfold wrap64; omega
              replace hn1 := Go.Lib.hid hn1
              replace hk := Go.Lib.hid hk
              replace hKK := Go.Lib.hid hKK
              replace hno := Go.Lib.hid hno
              clear hil hrw
              have hAV := hA.later (below_alloc (Below.refl wr.heap.size wr) (.cells #[.int .i64 x.f0, .int .i64 x.f1] 24))
              have hV := below_alloc (Below.refl wr.heap.size wr) (.cells #[.int .i64 x.f0, .int .i64 x.f1] 24)
              have hx := heap_alloc_new wr (.cells #[.int .i64 x.f0, .int .i64 x.f1] 24)
              go_upto_region 14 with fail
              obtain ⟨gx, hgx⟩ : ∃ y, y = wr.heap.size := ⟨_, rfl⟩
              rw [← hgx] at hx hV
              rw [← hgx]
              replace d0 := pw_cell_below (by rw [hgx] at hV; exact hV) d0
              replace d1 := pw_cell_below (by rw [hgx] at hV; exact hV) d1
              generalize wr.alloc (.cells #[.int .i64 x.f0, .int .i64 x.f1] 24) = V at *
              have hfx : gx ≠ fb := by have := hA.big; omega
              clear hV hgx hA hQ a0 a1
              have e0 := blk_cell hx 0
              have e1 := blk_cell hx 1
              simp only [List.getElem?_toArray, List.getElem?_cons_zero, List.getElem?_cons_succ] at e0 e1
              clear hx
              have hLf := hAV.map.lookup (t := 62) Try.underlying62 (zero3 V) hxi true
              simp only [if_true] at hLf
              unfold idV at hLf
              have hBV : Below B0 w V := hBr.trans (hAV.below.mono hBfb)
              obtain ⟨t0, t1⟩ := hTc.out V hBV
              cases hfar : far x with
              | some m =>
                have hfv : farV far x = some (.int .i64 (m : Int)) := by unfold farV; rw [hfar]; rfl
                rw [hfv] at hLf
                simp only [Option.getD_some, Option.isSome_some] at hLf
                clear hfv
                replace hfar := Go.Lib.hid hfar
                replace hAV := Go.Lib.hid hAV
                replace hBf := Go.Lib.hid hBf
                replace hfx := Go.Lib.hid hfx
                replace hxe := Go.Lib.hid hxe
                go_wp2_with fail
                rw [hn1.out]
                go_roundg (nr - (i + 1))
                case rel => exact ⟨i + 1, far, Q, rfl, hlt, rfl, (by have := hAV.out; rw [hnq.out]; exact this), hBf.out, hIds, (fun y hy hly => by
                  rw [htk.out] at hy
                  rcases List.mem_append.1 hy with hy | hy
                  · exact hno.out y hy hly
                  · rw [List.mem_singleton.1 hy, hfar.out]; simp), hKK.out⟩
                case measure => have := hk.out; omega
              | none =>
                have hfv : farV far x = none := by unfold farV; rw [hfar]; rfl
                rw [hfv] at hLf
                simp only [Option.getD_none, Option.isSome_none] at hLf
                clear hfv
                replace hfar := Go.Lib.hid hfar
                replace hAV := Go.Lib.hid hAV
                replace hBf := Go.Lib.hid hBf
                replace hfx := Go.Lib.hid hfx
                replace hxe := Go.Lib.hid hxe
                have hC := compare_walk x to_ V
                unfold idV at hC
                by_cases hgt : 0 < cmpI x to_
                · have hlt2 : ltI to_ x := cmpI_gt.1 hgt
                  replace hlt2 := Go.Lib.hid hlt2
                  obtain ⟨n, hfh⟩ := hBf.out.head
                  have hn1000 : n ≤ 1000 := by
                    have h1 := Rc.lev_top (hBf.out.sound h n hfh)
                    rw [edges_len] at h1
                    exact Nat.le_trans h1 hlen.out
                  have hn2 : IntKind.i64.wrap ((n : Int) + 1) = ((n + 1 : Nat) : Int) := by
                    clear hlt hi hltz hgt hk1
                    have h64 : wrap64 ((n : Int) + 1) = ((n + 1 : Nat) : Int) := by unfold wrap64; omega
                    exact (IntWalk.i64_left _).trans h64
                  replace hn2 := Go.Lib.hid hn2
                  go_upto_region 16 with (go_at_call 24; refine hC.mono ?_; rintro e u ⟨rfl, hu⟩)
                  have hub := hu.below
                  have hD : Below V.heap.size V u.drew := hub.trans ((below_drew (Below.refl u.heap.size u)).mono hub.size)
                  have hA2 := hAV.out.later hD
                  replace d0 := pw_cell_below hD d0
                  replace d1 := pw_cell_below hD d1
                  replace e0 := pw_cell_below hD e0
                  replace e1 := pw_cell_below hD e1
                  have hLh := hA2.map.lookup (t := 62) Try.underlying62 (zero3 u.drew) hh false
                  have hfv : farV far h = some (.int .i64 (n : Int)) := by unfold farV; rw [hfh]; rfl
                  rw [hfv] at hLh
                  simp only [Bool.false_eq_true, if_false, Option.getD_some] at hLh
                  unfold idV at hLh
                  obtain ⟨w5, hup, hA5, hg5, hs5⟩ := hA2.upd hxi (n + 1)
                  rw [← hn2.out] at hup
                  replace hfh := Go.Lib.hid hfh
                  replace hA5 := Go.Lib.hid hA5
                  clear hfv hD hub hAV hA2 hLf hC t0 t1 hBV
                  have hgf : gq ≠ fb := hgfq.out
                  have hS : u.drew.cell? ⟨gx, 0, none⟩ = some (.int .i64 x.f0) ∧ u.drew.cell? ⟨gx, 1, none⟩ = some (.int .i64 x.f1) ∧ u.drew.cell? ⟨gq, oq * 2, none⟩ = some (.int .i64 h.f0) ∧ u.drew.cell? ⟨gq, oq * 2 + 1, none⟩ = some (.int .i64 h.f1) := ⟨e0, e1, d0, d1⟩
                  have hS5 : w5.cell? ⟨gx, 0, none⟩ = some (.int .i64 x.f0) ∧ w5.cell? ⟨gx, 1, none⟩ = some (.int .i64 x.f1) ∧ w5.cell? ⟨gq, oq * 2, none⟩ = some (.int .i64 h.f0) ∧ w5.cell? ⟨gq, oq * 2 + 1, none⟩ = some (.int .i64 h.f1) := ⟨hg5.cell e0 (fun e => hfx.out (by cases e; rfl)), hg5.cell e1 (fun e => hfx.out (by cases e; rfl)), hg5.cell d0 (fun e => hgf (by cases e; rfl)), hg5.cell d1 (fun e => hgf (by cases e; rfl))⟩
                  have hS5' := Go.Lib.hid hS5
                  obtain ⟨f0, f1, _, _⟩ := hS5
                  have hid6 : IdsAt (w5.alloc (.cells #[.int .i64 x.f0, .int .i64 x.f1] 24)) ⟨w5.heap.size, 0, none⟩ [x] := by
                    intro j u hu
                    rw [add_off, Nat.zero_add, blk_cell (heap_alloc_new w5 _)]
                    simpa [idc, encId] using hu
                  have hQl : Q.length ≤ 100000000 := by have := hKK.out; omega
                  obtain ⟨v7, w7', hap, hA7⟩ := (hA5.out.later (below_alloc (Below.refl w5.heap.size w5) (.cells #[.int .i64 x.f0, .int .i64 x.f1] 24))).push x ⟨w5.heap.size, 0, none⟩ 1 hid6 27 hQl
                  rw [← hnq.out] at hap
                  replace hA7 := Go.Lib.hid hA7
                  replace hQl := Go.Lib.hid hQl
                  replace hs5 := Go.Lib.hid hs5
                  replace hid6 := Go.Lib.hid hid6
                  have hp : 0 < nq := by rw [hnq.out]; simp
                  have hpz : (0 : Int) < (nq : Int) := by omega
                  clear hgf hn1000
                  clear d0 d1 e0 e1
                  go_region_held_law (fun w' => w'.cell? ⟨gx, 0, none⟩ = some (.int .i64 x.f0) ∧ w'.cell? ⟨gx, 1, none⟩ = some (.int .i64 x.f1) ∧ w'.cell? ⟨gq, oq * 2, none⟩ = some (.int .i64 h.f0) ∧ w'.cell? ⟨gq, oq * 2 + 1, none⟩ = some (.int .i64 h.f1))
                    (first | exact hS | exact hS5'.out)
                    (fail)
                  go_wp2_with (first | (at_builtin; refine wpList_append_run rfl (.tmp 74) (.tmp 76) 27 rfl _ _ _ _ rfl rfl hap ?_))
                  rw [hn1.out]
                  have hB' := hBf.out.step hxe.out hfh.out hfar.out hlt2.out
                  have hun := Rc.unknown_less (n := n + 1) hxe.out hfar.out
                  go_roundg (nr - (i + 1))
                  case rel => exact ⟨i + 1, _, Q ++ [x], rfl, hlt, rfl, hA7.out, hB', (fun y hy => by
                    rcases List.mem_append.1 (show y ∈ (h :: Q) ++ [x] from hy) with hy | hy
                    · exact hIds y hy
                    · rw [List.mem_singleton.1 hy]; exact hxi), (fun y hy hly => by
                    rw [htk.out] at hy
                    unfold Rc.updF
                    split
                    · simp
                    · next hne =>
                      rcases List.mem_append.1 hy with hy | hy
                      · exact hno.out y hy hly
                      · exact absurd (List.mem_singleton.1 hy).symm hne), (by have := hKK.out; simp only [List.length_append, List.length_cons, List.length_nil]; omega)⟩
                  case measure => have := hk.out; omega
                · have hlt2 : ¬ ltI to_ x := fun h => hgt (cmpI_gt.2 h)
                  replace hlt2 := Go.Lib.hid hlt2
                  go_wp2_with (go_at_call 24; refine hC.mono ?_; rintro e u ⟨rfl, hu⟩)
                  rw [hn1.out]
                  replace hAV := Go.Lib.hid (hAV.out.later hu.below)
                  go_roundg (nr - (i + 1))
                  case rel => exact ⟨i + 1, far, Q, rfl, hlt, rfl, (by have := hAV.out; rw [hnq.out]; exact this), hBf.out, hIds, (fun y hy hly => by
                    rw [htk.out] at hy
                    rcases List.mem_append.1 hy with hy | hy
                    · exact hno.out y hy hly
                    · rw [List.mem_singleton.1 hy] at hly; exact absurd hly hlt2.out), hKK.out⟩
                  case measure => have := hk.out; omega
            · have hin : i = nr := by omega
              have hP : Rc.BfsQ ltI (edgesOf l) to_ far Q := hBf.pop fun x hx hlx => hno x (by
                have hm := hRall.out x hx
                rw [hin, hnr.out, List.take_length]
                exact hm) hlx
              obtain ⟨v', hsl, hA'⟩ := hA.pop
              obtain ⟨nq, hnq⟩ : ∃ n, n = (h :: Q).length := ⟨_, rfl⟩
              rw [← hnq] at hsl ⊢
              subst hin
              have hIds' : ∀ x ∈ Q, InId x := fun x hx => hIds x (by simp [hx])
              replace hnq := Go.Lib.hid hnq
              replace hA' := Go.Lib.hid hA'
              replace hP := Go.Lib.hid hP
              clear hA hBf hIds hno hQ d0 d1 hk
              replace hKK := Go.Lib.hid hKK
              go_wp2_with fail
              go_roundg (Q.length + Rc.unknown (edgesOf l) far)
              case rel => exact ⟨far, Q, rfl, (by have := hKK.out; omega), hA'.out, hP.out, hIds'⟩
              case measure => have := hKK.out; omega
end Go.Proofs.Ytdepmcofnlggaaa.PResolverCycles
end
