/- ResolverRounds: for any edges, Cycle answers a round of them, from its oldest, or, where it answers none, the edges peel off one by one until none is left. No condition on the argument. (ahead of it: The law's 'has', walked where it says true. A law's row out of its walk: whatever the arguments are, a call that answers true and leaves all that was there as it was meets the row. ResolverRounds walked. Edges handed in, opened.) -/
import Derived.Test.YtdepmcofnlggaaaPrI
import Derived.BigQuiet
import Derived.Test.YtdepmcofnlggaaaRows
import Derived.Test.YtdepmcofnlggaaaPrA
import Derived.ProofKit
import Derived.OpenShut
import Derived.WideKeyArgs
import Derived.Below
import Derived.Deep.Slices
import Derived.ChangeSame
import Derived.SizedLaws
import Derived.JoinedCond
section
set_option linter.unusedVariables false
set_option linter.unusedSimpArgs false
attribute [local go_sem ↓] Go.wp_at_zero Go.wp_at_succ
namespace Go.Proofs.Ytdepmcofnlggaaa.PResolverCycles
open Go.RowKit Go.Proofs.YtdepmcofnlggaaaW.PrintWords Go.Proofs.YtdepmcofnlggaaaW.PrintLast Go.Proofs.YtdepmcofnlggaaaW.PrintMore
open Classical

theorem mem_edges_at {l : List S26} {a h : S24} (hm : (a, h) ∈ edgesOf l) : ∃ i, ∃ hi : i < l.length, l[i].f1 = a ∧ l[i].f2 = h := by
  obtain ⟨e, he, hp⟩ := List.mem_map.1 hm
  obtain ⟨i, hi, rfl⟩ := List.getElem_of_mem he
  injection hp with h1 h2
  exact ⟨i, hi, h1, h2⟩
theorem Grown.step {w W W' : World} (h : Grown w W) (h2 : Grown W W') : Grown w W' := by
  obtain ⟨q, os, rfl⟩ := h
  obtain ⟨q2, os2, rfl⟩ := h2
  exact ⟨q + q2, os ++ os2, by simp [Sort.grow, World.drewN, Nat.add_assoc]⟩
theorem Grown.of_drewN (w : World) (n : Nat) : Grown w (w.drewN n) := ⟨n, #[], by simp [Sort.grow, World.drewN]⟩
set_option maxHeartbeats 2000000 in
set_option maxRecDepth 20000 in
theorem has_true (w : World) (G O c : Nat) (l : List S26) (a h : S24) (hE : EdgesAt w G O l) (hm : l.length ≤ 1000) (hin : (a, h) ∈ edgesOf l) :
    Calls Try.prog 23 #[.slice (some ⟨G, O, none⟩) l.length c, idV a, idV h] w fun e w' => e = .returned (.bool true) ∧ Grown w w' := by
  obtain ⟨t, ht, hta, hth⟩ := mem_edges_at hin
  have hG : Grown w ((w.alloc (.cells #[.int .i64 a.f0, .int .i64 a.f1] 24)).alloc (.cells #[.int .i64 h.f0, .int .i64 h.f1] 24)) := ((Grown.refl w).alloc _).alloc _
  have hx := two_old w (.cells #[.int .i64 a.f0, .int .i64 a.f1] 24) (.cells #[.int .i64 h.f0, .int .i64 h.f1] 24)
  have hy := two_new w (.cells #[.int .i64 a.f0, .int .i64 a.f1] 24) (.cells #[.int .i64 h.f0, .int .i64 h.f1] 24)
  replace hE := Go.Lib.hid hE
  obtain ⟨n, hN⟩ : ∃ n, n = l.length := ⟨_, rfl⟩
  have htn : t < n := by rw [hN]; exact ht
  rw [← hN] at hm ⊢
  replace hN := Go.Lib.hid hN
  replace hta := Go.Lib.hid hta
  replace hth := Go.Lib.hid hth
  replace hG := Go.Lib.hid hG
  unfold idV
  go_enter Try.func23, Try.ntmps23
  go_upto_region 2 with fail
  obtain ⟨gy, hgy⟩ : ∃ y, y = w.heap.size + 1 := ⟨_, rfl⟩
  rw [← hgy] at hy ⊢
  obtain ⟨gx, hgx⟩ : ∃ y, y = w.heap.size := ⟨_, rfl⟩
  rw [← hgx] at hx ⊢
  clear hgx hgy
  generalize (w.alloc (.cells #[.int .i64 a.f0, .int .i64 a.f1] 24)).alloc (.cells #[.int .i64 h.f0, .int .i64 h.f1] 24) = V at *
  have a0 := blk_cell hx 0
  have a1 := blk_cell hx 1
  have b0 := blk_cell hy 0
  have b1 := blk_cell hy 1
  simp only [List.getElem?_toArray, List.getElem?_cons_zero, List.getElem?_cons_succ] at a0 a1 b0 b1
  clear hx hy
  go_loopw [7] (fun i wr => ∃ j : Nat, j ≤ t ∧ i = .int .i64 (j : Int) ∧ Grown V wr) (fun i _ => n - (intOf i).toNat)
  case atStart => exact ⟨0, by omega, rfl, Grown.refl _⟩
  case round =>
    obtain ⟨j, hj, rfl, hGr⟩ := hrel
    have hlt : j < n := by omega
    have hltz : (j : Int) < (n : Int) := by omega
    have hjl : j < l.length := by rw [← hN.out]; exact hlt
    replace a0 := pw_cell_below hGr.below a0
    replace a1 := pw_cell_below hGr.below a1
    replace b0 := pw_cell_below hGr.below b0
    replace b1 := pw_cell_below hGr.below b1
    obtain ⟨_, c1, c2, c3, c4⟩ := hE.out.below (hG.out.step hGr).below j hjl
    have hne : j ≠ t → ¬ (l[j].f1 = a ∧ l[j].f2 = h) ∨ (l[j].f1 = a ∧ l[j].f2 = h) := fun _ => (Classical.em _).symm
    have hjt : j = t → l[j].f1 = a ∧ l[j].f2 = h := fun e => by subst e; exact ⟨hta.out, hth.out⟩
    generalize l[j] = y at *
    have hq1 := id_eql y.f1 a
    have hq2 := id_eql y.f2 h
    clear hne
    by_cases e1 : y.f1 = a
    · have d1 : decide (y.f1 = a) = true := decide_eq_true e1
      by_cases e2 : y.f2 = h
      · have d2 : decide (y.f2 = h) = true := decide_eq_true e2
        replace e1 := Go.Lib.hid e1
        replace e2 := Go.Lib.hid e2
        replace hjt := Go.Lib.hid hjt
        go_wp2_with fail
        go_quiet (fail)
        go_wp2_with fail
        go_ret
        exact ⟨rfl, hG.out.step (hGr.step (Grown.of_drewN _ _))⟩
      · have hjt' : j < t := by
          rcases Nat.lt_or_ge j t with h9 | h9
          · exact h9
          · exact absurd (hjt (by omega)).2 e2
        have d2 : decide (y.f2 = h) = false := decide_eq_false e2
        replace e1 := Go.Lib.hid e1
        replace e2 := Go.Lib.hid e2
        clear hjt
        go_wp2_with fail
        go_quiet (fail)
        go_wp2_with fail
        go_round
        case rel => exact ⟨j + 1, hjt', rfl, hGr.step (Grown.of_drewN _ _)⟩
        case measure => simp only [intOf]; omega
    · have hjt' : j < t := by
        rcases Nat.lt_or_ge j t with h9 | h9
        · exact h9
        · exact absurd (hjt (by omega)).1 e1
      have d1 : decide (y.f1 = a) = false := decide_eq_false e1
      replace e1 := Go.Lib.hid e1
      clear hjt
      go_wp2_with fail
      go_quiet (fail)
      go_wp2_with fail
      go_round
      case rel => exact ⟨j + 1, hjt', rfl, hGr.step (Grown.of_drewN _ _)⟩
      case measure => simp only [intOf]; omega
end Go.Proofs.Ytdepmcofnlggaaa.PResolverCycles
end
section
set_option linter.unusedVariables false
set_option linter.unusedSimpArgs false
namespace Go.Proofs.Ytdepmcofnlggaaa
open Go.ChangeShapes Go.WideShapes Go.ChangeAt Go.RowKit

/-- the law's answer -/
def LawPost (w : World) (e : Ending) (w' : World) : Prop := e = .returned (.bool true) ∧ Below w.heap.size w w'

theorem laid_out : laidOutB Try.prog = true := by kernel_rfl

section
variable {H : Type} {enc : TypeId × Value → H}
theorem trodAll_stays {W W' : World} {sp : Nat → Bool} : ∀ {ts : List TypeId} {vs : List Value} {ds : List (DataW H)} {ps : List MemPlace},
    (∀ t ∈ ts, Try.prog.readableRec t = true ∧ t < Try.prog.types.size) → DataW.TrodAll enc Try.prog W 0 (fun _ => true) true ts vs ds ps →
    (∀ p ∈ ps, W.sameAt W' p) → (∀ p ∈ ps, sp p.block = true) → DataW.TrodAll enc Try.prog W' 0 sp true ts vs ds ps
  | [], vs, ds, ps, _, h, _, _ => by
    obtain ⟨rfl, rfl, rfl⟩ := trodAll_nil h
    exact trodAll_mk0
  | t :: ts, vs, ds, ps, hr, h, hs, hp => by
    obtain ⟨v, vs', d, ds', p, q, rfl, rfl, rfl, h0, h1⟩ := trodAll_cons h
    exact trodAll_cons_mk (WideElems.Trod_stays laid_out (hr t (by simp)).1 (hr t (by simp)).2 h0 (fun x hx => hs x (by simp [hx])) (fun x hx => hp x (by simp [hx])))
      (trodAll_stays (fun t' ht' => hr t' (by simp [ht'])) h1 (fun x hx => hs x (by simp [hx])) (fun x hx => hp x (by simp [hx])))

/-- the row's last step -/
theorem law_post {fn : Func} {s : ChangeSpec} {W W' : World} {args : Array Value} {e : Ending} {ds gs : List (DataW H)} {before : List MemPlace}
    (hW : DataW.Whole enc Try.prog fn.params.toList s.vars false W args.toList ds gs before)
    (hread : ∀ t ∈ fn.params.toList, Try.prog.readableRec t = true ∧ t < Try.prog.types.size) (hres : fn.resultTypes = #[4]) (hvars : s.vars = [])
    (hfn : s.fn H (ds ++ gs) = { results := [.lit (.bool true)], args := ds })
    (h : LawPost W e W') : ∃ v, e = .returned v ∧ s.post enc Try.prog fn false true false false W args v W' := by
  obtain ⟨rfl, hb⟩ := h
  have hlt : ∀ p ∈ before, p.block < W.heap.size := fun p hp => hW.lt p hp
  have hW' := hW
  obtain ⟨p, q, hA, hV, hpq, hz, hn⟩ := hW
  rw [hvars] at hV
  obtain ⟨hgs, hq⟩ := trodVars_none hV
  subst hgs hq
  refine ⟨_, rfl, ds, [], before, [], before, [], hW', ?_, ?_, ?_, World.keptBut_mono (fun p hp => ⟨hp, Or.inr (Or.inl hp)⟩) (hb.frame (· ∈ before)), fun h => by cases h⟩
  · rw [hfn, hres]
    exact trodAll_cons_mk (shut_bool Try.underlying4 _) trodAll_mk0
  · rw [hfn]
    have hpb : before = p := by simpa using hpq
    subst hpb
    exact trodAll_stays hread hA (fun x hx => hb.same (hlt x hx)) (fun x hx => by simpa using hlt x hx)
  · rw [hfn, hvars]
    rfl
end
end Go.Proofs.Ytdepmcofnlggaaa
end
section
set_option linter.unusedVariables false
set_option linter.unusedSimpArgs false
attribute [local go_sem ↓] Go.wp_at_zero Go.wp_at_succ
namespace Go.Proofs.Ytdepmcofnlggaaa.PResolverCycles
open Go.RowKit Go.Proofs.YtdepmcofnlggaaaW.PrintWords Go.Proofs.YtdepmcofnlggaaaW.PrintLast Go.Proofs.YtdepmcofnlggaaaW.PrintMore
open Classical

noncomputable def restE (L : List S26) : List S26 := L.filter fun e => L.any fun f => decide (f.f1 = e.f2)
theorem restE_rest (L : List S26) : edgesOf (restE L) = Rc.restP (edgesOf L) := by
  unfold restE Rc.restP edgesOf
  rw [List.filter_map]
  congr 1
  apply List.filter_congr
  intro e _
  show _ = (List.map _ L).any _
  rw [List.any_map]
  rfl
theorem restE_less {l L : List S26} (hno : ∀ x ∈ (edgesOf l).map (·.1), ∀ m, ¬ Rc.Back ltI (edgesOf l) x m) (hL : ∀ e ∈ L, e ∈ l) (hne : 0 < L.length) : (restE L).length < L.length := by
  have h := Rc.rest_less tot_id (L := edgesOf L) hno (fun e he => by
    obtain ⟨x, hx, rfl⟩ := List.mem_map.1 he
    exact List.mem_map.2 ⟨x, hL x hx, rfl⟩) (by unfold edgesOf; rw [List.length_map]; exact hne)
  rw [← restE_rest] at h
  unfold edgesOf at h
  rwa [List.length_map, List.length_map] at h
theorem edgesN_of {w : World} {A : Option Addr} {l : List S26} (h : Kd.C k26 w A l.length l) : EdgesN w A l := fun hp => by
  obtain ⟨ad, e, hz, _⟩ := at_T26 h 0 (by omega) (by omega)
  have hpl : ad = ⟨ad.block, ad.off, none⟩ := spot_plain (i := 0) (a := ad) (by simpa [Addr.add] using hz)
  clear hz
  refine ⟨ad.block, ad.off, by rw [e, ← hpl], fun i hi => ?_⟩
  obtain ⟨ad', e', h0, h1, h2, h3, h4⟩ := at_T26 h (i : Int) (by omega) (by omega)
  obtain rfl : ad = ad' := by rw [e] at e'; exact Option.some.inj e'
  rw [hpl, Int.toNat_natCast, add_off] at h0 h1 h2 h3 h4
  have hr : rd_T26 l (i : Int) = l[i] := by
    unfold rd_T26
    rw [Int.toNat_natCast, List.getD_eq_getElem?_getD, List.getElem?_eq_getElem hi]
    rfl
  rw [hr] at h0 h1 h2 h3 h4
  exact ⟨h0, h1, h2, h3, h4⟩
theorem ids_plain {w : World} {ad : Addr} {L : List S24} (h : IdsAt w ad L) (hp : 0 < L.length) : ∃ G O, ad = ⟨G, O, none⟩ ∧ ∀ i (hi : i < L.length), w.cell? ⟨G, O + i * 2, none⟩ = some (.int .i64 L[i].f0) ∧ w.cell? ⟨G, O + i * 2 + 1, none⟩ = some (.int .i64 L[i].f1) := by
  have hc : ∀ i (hi : i < L.length), (idc L)[i * 2]? = some (.int .i64 L[i].f0) ∧ (idc L)[i * 2 + 1]? = some (.int .i64 L[i].f1) := fun i hi =>
    ⟨(fl_at (enc := encId) (k := 2) (fun _ => rfl) L i hi 0 (by omega)).trans rfl, (fl_at (enc := encId) (k := 2) (fun _ => rfl) L i hi 1 (by omega)).trans rfl⟩
  have h0 := h 0 _ (hc 0 hp).1
  have hpl : ad = ⟨ad.block, ad.off, none⟩ := spot_plain (i := 0) (a := ad) (by simpa [Addr.add] using h0)
  refine ⟨ad.block, ad.off, hpl, fun i hi => ?_⟩
  have h1 := h _ _ (hc i hi).1
  have h2 := h _ _ (hc i hi).2
  rw [hpl, add_off] at h1 h2
  exact ⟨h1, h2⟩
theorem cmpI_less {a b : S24} (h : ltI a b) : cmpI a b = -1 := by
  unfold ltI at h
  unfold cmpI orZ cmpZ
  repeat' split
  all_goals omega
theorem lit26 (w : World) : k26.R 26 (w.alloc (.cells #[] 26)) w.heap.size (fun _ => True) (.slice (some ⟨w.heap.size, 0, none⟩) 0 0) [] :=
  ⟨fun _ _ => trivial, [], World.ownsRow_lit (base := w.heap.size) (size := 5) w #[] 0 (Nat.le_refl _) (Nat.zero_le _) rfl, Reps.none _ _⟩
theorem ed_lit (w : World) (e : S26) : ReadsRow (k26.K (w.alloc (.cells #[.string e.f0, .int .i64 e.f1.f0, .int .i64 e.f1.f1, .int .i64 e.f2.f0, .int .i64 e.f2.f1] 26))) 5 (w.alloc (.cells #[.string e.f0, .int .i64 e.f1.f0, .int .i64 e.f1.f1, .int .i64 e.f2.f0, .int .i64 e.f2.f1] 26)) (some ⟨w.heap.size, 0, none⟩) 1 [e] := by
  refine ⟨rfl, by omega, fun _ => ⟨_, rfl, fun j p hp => ?_⟩⟩
  have hj : j = 0 := by
    have := (List.getElem?_eq_some_iff.1 hp).1
    simp at this; omega
  subst hj
  cases hp
  refine ⟨_, rfl, k26_mk _ e, fun i u hu => ?_⟩
  rw [add_off, blk_cell (heap_alloc_new w _)]
  simpa using hu
theorem filter_yes {α : Type} (P : α → Bool) (L : List α) (i : Nat) (h : i < L.length) (hp : P L[i] = true) : (L.take (i + 1)).filter P = (L.take i).filter P ++ [L[i]] := by
  rw [List.take_add_one, List.getElem?_eq_getElem h, Option.toList_some, List.filter_append]
  congr 1
  simp [hp]
theorem filter_no {α : Type} (P : α → Bool) (L : List α) (i : Nat) (h : i < L.length) (hp : P L[i] = false) : (L.take (i + 1)).filter P = (L.take i).filter P := by
  rw [List.take_add_one, List.getElem?_eq_getElem h, Option.toList_some, List.filter_append]
  simp [hp]
theorem any_next {α : Type} (P : α → Bool) (L : List α) (i : Nat) (h : i < L.length) : (L.take (i + 1)).any P = ((L.take i).any P || P L[i]) := by
  rw [List.take_add_one, List.getElem?_eq_getElem h, Option.toList_some, List.any_append]
  simp
/-- the edges that are left -/
def LeftIs (x : World) (l : List S26) (L : List S26) (v : Value) (w : World) : Prop := ∃ B d, v = .slice B L.length d ∧ Kd.C k26 w B L.length L ∧ (∀ e ∈ L, e ∈ l) ∧ L.length ≤ 60 ∧ Below x.heap.size x w
set_option maxHeartbeats 4000000 in
set_option maxRecDepth 20000 in
theorem rounds_walk (w : World) (A : Option Addr) (c : Nat) (l : List S26) (hC : Kd.C k26 w A l.length l) (hlc : l.length ≤ c) (hin : ∀ e ∈ l, InId e.f1 ∧ InId e.f2) :
    Calls Try.prog 5 #[.slice A l.length c] w (LawPost w) := by
  have HW := works_walk w
  have hl63 : l.length ≤ 9223372036854775807 := hC.2.1
  have hEN := Go.Lib.hid (edgesN_of hC)
  have hC' := Go.Lib.hid hC
  clear hC
  replace hin := Go.Lib.hid hin
  obtain ⟨n, hN⟩ : ∃ n, n = l.length := ⟨_, rfl⟩
  rw [← hN] at hlc hl63 ⊢
  replace hN := Go.Lib.hid hN
  go_enter Try.func5, Try.ntmps5
  go_upto_region 3 with (go_at_call 22; refine HW.mono ?_; rintro e u ⟨rfl, hu⟩)
  clear HW
  by_cases h60 : n ≤ 60
  · have q0 : ¬ (60 : Int) < (n : Int) := by omega
    have HC := cycle_any u A c l (hEN.out.below hu) (by rw [← hN.out]; exact hlc) (by rw [← hN.out]; omega) hin.out
    rw [← hN.out] at HC
    go_upto_region 6 with (go_at_call 6; refine HC.mono ?_; rintro e x ⟨v, s, r, rfl, hs, hr, hRV, hx⟩)
    have hBx := hu.trans (hx.mono hu.size)
    clear HC
    cases r with
    | none =>
      obtain rfl := hRV.1 rfl
      have hno : ∀ y ∈ (edgesOf l).map (·.1), ∀ m, ¬ Rc.Back ltI (edgesOf l) y m := by
        have h1 := (Rc.least_no hr).2
        intro y hy
        refine h1 y ((hs.2 y).2 ?_)
        unfold edgesOf at hy
        rw [List.map_map] at hy
        exact hy
      replace hno := Go.Lib.hid hno
      clear hr hs hRV
      go_wp2_with fail
      go_loopw [4] (fun i wr => i = .int .i64 0 ∧ x = wr) (fun _ _ => 0)
      case atStart => exact ⟨rfl, rfl⟩
      case round =>
        obtain ⟨rfl, rfl⟩ := hrel
        have hb1 := below_alloc (Below.refl x.heap.size x) (.cells #[] 26)
        have hO := lit26 x
        have hCn : ReadsRow (k26.K (x.alloc (.cells #[] 26))) 5 (x.alloc (.cells #[] 26)) A n l := by
          have := Kd.C_below (Kd.C_below hC'.out hBx) hb1
          rw [hN.out]; exact this
        go_upto_region 14 with (at_builtin; refine Kd.R_append_rows k26 x.heap.size rfl (.tmp 56) (.tmp 57) 22 26 _ 48 rfl Try.underlying22 info26 rfl (by decide) (by omega) _ [] l A n c (fun _ => True) (fun _ => False) rfl rfl hO hCn (fun x cs hx => by have := k26_open hx; subst this; exact k26_mkM _ _ _ x) (fun _ h => h.elim) (fun _ _ => trivial) hb1 hb1.size (by simp; omega) ?_; intro v1 w1 hO1 hB1 hg1 hat1; clear hat1 hg1)
        have hSt : LeftIs x l l v1 w1 := by
          obtain ⟨B, d, rfl, hcd, hCB⟩ := Kd.R_reads (show k26.R 26 w1 x.heap.size (fun _ => True) v1 l from hO1)
          exact ⟨B, d, rfl, hCB, fun e he => he, by rw [← hN.out]; exact h60, hB1⟩
        clear hO hCn hb1 hO1 hB1
        go_loopg [5] n (fun k v5 wq => ∃ L, k = L.length ∧ LeftIs x l L v5 wq)
        case atStart => exact ⟨l, hN.out, hSt⟩
        case round =>
          clear hSt
          obtain ⟨L, hk, B, d, rfl, hCL, hsub, hL60, hBq⟩ := hrel
          obtain ⟨m, hm⟩ : ∃ m, m = L.length := ⟨_, rfl⟩
          rw [← hm] at hL60 ⊢
          have hk' := hk
          rw [← hm] at hk'
          replace hk' := Go.Lib.hid hk'
          replace hm := Go.Lib.hid hm
          clear hk
          by_cases hm0 : m = 0
          · have q1 : ¬ (0 : Int) < (m : Int) := by omega
            have hfin := Go.Lib.hid (hBx.trans (hBq.mono hBx.size))
            clear hBq hCL
            go_wp2_with fail
            go_ret
            exact ⟨rfl, hfin.out⟩
          · have q1 : (0 : Int) < (m : Int) := by omega
            have q1n : 0 < m := by omega
            have hless := restE_less hno.out hsub (by rw [← hm.out]; omega)
            obtain ⟨wa, hwa⟩ : ∃ y, y = wr := ⟨_, rfl⟩
            subst hwa
            obtain ⟨G, O, hB, hE⟩ := edgesN_of hCL (by rw [← hm.out]; omega)
            subst hB
            replace hE := Go.Lib.hid hE
            replace hless := Go.Lib.hid hless
            replace hCL := Go.Lib.hid hCL
            replace hBq := Go.Lib.hid hBq
            replace hsub := Go.Lib.hid hsub
            go_upto_region 17 with fail
            go_loopw [6, 7] (fun v6 v7 wr => ∃ i : Nat, i ≤ m ∧ v7 = .int .i64 (i : Int) ∧ Below wa.heap.size wa wr ∧ Kd.R k26 26 wr wa.heap.size (fun _ => True) v6 ((L.take i).filter fun e => L.any fun f => decide (f.f1 = e.f2))) (fun _ v7 _ => m - (intOf v7).toNat)
            case atStart => exact ⟨0, by omega, rfl, Below.refl _ _, Kd.R_nil _ _ _ _ _⟩
            case round =>
              obtain ⟨i, hi, rfl, hBr, hO⟩ := hrel
              by_cases hil : i < m
              · have hiz : (i : Int) < (m : Int) := by omega
                have hiL : i < L.length := by rw [← hm.out]; exact hil
                obtain ⟨e0, e1, e2, e3, e4⟩ := hE.out i hiL
                have hyes := filter_yes (fun e : S26 => L.any fun f => decide (f.f1 = e.f2)) L i hiL
                have hnot := filter_no (fun e : S26 => L.any fun f => decide (f.f1 = e.f2)) L i hiL
                have hacc : ((L.take i).filter fun e => L.any fun f => decide (f.f1 = e.f2)).length ≤ 60 := by
                  have := List.length_filter_le (fun e : S26 => L.any fun f => decide (f.f1 = e.f2)) (L.take i)
                  rw [List.length_take] at this
                  omega
                generalize L[i] = y at *
                generalize ((L.take i).filter fun e => L.any fun f => decide (f.f1 = e.f2)) = acc at *
                replace hyes := Go.Lib.hid hyes
                replace hnot := Go.Lib.hid hnot
                replace hacc := Go.Lib.hid hacc
                replace hO := Go.Lib.hid hO
                obtain ⟨wb, hwb⟩ : ∃ y, y = wr := ⟨_, rfl⟩
                subst hwb
                go_upto_region 21 with fail
                go_loopw [8, 9] (fun v8 v9 wr => ∃ k : Nat, k ≤ m ∧ v9 = .int .i64 (k : Int) ∧ v8 = .bool ((L.take k).any fun f => decide (f.f1 = y.f2)) ∧ Below wb.heap.size wb wr) (fun _ v9 _ => m - (intOf v9).toNat)
                case atStart => exact ⟨0, by omega, rfl, rfl, Below.refl _ _⟩
                case round =>
                  obtain ⟨k, hk, rfl, rfl, hBk⟩ := hrel
                  by_cases hkl : k < m
                  · have hkz : (k : Int) < (m : Int) := by omega
                    have hkL : k < L.length := by rw [← hm.out]; exact hkl
                    have hnx := any_next (fun f : S26 => decide (f.f1 = y.f2)) L k hkL
                    have hBw := hBr.trans (hBk.mono hBr.size)
                    obtain ⟨_, f1, f2, _, _⟩ := hE.out k hkL
                    replace f1 := pw_cell_below hBw f1
                    replace f2 := pw_cell_below hBw f2
                    have y3 := pw_cell_below hBw e3
                    have y4 := pw_cell_below hBw e4
                    generalize L[k] = z at *
                    have hq := id_eql z.f1 y.f2
                    obtain ⟨b, hb⟩ : ∃ b, b = (L.take k).any fun f => decide (f.f1 = y.f2) := ⟨_, rfl⟩
                    rw [← hb] at hnx ⊢
                    replace hb := Go.Lib.hid hb
                    replace hnx := Go.Lib.hid hnx
                    cases b with
                    | true =>
                      go_wp2_with fail
                      go_quiet (fail)
                      go_wp2_with fail
                      go_round
                      case rel => exact ⟨k + 1, hkl, rfl, by rw [hnx.out]; rfl, hBk.trans ((Grown.of_drewN _ _).below.mono hBk.size)⟩
                      case measure => simp only [intOf]; omega
                    | false =>
                      go_wp2_with fail
                      go_quiet (fail)
                      go_wp2_with fail
                      go_round
                      case rel => exact ⟨k + 1, hkl, rfl, by rw [hnx.out, Bool.false_or], hBk.trans ((Grown.of_drewN _ _).below.mono hBk.size)⟩
                      case measure => simp only [intOf]; omega
                  · obtain rfl : k = m := by omega
                    have hT : L.take k = L := by rw [hm.out, List.take_length]
                    rw [hT]
                    clear hT
                    have hBw := hBr.trans (hBk.mono hBr.size)
                    replace hO := Go.Lib.hid (Kd.R_below hO.out hBk)
                    cases hv : L.any fun f => decide (f.f1 = y.f2) with
                    | false =>
                      have hnn := hnot.out hv
                      replace hnn := Go.Lib.hid hnn
                      replace hv := Go.Lib.hid hv
                      replace hBw := Go.Lib.hid hBw
                      go_wp2_with fail
                      go_round
                      case rel => exact ⟨i + 1, hil, rfl, hBw.out, by rw [hnn.out]; exact hO.out⟩
                      case measure => simp only [intOf]; omega
                    | true =>
                      have hnn := hyes.out hv
                      replace hnn := Go.Lib.hid hnn
                      replace hv := Go.Lib.hid hv
                      have y0 := pw_cell_below hBw e0
                      have y1 := pw_cell_below hBw e1
                      have y2 := pw_cell_below hBw e2
                      have y3 := pw_cell_below hBw e3
                      have y4 := pw_cell_below hBw e4
                      have hb2 := below_alloc (Below.refl wr.heap.size wr) (.cells #[.string y.f0, .int .i64 y.f1.f0, .int .i64 y.f1.f1, .int .i64 y.f2.f0, .int .i64 y.f2.f1] 26)
                      have hO2 := Kd.R_below hO.out hb2
                      have hB2 := hBw.trans (hb2.mono hBw.size)
                      clear hBk hBw hb2 hO
                      go_wp2_with (at_builtin; refine Kd.R_append_rows k26 wa.heap.size rfl (.tmp 89) (.tmp 94) 22 26 _ 48 rfl Try.underlying22 info26 rfl (by decide) (by omega) _ acc [y] (some ⟨wr.heap.size, 0, none⟩) 1 1 (fun _ => True) (fun _ => False) rfl rfl hO2 (ed_lit wr y) (fun x cs hx => by have := k26_open hx; subst this; exact k26_mkM _ _ _ x) (fun _ h => h.elim) (fun _ _ => trivial) hB2 hB2.size (by have := hacc.out; omega) ?_; intro v1 w1 hO1 hB1 hg1 hat1; clear hat1 hg1; replace hO1 := Go.Lib.hid hO1; replace hB1 := Go.Lib.hid hB1)
                      go_round
                      case rel => exact ⟨i + 1, hil, rfl, hB1.out, by rw [hnn.out]; exact hO1.out⟩
                      case measure => simp only [intOf]; omega
              · obtain rfl : i = m := by omega
                have hT : L.take i = L := by rw [hm.out, List.take_length]
                rw [hT] at hO
                clear hT
                obtain ⟨B2, d2, rfl, hcd2, hC2⟩ := Kd.R_reads hO
                have hrl : (L.filter fun e => L.any fun f => decide (f.f1 = e.f2)) = restE L := rfl
                rw [hrl] at hC2 hcd2 ⊢
                clear hO hrl
                have hl2 := hless.out
                have hsub2 : ∀ e ∈ restE L, e ∈ l := fun e he => hsub.out e (List.mem_filter.1 he).1
                replace hsub2 := Go.Lib.hid hsub2
                rw [← hm.out] at hl2
                have hl60 : (restE L).length ≤ 60 := by omega
                have hne : ((((restE L).length : Nat) : Int) == (i : Int)) = false := by simp; omega
                generalize hR : restE L = R at *
                replace hR := Go.Lib.hid hR
                replace hl60 := Go.Lib.hid hl60
                replace hl2 := Go.Lib.hid hl2
                have hBf := Go.Lib.hid (hBq.out.trans (hBr.mono hBq.out.size))
                replace hC2 := Go.Lib.hid hC2
                clear hBr
                go_wp2_with fail
                go_roundg R.length
                case rel => exact ⟨R, rfl, B2, d2, rfl, hC2.out, hsub2.out, hl60.out, hBf.out⟩
                case measure => have := hk'.out; have := hl2.out; omega
    | some L =>
      obtain ⟨ad, cc, rfl, hcc, hids⟩ := hRV.2 L rfl
      obtain ⟨x0, hround⟩ : ∃ x, Rc.Round ltI (edgesOf l) x (some L) := by
        rcases Rc.least_some hr with h | h
        · cases h
        · exact h
      obtain ⟨hL0, hedge, holdest⟩ := Rc.round_is hround
      obtain ⟨Gc, Oc, rfl, hcells⟩ := ids_plain hids hL0
      obtain ⟨nL, hnL⟩ : ∃ n, n = L.length := ⟨_, rfl⟩
      have hnl : nL ≤ 60 := by
        have := Rc.round_len tot_id hround
        rw [hnL]
        unfold edgesOf at this
        rw [List.length_map, ← hN.out] at this
        omega
      rw [← hnL] at hL0 hcc ⊢
      replace hnL := Go.Lib.hid hnL
      replace hcells := Go.Lib.hid hcells
      replace hedge := Go.Lib.hid hedge
      replace holdest := Go.Lib.hid holdest
      clear hround hRV hr hs hids
      go_wp2_with fail
      go_loopw [4] (fun i wr => ∃ j : Nat, j ≤ nL ∧ i = .int .i64 (j : Int) ∧ Below x.heap.size x wr) (fun i _ => nL - (intOf i).toNat)
      case atStart => exact ⟨0, by omega, rfl, Below.refl _ _⟩
      case round =>
        obtain ⟨j, hj, rfl, hBr⟩ := hrel
        by_cases hlt : j < nL
        · have hltz : (j : Int) < (nL : Int) := by omega
          have hjL : j < L.length := by rw [← hnL.out]; exact hlt
          have hj2 : (j + 1) % nL < nL := Nat.mod_lt _ (by omega)
          have hem : ((j : Int) + 1) % (nL : Int) = (((j + 1) % nL : Nat) : Int) := by rw [Int.natCast_emod]; rfl
          have hj2z : ((((j + 1) % nL : Nat) : Nat) : Int) < (nL : Int) := by omega
          obtain ⟨a0, a1⟩ := hcells.out j hjL
          obtain ⟨b0, b1⟩ := hcells.out ((j + 1) % nL) (by rw [← hnL.out]; exact hj2)
          obtain ⟨z0, z1⟩ := hcells.out 0 (by rw [← hnL.out]; omega)
          have hed : (L[j], L[(j + 1) % nL]'(by rw [← hnL.out]; exact hj2)) ∈ edgesOf l := by
            have := hedge.out j hjL
            simp only [hnL.out]
            exact this
          have hold : 0 < j → cmpI (L[0]'(by rw [← hnL.out]; omega)) L[j] = -1 := fun h => cmpI_less (holdest.out j hjL h)
          generalize L[j] = p at *
          generalize L[(j + 1) % nL]'(by rw [← hnL.out]; exact hj2) = q at *
          generalize L[0]'(by rw [← hnL.out]; omega) = z at *
          rw [Nat.zero_mul, Nat.add_zero] at z0 z1
          generalize (j + 1) % nL = j2 at *
          have hgb : ∀ n os, Below wr.heap.size wr (Sort.grow (wr.drewN n) os) := fun n os => (show Grown wr _ from ⟨n, os, rfl⟩).below
          have hB2 : ∀ n os, Below x.heap.size x (Sort.grow (wr.drewN n) os) := fun n os => hBr.trans ((hgb n os).mono hBr.size)
          have u0 := fun n os => pw_cell_below (hB2 n os) a0
          have u1 := fun n os => pw_cell_below (hB2 n os) a1
          have u2 := fun n os => pw_cell_below (hB2 n os) b0
          have u3 := fun n os => pw_cell_below (hB2 n os) b1
          have u4 := fun n os => pw_cell_below (hB2 n os) z0
          have u5 := fun n os => pw_cell_below (hB2 n os) z1
          obtain ⟨G, O, hA, hE⟩ := hEN.out (by
            unfold edgesOf at hed
            have := List.length_pos_of_mem hed
            rwa [List.length_map] at this)
          subst hA
          have hHas := fun n os => has_true (Sort.grow (wr.drewN n) os) G O c l p q (hE.below (hBx.trans ((hB2 n os).mono hBx.size))) (by rw [← hN.out]; omega) hed
          rw [← hN.out] at hHas
          unfold idV at hHas
          have hmix : Try.prog.follows .mixedOrders = true := by kernel_rfl
          clear a0 a1 b0 b1 z0 z1
          replace hgb := Go.Lib.hid hgb
          replace hB2 := Go.Lib.hid hB2
          replace hed := Go.Lib.hid hed
          replace hE := Go.Lib.hid hE
          go_upto_region 9 with fail
          by_cases hj0 : j = 0
          · have hjn : decide (0 < j) = false := decide_eq_false (by omega)
            replace hold := Go.Lib.hid hold
            replace hj0 := Go.Lib.hid hj0
            refine wp_region_quiet_grown (by assumption) (by kernel_rfl) ?_
            repeat (go_big_quiet_step ((go_at_call 23; refine Calls.grown_of (hHas _ _))))
            refine wpQuiet_nil ?_
            intro _ hw'
            obtain ⟨⟨nq, osq⟩, hw''⟩ := hw'
            subst hw''
            clear u0 u1 u2 u3 u4 u5 hHas hem
            go_wp2_with fail
            go_round
            case rel => exact ⟨j + 1, hlt, rfl, hB2.out _ _⟩
            case measure => simp only [intOf]; omega
          · have hcm := hold (by omega)
            replace hold := Go.Lib.hid hold
            have hjn : 0 < j := by omega
            have hCmp := fun w => compare_any z.f0 z.f1 p.f0 p.f1 w
            refine wp_region_quiet_grown (by assumption) (by kernel_rfl) ?_
            repeat (go_big_quiet_step (first | (go_at_call 24; refine Calls.grown_of (hCmp _)) | (go_at_call 23; refine Calls.grown_of (hHas _ _))))
            refine wpQuiet_nil ?_
            intro _ hw'
            obtain ⟨⟨nq, osq⟩, hw''⟩ := hw'
            subst hw''
            clear u0 u1 u2 u3 u4 u5 hHas hem hcm hCmp
            go_wp2_with fail
            go_round
            case rel => exact ⟨j + 1, hlt, rfl, hB2.out _ _⟩
            case measure => simp only [intOf]; omega
        · obtain rfl : j = nL := by omega
          have hfin := Go.Lib.hid (hBx.trans (hBr.mono hBx.size))
          have hj0 : 0 < (j : Int) := by omega
          clear hBr
          go_wp2_with fail
          go_ret
          exact ⟨rfl, hfin.out⟩
  · have q0 : (60 : Int) < (n : Int) := by omega
    go_wp2_with fail
    go_ret
    exact ⟨rfl, hu⟩
end Go.Proofs.Ytdepmcofnlggaaa.PResolverCycles
end
section
set_option linter.unusedVariables false
set_option linter.unusedSimpArgs false
namespace Go.Proofs.Ytdepmcofnlggaaa.PResolverCycles
open Go.ChangeShapes Go.WideShapes Go.RowKit Go.Deep Go.Proofs.YtdepmcofnlggaaaW.PrintWords Go.Proofs.YtdepmcofnlggaaaW.PrintLast Go.Proofs.YtdepmcofnlggaaaW.PrintMore

section
variable {H : Type} {enc : TypeId × Value → H} {W : World} {base : Nat} {spare : Nat → Bool} {held : Bool}
theorem in_all {P : Program} {e : TypeId} : ∀ {ds : List (DataW H)} {d : DataW H}, d ∈ ds → ∀ n ∈ d.weights P e, n ∈ DataW.weightsAll P e ds
  | d0 :: ds, d, hd, n, hn => by
    simp only [DataW.weightsAll, List.mem_append]
    rcases List.mem_cons.1 hd with rfl | h
    · exact .inl hn
    · exact .inr (in_all h n hn)
theorem pick {α : Type} (Q : Nat → α → Prop) : ∀ n, (∀ i, i < n → ∃ a, Q i a) → ∃ xs : List α, xs.length = n ∧ ∀ j p, xs[j]? = some p → Q j p
  | 0, _ => ⟨[], rfl, fun j p h => by simp at h⟩
  | n + 1, h => by
    obtain ⟨xs, hl, hx⟩ := pick Q n (fun i hi => h i (by omega))
    obtain ⟨a, ha⟩ := h n (by omega)
    refine ⟨xs ++ [a], by simp [hl], fun j p hj => ?_⟩
    rcases Nat.lt_or_ge j n with hlt | hge
    · rw [List.getElem?_append_left (by omega)] at hj; exact hx j p hj
    · have hjn : j = n := by have := (List.getElem?_eq_some_iff.1 hj).1; simp at this; omega
      subst hjn
      rw [List.getElem?_append_right (by omega), hl, Nat.sub_self] at hj
      cases hj; exact ha
/-- a row opened: of each element what its reading tells -/
theorem row_of {α : Type} (D : Kd α) (Pz : α → Prop) {t e : TypeId} {b : Nat} (ht : Try.prog.underlying t = some (.slice e)) (hsz : Try.prog.cellsOf e = D.sz) (hby : Try.prog.bytesOf e = b)
    (hK : ∀ n cs y, DataW.trod enc Try.prog W base spare held n e cs = some y → (∀ q ∈ y.1.weights Try.prog e, q ≤ reachBytes) → ∃ a, D.K W a cs ∧ Pz a)
    {fuel : Nat} {cs : List Value} {x : DataW H × List MemPlace} (h : DataW.trod enc Try.prog W base spare held fuel t cs = some x) (hz : ∀ q ∈ x.1.weights Try.prog t, q ≤ reachBytes) :
    ∃ A c xs, cs = [.slice A xs.length c] ∧ xs.length ≤ c ∧ D.C W A xs.length xs ∧ xs.length * b ≤ reachBytes ∧ ∀ a ∈ xs, Pz a := by
  rcases open_slice ht h with ⟨hc, hx⟩ | ⟨ad, n, c, m, k, Dt, Pl, hc, _, hl, hm0, hm, hx, hi⟩
  · exact ⟨none, 0, [], hc, Nat.zero_le _, Kd.C_nil D W, by simp, fun a ha => by cases ha⟩
  · have hnm : n ≤ m := by split at hm <;> omega
    have hd : x.1 = .slice ((List.range n).map Dt) ((List.range (m - n)).map fun j => Dt (n + j)) := by rw [hx]
    have hall : ∀ i, i < n → ∃ a : α, (∃ cs', cs'.length = D.sz ∧ D.K W a cs' ∧ ∀ j u, cs'[j]? = some u → W.cell? (ad.add (i * D.sz + j)) = some u) ∧ Pz a := by
      intro i hin
      obtain ⟨cs', hcs, htr⟩ := hi i (by omega)
      obtain ⟨a, ha, hp⟩ := hK k cs' _ htr (fun q hq => hz q (by
        rw [hd]
        simp only [DataW.weights, ht]
        exact List.mem_cons_of_mem _ (List.mem_append_left _ (in_all (d := Dt i) (List.mem_map.2 ⟨i, List.mem_range.2 hin, rfl⟩) q hq))))
      obtain ⟨_, hcl, hat⟩ := World.cells?_some hcs
      refine ⟨a, ⟨cs', D.K_len ha, ha, fun j u hu => ?_⟩, hp⟩
      have hj : j < cs'.length := (List.getElem?_eq_some_iff.1 hu).1
      have := hat j (by omega)
      rw [hu, Go.Deep.add_add, hsz] at this
      exact this
    obtain ⟨xs, hxl, hx2⟩ := pick _ n hall
    subst hxl
    refine ⟨some ad, c, xs, hc, hl, ⟨rfl, by simp only [maxLen] at hm0; omega, fun _ => ⟨ad, rfl, fun j p hj => ?_⟩⟩, ?_, fun q hq => ?_⟩
    · obtain ⟨cs', h1, h2, h3⟩ := (hx2 j p hj).1
      exact ⟨cs', h1, h2, h3⟩
    · have := hz ((((List.range xs.length).map Dt).length + ((List.range (m - xs.length)).map fun j => Dt (xs.length + j)).length) * Try.prog.bytesOf e) (by rw [hd]; simp only [DataW.weights, ht]; exact List.mem_cons_self)
      rw [hby] at this
      simp only [List.length_map, List.length_range] at this
      exact Nat.le_trans (Nat.mul_le_mul_right b (Nat.le_add_right _ _)) this
    · obtain ⟨j, hj, rfl⟩ := List.getElem_of_mem hq
      exact (hx2 j xs[j] (List.getElem?_eq_getElem hj)).2
theorem in_range {n : Int} (h : (Lit.int .i64 n).wf = true) : InR n := by
  simpa [InR, Lit.wf, IntKind.min, IntKind.max, IntKind.signed, IntKind.bits] using h
set_option maxRecDepth 100000 in
theorem k24_of {fuel : Nat} {cs : List Value} {y : DataW H × List MemPlace} (h : DataW.trod enc Try.prog W base spare held fuel 24 cs = some y) : ∃ a, k24.K W a cs ∧ InId a := by
  obtain ⟨xs, n, _, hx, hlen, hxl, hf⟩ := DataW.trod_struct Try.underlying24 h
  rw [show Try.prog.cellsOf 24 = 2 by kernel_rfl] at hlen
  obtain ⟨u0, u1, rfl⟩ : ∃ u0 u1, cs = [u0, u1] := by
    match cs, hlen with
    | [u0, u1], _ => exact ⟨u0, u1, rfl⟩
  have hxl2 : xs.length = 2 := hxl
  have f0 : DataW.trod enc Try.prog W base spare held n 3 (([u0, u1].drop 0).take (Try.prog.cellsOf 3)) = xs[0]? := hf 0 _ rfl
  rw [show Try.prog.cellsOf 3 = 1 by kernel_rfl, List.getElem?_eq_getElem (show 0 < xs.length by omega)] at f0
  replace f0 : DataW.trod enc Try.prog W base spare held n 3 [u0] = some xs[0] := f0
  have f1 : DataW.trod enc Try.prog W base spare held n 3 (([u0, u1].drop 1).take (Try.prog.cellsOf 3)) = xs[1]? := hf 1 _ rfl
  rw [show Try.prog.cellsOf 3 = 1 by kernel_rfl, List.getElem?_eq_getElem (show 1 < xs.length by omega)] at f1
  replace f1 : DataW.trod enc Try.prog W base spare held n 3 [u1] = some xs[1] := f1
  obtain ⟨z0, e0, _, g0⟩ := DataW.trod_int Try.underlying3 f0
  cases e0
  obtain ⟨z1, e1, _, g1⟩ := DataW.trod_int Try.underlying3 f1
  cases e1
  exact ⟨⟨z0, z1⟩, k24_mk W ⟨z0, z1⟩, in_range g0, in_range g1⟩
set_option maxRecDepth 100000 in
theorem k26_of {fuel : Nat} {cs : List Value} {y : DataW H × List MemPlace} (h : DataW.trod enc Try.prog W base spare held fuel 26 cs = some y) : ∃ a, k26.K W a cs ∧ (InId a.f1 ∧ InId a.f2) := by
  obtain ⟨xs, n, _, hx, hlen, hxl, hf⟩ := DataW.trod_struct Try.underlying26 h
  rw [show Try.prog.cellsOf 26 = 5 by kernel_rfl] at hlen
  obtain ⟨u0, u1, u2, u3, u4, rfl⟩ : ∃ u0 u1 u2 u3 u4, cs = [u0, u1, u2, u3, u4] := by
    match cs, hlen with
    | [u0, u1, u2, u3, u4], _ => exact ⟨u0, u1, u2, u3, u4, rfl⟩
  have hxl2 : xs.length = 3 := hxl
  have f0 : DataW.trod enc Try.prog W base spare held n 9 (([u0, u1, u2, u3, u4].drop 0).take (Try.prog.cellsOf 9)) = xs[0]? := hf 0 _ rfl
  rw [show Try.prog.cellsOf 9 = 1 by kernel_rfl, List.getElem?_eq_getElem (show 0 < xs.length by omega)] at f0
  replace f0 : DataW.trod enc Try.prog W base spare held n 9 [u0] = some xs[0] := f0
  have f1 : DataW.trod enc Try.prog W base spare held n 24 (([u0, u1, u2, u3, u4].drop 1).take (Try.prog.cellsOf 24)) = xs[1]? := hf 1 _ rfl
  rw [show Try.prog.cellsOf 24 = 2 by kernel_rfl, List.getElem?_eq_getElem (show 1 < xs.length by omega)] at f1
  replace f1 : DataW.trod enc Try.prog W base spare held n 24 [u1, u2] = some xs[1] := f1
  have f2 : DataW.trod enc Try.prog W base spare held n 24 (([u0, u1, u2, u3, u4].drop 3).take (Try.prog.cellsOf 24)) = xs[2]? := hf 2 _ rfl
  rw [show Try.prog.cellsOf 24 = 2 by kernel_rfl, List.getElem?_eq_getElem (show 2 < xs.length by omega)] at f2
  replace f2 : DataW.trod enc Try.prog W base spare held n 24 [u3, u4] = some xs[2] := f2
  obtain ⟨z0, e0, _, _⟩ := DataW.trod_string Try.underlying9 f0
  cases e0
  obtain ⟨z1, hz1, q1⟩ := k24_of f1
  have e1 := k24_open hz1
  cases e1
  obtain ⟨z2, hz2, q2⟩ := k24_of f2
  have e2 := k24_open hz2
  cases e2
  exact ⟨⟨z0, z1, z2⟩, k26_mk W ⟨z0, z1, z2⟩, q1, q2⟩
set_option maxRecDepth 100000 in
/-- edges handed in -/
theorem open_edges {v : Value} {d : DataW H} {ps : List MemPlace} (hval : Value.okWide Try.prog W .any base 22 v) (h : DataW.Trod enc Try.prog W 0 spare held 22 v d ps) (hz : ∀ q ∈ d.weights Try.prog 22, q ≤ reachBytes) :
    ∃ A c l, v = .slice A l.length c ∧ l.length ≤ c ∧ Kd.C k26 W A l.length l ∧ ∀ e ∈ l, InId e.f1 ∧ InId e.f2 := by
  obtain ⟨A0, n0, c0, rfl⟩ := okWide_slice Try.underlying22 hval
  obtain ⟨fuel, h⟩ := h
  obtain ⟨A, c, l, e, h1, h2, _, h3⟩ := row_of k26 (fun a => InId a.f1 ∧ InId a.f2) Try.underlying22 (b := 48) (by kernel_rfl) (by kernel_rfl) (fun n cs y hh _ => k26_of hh) h hz
  cases e
  exact ⟨_, _, l, rfl, h1, h2, h3⟩
end
end Go.Proofs.Ytdepmcofnlggaaa.PResolverCycles
end
section
set_option linter.unusedVariables false
set_option linter.unusedSimpArgs false
namespace Go.Proofs.Ytdepmcofnlggaaa.lawResolverRounds
open Go.ChangeShapes Go.WideShapes Go.ChangeAt Go.RowKit

theorem own : ownKnob Try.prog.godebug = none := by kernel_rfl
set_option maxRecDepth 100000 in
theorem contract (H : Type) (enc : TypeId × Value → H) (W : World) (base : Nat) (args : Array Value) (ds gs : List (DataW H)) (before : List MemPlace)
    (hval : ∀ (j : Nat) t v, Try.f5.params[j]? = some t → args[j]? = some v → Value.okWide Try.prog W .any base t v)
    (hW : DataW.Whole enc Try.prog Try.f5.params.toList Rows.resolverRoundsSpec.vars false W args.toList ds gs before)
    (hsz : (DataW.weightsEach Try.prog (Try.f5.params.toList ++ []) (ds ++ gs)).all (· ≤ reachBytes) = true) :
    Calls Try.prog 5 args W fun e W' => ∃ v, e = .returned v ∧ Rows.resolverRoundsSpec.post enc Try.prog Try.f5 false true false false W args v W' := by
  have hW' := hW
  obtain ⟨p, q, hA0, hV, _, _, _⟩ := hW
  have hA : DataW.TrodAll enc Try.prog W 0 (fun _ => true) true Try.f5.params.toList args.toList ds p := hA0
  rw [Try.params5] at hA hval hsz
  obtain ⟨v0, vs0, d0, ds0, p0, q0, hargs0, rfl, _, h0, r0⟩ := trodAll_cons hA
  obtain ⟨rfl, rfl, _⟩ := trodAll_nil r0
  obtain rfl : args = #[v0] := by cases args; simp_all
  obtain ⟨rfl, _⟩ := trodVars_none hV
  obtain ⟨A, c, l, rfl, hlc, hC, hin⟩ := PResolverCycles.open_edges (hval 0 22 v0 rfl rfl) h0 (fun m hm => by have := List.all_eq_true.1 hsz m (DataW.weights_mem_each (j := 0) rfl rfl m hm); simpa using this)
  refine (PResolverCycles.rounds_walk W A c l hC hlc hin).mono fun e W' h => ?_
  refine law_post hW' ?_ rfl rfl rfl h
  rw [Try.params5]
  intro t ht
  simp only [List.mem_cons, List.not_mem_nil, or_false] at ht
  rcases ht with rfl <;> exact ⟨by kernel_rfl, of_decide_eq_true (by kernel_rfl)⟩

set_option maxRecDepth 100000 in
theorem lifted (os : Os) (started : os.Started) (H : Type) (enc : TypeId × Value → H) :
    ReturnsInHanded {} Try.checked os 5 .any (Rows.resolverRoundsSpec.pre6 enc Try.prog Try.f5 Rows.resolverRoundsRow.domain false) (Rows.resolverRoundsSpec.post enc Try.prog Try.f5 false true false false) := by
  refine returnsInHanded_of_change_sized (C := Try.checked) own started (by kernel_rfl) Try.func5
    (ChangeSpec.witness6 (enc := enc) (C := Try.checked) false ⟨#[], #[Value.slice none 0 0], []⟩ 8 (by kernel_rfl) (by kernel_rfl) (by kernel_rfl) (by kernel_rfl)) ?_
  intro W base args ds gs before hval hW _ hsz _
  exact contract H enc W base args ds gs before hval hW hsz

theorem proved : Rows.ResolverRoundsSaid :=
  OpenClaim.holds_of_wide 5 Try.f5 rfl rfl rfl rfl rfl rfl rfl ⟨rfl, rfl, rfl, rfl, rfl⟩ rfl rfl rfl rfl rfl (by kernel_rfl) Try.func5 (by kernel_rfl)
    (of_decide_eq_true (by kernel_rfl)) (by unfold Func.isWrapper; first | (rw [if_pos (by decide +kernel)]; kernel_rfl) | (rw [if_neg (by decide +kernel)]; exact ⟨rfl, rfl⟩))
    (fun os started H enc _ => lifted os started H enc)
end Go.Proofs.Ytdepmcofnlggaaa.lawResolverRounds
end
