/- Looking for a transaction in a state: IndexFunc, ContainsFunc and the closures of Right and Left, walked. (ahead of it: resolver.least, walked. age.Sort of no identities, and of a row that may be nil; the keys of a map of rows. resolver.Cycle, walked. The document's side: comparing identities; edges that can be read; the memory of far.) -/
import Derived.Test.YtdepmcofnlggaaaPrD
import Derived.Shelf.SlSortCmp.NoneTotal
import Derived.Test.YtdepmcofnlggaaaPrA
import Derived.Test.YtdepmcofnlggaaaRcSx1
import Derived.Test.YtdepmcofnlggaaaRcSCmp
import Derived.Test.YtdepmcofnlggaaaPrC
import Derived.Shelf.Abstract
section
set_option linter.unusedVariables false
set_option linter.unusedSimpArgs false
attribute [local go_sem ↓] Go.wp_at_zero Go.wp_at_succ
namespace Go.Proofs.Ytdepmcofnlggaaa.PResolverCycles
open Go.RowKit Go.Proofs.YtdepmcofnlggaaaW.PrintWords Go.Proofs.YtdepmcofnlggaaaW.PrintLast Go.Proofs.YtdepmcofnlggaaaW.PrintMore
open Classical

set_option maxHeartbeats 2000000 in
set_option maxRecDepth 20000 in
theorem least_walk (w : World) (base B fb : Nat) (f : S24 → List S24) (gg cc : S24 → Nat) (l : List S26) (from_ : S24) (hR : RowsMap w base B f gg cc) (hso : ∀ a, Rc.SortedOf ltI (rowOf (·.f1) (·.f2) l a) (f a))
    (hfl : ∀ a, (f a).length ≤ 1000) (hM : MapIs w fb (farV (Rc.dist ltI (edgesOf l) from_))) (hfr : InId from_) (hin : ∀ e ∈ l, InId e.f1 ∧ InId e.f2) (hlen : l.length ≤ 1000) :
    Calls Try.prog 29 #[.map (some B), .map (some fb), idV from_] w fun e w' =>
      ∃ v r, e = .returned v ∧ Rc.Round ltI (edgesOf l) from_ r ∧ (r = none → v = .slice none 0 0) ∧ (∀ L, r = some L → ∃ ad c, v = .slice (some ad) L.length c ∧ L.length ≤ c ∧ IdsAt w' ad L) ∧ Below w.heap.size w w' := by
  have hmem : ∀ a x, x ∈ f a ↔ (a, x) ∈ edgesOf l := fun a x => ((hso a).2 x).trans (mem_rowOf l a x)
  have hfin : ∀ a x, x ∈ f a → InId x := fun a x hx => by
    have h1 := (mem_rowOf l a x).2 ((hmem a x).1 hx)
    obtain ⟨e, he, rfl⟩ := List.mem_map.1 h1
    exact (hin e (List.mem_filter.1 he).1).2
  have hdl : ∀ x k, Rc.dist ltI (edgesOf l) from_ x = some k → k ≤ 1000 := fun x k h => by
    have h1 := Rc.lev_top h
    rw [edges_len] at h1
    omega
  replace hmem := Go.Lib.hid hmem
  replace hfin := Go.Lib.hid hfin
  replace hdl := Go.Lib.hid hdl
  replace hso := Go.Lib.hid hso
  replace hfl := Go.Lib.hid hfl
  replace hin := Go.Lib.hid hin
  replace hlen := Go.Lib.hid hlen
  have hS := lm_start w fb from_
  obtain ⟨c4, c5, c51, c7, f7⟩ := hS.cells
  have hRS := hR.below hS.below
  have hL := hRS.map.lookup (t := 54) Try.underlying54 (zero27 _) hfr false
  simp only [Bool.false_eq_true, if_false] at hL
  have hrow : ∃ ra rc, (rowF f gg cc from_).getD (.slice none 0 0) = .slice ra (f from_).length rc ∧ (f from_ ≠ [] → ∃ g c, ra = some ⟨g, 0, none⟩ ∧ IdRow w base g c (f from_)) := by
    unfold rowF
    by_cases e : f from_ = []
    · rw [if_pos e, e]; exact ⟨none, 0, rfl, fun h => absurd rfl h⟩
    · rw [if_neg e]; exact ⟨_, _, rfl, fun _ => ⟨_, _, rfl, hR.rows from_ e⟩⟩
  obtain ⟨ra, rc, hre, hrow⟩ := hrow
  rw [hre] at hL
  clear hre hRS
  obtain ⟨nr, hnr⟩ : ∃ n, n = (f from_).length := ⟨_, rfl⟩
  rw [← hnr] at hL
  replace hnr := Go.Lib.hid hnr
  replace hrow := Go.Lib.hid hrow
  replace hS := Go.Lib.hid hS
  replace hR := Go.Lib.hid hR
  replace hM := Go.Lib.hid hM
  unfold idV at hL ⊢
  go_enter Try.func29, Try.ntmps29
  go_wp2_with fail
  obtain ⟨T4, h4⟩ : ∃ x, x = w.heap.size := ⟨_, rfl⟩
  obtain ⟨T5, h5⟩ : ∃ x, x = w.heap.size + 1 := ⟨_, rfl⟩
  obtain ⟨T7, h7⟩ : ∃ x, x = w.heap.size + 2 := ⟨_, rfl⟩
  rw [show w.heap.size + 1 + 1 = w.heap.size + 2 from rfl]
  clear c4 c5 c51 c7 f7
  rw [← h7, ← h5, ← h4] at hS
  rw [← h7, ← h5, ← h4]
  replace h4 := Go.Lib.hid h4
  replace h5 := Go.Lib.hid h5
  replace h7 := Go.Lib.hid h7
  generalize ((w.alloc (.cells #[.map (some fb)] 62)).alloc (.cells #[.int .i64 from_.f0, .int .i64 from_.f1] 24)).alloc (.cells #[.int .i64 (-1)] 3) = W3 at *
  clear hL
  go_loopg [19] nr (fun k v19 wr => ∃ (i : Nat) (best : Int), k = nr - i ∧ i ≤ nr ∧ v19 = .int .i64 (i : Int) ∧ LM w wr fb T4 T5 T7 from_ best ∧ BestOf (Rc.dist ltI (edgesOf l) from_) ((f from_).take i) best)
  case atStart => exact ⟨0, -1, rfl, Nat.zero_le _, rfl, hS.out, .inl ⟨rfl, fun x hx => by simp at hx⟩⟩
  case round =>
    clear hS
    obtain ⟨i, best, hk, hi, rfl, hLM, hBest⟩ := hrel
    by_cases hlt : i < nr
    · have hil : i < (f from_).length := by rw [← hnr.out]; exact hlt
      have hltz : (i : Int) < (nr : Int) := by omega
      obtain ⟨gw, cw, hra, hrw⟩ := hrow.out (fun e => by rw [e] at hil; exact Nat.not_lt_zero _ hil)
      subst hra
      obtain ⟨a0, a1⟩ := idrow_cell hrw i hil
      replace a0 := pw_cell_below hLM.below a0
      replace a1 := pw_cell_below hLM.below a1
      have hxi := hfin.out from_ _ (List.getElem_mem hil)
      have htk : (f from_).take (i + 1) = (f from_).take i ++ [(f from_)[i]] := by rw [List.take_add_one, List.getElem?_eq_getElem hil]; rfl
      have hi1000 : i < 1000 := Nat.lt_of_lt_of_le hil (hfl.out from_)
      replace htk := Go.Lib.hid htk
      generalize (f from_)[i] = x at *
      have hn1 : wrap64 ((i : Int) + 1) = ((i + 1 : Nat) : Int) := by
        clear hk hlt hil hltz hi
        unfold wrap64; omega
      replace hn1 := Go.Lib.hid hn1
      replace hk := Go.Lib.hid hk
      clear hil hrw hi1000
      have hLV := hLM.later (below_alloc (Below.refl wr.heap.size wr) (.cells #[.int .i64 x.f0, .int .i64 x.f1] 24))
      have hx := heap_alloc_new wr (.cells #[.int .i64 x.f0, .int .i64 x.f1] 24)
      go_upto_region 5 with fail
      obtain ⟨gx, hgx⟩ : ∃ y, y = wr.heap.size := ⟨_, rfl⟩
      rw [← hgx] at hx
      rw [← hgx]
      generalize wr.alloc (.cells #[.int .i64 x.f0, .int .i64 x.f1] 24) = V at *
      clear hgx a0 a1 hLM
      have e0 := blk_cell hx 0
      have e1 := blk_cell hx 1
      simp only [List.getElem?_toArray, List.getElem?_cons_zero, List.getElem?_cons_succ] at e0 e1
      clear hx
      obtain ⟨c4, c5, c51, c7, f7⟩ := hLV.cells
      have hLf := (hM.out.below hLV.below).lookup (t := 62) Try.underlying62 (zero3 V) hxi true
      simp only [if_true] at hLf
      unfold idV at hLf
      cases hfar : Rc.dist ltI (edgesOf l) from_ x with
      | none =>
        have hfv : farV (Rc.dist ltI (edgesOf l) from_) x = none := by unfold farV; rw [hfar]; rfl
        rw [hfv] at hLf
        simp only [Option.getD_none, Option.isSome_none] at hLf
        clear hfv
        have hB2 := Go.Lib.hid (hBest.skip hfar)
        replace hfar := Go.Lib.hid hfar
        replace hLV := Go.Lib.hid hLV
        clear hBest
        go_wp2_with fail
        rw [hn1.out]
        go_roundg (nr - (i + 1))
        case rel => exact ⟨i + 1, best, rfl, hlt, rfl, hLV.out, by rw [htk.out]; exact hB2.out⟩
        case measure => have := hk.out; omega
      | some n =>
        have hfv : farV (Rc.dist ltI (edgesOf l) from_) x = some (.int .i64 (n : Int)) := by unfold farV; rw [hfar]; rfl
        rw [hfv] at hLf
        simp only [Option.getD_some, Option.isSome_some] at hLf
        clear hfv
        have hlo := hBest.lo
        by_cases hb : best < 0
        · have hB2 := Go.Lib.hid (hBest.better hfar (.inl hb))
          replace hfar := Go.Lib.hid hfar
          replace hLS := Go.Lib.hid (hLV.set n)
          clear hBest hLV hlo
          go_wp2_with fail
          rw [hn1.out]
          go_roundg (nr - (i + 1))
          case rel => exact ⟨i + 1, n, rfl, hlt, rfl, hLS.out, by rw [htk.out]; exact hB2.out⟩
          case measure => have := hk.out; omega
        · by_cases hb2 : (n : Int) < best
          · have hB2 := Go.Lib.hid (hBest.better hfar (.inr hb2))
            replace hfar := Go.Lib.hid hfar
            replace hLS := Go.Lib.hid (hLV.set n)
            clear hBest hLV hlo
            go_wp2_with fail
            rw [hn1.out]
            go_roundg (nr - (i + 1))
            case rel => exact ⟨i + 1, n, rfl, hlt, rfl, hLS.out, by rw [htk.out]; exact hB2.out⟩
            case measure => have := hk.out; omega
          · have hB2 := Go.Lib.hid (hBest.keep hfar (by omega) (by omega))
            replace hfar := Go.Lib.hid hfar
            replace hLV := Go.Lib.hid hLV
            clear hBest hlo
            go_wp2_with fail
            rw [hn1.out]
            go_roundg (nr - (i + 1))
            case rel => exact ⟨i + 1, best, rfl, hlt, rfl, hLV.out, by rw [htk.out]; exact hB2.out⟩
            case measure => have := hk.out; omega
    · have hin2 : i = nr := by omega
      have hB2 : BestOf (Rc.dist ltI (edgesOf l) from_) (f from_) best := by rw [hin2, hnr.out, List.take_length] at hBest; exact hBest
      obtain ⟨c4, c5, c51, c7, f7⟩ := hLM.cells
      subst hin2
      clear hBest hk
      by_cases hb : best < 0
      · have hno := Go.Lib.hid (hB2.no (hmem.out from_) hb)
        replace hLM := Go.Lib.hid hLM
        clear hB2
        go_wp2_with fail
        go_ret
        exact ⟨_, none, rfl, hno.out, fun _ => rfl, (fun L h => by cases h), hLM.out.below⟩
      · obtain ⟨m, hm, hSh⟩ := hB2.yes (hmem.out from_) hb
        subst hm
        clear hB2
        have hs4 := below_alloc (Below.refl wr.heap.size wr) (.cells #[.int .i64 from_.f0, .int .i64 from_.f1] 24)
        have hL4 := hLM.later hs4
        have hn4 := heap_alloc_new wr (.cells #[.int .i64 from_.f0, .int .i64 from_.f1] 24)
        have hz4 : (wr.alloc (.cells #[.int .i64 from_.f0, .int .i64 from_.f1] 24)).heap.size = wr.heap.size + 1 := by simp
        have hb7 : T7 < wr.heap.size := hLM.b7.lt
        obtain ⟨d4, d5, d51, d7, f7'⟩ := hL4.cells
        have hs5 := below_alloc (Below.refl _ (wr.alloc (.cells #[.int .i64 from_.f0, .int .i64 from_.f1] 24))) (.cells #[.int .i64 from_.f0, .int .i64 from_.f1] 24)
        have hn5 := heap_alloc_new (wr.alloc (.cells #[.int .i64 from_.f0, .int .i64 from_.f1] 24)) (.cells #[.int .i64 from_.f0, .int .i64 from_.f1] 24)
        rw [hz4] at hn5
        have hL5 := hL4.later hs5
        have hQ5 : QueueAt ((wr.alloc (.cells #[.int .i64 from_.f0, .int .i64 from_.f1] 24)).alloc (.cells #[.int .i64 from_.f0, .int .i64 from_.f1] 24)) (T7 + 1) wr.heap.size 0 1 [from_] := by
          refine ⟨_, (hs5.block _ (by omega)).trans hn4, by omega, by simp, by simp [maxLen], by simp, by simp [idc, encId]⟩
        obtain ⟨G1, hG1⟩ : ∃ y, y = wr.heap.size := ⟨_, rfl⟩
        rw [← hG1] at hz4 hn5 hQ5 hb7
        replace hL5 := Go.Lib.hid hL5
        replace hQ5 := Go.Lib.hid hQ5
        replace hSh := Go.Lib.hid hSh
        replace hn5 := Go.Lib.hid hn5
        clear hs4 hs5 hn4 hL4 hLM hz4
        go_wp2_with fail
        rw [← hG1]
        clear hG1
        generalize (wr.alloc (.cells #[.int .i64 from_.f0, .int .i64 from_.f1] 24)).alloc (.cells #[.int .i64 from_.f0, .int .i64 from_.f1] 24) = W5 at *
        clear c4 c5 c51 c7 f7 d4 d5 d51 d7 f7'
        go_loopg [12, 13] m (fun k v12 v13 wq => ∃ (a : S24) (L : List S24) (gq oq cq ba : Nat), v12 = .slice (some ⟨gq, oq * 2, none⟩) L.length cq ∧ v13 = .pointer (some ⟨ba, 0, none⟩) ∧ LM w wq fb T4 T5 T7 from_ (k : Int) ∧ QueueAt wq (T7 + 1) gq oq cq L ∧
          wq.heap[ba]? = some (.cells #[.int .i64 a.f0, .int .i64 a.f1] 24 (0, 0)) ∧ T7 < ba ∧ gq ≠ ba ∧ InId a ∧ OnWay (edgesOf l) from_ m a k L)
        case atStart => exact ⟨from_, [from_], G1, 0, 1, G1 + 1, rfl, rfl, hL5.out, hQ5.out, hn5.out, by omega, by omega, hfr, onWay_start hSh.out⟩
        case round =>
          clear hL5 hQ5 hn5
          obtain ⟨k, hk⟩ : ∃ k, k = gk := ⟨_, rfl⟩
          subst hk
          obtain ⟨a, L, gq, oq, cq, ba, rfl, rfl, hLM, hQ, ha, hba, hgb, hai, hOn⟩ := hrel
          obtain ⟨c4, c5, c51, c7, f7⟩ := hLM.cells
          rcases Nat.eq_zero_or_pos k with hk0 | hkp
          · subst hk0
            have hids := Go.Lib.hid hQ.ids
            have hcap := Go.Lib.hid (show L.length ≤ cq from by obtain ⟨_, _, _, h, _⟩ := hQ; exact h)
            have hRo := Go.Lib.hid (hOn.fin hSh.out)
            replace hLM := Go.Lib.hid hLM
            clear hOn hQ
            obtain ⟨nL, hnL⟩ : ∃ n, n = L.length := ⟨_, rfl⟩
            rw [← hnL]
            replace hnL := Go.Lib.hid hnL
            go_wp2_with fail
            go_ret
            exact ⟨_, some L, rfl, hRo.out, (fun h => by cases h), (fun L' h => by cases h; exact ⟨_, _, by rw [hnL.out]; rfl, hcap.out, hids.out⟩), hLM.out.below⟩
          · obtain ⟨j, hj⟩ : ∃ j, k = j + 1 := ⟨k - 1, by omega⟩
            have hpz : (0 : Int) < (k : Int) := by omega
            have hex := hOn.2
            have hfa : f a ≠ [] := by
              obtain ⟨g, hg, _⟩ := hex
              intro e
              have := (hmem.out a g).2 hg
              rw [e] at this; cases this
            have hk1000 : k ≤ 1000 := by obtain ⟨g, _, hg⟩ := hex; exact hdl.out g k hg
            obtain ⟨a0, a1⟩ : wr.cell? ⟨ba, 0, none⟩ = some (.int .i64 a.f0) ∧ wr.cell? ⟨ba, 1, none⟩ = some (.int .i64 a.f1) := ⟨by rw [blk_cell ha]; rfl, by rw [blk_cell ha]; rfl⟩
            have hRo := hR.out.below hLM.below
            have hLa := hRo.map.lookup (t := 54) Try.underlying54 (zero27 wr) hai false
            have hrf : rowF f gg cc a = some (rowV f gg cc a) := by unfold rowF; rw [if_neg hfa]
            rw [hrf] at hLa
            simp only [Bool.false_eq_true, if_false, Option.getD_some] at hLa
            have H := index_walk wr (gg a) 0 (cc a) (f a) ⟨T4, 0, none⟩ ⟨T7, 0, none⟩ ⟨T5, 0, none⟩ (fun x => decide (Rc.dist ltI (edgesOf l) from_ x = some k ∧ x ≠ from_)) (idrow_ids (hRo.rows a hfa)) (Nat.le_trans (hfl.out a) (by omega))
              (fun x hx u hu => by
                have h := hLM.later hu
                obtain ⟨q4, q5, q51, q7, _⟩ := h.cells
                exact pick_walk u fb T4 T7 T5 (Rc.dist ltI (edgesOf l) from_) k from_ x (hM.out.below h.below) q4 q7 q5 q51 (hfin.out a x hx))
            unfold rowV idV at hLa
            obtain ⟨na, hna⟩ : ∃ n, n = (f a).length := ⟨_, rfl⟩
            obtain ⟨nL, hnL⟩ : ∃ n, n = L.length := ⟨_, rfl⟩
            rw [← hna] at hLa H
            rw [← hnL]
            replace hna := Go.Lib.hid hna
            replace hnL := Go.Lib.hid hnL
            replace hj := Go.Lib.hid hj
            replace hex := Go.Lib.hid hex
            replace hfa := Go.Lib.hid hfa
            replace hk1000 := Go.Lib.hid hk1000
            replace hkp := Go.Lib.hid hkp
            clear hrf hRo
            replace hLM := Go.Lib.hid hLM
            go_upto_region 16 with (go_at_call 65; refine H.mono ?_; rintro e u ⟨r, rfl, hFi, hu⟩)
            obtain ⟨i, x, hix, rfl, hNx⟩ := first_next (to_ := from_) (n := k) (hso.out a).1 (hmem.out a) (fun _ => rfl) hkp.out hFi hex.out
            replace hLM := hLM.out.later hu
            replace ha := (hu.block _ (lt_of_block ha)).trans ha
            replace hQ := queue_block hQ (fun i _ hi => hu.block i hi)
            have hRo := hR.out.below hLM.below
            have hLa2 := hRo.map.lookup (t := 54) Try.underlying54 (zero27 u) hai false
            have hrf : rowF f gg cc a = some (rowV f gg cc a) := by unfold rowF; rw [if_neg hfa.out]
            rw [hrf] at hLa2
            simp only [Bool.false_eq_true, if_false, Option.getD_some] at hLa2
            unfold rowV idV at hLa2
            rw [← hna.out] at hLa2
            obtain ⟨b0, b1⟩ : u.cell? ⟨ba, 0, none⟩ = some (.int .i64 a.f0) ∧ u.cell? ⟨ba, 1, none⟩ = some (.int .i64 a.f1) := ⟨by rw [blk_cell ha]; rfl, by rw [blk_cell ha]; rfl⟩
            obtain ⟨hil, hie⟩ := List.getElem?_eq_some_iff.1 hix
            obtain ⟨x0, x1⟩ := idrow_cell (hRo.rows a hfa.out) i hil
            rw [hie] at x0 x1
            have hilz : (i : Int) < (na : Int) := by rw [hna.out]; omega
            have hxi := hfin.out a x (by rw [← hie]; exact List.getElem_mem hil)
            have hfz : u.frozen? ⟨ba, 0, none⟩ = false := by simp [World.frozen?, ha]
            have hset := set_id ha x
            have hfz1 : u.frozen? ⟨ba, 1, none⟩ = false := by simp [World.frozen?, ha]
            have hgr := set_grown u ba (.int .i64 x.f0) (.int .i64 x.f1)
            have hT45 : T4 ≠ ba ∧ T5 ≠ ba ∧ T7 ≠ ba ∧ w.heap.size ≤ ba := by have := h4.out; have := h5.out; have := h7.out; omega
            have hLM6 := hLM.kept hgr (fun k e => by cases e; exact ⟨hT45.2.2.2, fun e => hT45.1 e.symm, fun e => hT45.2.1 e.symm, fun e => hT45.2.2.1 e.symm⟩)
            have hQ6 := hQ.block (hgr.block gq hQ.lt.2 (fun e => hgb (by cases e; rfl)))
            replace hLM := Go.Lib.hid hLM
            replace hNx := Go.Lib.hid hNx
            clear H hLa hRo a0 a1 c4 c5 c51 c7 f7 hrf hil hie hix hFi hu hgr hT45
            go_upto_region 17 with fail
            clear hLa2 b0 b1 x0 x1 hilz hfz hfz1 ha hQ hLM
            obtain ⟨W6, hW6⟩ : ∃ W, W = (u.setCell ⟨ba, 0, none⟩ (.int .i64 x.f0)).setCell ⟨ba, 1, none⟩ (.int .i64 x.f1) := ⟨_, rfl⟩
            rw [← hW6] at hset hLM6 hQ6 ⊢
            clear hW6
            obtain ⟨x0, x1⟩ : W6.cell? ⟨ba, 0, none⟩ = some (.int .i64 x.f0) ∧ W6.cell? ⟨ba, 1, none⟩ = some (.int .i64 x.f1) := ⟨by rw [blk_cell hset]; rfl, by rw [blk_cell hset]; rfl⟩
            have hA := below_alloc (Below.refl W6.heap.size W6) (.cells #[.int .i64 x.f0, .int .i64 x.f1] 24)
            have hLM7 := hLM6.later hA
            have hQ7 := hQ6.block (hA.block gq hQ6.lt.2)
            have hb7 := (hA.block _ (lt_of_block hset)).trans hset
            have hLl : L.length ≤ 1000000 := by
              obtain ⟨⟨t, rfl, hl, _⟩, _⟩ := hOn
              have : m ≤ 1000 := by obtain ⟨g, _, hg⟩ := hSh.out.1; exact hdl.out g m hg
              simp; omega
            obtain ⟨g', o', c', w8, hap, hQ8, hg8, hg'⟩ := hQ7.push (by have := hLM7.b7.lt; omega) (by omega) x ⟨W6.heap.size, 0, none⟩ 1 (id_cells W6 x) 27
            have hb8 := (hg8.block ba (lt_of_block hb7) (fun e => hgb (by cases e; rfl))).trans hb7
            have hgT : T4 ≠ gq ∧ T5 ≠ gq ∧ T7 ≠ gq ∧ w.heap.size ≤ gq := by have := h4.out; have := h5.out; have := h7.out; have := hQ7.lt; omega
            have hLM8 := hLM7.kept hg8 (fun k e => by cases e; exact ⟨hgT.2.2.2, fun e => hgT.1 e.symm, fun e => hgT.2.1 e.symm, fun e => hgT.2.2.1 e.symm⟩)
            rw [← hnL.out] at hap
            obtain ⟨y0, y1⟩ : w8.cell? ⟨ba, 0, none⟩ = some (.int .i64 x.f0) ∧ w8.cell? ⟨ba, 1, none⟩ = some (.int .i64 x.f1) := ⟨by rw [blk_cell hb8]; rfl, by rw [blk_cell hb8]; rfl⟩
            have hA9 := below_alloc (Below.refl w8.heap.size w8) (.cells #[.int .i64 x.f0, .int .i64 x.f1] 24)
            have hLM9 := hLM8.later hA9
            have hQ9 := hQ8.block (hA9.block g' hQ8.lt.2)
            have hn9 := heap_alloc_new w8 (.cells #[.int .i64 x.f0, .int .i64 x.f1] 24)
            obtain ⟨_, _, _, c7, f7⟩ := hLM9.cells
            have hb9 : T7 < w8.heap.size := hLM8.b7.lt
            have hg9 : g' < w8.heap.size := hQ8.lt.2
            have hLMs0 := hLM8.set (j : Int)
            have hgs := grownBy_setCell' w8 T7 (.int .i64 (j : Int))
            have hQs0 := hQ8.block (hgs.block g' hQ8.lt.2 (fun e => by have := hQ8.lt.1; cases e; omega))
            have hszs : (w8.setCell ⟨T7, 0, none⟩ (.int .i64 (j : Int))).heap.size = w8.heap.size := by simp [World.setCell]
            have hAs := below_alloc (Below.refl _ (w8.setCell ⟨T7, 0, none⟩ (.int .i64 (j : Int)))) (.cells #[.int .i64 x.f0, .int .i64 x.f1] 24)
            have hLMs := hLMs0.later hAs
            have hQs := hQs0.block (hAs.block g' hQs0.lt.2)
            have hns := heap_alloc_new (w8.setCell ⟨T7, 0, none⟩ (.int .i64 (j : Int))) (.cells #[.int .i64 x.f0, .int .i64 x.f1] 24)
            rw [hszs] at hns
            have hsub : wrap64 ((k : Int) - 1) = (j : Int) := by
              have h1 := hj.out
              have h2 := hk1000.out
              clear hpz hi hlt hOn hb hba
              unfold wrap64; omega
            have hOn2 : OnWay (edgesOf l) from_ m x j (L ++ [x]) := by have h1 := hj.out; subst h1; exact hOn.step hNx.out
            have hsub2 : IntKind.i64.wrap ((k : Int) - 1) = (j : Int) := (IntWalk.i64_left _).trans hsub
            replace hsub := Go.Lib.hid hsub
            replace hsub2 := Go.Lib.hid hsub2
            replace hOn2 := Go.Lib.hid hOn2
            replace hLMs := Go.Lib.hid hLMs
            replace hQs := Go.Lib.hid hQs
            replace hns := Go.Lib.hid hns
            replace hg' := Go.Lib.hid hg'
            clear hOn hLM7 hLM8 hLM9 hQ7 hQ8 hQ9 hQ6 hLM6 hA hA9 hb7 hb8 hg8 hgT hgs hn9 hset hLl hAs hszs hQs0 hLMs0
            go_wp2_with (first | (at_builtin; refine wpList_append_run rfl (.tmp 61) (.tmp 63) 27 rfl _ _ _ _ rfl rfl hap ?_))
            rw [hsub.out]
            go_roundg j
            case rel => exact ⟨x, L ++ [x], g', o', c', w8.heap.size, by rw [hnL.out, List.length_append]; rfl, rfl, hLMs.out, hQs.out, hns.out, hb9, by omega, hxi, hOn2.out⟩
            case measure => have := hj.out; omega
end Go.Proofs.Ytdepmcofnlggaaa.PResolverCycles
end
section
set_option linter.unusedVariables false
set_option linter.unusedSimpArgs false
attribute [local go_sem ↓] Go.wp_at_zero Go.wp_at_succ
namespace Go.Proofs.Ytdepmcofnlggaaa.PResolverCycles
open Go.RowKit Go.Proofs.YtdepmcofnlggaaaW.PrintWords Go.Proofs.YtdepmcofnlggaaaW.PrintLast Go.Proofs.YtdepmcofnlggaaaW.PrintMore
open Classical

theorem clone_none (w : World) : Calls Try.prog 60 #[.slice none 0 0] w fun e w' => e = .returned (.slice none 0 0) ∧ w' = w := by
  have heq := Lib.run_eql_slice_nil (P := Try.prog) w 27 24 none 0 0 0 0 Try.underlying27
  go_enter Try.func60, Try.ntmps60
  go_wp2_with fail
  go_ret
  exact ⟨rfl, rfl⟩
theorem compact_none (w : World) : Calls Try.prog 62 #[.slice none 0 0] w fun e w' => e = .returned (.slice none 0 0) ∧ w' = w := by
  go_enter Try.func62, Try.ntmps62
  go_wp2_with fail
  go_ret
  exact ⟨rfl, rfl⟩
theorem age_sort_none (w : World) : Calls Try.prog 26 #[.slice none 0 0] w fun e w' => e = .returned (.slice none 0 0) ∧ w' = w := by
  have H1 := clone_none w
  have hS := AnyF.slices_SortFunc_none Try.sortId none 0 (.func (.func 24) #[] #[]) w
  have H2 : Calls Try.prog 61 #[.slice none 0 0, .func (.func 24) #[] #[]] w fun e w' => e = .returned (.tuple #[]) ∧ w' = w := hS
  have H3 := compact_none w
  clear hS
  go_enter Try.func26, Try.ntmps26
  go_upto_region 2 with (go_at_call 60; refine H1.mono ?_; rintro e w1 ⟨rfl, rfl⟩)
  go_upto_region 3 with (go_at_call 61; refine H2.mono ?_; rintro e w2 ⟨rfl, rfl⟩)
  go_wp2_with (go_at_call 62; refine H3.mono ?_; rintro e w3 ⟨rfl, rfl⟩)
  go_ret
  exact ⟨rfl, rfl⟩
/-- .. of a row of the call's own, nil or not -/
theorem age_sort_own (w : World) (base : Nat) (v : Value) (xs : List S24) (h : w.ownsRow base 24 2 v xs.length (idc xs)) (hn : v = .slice none 0 0 ↔ xs = []) (hm : xs.length ≤ 1000000) :
    Calls Try.prog 26 #[v] w fun e w' => ∃ sa sc s, e = .returned (.slice sa s.length sc) ∧ Rc.SortedOf ltI xs s ∧ (s ≠ [] → ∃ g, sa = some ⟨g, 0, none⟩ ∧ IdRow w' w.heap.size g sc s) ∧ Below w.heap.size w w' := by
  by_cases e : xs = []
  · rw [hn.2 e]
    refine (age_sort_none w).mono ?_
    rintro e' w' ⟨rfl, rfl⟩
    exact ⟨none, 0, [], rfl, by rw [e]; exact ⟨List.Pairwise.nil, fun _ => Iff.rfl⟩, fun h => absurd rfl h, Below.refl _ _⟩
  · have hl : 0 < xs.length := List.length_pos_iff.2 e
    obtain ⟨g, c, rfl, _, hr, _, _⟩ := own_idrow h hl
    refine (age_sort w ⟨g, 0, none⟩ c xs (idrow_ids hr) hl (by omega)).mono ?_
    rintro e' w' ⟨g', c', s, rfl, hs, hr', hb⟩
    exact ⟨_, c', s, rfl, hs, fun _ => ⟨g', rfl, hr'⟩, hb⟩
/-- the keys of a map of rows -/
theorem rows_keys {w : World} {base b : Nat} {f : S24 → List S24} {g c : S24 → Nat} (h : RowsMap w base b f g c) (l : List S26) (hl : ∀ a, f a ≠ [] ↔ rowOf (·.f1) (·.f2) l a ≠ []) :
    ∃ L, MapAt Try.prog 24 w b L ∧ (∀ p ∈ L, ∃ a, InId a ∧ p.1 = idV a) ∧ (∀ a, (∃ (i : Nat) (v : Value), L[i]? = some (idV a, v)) ↔ a ∈ l.map (·.f1)) ∧ L.length ≤ l.length := by
  obtain ⟨L, h1, h2, h3⟩ := h.map
  have key : ∀ a, (∃ (i : Nat) (v : Value), L[i]? = some (idV a, v)) ↔ a ∈ l.map (·.f1) := by
    intro a
    have e1 : (∃ (i : Nat) (v : Value), L[i]? = some (idV a, v)) ↔ f a ≠ [] := by
      constructor
      · rintro ⟨i, v, hi⟩ e
        have h4 := atK_at h1.nodup i _ hi rfl
        rw [h3 a] at h4
        unfold rowF at h4
        rw [if_pos e] at h4
        cases h4
      · intro e
        have h4 := h3 a
        unfold rowF at h4
        rw [if_neg e] at h4
        obtain ⟨p, hp, hpx⟩ := atK_some h4
        obtain ⟨i, hi⟩ := List.getElem?_of_mem hp
        exact ⟨i, p.2, by rw [hi, ← hpx]⟩
    rw [e1, hl a]
    unfold rowOf
    constructor
    · intro h
      obtain ⟨x, hx⟩ := List.exists_mem_of_ne_nil _ h
      obtain ⟨e, he, _⟩ := List.mem_map.1 hx
      have := List.mem_filter.1 he
      exact List.mem_map.2 ⟨e, this.1, of_decide_eq_true this.2⟩
    · intro h e0
      obtain ⟨e, he, rfl⟩ := List.mem_map.1 h
      have h5 : e.f2 ∈ (l.filter (fun e' => decide (e'.f1 = e.f1))).map (·.f2) := List.mem_map.2 ⟨e, List.mem_filter.2 ⟨he, by simp⟩, rfl⟩
      rw [e0] at h5
      cases h5
  refine ⟨L, h1, h2, key, ?_⟩
  have h6 := Rc.nodup_len (c := L.map (·.1)) (l := l.map (fun e => idV e.f1)) h1.nodup (fun y hy => by
    obtain ⟨p, hp, rfl⟩ := List.mem_map.1 hy
    obtain ⟨a, _, ha⟩ := h2 p hp
    obtain ⟨i, hi⟩ := List.getElem?_of_mem hp
    have := (key a).1 ⟨i, p.2, by rw [hi, ← ha]⟩
    obtain ⟨e, he, rfl⟩ := List.mem_map.1 this
    rw [ha]
    exact List.mem_map.2 ⟨e, he, rfl⟩)
  simpa using h6
end Go.Proofs.Ytdepmcofnlggaaa.PResolverCycles
end
section
set_option linter.unusedVariables false
set_option linter.unusedSimpArgs false
attribute [local go_sem ↓] Go.wp_at_zero Go.wp_at_succ
namespace Go.Proofs.Ytdepmcofnlggaaa.PResolverCycles
open Go.RowKit Go.Proofs.YtdepmcofnlggaaaW.PrintWords Go.Proofs.YtdepmcofnlggaaaW.PrintLast Go.Proofs.YtdepmcofnlggaaaW.PrintMore
open Classical

/-- a value that is a round, or none -/
def RoundV (w : World) (v : Value) (r : Option (List S24)) : Prop := (r = none → v = .slice none 0 0) ∧ ∀ L, r = some L → ∃ ad c, v = .slice (some ad) L.length c ∧ L.length ≤ c ∧ IdsAt w ad L
theorem RoundV.below {w w' : World} {v : Value} {r : Option (List S24)} (h : RoundV w v r) (hb : Below w.heap.size w w') : RoundV w' v r :=
  ⟨h.1, fun L e => by obtain ⟨ad, c, h1, h3, h2⟩ := h.2 L e; exact ⟨ad, c, h1, h3, h2.below hb⟩⟩
set_option maxHeartbeats 2000000 in
set_option maxRecDepth 20000 in
theorem cycle_any (w : World) (A : Option Addr) (c : Nat) (l : List S26) (hE : EdgesN w A l) (hc : l.length ≤ c) (hm : l.length ≤ 1000) (hin : ∀ e ∈ l, InId e.f1 ∧ InId e.f2) :
    Calls Try.prog 6 #[.slice A l.length c] w fun e w' => ∃ v s r, e = .returned v ∧ Rc.SortedOf ltI (l.map (·.f1)) s ∧ Rc.Least ltI (edgesOf l) s none r ∧ RoundV w' v r ∧ Below w.heap.size w w' := by
  have HG := graph_any w A c l hE hc hm hin
  obtain ⟨n, hN⟩ : ∃ n, n = l.length := ⟨_, rfl⟩
  rw [← hN] at HG ⊢
  replace hN := Go.Lib.hid hN
  replace hE := Go.Lib.hid hE
  replace hin := Go.Lib.hid hin
  replace hm := Go.Lib.hid hm
  replace hc := Go.Lib.hid hc
  go_enter Try.func6, Try.ntmps6
  go_upto_region 3 with (go_at_call 25; refine HG.mono ?_; rintro e w1 ⟨b, f, g, cc, rfl, hR, hso, hne, hb1⟩)
  clear HG
  obtain ⟨L, hM, hL, hkeys, hLl⟩ := rows_keys hR l hne
  have hA := below_alloc (Below.refl w1.heap.size w1) (.cells #[.map (some b)] 54)
  have HC := collect_walk (w1.alloc (.cells #[.map (some b)] 54)) w1.heap.size b L (by rw [blk_cell (heap_alloc_new w1 _)]; rfl) (hM.below hA) hL (Nat.le_trans hLl (Nat.le_trans hm.out (by omega)))
  have HK := keys_walk w1 b
  replace hR := Go.Lib.hid hR
  replace hso := Go.Lib.hid hso
  replace hne := Go.Lib.hid hne
  replace hM := Go.Lib.hid hM
  replace hL := Go.Lib.hid hL
  replace hkeys := Go.Lib.hid hkeys
  replace hLl := Go.Lib.hid hLl
  go_wp2_with (first
    | (go_at_call 28; refine HK.mono ?_; rintro e w2 ⟨rfl, rfl⟩)
    | (go_at_call 27; refine HC.mono ?_; rintro e w3 ⟨v3, xs, rfl, hxs, hxl, hrow, hnil, hb3⟩; have HS := age_sort_own w3 _ v3 xs hrow hnil (Nat.le_trans hxl (Nat.le_trans hLl.out (Nat.le_trans hm.out (by omega)))); clear hnil hrow)
    | (go_at_call 26; refine HS.mono ?_; rintro e w4 ⟨sa, sc, s, rfl, hss, hsrow, hb4⟩; obtain ⟨ns, hns⟩ : ∃ n, n = s.length := ⟨_, rfl⟩; rw [← hns]; replace hns := Go.Lib.hid hns))
  have hsin : ∀ x ∈ s, InId x := fun x hx => by
    have h1 := (hkeys.out x).1 ((hxs x).1 ((hss.2 x).1 hx))
    obtain ⟨e, he, rfl⟩ := List.mem_map.1 h1
    exact (hin.out e he).1
  have hfl : ∀ a, (f a).length ≤ 1000 := fun a => by
    have hnd : (f a).Nodup := (hso.out a).1.imp (fun {x y} h e => by subst e; exact tot_id.irr _ h)
    have h1 := Rc.nodup_len hnd (fun y hy => ((hso.out a).2 y).1 hy)
    exact Nat.le_trans h1 (Nat.le_trans (rowOf_len _ _ l a) hm.out)
  have hfinal : Rc.SortedOf ltI (l.map (·.f1)) s := ⟨hss.1, fun x => ((hss.2 x).trans (hxs x)).trans (hkeys.out x)⟩
  have hb34 : Below w1.heap.size w1 w4 := (hA.trans (hb3.mono hA.size)).trans (hb4.mono (by have := hA.size; have := hb3.size; omega))
  have hE4 : ∀ u, Below w4.heap.size w4 u → Below w1.heap.size w1 u := fun u h => hb34.trans (h.mono hb34.size)
  replace hsrow := Go.Lib.hid hsrow
  replace hsin := Go.Lib.hid hsin
  replace hfl := Go.Lib.hid hfl
  replace hfinal := Go.Lib.hid hfinal
  replace hE4 := Go.Lib.hid hE4
  replace hb1 := Go.Lib.hid hb1
  have hnsl : ns ≤ 1000000 := by
    have hnd : s.Nodup := hss.1.imp (fun {x y} h e => by subst e; exact tot_id.irr _ h)
    have h1 := Rc.nodup_len hnd (fun y hy => (hss.2 y).1 hy)
    have := hLl.out; have := hm.out; rw [hns.out]; omega
  replace hnsl := Go.Lib.hid hnsl
  clear HC HK HS hxs hxl hss hA hb3 hb4 hb34
  go_loopg [4, 15] ns (fun k v4 v15 wq => ∃ (i : Nat) (r : Option (List S24)), k = ns - i ∧ i ≤ ns ∧ v15 = .int .i64 (i : Int) ∧ Rc.Least ltI (edgesOf l) (s.take i) none r ∧ RoundV wq v4 r ∧ Below w4.heap.size w4 wq)
  case atStart => exact ⟨0, none, rfl, Nat.zero_le _, rfl, rfl, ⟨fun _ => rfl, fun L h => by cases h⟩, Below.refl _ _⟩
  case round =>
    obtain ⟨i, r, hk, hi, rfl, hLe, hRV, hb⟩ := hrel
    by_cases hlt : i < ns
    · have hil : i < s.length := by rw [← hns.out]; exact hlt
      have hltz : (i : Int) < (ns : Int) := by omega
      obtain ⟨gs, hsa, hsr⟩ := hsrow.out (fun e => by rw [e] at hil; exact Nat.not_lt_zero _ hil)
      subst hsa
      obtain ⟨a0, a1⟩ := idrow_cell hsr i hil
      replace a0 := pw_cell_below hb a0
      replace a1 := pw_cell_below hb a1
      have hxi := hsin.out _ (List.getElem_mem hil)
      have hl0 : 0 < l.length := by
        have h1 := (hfinal.out.2 s[i]).1 (List.getElem_mem hil)
        have h2 := List.length_pos_of_mem h1
        rw [List.length_map] at h2
        exact h2
      obtain ⟨G, O, hAs, hEw⟩ := hE.out hl0
      subst hAs
      replace hEw := Go.Lib.hid hEw
      clear hl0
      have htk : s.take (i + 1) = s.take i ++ [s[i]] := by rw [List.take_add_one, List.getElem?_eq_getElem hil]; rfl
      replace htk := Go.Lib.hid htk
      generalize s[i] = x at *
      have hn1 : wrap64 ((i : Int) + 1) = ((i + 1 : Nat) : Int) := by
        have := hnsl.out
        clear hk hil hltz
        unfold wrap64; omega
      replace hn1 := Go.Lib.hid hn1
      replace hk := Go.Lib.hid hk
      clear hil hsr
      have hV := below_alloc (Below.refl wr.heap.size wr) (.cells #[.int .i64 x.f0, .int .i64 x.f1] 24)
      have hx := heap_alloc_new wr (.cells #[.int .i64 x.f0, .int .i64 x.f1] 24)
      go_upto_region 6 with fail
      have hbV := hb.trans (hV.mono hb.size)
      replace hRV := hRV.below hV
      obtain ⟨gx, hgx⟩ : ∃ y, y = wr.heap.size := ⟨_, rfl⟩
      rw [← hgx] at hx
      rw [← hgx]
      clear hV hgx a0 a1 hb
      generalize wr.alloc (.cells #[.int .i64 x.f0, .int .i64 x.f1] 24) = V at *
      have hD : Below V.heap.size V V.drew := below_drew (Below.refl _ _)
      have hx2 := (hD.block _ (lt_of_block hx)).trans hx
      have hS : V.drew.cell? ⟨gx, 0, none⟩ = some (.int .i64 x.f0) ∧ V.drew.cell? ⟨gx, 1, none⟩ = some (.int .i64 x.f1) := ⟨by rw [blk_cell hx2]; rfl, by rw [blk_cell hx2]; rfl⟩
      have hbD := hbV.trans (hD.mono hbV.size)
      replace hRV := Go.Lib.hid (hRV.below hD)
      have HA := away_walk V.drew G O c l (hEw.out.below (hb1.out.trans ((hE4.out _ hbD).mono hb1.out.size))) x hxi hc.out hm.out hin.out
      rw [← hN.out] at HA
      unfold idV at HA
      have hLe' := Go.Lib.hid hLe
      clear hLe hD hx hx2 hbV
      go_region_held_law (fun w' => w'.cell? ⟨gx, 0, none⟩ = some (.int .i64 x.f0) ∧ w'.cell? ⟨gx, 1, none⟩ = some (.int .i64 x.f1))
        (first | exact hS | exact ⟨pw_cell_below hbu hS.1, pw_cell_below hbu hS.2⟩ | exact ⟨pw_cell_below hbz hS2.1, pw_cell_below hbz hS2.2⟩)
        ((first
          | (go_at_call 29; refine HL.mono ?_; rintro e z ⟨vr, r', rfl, hRo, hv0, hv1, hbz⟩)
          | (go_at_call 30; refine HA.mono ?_; rintro e u ⟨fb, rfl, hMu, _, hbu⟩; have hS2 : u.cell? ⟨gx, 0, none⟩ = some (.int .i64 x.f0) ∧ u.cell? ⟨gx, 1, none⟩ = some (.int .i64 x.f1) := ⟨pw_cell_below hbu hS.1, pw_cell_below hbu hS.2⟩; have HL := least_walk u w.heap.size b fb f g cc l x (hR.out.below (hE4.out _ (hbD.trans (hbu.mono hbD.size)))) hso.out hfl.out hMu hxi hin.out hm.out; unfold idV at HL)))
      have hbZ := Go.Lib.hid (hbD.trans ((hbu.trans (hbz.mono hbu.size)).mono hbD.size))
      have hRV2 := hRV.out.below (hbu.trans (hbz.mono hbu.size))
      have hRVr : RoundV z vr r' := ⟨hv0, hv1⟩
      have hLe2 := Rc.least_snoc hLe'.out hRo
      rw [← htk.out] at hLe2
      have heq := fun (w : World) (a : Option Addr) (n c : Nat) => Lib.run_eql_slice_nil (P := Try.prog) w 27 24 a n c 0 0 Try.underlying27
      have hneq := fun (w : World) (a : Option Addr) (n c : Nat) => run_neq_slice_nil_any (P := Try.prog) w 27 24 a n c 0 0 Try.underlying27
      clear hS hS2 HA HL hbu hbz hv0 hv1 hMu hRo hRV hLe' hbD
      cases r' with
      | none =>
        obtain rfl := hRVr.1 rfl
        have hbe : Rc.better r none = r := rfl
        rw [hbe] at hLe2
        replace hLe2 := Go.Lib.hid hLe2
        replace hRV2 := Go.Lib.hid hRV2
        clear hRVr hbe
        go_wp2_with fail
        rw [hn1.out]
        go_roundg (ns - (i + 1))
        case rel => exact ⟨i + 1, r, rfl, hlt, rfl, hLe2.out, hRV2.out, hbZ.out⟩
        case measure => have := hk.out; omega
      | some L' =>
        have hRVr' := hRVr
        obtain ⟨ad', c', hvr, _⟩ := hRVr'.2 L' rfl
        subst hvr
        cases r with
        | none =>
          obtain rfl := hRV2.1 rfl
          have hbe : Rc.better (α := S24) none (some L') = some L' := rfl
          rw [hbe] at hLe2
          replace hLe2 := Go.Lib.hid hLe2
          replace hRVr := Go.Lib.hid hRVr
          clear hRV2 hbe hRVr'
          obtain ⟨n', hn'⟩ : ∃ n, n = L'.length := ⟨_, rfl⟩
          rw [← hn']
          replace hn' := Go.Lib.hid hn'
          go_wp2_with fail
          rw [hn1.out]
          go_roundg (ns - (i + 1))
          case rel => exact ⟨i + 1, some L', rfl, hlt, rfl, hLe2.out, (by have := hRVr.out; rw [hn'.out]; exact this), hbZ.out⟩
          case measure => have := hk.out; omega
        | some Lr =>
          have hRV2' := hRV2
          obtain ⟨ad, c2, hv4, _⟩ := hRV2'.2 Lr rfl
          subst hv4
          have hbe : Rc.better (some Lr) (some L') = if L'.length < Lr.length then some L' else some Lr := rfl
          rw [hbe] at hLe2
          obtain ⟨n', hn'⟩ : ∃ n, n = L'.length := ⟨_, rfl⟩
          obtain ⟨n2, hn2⟩ : ∃ n, n = Lr.length := ⟨_, rfl⟩
          rw [← hn', ← hn2] at hLe2
          rw [← hn', ← hn2]
          replace hn' := Go.Lib.hid hn'
          replace hn2 := Go.Lib.hid hn2
          replace hRVr := Go.Lib.hid hRVr
          replace hRV2 := Go.Lib.hid hRV2
          clear hRVr' hRV2' hbe
          by_cases hlt2 : n' < n2
          · rw [if_pos hlt2] at hLe2
            replace hLe2 := Go.Lib.hid hLe2
            have hltz2 : (n' : Int) < (n2 : Int) := by omega
            go_wp2_with fail
            rw [hn1.out]
            go_roundg (ns - (i + 1))
            case rel => exact ⟨i + 1, some L', rfl, hlt, rfl, hLe2.out, (by have := hRVr.out; rw [hn'.out]; exact this), hbZ.out⟩
            case measure => have := hk.out; omega
          · rw [if_neg hlt2] at hLe2
            replace hLe2 := Go.Lib.hid hLe2
            go_wp2_with fail
            rw [hn1.out]
            go_roundg (ns - (i + 1))
            case rel => exact ⟨i + 1, some Lr, rfl, hlt, rfl, hLe2.out, (by have := hRV2.out; rw [hn2.out]; exact this), hbZ.out⟩
            case measure => have := hk.out; omega
    · have hin2 : i = ns := by omega
      have hLf : Rc.Least ltI (edgesOf l) s none r := by rw [hin2, hns.out, List.take_length] at hLe; exact hLe
      have hbf := hb1.out.trans ((hE4.out _ hb).mono hb1.out.size)
      subst hin2
      replace hLf := Go.Lib.hid hLf
      replace hRV := Go.Lib.hid hRV
      clear hk hLe
      go_wp2_with fail
      go_ret
      exact ⟨_, s, r, rfl, hfinal.out, hLf.out, hRV.out, hbf⟩
theorem cycle_walk (w : World) (G O c : Nat) (l : List S26) (hE : EdgesAt w G O l) (hc : l.length ≤ c) (hm : l.length ≤ 1000) (hin : ∀ e ∈ l, InId e.f1 ∧ InId e.f2) :
    Calls Try.prog 6 #[.slice (some ⟨G, O, none⟩) l.length c] w fun e w' => ∃ v s r, e = .returned v ∧ Rc.SortedOf ltI (l.map (·.f1)) s ∧ Rc.Least ltI (edgesOf l) s none r ∧ RoundV w' v r ∧ Below w.heap.size w w' :=
  cycle_any w (some ⟨G, O, none⟩) c l (fun _ => ⟨G, O, rfl, hE⟩) hc hm hin
end Go.Proofs.Ytdepmcofnlggaaa.PResolverCycles
end
section
set_option linter.unusedVariables false
set_option linter.unusedSimpArgs false
namespace Go.Proofs.Ytdepmcofnlggaaa.PResolverCycles
open Go.RowKit Go.Proofs.YtdepmcofnlggaaaW.PrintWords Go.Proofs.YtdepmcofnlggaaaW.PrintLast Go.Proofs.YtdepmcofnlggaaaW.PrintMore
open Classical

theorem id_beq (x y : S24) : (x.f0 == y.f0 && x.f1 == y.f1) = decide (x = y) := by
  by_cases e : x = y
  · subst e; simp
  · rw [decide_eq_false e]
    by_cases h0 : x.f0 = y.f0
    · have h1 : x.f1 ≠ y.f1 := fun h1 => e (id_ext h0 h1)
      simp [h0, h1]
    · simp [h0]
theorem id_equal (x y : S24) (w : World) : (Op.equal 24 (.agg #[.int .i64 x.f0, .int .i64 x.f1]) (.agg #[.int .i64 y.f0, .int .i64 y.f1])).run Try.prog w = .ok (decide (x = y)) w := by
  rw [← id_beq]
  exact eqA24 9998 w x.f0 y.f0 x.f1 y.f1
theorem id_eql (x y : S24) (w : World) : (binOp .eql 24 (.agg #[.int .i64 x.f0, .int .i64 x.f1]) (.agg #[.int .i64 y.f0, .int .i64 y.f1])).run Try.prog w = .ok (.bool (decide (x = y))) w := by
  have h := id_equal x y w
  simp only [binOp]
  simp [h]
theorem id_neq (x y : S24) (w : World) : (binOp .neq 24 (.agg #[.int .i64 x.f0, .int .i64 x.f1]) (.agg #[.int .i64 y.f0, .int .i64 y.f1])).run Try.prog w = .ok (.bool (!decide (x = y))) w := by
  have h := id_equal x y w
  simp only [binOp]
  simp [h]
/-- the document's Compare -/
noncomputable def cmpR (a b : S24) : Int := if ltI a b then -1 else if ltI b a then 1 else 0
theorem cmpR_f (a b : S24) : cmpR a b = if a.f0 < b.f0 then -1 else if b.f0 < a.f0 then 1 else if a.f1 < b.f1 then -1 else if b.f1 < a.f1 then 1 else 0 := by
  unfold cmpR ltI
  repeat' split
  all_goals first | rfl | (exfalso; omega)
set_option maxHeartbeats 1000000 in
set_option maxRecDepth 20000 in
theorem rcompare_grown (a b : S24) (w : World) : Calls Try.prog 39 #[.agg #[.int .i64 a.f0, .int .i64 a.f1], .agg #[.int .i64 b.f0, .int .i64 b.f1]] w fun e w' => e = .returned (.int .i64 (cmpR a b)) ∧ Grown w w' := by
  have hG : Grown w ((w.alloc (.cells #[.int .i64 a.f0, .int .i64 a.f1] 24)).alloc (.cells #[.int .i64 b.f0, .int .i64 b.f1] 24)) := ((Grown.refl w).alloc _).alloc _
  have hx := two_old w (.cells #[.int .i64 a.f0, .int .i64 a.f1] 24) (.cells #[.int .i64 b.f0, .int .i64 b.f1] 24)
  have hy := two_new w (.cells #[.int .i64 a.f0, .int .i64 a.f1] 24) (.cells #[.int .i64 b.f0, .int .i64 b.f1] 24)
  have a0 := blk_cell hx 0
  have a1 := blk_cell hx 1
  have b0 := blk_cell hy 0
  have b1 := blk_cell hy 1
  simp only [List.getElem?_toArray, List.getElem?_cons_zero, List.getElem?_cons_succ] at a0 a1 b0 b1
  clear hx hy
  have hc := cmpR_f a b
  by_cases h1 : a.f0 < b.f0
  · rw [if_pos h1] at hc
    rw [hc]
    clear hc
    go_enter Try.func39, Try.ntmps39
    go_wp2_with fail
    go_ret
    exact ⟨rfl, hG⟩
  · rw [if_neg h1] at hc
    by_cases h2 : b.f0 < a.f0
    · rw [if_pos h2] at hc
      rw [hc]
      clear hc
      go_enter Try.func39, Try.ntmps39
      go_wp2_with fail
      go_ret
      exact ⟨rfl, hG⟩
    · rw [if_neg h2] at hc
      by_cases h3 : a.f1 < b.f1
      · rw [if_pos h3] at hc
        rw [hc]
        clear hc
        go_enter Try.func39, Try.ntmps39
        go_wp2_with fail
        go_ret
        exact ⟨rfl, hG⟩
      · rw [if_neg h3] at hc
        by_cases h4 : b.f1 < a.f1
        · rw [if_pos h4] at hc
          rw [hc]
          clear hc
          go_enter Try.func39, Try.ntmps39
          go_wp2_with fail
          go_ret
          exact ⟨rfl, hG⟩
        · rw [if_neg h4] at hc
          rw [hc]
          clear hc
          go_enter Try.func39, Try.ntmps39
          go_wp2_with fail
          go_ret
          exact ⟨rfl, hG⟩
theorem rcompare_walk (a b : S24) (w : World) : Calls Try.prog 39 #[.agg #[.int .i64 a.f0, .int .i64 a.f1], .agg #[.int .i64 b.f0, .int .i64 b.f1]] w fun e w' => e = .returned (.int .i64 (cmpR a b)) ∧ Below w.heap.size w w' :=
  (rcompare_grown a b w).mono fun _ _ h => ⟨h.1, h.2.below⟩
/-- edges that can be read, at an address that may be nil where there is none -/
def EdgesR (w : World) (A : Option Addr) (l : List S26) : Prop := l ≠ [] → ∃ G O, A = some ⟨G, O, none⟩ ∧ EdgesAt w G O l
theorem EdgesR.below {w w' : World} {A : Option Addr} {l : List S26} (h : EdgesR w A l) (hb : Below w.heap.size w w') : EdgesR w' A l := fun hl => by
  obtain ⟨G, O, e, h1⟩ := h hl
  exact ⟨G, O, e, h1.below hb⟩
theorem spot_plain {w : World} {a : Addr} {v : Value} {i : Nat} (h : w.cell? ⟨a.block, a.off + i, a.spot⟩ = some v) : a = ⟨a.block, a.off, none⟩ := by
  obtain ⟨b, o, s⟩ := a
  unfold World.cell? at h
  cases s with
  | none => rfl
  | some s => split at h <;> simp at h
theorem rd_T26_at (l : List S26) (i : Nat) (h : i < l.length) : rd_T26 l (i : Int) = l[i] := by
  unfold rd_T26
  rw [Int.toNat_natCast, List.getD_eq_getElem?_getD, List.getElem?_eq_getElem h]
  rfl
theorem edgesR_of {w : World} {A : Option Addr} {l : List S26} (h : Kd.C k26 w A l.length l) : EdgesR w A l := fun hl => by
  have hp : 0 < l.length := List.length_pos_iff.2 hl
  obtain ⟨ad, e, hz, _⟩ := at_T26 h 0 (by omega) (by omega)
  have hpl : ad = ⟨ad.block, ad.off, none⟩ := spot_plain (i := 0) (a := ad) (by simpa [Addr.add] using hz)
  clear hz
  refine ⟨ad.block, ad.off, by rw [e, ← hpl], fun i hi => ?_⟩
  obtain ⟨ad', e', h0, h1, h2, h3, h4⟩ := at_T26 h (i : Int) (by omega) (by omega)
  obtain rfl : ad = ad' := by rw [e] at e'; exact Option.some.inj e'
  rw [hpl, Int.toNat_natCast, add_off] at h0 h1 h2 h3 h4
  rw [rd_T26_at l i hi] at h0 h1 h2 h3 h4
  exact ⟨h0, h1, h2, h3, h4⟩
/-- the boxed argument, and the map -/
structure FM (w W : World) (fb T : Nat) (to_ : S24) (D : S24 → Option Nat) : Prop where
  below : Below w.heap.size w W
  gf : w.heap.size ≤ fb
  gT : w.heap.size ≤ T
  ne : T ≠ fb
  bT : W.heap[T]? = some (.cells #[.int .i64 to_.f0, .int .i64 to_.f1] 24 (0, 0))
  map : MapIs W fb (farV D)
theorem FM.later {w W W' : World} {fb T : Nat} {to_ : S24} {D : S24 → Option Nat} (h : FM w W fb T to_ D) (hb : Below W.heap.size W W') : FM w W' fb T to_ D :=
  ⟨h.below.trans (hb.mono h.below.size), h.gf, h.gT, h.ne, (hb.block _ (lt_of_block h.bT)).trans h.bT, h.map.below hb⟩
theorem FM.cells {w W : World} {fb T : Nat} {to_ : S24} {D : S24 → Option Nat} (h : FM w W fb T to_ D) : W.cell? ⟨T, 0, none⟩ = some (.int .i64 to_.f0) ∧ W.cell? ⟨T, 1, none⟩ = some (.int .i64 to_.f1) :=
  ⟨by rw [blk_cell h.bT]; rfl, by rw [blk_cell h.bT]; rfl⟩
theorem FM.upd {w W : World} {fb T : Nat} {to_ : S24} {D : S24 → Option Nat} (h : FM w W fb T to_ D) {x : S24} (hx : InId x) (m : Nat) :
    ∃ w', (Instr.mapUpdate 62 (.map (some fb)) (.agg #[.int .i64 x.f0, .int .i64 x.f1]) (.int .i64 (m : Int))).run Try.prog W = .ok () w' ∧ FM w w' fb T to_ (Rc.updF D x m) := by
  obtain ⟨w', r1, r2, r3, r4⟩ := h.map.update (t := 62) (e := 3) Try.underlying62 hx (.int .i64 (m : Int))
  exact ⟨w', r1, pw_below_grown h.below _ h.below.size r3 (fun k hk => by cases hk; exact h.gf), h.gf, h.gT, h.ne, (r3.block _ (lt_of_block h.bT) (fun e => h.ne (by cases e; rfl))).trans h.bT, r2.congr (farV_upd D x m)⟩
theorem fm_start (w : World) (to_ : S24) : FM w ((w.alloc (.cells #[.int .i64 to_.f0, .int .i64 to_.f1] 24)).alloc (.map #[] 0)) (w.heap.size + 1) w.heap.size to_ (fun _ => none) := by
  have s1 : (w.alloc (.cells #[.int .i64 to_.f0, .int .i64 to_.f1] 24)).heap.size = w.heap.size + 1 := by simp
  have hM := MapIs.made (w.alloc (.cells #[.int .i64 to_.f0, .int .i64 to_.f1] 24))
  rw [s1] at hM
  exact ⟨((Below.refl _ w).alloc (Nat.le_refl _) _).alloc (by omega) _, by omega, by omega, by omega, by rw [heap_alloc_old _ _ (by omega)]; exact heap_alloc_new w _, hM.congr fun a => rfl⟩
end Go.Proofs.Ytdepmcofnlggaaa.PResolverCycles
end
section
set_option linter.unusedVariables false
set_option linter.unusedSimpArgs false
attribute [local go_sem ↓] Go.wp_at_zero Go.wp_at_succ
namespace Go.Proofs.Ytdepmcofnlggaaa.PResolverCycles
open Go.RowKit Go.Shelf Go.Proofs.YtdepmcofnlggaaaW.PrintWords Go.Proofs.YtdepmcofnlggaaaW.PrintLast Go.Proofs.YtdepmcofnlggaaaW.PrintMore
open Classical

def txV (x : S81) : Value := .agg #[.int .i64 x.f0.f0, .int .i64 x.f0.f1, .int .i64 x.f1, .int .i64 x.f2, .bool x.f3, .int .i64 x.f4]
noncomputable def safeP (id : S24) (x : S81) : Bool := decide (x.f0 = id ∧ (x.f2 = 2 ∨ x.f3 = true))
noncomputable def livesP (id : S24) (x : S81) : Bool := decide (x.f0 = id ∧ (x.f2 = 1 ∨ x.f2 = 2))
set_option maxHeartbeats 1000000 in
set_option maxRecDepth 20000 in
theorem safe1_walk (w : World) (q : Nat) (id : S24) (x : S81) (h0 : w.cell? ⟨q, 0, none⟩ = some (.int .i64 id.f0)) (h1 : w.cell? ⟨q, 1, none⟩ = some (.int .i64 id.f1)) :
    Calls Try.prog 54 #[txV x, .pointer (some ⟨q, 0, none⟩)] w fun e w' => e = .returned (.bool (safeP id x)) ∧ Below w.heap.size w w' := by
  have hB := below_alloc (Below.refl w.heap.size w) (.cells #[.int .i64 x.f0.f0, .int .i64 x.f0.f1, .int .i64 x.f1, .int .i64 x.f2, .bool x.f3, .int .i64 x.f4] 81)
  have hnew := heap_alloc_new w (.cells #[.int .i64 x.f0.f0, .int .i64 x.f0.f1, .int .i64 x.f1, .int .i64 x.f2, .bool x.f3, .int .i64 x.f4] 81)
  have k0 := blk_cell hnew 0
  have k1 := blk_cell hnew 1
  have k3 := blk_cell hnew 3
  have k4 := blk_cell hnew 4
  simp only [List.getElem?_toArray, List.getElem?_cons_zero, List.getElem?_cons_succ] at k0 k1 k3 k4
  clear hnew
  replace h0 := pw_cell_below hB h0
  replace h1 := pw_cell_below hB h1
  have hql := id_eql x.f0 id
  unfold txV
  by_cases he : x.f0 = id
  · have hd : decide (x.f0 = id) = true := decide_eq_true he
    by_cases hs : x.f2 = 2
    · have hr : safeP id x = true := decide_eq_true ⟨he, .inl hs⟩
      have q1 : (x.f2 == 2) = true := by simpa using hs
      rw [hr]
      replace he := Go.Lib.hid he
      replace hs := Go.Lib.hid hs
      go_enter Try.func54, Try.ntmps54
      go_wp2_with fail
      go_ret
      exact ⟨rfl, hB⟩
    · have hr : safeP id x = x.f3 := by unfold safeP; cases h : x.f3 <;> simp [he, hs]
      have q1 : (x.f2 == 2) = false := by simpa using hs
      rw [hr]
      replace he := Go.Lib.hid he
      replace hs := Go.Lib.hid hs
      go_enter Try.func54, Try.ntmps54
      go_wp2_with fail
      go_ret
      exact ⟨rfl, hB⟩
  · have hd : decide (x.f0 = id) = false := decide_eq_false he
    have hr : safeP id x = false := decide_eq_false fun h => he h.1
    rw [hr]
    replace he := Go.Lib.hid he
    go_enter Try.func54, Try.ntmps54
    go_wp2_with fail
    go_ret
    exact ⟨rfl, hB⟩
set_option maxHeartbeats 1000000 in
set_option maxRecDepth 20000 in
theorem lives1_walk (w : World) (q : Nat) (id : S24) (x : S81) (h0 : w.cell? ⟨q, 0, none⟩ = some (.int .i64 id.f0)) (h1 : w.cell? ⟨q, 1, none⟩ = some (.int .i64 id.f1)) :
    Calls Try.prog 51 #[txV x, .pointer (some ⟨q, 0, none⟩)] w fun e w' => e = .returned (.bool (livesP id x)) ∧ Below w.heap.size w w' := by
  have hB := below_alloc (Below.refl w.heap.size w) (.cells #[.int .i64 x.f0.f0, .int .i64 x.f0.f1, .int .i64 x.f1, .int .i64 x.f2, .bool x.f3, .int .i64 x.f4] 81)
  have hnew := heap_alloc_new w (.cells #[.int .i64 x.f0.f0, .int .i64 x.f0.f1, .int .i64 x.f1, .int .i64 x.f2, .bool x.f3, .int .i64 x.f4] 81)
  have k0 := blk_cell hnew 0
  have k1 := blk_cell hnew 1
  have k3 := blk_cell hnew 3
  simp only [List.getElem?_toArray, List.getElem?_cons_zero, List.getElem?_cons_succ] at k0 k1 k3
  clear hnew
  replace h0 := pw_cell_below hB h0
  replace h1 := pw_cell_below hB h1
  have hql := id_eql x.f0 id
  unfold txV
  by_cases he : x.f0 = id
  · have hd : decide (x.f0 = id) = true := decide_eq_true he
    by_cases hs : x.f2 = 1
    · have hr : livesP id x = true := decide_eq_true ⟨he, .inl hs⟩
      have q1 : (x.f2 == 1) = true := by simpa using hs
      rw [hr]
      replace he := Go.Lib.hid he
      replace hs := Go.Lib.hid hs
      go_enter Try.func51, Try.ntmps51
      go_wp2_with fail
      go_ret
      exact ⟨rfl, hB⟩
    · have q1 : (x.f2 == 1) = false := by simpa using hs
      have hr : livesP id x = (x.f2 == 2) := by
        unfold livesP
        by_cases h2 : x.f2 = 2
        · simp [he, h2]
        · simp [he, h2, hs]
      rw [hr]
      replace he := Go.Lib.hid he
      replace hs := Go.Lib.hid hs
      go_enter Try.func51, Try.ntmps51
      go_wp2_with fail
      go_ret
      exact ⟨rfl, hB⟩
  · have hd : decide (x.f0 = id) = false := decide_eq_false he
    have hr : livesP id x = false := decide_eq_false fun h => he h.1
    rw [hr]
    replace he := Go.Lib.hid he
    go_enter Try.func51, Try.ntmps51
    go_wp2_with fail
    go_ret
    exact ⟨rfl, hB⟩
/-- where the first one lies -/
def FirstIn {α : Type} (p : α → Bool) (l : List α) (r : Int) : Prop :=
  (∃ (i : Nat) (x : α), l[i]? = some x ∧ r = (i : Int) ∧ p x = true ∧ ∀ y ∈ l.take i, p y = false) ∨ (r = -1 ∧ ∀ y ∈ l, p y = false)
theorem firstIn_any {α : Type} {p : α → Bool} {l : List α} {r : Int} (h : FirstIn p l r) : decide (0 ≤ r) = l.any p := by
  rcases h with ⟨i, x, h1, h2, h3, _⟩ | ⟨h1, h2⟩
  · rw [decide_eq_true (by omega), eq_comm, List.any_eq_true]
    exact ⟨x, List.mem_of_getElem? h1, h3⟩
  · rw [decide_eq_false (by omega), eq_comm, List.any_eq_false]
    exact fun y hy => by rw [h2 y hy]; simp
theorem rd_T81_at (l : List S81) (i : Nat) (h : i < l.length) : rd_T81 l (i : Int) = l[i] := by
  unfold rd_T81
  rw [Int.toNat_natCast, List.getD_eq_getElem?_getD, List.getElem?_eq_getElem h]
  rfl
/-- transactions at plain places -/
theorem txs_plain {w : World} {A : Option Addr} {l : List S81} (h : Kd.C k81 w A l.length l) (hp : 0 < l.length) : ∃ G O, A = some ⟨G, O, none⟩ ∧ ∀ i (hi : i < l.length),
    w.cell? ⟨G, O + i * 6, none⟩ = some (.int .i64 l[i].f0.f0) ∧ w.cell? ⟨G, O + i * 6 + 1, none⟩ = some (.int .i64 l[i].f0.f1) ∧ w.cell? ⟨G, O + i * 6 + 2, none⟩ = some (.int .i64 l[i].f1) ∧
    w.cell? ⟨G, O + i * 6 + 3, none⟩ = some (.int .i64 l[i].f2) ∧ w.cell? ⟨G, O + i * 6 + 4, none⟩ = some (.bool l[i].f3) ∧ w.cell? ⟨G, O + i * 6 + 5, none⟩ = some (.int .i64 l[i].f4) := by
  obtain ⟨ad, e, hz, _⟩ := at_T81 h 0 (by omega) (by omega)
  have hpl : ad = ⟨ad.block, ad.off, none⟩ := spot_plain (i := 0) (a := ad) (by simpa [Addr.add] using hz)
  clear hz
  refine ⟨ad.block, ad.off, by rw [e, ← hpl], fun i hi => ?_⟩
  obtain ⟨ad', e', h0, h1, h2, h3, h4, h5⟩ := at_T81 h (i : Int) (by omega) (by omega)
  obtain rfl : ad = ad' := by rw [e] at e'; exact Option.some.inj e'
  rw [hpl, Int.toNat_natCast, add_off] at h0 h1 h2 h3 h4 h5
  rw [rd_T81_at l i hi] at h0 h1 h2 h3 h4 h5
  exact ⟨h0, h1, h2, h3, h4, h5⟩
set_option maxHeartbeats 1000000 in
set_option maxRecDepth 20000 in
theorem index_tx (w : World) (A : Option Addr) (c : Nat) (l : List S81) (g : Nat) (lb : Array Value) (eg : ∀ args w, (callFunc g args).run Try.prog w = .ok (.enter g args) w) (p : S81 → Bool) (hC : Kd.C k81 w A l.length l) (hm : l.length ≤ 1000000)
    (hcall : ∀ x ∈ l, ∀ u, Below w.heap.size w u → Calls Try.prog g (#[txV x] ++ lb) u fun e u' => e = .returned (.bool (p x)) ∧ Below u.heap.size u u') :
    Calls Try.prog 74 #[.slice A l.length c, .func (.func g) #[] lb] w fun e w' => ∃ r, e = .returned (.int .i64 r) ∧ FirstIn p l r ∧ Below w.heap.size w w' := by
  obtain ⟨n, hN⟩ : ∃ n, n = l.length := ⟨_, rfl⟩
  rw [← hN] at hm ⊢
  replace hN := Go.Lib.hid hN
  replace hcall := Go.Lib.hid hcall
  replace hC := Go.Lib.hid hC
  go_enter Try.func74, Try.ntmps74
  go_wp2_with fail
  go_loopw [8] (fun i wr => ∃ j : Nat, j ≤ n ∧ i = .int .i64 (j : Int) ∧ Below w.heap.size w wr ∧ ∀ y ∈ l.take j, p y = false) (fun i _ => n - (intOf i).toNat)
  case atStart => exact ⟨0, by omega, rfl, Below.refl _ _, by simp⟩
  case round =>
    obtain ⟨j, hj, rfl, hB, hno⟩ := hrel
    replace hno := Go.Lib.hid hno
    by_cases hlt : j < n
    · have hltz : (j : Int) < (n : Int) := by omega
      have hjl : j < l.length := by rw [← hN.out]; exact hlt
      obtain ⟨G, O, hA, hcells⟩ := txs_plain hC.out (by omega)
      subst hA
      obtain ⟨a0, a1, a2, a3, a4, a5⟩ := hcells j hjl
      replace a0 := pw_cell_below hB a0
      replace a1 := pw_cell_below hB a1
      replace a2 := pw_cell_below hB a2
      replace a3 := pw_cell_below hB a3
      replace a4 := pw_cell_below hB a4
      replace a5 := pw_cell_below hB a5
      have hgx := Go.Lib.hid (List.getElem?_eq_getElem hjl)
      have H := hcall.out l[j] (List.getElem_mem hjl) wr hB
      have htk : l.take (j + 1) = l.take j ++ [l[j]] := by rw [List.take_add_one, List.getElem?_eq_getElem hjl]; rfl
      replace htk := Go.Lib.hid htk
      clear hcells
      generalize l[j] = x at *
      unfold txV at H
      cases hp : p x with
      | true =>
        rw [hp] at H
        have hF := Go.Lib.hid (show FirstIn p l (j : Int) from .inl ⟨j, x, hgx.out, rfl, hp, hno.out⟩)
        replace hp := Go.Lib.hid hp
        go_wp2_with (go_at_fn g; refine H.mono ?_; rintro e u ⟨rfl, hu⟩)
        go_ret
        exact ⟨(j : Int), rfl, hF.out, hB.trans (hu.mono hB.size)⟩
      | false =>
        rw [hp] at H
        have hF := Go.Lib.hid (show ∀ y ∈ l.take (j + 1), p y = false from fun y hy => by
          rw [htk.out] at hy
          rcases List.mem_append.1 hy with h | h
          · exact hno.out y h
          · rw [List.mem_singleton.1 h]; exact hp)
        replace hp := Go.Lib.hid hp
        have hw64 : wrap64 ((j : Int) + 1) = ((j + 1 : Nat) : Int) := by unfold wrap64; omega
        have hme : n - (j + 1) < n - j := by clear hw64; omega
        replace hme := Go.Lib.hid hme
        go_wp2_with (go_at_fn g; refine H.mono ?_; rintro e u ⟨rfl, hu⟩)
        go_round
        case rel => exact ⟨j + 1, hlt, rfl, hB.trans (hu.mono hB.size), hF.out⟩
        case measure => simpa [intOf] using hme.out
    · obtain rfl : j = n := by omega
      have hF : FirstIn p l (-1) := .inr ⟨rfl, by have := hno.out; rwa [hN.out, List.take_length] at this⟩
      replace hF := Go.Lib.hid hF
      go_wp2_with fail
      go_ret
      exact ⟨-1, rfl, hF.out, hB⟩
theorem contains_tx (w : World) (A : Option Addr) (c : Nat) (l : List S81) (g : Nat) (lb : Array Value) (eg : ∀ args w, (callFunc g args).run Try.prog w = .ok (.enter g args) w) (p : S81 → Bool) (hC : Kd.C k81 w A l.length l) (hm : l.length ≤ 1000000)
    (hcall : ∀ x ∈ l, ∀ u, Below w.heap.size w u → Calls Try.prog g (#[txV x] ++ lb) u fun e u' => e = .returned (.bool (p x)) ∧ Below u.heap.size u u') :
    Calls Try.prog 50 #[.slice A l.length c, .func (.func g) #[] lb] w fun e w' => e = .returned (.bool (l.any p)) ∧ Below w.heap.size w w' := by
  have H := index_tx w A c l g lb eg p hC hm hcall
  obtain ⟨n, hN⟩ : ∃ n, n = l.length := ⟨_, rfl⟩
  rw [← hN] at H ⊢
  replace hN := Go.Lib.hid hN
  clear hcall hC
  go_enter Try.func50, Try.ntmps50
  go_wp2_with (go_at_call 74; refine H.mono ?_; rintro e u ⟨r, rfl, hF, hu⟩)
  go_ret
  exact ⟨by rw [← firstIn_any hF]; rfl, hu⟩
end Go.Proofs.Ytdepmcofnlggaaa.PResolverCycles
end
