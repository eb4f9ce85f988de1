/- The law's 'works', walked: true. (ahead of it: Graph of states, walked. The chapter's second example, in plain words: the least round of four edges.) -/
import Derived.Test.YtdepmcofnlggaaaPrH
import Derived.Test.YtdepmcofnlggaaaPrF
import Derived.Test.YtdepmcofnlggaaaPrG
import Derived.Deep.RegionHeldLaw
import Derived.Deep.DrawnRows
import Derived.StillTailTactics
import Derived.Test.YtdepmcofnlggaaaPrE
section
set_option linter.unusedVariables false
set_option linter.unusedSimpArgs false
attribute [local go_sem ↓] Go.wp_at_zero Go.wp_at_succ
namespace Go.Proofs.Ytdepmcofnlggaaa.PResolverCycles
open Go.RowKit Go.Proofs.YtdepmcofnlggaaaW.PrintWords Go.Proofs.YtdepmcofnlggaaaW.PrintLast Go.Proofs.YtdepmcofnlggaaaW.PrintMore
open Classical

/-- what Graph gives -/
def GraphPost (b : Nat) (w : World) (l : List S26) (e : Ending) (w' : World) : Prop := ∃ sa sc s, e = .returned (.slice sa s.length sc) ∧ SortedE l s ∧ (s ≠ [] → ∃ g, sa = some ⟨g, 0, none⟩ ∧ EdRow w' b g sc s) ∧ Below b w w'
noncomputable def graphP (l : List S45) : List S26 := keepL (fun x : S26 => (wndF l x.f1).getD false) (allE l)
theorem make79 (w : World) : (Instr.makeMap 79 none).run Try.prog w = .ok (.map (some w.heap.size)) (w.alloc (.map #[] 0)) := rfl
theorem edrow_base {w : World} {b b' g c : Nat} {l : List S26} (h : EdRow w b g c l) (hb : b' ≤ b) : EdRow w b' g c l := by
  have h' : Row encE 5 26 w b g c l := h
  obtain ⟨cur, rest, e1, e2, e3, e4, e5, e6⟩ := row_form h'
  exact row_mk (enc := encE) (k := 5) (fun _ => rfl) e1 (by omega) e3 e4 e5 e6
/-- the world between two states: the map of the wounded, its box, and what was there -/
structure GrM (w : World) (mb : Nat) (wr : World) (f : S24 → Option Bool) : Prop where
  mbw : mb = w.heap.size
  old : Below mb w wr
  size : mb + 2 ≤ wr.heap.size
  box : wr.cell? ⟨mb + 1, 0, none⟩ = some (.map (some mb))
  map : MapIs wr mb (bV f)
theorem GrM.below {w wr w1 : World} {mb : Nat} {f : S24 → Option Bool} (h : GrM w mb wr f) (hb : Below wr.heap.size wr w1) : GrM w mb w1 f :=
  ⟨h.mbw, h.old.trans (hb.mono (by have := h.size; omega)), Nat.le_trans h.size hb.size, pw_cell_below hb h.box, h.map.below hb⟩
theorem GrM.below2 {w wr w1 : World} {mb : Nat} {f : S24 → Option Bool} (h : GrM w mb wr f) (hb : Below (mb + 2) wr w1) : GrM w mb w1 f :=
  ⟨h.mbw, h.old.trans (hb.mono (by omega)), Nat.le_trans h.size hb.size, (hb.cell (p := ⟨mb + 1, 0, none⟩) (by show mb + 1 < mb + 2; omega)).trans h.box, h.map.block (hb.block mb (by omega))⟩
theorem GrM.up {w wr : World} {mb : Nat} {f : S24 → Option Bool} (h : GrM w mb wr f) (t : S81) (ht : InId t.f0) (v : Bool) (hv : v = ((f t.f0).getD false || t.f3)) :
    ∃ w', (Instr.mapUpdate 79 (.map (some mb)) (.agg #[.int .i64 t.f0.f0, .int .i64 t.f0.f1]) (.bool v)).run Try.prog wr = .ok () w' ∧ GrM w mb w' (wnd1 f t) ∧ wr.grownBy w' (some mb) ∧ w'.heap.size = wr.heap.size := by
  obtain ⟨w', r1, r2, r3, r4⟩ := h.map.update (t := 79) (e := 4) Try.underlying79 ht (.bool v)
  refine ⟨w', r1, ⟨h.mbw, ?_, by rw [r4]; exact h.size, r3.cell h.box (fun e => by injection e with e; exact absurd e (by show ¬ mb + 1 = mb; omega)), r2.congr fun a => ?_⟩, r3, r4⟩
  · have := below_own (w := w) (w1 := wr) (w2 := w') (g := mb) (by rw [← h.mbw]; exact h.old) r3 (by rw [h.mbw]; exact Nat.le_refl _)
    rw [h.mbw]; exact this
  · unfold bV wnd1
    by_cases e : a = t.f0
    · rw [if_pos e, if_pos e, hv]; rfl
    · rw [if_neg e, if_neg e]
set_option maxHeartbeats 2000000 in
set_option maxRecDepth 20000 in
theorem graphS_walk (w : World) (A : Option Addr) (c : Nat) (l : List S45) (hC : Kd.C k45 w A l.length l) (hok : FoldsOk l) :
    Calls Try.prog 14 #[.slice A l.length c] w (GraphPost w.heap.size w (graphP l)) := by
  obtain ⟨mb, hmb⟩ : ∃ y, y = w.heap.size := ⟨_, rfl⟩
  have hB0 := below_alloc (Below.refl w.heap.size w) (.map #[] 0)
  have hM0 : GrM w mb ((w.alloc (.map #[] 0)).alloc (.cells #[.map (some mb)] 79)) (wndF (l.take 0)) := by
    have hB1 := below_alloc (Below.refl (w.alloc (.map #[] 0)).heap.size (w.alloc (.map #[] 0))) (.cells #[.map (some mb)] 79)
    have hz : (w.alloc (.map #[] 0)).heap.size = mb + 1 := by rw [hmb]; simp
    refine ⟨hmb, ?_, by simp [hmb], ?_, ?_⟩
    · rw [hmb]; exact hB0.trans (by rw [hmb] at hB1; exact hB1.mono hB0.size)
    · have := blk_cell (heap_alloc_new (w.alloc (.map #[] 0)) (.cells #[.map (some mb)] 79)) 0
      rw [hz] at this
      exact this
    · have := (MapIs.made w).below hB1
      rw [← hmb] at this
      exact this
  have hn8 := hok.n
  have hok' := Go.Lib.hid hok
  clear hok
  obtain ⟨n, hN⟩ : ∃ n, n = l.length := ⟨_, rfl⟩
  rw [← hN] at hn8 ⊢
  have hmk := make79 w
  have hC' := Go.Lib.hid hC
  clear hC
  replace hN := Go.Lib.hid hN
  go_enter Try.func14, Try.ntmps14
  go_upto_region 2 with fail
  rw [← hmb]
  generalize (w.alloc (.map #[] 0)).alloc (.cells #[.map (some mb)] 79) = W at *
  clear hB0 hmk
  obtain ⟨hmw, hold, hsz, hbox, hmap⟩ := hM0
  have hM0 : GrM w mb W (wndF (l.take 0)) := ⟨hmw, hold, hsz, hbox, hmap⟩
  clear hmw hold hsz hbox hmap
  replace hmb := Go.Lib.hid hmb
  replace hM0 := Go.Lib.hid hM0
  go_wp2_with fail
  go_loopw [4, 12] (fun s i wr => ∃ j : Nat, j ≤ n ∧ i = .int .i64 (j : Int) ∧ GrM w mb wr (wndF (l.take j)) ∧ Kd.R k26 26 wr (mb + 2) (fun _ => True) s (allE (l.take j))) (fun _ i _ => n - (intOf i).toNat)
  case atStart => exact ⟨0, by omega, rfl, hM0.out, Kd.R_nil _ _ _ _ _⟩
  case round =>
    clear hM0
    obtain ⟨j, hj, rfl, hM, hO⟩ := hrel
    by_cases hlt : j < n
    · have hltz : (j : Int) < (n : Int) := by omega
      have hjl : j < l.length := by rw [← hN.out]; exact hlt
      obtain ⟨G, O, hA, hfolds⟩ := folds_plain hC'.out (by omega)
      subst hA
      obtain ⟨A1, c1, A2, c2, A3, c3, A4, c4, A5, c5, A6, c6, hF0⟩ := hfolds j hjl
      clear hfolds
      have hstep := allE_step l j hjl
      have hwst := wndF_step l j hjl
      have hx := hok'.out
      have hlen : (allE (l.take j)).length ≤ 28800 := by
        have := allE_len (l.take j) (fun y hy => hx.locks y (List.mem_of_mem_take hy)) (fun y hy => hx.waits y (List.mem_of_mem_take hy))
        rw [List.length_take] at this
        omega
      have hxl := hx.locks _ (List.getElem_mem hjl)
      have hxw := hx.waits _ (List.getElem_mem hjl)
      have hxt := hx.txs _ (List.getElem_mem hjl)
      have hxi := hx.tid _ (List.getElem_mem hjl)
      clear hx
      generalize l[j] = x at *
      replace hstep := Go.Lib.hid hstep
      replace hwst := Go.Lib.hid hwst
      replace hlen := Go.Lib.hid hlen
      replace hxi := Go.Lib.hid hxi
      have hFb := Go.Lib.hid (fun (U : World) (hU : Below mb w U) => hF0.below (show Below w.heap.size w U by rw [← hmb.out]; exact hU))
      clear hF0
      obtain ⟨x0, x1, x2, x3, x4, x5, x6, l1, _, l2, _, l3, _, l4, _, l5, _, l6, _⟩ := hFb.out wr hM.old
      have hb2 := below_alloc (Below.refl wr.heap.size wr) (.cells #[.int .i64 x.f0, .slice A1 x.f1.length c1, .slice A2 x.f2.length c2, .slice A3 x.f3.length c3, .slice A4 x.f4.length c4, .slice A5 x.f5.length c5, .slice A6 x.f6.length c6] 45)
      have hy := heap_alloc_new wr (.cells #[.int .i64 x.f0, .slice A1 x.f1.length c1, .slice A2 x.f2.length c2, .slice A3 x.f3.length c3, .slice A4 x.f4.length c4, .slice A5 x.f5.length c5, .slice A6 x.f6.length c6] 45)
      have hgx : mb + 2 ≤ wr.heap.size := hM.size
      replace hM := Go.Lib.hid (hM.below hb2)
      replace hO := Go.Lib.hid (Kd.R_below hO hb2)
      go_upto_region 6 with fail
      obtain ⟨gx, hgxe⟩ : ∃ y, y = wr.heap.size := ⟨_, rfl⟩
      rw [← hgxe] at hy hgx ⊢
      clear x0 x1 x2 x3 x4 x5 x6 hb2 hgxe
      generalize wr.alloc (.cells #[.int .i64 x.f0, .slice A1 x.f1.length c1, .slice A2 x.f2.length c2, .slice A3 x.f3.length c3, .slice A4 x.f4.length c4, .slice A5 x.f5.length c5, .slice A6 x.f6.length c6] 45) = V at *
      have hgV : gx < V.heap.size := (Array.getElem?_eq_some_iff.1 hy).1
      have hby := Go.Lib.hid (fun (U : World) (hU : V.grownBy U (some mb)) => (hU.block gx hgV (fun e => by injection e with e; omega)).trans hy)
      have k5 := blk_cell hy 5
      simp only [List.getElem?_toArray, List.getElem?_cons_zero, List.getElem?_cons_succ] at k5
      clear hy
      obtain ⟨wa, hwa⟩ : ∃ y, y = wr := ⟨_, rfl⟩
      subst hwa
      go_upto_region 7 with fail
      clear k5
      obtain ⟨m, hMl⟩ : ∃ y, y = x.f5.length := ⟨_, rfl⟩
      rw [← hMl] at hxt l5 ⊢
      replace hMl := Go.Lib.hid hMl
      go_loopw [19] (fun i wr => ∃ k : Nat, k ≤ m ∧ i = .int .i64 (k : Int) ∧ V.grownBy wr (some mb) ∧ GrM w mb wr (wndL (x.f5.take k) (wndF (l.take j)))) (fun i _ => m - (intOf i).toNat)
      case atStart => exact ⟨0, by omega, rfl, grown_refl _ _, hM.out⟩
      case round =>
        obtain ⟨k, hk, rfl, hG, hMk⟩ := hrel
        by_cases hkl : k < m
        · have hkz : (k : Int) < (m : Int) := by omega
          have hkx : k < x.f5.length := by rw [← hMl.out]; exact hkl
          obtain ⟨Gt, Ot, hA5, htx⟩ := txs_plain (hFb.out wr hMk.old).g5 (by omega)
          subst hA5
          have htc := htx k hkx
          clear htx
          have hts := wndL_step x.f5 (wndF (l.take j)) k hkx
          have hti := hxi.out _ (List.getElem_mem hkx)
          generalize x.f5[k] = t at *
          replace hts := Go.Lib.hid hts
          obtain ⟨t0, t1, t2, t3, t4, t5⟩ := htc
          have hb3 := below_alloc (Below.refl wr.heap.size wr) (.cells #[.int .i64 t.f0.f0, .int .i64 t.f0.f1, .int .i64 t.f1, .int .i64 t.f2, .bool t.f3, .int .i64 t.f4] 81)
          have hz := heap_alloc_new wr (.cells #[.int .i64 t.f0.f0, .int .i64 t.f0.f1, .int .i64 t.f1, .int .i64 t.f2, .bool t.f3, .int .i64 t.f4] 81)
          go_upto_region 9 with fail
          have e0 := blk_cell hz 0
          have e1 := blk_cell hz 1
          have e4 := blk_cell hz 4
          simp only [List.getElem?_toArray, List.getElem?_cons_zero, List.getElem?_cons_succ] at e0 e1 e4
          clear hz t0 t1 t2 t3 t4 t5
          have hM2 := hMk.below hb3
          have hG2 := grown_trans hG (grown_of_below hb3 _)
          clear hMk hG hb3
          obtain ⟨gt, hgt⟩ : ∃ y, y = wr.heap.size := ⟨_, rfl⟩
          rw [← hgt] at e0 e1 e4 ⊢
          clear hgt
          generalize wr.alloc (.cells #[.int .i64 t.f0.f0, .int .i64 t.f0.f1, .int .i64 t.f1, .int .i64 t.f2, .bool t.f3, .int .i64 t.f4] 81) = U at *
          have hD := below_drew (Below.refl U.heap.size U)
          have hM3 := hM2.below hD
          have hG3 := grown_trans hG2 (grown_of_below hD (some mb))
          have hbox := hM2.box
          obtain ⟨v, hv⟩ : ∃ v, v = ((wndL (x.f5.take k) (wndF (l.take j)) t.f0).getD false || t.f3) := ⟨_, rfl⟩
          obtain ⟨w', r1, hM4, hg4, hz4⟩ := hM3.up t hti v hv
          have hL := look79 hM3.map hti
          replace hM4 := Go.Lib.hid hM4
          replace hG3 := Go.Lib.hid (grown_trans hG3 hg4)
          clear hM2 hM3 hD hg4 hz4 hG2
          by_cases hb : (wndL (x.f5.take k) (wndF (l.take j)) t.f0).getD false = true
          · rw [hb] at hL hv
            rw [Bool.true_or] at hv
            subst hv
            replace hb := Go.Lib.hid hb
            go_still_tail 11, (by kernel_rfl)
            change wpList _ _ _ _ _ U.drew
            go_wp2_with fail
            go_round
            case rel => exact ⟨k + 1, hkl, rfl, hG3.out, by rw [hts.out]; exact hM4.out⟩
            case measure => simp only [intOf]; omega
          · have hb' : (wndL (x.f5.take k) (wndF (l.take j)) t.f0).getD false = false := by simpa using hb
            clear hb
            rw [hb'] at hL hv
            rw [Bool.false_or] at hv
            subst hv
            replace hb' := Go.Lib.hid hb'
            go_still_tail 11, (by kernel_rfl)
            change wpList _ _ _ _ _ U.drew
            go_wp2_with fail
            go_round
            case rel => exact ⟨k + 1, hkl, rfl, hG3.out, by rw [hts.out]; exact hM4.out⟩
            case measure => simp only [intOf]; omega
        · obtain rfl : k = m := by omega
          have hT : x.f5.take k = x.f5 := by rw [hMl.out, List.take_length]
          rw [hT] at hMk
          clear hT
          have hO2 := edR_grown hO.out hG (by omega)
          have hbk := hby.out wr hG
          have q0 := blk_cell hbk 0
          have q1 := blk_cell hbk 1
          have q2 := blk_cell hbk 2
          have q3 := blk_cell hbk 3
          have q4 := blk_cell hbk 4
          have q5 := blk_cell hbk 5
          have q6 := blk_cell hbk 6
          simp only [List.getElem?_toArray, List.getElem?_cons_zero, List.getElem?_cons_succ] at q0 q1 q2 q3 q4 q5 q6
          have hFx := hFb.out wr hMk.old
          have HE := edges_walk wr x A1 c1 A2 c2 A3 c3 A4 c4 A5 c5 A6 c6 hFx.l1 hFx.g1 hFx.l2 hFx.g2 hFx.l3 hFx.g3 hFx.l4 hFx.g4 hFx.l5 hFx.g5 hFx.l6 hFx.g6 (by omega) (by omega)
          rw [← hMl.out] at HE q5
          have hel := edgesP_len x.f1 x.f2
          have hel2 := Nat.mul_le_mul hxw hxl
          have hel3 : (allE (l.take j)).length + (edgesP x.f1 x.f2).length ≤ 40000 := by have := hlen.out; omega
          replace hel3 := Go.Lib.hid hel3
          clear hbk hFx hG hel hel2
          have hMk' := Go.Lib.hid hMk
          clear hMk
          go_wp2_with (first
            | (at_builtin; refine Kd.R_append_rows k26 (mb + 2) rfl (.tmp 35) (.tmp 37) 22 26 _ 48 rfl Try.underlying22 info26 rfl (by decide) (by omega) _ (allE (l.take j)) (edgesP x.f1 x.f2) Be (edgesP x.f1 x.f2).length ce (fun _ => True) (fun _ => False) rfl rfl hO3 hCe (fun x cs hx => by have := k26_open hx; subst this; exact k26_mkM _ _ _ x) (fun _ h => h.elim) (fun _ _ => trivial) (Below.refl (mb + 2) u) hM5.out.size (by have := hel3.out; omega) ?_; intro v1 w1 hO4 hB4 hg4 hat4; clear hat4; replace hO4 := Go.Lib.hid hO4; replace hg4 := Go.Lib.hid hg4; replace hB4 := Go.Lib.hid hB4)
            | (go_at_call 40; refine HE.mono ?_; rintro e u ⟨v, rfl, hv, hu⟩; obtain ⟨Be, ce, rfl, hce, hCe⟩ := Kd.R_reads hv; have hM5 := Go.Lib.hid (hMk'.out.below hu); have hO3 := Kd.R_below hO2 hu; clear hv hce hO2))
          have hM6 := Go.Lib.hid (hM5.out.below2 hB4.out)
          go_round
          case rel => exact ⟨j + 1, hlt, rfl, by rw [hwst.out]; exact hM6.out, by rw [hstep.out]; exact hO4.out⟩
          case measure => simp only [intOf]; omega
    · obtain rfl : j = n := by omega
      have hT : l.take j = l := by rw [hN.out, List.take_length]
      rw [hT] at hM hO
      clear hT
      have hx := hok'.out
      have hall : (allE l).length ≤ 1000000 := by
        have := allE_len l hx.locks hx.waits
        rw [← hN.out] at this
        omega
      have hin : ∀ e ∈ allE l, InId e.f1 := by
        intro e he
        obtain ⟨x, hxl, k, hk, _, _, rfl⟩ := allE_mem he
        exact hx.wid x hxl k hk
      clear hx
      obtain ⟨P, hP⟩ : ∃ P, P = graphP l := ⟨_, rfl⟩
      have hP0 := Go.Lib.hid hP
      unfold graphP at hP
      generalize allE l = E at *
      generalize wndF l = f at *
      have hBo := hM.old
      have hsz := hM.size
      rcases edrow_of hO with ⟨rfl, rfl⟩ | ⟨g, c2, rfl, hrow, hgb⟩
      · have hP' : P = [] := hP
        subst hP'
        have H1 := delEd_none wr 42 #[.pointer (some ⟨mb + 1, 0, none⟩)]
        have H2 := sortEd_none wr none 0
        have H3 := cpEd_none wr none 0
        have hfin : Below w.heap.size w wr := by rw [← hmb.out]; exact hBo
        replace hfin := Go.Lib.hid hfin
        clear hO hM hBo hin
        go_wp2_with (first | (go_at_call 41; refine H1.mono ?_; rintro e w1 ⟨rfl, rfl⟩) | (go_at_call 43; refine H2.mono ?_; rintro e w2 ⟨rfl, rfl⟩) | (go_at_call 45; refine H3.mono ?_; rintro e w2 ⟨rfl, rfl⟩))
        go_ret
        rw [← hP0.out]
        exact ⟨none, 0, [], rfl, sortedE_nil, fun h => absurd rfl h, hfin.out⟩
      · have H1 := delGraph wr (mb + 2) g c2 (mb + 1) mb E f hM.box hM.map hrow (by omega) (by omega) hall hin
        have hkl := keepL_len (p := fun x : S26 => (f x.f1).getD false) E
        rw [← hP] at H1 hkl
        replace hP := Go.Lib.hid hP
        replace hBo := Go.Lib.hid hBo
        clear hO hin hM
        go_upto_region 14 with (go_at_call 41; refine H1.mono ?_; rintro e w1 ⟨rfl, hr1, hg1⟩)
        have H2 := sortEd_walk w1 (mb + 2) g c2 P hr1 (by omega)
        clear H1
        go_upto_region 15 with (go_at_call 43; refine H2.mono ?_; rintro e w2 ⟨rfl, s, hp, hs, hr2, hg2⟩)
        have hsl : s.length = P.length := hp.length_eq
        have H3 := cpEd w2 (mb + 2) g c2 s hr2 (by omega)
        rw [hsl] at H3
        replace hsl := Go.Lib.hid hsl
        clear H2
        go_wp2_with (go_at_call 45; refine H3.mono ?_; rintro e w3 ⟨c3, rfl, hr3, hg3⟩)
        go_ret
        have hBf : Below w.heap.size w w3 := by
          have h0 : Below w.heap.size w wr := by rw [← hmb.out]; exact hBo.out
          have hge : w.heap.size ≤ g := by have := hmb.out; omega
          exact below_own (below_own (below_own h0 hg1 hge) hg2 hge) hg3 hge
        rw [← hP0.out]
        exact ⟨_, c3, cL s, rfl, sortedE_of hp (hs.imp fun h => by omega), fun _ => ⟨g, rfl, edrow_base hr3 (by have := hmb.out; omega)⟩, hBf⟩
end Go.Proofs.Ytdepmcofnlggaaa.PResolverCycles
end
section
set_option linter.unusedVariables false
set_option linter.unusedSimpArgs false
namespace Go.Proofs.Ytdepmcofnlggaaa.PResolverCycles
open Go.RowKit Go.Proofs.YtdepmcofnlggaaaW.PrintWords Go.Proofs.YtdepmcofnlggaaaW.PrintLast Go.Proofs.YtdepmcofnlggaaaW.PrintMore
open Classical

def wa : S24 := ⟨1, 0⟩
def wb : S24 := ⟨2, 0⟩
def wc : S24 := ⟨3, 0⟩
def wE : List (S24 × S24) := [(wa, wc), (wc, wb), (wb, wa), (wb, wc)]
theorem w_ab : ltI wa wb := .inl (by decide)
theorem w_ac : ltI wa wc := .inl (by decide)
theorem w_bc : ltI wb wc := .inl (by decide)
theorem w_ba : ¬ ltI wb wa := by unfold ltI wa wb; decide
theorem w_ca : ¬ ltI wc wa := by unfold ltI wa wc; decide
theorem w_cb : ¬ ltI wc wb := by unfold ltI wb wc; decide
theorem wE_a {h : S24} : (wa, h) ∈ wE ↔ h = wc := by simp [wE, wa, wb, wc]
theorem wE_b {h : S24} : (wb, h) ∈ wE ↔ h = wa ∨ h = wc := by simp [wE, wa, wb, wc]
theorem wE_c {h : S24} : (wc, h) ∈ wE ↔ h = wb := by simp [wE, wa, wb, wc]
theorem w_nab : wa ≠ wb := by simp [wa, wb]
theorem w_nac : wa ≠ wc := by simp [wa, wc]
theorem w_nbc : wb ≠ wc := by simp [wb, wc]
/-- nobody is so far who is not younger -/
theorem dist_not {u x : S24} (hx : x ≠ u) (h : ¬ ltI u x) : Rc.dist ltI wE u x = none := by
  cases e : Rc.dist ltI wE u x with
  | none => rfl
  | some k =>
    cases k with
    | zero => exact absurd (Rc.dist_zero.1 e) hx
    | succ k => exact absurd (Rc.dist_step e).1 h
theorem d_ab : Rc.dist ltI wE wa wb = some 1 := Rc.dist_of (n := 1) (Rc.lev_new.2 ⟨by simp [Rc.lev, w_nab.symm], w_ab, wa, wE_b.2 (.inl rfl), by simp [Rc.lev]⟩)
theorem d_ac : Rc.dist ltI wE wa wc = some 2 := by
  refine Rc.dist_of (n := 2) (Rc.lev_new.2 ⟨?_, w_ac, wb, wE_c.2 rfl, Rc.dist_own d_ab⟩)
  cases e : Rc.lev ltI wE wa 1 wc with
  | none => rfl
  | some k =>
    have h1 := Rc.lev_le e
    have h2 := Rc.lev_own e
    match k, h1 with
    | 0, _ => exact absurd (Rc.lev_zero.1 h2) w_nac.symm
    | 1, _ =>
      obtain ⟨_, h, hh, hl⟩ := Rc.lev_gt h2
      obtain rfl := wE_c.1 hh
      exact absurd (Rc.lev_zero.1 hl) w_nab.symm
theorem d_bc : Rc.dist ltI wE wb wc = some 1 := Rc.dist_of (n := 1) (Rc.lev_new.2 ⟨by simp [Rc.lev, w_nbc.symm], w_bc, wb, wE_c.2 rfl, by simp [Rc.lev]⟩)
theorem d_ba : Rc.dist ltI wE wb wa = none := dist_not w_nab w_ba
theorem d_cb : Rc.dist ltI wE wc wb = none := dist_not w_nbc w_cb
theorem round_a : Rc.Round ltI wE wa (some [wa, wc, wb]) := by
  refine .inr ⟨2, [wc, wb], ⟨⟨wc, wE_a.2 rfl, d_ac⟩, fun k hk ⟨h, hh, hd⟩ => ?_⟩, rfl, wc, [wb], rfl, ⟨wE_a.2 rfl, d_ac, fun g hg _ => ?_⟩, wb, [], rfl, ⟨wE_c.2 rfl, d_ab, fun g hg _ => ?_⟩, rfl⟩
  · obtain rfl := wE_a.1 hh
    rw [d_ac] at hd
    injection hd with hd
    omega
  · rw [wE_a.1 hg]; exact tot_id.irr _
  · rw [wE_c.1 hg]; exact tot_id.irr _
theorem round_b : Rc.Round ltI wE wb (some [wb, wc]) := by
  refine .inr ⟨1, [wc], ⟨⟨wc, wE_b.2 (.inr rfl), d_bc⟩, fun k hk ⟨h, hh, hd⟩ => ?_⟩, rfl, wc, [], rfl, ⟨wE_b.2 (.inr rfl), d_bc, fun g hg hd => ?_⟩, rfl⟩
  · rcases wE_b.1 hh with rfl | rfl
    · rw [d_ba] at hd; cases hd
    · rw [d_bc] at hd; injection hd with hd; omega
  · rcases wE_b.1 hg with rfl | rfl
    · rw [d_ba] at hd; cases hd
    · exact tot_id.irr _
theorem round_c : Rc.Round ltI wE wc none := by
  refine .inl ⟨fun m ⟨h, hh, hd⟩ => ?_, rfl⟩
  obtain rfl := wE_c.1 hh
  rw [d_cb] at hd
  cases hd
theorem works_least : Rc.Least ltI wE [wa, wb, wc] none (some [wb, wc]) := ⟨_, round_a, _, round_b, _, round_c, rfl⟩
def wL : List S26 := [⟨⟨#[]⟩, wa, wc⟩, ⟨⟨#[]⟩, wc, wb⟩, ⟨⟨#[]⟩, wb, wa⟩, ⟨⟨#[]⟩, wb, wc⟩]
theorem works_sorted : Rc.SortedOf ltI (wL.map (·.f1)) [wa, wb, wc] := by
  refine ⟨by simp [w_ab, w_ac, w_bc], fun x => ?_⟩
  simp [wL]
  constructor
  · rintro (rfl | rfl | rfl) <;> simp
  · rintro (rfl | rfl | rfl | rfl) <;> simp
/-- what Cycle gives -/
theorem works_cycle {s : List S24} {r : Option (List S24)} (hs : Rc.SortedOf ltI (wL.map (·.f1)) s) (hr : Rc.Least ltI (edgesOf wL) s none r) : r = some [wb, wc] := by
  have e : s = [wa, wb, wc] := Rc.sorted_one tot_id hs.1 works_sorted.1 fun x => (hs.2 x).trans (works_sorted.2 x).symm
  rw [e] at hr
  exact Rc.least_one tot_id hr works_least
def wX : S45 := ⟨0, [⟨⟨#[97]⟩, wb, 2⟩], [⟨⟨#[97]⟩, wa, 2⟩], [], [], [⟨wa, 0, 1, false, 0⟩, ⟨wb, 0, 1, false, 0⟩], []⟩
theorem works_waits : Waits ⟨⟨#[97]⟩, wa, 2⟩ ⟨⟨#[97]⟩, wb, 2⟩ := ⟨rfl, w_nab, .inl (by decide)⟩
theorem works_edges : edgesP wX.f1 wX.f2 = [⟨⟨#[97]⟩, wa, wb⟩] := by
  simp only [edgesP, wX, List.flatMap_cons, List.flatMap_nil, List.append_nil]
  exact if_pos works_waits
theorem works_graph {s : List S26} (h : SortedE (graphP [wX]) s) : s.length = 1 := by
  have e : graphP [wX] = [⟨⟨#[97]⟩, wa, wb⟩] := by
    have h0 : allE [wX] = [⟨⟨#[97]⟩, wa, wb⟩] := by
      unfold allE
      rw [List.flatMap_cons, works_edges]
      rfl
    unfold graphP keepL
    rw [h0]
    have h1 : (wndF [wX] wa).getD false = false := by
      rw [wndF_is]
      simp [wX, hurtP]
    simp [h1]
  rw [e] at h
  have := sortedE_one h (s := [⟨⟨#[97]⟩, wa, wb⟩]) ⟨List.pairwise_singleton _ _, fun _ => Iff.rfl⟩
  rw [this]; rfl
theorem works_right : rightP wX = 8 := by
  unfold rightP
  rw [works_edges]
  have h : badE wX.f5 ⟨⟨#[97]⟩, wa, wb⟩ = true := by
    simp [badE, wX, safeP, wa, wb, cmpI, orZ, cmpZ]
  simp [h]
theorem works_left {s : List S24} (h : Rc.SortedOf ltI (leftP wX) s) : s.length = 0 := by
  have e : leftP wX = [] := by
    unfold leftP keepL leftIds
    simp [wX, livesP, wa, wb]
  rw [e] at h
  have : s = [] := List.eq_nil_iff_forall_not_mem.2 fun x hx => by have := (h.2 x).1 hx; cases this
  rw [this]; rfl
end Go.Proofs.Ytdepmcofnlggaaa.PResolverCycles
end
section
set_option linter.unusedVariables false
set_option linter.unusedSimpArgs false
attribute [local go_sem ↓] Go.wp_at_zero Go.wp_at_succ
namespace Go.Proofs.Ytdepmcofnlggaaa.PResolverCycles
open Go.RowKit Go.Proofs.YtdepmcofnlggaaaW.PrintWords Go.Proofs.YtdepmcofnlggaaaW.PrintLast Go.Proofs.YtdepmcofnlggaaaW.PrintMore
open Classical

theorem num_walk (w : World) (n : Int) : Calls Try.prog 17 #[.int .i64 n] w fun e w' => e = .returned (.int .i64 n) ∧ w' = w := by
  go_enter Try.func17, Try.ntmps17
  go_wp2_with fail
  go_ret
  exact ⟨rfl, rfl⟩
theorem in_wa : InId wa := ⟨⟨by show (-9223372036854775808 : Int) ≤ 1; omega, by show (1 : Int) ≤ 9223372036854775807; omega⟩, ⟨by show (-9223372036854775808 : Int) ≤ 0; omega, by show (0 : Int) ≤ 9223372036854775807; omega⟩⟩
theorem in_wb : InId wb := ⟨⟨by show (-9223372036854775808 : Int) ≤ 2; omega, by show (2 : Int) ≤ 9223372036854775807; omega⟩, ⟨by show (-9223372036854775808 : Int) ≤ 0; omega, by show (0 : Int) ≤ 9223372036854775807; omega⟩⟩
theorem in_wc : InId wc := ⟨⟨by show (-9223372036854775808 : Int) ≤ 3; omega, by show (3 : Int) ≤ 9223372036854775807; omega⟩, ⟨by show (-9223372036854775808 : Int) ≤ 0; omega, by show (0 : Int) ≤ 9223372036854775807; omega⟩⟩
/-- the first example's state in memory -/
structure WAt (V : World) (g : Nat) : Prop where
  g1 : Kd.C k91 V (some ⟨g, 0, none⟩) 1 wX.f1
  g2 : Kd.C k91 V (some ⟨g + 1, 0, none⟩) 1 wX.f2
  g5 : Kd.C k81 V (some ⟨g + 1 + 1, 0, none⟩) 2 wX.f5
theorem WAt.below {V W : World} {g : Nat} (h : WAt V g) (hb : Below V.heap.size V W) : WAt W g := ⟨Kd.C_below h.g1 hb, Kd.C_below h.g2 hb, Kd.C_below h.g5 hb⟩
theorem WAt.k {V : World} {g : Nat} (h : WAt V g) : k45.K V wX [.int .i64 0, .slice (some ⟨g, 0, none⟩) 1 1, .slice (some ⟨g + 1, 0, none⟩) 1 1, .slice none 0 0, .slice none 0 0, .slice (some ⟨g + 1 + 1, 0, none⟩) 2 2, .slice none 0 0] :=
  k45_mk V wX (Nat.le_refl _) h.g1 (Nat.le_refl _) h.g2 (Nat.le_refl _) (Kd.C_nil _ _) (Nat.le_refl _) (Kd.C_nil _ _) (Nat.le_refl _) h.g5 (Nat.le_refl _) (Kd.C_nil _ _)
theorem works_state (u : World) : Below u.heap.size u ((((u.alloc (.cells #[.string ⟨#[97]⟩, .int .i64 2, .int .i64 0, .int .i64 2] 91)).alloc (.cells #[.string ⟨#[97]⟩, .int .i64 1, .int .i64 0, .int .i64 2] 91)).alloc (.cells #[.int .i64 1, .int .i64 0, .int .i64 0, .int .i64 1, .bool false, .int .i64 0, .int .i64 2, .int .i64 0, .int .i64 0, .int .i64 1, .bool false, .int .i64 0] 81)).alloc (.cells #[.int .i64 0, .slice (some ⟨u.heap.size, 0, none⟩) 1 1, .slice (some ⟨u.heap.size + 1, 0, none⟩) 1 1, .slice none 0 0, .slice none 0 0, .slice (some ⟨u.heap.size + 1 + 1, 0, none⟩) 2 2, .slice none 0 0] 45)) ∧
    WAt ((((u.alloc (.cells #[.string ⟨#[97]⟩, .int .i64 2, .int .i64 0, .int .i64 2] 91)).alloc (.cells #[.string ⟨#[97]⟩, .int .i64 1, .int .i64 0, .int .i64 2] 91)).alloc (.cells #[.int .i64 1, .int .i64 0, .int .i64 0, .int .i64 1, .bool false, .int .i64 0, .int .i64 2, .int .i64 0, .int .i64 0, .int .i64 1, .bool false, .int .i64 0] 81)).alloc (.cells #[.int .i64 0, .slice (some ⟨u.heap.size, 0, none⟩) 1 1, .slice (some ⟨u.heap.size + 1, 0, none⟩) 1 1, .slice none 0 0, .slice none 0 0, .slice (some ⟨u.heap.size + 1 + 1, 0, none⟩) 2 2, .slice none 0 0] 45)) u.heap.size ∧
    ∀ i v, (#[.int .i64 0, .slice (some ⟨u.heap.size, 0, none⟩) 1 1, .slice (some ⟨u.heap.size + 1, 0, none⟩) 1 1, .slice none 0 0, .slice none 0 0, .slice (some ⟨u.heap.size + 1 + 1, 0, none⟩) 2 2, .slice none 0 0] : Array Value)[i]? = some v → ((((u.alloc (.cells #[.string ⟨#[97]⟩, .int .i64 2, .int .i64 0, .int .i64 2] 91)).alloc (.cells #[.string ⟨#[97]⟩, .int .i64 1, .int .i64 0, .int .i64 2] 91)).alloc (.cells #[.int .i64 1, .int .i64 0, .int .i64 0, .int .i64 1, .bool false, .int .i64 0, .int .i64 2, .int .i64 0, .int .i64 0, .int .i64 1, .bool false, .int .i64 0] 81)).alloc (.cells #[.int .i64 0, .slice (some ⟨u.heap.size, 0, none⟩) 1 1, .slice (some ⟨u.heap.size + 1, 0, none⟩) 1 1, .slice none 0 0, .slice none 0 0, .slice (some ⟨u.heap.size + 1 + 1, 0, none⟩) 2 2, .slice none 0 0] 45)).cell? ⟨u.heap.size + 1 + 1 + 1, i, none⟩ = some v := by
  have x1 := heap_alloc_new u (.cells #[.string ⟨#[97]⟩, .int .i64 2, .int .i64 0, .int .i64 2] 91)
  have hb1 := below_alloc (Below.refl u.heap.size u) (.cells #[.string ⟨#[97]⟩, .int .i64 2, .int .i64 0, .int .i64 2] 91)
  have s1 : (u.alloc (.cells #[.string ⟨#[97]⟩, .int .i64 2, .int .i64 0, .int .i64 2] 91)).heap.size = u.heap.size + 1 := by simp
  generalize u.alloc (.cells #[.string ⟨#[97]⟩, .int .i64 2, .int .i64 0, .int .i64 2] 91) = W1 at *
  have x2 := heap_alloc_new W1 (.cells #[.string ⟨#[97]⟩, .int .i64 1, .int .i64 0, .int .i64 2] 91)
  have hb2 := below_alloc (Below.refl W1.heap.size W1) (.cells #[.string ⟨#[97]⟩, .int .i64 1, .int .i64 0, .int .i64 2] 91)
  have s2 : (W1.alloc (.cells #[.string ⟨#[97]⟩, .int .i64 1, .int .i64 0, .int .i64 2] 91)).heap.size = u.heap.size + 1 + 1 := by simp [s1]
  rw [s1] at x2
  generalize W1.alloc (.cells #[.string ⟨#[97]⟩, .int .i64 1, .int .i64 0, .int .i64 2] 91) = W2 at *
  have x3 := heap_alloc_new W2 (.cells #[.int .i64 1, .int .i64 0, .int .i64 0, .int .i64 1, .bool false, .int .i64 0, .int .i64 2, .int .i64 0, .int .i64 0, .int .i64 1, .bool false, .int .i64 0] 81)
  have hb3 := below_alloc (Below.refl W2.heap.size W2) (.cells #[.int .i64 1, .int .i64 0, .int .i64 0, .int .i64 1, .bool false, .int .i64 0, .int .i64 2, .int .i64 0, .int .i64 0, .int .i64 1, .bool false, .int .i64 0] 81)
  have s3 : (W2.alloc (.cells #[.int .i64 1, .int .i64 0, .int .i64 0, .int .i64 1, .bool false, .int .i64 0, .int .i64 2, .int .i64 0, .int .i64 0, .int .i64 1, .bool false, .int .i64 0] 81)).heap.size = u.heap.size + 1 + 1 + 1 := by simp [s2]
  rw [s2] at x3
  generalize W2.alloc (.cells #[.int .i64 1, .int .i64 0, .int .i64 0, .int .i64 1, .bool false, .int .i64 0, .int .i64 2, .int .i64 0, .int .i64 0, .int .i64 1, .bool false, .int .i64 0] 81) = W3 at *
  have x4 := heap_alloc_new W3 (.cells #[.int .i64 0, .slice (some ⟨u.heap.size, 0, none⟩) 1 1, .slice (some ⟨u.heap.size + 1, 0, none⟩) 1 1, .slice none 0 0, .slice none 0 0, .slice (some ⟨u.heap.size + 1 + 1, 0, none⟩) 2 2, .slice none 0 0] 45)
  have hb4 := below_alloc (Below.refl W3.heap.size W3) (.cells #[.int .i64 0, .slice (some ⟨u.heap.size, 0, none⟩) 1 1, .slice (some ⟨u.heap.size + 1, 0, none⟩) 1 1, .slice none 0 0, .slice none 0 0, .slice (some ⟨u.heap.size + 1 + 1, 0, none⟩) 2 2, .slice none 0 0] 45)
  rw [s3] at x4
  generalize W3.alloc (.cells #[.int .i64 0, .slice (some ⟨u.heap.size, 0, none⟩) 1 1, .slice (some ⟨u.heap.size + 1, 0, none⟩) 1 1, .slice none 0 0, .slice none 0 0, .slice (some ⟨u.heap.size + 1 + 1, 0, none⟩) 2 2, .slice none 0 0] 45) = V at *
  refine ⟨((hb1.trans (hb2.mono (by omega))).trans (hb3.mono (by omega))).trans (hb4.mono (by omega)), ⟨?_, ?_, ?_⟩, fun i v h => by rw [blk_cell x4 i]; exact h⟩
  · refine Kd.C_below (Kd.C_below (Kd.C_below (w := W1) ⟨rfl, by omega, fun _ => ⟨_, rfl, fun j p hp => ?_⟩⟩ hb2) hb3) hb4
    have hc := fun i => blk_cell x1 i
    match j, hp with
    | 0, hp =>
      cases hp
      refine ⟨_, rfl, k91_mk W1 _, fun i v hv => ?_⟩
      rw [add_plain]
      match i, hv with
      | 0, hv => cases hv; exact hc 0
      | 1, hv => cases hv; exact hc 1
      | 2, hv => cases hv; exact hc 2
      | 3, hv => cases hv; exact hc 3
  · refine Kd.C_below (Kd.C_below (w := W2) ⟨rfl, by omega, fun _ => ⟨_, rfl, fun j p hp => ?_⟩⟩ hb3) hb4
    have hc := fun i => blk_cell x2 i
    match j, hp with
    | 0, hp =>
      cases hp
      refine ⟨_, rfl, k91_mk W2 _, fun i v hv => ?_⟩
      rw [add_plain]
      match i, hv with
      | 0, hv => cases hv; exact hc 0
      | 1, hv => cases hv; exact hc 1
      | 2, hv => cases hv; exact hc 2
      | 3, hv => cases hv; exact hc 3
  · refine Kd.C_below (w := W3) ⟨rfl, by omega, fun _ => ⟨_, rfl, fun j p hp => ?_⟩⟩ hb4
    have hc := fun i => blk_cell x3 i
    match j, hp with
    | 0, hp =>
      cases hp
      refine ⟨_, rfl, k81_mk W3 _, fun i v hv => ?_⟩
      rw [add_plain]
      match i, hv with
      | 0, hv => cases hv; exact hc 0
      | 1, hv => cases hv; exact hc 1
      | 2, hv => cases hv; exact hc 2
      | 3, hv => cases hv; exact hc 3
      | 4, hv => cases hv; exact hc 4
      | 5, hv => cases hv; exact hc 5
    | 1, hp =>
      cases hp
      refine ⟨_, rfl, k81_mk W3 _, fun i v hv => ?_⟩
      rw [add_plain]
      match i, hv with
      | 0, hv => cases hv; exact hc 6
      | 1, hv => cases hv; exact hc 7
      | 2, hv => cases hv; exact hc 8
      | 3, hv => cases hv; exact hc 9
      | 4, hv => cases hv; exact hc 10
      | 5, hv => cases hv; exact hc 11
theorem wok : FoldsOk [wX] := by
  refine ⟨by decide, fun x hx => ?_, fun x hx => ?_, fun x hx => ?_, fun x hx k hk => ?_, fun x hx t ht => ?_⟩ <;> obtain rfl := List.mem_singleton.1 hx
  · decide
  · decide
  · decide
  · obtain rfl := List.mem_singleton.1 hk; exact in_wa
  · rcases List.mem_cons.1 ht with rfl | ht
    · exact in_wa
    · obtain rfl := List.mem_singleton.1 ht; exact in_wb
theorem w_right {V W : World} {g : Nat} (h : WAt V g) (hb : Below V.heap.size V W) : Calls Try.prog 18 #[.agg #[.int .i64 0, .slice (some ⟨g, 0, none⟩) 1 1, .slice (some ⟨g + 1, 0, none⟩) 1 1, .slice none 0 0, .slice none 0 0, .slice (some ⟨g + 1 + 1, 0, none⟩) 2 2, .slice none 0 0]] W fun e w' => e = .returned (.int .i64 8) ∧ Below W.heap.size W w' := by
  have := right_walk W wX _ (h.below hb).k (by decide) (by decide) (by decide)
  rw [works_right] at this
  exact this
theorem w_left {V W : World} {g : Nat} (h : WAt V g) (hb : Below V.heap.size V W) : Calls Try.prog 16 #[.agg #[.int .i64 0, .slice (some ⟨g, 0, none⟩) 1 1, .slice (some ⟨g + 1, 0, none⟩) 1 1, .slice none 0 0, .slice none 0 0, .slice (some ⟨g + 1 + 1, 0, none⟩) 2 2, .slice none 0 0]] W fun e w' => ∃ sa sc, e = .returned (.slice sa 0 sc) ∧ Below W.heap.size W w' := by
  refine (left_start W wX _ (h.below hb).k (by decide) (by decide) (by decide) (by decide)).mono ?_
  rintro e w' ⟨sa, sc, s, rfl, hs, _, hB⟩
  exact ⟨sa, sc, by rw [works_left hs], hB⟩
theorem w_graph {V W : World} {g : Nat} (h : WAt V g) (hb : Below V.heap.size V (W.alloc (.cells #[.int .i64 0, .slice (some ⟨g, 0, none⟩) 1 1, .slice (some ⟨g + 1, 0, none⟩) 1 1, .slice none 0 0, .slice none 0 0, .slice (some ⟨g + 1 + 1, 0, none⟩) 2 2, .slice none 0 0] 45))) : Calls Try.prog 14 #[.slice (some ⟨W.heap.size, 0, none⟩) 1 1] (W.alloc (.cells #[.int .i64 0, .slice (some ⟨g, 0, none⟩) 1 1, .slice (some ⟨g + 1, 0, none⟩) 1 1, .slice none 0 0, .slice none 0 0, .slice (some ⟨g + 1 + 1, 0, none⟩) 2 2, .slice none 0 0] 45)) fun e w' => ∃ sa sc, e = .returned (.slice sa 1 sc) ∧ Below (W.alloc (.cells #[.int .i64 0, .slice (some ⟨g, 0, none⟩) 1 1, .slice (some ⟨g + 1, 0, none⟩) 1 1, .slice none 0 0, .slice none 0 0, .slice (some ⟨g + 1 + 1, 0, none⟩) 2 2, .slice none 0 0] 45)).heap.size (W.alloc (.cells #[.int .i64 0, .slice (some ⟨g, 0, none⟩) 1 1, .slice (some ⟨g + 1, 0, none⟩) 1 1, .slice none 0 0, .slice none 0 0, .slice (some ⟨g + 1 + 1, 0, none⟩) 2 2, .slice none 0 0] 45)) w' := by
  have x := heap_alloc_new W (.cells #[.int .i64 0, .slice (some ⟨g, 0, none⟩) 1 1, .slice (some ⟨g + 1, 0, none⟩) 1 1, .slice none 0 0, .slice none 0 0, .slice (some ⟨g + 1 + 1, 0, none⟩) 2 2, .slice none 0 0] 45)
  have hk := (h.below hb).k
  generalize hU : W.alloc (.cells #[.int .i64 0, .slice (some ⟨g, 0, none⟩) 1 1, .slice (some ⟨g + 1, 0, none⟩) 1 1, .slice none 0 0, .slice none 0 0, .slice (some ⟨g + 1 + 1, 0, none⟩) 2 2, .slice none 0 0] 45) = U at *
  refine (graphS_walk U (some ⟨W.heap.size, 0, none⟩) 1 [wX] ⟨rfl, by simp, fun _ => ⟨_, rfl, fun j p hp => ?_⟩⟩ wok).mono ?_
  · match j, hp with
    | 0, hp =>
      cases hp
      refine ⟨_, rfl, hk, fun i v hv => ?_⟩
      rw [add_plain, Nat.zero_mul, Nat.zero_add, blk_cell x i]
      simpa using hv
  · rintro e w' ⟨sa, sc, s, rfl, hs, _, hB⟩
    exact ⟨sa, sc, by rw [works_graph hs], hB⟩
def WS (V : World) (gb gc Gr Or gf g : Nat) (w' : World) : Prop := w'.cell? ⟨gb, 0, none⟩ = some (.int .i64 2) ∧ w'.cell? ⟨gb, 1, none⟩ = some (.int .i64 0) ∧ w'.cell? ⟨gc, 0, none⟩ = some (.int .i64 3) ∧ w'.cell? ⟨gc, 1, none⟩ = some (.int .i64 0) ∧ w'.cell? ⟨Gr, Or, none⟩ = some (.int .i64 2) ∧ w'.cell? ⟨Gr, Or + 1, none⟩ = some (.int .i64 0) ∧ w'.cell? ⟨Gr, Or + 2, none⟩ = some (.int .i64 3) ∧ w'.cell? ⟨Gr, Or + 3, none⟩ = some (.int .i64 0) ∧ w'.cell? ⟨gf, 0, none⟩ = some (.int .i64 0) ∧ w'.cell? ⟨gf, 1, none⟩ = some (.slice (some ⟨g, 0, none⟩) 1 1) ∧ w'.cell? ⟨gf, 2, none⟩ = some (.slice (some ⟨g + 1, 0, none⟩) 1 1) ∧ w'.cell? ⟨gf, 3, none⟩ = some (.slice none 0 0) ∧ w'.cell? ⟨gf, 4, none⟩ = some (.slice none 0 0) ∧ w'.cell? ⟨gf, 5, none⟩ = some (.slice (some ⟨g + 1 + 1, 0, none⟩) 2 2) ∧ w'.cell? ⟨gf, 6, none⟩ = some (.slice none 0 0) ∧ Below V.heap.size V w'
theorem WS.keep {V W W2 : World} {gb gc Gr Or gf g : Nat} (h : WS V gb gc Gr Or gf g W) (hb : Below W.heap.size W W2) : WS V gb gc Gr Or gf g W2 := by
  obtain ⟨h1, h2, h3, h4, h5, h6, h7, h8, h9, h10, h11, h12, h13, h14, h15, h16⟩ := h
  exact ⟨pw_cell_below hb h1, pw_cell_below hb h2, pw_cell_below hb h3, pw_cell_below hb h4, pw_cell_below hb h5, pw_cell_below hb h6, pw_cell_below hb h7, pw_cell_below hb h8, pw_cell_below hb h9, pw_cell_below hb h10, pw_cell_below hb h11, pw_cell_below hb h12, pw_cell_below hb h13, pw_cell_below hb h14, pw_cell_below hb h15, h16.trans (hb.mono h16.size)⟩
theorem works_keep {V W W2 : World} {gb gc Gr Or gf g : Nat} (h : W.cell? ⟨gb, 0, none⟩ = some (.int .i64 2) ∧ W.cell? ⟨gb, 1, none⟩ = some (.int .i64 0) ∧ W.cell? ⟨gc, 0, none⟩ = some (.int .i64 3) ∧ W.cell? ⟨gc, 1, none⟩ = some (.int .i64 0) ∧ W.cell? ⟨Gr, Or, none⟩ = some (.int .i64 2) ∧ W.cell? ⟨Gr, Or + 1, none⟩ = some (.int .i64 0) ∧ W.cell? ⟨Gr, Or + 2, none⟩ = some (.int .i64 3) ∧ W.cell? ⟨Gr, Or + 3, none⟩ = some (.int .i64 0) ∧ W.cell? ⟨gf, 0, none⟩ = some (.int .i64 0) ∧ W.cell? ⟨gf, 1, none⟩ = some (.slice (some ⟨g, 0, none⟩) 1 1) ∧ W.cell? ⟨gf, 2, none⟩ = some (.slice (some ⟨g + 1, 0, none⟩) 1 1) ∧ W.cell? ⟨gf, 3, none⟩ = some (.slice none 0 0) ∧ W.cell? ⟨gf, 4, none⟩ = some (.slice none 0 0) ∧ W.cell? ⟨gf, 5, none⟩ = some (.slice (some ⟨g + 1 + 1, 0, none⟩) 2 2) ∧ W.cell? ⟨gf, 6, none⟩ = some (.slice none 0 0) ∧ Below V.heap.size V W) (hb : Below W.heap.size W W2) :
    W2.cell? ⟨gb, 0, none⟩ = some (.int .i64 2) ∧ W2.cell? ⟨gb, 1, none⟩ = some (.int .i64 0) ∧ W2.cell? ⟨gc, 0, none⟩ = some (.int .i64 3) ∧ W2.cell? ⟨gc, 1, none⟩ = some (.int .i64 0) ∧ W2.cell? ⟨Gr, Or, none⟩ = some (.int .i64 2) ∧ W2.cell? ⟨Gr, Or + 1, none⟩ = some (.int .i64 0) ∧ W2.cell? ⟨Gr, Or + 2, none⟩ = some (.int .i64 3) ∧ W2.cell? ⟨Gr, Or + 3, none⟩ = some (.int .i64 0) ∧ W2.cell? ⟨gf, 0, none⟩ = some (.int .i64 0) ∧ W2.cell? ⟨gf, 1, none⟩ = some (.slice (some ⟨g, 0, none⟩) 1 1) ∧ W2.cell? ⟨gf, 2, none⟩ = some (.slice (some ⟨g + 1, 0, none⟩) 1 1) ∧ W2.cell? ⟨gf, 3, none⟩ = some (.slice none 0 0) ∧ W2.cell? ⟨gf, 4, none⟩ = some (.slice none 0 0) ∧ W2.cell? ⟨gf, 5, none⟩ = some (.slice (some ⟨g + 1 + 1, 0, none⟩) 2 2) ∧ W2.cell? ⟨gf, 6, none⟩ = some (.slice none 0 0) ∧ Below V.heap.size V W2 := WS.keep (gb := gb) (gc := gc) (Gr := Gr) (Or := Or) (gf := gf) (g := g) h hb
set_option maxHeartbeats 2000000 in
set_option maxRecDepth 20000 in
theorem works_walk (w : World) : Calls Try.prog 22 #[] w fun e w' => e = .returned (.bool true) ∧ Below w.heap.size w w' := by
  go_enter Try.func22, Try.ntmps22
  go_upto_region 2 with fail
  have x1 := heap_alloc_new w (.cells #[.int .i64 1, .int .i64 0] 24)
  have hb1 := below_alloc (Below.refl w.heap.size w) (.cells #[.int .i64 1, .int .i64 0] 24)
  have s1 : (w.alloc (.cells #[.int .i64 1, .int .i64 0] 24)).heap.size = w.heap.size + 1 := by simp
  generalize w.alloc (.cells #[.int .i64 1, .int .i64 0] 24) = W1 at *
  have x2 := heap_alloc_new W1 (.cells #[.int .i64 2, .int .i64 0] 24)
  have hb2 := below_alloc (Below.refl W1.heap.size W1) (.cells #[.int .i64 2, .int .i64 0] 24)
  have s2 : (W1.alloc (.cells #[.int .i64 2, .int .i64 0] 24)).heap.size = w.heap.size + 1 + 1 := by simp [s1]
  rw [s1] at x2
  generalize W1.alloc (.cells #[.int .i64 2, .int .i64 0] 24) = W2 at *
  have x3 := heap_alloc_new W2 (.cells #[.int .i64 3, .int .i64 0] 24)
  have hb3 := below_alloc (Below.refl W2.heap.size W2) (.cells #[.int .i64 3, .int .i64 0] 24)
  have s3 : (W2.alloc (.cells #[.int .i64 3, .int .i64 0] 24)).heap.size = w.heap.size + 1 + 1 + 1 := by simp [s2]
  rw [s2] at x3
  generalize W2.alloc (.cells #[.int .i64 3, .int .i64 0] 24) = W3 at *
  have a0 := pw_cell_below hb3 (pw_cell_below hb2 (blk_cell x1 0))
  have a1 := pw_cell_below hb3 (pw_cell_below hb2 (blk_cell x1 1))
  have b0 := pw_cell_below hb3 (blk_cell x2 0)
  have b1 := pw_cell_below hb3 (blk_cell x2 1)
  have c0 := blk_cell x3 0
  have c1 := blk_cell x3 1
  simp only [List.getElem?_toArray, List.getElem?_cons_zero, List.getElem?_cons_succ] at a0 a1 b0 b1 c0 c1
  have hB3 : Below w.heap.size w W3 := (hb1.trans (hb2.mono (by omega))).trans (hb3.mono (by omega))
  have hsz : w.heap.size + 1 + 1 < W3.heap.size := by omega
  clear x1 x2 x3 hb1 hb2 hb3 s1 s2 s3
  obtain ⟨ga, hga⟩ : ∃ y, y = w.heap.size := ⟨_, rfl⟩
  rw [← hga] at a0 a1 b0 b1 c0 c1 hsz ⊢
  replace hga := Go.Lib.hid hga
  obtain ⟨gb, hgb⟩ : ∃ y, y = ga + 1 := ⟨_, rfl⟩
  rw [← hgb] at b0 b1 c0 c1 hsz ⊢
  replace hgb := Go.Lib.hid hgb
  obtain ⟨gc, hgc⟩ : ∃ y, y = gb + 1 := ⟨_, rfl⟩
  rw [← hgc] at c0 c1 hsz ⊢
  replace hgc := Go.Lib.hid hgc
  have x4 := heap_alloc_new W3 (.cells #[.string ⟨#[]⟩, .int .i64 1, .int .i64 0, .int .i64 3, .int .i64 0, .string ⟨#[]⟩, .int .i64 3, .int .i64 0, .int .i64 2, .int .i64 0, .string ⟨#[]⟩, .int .i64 2, .int .i64 0, .int .i64 1, .int .i64 0, .string ⟨#[]⟩, .int .i64 2, .int .i64 0, .int .i64 3, .int .i64 0] 26)
  have hb4 := below_alloc (Below.refl W3.heap.size W3) (.cells #[.string ⟨#[]⟩, .int .i64 1, .int .i64 0, .int .i64 3, .int .i64 0, .string ⟨#[]⟩, .int .i64 3, .int .i64 0, .int .i64 2, .int .i64 0, .string ⟨#[]⟩, .int .i64 2, .int .i64 0, .int .i64 1, .int .i64 0, .string ⟨#[]⟩, .int .i64 2, .int .i64 0, .int .i64 3, .int .i64 0] 26)
  have HC : Calls Try.prog 6 #[.slice (some ⟨W3.heap.size, 0, none⟩) 4 4] _ _ := cycle_walk _ W3.heap.size 0 4 wL (fun j hj => by
      have hc := fun i => blk_cell x4 i
      match j, hj with
      | 0, _ => exact ⟨hc 0, hc 1, hc 2, hc 3, hc 4⟩
      | 1, _ => exact ⟨hc 5, hc 6, hc 7, hc 8, hc 9⟩
      | 2, _ => exact ⟨hc 10, hc 11, hc 12, hc 13, hc 14⟩
      | 3, _ => exact ⟨hc 15, hc 16, hc 17, hc 18, hc 19⟩) (by decide) (by decide) (fun e he => by simp [wL] at he; rcases he with rfl | rfl | rfl | rfl <;> exact ⟨by first | exact in_wa | exact in_wb | exact in_wc, by first | exact in_wa | exact in_wb | exact in_wc⟩)
  clear x4
  go_upto_region 3 with (go_at_call 6; refine HC.mono ?_; rintro e u ⟨v, s, r, rfl, hs, hr, hRV, hu⟩; obtain rfl := works_cycle hs hr; obtain ⟨ad, cc, rfl, hcc, hids⟩ := hRV.2 _ rfl; clear hs hr hRV HC)
  replace a0 := pw_cell_below hu (pw_cell_below hb4 a0)
  replace a1 := pw_cell_below hu (pw_cell_below hb4 a1)
  replace b0 := pw_cell_below hu (pw_cell_below hb4 b0)
  replace b1 := pw_cell_below hu (pw_cell_below hb4 b1)
  replace c0 := pw_cell_below hu (pw_cell_below hb4 c0)
  replace c1 := pw_cell_below hu (pw_cell_below hb4 c1)
  have hBu : Below w.heap.size w u := hB3.trans ((hb4.trans (hu.mono hb4.size)).mono hB3.size)
  have hid : ∀ (i : Nat) v, (idc [wb, wc])[i]? = some v → u.cell? (ad.add i) = some v := hids
  have hpl : ad = ⟨ad.block, ad.off, none⟩ := spot_plain (i := 0) (a := ad) (by have := hid 0 _ rfl; simpa [Addr.add] using this)
  obtain ⟨Gr, Or, rfl⟩ : ∃ Gr Or, ad = ⟨Gr, Or, none⟩ := ⟨_, _, hpl⟩
  have r0 := hid 0 _ rfl
  have r1 := hid 1 _ rfl
  have r2 := hid 2 _ rfl
  have r3 := hid 3 _ rfl
  rw [add_off] at r0 r1 r2 r3
  simp only [wb, wc, Nat.add_zero] at r0 r1 r2 r3
  clear hid hids hpl hb4 hu hB3 hsz
  have hBu' := Go.Lib.hid hBu
  clear hBu
  have hd1 := below_alloc (Below.refl u.heap.size u) (.cells #[.string ⟨#[97]⟩, .int .i64 2, .int .i64 0, .int .i64 2] 91)
  have m0 := pw_cell_below hd1 a0
  have m1 := pw_cell_below hd1 a1
  have m2 := pw_cell_below hd1 b0
  have m3 := pw_cell_below hd1 b1
  have hd2 := below_alloc (Below.refl (u.alloc (.cells #[.string ⟨#[97]⟩, .int .i64 2, .int .i64 0, .int .i64 2] 91)).heap.size (u.alloc (.cells #[.string ⟨#[97]⟩, .int .i64 2, .int .i64 0, .int .i64 2] 91))) (.cells #[.string ⟨#[97]⟩, .int .i64 1, .int .i64 0, .int .i64 2] 91)
  have n0 := pw_cell_below hd2 m0
  have n1 := pw_cell_below hd2 m1
  have n2 := pw_cell_below hd2 m2
  have n3 := pw_cell_below hd2 m3
  clear hd1 hd2
  go_upto_region 4 with fail
  obtain ⟨hBV, hW, hf⟩ := works_state u
  clear m0 m1 m2 m3 n0 n1 n2 n3 a0 a1
  replace b0 := pw_cell_below hBV b0
  replace b1 := pw_cell_below hBV b1
  replace c0 := pw_cell_below hBV c0
  replace c1 := pw_cell_below hBV c1
  replace r0 := pw_cell_below hBV r0
  replace r1 := pw_cell_below hBV r1
  replace r2 := pw_cell_below hBV r2
  replace r3 := pw_cell_below hBV r3
  have f0 := hf 0 _ rfl
  have f1 := hf 1 _ rfl
  have f2 := hf 2 _ rfl
  have f3 := hf 3 _ rfl
  have f4 := hf 4 _ rfl
  have f5 := hf 5 _ rfl
  have f6 := hf 6 _ rfl
  have hBV' : Below w.heap.size w ((((u.alloc (.cells #[.string ⟨#[97]⟩, .int .i64 2, .int .i64 0, .int .i64 2] 91)).alloc (.cells #[.string ⟨#[97]⟩, .int .i64 1, .int .i64 0, .int .i64 2] 91)).alloc (.cells #[.int .i64 1, .int .i64 0, .int .i64 0, .int .i64 1, .bool false, .int .i64 0, .int .i64 2, .int .i64 0, .int .i64 0, .int .i64 1, .bool false, .int .i64 0] 81)).alloc (.cells #[.int .i64 0, .slice (some ⟨u.heap.size, 0, none⟩) 1 1, .slice (some ⟨u.heap.size + 1, 0, none⟩) 1 1, .slice none 0 0, .slice none 0 0, .slice (some ⟨u.heap.size + 1 + 1, 0, none⟩) 2 2, .slice none 0 0] 45)) := hBu'.out.trans (hBV.mono hBu'.out.size)
  replace hBV' := Go.Lib.hid hBV'
  clear hf hBV hBu'
  generalize (((u.alloc (.cells #[.string ⟨#[97]⟩, .int .i64 2, .int .i64 0, .int .i64 2] 91)).alloc (.cells #[.string ⟨#[97]⟩, .int .i64 1, .int .i64 0, .int .i64 2] 91)).alloc (.cells #[.int .i64 1, .int .i64 0, .int .i64 0, .int .i64 1, .bool false, .int .i64 0, .int .i64 2, .int .i64 0, .int .i64 0, .int .i64 1, .bool false, .int .i64 0] 81)).alloc (.cells #[.int .i64 0, .slice (some ⟨u.heap.size, 0, none⟩) 1 1, .slice (some ⟨u.heap.size + 1, 0, none⟩) 1 1, .slice none 0 0, .slice none 0 0, .slice (some ⟨u.heap.size + 1 + 1, 0, none⟩) 2 2, .slice none 0 0] 45) = V at *
  obtain ⟨gf, hgf⟩ : ∃ y, y = u.heap.size + 1 + 1 + 1 := ⟨_, rfl⟩
  rw [← hgf] at f0 f1 f2 f3 f4 f5 f6 ⊢
  clear hgf
  generalize u.heap.size = g at *
  have hS : WS V gb gc Gr Or gf g V := ⟨b0, b1, c0, c1, r0, r1, r2, r3, f0, f1, f2, f3, f4, f5, f6, Below.refl _ _⟩
  have hS0 := hS.keep (below_drew (Below.refl V.heap.size V))
  unfold WS at hS0
  clear hS b0 b1 c0 c1 r0 r1 r2 r3 f0 f1 f2 f3 f4 f5 f6
  have HR := fun (W : World) (hb : Below V.heap.size V W) => w_right hW hb
  have HL := fun (W : World) (hb : Below V.heap.size V W) => w_left hW hb
  have HG := fun (W : World) (hb : Below V.heap.size V (W.alloc (.cells #[.int .i64 0, .slice (some ⟨g, 0, none⟩) 1 1, .slice (some ⟨g + 1, 0, none⟩) 1 1, .slice none 0 0, .slice none 0 0, .slice (some ⟨g + 1 + 1, 0, none⟩) 2 2, .slice none 0 0] 45))) => w_graph hW hb
  replace HR := Go.Lib.hid HR
  replace HL := Go.Lib.hid HL
  replace HG := Go.Lib.hid HG
  clear hW
  go_region_held_law (fun w' => w'.cell? ⟨gb, 0, none⟩ = some (.int .i64 2) ∧ w'.cell? ⟨gb, 1, none⟩ = some (.int .i64 0) ∧ w'.cell? ⟨gc, 0, none⟩ = some (.int .i64 3) ∧ w'.cell? ⟨gc, 1, none⟩ = some (.int .i64 0) ∧ w'.cell? ⟨Gr, Or, none⟩ = some (.int .i64 2) ∧ w'.cell? ⟨Gr, Or + 1, none⟩ = some (.int .i64 0) ∧ w'.cell? ⟨Gr, Or + 2, none⟩ = some (.int .i64 3) ∧ w'.cell? ⟨Gr, Or + 3, none⟩ = some (.int .i64 0) ∧ w'.cell? ⟨gf, 0, none⟩ = some (.int .i64 0) ∧ w'.cell? ⟨gf, 1, none⟩ = some (.slice (some ⟨g, 0, none⟩) 1 1) ∧ w'.cell? ⟨gf, 2, none⟩ = some (.slice (some ⟨g + 1, 0, none⟩) 1 1) ∧ w'.cell? ⟨gf, 3, none⟩ = some (.slice none 0 0) ∧ w'.cell? ⟨gf, 4, none⟩ = some (.slice none 0 0) ∧ w'.cell? ⟨gf, 5, none⟩ = some (.slice (some ⟨g + 1 + 1, 0, none⟩) 2 2) ∧ w'.cell? ⟨gf, 6, none⟩ = some (.slice none 0 0) ∧ Below V.heap.size V w')
    (first | assumption | exact works_keep (by assumption) hu3 | exact works_keep (by assumption) hu2 | exact works_keep (by assumption) hu1 | exact works_keep (by assumption) (below_alloc (Below.refl _ _) _))
    ((first
      | (go_at_call 16; refine (HL.out _ (by go_split_ands; assumption)).mono ?_; rintro e w3 ⟨sa3, sc3, rfl, hu3⟩)
      | (go_at_call 14; refine (HG.out _ (by go_split_ands; assumption)).mono ?_; rintro e w2 ⟨sa2, sc2, rfl, hu2⟩)
      | (go_at_call 17; refine (num_walk _ _).mono ?_; rintro e w9 ⟨rfl, rfl⟩)
      | (go_at_call 18; refine (HR.out _ (by go_split_ands; assumption)).mono ?_; rintro e w1 ⟨rfl, hu1⟩)))
  all_goals
    go_wp2_with fail
    go_ret
    exact ⟨rfl, hBV'.out.trans ((by rename_i hSS; exact hSS.2.2.2.2.2.2.2.2.2.2.2.2.2.2.2 : Below V.heap.size V _).mono hBV'.out.size)⟩
end Go.Proofs.Ytdepmcofnlggaaa.PResolverCycles
end
