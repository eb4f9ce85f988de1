/- WalRuns: any row of appends and rewritings, the power failing again and again, the log opened anew each time: what is there is always what answered OK, in order; and what Open answers is what the log tells (the card: the table of sixteen numbers holds what the program's text lays; no condition on the argument). (ahead of it: WalRuns walked.) -/
import Derived.Test.YtggogenhakdhiaaDoorPkCuts
import Derived.Test.YtggogenhakdhiaaDoorPkG
import Derived.Test.YtggogenhakdhiaaDoorPkA
section
set_option linter.unusedVariables false
set_option linter.unusedSimpArgs false
attribute [local go_sem ↓] Go.wp_at_zero Go.wp_at_succ
namespace Go.Proofs.YtggogenhakdhiaaDoor
open Go.RowKit

theorem wpList_builtin {P : Program} {ops : Array Oper} {rest : List Oper} {o : Oper} {a : Act} {w : World} {Q : Exit → Act → World → Prop} {t : TypeId} (hgd : o.guard = none) (s x : Operand)
    (ho : o.op = .call { callee := .builtin .append, args := #[s, x], argTypes := #[t, t] }) {v1 v2 v' : Value} {w' : World} (hs : a.eval s = v1) (hx : a.eval x = v2)
    (hr : (Builtin.append_ #[t, t] o.type #[v1, v2]).run P w = .ok v' w') (h : wpList P ops Q rest (a.put o.dst v') w') : wpList P ops Q (o :: rest) a w := by
  refine wpList_plain hgd fun K hK => ?_
  unfold Oper.wp execOp
  simp only [ho, resolve, invoke, builtin, Sem.run_bind, Sem.run_pure, Result.andThen_ok, List.map_toArray, List.map_cons, List.map_nil, hs, hx, hr]
  exact hK _ _ h
theorem modk12 (z : Int) : ∃ k : Nat, (k : Int) < 12 ∧ wrap64 ((IntKind.u64.wrap z).tmod 12) = k := by
  have h0 : 0 ≤ IntKind.u64.wrap z := by rw [IntKind.wrap_u64]; omega
  rw [Int.tmod_eq_emod_of_nonneg h0]
  have h1 := Int.emod_nonneg (IntKind.u64.wrap z) (show (12 : Int) ≠ 0 by omega)
  have h2 := Int.emod_lt_of_pos (IntKind.u64.wrap z) (show (0 : Int) < 12 by omega)
  obtain ⟨k, hk⟩ := Int.eq_ofNat_of_zero_le h1
  refine ⟨k, by omega, ?_⟩
  rw [hk]
  unfold wrap64
  omega
section
variable {T : TypeId} {w w' : World} {col col' : Nat → Nat} {F : Nat → Prop} {v : Value} {l : List (Int × List UInt8)}
theorem RecsAt.hue {i j : Nat} (h : RecsAt T w (fun k => F (col k)) v l) (k : Step i j col w w' col') (hi : ¬ F i) (hj : ¬ F j) : RecsAt T w' (fun k => F (col' k)) v l :=
  ((h.mono (Z' := fun x => F (col x) ∧ x < w.heap.size) (fun x hx hz => ⟨hz, hx⟩)).same (fun x hx hz => k.chg.block x hx (fun hs => by rcases hs with e | e; exact hi (e ▸ hz.1); exact hj (e ▸ hz.1)))).mono (fun x hx hz => by rw [k.old x hz.2]; exact hz.1)
theorem RecsAt.hueb (h : RecsAt T w (fun k => F (col k)) v l) (hb : Below w.heap.size w w') (ho : ∀ k, k < w.heap.size → col' k = col k) : RecsAt T w' (fun k => F (col' k)) v l :=
  ((h.mono (Z' := fun x => F (col x) ∧ x < w.heap.size) (fun x hx hz => ⟨hz, hx⟩)).below hb).mono (fun x hx hz => by rw [ho x hz.2]; exact hz.1)
theorem RecsAt.hueg {r : Option Nat} (h : RecsAt T w (fun k => F (col k)) v l) (hg : w.grownBy w' r) (hr : ∀ k, r = some k → ¬ F (col k)) (ho : ∀ k, k < w.heap.size → col' k = col k) : RecsAt T w' (fun k => F (col' k)) v l :=
  ((h.mono (Z' := fun x => F (col x) ∧ x < w.heap.size) (fun x hx hz => ⟨hz, hx⟩)).same (fun x hx hz => hg.block x hx (fun e => hr x e.symm hz.1))).mono (fun x hx hz => by rw [ho x hz.2]; exact hz.1)
end
theorem Run.grown {B n : Nat} {w w' : World} {col col' : Nat → Nat} {ga gl : Nat} {d : DS} {s : LS} {r : Option Nat} (h : Run B n w col ga gl d s) (hg : w.grownBy w' r) (hr : ∀ k, r = some k → col k = 7) (ho : ∀ k, k < w.heap.size → col' k = col k) : Run B n w' col' ga gl d s := by
  obtain ⟨v, hv⟩ := h.P
  have hc : Chg (fun k => r = some k) w w' := ⟨hg.os, hg.tape, hg.output, hg.size, fun k hk hs => hg.block k hk (fun e => hs e.symm)⟩
  exact ⟨⟨v, hv.frame hc (fun k hk => by have := hr k hk; omega) ho⟩, h.I, fun k hk => (ho k (Nat.lt_of_lt_of_le hk h.hB)).trans (h.lo k hk), Nat.le_trans h.hB hg.size, h.dn⟩
/-- between acts: the disk and its log; what is wanted, in blocks of the colours 7 and 8, its own block of the colour 7 -/
structure Rd (B ga gl : Nat) (w0 : World) (vw : Value) (bd g0 : Nat) (wr : World) (col : Nat → Nat) (d : DS) (s : LS) : Prop where
  R : Run B 120 wr col ga gl d s
  q : RecsAt 50 wr (fun k => col k = 7 ∨ col k = 8) vw s.recs
  o : ∀ k, vw.ownBlock = some k → col k = 7
  b : Below w0.heap.size w0 wr
  tr : d.trail.length ≤ bd
  gn : s.gen ≤ g0
section
variable {B ga gl gl' bd g0 bd' g0' : Nat} {w0 wr w' : World} {vw : Value} {col col' : Nat → Nat} {d d' : DS} {s s' : LS}
theorem Rd.below (h : Rd B ga gl w0 vw bd g0 wr col d s) (hb : Below wr.heap.size wr w') (ho : ∀ k, k < wr.heap.size → col' k = col k) : Rd B ga gl w0 vw bd g0 w' col' d s :=
  ⟨h.R.below hb ho, RecsAt.hueb (F := fun c => c = 7 ∨ c = 8) h.q hb ho, fun k hk => (ho k (h.q.lt k hk)).trans (h.o k hk), h.b.trans (hb.mono h.b.size), h.tr, h.gn⟩
theorem Rd.step (h : Rd B ga gl w0 vw bd g0 wr col d s) (hB : w0.heap.size ≤ B) (k : Step 1 3 col wr w' col') (hR : Run B 120 w' col' ga gl' d' s') (hr : s'.recs = s.recs) (ht : d'.trail.length ≤ bd') (hg : s'.gen ≤ g0') : Rd B ga gl' w0 vw bd' g0' w' col' d' s' :=
  ⟨hR, by rw [hr]; exact RecsAt.hue (F := fun c => c = 7 ∨ c = 8) h.q k (by omega) (by omega), fun x hx => (k.old x (h.q.lt x hx)).trans (h.o x hx), h.b.trans ((k.below h.R.hB h.R.lo (by omega) (by omega)).mono hB), ht, hg⟩
end
set_option maxHeartbeats 32000000 in
set_option maxRecDepth 20000 in
theorem runs_walk (w : World) (A : Option Addr) (c : Nat) (l : List ActV) (h : ActsAt w w.heap.size A l) (hlc : l.length ≤ c) (hll : l.length ≤ 9223372036854775807) (hn : ∀ a ∈ l, a.recs.length ≤ 9223372036854775807) (ht : TabAt w) (htb : 0 < w.heap.size) :
    Calls Tryd.prog 5 #[.slice A l.length c] w (Tells w.heap.size (.bool true) w) := by
  have HK := works_walk w ht htb
  by_cases h60 : 60 < l.length
  · have h60z : (60 : Int) < (l.length : Int) := by omega
    go_enter Tryd.func5, Tryd.ntmps5
    go_wp2_with (go_at_call 18; go_must (refine HK.mono ?_; rintro e w1 ⟨rfl, hB1⟩))
    go_ret
    exact ⟨rfl, hB1⟩
  have h60z : ¬ (60 : Int) < (l.length : Int) := by omega
  go_enter Tryd.func5, Tryd.ntmps5
  go_upto_region 5 with (go_at_call 18; go_must (refine HK.mono ?_; rintro e w1 ⟨rfl, hB1⟩))
  have hz1 := hB1.size
  have hT1 := ht.below hB1
  have HF : Calls Tryd.prog 20 #[.int .i64 120] w1 (fun e w' => ∃ ga gl col d, e = .returned (.tuple #[.pointer (some ⟨ga, 0, none⟩), .pointer (some ⟨gl, 0, none⟩)]) ∧ Run w1.heap.size 120 w' col ga gl d ⟨1, [], false⟩ ∧ d.trail = [1, 0] ∧ d.armed = -1 ∧ Below w1.heap.size w1 w') := fresh_walk w1 120 (by omega) hT1 (by omega)
  go_upto_region 11 with (go_at_call 20; go_must (refine HF.mono ?_; rintro e w2 ⟨ga, gl0, col0, d0, rfl, hR0, htl0, har0, hB2⟩))
  have hRd0 : Rd w1.heap.size ga gl0 w (.slice none 0 0) 2 1 w2 col0 d0 ⟨1, [], false⟩ := ⟨hR0, RecsAt.nil _ _ _, fun k hk => by simp [Value.ownBlock] at hk, hB1.trans (hB2.mono hz1), by rw [htl0]; decide, Nat.le_refl _⟩
  have hdn0 : d0.down = false := hR0.dn.symm
  clear HK HF hR0 htl0 har0 hB2 hT1
  go_wp2
  go_loopw [4, 5, 6, 7] (fun vl vw vg i wr => ∃ j : Nat, j ≤ l.length ∧ i = .int .i64 j ∧ ∃ gl col d s, vl = .pointer (some ⟨gl, 0, none⟩) ∧ vg = .int .i64 (s.gen : Nat) ∧ d.down = false ∧ Rd w1.heap.size ga gl w vw (2 + 2000 * j) (1 + j) wr col d s) (fun _ _ _ i _ => l.length - (intOf i).toNat)
  case atStart => exact ⟨0, by omega, rfl, gl0, col0, d0, _, rfl, rfl, hdn0, hRd0⟩
  case round =>
    clear hRd0 hdn0
    obtain ⟨j, hj, rfl, gl, col, d, s, rfl, rfl, hdn, hRd⟩ := hrel
    have hlow : ∀ {x : World} {colx : Nat → Nat} {dx : DS} {sx : LS} {glx bdx gx : Nat} {vx : Value}, Rd w1.heap.size ga glx w vx bdx gx x colx dx sx → TabAt x := fun hx => ht.below hx.b
    by_cases hlt : j < l.length
    · have hltz : (j : Int) < (l.length : Int) := by omega
      obtain ⟨g, o, RA, rc, BA, bc, hA, hgB, y0, y1, y2, y3, hR, hrc, hB⟩ := h j hlt
      subst hA
      have hnr := hn l[j] (List.getElem_mem _)
      generalize l[j] = a at *
      obtain ⟨ak, recs, an, ab⟩ := a
      simp only at y0 y1 y2 y3 hR hrc hB hnr
      have z1 := cell_below hRd.b y1
      have HG := good_walk wr RA rc recs ((RecsF.low hR hRd.b).mono (fun k hk hF => hk)) hrc hnr
      go_upto_region 14 with (go_at_call 19; go_must (refine HG.mono ?_; rintro e w3 ⟨v3, rfl, gs, hQ3, hg3, hf3, hB3⟩))
      obtain ⟨A3, c3, hv3, hd3, hd3'⟩ := hQ3.cap
      subst hv3
      have hRd3 := hRd.below (col' := dye wr col 8) hB3 (fun k hk => dye_old hk)
      have hG3 : RecsAt 50 w3 (fun k => dye wr col 8 k = 8) (.slice A3 gs.length c3) gs := hQ3.mono (fun k hk hz => dye_new hz)
      have hkind : ∀ {x : World}, Below w.heap.size w x → x.cell? ⟨g, o + j * 4, none⟩ = some (.int .i64 ak) := fun hx => cell_below hx y0
      have x0 := hkind hRd3.b
      have x2 := cell_below hRd3.b y2
      have hgen : s.gen ≤ 61 := by have := hRd3.gn; omega
      have htr3 : d.trail.length ≤ 2 + 2000 * j := hRd3.tr
      clear HG hQ3 hRd hB3 z1 y1 y2 y3 hR hB hrc hnr
      generalize dye wr col 8 = col at *
      generalize u5 = vw at *
      by_cases h4 : ak = 4
      · subst h4
        obtain ⟨k, hk, hke⟩ := modk12 an
        have HM := arm_run w1.heap.size 120 w3 col ga gl d s hRd3.R (k : Int) (by omega)
        go_wp2_with (go_at_call 23; go_must (refine HM.mono ?_; rintro e w4 ⟨col4, rfl, hR4, hS4⟩))
        go_roundw
        case rel => exact ⟨j + 1, hlt, by go_num, gl, col4, { d with armed := max (-1) (k : Int) }, s, rfl, rfl, hdn, hRd3.step hz1 hS4 hR4 rfl (by show d.trail.length ≤ _; omega) (by have := hRd3.gn; omega)⟩
        case measure => simp [intOf]; omega
      · have h4b : (ak == 4) = false := by rw [beq_eq_false_iff_ne]; exact h4
        by_cases h3 : ak = 3
        · subst h3
          have hnum : ∀ x z, 0 ≤ z → z ≤ 50 → Calls Tryd.prog 10 #[.int .i64 z] x (Says (.int .i64 z) x) := fun x z h0 h1 => num_walk x z (by omega) (by omega)
          have hN0 := fun x => hnum x 0 (by omega) (by omega)
          have hN4 := fun x => hnum x 4 (by omega) (by omega)
          have hN50 := fun x => hnum x 50 (by omega) (by omega)
          clear hnum

          have HW := rewrite_run w1.heap.size 120 w3 col ga gl d s hRd3.R (by omega) A3 c3 gs hf3 (hG3.f.mono (fun k hk hF => by omega)) hd3 hg3 (by omega) (hlow hRd3) (by omega) (by omega)
          go_wp2
          go_loopw [5, 9] (fun vq i wq => vq = vw ∧ i = .int .i64 0 ∧ wq = w3) (fun _ _ _ => 0)
          case atStart => exact ⟨rfl, rfl, rfl⟩
          case round =>
            obtain ⟨hv5, hi5, hw5⟩ := hrel
            rw [hv5, hi5, hw5]
            have xk := hkind hRd3.b
            have hpz : (0 : Int) < (gs.length : Int) ∨ ¬ (0 : Int) < (gs.length : Int) := by omega
            rcases hpz with hp | hp
            all_goals
              go_upto_region 26 with (go_at_call 24; go_must (refine HW.mono ?_; rintro e w4 ⟨z4, col4, d8, s8, rfl, hR4, hS4, ht4, hcase⟩))
              have hG4 := RecsAt.hue (F := fun c => c = 8) hG3 hS4 (by omega) (by omega)
              have hb4 := hRd3.b.trans ((hS4.below hRd3.R.hB hRd3.R.lo (by omega) (by omega)).mono hz1)
              rcases hcase with ⟨rfl, e2, e3, e4⟩ | ⟨rfl, e2, e3, e4⟩ | ⟨rfl, e2, e3, e4⟩
              · have BA : Below w4.heap.size w4 (w4.alloc (.cells #[] 50)) := (Below.refl _ _).alloc (Nat.le_refl _) _
                have gA := heap_alloc_new w4 (.cells #[] 50)
                obtain ⟨v8, w8, hr8, R8, o8, B8⟩ := run_clone_recs (P := Tryd.prog) (t := 44) (base := w4.heap.size) (by decide) Tryd.underlying44 info_rec 44 gA (Nat.le_refl _) BA.size (hG4.below BA) (by omega)
                have hB48 := BA.trans (B8.mono BA.size)
                have hgb := hRd3.gn
                have hRd8 : Rd w1.heap.size ga gl w v8 (2 + 2000 * j + 400) (1 + j + 1) w8 (dye w4 col4 7) d8 s8 := by
                  refine ⟨hR4.below hB48 (fun k hk => dye_old hk), ?_, fun k hk => dye_new (o8 k hk), hb4.trans (hB48.mono hb4.size), by omega, by omega⟩
                  rw [e2]
                  refine R8.mono (fun k hk hz => ?_)
                  by_cases hkl : k < w4.heap.size
                  · rw [dye_old hkl]; omega
                  · rw [dye_new (by omega)]; omega
                have hdn8 : d8.down = false := e4
                have hge8 : Value.int .i64 ((s.gen : Int) + 1) = .int .i64 ((s8.gen : Nat) : Int) := by rw [e3, Int.natCast_add]; rfl
                generalize dye w4 col4 7 = col8 at *
                clear hR4 hS4 ht4 hG4 R8 o8 B8 BA gA hB48 e2
                go_upto_region 31 with (first
                  | (at_builtin; refine wpList_builtin (o := ⟨some 108, _, _, _, _, _⟩) rfl (.tmp 106) (.tmp 107) rfl rfl rfl hr8 ?_)
                  | (go_at_call 10; refine (hN0 _).mono ?_; rintro e w99 ⟨rfl, rfl⟩)
                  | (go_at_call 10; refine (hN4 _).mono ?_; rintro e w99 ⟨rfl, rfl⟩)
                  | (go_at_call 10; refine (hN50 _).mono ?_; rintro e w99 ⟨rfl, rfl⟩))
                have hCmp : Calls Tryd.prog 22 #[.pointer (some ⟨gl, 0, none⟩)] w8 (fun e w' => ∃ A c, e = .returned (.slice A s8.recs.length c) ∧ Below w8.heap.size w8 w' ∧ Calls Tryd.prog 26 #[.slice A s8.recs.length c, v8] w' (fun e w'' => e = .returned (.bool true) ∧ Below w'.heap.size w' w'')) := by
                  have hfit := length_usedOf s8.recs
                  have hfit2 := hRd8.R.I.fits
                  have hfit3 : halfOf 120 = 59 := rfl
                  refine (run_recs hRd8.R (by omega)).mono ?_
                  rintro e w' ⟨v, rfl, hQ, hB⟩
                  obtain ⟨A, c, rfl⟩ := hQ.slice
                  have hq := hRd8.q.below hB
                  obtain ⟨Aq, cq, hvq⟩ := hq.slice
                  rw [hvq] at hq ⊢
                  exact ⟨A, c, rfl, hB, sameRecs_rd w' A Aq c cq s8.recs hQ.r hq.r (by omega)⟩
                have hGn : ∀ y, Below w8.heap.size w8 y → Calls Tryd.prog 28 #[.pointer (some ⟨gl, 0, none⟩)] y (Says (.int .i64 (s8.gen : Nat)) y) := fun y hy => by
                  obtain ⟨v, hP⟩ := (hRd8.R.below (col' := col8) hy (fun _ _ => rfl)).P
                  exact gen_walk y _ gl ga v s8 hP.L

                have hDn8 : Calls Tryd.prog 27 #[.pointer (some ⟨ga, 0, none⟩)] w8 (Says (.bool false) w8) := by
                  obtain ⟨v, hP⟩ := hRd8.R.P
                  obtain ⟨sv, tv, hD, -⟩ := hP.D
                  have := down_walk w8 ga 120 sv tv d8 hD
                  rwa [hdn8] at this
                have k8 := hkind hRd8.b
                have hgb8 := hRd8.gn
                go_wp2_with (first
                  | (go_at_call 28; go_must (refine (hGn w10 hB810).mono ?_; rintro e w99 ⟨rfl, rfl⟩))
                  | (go_at_call 26; go_must (refine hSR.mono ?_; rintro e w10 ⟨rfl, hB10⟩; have hB810 := hB9.trans (hB10.mono hB9.size)))
                  | (go_at_call 22; go_must (refine hCmp.mono ?_; rintro e w9 ⟨A9, c9, rfl, hB9, hSR⟩))
                  | (go_at_call 27; go_must (refine hDn8.mono ?_; rintro e w99 ⟨rfl, rfl⟩))
                  | (go_at_call 10; refine (hN0 _).mono ?_; rintro e w99 ⟨rfl, rfl⟩)
                  | (go_at_call 10; refine (hN4 _).mono ?_; rintro e w99 ⟨rfl, rfl⟩)
                  | (go_at_call 10; refine (hN50 _).mono ?_; rintro e w99 ⟨rfl, rfl⟩))
                go_roundw
                case rel => exact ⟨j + 1, hlt, by go_num, gl, col8, d8, s8, rfl, (by first | exact hge8 | rfl), hdn8, ⟨(hRd8.below (col' := col8) hB810 (fun _ _ => rfl)).R, (hRd8.below (col' := col8) hB810 (fun _ _ => rfl)).q, hRd8.o, (hRd8.below (col' := col8) hB810 (fun _ _ => rfl)).b, by have := hRd8.tr; omega, by omega⟩⟩
                case measure => simp [intOf]; omega
              · have hgb := hRd3.gn
                have hRd8 : Rd w1.heap.size ga gl w vw (2 + 2000 * j + 400) (1 + j) w4 col4 d8 s8 := hRd3.step hz1 hS4 hR4 e2 (by omega) (by omega)
                have hdn8 : d8.down = false := e4
                have hge8 : Value.int .i64 ((s.gen : Nat) : Int) = .int .i64 ((s8.gen : Nat) : Int) := by rw [e3]
                clear hR4 hS4 ht4 hG4 e2
                have hCmp : Calls Tryd.prog 22 #[.pointer (some ⟨gl, 0, none⟩)] w4 (fun e w' => ∃ A c, e = .returned (.slice A s8.recs.length c) ∧ Below w4.heap.size w4 w' ∧ Calls Tryd.prog 26 #[.slice A s8.recs.length c, vw] w' (fun e w'' => e = .returned (.bool true) ∧ Below w'.heap.size w' w'')) := by
                  have hfit := length_usedOf s8.recs
                  have hfit2 := hRd8.R.I.fits
                  have hfit3 : halfOf 120 = 59 := rfl
                  refine (run_recs hRd8.R (by omega)).mono ?_
                  rintro e w' ⟨v, rfl, hQ, hB⟩
                  obtain ⟨A, c, rfl⟩ := hQ.slice
                  have hq := hRd8.q.below hB
                  obtain ⟨Aq, cq, hvq⟩ := hq.slice
                  rw [hvq] at hq ⊢
                  exact ⟨A, c, rfl, hB, sameRecs_rd w' A Aq c cq s8.recs hQ.r hq.r (by omega)⟩
                have hGn : ∀ y, Below w4.heap.size w4 y → Calls Tryd.prog 28 #[.pointer (some ⟨gl, 0, none⟩)] y (Says (.int .i64 (s8.gen : Nat)) y) := fun y hy => by
                  obtain ⟨v, hP⟩ := (hRd8.R.below (col' := col4) hy (fun _ _ => rfl)).P
                  exact gen_walk y _ gl ga v s8 hP.L

                have hDn8 : Calls Tryd.prog 27 #[.pointer (some ⟨ga, 0, none⟩)] w4 (Says (.bool false) w4) := by
                  obtain ⟨v, hP⟩ := hRd8.R.P
                  obtain ⟨sv, tv, hD, -⟩ := hP.D
                  have := down_walk w4 ga 120 sv tv d8 hD
                  rwa [hdn8] at this
                have k8 := hkind hRd8.b
                have hgb8 := hRd8.gn
                go_wp2_with (first
                  | (go_at_call 28; go_must (refine (hGn w10 hB810).mono ?_; rintro e w99 ⟨rfl, rfl⟩))
                  | (go_at_call 26; go_must (refine hSR.mono ?_; rintro e w10 ⟨rfl, hB10⟩; have hB810 := hB9.trans (hB10.mono hB9.size)))
                  | (go_at_call 22; go_must (refine hCmp.mono ?_; rintro e w9 ⟨A9, c9, rfl, hB9, hSR⟩))
                  | (go_at_call 27; go_must (refine hDn8.mono ?_; rintro e w99 ⟨rfl, rfl⟩))
                  | (go_at_call 10; refine (hN0 _).mono ?_; rintro e w99 ⟨rfl, rfl⟩)
                  | (go_at_call 10; refine (hN4 _).mono ?_; rintro e w99 ⟨rfl, rfl⟩)
                  | (go_at_call 10; refine (hN50 _).mono ?_; rintro e w99 ⟨rfl, rfl⟩))
                go_roundw
                case rel => exact ⟨j + 1, hlt, by go_num, gl, col4, d8, s8, rfl, (by first | exact hge8 | rfl), hdn8, ⟨(hRd8.below (col' := col4) hB810 (fun _ _ => rfl)).R, (hRd8.below (col' := col4) hB810 (fun _ _ => rfl)).q, hRd8.o, (hRd8.below (col' := col4) hB810 (fun _ _ => rfl)).b, by have := hRd8.tr; omega, by omega⟩⟩
                case measure => simp [intOf]; omega
              · have hgb := hRd3.gn
                have hRd8 : Rd w1.heap.size ga gl w vw (2 + 2000 * j + 400) (1 + j) w4 col4 d8 s8 := hRd3.step hz1 hS4 hR4 e2 (by omega) (by omega)
                have hdn8 : d8.down = true := e4
                have hge8 : Value.int .i64 ((s.gen : Nat) : Int) = .int .i64 ((s8.gen : Nat) : Int) := by rw [e3]
                clear hR4 hS4 ht4 hG4 e2
                obtain ⟨vP8, hP8⟩ := hRd8.R.P
                have hMd := mend_in 120 w4 col4 ga d8 hP8.D
                have hI8 := hRd8.R.I
                have hlo8 := hRd8.R.lo
                have h8B := hRd8.R.hB
                have ht8 := hlow hRd8
                have hOp : ∀ x colx, Step 1 3 col4 w4 x colx → PIn x colx ga 120 { d8 with armed := -1, down := false } → Calls Tryd.prog 13 #[.pointer (some ⟨ga, 0, none⟩)] x (fun e w' => ∃ glx, e = .returned (.tuple #[.pointer (some ⟨glx, 0, none⟩), .int .i64 0]) ∧ Run w1.heap.size 120 w' (dye x colx 3) ga glx { d8 with armed := -1, down := false } ⟨s8.gen, s8.recs, false⟩ ∧ Below x.heap.size x w') := fun x colx hs hp =>
                  open_in w1.heap.size 120 x colx ga _ s8 hp rfl (hI8.other rfl rfl rfl) (ht8.chg hs.chg (by show ¬ (col4 _ = 1 ∨ col4 _ = 3); rw [hlo8 _ (by omega)]; omega)) (fun k hk => (hs.old k (by omega)).trans (hlo8 k hk)) (by have := hs.chg.size; omega)
                have hDn8 : Calls Tryd.prog 27 #[.pointer (some ⟨ga, 0, none⟩)] w4 (Says (.bool true) w4) := by
                  obtain ⟨sv, tv, hD, -⟩ := hP8.D
                  have := down_walk w4 ga 120 sv tv d8 hD
                  rwa [hdn8] at this
                have hWr8 : Calls Tryd.prog 17 #[.pointer (some ⟨ga, 0, none⟩)] w4 (Says (.int .i64 (d8.trail.length : Nat)) w4) := by
                  obtain ⟨sv, tv, hD, -⟩ := hP8.D
                  exact writes_walk w4 ga 120 sv tv d8 hD
                have k8 := hkind hRd8.b
                have hgb8 := hRd8.gn
                have hne8 : ((d8.trail.length : Int) != (d8.trail.length : Int)) = false := by simp
                go_upto_region 35 with (first
                  | (go_at_call 13; go_must (refine (hOp w9 col9 hS9 hP9).mono ?_; rintro e w10 ⟨gl10, rfl, hR10, hB10⟩))
                  | (go_at_call 25; go_must (refine hMd.mono ?_; rintro e w9 ⟨col9, rfl, hP9, hS9⟩))
                  | (go_at_call 17; refine hWr8.mono ?_; rintro e w99 ⟨rfl, rfl⟩)
                  | (go_at_call 27; refine hDn8.mono ?_; rintro e w99 ⟨rfl, rfl⟩)
                  | (go_at_call 10; refine (hN0 _).mono ?_; rintro e w99 ⟨rfl, rfl⟩)
                  | (go_at_call 10; refine (hN4 _).mono ?_; rintro e w99 ⟨rfl, rfl⟩)
                  | (go_at_call 10; refine (hN50 _).mono ?_; rintro e w99 ⟨rfl, rfl⟩))
                have hRd10 : Rd w1.heap.size ga gl10 w vw (2 + 2000 * (j + 1)) (1 + (j + 1)) w10 (dye w9 col9 3) { d8 with armed := -1, down := false } ⟨s8.gen, s8.recs, false⟩ := by
                  have hb9 := hRd8.b.trans ((hS9.below h8B hlo8 (by omega) (by omega)).mono hz1)
                  have hq9 := RecsAt.hue (F := fun c => c = 7 ∨ c = 8) hRd8.q hS9 (by omega) (by omega)
                  exact ⟨hR10, RecsAt.hueb (F := fun c => c = 7 ∨ c = 8) hq9 hB10 (fun k hk => dye_old hk), fun k hk => (dye_old (hq9.lt k hk)).trans ((hS9.old k (hRd8.q.lt k hk)).trans (hRd8.o k hk)), hb9.trans (hB10.mono hb9.size), by have := hRd8.tr; show d8.trail.length ≤ _; omega, by show s8.gen ≤ _; omega⟩
                have hWr10 : Calls Tryd.prog 17 #[.pointer (some ⟨ga, 0, none⟩)] w10 (Says (.int .i64 (d8.trail.length : Nat)) w10) := by
                  obtain ⟨v, hP⟩ := hRd10.R.P
                  obtain ⟨sv, tv, hD, -⟩ := hP.D
                  exact writes_walk w10 ga 120 sv tv { d8 with armed := -1, down := false } hD
                clear hOp hMd hWr8 hDn8 hP8 hP9 hS9 hR10 hB10 hI8 hlo8 ht8
                generalize hs10 : (⟨s8.gen, s8.recs, false⟩ : LS) = s10 at *
                have hgs10 : s10.gen = s8.gen := by rw [← hs10]
                generalize hd10 : ({ d8 with armed := -1, down := false } : DS) = d10 at *
                have hdn10 : d10.down = false := by rw [← hd10]
                generalize dye w9 col9 3 = col10 at *

                have hCmp : Calls Tryd.prog 22 #[.pointer (some ⟨gl10, 0, none⟩)] w10 (fun e w' => ∃ A c, e = .returned (.slice A s10.recs.length c) ∧ Below w10.heap.size w10 w' ∧ Calls Tryd.prog 26 #[.slice A s10.recs.length c, vw] w' (fun e w'' => e = .returned (.bool true) ∧ Below w'.heap.size w' w'')) := by
                  have hfit := length_usedOf s10.recs
                  have hfit2 := hRd10.R.I.fits
                  have hfit3 : halfOf 120 = 59 := rfl
                  refine (run_recs hRd10.R (by omega)).mono ?_
                  rintro e w' ⟨v, rfl, hQ, hB⟩
                  obtain ⟨A, c, rfl⟩ := hQ.slice
                  have hq := hRd10.q.below hB
                  obtain ⟨Aq, cq, hvq⟩ := hq.slice
                  rw [hvq] at hq ⊢
                  exact ⟨A, c, rfl, hB, sameRecs_rd w' A Aq c cq s10.recs hQ.r hq.r (by omega)⟩
                have hGn : ∀ y, Below w10.heap.size w10 y → Calls Tryd.prog 28 #[.pointer (some ⟨gl10, 0, none⟩)] y (Says (.int .i64 (s10.gen : Nat)) y) := fun y hy => by
                  obtain ⟨v, hP⟩ := (hRd10.R.below (col' := col10) hy (fun _ _ => rfl)).P
                  exact gen_walk y _ gl10 ga v s10 hP.L

                rw [hgs10] at hGn
                go_wp2_with (first
                  | (go_at_call 28; go_must (refine (hGn w12 hB1012).mono ?_; rintro e w99 ⟨rfl, rfl⟩))
                  | (go_at_call 26; go_must (refine hSR.mono ?_; rintro e w12 ⟨rfl, hB12⟩; have hB1012 := hB11.trans (hB12.mono hB11.size)))
                  | (go_at_call 22; go_must (refine hCmp.mono ?_; rintro e w11 ⟨A11, c11, rfl, hB11, hSR⟩))
                  | (go_at_call 17; refine hWr10.mono ?_; rintro e w99 ⟨rfl, rfl⟩)
                  | (go_at_call 10; refine (hN0 _).mono ?_; rintro e w99 ⟨rfl, rfl⟩)
                  | (go_at_call 10; refine (hN4 _).mono ?_; rintro e w99 ⟨rfl, rfl⟩)
                  | (go_at_call 10; refine (hN50 _).mono ?_; rintro e w99 ⟨rfl, rfl⟩))
                go_roundw
                case rel => exact ⟨j + 1, hlt, by go_num, gl10, col10, d10, s10, rfl, (by first | (rw [hgs10]; exact hge8) | rw [hgs10] | rfl), hdn10, hRd10.below hB1012 (fun _ _ => rfl)⟩
                case measure => simp [intOf]; omega
        · have h3b : (ak != 3) = true := by rw [bne_iff_ne]; exact h3
          have h3c : (ak == 3) = false := by rw [beq_eq_false_iff_ne]; exact h3
          have hnum : ∀ x z, 0 ≤ z → z ≤ 50 → Calls Tryd.prog 10 #[.int .i64 z] x (Says (.int .i64 z) x) := fun x z h0 h1 => num_walk x z (by omega) (by omega)
          have hN0 := fun x => hnum x 0 (by omega) (by omega)
          have hN4 := fun x => hnum x 4 (by omega) (by omega)
          have hN50 := fun x => hnum x 50 (by omega) (by omega)
          clear hnum

          go_wp2
          go_loopw [5, 9] (fun vq i wq => ∃ m : Nat, m ≤ gs.length ∧ i = .int .i64 m ∧ ∃ col d s', s'.gen = s.gen ∧ Rd w1.heap.size ga gl w vq (2 + 2000 * j + 40 * m) (1 + j) wq col d s' ∧ RecsAt 50 wq (fun k => col k = 8) (.slice A3 gs.length c3) gs) (fun _ i _ => gs.length - (intOf i).toNat)
          case atStart => exact ⟨0, by omega, rfl, col, d, s, rfl, hRd3, hG3⟩
          case round =>
            clear hRd3 hG3 hdn x0 x2
            obtain ⟨m, hm, rfl, col, d, s', hgn, hRq, hGq⟩ := hrel
            have xq := hkind hRq.b
            have htq := hRq.tr
            have hgq := hRq.gn
            by_cases hlm : m < gs.length
            · have hlmz : (m : Int) < (gs.length : Int) := by omega
              obtain ⟨r, hr⟩ : ∃ r, r = gs[m] := ⟨_, rfl⟩
              obtain ⟨g4, cap, C, cc, hve, k0, k1, hO, -, -⟩ := hGq.loads hlm
              cases hve
              have hfr := hf3 gs[m] (List.getElem_mem _)
              rw [← hr] at k0 k1 hO hfr
              have hCz : ∀ ad, C = some ad → col ad.block = 8 := fun ad e => by subst e; exact hO.in_ _ rfl
              have HA := append_run w1.heap.size 120 wr col ga gl d s' hRq.R (by omega) r.1 C cc r.2 hfr hO.bys (fun ad e => by have := hCz ad e; omega) (hlow hRq) (by omega) (by omega)
              replace hr := Go.Lib.hid hr
              go_upto_region 20 with (go_at_call 21; go_must (refine HA.mono ?_; rintro e w5 ⟨z5, col5, d5, s5, rfl, hR5, hS5, ht5, hg5, hcase⟩))
              have hG5 := RecsAt.hue (F := fun c => c = 8) hGq hS5 (by omega) (by omega)
              have hb5 := hRq.b.trans ((hS5.below hRq.R.hB hRq.R.lo (by omega) (by omega)).mono hz1)
              rcases hcase with ⟨rfl, e2, e3⟩ | ⟨rfl, e2, e3⟩ | ⟨rfl, e2, e3⟩
              · have hq5 := RecsAt.hue (F := fun c => c = 7 ∨ c = 8) hRq.q hS5 (by omega) (by omega)
                have ho5 : ∀ k, u5.ownBlock = some k → k < w5.heap.size ∧ col5 k = 7 := fun k hk => ⟨Nat.lt_of_lt_of_le (hRq.q.lt k hk) hS5.chg.size, (hS5.old k (hRq.q.lt k hk)).trans (hRq.o k hk)⟩
                obtain ⟨g5, cap', C', cc', hve', l0, l1, hO', -, -⟩ := hG5.loads hlm
                cases hve'
                rw [← hr.out] at l0 l1 hO'
                have BX : Below w5.heap.size w5 (w5.alloc (.cells #[.int .i64 r.1, .slice C' r.2.length cc'] 50)) := (Below.refl _ _).alloc (Nat.le_refl _) _
                have one := RecsAt.one (T := 50) (k := r.1) hO'
                have hrl := length_usedOf s'.recs
                have hrl2 := hRq.R.I.fits
                have hrl3 : halfOf 120 = 59 := rfl
                obtain ⟨v6, w6, hr6, R6, hg6, o6⟩ := run_append_recs (P := Tryd.prog) (t := 44) (by decide) Tryd.underlying44 info_rec 44 (hq5.below BX) one (by have : ([(r.1, r.2)] : List (Int × List UInt8)).length = 1 := rfl; omega)
                have hown : ∀ k, u5.ownBlock = some k → dye w5 col5 7 k = 7 := fun k hk => (dye_old (ho5 k hk).1).trans (ho5 k hk).2
                have hR6 := (hR5.below (col' := dye w5 col5 7) BX (fun k hk => dye_old hk)).grown (col' := dye w5 col5 7) hg6 hown (fun _ _ => rfl)
                have hG6 := RecsAt.hueg (F := fun c => c = 8) (col' := dye w5 col5 7) (RecsAt.hueb (F := fun c => c = 8) (col' := dye w5 col5 7) hG5 BX (fun k hk => dye_old hk)) hg6 (fun k hk => by have := hown k hk; omega) (fun _ _ => rfl)
                have hbx := hb5.trans (BX.mono hb5.size)
                have hb6 : Below w.heap.size w w6 := hbx.trans (below_grown hg6 (B := w.heap.size) (fun k hk => by
                  have h7 := hown k hk
                  by_cases hkb : k < w1.heap.size
                  · have := hR6.lo k hkb; omega
                  · omega) hbx.size)
                have hRd6 : Rd w1.heap.size ga gl w v6 (2 + 2000 * j + 40 * (m + 1)) (1 + j) w6 (dye w5 col5 7) d5 s5 := by
                  refine ⟨hR6, ?_, fun k hk => ?_, hb6, by omega, by omega⟩
                  · rw [e2]
                    refine R6.mono (fun k hk hz => ?_)
                    have hzx := BX.size
                    by_cases hkl : k < w5.heap.size
                    · rw [dye_old hkl]; omega
                    · rw [dye_new (by omega)]; omega
                  · rcases o6 with h6 | h6
                    · rw [h6] at hk; exact hown k hk
                    · rw [h6] at hk
                      have := Option.some.inj hk
                      have hzx := BX.size
                      exact dye_new (by omega)
                clear R6 hg6 o6 one BX hO' hR6 hq5 hb6 hbx hO hR5 hS5 HA
                go_wp2_with (first
                  | (at_builtin; refine wpList_builtin (o := ⟨some 85, _, _, _, _, _⟩) rfl (.tmp 79) (.tmp 84) rfl rfl rfl hr6 ?_)
                  | (go_at_call 10; refine (hN0 _).mono ?_; rintro e w99 ⟨rfl, rfl⟩)
                  | (go_at_call 10; refine (hN4 _).mono ?_; rintro e w99 ⟨rfl, rfl⟩)
                  | (go_at_call 10; refine (hN50 _).mono ?_; rintro e w99 ⟨rfl, rfl⟩))
                go_roundw
                case rel => exact ⟨m + 1, hlm, by go_num, dye w5 col5 7, d5, s5, by omega, hRd6, hG6⟩
                case measure => simp [intOf]; omega
              · go_wp2_with (first
                  | (go_at_call 10; refine (hN0 _).mono ?_; rintro e w99 ⟨rfl, rfl⟩)
                  | (go_at_call 10; refine (hN4 _).mono ?_; rintro e w99 ⟨rfl, rfl⟩)
                  | (go_at_call 10; refine (hN50 _).mono ?_; rintro e w99 ⟨rfl, rfl⟩))
                go_roundw
                case rel => exact ⟨m + 1, hlm, by go_num, col5, d5, s5, by omega, hRq.step hz1 hS5 hR5 e2 (by omega) (by omega), hG5⟩
                case measure => simp [intOf]; omega
              · go_wp2_with (first
                  | (go_at_call 10; refine (hN0 _).mono ?_; rintro e w99 ⟨rfl, rfl⟩)
                  | (go_at_call 10; refine (hN4 _).mono ?_; rintro e w99 ⟨rfl, rfl⟩)
                  | (go_at_call 10; refine (hN50 _).mono ?_; rintro e w99 ⟨rfl, rfl⟩))
                go_roundw
                case rel => exact ⟨m + 1, hlm, by go_num, col5, d5, s5, by omega, hRq.step hz1 hS5 hR5 e2 (by omega) (by omega), hG5⟩
                case measure => simp [intOf]; omega
            · have hge8 : Value.int .i64 ((s.gen : Nat) : Int) = .int .i64 ((s'.gen : Nat) : Int) := by rw [hgn]
              have hRd8 : Rd w1.heap.size ga gl w u5 (2 + 2000 * j + 40 * m) (1 + j) wr col d s' := hRq
              clear hGq hRq
              cases hdn8 : d.down with
              | true =>
                obtain ⟨vP8, hP8⟩ := hRd8.R.P
                have hMd := mend_in 120 wr col ga d hP8.D
                have hI8 := hRd8.R.I
                have hlo8 := hRd8.R.lo
                have h8B := hRd8.R.hB
                have ht8 := hlow hRd8
                have hOp : ∀ x colx, Step 1 3 col wr x colx → PIn x colx ga 120 { d with armed := -1, down := false } → Calls Tryd.prog 13 #[.pointer (some ⟨ga, 0, none⟩)] x (fun e w' => ∃ glx, e = .returned (.tuple #[.pointer (some ⟨glx, 0, none⟩), .int .i64 0]) ∧ Run w1.heap.size 120 w' (dye x colx 3) ga glx { d with armed := -1, down := false } ⟨s'.gen, s'.recs, false⟩ ∧ Below x.heap.size x w') := fun x colx hs hp =>
                  open_in w1.heap.size 120 x colx ga _ s' hp rfl (hI8.other rfl rfl rfl) (ht8.chg hs.chg (by show ¬ (col _ = 1 ∨ col _ = 3); rw [hlo8 _ (by omega)]; omega)) (fun k hk => (hs.old k (by omega)).trans (hlo8 k hk)) (by have := hs.chg.size; omega)
                have hDn8 : Calls Tryd.prog 27 #[.pointer (some ⟨ga, 0, none⟩)] wr (Says (.bool true) wr) := by
                  obtain ⟨sv, tv, hD, -⟩ := hP8.D
                  have := down_walk wr ga 120 sv tv d hD
                  rwa [hdn8] at this
                have hWr8 : Calls Tryd.prog 17 #[.pointer (some ⟨ga, 0, none⟩)] wr (Says (.int .i64 (d.trail.length : Nat)) wr) := by
                  obtain ⟨sv, tv, hD, -⟩ := hP8.D
                  exact writes_walk wr ga 120 sv tv d hD
                have k8 := hkind hRd8.b
                have hgb8 := hRd8.gn
                have hne8 : ((d.trail.length : Int) != (d.trail.length : Int)) = false := by simp
                go_upto_region 35 with (first
                  | (go_at_call 13; go_must (refine (hOp w9 col9 hS9 hP9).mono ?_; rintro e w10 ⟨gl10, rfl, hR10, hB10⟩))
                  | (go_at_call 25; go_must (refine hMd.mono ?_; rintro e w9 ⟨col9, rfl, hP9, hS9⟩))
                  | (go_at_call 17; refine hWr8.mono ?_; rintro e w99 ⟨rfl, rfl⟩)
                  | (go_at_call 27; refine hDn8.mono ?_; rintro e w99 ⟨rfl, rfl⟩)
                  | (go_at_call 10; refine (hN0 _).mono ?_; rintro e w99 ⟨rfl, rfl⟩)
                  | (go_at_call 10; refine (hN4 _).mono ?_; rintro e w99 ⟨rfl, rfl⟩)
                  | (go_at_call 10; refine (hN50 _).mono ?_; rintro e w99 ⟨rfl, rfl⟩))
                have hRd10 : Rd w1.heap.size ga gl10 w u5 (2 + 2000 * (j + 1)) (1 + (j + 1)) w10 (dye w9 col9 3) { d with armed := -1, down := false } ⟨s'.gen, s'.recs, false⟩ := by
                  have hb9 := hRd8.b.trans ((hS9.below h8B hlo8 (by omega) (by omega)).mono hz1)
                  have hq9 := RecsAt.hue (F := fun c => c = 7 ∨ c = 8) hRd8.q hS9 (by omega) (by omega)
                  exact ⟨hR10, RecsAt.hueb (F := fun c => c = 7 ∨ c = 8) hq9 hB10 (fun k hk => dye_old hk), fun k hk => (dye_old (hq9.lt k hk)).trans ((hS9.old k (hRd8.q.lt k hk)).trans (hRd8.o k hk)), hb9.trans (hB10.mono hb9.size), by have := hRd8.tr; show d.trail.length ≤ _; omega, by show s'.gen ≤ _; omega⟩
                have hWr10 : Calls Tryd.prog 17 #[.pointer (some ⟨ga, 0, none⟩)] w10 (Says (.int .i64 (d.trail.length : Nat)) w10) := by
                  obtain ⟨v, hP⟩ := hRd10.R.P
                  obtain ⟨sv, tv, hD, -⟩ := hP.D
                  exact writes_walk w10 ga 120 sv tv { d with armed := -1, down := false } hD
                clear hOp hMd hWr8 hDn8 hP8 hP9 hS9 hR10 hB10 hI8 hlo8 ht8
                generalize hs10 : (⟨s'.gen, s'.recs, false⟩ : LS) = s10 at *
                have hgs10 : s10.gen = s'.gen := by rw [← hs10]
                generalize hd10 : ({ d with armed := -1, down := false } : DS) = d10 at *
                have hdn10 : d10.down = false := by rw [← hd10]
                generalize dye w9 col9 3 = col10 at *

                have hCmp : Calls Tryd.prog 22 #[.pointer (some ⟨gl10, 0, none⟩)] w10 (fun e w' => ∃ A c, e = .returned (.slice A s10.recs.length c) ∧ Below w10.heap.size w10 w' ∧ Calls Tryd.prog 26 #[.slice A s10.recs.length c, u5] w' (fun e w'' => e = .returned (.bool true) ∧ Below w'.heap.size w' w'')) := by
                  have hfit := length_usedOf s10.recs
                  have hfit2 := hRd10.R.I.fits
                  have hfit3 : halfOf 120 = 59 := rfl
                  refine (run_recs hRd10.R (by omega)).mono ?_
                  rintro e w' ⟨v, rfl, hQ, hB⟩
                  obtain ⟨A, c, rfl⟩ := hQ.slice
                  have hq := hRd10.q.below hB
                  obtain ⟨Aq, cq, hvq⟩ := hq.slice
                  rw [hvq] at hq ⊢
                  exact ⟨A, c, rfl, hB, sameRecs_rd w' A Aq c cq s10.recs hQ.r hq.r (by omega)⟩
                have hGn : ∀ y, Below w10.heap.size w10 y → Calls Tryd.prog 28 #[.pointer (some ⟨gl10, 0, none⟩)] y (Says (.int .i64 (s10.gen : Nat)) y) := fun y hy => by
                  obtain ⟨v, hP⟩ := (hRd10.R.below (col' := col10) hy (fun _ _ => rfl)).P
                  exact gen_walk y _ gl10 ga v s10 hP.L

                rw [hgs10] at hGn
                go_wp2_with (first
                  | (go_at_call 28; go_must (refine (hGn w12 hB1012).mono ?_; rintro e w99 ⟨rfl, rfl⟩))
                  | (go_at_call 26; go_must (refine hSR.mono ?_; rintro e w12 ⟨rfl, hB12⟩; have hB1012 := hB11.trans (hB12.mono hB11.size)))
                  | (go_at_call 22; go_must (refine hCmp.mono ?_; rintro e w11 ⟨A11, c11, rfl, hB11, hSR⟩))
                  | (go_at_call 17; refine hWr10.mono ?_; rintro e w99 ⟨rfl, rfl⟩)
                  | (go_at_call 10; refine (hN0 _).mono ?_; rintro e w99 ⟨rfl, rfl⟩)
                  | (go_at_call 10; refine (hN4 _).mono ?_; rintro e w99 ⟨rfl, rfl⟩)
                  | (go_at_call 10; refine (hN50 _).mono ?_; rintro e w99 ⟨rfl, rfl⟩))
                go_roundw
                case rel => exact ⟨j + 1, hlt, by go_num, gl10, col10, d10, s10, rfl, (by first | (rw [hgs10]; exact hge8) | rw [hgs10] | rfl), hdn10, hRd10.below hB1012 (fun _ _ => rfl)⟩
                case measure => simp [intOf]; omega
              | false =>
                by_cases hk1 : ak = 1
                · subst hk1
                  obtain ⟨vP8, hP8⟩ := hRd8.R.P
                  have hMd := mend_in 120 wr col ga d hP8.D
                  have hI8 := hRd8.R.I
                  have hlo8 := hRd8.R.lo
                  have h8B := hRd8.R.hB
                  have ht8 := hlow hRd8
                  have hOp : ∀ x colx, Step 1 3 col wr x colx → PIn x colx ga 120 { d with armed := -1, down := false } → Calls Tryd.prog 13 #[.pointer (some ⟨ga, 0, none⟩)] x (fun e w' => ∃ glx, e = .returned (.tuple #[.pointer (some ⟨glx, 0, none⟩), .int .i64 0]) ∧ Run w1.heap.size 120 w' (dye x colx 3) ga glx { d with armed := -1, down := false } ⟨s'.gen, s'.recs, false⟩ ∧ Below x.heap.size x w') := fun x colx hs hp =>
                    open_in w1.heap.size 120 x colx ga _ s' hp rfl (hI8.other rfl rfl rfl) (ht8.chg hs.chg (by show ¬ (col _ = 1 ∨ col _ = 3); rw [hlo8 _ (by omega)]; omega)) (fun k hk => (hs.old k (by omega)).trans (hlo8 k hk)) (by have := hs.chg.size; omega)
                  have hDn8 : Calls Tryd.prog 27 #[.pointer (some ⟨ga, 0, none⟩)] wr (Says (.bool false) wr) := by
                    obtain ⟨sv, tv, hD, -⟩ := hP8.D
                    have := down_walk wr ga 120 sv tv d hD
                    rwa [hdn8] at this
                  have hWr8 : Calls Tryd.prog 17 #[.pointer (some ⟨ga, 0, none⟩)] wr (Says (.int .i64 (d.trail.length : Nat)) wr) := by
                    obtain ⟨sv, tv, hD, -⟩ := hP8.D
                    exact writes_walk wr ga 120 sv tv d hD
                  have k8 := hkind hRd8.b
                  have hgb8 := hRd8.gn
                  have hne8 : ((d.trail.length : Int) != (d.trail.length : Int)) = false := by simp
                  go_upto_region 35 with (first
                    | (go_at_call 13; go_must (refine (hOp w9 col9 hS9 hP9).mono ?_; rintro e w10 ⟨gl10, rfl, hR10, hB10⟩))
                    | (go_at_call 25; go_must (refine hMd.mono ?_; rintro e w9 ⟨col9, rfl, hP9, hS9⟩))
                    | (go_at_call 17; refine hWr8.mono ?_; rintro e w99 ⟨rfl, rfl⟩)
                    | (go_at_call 27; refine hDn8.mono ?_; rintro e w99 ⟨rfl, rfl⟩)
                    | (go_at_call 10; refine (hN0 _).mono ?_; rintro e w99 ⟨rfl, rfl⟩)
                    | (go_at_call 10; refine (hN4 _).mono ?_; rintro e w99 ⟨rfl, rfl⟩)
                    | (go_at_call 10; refine (hN50 _).mono ?_; rintro e w99 ⟨rfl, rfl⟩))
                  have hRd10 : Rd w1.heap.size ga gl10 w u5 (2 + 2000 * (j + 1)) (1 + (j + 1)) w10 (dye w9 col9 3) { d with armed := -1, down := false } ⟨s'.gen, s'.recs, false⟩ := by
                    have hb9 := hRd8.b.trans ((hS9.below h8B hlo8 (by omega) (by omega)).mono hz1)
                    have hq9 := RecsAt.hue (F := fun c => c = 7 ∨ c = 8) hRd8.q hS9 (by omega) (by omega)
                    exact ⟨hR10, RecsAt.hueb (F := fun c => c = 7 ∨ c = 8) hq9 hB10 (fun k hk => dye_old hk), fun k hk => (dye_old (hq9.lt k hk)).trans ((hS9.old k (hRd8.q.lt k hk)).trans (hRd8.o k hk)), hb9.trans (hB10.mono hb9.size), by have := hRd8.tr; show d.trail.length ≤ _; omega, by show s'.gen ≤ _; omega⟩
                  have hWr10 : Calls Tryd.prog 17 #[.pointer (some ⟨ga, 0, none⟩)] w10 (Says (.int .i64 (d.trail.length : Nat)) w10) := by
                    obtain ⟨v, hP⟩ := hRd10.R.P
                    obtain ⟨sv, tv, hD, -⟩ := hP.D
                    exact writes_walk w10 ga 120 sv tv { d with armed := -1, down := false } hD
                  clear hOp hMd hWr8 hDn8 hP8 hP9 hS9 hR10 hB10 hI8 hlo8 ht8
                  generalize hs10 : (⟨s'.gen, s'.recs, false⟩ : LS) = s10 at *
                  have hgs10 : s10.gen = s'.gen := by rw [← hs10]
                  generalize hd10 : ({ d with armed := -1, down := false } : DS) = d10 at *
                  have hdn10 : d10.down = false := by rw [← hd10]
                  generalize dye w9 col9 3 = col10 at *

                  have hCmp : Calls Tryd.prog 22 #[.pointer (some ⟨gl10, 0, none⟩)] w10 (fun e w' => ∃ A c, e = .returned (.slice A s10.recs.length c) ∧ Below w10.heap.size w10 w' ∧ Calls Tryd.prog 26 #[.slice A s10.recs.length c, u5] w' (fun e w'' => e = .returned (.bool true) ∧ Below w'.heap.size w' w'')) := by
                    have hfit := length_usedOf s10.recs
                    have hfit2 := hRd10.R.I.fits
                    have hfit3 : halfOf 120 = 59 := rfl
                    refine (run_recs hRd10.R (by omega)).mono ?_
                    rintro e w' ⟨v, rfl, hQ, hB⟩
                    obtain ⟨A, c, rfl⟩ := hQ.slice
                    have hq := hRd10.q.below hB
                    obtain ⟨Aq, cq, hvq⟩ := hq.slice
                    rw [hvq] at hq ⊢
                    exact ⟨A, c, rfl, hB, sameRecs_rd w' A Aq c cq s10.recs hQ.r hq.r (by omega)⟩
                  have hGn : ∀ y, Below w10.heap.size w10 y → Calls Tryd.prog 28 #[.pointer (some ⟨gl10, 0, none⟩)] y (Says (.int .i64 (s10.gen : Nat)) y) := fun y hy => by
                    obtain ⟨v, hP⟩ := (hRd10.R.below (col' := col10) hy (fun _ _ => rfl)).P
                    exact gen_walk y _ gl10 ga v s10 hP.L

                  rw [hgs10] at hGn
                  go_wp2_with (first
                    | (go_at_call 28; go_must (refine (hGn w12 hB1012).mono ?_; rintro e w99 ⟨rfl, rfl⟩))
                    | (go_at_call 26; go_must (refine hSR.mono ?_; rintro e w12 ⟨rfl, hB12⟩; have hB1012 := hB11.trans (hB12.mono hB11.size)))
                    | (go_at_call 22; go_must (refine hCmp.mono ?_; rintro e w11 ⟨A11, c11, rfl, hB11, hSR⟩))
                    | (go_at_call 17; refine hWr10.mono ?_; rintro e w99 ⟨rfl, rfl⟩)
                    | (go_at_call 10; refine (hN0 _).mono ?_; rintro e w99 ⟨rfl, rfl⟩)
                    | (go_at_call 10; refine (hN4 _).mono ?_; rintro e w99 ⟨rfl, rfl⟩)
                    | (go_at_call 10; refine (hN50 _).mono ?_; rintro e w99 ⟨rfl, rfl⟩))
                  go_roundw
                  case rel => exact ⟨j + 1, hlt, by go_num, gl10, col10, d10, s10, rfl, (by first | (rw [hgs10]; exact hge8) | rw [hgs10] | rfl), hdn10, hRd10.below hB1012 (fun _ _ => rfl)⟩
                  case measure => simp [intOf]; omega
                · have hk1b : (ak == 1) = false := by rw [beq_eq_false_iff_ne]; exact hk1
                  have hCmp : Calls Tryd.prog 22 #[.pointer (some ⟨gl, 0, none⟩)] wr (fun e w' => ∃ A c, e = .returned (.slice A s'.recs.length c) ∧ Below wr.heap.size wr w' ∧ Calls Tryd.prog 26 #[.slice A s'.recs.length c, u5] w' (fun e w'' => e = .returned (.bool true) ∧ Below w'.heap.size w' w'')) := by
                    have hfit := length_usedOf s'.recs
                    have hfit2 := hRd8.R.I.fits
                    have hfit3 : halfOf 120 = 59 := rfl
                    refine (run_recs hRd8.R (by omega)).mono ?_
                    rintro e w' ⟨v, rfl, hQ, hB⟩
                    obtain ⟨A, c, rfl⟩ := hQ.slice
                    have hq := hRd8.q.below hB
                    obtain ⟨Aq, cq, hvq⟩ := hq.slice
                    rw [hvq] at hq ⊢
                    exact ⟨A, c, rfl, hB, sameRecs_rd w' A Aq c cq s'.recs hQ.r hq.r (by omega)⟩
                  have hGn : ∀ y, Below wr.heap.size wr y → Calls Tryd.prog 28 #[.pointer (some ⟨gl, 0, none⟩)] y (Says (.int .i64 (s'.gen : Nat)) y) := fun y hy => by
                    obtain ⟨v, hP⟩ := (hRd8.R.below (col' := col) hy (fun _ _ => rfl)).P
                    exact gen_walk y _ gl ga v s' hP.L

                  have hDn8 : Calls Tryd.prog 27 #[.pointer (some ⟨ga, 0, none⟩)] wr (Says (.bool false) wr) := by
                    obtain ⟨v, hP⟩ := hRd8.R.P
                    obtain ⟨sv, tv, hD, -⟩ := hP.D
                    have := down_walk wr ga 120 sv tv d hD
                    rwa [hdn8] at this
                  have k8 := hkind hRd8.b
                  have hgb8 := hRd8.gn
                  go_wp2_with (first
                    | (go_at_call 28; go_must (refine (hGn w10 hB810).mono ?_; rintro e w99 ⟨rfl, rfl⟩))
                    | (go_at_call 26; go_must (refine hSR.mono ?_; rintro e w10 ⟨rfl, hB10⟩; have hB810 := hB9.trans (hB10.mono hB9.size)))
                    | (go_at_call 22; go_must (refine hCmp.mono ?_; rintro e w9 ⟨A9, c9, rfl, hB9, hSR⟩))
                    | (go_at_call 27; go_must (refine hDn8.mono ?_; rintro e w99 ⟨rfl, rfl⟩))
                    | (go_at_call 10; refine (hN0 _).mono ?_; rintro e w99 ⟨rfl, rfl⟩)
                    | (go_at_call 10; refine (hN4 _).mono ?_; rintro e w99 ⟨rfl, rfl⟩)
                    | (go_at_call 10; refine (hN50 _).mono ?_; rintro e w99 ⟨rfl, rfl⟩))
                  go_roundw
                  case rel => exact ⟨j + 1, hlt, by go_num, gl, col, d, s', rfl, (by first | exact hge8 | rfl), hdn8, ⟨(hRd8.below (col' := col) hB810 (fun _ _ => rfl)).R, (hRd8.below (col' := col) hB810 (fun _ _ => rfl)).q, hRd8.o, (hRd8.below (col' := col) hB810 (fun _ _ => rfl)).b, by have := hRd8.tr; omega, by omega⟩⟩
                  case measure => simp [intOf]; omega
    · have hltz : ¬ (j : Int) < (l.length : Int) := by omega
      have hnum : ∀ x z, 0 ≤ z → z ≤ 50 → Calls Tryd.prog 10 #[.int .i64 z] x (Says (.int .i64 z) x) := fun x z h0 h1 => num_walk x z (by omega) (by omega)
      have hN0 := fun x => hnum x 0 (by omega) (by omega)
      have hN4 := fun x => hnum x 4 (by omega) (by omega)
      have hN50 := fun x => hnum x 50 (by omega) (by omega)
      clear hnum

      obtain ⟨vP8, hP8⟩ := hRd.R.P
      have hMd := mend_in 120 wr col ga d hP8.D
      have hI8 := hRd.R.I
      have hlo8 := hRd.R.lo
      have h8B := hRd.R.hB
      have ht8 := hlow hRd
      have hOp : ∀ x colx, Step 1 3 col wr x colx → PIn x colx ga 120 { d with armed := -1, down := false } → Calls Tryd.prog 13 #[.pointer (some ⟨ga, 0, none⟩)] x (fun e w' => ∃ glx, e = .returned (.tuple #[.pointer (some ⟨glx, 0, none⟩), .int .i64 0]) ∧ Run w1.heap.size 120 w' (dye x colx 3) ga glx { d with armed := -1, down := false } ⟨s.gen, s.recs, false⟩ ∧ Below x.heap.size x w') := fun x colx hs hp =>
        open_in w1.heap.size 120 x colx ga _ s hp rfl (hI8.other rfl rfl rfl) (ht8.chg hs.chg (by show ¬ (col _ = 1 ∨ col _ = 3); rw [hlo8 _ (by omega)]; omega)) (fun k hk => (hs.old k (by omega)).trans (hlo8 k hk)) (by have := hs.chg.size; omega)
      go_upto_region 42 with (first
        | (go_at_call 13; go_must (refine (hOp w9 col9 hS9 hP9).mono ?_; rintro e w10 ⟨gl10, rfl, hR10, hB10⟩))
        | (go_at_call 25; go_must (refine hMd.mono ?_; rintro e w9 ⟨col9, rfl, hP9, hS9⟩)))
      have hRd10 : Rd w1.heap.size ga gl10 w u5 (2 + 2000 * j) (1 + j) w10 (dye w9 col9 3) { d with armed := -1, down := false } ⟨s.gen, s.recs, false⟩ := by
        have hb9 := hRd.b.trans ((hS9.below h8B hlo8 (by omega) (by omega)).mono hz1)
        have hq9 := RecsAt.hue (F := fun c => c = 7 ∨ c = 8) hRd.q hS9 (by omega) (by omega)
        exact ⟨hR10, RecsAt.hueb (F := fun c => c = 7 ∨ c = 8) hq9 hB10 (fun k hk => dye_old hk), fun k hk => (dye_old (hq9.lt k hk)).trans ((hS9.old k (hRd.q.lt k hk)).trans (hRd.o k hk)), hb9.trans (hB10.mono hb9.size), hRd.tr, hRd.gn⟩
      clear hOp hMd hP8 hP9 hS9 hR10 hB10 hI8 hlo8 ht8 hRd
      generalize hs10 : (⟨s.gen, s.recs, false⟩ : LS) = s10 at *
      have hgs10 : s10.gen = s.gen := by rw [← hs10]
      generalize ({ d with armed := -1, down := false } : DS) = d10 at *
      generalize dye w9 col9 3 = col10 at *

      have hCmp : Calls Tryd.prog 22 #[.pointer (some ⟨gl10, 0, none⟩)] w10 (fun e w' => ∃ A c, e = .returned (.slice A s10.recs.length c) ∧ Below w10.heap.size w10 w' ∧ Calls Tryd.prog 26 #[.slice A s10.recs.length c, u5] w' (fun e w'' => e = .returned (.bool true) ∧ Below w'.heap.size w' w'')) := by
        have hfit := length_usedOf s10.recs
        have hfit2 := hRd10.R.I.fits
        have hfit3 : halfOf 120 = 59 := rfl
        refine (run_recs hRd10.R (by omega)).mono ?_
        rintro e w' ⟨v, rfl, hQ, hB⟩
        obtain ⟨A, c, rfl⟩ := hQ.slice
        have hq := hRd10.q.below hB
        obtain ⟨Aq, cq, hvq⟩ := hq.slice
        rw [hvq] at hq ⊢
        exact ⟨A, c, rfl, hB, sameRecs_rd w' A Aq c cq s10.recs hQ.r hq.r (by omega)⟩
      have hGn : ∀ y, Below w10.heap.size w10 y → Calls Tryd.prog 28 #[.pointer (some ⟨gl10, 0, none⟩)] y (Says (.int .i64 (s10.gen : Nat)) y) := fun y hy => by
        obtain ⟨v, hP⟩ := (hRd10.R.below (col' := col10) hy (fun _ _ => rfl)).P
        exact gen_walk y _ gl10 ga v s10 hP.L

      rw [hgs10] at hGn
      go_wp2_with (first
        | (go_at_call 28; go_must (refine (hGn w12 hB1012).mono ?_; rintro e w99 ⟨rfl, rfl⟩))
        | (go_at_call 26; go_must (refine hSR.mono ?_; rintro e w12 ⟨rfl, hB12⟩; have hB1012 := hB11.trans (hB12.mono hB11.size)))
        | (go_at_call 22; go_must (refine hCmp.mono ?_; rintro e w11 ⟨A11, c11, rfl, hB11, hSR⟩))
        | (go_at_call 10; refine (hN0 _).mono ?_; rintro e w99 ⟨rfl, rfl⟩)
        | (go_at_call 10; refine (hN4 _).mono ?_; rintro e w99 ⟨rfl, rfl⟩)
        | (go_at_call 10; refine (hN50 _).mono ?_; rintro e w99 ⟨rfl, rfl⟩))
      go_ret
      exact ⟨rfl, hRd10.b.trans (hB1012.mono hRd10.b.size)⟩
end Go.Proofs.YtggogenhakdhiaaDoor
end
section
set_option maxRecDepth 20000
set_option linter.unusedVariables false
set_option linter.unusedSimpArgs false
namespace Go.Proofs.YtggogenhakdhiaaDoor.lawWalRuns
open Go.ChangeShapes Go.WideShapes Go.ChangeAt Go.RowKit

set_option maxRecDepth 100000 in
theorem contract (H : Type) (enc : TypeId × Value → H) (W : World) (base : Nat) (args : Array Value) (ds gs : List (DataW H)) (before : List MemPlace)
    (hval : ∀ (j : Nat) t v, Tryd.f5.params[j]? = some t → args[j]? = some v → Value.okWide Tryd.prog W .any base t v)
    (hW : DataW.Whole enc Tryd.prog Tryd.f5.params.toList Rows.walRunsSpec.vars false W args.toList ds gs before)
    (hsz : (DataW.weightsEach Tryd.prog (Tryd.f5.params.toList ++ []) (ds ++ gs)).all (· ≤ reachBytes) = true)
    (hL : laidMetH Tryd.prog Rows.walRunsRow.laid W) :
    Calls Tryd.prog 5 args W fun e W' => ∃ v, e = .returned v ∧ Rows.walRunsSpec.post enc Tryd.prog Tryd.f5 false true false false W args v W' := by
  have hW' := hW
  obtain ⟨p, q, hA0, hV, _, _, _⟩ := hW
  have hA : DataW.TrodAll enc Tryd.prog W 0 (fun _ => true) true Tryd.f5.params.toList args.toList ds p := hA0
  rw [Tryd.params5] at hA hval hsz
  obtain ⟨v0, vs0, d0, ds0, p0, q0, hargs0, rfl, _, h0, r0⟩ := trodAll_cons hA
  obtain ⟨rfl, rfl, _⟩ := trodAll_nil r0
  obtain rfl : args = #[v0] := by cases args; simp_all
  obtain ⟨rfl, _⟩ := trodVars_none hV
  obtain ⟨A0, c0, l0, rfl, hlc0, hm0, hl0, hn0, _, _⟩ := acts_in (hval 0 56 v0 rfl rfl) h0
  have hT := tab_of_laid hL
  have htb := World.block_lt_of_cell? W _ (hT 0 (by omega))
  refine (runs_walk W A0 c0 l0 hl0 hlc0 hm0 (fun a ha => (hn0 a ha).2.2) hT htb).mono fun e W' h => ?_
  refine law_post hW' ?_ rfl rfl rfl h
  rw [Tryd.params5]
  intro t ht
  simp only [List.mem_cons, List.not_mem_nil, or_false] at ht
  rcases ht with rfl <;> exact ⟨by kernel_rfl, of_decide_eq_true (by kernel_rfl)⟩

theorem reads (os : Os) {H : Type} (enc : TypeId × Value → H) : ∃ places, DataW.whole enc Tryd.prog ((laidWorld os).forCall (fun _ _ => 0) ⟨#[], #[Value.slice none 0 0], []⟩).memory Tryd.f5.params.toList Rows.walRunsSpec.vars false #[Value.slice none 0 0].toList 8 = some ([.nil], [], places) :=
  ⟨[], by kernel_rfl⟩

set_option maxRecDepth 100000 in
theorem lifted (os : Os) (started : os.Started) (H : Type) (enc : TypeId × Value → H) (F : Stop.Interp) :
    ReturnsInHanded {} Tryd.checked os 5 .any ((OpenSpec.ofChange Rows.walRunsSpec).preRow enc Tryd.prog Tryd.f5 Rows.walRunsRow.domain false Rows.walRunsRow.laid) (((OpenSpec.ofChange Rows.walRunsSpec).at F).post enc Tryd.prog Tryd.f5 false true false false) := by
  obtain ⟨places, hx⟩ := reads os enc
  refine returnsInHanded_of_row (C := Tryd.checked) (s := OpenSpec.ofChange Rows.walRunsSpec) own_knob started (by kernel_rfl) Tryd.func5
    (witness_row_at (enc := enc) (C := Tryd.checked) false (laidWorld os) #[Value.slice none 0 0] rfl (by kernel_rfl) (by kernel_rfl) (by kernel_rfl)
      (OpenSpec.preRow_of_cond 8 hx (by kernel_rfl) (fun k hk => by cases hk) (by kernel_rfl) (laid_met os _))) ?_
  intro W base args ds gs before hval hW _ _ hsz hL _ _
  exact contract H enc W base args ds gs before hval hW hsz hL

theorem said : Rows.WalRunsSaid :=
  OpenClaim.holds_of_cond 5 Tryd.f5 rfl rfl rfl rfl rfl rfl rfl ⟨rfl, rfl, rfl, rfl, rfl⟩ rfl rfl rfl rfl rfl (by kernel_rfl) Tryd.func5 (by kernel_rfl)
    (of_decide_eq_true (by kernel_rfl)) (by unfold Func.isWrapper; first | (rw [if_pos (by decide +kernel)]; kernel_rfl) | (rw [if_neg (by decide +kernel)]; exact ⟨rfl, rfl⟩))
    (fun os started H enc _ F => by rw [OpenClaim.pre_eq_preRow]; exact lifted os started H enc F)

/-- No parameter wants a stand-in; the program's own looks are off: what the card asks. -/
theorem plain (f : FuncId) (fn : Func) (hf : Tryd.pinned.checked.prog.funcNamed "bursar/bursarlaw06.WalRuns" = some f) (hfn : Tryd.pinned.checked.prog.funcs[f]? = some fn) :
    false = Tryd.pinned.checked.prog.looks [] ∧ ∀ (j : Nat) t, fn.params[j]? = some t → Tryd.pinned.checked.prog.wantsStandIn t = false := by
  obtain rfl : f = 5 := Option.some.inj ((show Tryd.prog.funcNamed "bursar/bursarlaw06.WalRuns" = some 5 by kernel_rfl).symm.trans hf) |>.symm
  obtain rfl : fn = Tryd.f5 := (Option.some.inj (Tryd.func5.symm.trans hfn)).symm
  refine ⟨by kernel_rfl, fun j t ht => ?_⟩
  rw [Tryd.params5] at ht
  have hm := Array.mem_of_getElem? ht
  simp only [List.mem_toArray, List.mem_cons, List.not_mem_nil, or_false] at hm
  rcases hm with rfl
  exact (show Tryd.prog.wantsStandIn 56 = false by kernel_rfl)

theorem card : Rows.WalRunsCardSaid :=
  Claim7.holds_tied_plain_at .later [] _ _ _ _ said (fun _ h => by cases h) (by kernel_rfl) (fun _ h => by cases h) walRuns_row_tie rfl ⟨rfl, rfl⟩ (by kernel_rfl) rfl plain (by kernel_rfl)
end Go.Proofs.YtggogenhakdhiaaDoor.lawWalRuns
end
