/- The document's next, walked. (ahead of it: The document's side: comparing identities; edges that can be read; the memory of far. The document's far, walked.) -/
import Derived.Test.YtdepmcofnlggaaaPkA
import Derived.Test.YtdepmcofnlggaaaPkD
import Derived.Test.YtdepmcofnlggaaaPkE
import Derived.Test.YtdepmcofnlggaaaPResolverCyclesx1
import Derived.Test.YtdepmcofnlggaaaPResolverCyclesx4
import Derived.Deep.DeepCutAuto
import Derived.Deep.CutBlock
import Derived.BigQuiet
section
set_option linter.unusedVariables false
set_option linter.unusedSimpArgs false
namespace Go.Proofs.Ytdepmcofnlggaaa.PResolverCycles
open Go.RowKit Go.Proofs.YtdepmcofnlggaaaW.PrintWords Go.Proofs.YtdepmcofnlggaaaW.PrintLast Go.Proofs.YtdepmcofnlggaaaW.PrintMore
open Classical

theorem id_beq (x y : S24) : (x.f0 == y.f0 && x.f1 == y.f1) = decide (x = y) := by
  by_cases e : x = y
  · subst e; simp
  · rw [decide_eq_false e]
    by_cases h0 : x.f0 = y.f0
    · have h1 : x.f1 ≠ y.f1 := fun h1 => e (id_ext h0 h1)
      simp [h0, h1]
    · simp [h0]
theorem id_equal (x y : S24) (w : World) : (Op.equal 24 (.agg #[.int .i64 x.f0, .int .i64 x.f1]) (.agg #[.int .i64 y.f0, .int .i64 y.f1])).run Try.prog w = .ok (decide (x = y)) w := by
  rw [← id_beq]
  exact eqA24 9998 w x.f0 y.f0 x.f1 y.f1
theorem id_eql (x y : S24) (w : World) : (binOp .eql 24 (.agg #[.int .i64 x.f0, .int .i64 x.f1]) (.agg #[.int .i64 y.f0, .int .i64 y.f1])).run Try.prog w = .ok (.bool (decide (x = y))) w := by
  have h := id_equal x y w
  simp only [binOp]
  simp [h]
theorem id_neq (x y : S24) (w : World) : (binOp .neq 24 (.agg #[.int .i64 x.f0, .int .i64 x.f1]) (.agg #[.int .i64 y.f0, .int .i64 y.f1])).run Try.prog w = .ok (.bool (!decide (x = y))) w := by
  have h := id_equal x y w
  simp only [binOp]
  simp [h]
/-- the document's Compare -/
noncomputable def cmpR (a b : S24) : Int := if ltI a b then -1 else if ltI b a then 1 else 0
theorem cmpR_f (a b : S24) : cmpR a b = if a.f0 < b.f0 then -1 else if b.f0 < a.f0 then 1 else if a.f1 < b.f1 then -1 else if b.f1 < a.f1 then 1 else 0 := by
  unfold cmpR ltI
  repeat' split
  all_goals first | rfl | (exfalso; omega)
set_option maxHeartbeats 1000000 in
set_option maxRecDepth 20000 in
theorem rcompare_grown (a b : S24) (w : World) : Calls Try.prog 39 #[.agg #[.int .i64 a.f0, .int .i64 a.f1], .agg #[.int .i64 b.f0, .int .i64 b.f1]] w fun e w' => e = .returned (.int .i64 (cmpR a b)) ∧ Grown w w' := by
  have hG : Grown w ((w.alloc (.cells #[.int .i64 a.f0, .int .i64 a.f1] 24)).alloc (.cells #[.int .i64 b.f0, .int .i64 b.f1] 24)) := ((Grown.refl w).alloc _).alloc _
  have hx := two_old w (.cells #[.int .i64 a.f0, .int .i64 a.f1] 24) (.cells #[.int .i64 b.f0, .int .i64 b.f1] 24)
  have hy := two_new w (.cells #[.int .i64 a.f0, .int .i64 a.f1] 24) (.cells #[.int .i64 b.f0, .int .i64 b.f1] 24)
  have a0 := blk_cell hx 0
  have a1 := blk_cell hx 1
  have b0 := blk_cell hy 0
  have b1 := blk_cell hy 1
  simp only [List.getElem?_toArray, List.getElem?_cons_zero, List.getElem?_cons_succ] at a0 a1 b0 b1
  clear hx hy
  have hc := cmpR_f a b
  by_cases h1 : a.f0 < b.f0
  · rw [if_pos h1] at hc
    rw [hc]
    clear hc
    go_enter Try.func39, Try.ntmps39
    go_wp2_with fail
    go_ret
    exact ⟨rfl, hG⟩
  · rw [if_neg h1] at hc
    by_cases h2 : b.f0 < a.f0
    · rw [if_pos h2] at hc
      rw [hc]
      clear hc
      go_enter Try.func39, Try.ntmps39
      go_wp2_with fail
      go_ret
      exact ⟨rfl, hG⟩
    · rw [if_neg h2] at hc
      by_cases h3 : a.f1 < b.f1
      · rw [if_pos h3] at hc
        rw [hc]
        clear hc
        go_enter Try.func39, Try.ntmps39
        go_wp2_with fail
        go_ret
        exact ⟨rfl, hG⟩
      · rw [if_neg h3] at hc
        by_cases h4 : b.f1 < a.f1
        · rw [if_pos h4] at hc
          rw [hc]
          clear hc
          go_enter Try.func39, Try.ntmps39
          go_wp2_with fail
          go_ret
          exact ⟨rfl, hG⟩
        · rw [if_neg h4] at hc
          rw [hc]
          clear hc
          go_enter Try.func39, Try.ntmps39
          go_wp2_with fail
          go_ret
          exact ⟨rfl, hG⟩
theorem rcompare_walk (a b : S24) (w : World) : Calls Try.prog 39 #[.agg #[.int .i64 a.f0, .int .i64 a.f1], .agg #[.int .i64 b.f0, .int .i64 b.f1]] w fun e w' => e = .returned (.int .i64 (cmpR a b)) ∧ Below w.heap.size w w' :=
  (rcompare_grown a b w).mono fun _ _ h => ⟨h.1, h.2.below⟩
/-- edges that can be read, at an address that may be nil where there is none -/
def EdgesR (w : World) (A : Option Addr) (l : List S26) : Prop := l ≠ [] → ∃ G O, A = some ⟨G, O, none⟩ ∧ EdgesAt w G O l
theorem EdgesR.below {w w' : World} {A : Option Addr} {l : List S26} (h : EdgesR w A l) (hb : Below w.heap.size w w') : EdgesR w' A l := fun hl => by
  obtain ⟨G, O, e, h1⟩ := h hl
  exact ⟨G, O, e, h1.below hb⟩
/-- the boxed argument, and the map -/
structure FM (w W : World) (fb T : Nat) (to_ : S24) (D : S24 → Option Nat) : Prop where
  below : Below w.heap.size w W
  gf : w.heap.size ≤ fb
  gT : w.heap.size ≤ T
  ne : T ≠ fb
  bT : W.heap[T]? = some (.cells #[.int .i64 to_.f0, .int .i64 to_.f1] 24 (0, 0))
  map : MapIs W fb (farV D)
theorem FM.later {w W W' : World} {fb T : Nat} {to_ : S24} {D : S24 → Option Nat} (h : FM w W fb T to_ D) (hb : Below W.heap.size W W') : FM w W' fb T to_ D :=
  ⟨h.below.trans (hb.mono h.below.size), h.gf, h.gT, h.ne, (hb.block _ (lt_of_block h.bT)).trans h.bT, h.map.below hb⟩
theorem FM.cells {w W : World} {fb T : Nat} {to_ : S24} {D : S24 → Option Nat} (h : FM w W fb T to_ D) : W.cell? ⟨T, 0, none⟩ = some (.int .i64 to_.f0) ∧ W.cell? ⟨T, 1, none⟩ = some (.int .i64 to_.f1) :=
  ⟨by rw [blk_cell h.bT]; rfl, by rw [blk_cell h.bT]; rfl⟩
theorem FM.upd {w W : World} {fb T : Nat} {to_ : S24} {D : S24 → Option Nat} (h : FM w W fb T to_ D) {x : S24} (hx : InId x) (m : Nat) :
    ∃ w', (Instr.mapUpdate 62 (.map (some fb)) (.agg #[.int .i64 x.f0, .int .i64 x.f1]) (.int .i64 (m : Int))).run Try.prog W = .ok () w' ∧ FM w w' fb T to_ (Rc.updF D x m) := by
  obtain ⟨w', r1, r2, r3, r4⟩ := h.map.update (t := 62) (e := 3) Try.underlying62 hx (.int .i64 (m : Int))
  exact ⟨w', r1, pw_below_grown h.below _ h.below.size r3 (fun k hk => by cases hk; exact h.gf), h.gf, h.gT, h.ne, (r3.block _ (lt_of_block h.bT) (fun e => h.ne (by cases e; rfl))).trans h.bT, r2.congr (farV_upd D x m)⟩
theorem fm_start (w : World) (to_ : S24) : FM w ((w.alloc (.cells #[.int .i64 to_.f0, .int .i64 to_.f1] 24)).alloc (.map #[] 0)) (w.heap.size + 1) w.heap.size to_ (fun _ => none) := by
  have s1 : (w.alloc (.cells #[.int .i64 to_.f0, .int .i64 to_.f1] 24)).heap.size = w.heap.size + 1 := by simp
  have hM := MapIs.made (w.alloc (.cells #[.int .i64 to_.f0, .int .i64 to_.f1] 24))
  rw [s1] at hM
  exact ⟨((Below.refl _ w).alloc (Nat.le_refl _) _).alloc (by omega) _, by omega, by omega, by omega, by rw [heap_alloc_old _ _ (by omega)]; exact heap_alloc_new w _, hM.congr fun a => rfl⟩
end Go.Proofs.Ytdepmcofnlggaaa.PResolverCycles
end
section
set_option linter.unusedVariables false
set_option linter.unusedSimpArgs false
attribute [local go_sem ↓] Go.wp_at_zero Go.wp_at_succ
namespace Go.Proofs.Ytdepmcofnlggaaa.PResolverCycles
open Go.RowKit Go.Proofs.YtdepmcofnlggaaaW.PrintWords Go.Proofs.YtdepmcofnlggaaaW.PrintLast Go.Proofs.YtdepmcofnlggaaaW.PrintMore
open Classical

theorem cmpR_ge (a b : S24) : (0 ≤ cmpR a b) ↔ ¬ ltI a b := by
  unfold cmpR
  by_cases h : ltI a b
  · simp [h]
  · by_cases h2 : ltI b a <;> simp [h, h2]
theorem take_pair (l : List S26) (i : Nat) (h : i < l.length) : (edgesOf l).take (i + 1) = (edgesOf l).take i ++ [(l[i].f1, l[i].f2)] := by
  unfold edgesOf
  rw [List.take_add_one, List.getElem?_eq_getElem (by simpa using h)]
  simp
set_option maxHeartbeats 4000000 in
set_option maxRecDepth 20000 in
theorem far_walk (w : World) (A : Option Addr) (c : Nat) (l : List S26) (hE : EdgesR w A l) (to_ : S24) (hto : InId to_) (hm : l.length ≤ 1000) (hin : ∀ e ∈ l, InId e.f1 ∧ InId e.f2) :
    Calls Try.prog 32 #[.slice A l.length c, idV to_] w fun e w' => ∃ fb, e = .returned (.map (some fb)) ∧ MapIs w' fb (farV (Rc.farR ltI (edgesOf l) to_)) ∧ Below w.heap.size w w' := by
  have hS := fm_start w to_
  obtain ⟨nl, hnl⟩ : ∃ n, n = l.length := ⟨_, rfl⟩
  have hEl : (edgesOf l).length = nl := by rw [edges_len, hnl]
  rw [← hnl] at hm ⊢
  have hz : (w.alloc (.cells #[.int .i64 to_.f0, .int .i64 to_.f1] 24)).heap.size = w.heap.size + 1 := by simp
  have hmk : (Instr.makeMap 62 none).run Try.prog (w.alloc (.cells #[.int .i64 to_.f0, .int .i64 to_.f1] 24)) = .ok (.map (some (w.heap.size + 1))) ((w.alloc (.cells #[.int .i64 to_.f0, .int .i64 to_.f1] 24)).alloc (.map #[] 0)) := by rw [← hz]; rfl
  replace hE := Go.Lib.hid hE
  replace hin := Go.Lib.hid hin
  replace hnl := Go.Lib.hid hnl
  replace hEl := Go.Lib.hid hEl
  replace hm := Go.Lib.hid hm
  clear hz
  obtain ⟨T, hT⟩ : ∃ x, x = w.heap.size := ⟨_, rfl⟩
  obtain ⟨fb, hfb⟩ : ∃ x, x = w.heap.size + 1 := ⟨_, rfl⟩
  rw [← hfb] at hmk hS
  unfold idV
  go_enter Try.func32, Try.ntmps32
  go_wp2_with fail
  rw [← hT] at hS
  rw [← hfb, ← hT]
  replace hT := Go.Lib.hid hT
  replace hfb := Go.Lib.hid hfb
  generalize (w.alloc (.cells #[.int .i64 to_.f0, .int .i64 to_.f1] 24)).alloc (.map #[] 0) = W0 at *
  clear hmk
  go_loopg [6] nl (fun k v6 wq => ∃ m : Nat, k = nl - m ∧ m ≤ nl ∧ v6 = .int .i64 ((m + 1 : Nat) : Int) ∧ FM w wq fb T to_ (Rc.refR ltI (edgesOf l) to_ m))
  case atStart => exact ⟨0, rfl, Nat.zero_le _, rfl, hS⟩
  case round =>
    clear hS
    obtain ⟨m, hk, hml, rfl, hF⟩ := hrel
    obtain ⟨p, hp⟩ : ∃ p, p = m + 1 := ⟨_, rfl⟩
    rw [← hp]
    by_cases hlt : m < nl
    · have hpz : (p : Int) ≤ (nl : Int) := by omega
      replace hp := Go.Lib.hid hp
      replace hk := Go.Lib.hid hk
      replace hF := Go.Lib.hid hF
      go_wp2_with fail
      obtain ⟨K, hK⟩ : ∃ x, x = gk := ⟨_, rfl⟩
      subst hK
      go_loopg [7, 8] nl (fun k v7 v8 wq => ∃ (i : Nat) (b : Bool), k = nl - i ∧ i ≤ nl ∧ v8 = .int .i64 (i : Int) ∧ v7 = .bool b ∧ FM w wq fb T to_ (Rc.midR ltI to_ p (Rc.refR ltI (edgesOf l) to_ m) ((edgesOf l).take i)) ∧
        (b = false → Rc.midR ltI to_ p (Rc.refR ltI (edgesOf l) to_ m) ((edgesOf l).take i) = Rc.refR ltI (edgesOf l) to_ m))
      case atStart => exact ⟨0, false, rfl, Nat.zero_le _, rfl, rfl, by rw [List.take_zero, Rc.midR_nil]; exact hF.out, fun _ => by rw [List.take_zero, Rc.midR_nil]⟩
      case round =>
        clear hF
        obtain ⟨i, b, hk2, hi, rfl, rfl, hF, hb⟩ := hrel
        obtain ⟨D, hD⟩ : ∃ D, D = Rc.midR ltI to_ p (Rc.refR ltI (edgesOf l) to_ m) ((edgesOf l).take i) := ⟨_, rfl⟩
        rw [← hD] at hF hb
        replace hb := Go.Lib.hid hb
        replace hk2 := Go.Lib.hid hk2
        by_cases hlt2 : i < nl
        · have hil : i < l.length := by rw [← hnl.out]; exact hlt2
          have hltz : (i : Int) < (nl : Int) := by omega
          obtain ⟨G, O, hA, hEd⟩ := hE.out (fun e => by rw [e] at hil; exact Nat.not_lt_zero _ hil)
          subst hA
          obtain ⟨_, a1, a2, a3, a4⟩ := hEd i hil
          replace a1 := pw_cell_below hF.below a1
          replace a2 := pw_cell_below hF.below a2
          replace a3 := pw_cell_below hF.below a3
          replace a4 := pw_cell_below hF.below a4
          have htk := take_pair l i hil
          obtain ⟨hxw, hxh⟩ := hin.out l[i] (List.getElem_mem hil)
          replace htk := Go.Lib.hid htk
          generalize l[i] = x at *
          have hn1 : wrap64 ((i : Int) + 1) = ((i + 1 : Nat) : Int) := by
            have := hm.out
            clear hil hltz hpz hi hlt
            unfold wrap64; omega
          replace hn1 := Go.Lib.hid hn1
          have hb1 := below_alloc (Below.refl wr.heap.size wr) (.cells #[.int .i64 x.f1.f0, .int .i64 x.f1.f1] 24)
          have b3 := pw_cell_below hb1 a3
          have b4 := pw_cell_below hb1 a4
          have hx1 := heap_alloc_new wr (.cells #[.int .i64 x.f1.f0, .int .i64 x.f1.f1] 24)
          have hz1 : (wr.alloc (.cells #[.int .i64 x.f1.f0, .int .i64 x.f1.f1] 24)).heap.size = wr.heap.size + 1 := by simp
          have hb2 := below_alloc (Below.refl _ (wr.alloc (.cells #[.int .i64 x.f1.f0, .int .i64 x.f1.f1] 24))) (.cells #[.int .i64 x.f2.f0, .int .i64 x.f2.f1] 24)
          have hx2 := heap_alloc_new (wr.alloc (.cells #[.int .i64 x.f1.f0, .int .i64 x.f1.f1] 24)) (.cells #[.int .i64 x.f2.f0, .int .i64 x.f2.f1] 24)
          replace hx1 := (hb2.block _ (lt_of_block hx1)).trans hx1
          rw [hz1] at hx2
          have hF2 := (hF.later hb1).later hb2
          replace hD := Go.Lib.hid hD
          clear hz1 hEd hil hF hb1 hb2
          go_upto_region 11 with fail
          obtain ⟨g1, hg1⟩ : ∃ y, y = wr.heap.size := ⟨_, rfl⟩
          rw [← hg1] at hx1 hx2 ⊢
          clear a1 a2 a3 a4 b3 b4 hg1
          generalize (wr.alloc (.cells #[.int .i64 x.f1.f0, .int .i64 x.f1.f1] 24)).alloc (.cells #[.int .i64 x.f2.f0, .int .i64 x.f2.f1] 24) = V at *
          have e0 := blk_cell hx1 0
          have e1 := blk_cell hx1 1
          have e2 := blk_cell hx2 0
          have e3 := blk_cell hx2 1
          simp only [List.getElem?_toArray, List.getElem?_cons_zero, List.getElem?_cons_succ] at e0 e1 e2 e3
          obtain ⟨t0, t1⟩ := hF2.cells
          clear hx1 hx2
          have hql := id_eql x.f2 to_
          have hqn := id_neq x.f2 to_
          have hLh := hF2.map.lookup (t := 62) Try.underlying62 (zero3 V) hxh false
          have hLw := hF2.map.lookup (t := 62) Try.underlying62 (zero3 V) hxw false
          simp only [Bool.false_eq_true, if_false] at hLh hLw
          unfold idV at hLh hLw
          have hreach : Rc.reach to_ (Rc.refR ltI (edgesOf l) to_ m) p x.f2 ↔ (p = 1 ∧ x.f2 = to_) ∨ (1 < p ∧ x.f2 ≠ to_ ∧ D x.f2 = some m) := by
            unfold Rc.reach
            rw [hD.out, Rc.midR_old (by have := hp.out; omega), show p - 1 = m by have := hp.out; omega]
          obtain ⟨rb, hrb⟩ : ∃ rb : Bool, rb = decide (Rc.reach to_ (Rc.refR ltI (edgesOf l) to_ m) p x.f2) := ⟨_, rfl⟩
          have hws : wrap64 ((p : Int) - 1) = (m : Int) := by
            have h1 := hp.out
            have h2 := hm.out
            clear hpz hi hltz
            unfold wrap64; omega
          have hws2 : IntKind.i64.wrap ((p : Int) - 1) = (m : Int) := (IntWalk.i64_left _).trans hws
          have hpm := hp.out
          replace hreach := Go.Lib.hid hreach
          replace hrb := Go.Lib.hid hrb
          replace hF2 := Go.Lib.hid hF2
          replace hpm := Go.Lib.hid hpm
          go_cut [11] from 19 to 74 (fun v11 wx => v11 = .bool rb ∧ wx = V)
          case first =>
            clear hLw e0 e1
            by_cases h1 : p = 1
            · have q1 : ((p : Int) == 1) = true := by rw [h1]; rfl
              have q2 : ¬ (1 : Int) < (p : Int) := by omega
              by_cases he : x.f2 = to_
              · have hd : decide (x.f2 = to_) = true := decide_eq_true he
                have hr : rb = true := by rw [hrb.out]; exact decide_eq_true (hreach.out.2 (.inl ⟨h1, he⟩))
                replace h1 := Go.Lib.hid h1
                replace he := Go.Lib.hid he
                replace hws := Go.Lib.hid hws
                replace hws2 := Go.Lib.hid hws2
                replace hr := Go.Lib.hid hr
                go_wp2_with fail
                go_meet
                exact ⟨by rw [hr.out], rfl⟩
              · have hd : decide (x.f2 = to_) = false := decide_eq_false he
                have hr : rb = false := by
                  rw [hrb.out]; refine decide_eq_false (fun h => ?_)
                  rcases hreach.out.1 h with h | h
                  · exact he h.2
                  · omega
                replace h1 := Go.Lib.hid h1
                replace he := Go.Lib.hid he
                replace hws := Go.Lib.hid hws
                replace hws2 := Go.Lib.hid hws2
                replace hr := Go.Lib.hid hr
                go_wp2_with fail
                go_meet
                exact ⟨by rw [hr.out], rfl⟩
            · have q1 : ((p : Int) == 1) = false := by simp; omega
              have q2 : (1 : Int) < (p : Int) := by have := hpm.out; omega
              by_cases he : x.f2 = to_
              · have hd : decide (x.f2 = to_) = true := decide_eq_true he
                have hr : rb = false := by
                  rw [hrb.out]; refine decide_eq_false (fun h => ?_)
                  rcases hreach.out.1 h with h | h
                  · exact h1 h.1
                  · exact h.2.1 he
                replace h1 := Go.Lib.hid h1
                replace he := Go.Lib.hid he
                replace hws := Go.Lib.hid hws
                replace hws2 := Go.Lib.hid hws2
                replace hr := Go.Lib.hid hr
                go_wp2_with fail
                go_meet
                exact ⟨by rw [hr.out], rfl⟩
              · have hd : decide (x.f2 = to_) = false := decide_eq_false he
                cases hDh : D x.f2 with
                | none =>
                  have hfv : farV D x.f2 = none := by unfold farV; rw [hDh]; rfl
                  rw [hfv] at hLh
                  simp only [Option.getD_none] at hLh
                  have hr : rb = false := by
                    rw [hrb.out]; refine decide_eq_false (fun h => ?_)
                    rcases hreach.out.1 h with h | h
                    · exact h1 h.1
                    · rw [hDh] at h; exact nomatch h.2.2
                  have q3 : ((0 : Int) == (m : Int)) = false := by simp; have := hpm.out; omega
                  clear hfv
                  replace h1 := Go.Lib.hid h1
                  replace he := Go.Lib.hid he
                  replace hr := Go.Lib.hid hr
                  replace hDh := Go.Lib.hid hDh
                  go_wp2_with fail
                  go_meet
                  exact ⟨by rw [hr.out], rfl⟩
                | some j =>
                  have hfv : farV D x.f2 = some (.int .i64 (j : Int)) := by unfold farV; rw [hDh]; rfl
                  rw [hfv] at hLh
                  simp only [Option.getD_some] at hLh
                  clear hfv
                  by_cases hjm : j = m
                  · have hr : rb = true := by rw [hrb.out]; exact decide_eq_true (hreach.out.2 (.inr ⟨by have := hpm.out; omega, he, by rw [hDh, hjm]⟩))
                    have q3 : ((j : Int) == (m : Int)) = true := by rw [hjm]; simp
                    replace h1 := Go.Lib.hid h1
                    replace he := Go.Lib.hid he
                    replace hr := Go.Lib.hid hr
                    replace hDh := Go.Lib.hid hDh
                    replace hjm := Go.Lib.hid hjm
                    go_wp2_with fail
                    go_meet
                    exact ⟨by rw [hr.out], rfl⟩
                  · have hr : rb = false := by
                      rw [hrb.out]; refine decide_eq_false (fun h => ?_)
                      rcases hreach.out.1 h with h | h
                      · exact h1 h.1
                      · rw [hDh] at h; exact hjm (Option.some.inj h.2.2)
                    have q3 : ((j : Int) == (m : Int)) = false := by simp; omega
                    replace h1 := Go.Lib.hid h1
                    replace he := Go.Lib.hid he
                    replace hr := Go.Lib.hid hr
                    replace hDh := Go.Lib.hid hDh
                    replace hjm := Go.Lib.hid hjm
                    go_wp2_with fail
                    go_meet
                    exact ⟨by rw [hr.out], rfl⟩
          case rest =>
            obtain ⟨rfl, rfl⟩ := hcut
            clear hLh hql hqn e2 e3
            have hsn : Rc.midR ltI to_ p (Rc.refR ltI (edgesOf l) to_ m) ((edgesOf l).take (i + 1)) = if D x.f1 = none ∧ Rc.reach to_ (Rc.refR ltI (edgesOf l) to_ m) p x.f2 ∧ ¬ ltI x.f1 to_ then Rc.updF D x.f1 p else D := by
              rw [htk.out, Rc.midR_snoc, ← hD.out]
            replace hws := Go.Lib.hid hws
            replace hws2 := Go.Lib.hid hws2
            cases rb with
            | false =>
              have hno : ¬ Rc.reach to_ (Rc.refR ltI (edgesOf l) to_ m) p x.f2 := of_decide_eq_false hrb.out.symm
              rw [if_neg (fun h => hno h.2.1)] at hsn
              replace hsn := Go.Lib.hid hsn
              replace hno := Go.Lib.hid hno
              clear hLw
              go_wp2_with fail
              rw [hn1.out]
              go_roundg (nl - (i + 1))
              case rel => exact ⟨i + 1, b, rfl, hlt2, rfl, rfl, by rw [hsn.out]; exact hF2.out, fun h => by rw [hsn.out]; exact hb.out h⟩
              case measure => have := hk2.out; omega
            | true =>
              have hre : Rc.reach to_ (Rc.refR ltI (edgesOf l) to_ m) p x.f2 := of_decide_eq_true hrb.out.symm
              cases hDw : D x.f1 with
              | some k =>
                have hk1 : 1 ≤ k := by
                  have h1 := hD.out
                  by_cases e : k = p
                  · have := hpm.out; omega
                  · rw [h1, Rc.midR_old e] at hDw
                    exact (Rc.refR_le hDw).1
                have hfv : farV D x.f1 = some (.int .i64 (k : Int)) := by unfold farV; rw [hDw]; rfl
                rw [hfv] at hLw
                simp only [Option.getD_some] at hLw
                have q3 : ((k : Int) == 0) = false := by simp; omega
                rw [if_neg (fun h => by rw [hDw] at h; exact nomatch h.1)] at hsn
                clear hfv
                replace hsn := Go.Lib.hid hsn
                replace hre := Go.Lib.hid hre
                replace hDw := Go.Lib.hid hDw
                replace hk1 := Go.Lib.hid hk1
                go_wp2_with fail
                rw [hn1.out]
                go_roundg (nl - (i + 1))
                case rel => exact ⟨i + 1, b, rfl, hlt2, rfl, rfl, by rw [hsn.out]; exact hF2.out, fun h => by rw [hsn.out]; exact hb.out h⟩
                case measure => have := hk2.out; omega
              | none =>
                have hfv : farV D x.f1 = none := by unfold farV; rw [hDw]; rfl
                rw [hfv] at hLw
                simp only [Option.getD_none] at hLw
                clear hfv
                have hC := rcompare_walk x.f1 to_ wc
                by_cases hlt3 : ltI x.f1 to_
                · have q4 : ¬ 0 ≤ cmpR x.f1 to_ := fun h => (cmpR_ge _ _).1 h hlt3
                  rw [if_neg (fun h => h.2.2 hlt3)] at hsn
                  replace hsn := Go.Lib.hid hsn
                  replace hre := Go.Lib.hid hre
                  replace hDw := Go.Lib.hid hDw
                  replace hlt3 := Go.Lib.hid hlt3
                  go_wp2_with (go_at_call 39; refine hC.mono ?_; rintro e u ⟨rfl, hu⟩)
                  rw [hn1.out]
                  go_roundg (nl - (i + 1))
                  case rel => exact ⟨i + 1, b, rfl, hlt2, rfl, rfl, by rw [hsn.out]; exact hF2.out.later hu, fun h => by rw [hsn.out]; exact hb.out h⟩
                  case measure => have := hk2.out; omega
                · have q4 : 0 ≤ cmpR x.f1 to_ := (cmpR_ge _ _).2 hlt3
                  rw [if_pos ⟨hDw, hre, hlt3⟩] at hsn
                  replace hsn := Go.Lib.hid hsn
                  replace hre := Go.Lib.hid hre
                  replace hDw := Go.Lib.hid hDw
                  replace hlt3 := Go.Lib.hid hlt3
                  go_wp2_with (go_at_call 39; refine hC.mono ?_; rintro e u ⟨rfl, hu⟩; obtain ⟨w5, hrun5, hF5⟩ := (hF2.out.later hu).upd hxw p; replace hF5 := Go.Lib.hid hF5; replace e0 := pw_cell_below hu e0; replace e1 := pw_cell_below hu e1)
                  rw [hn1.out]
                  go_roundg (nl - (i + 1))
                  case rel => exact ⟨i + 1, true, rfl, hlt2, rfl, rfl, by rw [hsn.out]; exact hF5.out, fun h => by cases h⟩
                  case measure => have := hk2.out; omega
        · have hin2 : i = nl := by omega
          have hDe : D = Rc.refR ltI (edgesOf l) to_ (m + 1) := by
            rw [hD, hin2, ← hEl.out, List.take_length, hp.out]; rfl
          replace hD := Go.Lib.hid hD
          subst hin2
          cases b with
          | false =>
            have hst : Rc.refR ltI (edgesOf l) to_ (m + 1) = Rc.refR ltI (edgesOf l) to_ m := by rw [← hDe]; exact hb.out rfl
            have hfin : Rc.farR ltI (edgesOf l) to_ = D := by
              rw [hDe, hst]
              exact Rc.refR_still hst _ (by rw [hEl.out]; omega)
            have hfb2 : MapIs wr fb (farV (Rc.farR ltI (edgesOf l) to_)) := by rw [hfin]; exact hF.map
            have hbl := hF.below
            replace hfb2 := Go.Lib.hid hfb2
            replace hDe := Go.Lib.hid hDe
            replace hst := Go.Lib.hid hst
            replace hfin := Go.Lib.hid hfin
            clear hF
            go_wp2_with fail
            go_ret
            exact ⟨fb, rfl, hfb2.out, hbl⟩
          | true =>
            rw [hDe] at hF
            replace hF := Go.Lib.hid hF
            replace hDe := Go.Lib.hid hDe
            have hw : wrap64 ((p : Int) + 1) = ((m + 1 + 1 : Nat) : Int) := by
              have h1 := hp.out
              have h2 := hm.out
              clear hpz hi hml
              unfold wrap64; omega
            replace hw := Go.Lib.hid hw
            go_wp2_with fail
            rw [hw.out]
            go_roundg (i - (m + 1))
            case rel => exact ⟨m + 1, rfl, hlt, rfl, hF.out⟩
            case measure => have := hk.out; omega
    · have hme : m = nl := by omega
      have hpz : ¬ (p : Int) ≤ (nl : Int) := by omega
      have hfb2 : MapIs wr fb (farV (Rc.farR ltI (edgesOf l) to_)) := by
        have : Rc.farR ltI (edgesOf l) to_ = Rc.refR ltI (edgesOf l) to_ m := by unfold Rc.farR; rw [hEl.out, hme]
        rw [this]; exact hF.map
      have hbl := hF.below
      replace hfb2 := Go.Lib.hid hfb2
      replace hp := Go.Lib.hid hp
      replace hme := Go.Lib.hid hme
      clear hF hk
      go_wp2_with fail
      go_ret
      exact ⟨fb, rfl, hfb2.out, hbl⟩
end Go.Proofs.Ytdepmcofnlggaaa.PResolverCycles
end
section
set_option linter.unusedVariables false
set_option linter.unusedSimpArgs false
attribute [local go_sem ↓] Go.wp_at_zero Go.wp_at_succ
namespace Go.Proofs.Ytdepmcofnlggaaa.PResolverCycles
open Go.RowKit Go.Proofs.YtdepmcofnlggaaaW.PrintWords Go.Proofs.YtdepmcofnlggaaaW.PrintLast Go.Proofs.YtdepmcofnlggaaaW.PrintMore
open Classical

def NextOf (E : List (S24 × S24)) (at_ : S24) (F : S24 → Option Nat) (n : Nat) (found : Bool) (x : S24) : Prop :=
  (found = false ∧ ∀ g, (at_, g) ∈ E → F g ≠ some n) ∨ (found = true ∧ (at_, x) ∈ E ∧ F x = some n ∧ ∀ g, (at_, g) ∈ E → F g = some n → ¬ ltI g x)
section
variable {E : List (S24 × S24)} {at_ : S24} {F : S24 → Option Nat} {n : Nat} {found : Bool} {x w h : S24}
theorem NextOf.skip (H : NextOf E at_ F n found x) (hn : ¬ (w = at_ ∧ F h = some n)) : NextOf (E ++ [(w, h)]) at_ F n found x := by
  rcases H with ⟨h1, h2⟩ | ⟨h1, h2, h3, h4⟩
  · refine .inl ⟨h1, fun g hg he => ?_⟩
    rcases List.mem_append.1 hg with hg | hg
    · exact h2 g hg he
    · have := List.mem_singleton.1 hg
      simp only [Prod.mk.injEq] at this
      obtain ⟨e1, e2⟩ := this
      subst e1 e2
      exact hn ⟨rfl, he⟩
  · refine .inr ⟨h1, List.mem_append.2 (.inl h2), h3, fun g hg he => ?_⟩
    rcases List.mem_append.1 hg with hg | hg
    · exact h4 g hg he
    · have := List.mem_singleton.1 hg
      simp only [Prod.mk.injEq] at this
      obtain ⟨e1, e2⟩ := this
      subst e1 e2
      exact absurd ⟨rfl, he⟩ hn
theorem NextOf.keep (H : NextOf E at_ F n true x) (hl : ¬ ltI h x) : NextOf (E ++ [(at_, h)]) at_ F n true x := by
  rcases H with ⟨h1, h2⟩ | ⟨h1, h2, h3, h4⟩
  · cases h1
  · refine .inr ⟨h1, List.mem_append.2 (.inl h2), h3, fun g hg he => ?_⟩
    rcases List.mem_append.1 hg with hg | hg
    · exact h4 g hg he
    · have := List.mem_singleton.1 hg
      simp only [Prod.mk.injEq] at this
      rw [this.2]; exact hl
theorem NextOf.take (H : NextOf E at_ F n found x) (hh : F h = some n) (hl : found = true → ltI h x) : NextOf (E ++ [(at_, h)]) at_ F n true h := by
  refine .inr ⟨rfl, by simp, hh, fun g hg he => ?_⟩
  rcases List.mem_append.1 hg with hg | hg
  · rcases H with ⟨h1, h2⟩ | ⟨h1, h2, h3, h4⟩
    · exact absurd he (h2 g hg)
    · intro hlt
      exact h4 g hg he (tot_id.tr hlt (hl h1))
  · have := List.mem_singleton.1 hg
    simp only [Prod.mk.injEq] at this
    rw [this.2]; exact tot_id.irr _
end
/-- the three blocks of next: at, the answer, x -/
structure NM (w W : World) (T5 T8 T9 : Nat) (at_ x : S24) : Prop where
  below : Below w.heap.size w W
  g5 : w.heap.size ≤ T5
  g8 : w.heap.size ≤ T8
  g9 : w.heap.size ≤ T9
  n59 : T5 ≠ T9
  n89 : T8 ≠ T9
  b5 : W.heap[T5]? = some (.cells #[.int .i64 at_.f0, .int .i64 at_.f1] 24 (0, 0))
  b8 : W.heap[T8]? = some (.cells #[.int .i64 0, .int .i64 0] 24 (0, 0))
  b9 : W.heap[T9]? = some (.cells #[.int .i64 x.f0, .int .i64 x.f1] 24 (0, 0))
section
variable {w W W' : World} {T5 T8 T9 : Nat} {at_ x : S24}
theorem NM.later (h : NM w W T5 T8 T9 at_ x) (hb : Below W.heap.size W W') : NM w W' T5 T8 T9 at_ x :=
  ⟨h.below.trans (hb.mono h.below.size), h.g5, h.g8, h.g9, h.n59, h.n89, (hb.block _ (lt_of_block h.b5)).trans h.b5, (hb.block _ (lt_of_block h.b8)).trans h.b8, (hb.block _ (lt_of_block h.b9)).trans h.b9⟩
theorem NM.set (h : NM w W T5 T8 T9 at_ x) (y : S24) : NM w ((W.setCell ⟨T9, 0, none⟩ (.int .i64 y.f0)).setCell ⟨T9, 1, none⟩ (.int .i64 y.f1)) T5 T8 T9 at_ y := by
  have hg := set_grown W T9 (.int .i64 y.f0) (.int .i64 y.f1)
  exact ⟨pw_below_grown h.below _ h.below.size hg (fun k hk => by cases hk; exact h.g9), h.g5, h.g8, h.g9, h.n59, h.n89, (hg.block _ (lt_of_block h.b5) (fun e => h.n59 (by cases e; rfl))).trans h.b5, (hg.block _ (lt_of_block h.b8) (fun e => h.n89 (by cases e; rfl))).trans h.b8, set_id h.b9 y⟩
theorem NM.cells (h : NM w W T5 T8 T9 at_ x) : W.cell? ⟨T5, 0, none⟩ = some (.int .i64 at_.f0) ∧ W.cell? ⟨T5, 1, none⟩ = some (.int .i64 at_.f1) ∧ W.cell? ⟨T9, 0, none⟩ = some (.int .i64 x.f0) ∧ W.cell? ⟨T9, 1, none⟩ = some (.int .i64 x.f1) :=
  ⟨by rw [blk_cell h.b5]; rfl, by rw [blk_cell h.b5]; rfl, by rw [blk_cell h.b9]; rfl, by rw [blk_cell h.b9]; rfl⟩
end
theorem nm_start (w : World) (at_ : S24) :
    NM w (((w.alloc (.cells #[.int .i64 at_.f0, .int .i64 at_.f1] 24)).alloc (.cells #[.int .i64 0, .int .i64 0] 24)).alloc (.cells #[.int .i64 0, .int .i64 0] 24)) w.heap.size (w.heap.size + 1) (w.heap.size + 2) at_ z24 := by
  have s1 : (w.alloc (.cells #[.int .i64 at_.f0, .int .i64 at_.f1] 24)).heap.size = w.heap.size + 1 := by simp
  have s2 : ((w.alloc (.cells #[.int .i64 at_.f0, .int .i64 at_.f1] 24)).alloc (.cells #[.int .i64 0, .int .i64 0] 24)).heap.size = w.heap.size + 2 := by simp
  have h1 := heap_alloc_new w (.cells #[.int .i64 at_.f0, .int .i64 at_.f1] 24)
  have h2 := heap_alloc_new (w.alloc (.cells #[.int .i64 at_.f0, .int .i64 at_.f1] 24)) (.cells #[.int .i64 0, .int .i64 0] 24)
  have h3 := heap_alloc_new ((w.alloc (.cells #[.int .i64 at_.f0, .int .i64 at_.f1] 24)).alloc (.cells #[.int .i64 0, .int .i64 0] 24)) (.cells #[.int .i64 0, .int .i64 0] 24)
  rw [s1] at h2
  rw [s2] at h3
  refine ⟨(((Below.refl _ w).alloc (Nat.le_refl _) _).alloc (by omega) _).alloc (by omega) _, by omega, by omega, by omega, by omega, by omega, ?_, ?_, h3⟩
  · rw [heap_alloc_old _ _ (by omega), heap_alloc_old _ _ (by omega)]; exact h1
  · rw [heap_alloc_old _ _ (by omega)]; exact h2
theorem cmpR_lt (a b : S24) : cmpR a b < 0 ↔ ltI a b := by
  unfold cmpR
  by_cases h : ltI a b
  · simp [h]
  · by_cases h2 : ltI b a <;> simp [h, h2]
set_option maxHeartbeats 4000000 in
set_option maxRecDepth 20000 in
theorem rnext_walk (w : World) (A : Option Addr) (c fb : Nat) (l : List S26) (F : S24 → Option Nat) (n : Nat) (hE : EdgesR w A l) (at_ : S24) (hM : MapIs w fb (farV F)) (hn : 1 ≤ n) (hm : l.length ≤ 1000) (hin : ∀ e ∈ l, InId e.f1 ∧ InId e.f2) :
    Calls Try.prog 33 #[.slice A l.length c, idV at_, .map (some fb), .int .i64 (n : Int)] w fun e w' => ∃ found x, e = .returned (idV x) ∧ NextOf (edgesOf l) at_ F n found x ∧ Below w.heap.size w w' := by
  have hS := nm_start w at_
  obtain ⟨nl, hnl⟩ : ∃ n, n = l.length := ⟨_, rfl⟩
  have hEl : (edgesOf l).length = nl := by rw [edges_len, hnl]
  rw [← hnl] at hm ⊢
  replace hE := Go.Lib.hid hE
  replace hin := Go.Lib.hid hin
  replace hnl := Go.Lib.hid hnl
  replace hEl := Go.Lib.hid hEl
  replace hm := Go.Lib.hid hm
  replace hM := Go.Lib.hid hM
  replace hn := Go.Lib.hid hn
  obtain ⟨T5, h5⟩ : ∃ x, x = w.heap.size := ⟨_, rfl⟩
  obtain ⟨T8, h8⟩ : ∃ x, x = w.heap.size + 1 := ⟨_, rfl⟩
  obtain ⟨T9, h9⟩ : ∃ x, x = w.heap.size + 2 := ⟨_, rfl⟩
  unfold idV
  go_enter Try.func33, Try.ntmps33
  go_wp2_with fail
  rw [show w.heap.size + 1 + 1 = w.heap.size + 2 from rfl]
  rw [← h9, ← h8, ← h5] at hS
  rw [← h9, ← h8, ← h5]
  replace h5 := Go.Lib.hid h5
  replace h8 := Go.Lib.hid h8
  replace h9 := Go.Lib.hid h9
  generalize ((w.alloc (.cells #[.int .i64 at_.f0, .int .i64 at_.f1] 24)).alloc (.cells #[.int .i64 0, .int .i64 0] 24)).alloc (.cells #[.int .i64 0, .int .i64 0] 24) = W0 at *
  go_loopg [10, 11] nl (fun k v10 v11 wq => ∃ (i : Nat) (found : Bool) (x : S24), k = nl - i ∧ i ≤ nl ∧ v11 = .int .i64 (i : Int) ∧ v10 = .bool found ∧ NM w wq T5 T8 T9 at_ x ∧ NextOf ((edgesOf l).take i) at_ F n found x)
  case atStart => exact ⟨0, false, z24, rfl, Nat.zero_le _, rfl, rfl, hS, .inl ⟨rfl, fun g hg => by simp at hg⟩⟩
  case round =>
    clear hS
    obtain ⟨i, found, x, hk, hi, rfl, rfl, hN, hNx⟩ := hrel
    by_cases hlt : i < nl
    · have hil : i < l.length := by rw [← hnl.out]; exact hlt
      have hltz : (i : Int) < (nl : Int) := by omega
      obtain ⟨G, O, hA, hEd⟩ := hE.out (fun e => by rw [e] at hil; exact Nat.not_lt_zero _ hil)
      subst hA
      obtain ⟨_, a1, a2, a3, a4⟩ := hEd i hil
      replace a1 := pw_cell_below hN.below a1
      replace a2 := pw_cell_below hN.below a2
      replace a3 := pw_cell_below hN.below a3
      replace a4 := pw_cell_below hN.below a4
      have htk := take_pair l i hil
      obtain ⟨hxw, hxh⟩ := hin.out l[i] (List.getElem_mem hil)
      replace htk := Go.Lib.hid htk
      generalize l[i] = y at *
      have hn1 : wrap64 ((i : Int) + 1) = ((i + 1 : Nat) : Int) := by
        have := hm.out
        clear hk hil hltz hi
        unfold wrap64; omega
      replace hn1 := Go.Lib.hid hn1
      replace hk := Go.Lib.hid hk
      have hb1 := below_alloc (Below.refl wr.heap.size wr) (.cells #[.int .i64 y.f2.f0, .int .i64 y.f2.f1] 24)
      have hx1 := heap_alloc_new wr (.cells #[.int .i64 y.f2.f0, .int .i64 y.f2.f1] 24)
      have b1 := pw_cell_below hb1 a1
      have b2 := pw_cell_below hb1 a2
      replace hN := hN.later hb1
      clear hEd hil hb1
      go_upto_region 7 with fail
      obtain ⟨g1, hg1⟩ : ∃ y, y = wr.heap.size := ⟨_, rfl⟩
      rw [← hg1] at hx1 ⊢
      clear a1 a2 a3 a4 hg1
      generalize wr.alloc (.cells #[.int .i64 y.f2.f0, .int .i64 y.f2.f1] 24) = V at *
      have hmix : Try.prog.follows .mixedOrders = true := by kernel_rfl
      have hgb : ∀ n os, Below V.heap.size V (Sort.grow (V.drewN n) os) := fun n os => (show Grown V _ from ⟨n, os, rfl⟩).below
      obtain ⟨t0, t1, t2, t3⟩ := hN.cells
      have e0 := blk_cell hx1 0
      have e1 := blk_cell hx1 1
      simp only [List.getElem?_toArray, List.getElem?_cons_zero, List.getElem?_cons_succ] at e0 e1
      have u0 := fun n os => pw_cell_below (hgb n os) t0
      have u1 := fun n os => pw_cell_below (hgb n os) t1
      have u2 := fun n os => pw_cell_below (hgb n os) t2
      have u3 := fun n os => pw_cell_below (hgb n os) t3
      have u4 := fun n os => pw_cell_below (hgb n os) e0
      have u5 := fun n os => pw_cell_below (hgb n os) e1
      have u6 := fun n os => pw_cell_below (hgb n os) b1
      have u7 := fun n os => pw_cell_below (hgb n os) b2
      have u8 : ∀ n os, (Sort.grow (V.drewN n) os).frozen? ⟨T9, 0, none⟩ = false := fun n os => by simp [World.frozen?, (hN.later (hgb n os)).b9]
      have u9 : ∀ n os, (Sort.grow (V.drewN n) os).frozen? ⟨T9, 1, none⟩ = false := fun n os => by simp [World.frozen?, (hN.later (hgb n os)).b9]
      have hql := id_eql y.f1 at_
      have hLh := fun n os => (hM.out.below (hN.later (hgb n os)).below).lookup (t := 62) Try.underlying62 (zero3 (Sort.grow (V.drewN n) os)) hxh false
      simp only [Bool.false_eq_true, if_false] at hLh
      unfold idV at hLh
      replace hgb := Go.Lib.hid hgb
      replace hN := Go.Lib.hid hN
      clear hx1 b1 b2 t0 t1 t2 t3 e0 e1
      by_cases hw : y.f1 = at_
      · have hd : decide (y.f1 = at_) = true := decide_eq_true hw
        have hw1 := hw
        replace hw := Go.Lib.hid hw
        cases hF : F y.f2 with
        | none =>
          have hfv : farV F y.f2 = none := by unfold farV; rw [hF]; rfl
          rw [hfv] at hLh
          simp only [Option.getD_none] at hLh
          have hNx2 := hNx.skip (w := y.f1) (h := y.f2) (fun h => by rw [hF] at h; exact nomatch h.2)
          rw [← htk.out] at hNx2
          have q1 : ((0 : Int) == (n : Int)) = false := by have := hn.out; simp; omega
          replace hNx2 := Go.Lib.hid hNx2
          replace hF := Go.Lib.hid hF
          clear hNx hfv hw1
          refine wp_region_quiet_grown (by assumption) (by kernel_rfl) ?_
          repeat (go_big_quiet_step (fail))
          refine wpQuiet_nil ?_
          intro _ hw'
          obtain ⟨⟨nq, osq⟩, hw''⟩ := hw'
          subst hw''
          clear u0 u1 u6 u7 hql
          go_wp2_with fail
          rw [hn1.out]
          go_roundg (nl - (i + 1))
          case rel => exact ⟨i + 1, found, x, rfl, hlt, rfl, rfl, hN.out.later (hgb.out nq osq), hNx2.out⟩
          case measure => have := hk.out; omega
        | some m =>
          have hfv : farV F y.f2 = some (.int .i64 (m : Int)) := by unfold farV; rw [hF]; rfl
          rw [hfv] at hLh
          simp only [Option.getD_some] at hLh
          by_cases hmn : m = n
          · have q1 : ((m : Int) == (n : Int)) = true := by rw [hmn]; simp
            have hFn : F y.f2 = some n := by rw [hF, hmn]
            replace hF := Go.Lib.hid hF
            replace hmn := Go.Lib.hid hmn
            cases found with
            | false =>
              have hNx2 := hNx.take hFn (fun h => by cases h)
              rw [← hw1, ← htk.out, hw1] at hNx2
              replace hNx2 := Go.Lib.hid hNx2
              replace hFn := Go.Lib.hid hFn
              clear hNx hfv hw1
              refine wp_region_quiet_grown (by assumption) (by kernel_rfl) ?_
              repeat (go_big_quiet_step (fail))
              refine wpQuiet_nil ?_
              intro _ hw'
              obtain ⟨⟨nq, osq⟩, hw''⟩ := hw'
              subst hw''
              clear u0 u1 u6 u7 hql
              go_wp2_with fail
              rw [hn1.out]
              go_roundg (nl - (i + 1))
              case rel => exact ⟨i + 1, true, y.f2, rfl, hlt, rfl, rfl, (hN.out.later (hgb.out nq osq)).set y.f2, hNx2.out⟩
              case measure => have := hk.out; omega
            | true =>
              have hC := fun w => rcompare_grown y.f2 x w
              by_cases hlt3 : ltI y.f2 x
              · have q2 : cmpR y.f2 x < 0 := (cmpR_lt _ _).2 hlt3
                have hNx2 := hNx.take hFn (fun _ => hlt3)
                rw [← hw1, ← htk.out, hw1] at hNx2
                replace hNx2 := Go.Lib.hid hNx2
                replace hFn := Go.Lib.hid hFn
                replace hlt3 := Go.Lib.hid hlt3
                clear hNx hfv hw1
                refine wp_region_quiet_grown (by assumption) (by kernel_rfl) ?_
                repeat (go_big_quiet_step ((go_at_call 39; refine Calls.grown_of (hC _))))
                refine wpQuiet_nil ?_
                intro _ hw'
                obtain ⟨⟨nq, osq⟩, hw''⟩ := hw'
                subst hw''
                clear u0 u1 u6 u7 hql
                go_wp2_with fail
                rw [hn1.out]
                go_roundg (nl - (i + 1))
                case rel => exact ⟨i + 1, true, y.f2, rfl, hlt, rfl, rfl, (hN.out.later (hgb.out nq osq)).set y.f2, hNx2.out⟩
                case measure => have := hk.out; omega
              · have q2 : ¬ cmpR y.f2 x < 0 := fun h => hlt3 ((cmpR_lt _ _).1 h)
                have hNx2 := hNx.keep hlt3
                rw [← hw1, ← htk.out, hw1] at hNx2
                replace hNx2 := Go.Lib.hid hNx2
                replace hFn := Go.Lib.hid hFn
                replace hlt3 := Go.Lib.hid hlt3
                clear hNx hfv hw1
                refine wp_region_quiet_grown (by assumption) (by kernel_rfl) ?_
                repeat (go_big_quiet_step ((go_at_call 39; refine Calls.grown_of (hC _))))
                refine wpQuiet_nil ?_
                intro _ hw'
                obtain ⟨⟨nq, osq⟩, hw''⟩ := hw'
                subst hw''
                clear u0 u1 u6 u7 hql
                go_wp2_with fail
                rw [hn1.out]
                go_roundg (nl - (i + 1))
                case rel => exact ⟨i + 1, true, x, rfl, hlt, rfl, rfl, hN.out.later (hgb.out nq osq), hNx2.out⟩
                case measure => have := hk.out; omega
          · have q1 : ((m : Int) == (n : Int)) = false := by simp; omega
            have hNx2 := hNx.skip (w := y.f1) (h := y.f2) (fun h => by rw [hF] at h; exact hmn (Option.some.inj h.2))
            rw [← htk.out] at hNx2
            replace hNx2 := Go.Lib.hid hNx2
            replace hF := Go.Lib.hid hF
            replace hmn := Go.Lib.hid hmn
            clear hNx hfv hw1
            refine wp_region_quiet_grown (by assumption) (by kernel_rfl) ?_
            repeat (go_big_quiet_step (fail))
            refine wpQuiet_nil ?_
            intro _ hw'
            obtain ⟨⟨nq, osq⟩, hw''⟩ := hw'
            subst hw''
            clear u0 u1 u6 u7 hql
            go_wp2_with fail
            rw [hn1.out]
            go_roundg (nl - (i + 1))
            case rel => exact ⟨i + 1, found, x, rfl, hlt, rfl, rfl, hN.out.later (hgb.out nq osq), hNx2.out⟩
            case measure => have := hk.out; omega
      · have hd : decide (y.f1 = at_) = false := decide_eq_false hw
        have hNx2 := hNx.skip (w := y.f1) (h := y.f2) (fun h => hw h.1)
        rw [← htk.out] at hNx2
        replace hw := Go.Lib.hid hw
        replace hNx2 := Go.Lib.hid hNx2
        clear hNx hLh
        refine wp_region_quiet_grown (by assumption) (by kernel_rfl) ?_
        repeat (go_big_quiet_step (fail))
        refine wpQuiet_nil ?_
        intro _ hw'
        obtain ⟨⟨nq, osq⟩, hw''⟩ := hw'
        subst hw''
        clear u0 u1 u2 u3 u4 u5 u6 u7 hql
        go_wp2_with fail
        rw [hn1.out]
        go_roundg (nl - (i + 1))
        case rel => exact ⟨i + 1, found, x, rfl, hlt, rfl, rfl, hN.out.later (hgb.out nq osq), hNx2.out⟩
        case measure => have := hk.out; omega
    · have hin2 : i = nl := by omega
      have hfin : NextOf (edgesOf l) at_ F n found x := by rw [hin2, ← hEl.out, List.take_length] at hNx; exact hNx
      obtain ⟨_, _, t2, t3⟩ := hN.cells
      have z0 : wr.frozen? ⟨T8, 0, none⟩ = false := by simp [World.frozen?, hN.b8]
      have z1 : wr.frozen? ⟨T8, 1, none⟩ = false := by simp [World.frozen?, hN.b8]
      have z2 : wr.cell? ⟨T8, 0, none⟩ = some (.int .i64 0) := by rw [blk_cell hN.b8]; rfl
      have z3 : wr.cell? ⟨T8, 1, none⟩ = some (.int .i64 0) := by rw [blk_cell hN.b8]; rfl
      have hg8 := set_id (a := z24) hN.b8 x
      have hb8 := pw_below_grown hN.below _ hN.below.size (set_grown wr T8 (.int .i64 x.f0) (.int .i64 x.f1)) (fun k hk => by cases hk; exact hN.g8)
      replace hg8 := Go.Lib.hid hg8
      replace hN := Go.Lib.hid hN
      replace hfin := Go.Lib.hid hfin
      subst hin2
      clear hNx hk
      go_wp2_with fail
      refine bodyPost_ret (results_single (r := .cell 8 24) rfl (.cell T8 24 #[.int .i64 x.f0, .int .i64 x.f1] (0, 0) _ rfl hg8.out Try.underlying24 rfl (by kernel_rfl) .nil)) rfl ?_
      exact ⟨found, x, rfl, hfin.out, hb8⟩
end Go.Proofs.Ytdepmcofnlggaaa.PResolverCycles
end
