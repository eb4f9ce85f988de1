/- The trail is told, the program's way and the document's. (ahead of it: Rewrite, the document's way, walked. Append and Rewrite, both sides, of any log: what they answer, and what stays true of a log. The law's Of: records in memory of their own, walked. The law's sameInts. The law's spoiler: it writes over all records that it is handed, walked. The law's comparison of two logs, walked. The law's two disks and two logs, act by act: what holds between acts.) -/
import Derived.Test.YtggogenhakdhiaaDoorPkE
import Derived.Test.YtggogenhakdhiaaDoorPkD
import Derived.Test.YtggogenhakdhiaaDoorPkA
import Derived.Test.YtggogenhakdhiaaDoorPkC
import Derived.BigQuiet
import Derived.Test.YtggogenhakdhiaaDoorPkB
import Derived.Deep.RegionHeldLaw
import Derived.RegionTactic
section
set_option linter.unusedVariables false
set_option linter.unusedSimpArgs false
attribute [local go_sem ↓] Go.wp_at_zero Go.wp_at_succ
namespace Go.Proofs.YtggogenhakdhiaaDoor
open Go.RowKit

/-- what Rewrite does, the document's way: a log that is stuck stays as it is -/
def rrewriteOf (n : Nat) (d : DS) (s : LS) (l : List (Int × List UInt8)) : DS × LS × Int := if (s.down || d.down) = true then (d, s, 50) else rewriteOf n d s l
theorem rsectors3_walk (w : World) (k : Int) (A : Option Addr) (n c : Nat) (hn : n ≤ 4000000) :
    Calls Tryd.prog 51 #[.agg #[.int .i64 k, .slice A n c]] w (fun e w' => e = .returned (.int .i64 (secs n : Nat)) ∧ Below w.heap.size w w') := by
  have h1 : IntKind.i64.wrap (10 + (n : Int)) = ((n + 10 : Nat) : Int) := by rw [IntKind.wrap_i64]; omega
  have h2 : IntKind.i64.wrap (((n + 10 : Nat) : Int) + 64) = ((n + 74 : Nat) : Int) := by rw [IntKind.wrap_i64]; omega
  have h3 : IntKind.i64.wrap (((n + 74 : Nat) : Int) - 1) = ((n + 73 : Nat) : Int) := by rw [IntKind.wrap_i64]; omega
  have h4 : IntKind.i64.wrap (((n + 73 : Nat) : Int) / 64) = ((secs n : Nat) : Int) := by unfold secs; rw [IntKind.wrap_i64]; omega
  go_enter Tryd.func51, Tryd.ntmps51
  go_wp2
  go_ret
  exact ⟨by show Ending.returned (.int .i64 (((n : Int) + 10 + 64 - 1) / 64)) = _; congr 2; unfold secs; omega, (Below.refl _ _).alloc (Nat.le_refl _) _⟩
section
variable (w : World) (col : Nat → Nat) (gm gr n : Nat) (v : Value) (d : DS) (s : LS) (A : Option Addr) (c : Nat) (l : List (Int × List UInt8))
set_option maxRecDepth 20000 in
theorem rrewrite_stuck (hP : RM w col gm gr n v d s) (hd : (s.down || d.down) = true) :
    Calls Tryd.prog 69 #[.pointer (some ⟨gm, 0, none⟩), .slice A l.length c] w (RActs (.int .i64 50) col gm gr n d s w) := by
  obtain ⟨sv, tv, hD, -⟩ := hP.D
  have e3 := hD.c3
  obtain ⟨c0, -, -, -, c4⟩ := hP.L.cell
  clear hD
  cases hdd : d.down with
  | true =>
    rw [hdd] at e3
    replace hd := Go.Lib.hid hd
    replace hdd := Go.Lib.hid hdd
    go_enter Tryd.func69, Tryd.ntmps69
    go_wp2
    go_ret
    exact ⟨rfl, col, v, hP, Step.refl _ _ _ _⟩
  | false =>
    have hs : s.down = true := by rw [hdd, Bool.or_false] at hd; exact hd
    rw [hdd] at e3
    rw [hs] at c4
    replace hd := Go.Lib.hid hd
    replace hs := Go.Lib.hid hs
    replace hdd := Go.Lib.hid hdd
    go_enter Tryd.func69, Tryd.ntmps69
    go_wp2
    go_ret
    exact ⟨rfl, col, v, hP, Step.refl _ _ _ _⟩
set_option maxHeartbeats 4000000 in
set_option maxRecDepth 20000 in
theorem rrewrite_go (h : RM w col gm gr n v d s) (hd : (s.down || d.down) = false) (hg : s.gen ≤ 1099511627776) (hr : RecsF w (fun k => col k ≠ 2 ∧ col k ≠ 4) A l) (hlc : l.length ≤ c) (hll : l.length ≤ 1000000) (hlb : ∀ r ∈ l, r.2.length ≤ 2000000)
    (htr : d.trail.length + 17000 ≤ 1000000) :
    Calls Tryd.prog 69 #[.pointer (some ⟨gm, 0, none⟩), .slice A l.length c] w (RActs (.int .i64 (rewriteOf n d s l).2.2) col gm gr n (rewriteOf n d s l).1 (rewriteOf n d s l).2.1 w) := by
  obtain ⟨ap, hap1⟩ : ∃ x, x = rewriteOf n d s l := ⟨_, rfl⟩
  rw [← hap1]
  have hap := hap1
  unfold rewriteOf at hap
  rw [if_neg (by rw [hd]; simp)] at hap
  clear hap1
  refine Calls.mono (R := RActs (.int .i64 ap.2.2) (dye w col 7) gm gr n ap.1 ap.2.1 w) ?_ (fun e w' hR => hR.of (fun k hk => dye_old hk))
  have h := h.dyed 7
  have h7 : ∀ j, w.heap.size ≤ j → dye w col 7 j = 7 := fun j hj => dye_new hj
  have hr := hr.mono (F' := fun k => k < w.heap.size ∧ dye w col 7 k ≠ 2 ∧ dye w col 7 k ≠ 4) (fun k hk hF => ⟨hk, by rw [dye_old hk]; exact hF⟩)
  generalize dye w col 7 = col at *
  have hdn : s.down = false ∧ d.down = false := by simpa using hd
  have e3 : w.cell? ⟨gr, 3, none⟩ = some (.bool false) := by
    obtain ⟨sv, tv, hD, -⟩ := h.D
    have e3 := hD.c3
    rw [hdn.2] at e3
    exact e3
  obtain ⟨c0, -, -, -, c4⟩ := h.L.cell
  rw [hdn.1] at c4
  have hsdn := Go.Lib.hid hdn.1
  clear hdn
  replace hd := Go.Lib.hid hd
  replace hap := Go.Lib.hid hap
  have HWx : ∀ (x : World) (r : Int × List UInt8) (B : Option Addr) (cb : Nat), r.2.length ≤ 2000000 → Calls Tryd.prog 101 #[.agg #[.int .i64 r.1, .slice B r.2.length cb]] x (fun e w' => e = .returned (.int .i64 (wrongOf r.1 r.2.length)) ∧ Below x.heap.size x w') := fun x r B cb hb => rwrong_walk x r.1 B r.2.length cb (by omega)
  go_enter Tryd.func69, Tryd.ntmps69
  go_upto_region 3 with fail
  go_wp2
  obtain ⟨w1, rfl⟩ : ∃ x : World, x = w := ⟨_, rfl⟩
  go_loopw [5, 6] (fun u i wr => ∃ j : Nat, j ≤ l.length ∧ i = .int .i64 j ∧ u = .int .i64 (usedOf (l.take j) : Nat) ∧ Below w1.heap.size w1 wr ∧ usedOf (l.take j) ≤ 5000 * j ∧ Hid (wrongsOf l = wrongsOf (l.drop j))) (fun _ i _ => l.length - (intOf i).toNat)
  case atStart => exact ⟨0, by omega, rfl, by simp [usedOf], Below.refl _ _, by simp [usedOf], Go.Lib.hid (by simp)⟩
  case round =>
    obtain ⟨j, hj, rfl, rfl, hBr, hu5, hwr⟩ := hrel
    by_cases hlt : j < l.length
    · have hltz : (j : Int) < (l.length : Int) := by omega
      obtain ⟨g, o, B, cb, hA, hFg, k0, k1, hbB, hFB⟩ := hr.below hBr j hlt
      subst hA
      have hlbj := hlb l[j] (List.getElem_mem _)
      have hwd := wrongsOf_drop l j hlt
      have hut := usedOf_take l j hlt
      have HWj := HWx wr l[j] B cb hlbj
      have HNj : ∀ x, Calls Tryd.prog 51 #[.agg #[.int .i64 (l[j]).1, .slice B (l[j]).2.length cb]] x (fun e w' => e = .returned (.int .i64 (secs (l[j]).2.length : Nat)) ∧ Below x.heap.size x w') := fun x => rsectors3_walk x (l[j]).1 B (l[j]).2.length cb (Nat.le_trans hlbj (by decide))
      generalize l[j] = r at *
      have hw9 : wrongOf r.1 r.2.length = 0 → r.2.length ≤ 262144 := by
        intro e
        unfold wrongOf at e
        split at e
        · omega
        · split at e <;> omega
      generalize wrongOf r.1 r.2.length = e1 at *
      by_cases he : e1 = 0
      · subst he
        have hl9 := hw9 rfl
        have hs9 : secs r.2.length ≤ 5000 := by unfold secs; omega
        rw [if_neg (by simp)] at hwd
        have hwr2 : Hid (wrongsOf l = wrongsOf (l.drop (j + 1))) := Go.Lib.hid (by rw [hwr.out, hwd])
        have hadd : IntKind.i64.wrap ((usedOf (l.take j) : Int) + (secs r.2.length : Int)) = ((usedOf (l.take (j + 1)) : Nat) : Int) := by rw [IntKind.wrap_i64, hut]; omega
        replace hut := Go.Lib.hid hut
        clear hwd hwr
        go_wp2_with (first
          | (go_at_call 51; go_must (refine (HNj w3).mono ?_; rintro e w9 ⟨rfl, hB9⟩))
          | (go_at_call 101; go_must (refine HWj.mono ?_; rintro e w3 ⟨rfl, hB3⟩; have y0 := cell_below hB3 k0; have y1 := cell_below hB3 k1)))
        have hB4 : Below w1.heap.size w1 w9 := (hBr.trans (hB3.mono hBr.size)).trans (hB9.mono (Nat.le_trans hBr.size hB3.size))
        go_roundw
        case rel => exact ⟨j + 1, hlt, by go_num, by first | rfl | (rw [hut.out]; go_num), hB4, by rw [hut.out]; omega, hwr2⟩
        case measure => simp [intOf]; omega
      · have he1 : (e1 != 0) = true := by rw [bne_iff_ne]; exact he
        have he2 : (e1 == 0) = false := by rw [beq_eq_false_iff_ne]; exact he
        rw [if_pos he] at hwd
        have hres : ap = (d, s, e1) := by rw [hap.out, if_pos (by rw [hwr.out, hwd]; exact he), hwr.out, hwd]
        replace hres := Go.Lib.hid hres
        clear hwd hut
        go_wp2_with (go_at_call 101; go_must (refine HWj.mono ?_; rintro e w3 ⟨rfl, hB3⟩))
        go_ret
        rw [hres.out]
        have hB4 : Below w1.heap.size w1 w3 := hBr.trans (hB3.mono hBr.size)
        exact ⟨rfl, col, v, h.below hB4, Step.of_below hB4 (fun _ _ => rfl)⟩
    · have hjl : j = l.length := by omega
      subst hjl
      have hw0 : wrongsOf l = 0 := by rw [hwr.out, List.drop_length]; rfl
      have hkind := wrongsOf_zero l hw0
      have hap2 := hap.out
      rw [if_neg (by simpa using hw0)] at hap2
      clear hap hwr hw0 HWx
      rw [List.take_length] at hu5 ⊢
      have hPr := h.below hBr
      clear c0 c4 e3
      obtain ⟨c0, -, c2, -, -⟩ := hPr.L.cell
      have hhn : halfOf n ≤ 16384 ∧ firstOf n (s.gen + 1) + halfOf n ≤ n ∧ n ≤ 16384 := by
        obtain ⟨sv, tv, hD, -⟩ := h.D
        have := hD.le
        have := hD.pos
        unfold firstOf halfOf
        split <;> omega
      have HH : ∀ x, RM x col gm gr n v d s → Calls Tryd.prog 49 #[.pointer (some ⟨gr, 0, none⟩)] x (Says (.int .i64 (halfOf n : Nat)) x) := fun x hx => by
        obtain ⟨sv, tv, hD, -⟩ := hx.D
        exact rhalf_walk x gr n sv tv d hD
      have HHr := HH wr hPr
      by_cases hful : halfOf n < usedOf l
      · rw [if_pos hful] at hap2
        subst hap2
        have hfz : (halfOf n : Int) < (usedOf l : Int) := by omega
        go_wp2_with (go_at_call 49; go_must (refine HHr.mono ?_); rintro e w9 ⟨rfl, rfl⟩)
        go_ret
        exact ⟨rfl, col, v, hPr, Step.of_below hBr (fun _ _ => rfl)⟩
      · rw [if_neg hful] at hap2
        have hfz : ¬ (halfOf n : Int) < (usedOf l : Int) := by omega
        by_cases hmax : s.gen = 1099511627776
        · rw [if_pos hmax] at hap2
          subst hap2
          have hmz : ((s.gen : Int) == 1099511627776) = true := by rw [beq_iff_eq]; omega
          replace hmax := Go.Lib.hid hmax
          go_wp2_with (go_at_call 49; go_must (refine HHr.mono ?_); rintro e w9 ⟨rfl, rfl⟩)
          go_ret
          exact ⟨rfl, col, v, hPr, Step.of_below hBr (fun _ _ => rfl)⟩
        · rw [if_neg hmax] at hap2
          have hmz : ((s.gen : Int) == 1099511627776) = false := by rw [beq_eq_false_iff_ne]; omega
          replace hap2 := Go.Lib.hid hap2
          go_upto_region 17 with (go_at_call 49; go_must (refine HHr.mono ?_); rintro e w9 ⟨rfl, rfl⟩)
          clear HHr c0 c2
          obtain ⟨wo, rfl⟩ : ∃ wo : World, wo = wr := ⟨_, rfl⟩
          have hrr := hr.below hBr
          have hszr := hBr.size
          have hSr := Step.of_below (i := 2) (j := 4) (col := col) (col' := col) hBr (fun _ _ => rfl)
          clear hr h
          go_wp2
          go_loopw [8, 9, 10] (fun b q i wq => ∃ j : Nat, j ≤ l.length ∧ i = .int .i64 j ∧ wq.ownsRow wo.heap.size 5 1 b (64 * usedOf (l.take j)) (bv (packAll (l.take j))) ∧ RecsAt 102 wq (fun k => wo.heap.size ≤ k ∧ b.ownBlock ≠ some k) q (l.take j) ∧ Below wo.heap.size wo wq) (fun _ _ i _ => l.length - (intOf i).toNat)
          case atStart => exact ⟨0, by omega, rfl, by simpa [usedOf, packAll, bv] using World.ownsRow_nil wo wo.heap.size 5 1, by simpa using RecsAt.nil _ wo _, Below.refl _ _⟩
          case round =>
            obtain ⟨j, hj, rfl, hO, hQ, hBq⟩ := hrel
            by_cases hlt : j < l.length
            · have hltz : (j : Int) < (l.length : Int) := by omega
              obtain ⟨g, o, B, cb, hA, hFg, i0, i1, hbO, hFB⟩ := hrr j hlt
              have k0 := cell_below hBq i0
              have k1 := cell_below hBq i1
              have hbB := hbO.below hBq
              subst hA
              obtain ⟨hk1, hk2, hk3⟩ := hkind l[j] (List.getElem_mem _)
              have hut := usedOf_take l j hlt
              have hpt := packAll_take l j hlt
              have htk : l.take (j + 1) = l.take j ++ [l[j]] := List.take_succ_eq_append_getElem hlt
              have hum : usedOf (l.take j) ≤ 5000 * 1000000 := by
                have h9 : ∀ (l' : List (Int × List UInt8)), (∀ r ∈ l', r.2.length ≤ 262144) → usedOf l' ≤ 5000 * l'.length := by
                  intro l'
                  induction l' with
                  | nil => intro _; simp [usedOf]
                  | cons x l' ih =>
                    intro hx
                    have h1 := ih (fun r hr => hx r (List.mem_cons_of_mem _ hr))
                    have h2 := hx x (List.mem_cons_self ..)
                    have h3 : secs x.2.length ≤ 5000 := by unfold secs; omega
                    unfold usedOf at *
                    rw [List.map_cons, List.sum_cons, List.length_cons]
                    omega
                have h10 := h9 (l.take j) (fun r hr => (hkind r (List.mem_of_mem_take hr)).2.2)
                rw [List.length_take] at h10
                omega
              generalize l[j] = r at *
              have hpl := packB_length r.1.toNat r.2
              have hkn : ((r.1.toNat : Nat) : Int) = r.1 := by omega
              have HP : Calls Tryd.prog 97 #[.agg #[.int .i64 r.1, .slice B r.2.length cb]] wr (RetBys wr.heap.size 5 (packB r.1.toNat r.2) wr) := by
                have := bytes_walk wr r.1.toNat B cb r.2 hbB (by omega) (by omega)
                rw [hkn] at this
                exact this
              have hs9 : secs r.2.length ≤ 5000 := by unfold secs; omega
              have hp1 := secs_pos r.2.length
              generalize packB r.1.toNat r.2 = pk at *
              generalize secs r.2.length = ks at *
              replace hpl := Go.Lib.hid hpl
              replace hut := Go.Lib.hid hut
              replace hpt := Go.Lib.hid hpt
              replace hkn := Go.Lib.hid hkn
              replace htk := Go.Lib.hid htk
              have hszq := hBq.size
              go_upto_region 21 with (first
                | (at_builtin; go_must (refine wpList_append_bys (o := ⟨some 70, _, _, _, _, _⟩) wo wo.heap.size rfl (.tmp 64) (.tmp 69) 22 5 rfl Tryd.underlying22 info_b _ (64 * usedOf (l.take j)) _ rfl hO3 A3 (64 * ks) c3 pk rfl (Bys.own hown3) hB3r hB3r.size (by omega) ?_; intro v4 w4 hown4 hB4 hg4 hat4 hs4))
                | (go_at_call 97; go_must (refine HP.mono ?_; intro e w3 hR; obtain ⟨A3, c3, rfl, hown3, hB3⟩ := hR.len (show pk.length = 64 * ks from hpl.out); have hO3 := own_below hO hB3; have hQ3 := hQ.below hB3; have hB3r := hBq.trans (hB3.mono hszq))))
              have p0 := cell_below hB4 i0
              have p1 := cell_below hB4 i1
              have hb4 := hbO.below hB4
              have hQ4 : RecsAt 102 w4 (fun k => wo.heap.size ≤ k ∧ v4.ownBlock ≠ some k) u9 (l.take j) := by
                refine ((hQ3.mono (Z' := fun k => (wo.heap.size ≤ k ∧ u8.ownBlock ≠ some k) ∧ v4.ownBlock ≠ some k) (fun k hk hz => ⟨hz, ?_⟩)).same (fun k hk hz => hg4.block k hk (fun e => hz.1.2 e.symm))).mono (fun k hk hz => ⟨hz.1.1, hz.2⟩)
                rcases hat4 with e | e
                · rw [e]; exact hz.2
                · rw [e]
                  intro e2
                  have e3 := Option.some.inj e2
                  omega
              have hg5 := heap_alloc_new w4.drew (.cells #[] 5)
              have hB5 : Below w4.heap.size w4 (w4.drew.alloc (.cells #[] 5)) := (below_drew (Below.refl _ _)).alloc (Nat.le_refl _) _
              obtain ⟨A6, c6, w6, hr6, hO6, hB6⟩ := run_clone_bys (P := Tryd.prog) (t := 22) (base := w4.heap.size) Tryd.underlying22 (by kernel_rfl) 22 hg5 (Nat.le_refl _) hB5.size (hb4.below hB5) (by omega)
              have hone := RecsAt.one (T := 102) (k := r.1) hO6
              have hB7 : Below w6.heap.size w6 (w6.alloc (.cells #[.int .i64 r.1, .slice A6 r.2.length c6] 102)) := (Below.refl _ _).alloc (Nat.le_refl _) _
              have hB46 := hB5.trans (hB6.mono hB5.size)
              have hB47 := hB46.trans (hB7.mono hB46.size)
              have hQ7 := hQ4.below hB47
              have hgw : g < wo.heap.size := World.block_lt_of_cell? wo _ i0
              go_region_held_law (fun w' => w'.cell? ⟨g, o + j * 2, none⟩ = some (.int .i64 r.1) ∧ w'.cell? ⟨g, o + j * 2 + 1, none⟩ = some (.slice B r.2.length cb)) (first | exact ⟨p2, p3⟩ | exact ⟨cell_below hB46 p0, cell_below hB46 p1⟩ | exact ⟨p0, p1⟩ | go_keep) ((first
                | (refine step_append_recs (o := ⟨some 86, _, _, _, _, _⟩) rfl (.tmp 71) (.tmp 85) 42 102 rfl (by decide) Tryd.underlying42 info_rrec rfl hQ7 rfl hone (by rw [List.length_take]; simp; omega) ?_; intro v8 w8 hQ8 hg8; have hB8 := below_grown hg8 (B := wo.heap.size) (fun j hj => (hQ7.in_ j hj).1) (Nat.le_trans hs4 hB47.size); have p2 := (World.cell?_of_block (a := ⟨g, o + j * 2, none⟩) (hB8.block g hgw)).trans (cell_below hB47 p0); have p3 := (World.cell?_of_block (a := ⟨g, o + j * 2 + 1, none⟩) (hB8.block g hgw)).trans (cell_below hB47 p1))
                | (refine step_builtin (o := ⟨some 83, _, _, _, _, _⟩) rfl (.tmp 77) (.tmp 82) rfl rfl rfl hr6 ?_)))
              go_wp2
              go_roundw
              case rel =>
                refine ⟨j + 1, hlt, by go_num, ?_, ?_, (hB4.trans (hB47.mono hs4)).trans hB8⟩
                · rw [hut.out, hpt.out, bv_append, Nat.mul_add]
                  refine own_at (own_below hown4 hB47) (fun k hk => hg8.block k (own_lt (own_below hown4 hB47) k hk) (fun e => (hQ7.in_ k e.symm).2 hk))
                · rw [htk.out]
                  refine hQ8.mono (fun k hk hz => ?_)
                  have hne : ∀ k', w4.heap.size ≤ k' → wo.heap.size ≤ k' ∧ v4.ownBlock ≠ some k' := fun k' hk' => ⟨by omega, fun e => by have := own_lt hown4 k' e; omega⟩
                  have h46 := hB46.size
                  have h47 := hB47.size
                  rcases hz with hz | (hz | hz) | hz
                  · exact hz
                  · exact hne k hz
                  · exact hne k (by omega)
                  · exact hne k (by omega)
              case measure => simp [intOf]; omega
            · have hjl : j = l.length := by omega
              subst hjl
              rw [List.take_length] at hO hQ
              obtain ⟨A9, c9, hv9⟩ := own_slice hO
              subst hv9
              have hP9 := hPr.below hBq
              have hbyA := Bys.own hO
              have hcA := Go.Proofs.YtggogenhakdhiaaDoorW.PrintWords.own_le hO
              have hAd : ∀ ad, A9 = some ad → col ad.block ≠ 2 ∧ col ad.block ≠ 4 := fun ad e => by have h1 := own_ad hO e; rw [h7 ad.block (by omega)]; omega
              have hus : usedOf l ≤ halfOf n := by omega
              have hgp : IntKind.i64.wrap ((s.gen : Int) + 1) = ((s.gen + 1 : Nat) : Int) := by rw [IntKind.wrap_i64]; omega
              have HF : ∀ x, RM x col gm gr n v d s → Calls Tryd.prog 48 #[.pointer (some ⟨gr, 0, none⟩), .int .i64 ((s.gen : Int) + 1)] x (Says (.int .i64 (firstOf n (s.gen + 1) : Nat)) x) := fun x hx => by
                obtain ⟨sv, tv, hD, -⟩ := hx.D
                have := rfirst_walk x gr n sv tv d hD (s.gen + 1) (by omega)
                rw [Int.natCast_add] at this
                exact this
              have HL : ∀ x, RM x col gm gr n v d s → Bys x A9 (64 * usedOf l) (packAll l) → Calls Tryd.prog 102 #[.pointer (some ⟨gm, 0, none⟩), .int .i64 (firstOf n (s.gen + 1) : Nat), .slice A9 (64 * usedOf l) c9, .int .i64 (halfOf n : Nat)] x
                  (fun e w' => e = .returned (.int .i64 (layOf n (firstOf n (s.gen + 1)) (packAll l) (usedOf l) (halfOf n) d).2) ∧ ∃ col', RM w' col' gm gr n v (layOf n (firstOf n (s.gen + 1)) (packAll l) (usedOf l) (halfOf n) d).1 { s with down := s.down || decide ((layOf n (firstOf n (s.gen + 1)) (packAll l) (usedOf l) (halfOf n) d).2 ≠ 0) } ∧ Step 2 4 col x w' col') :=
                fun x hx hy => rlay_walk x col gm gr n v d s hx hsdn.out (firstOf n (s.gen + 1)) (usedOf l) (halfOf n) _ c9 A9 _ hy hAd rfl hcA (by omega) (by omega) (by omega)
              have hltr : (layOf n (firstOf n (s.gen + 1)) (packAll l) (usedOf l) (halfOf n) d).1.trail.length ≤ d.trail.length + usedOf l + 1 := layOf_trail _ _ _ _ _ _ _ (Nat.le_refl _)
              have hap3 := hap2.out
              clear hap2
              generalize layOf n (firstOf n (s.gen + 1)) (packAll l) (usedOf l) (halfOf n) d = lay at *
              obtain ⟨d2, e2⟩ := lay
              simp only at hap3 HL hltr
              replace hap3 := Go.Lib.hid hap3
              have hd9 : Below wr.heap.size wr wr.drew := below_drew (Below.refl _ _)
              have HF9 := HF wr.drew (hP9.below hd9)
              have HH9 := HH wr.drew (hP9.below hd9)
              have HL9 := HL wr.drew (hP9.below hd9) hbyA.drew
              obtain ⟨c0, -, c2, -, -⟩ := hP9.L.cell
              clear HF HL HH hO hbyA hcA hAd
              generalize packAll l = pa at *
              go_upto_region 22 with fail
              go_region_held_law (fun w' => w'.cell? ⟨gm, 0, none⟩ = some (.pointer (some ⟨gr, 0, none⟩)) ∧ w'.cell? ⟨gm, 2, none⟩ = some (.int .i64 (s.gen : Nat))) (first | exact ⟨p0, p1⟩ | go_keep) ((first
                | (go_at_call 102; (with_reducible refine HL9.mono ?_); rintro e w6 ⟨rfl, col6, hP6, hS6⟩; obtain ⟨p0, -, p1, -, -⟩ := hP6.L.cell)
                | (go_at_call 49; (with_reducible refine HH9.mono ?_); rintro e w9 ⟨rfl, rfl⟩)
                | (go_at_call 48; (with_reducible refine HF9.mono ?_); rintro e w9 ⟨rfl, rfl⟩)))
              have hS06 : Step 2 4 col w1 w6 col6 := ((hSr.trans (Step.of_below hBq (fun _ _ => rfl))).trans (Step.of_below hd9 (fun _ _ => rfl))).trans hS6
              by_cases he : e2 = 0
              · subst he
                have hap4 := hap3.out
                rw [if_neg (by simp)] at hap4
                have hP7 : RM w6 col6 gm gr n v d2 s := by
                  have hsd6 : ({ s with down := s.down || decide ((0 : Int) ≠ 0) } : LS) = s := by cases s; simp
                  rw [hsd6] at hP6
                  exact hP6
                clear hP6 hap3 HF9 HH9 HL9 p0 p1 c0 c2
                obtain ⟨c0, -, c2, -, -⟩ := hP7.L.cell
                have hd6 : Below w6.heap.size w6 w6.drew := below_drew (Below.refl _ _)
                have HD : Calls Tryd.prog 47 #[.int .i64 ((s.gen : Int) + 1)] w6.drew (RetBys w6.drew.heap.size 5 (headB (s.gen + 1)) w6.drew) := by
                  have := rhead_walk w6.drew (s.gen + 1) (by omega)
                  rw [Int.natCast_add] at this
                  exact this
                have hhl := headB_length (s.gen + 1)
                have HW : ∀ x A' c', Below w6.heap.size w6 x → Bys x A' 64 (headB (s.gen + 1)) → Calls Tryd.prog 12 #[.pointer (some ⟨gr, 0, none⟩), .int .i64 0, .slice A' 64 c'] x
                    (fun e w' => e = .returned (.int .i64 (writeOf n d2 0 (headB (s.gen + 1))).2) ∧ ∃ col', RM w' col' gm gr n v (writeOf n d2 0 (headB (s.gen + 1))).1 s ∧ Step 2 4 col6 x w' col') :=
                  fun x A' c' hx hb' => rm_write x col6 gm gr n v d2 s (hP7.below hx) 0 A' 64 c' _ hb' (by omega)
                generalize writeOf n d2 0 (headB (s.gen + 1)) = wx at *
                generalize headB (s.gen + 1) = hb at *
                obtain ⟨d3, e3⟩ := wx
                simp only at hap4 HW
                replace hhl := Go.Lib.hid hhl
                replace hap4 := Go.Lib.hid hap4
                go_upto_region 24 with fail
                go_region_held_law (fun w' => w'.cell? ⟨gm, 0, none⟩ = some (.pointer (some ⟨gr, 0, none⟩)) ∧ w'.cell? ⟨gm, 2, none⟩ = some (.int .i64 (s.gen : Nat))) (first | exact ⟨p0, p1⟩ | exact ⟨q0, q1⟩ | go_keep) ((first
                  | (go_at_call 12; (refine (HW w7 A7 c7 (hd6.trans hB7) (Bys.own hown7)).mono ?_); rintro e w8 ⟨rfl, col8, hP8, hS8⟩; obtain ⟨p0, -, p1, -, -⟩ := hP8.L.cell)
                  | (go_at_call 47; (with_reducible refine HD.mono ?_); intro e w7 hR; obtain ⟨A7, c7, rfl, hown7, hB7⟩ := hR.len (show hb.length = 64 from hhl.out); have q0 := cell_below (hd6.trans hB7) c0; have q1 := cell_below (hd6.trans hB7) c2)))
                have hS08 : Step 2 4 col w1 w8 col8 := (hS06.trans (Step.of_below (hd6.trans hB7) (fun _ _ => rfl))).trans hS8
                by_cases he3 : e3 = 0
                · subst he3
                  have hapr : ap = (d3, { s with gen := s.gen + 1, recs := l }, 0) := by rw [hap4.out, if_neg (by simp)]
                  subst hapr
                  have hq1 := hS6.chg.size
                  have hq2 := (hd6.trans hB7).size
                  have hQ9 : RecsAt 102 wr.drew (fun k => wo.heap.size ≤ k ∧ k < wr.drew.heap.size) u9 l := (hQ.below hd9).mono (fun k hk hz => ⟨hz.1, hk⟩)
                  have hQ6 : RecsAt 102 w6 (fun k => wo.heap.size ≤ k ∧ k < wr.drew.heap.size) u9 l := hQ9.same (fun k hk hz => hS6.chg.block k hk (fun hs => by have := h7 k (by omega); omega))
                  have hQ8 : RecsAt 102 w8 (fun k => wo.heap.size ≤ k ∧ col8 k = 7) u9 l :=
                    ((hQ6.below (hd6.trans hB7)).same (fun k hk hz => hS8.chg.block k hk (fun hs => by have h1 := hS6.old k hz.2; have := h7 k (by omega); omega))).mono (fun k hk hz => ⟨hz.1, by have h1 := hS6.old k hz.2; have h2 := hS8.old k (by omega); have := h7 k (by omega); omega⟩)
                  obtain ⟨c0, c1, c2, c3, -⟩ := hP8.L.cell
                  have hb8 := hP8.L.blk
                  have hcg8 := hP8.cg
                  have f1 := frozen_of_row w8 gm 1 _ _ hb8
                  have f2 := frozen_of_row w8 gm 2 _ _ hb8
                  have f3 := frozen_of_row w8 gm 3 _ _ hb8
                  obtain ⟨A10, c10, hv10⟩ := hQ8.slice
                  subst hv10
                  go_wp2_with fail
                  go_ret
                  have hC1 : Chg (fun j => j = gm) w8 (((w8.setCell ⟨gm, 1, none⟩ (.slice A10 l.length c10)).setCell ⟨gm, 3, none⟩ (.int .i64 (usedOf l : Nat))).setCell ⟨gm, 2, none⟩ (.int .i64 ((s.gen : Int) + 1))) := (((Chg.refl (fun j => j = gm) w8).setCell (p := ⟨gm, 1, none⟩) rfl _).setCell (p := ⟨gm, 3, none⟩) rfl _).setCell (p := ⟨gm, 2, none⟩) rfl _
                  have hbF := Go.Proofs.YtggogenhakdhiaaDoorW.PrintWords.blk_set (Go.Proofs.YtggogenhakdhiaaDoorW.PrintWords.blk_set (Go.Proofs.YtggogenhakdhiaaDoorW.PrintWords.blk_set hb8 1 (.slice A10 l.length c10)) 3 (.int .i64 (usedOf l : Nat))) 2 (.int .i64 ((s.gen : Int) + 1))
                  have hRF := ((hQ8.ne hb8 (by decide) (by decide)).same (fun j hj hz => hC1.block j hj hz.2)).mono (Z' := fun j => (if wo.heap.size ≤ j ∧ col8 j = 7 then 4 else col8 j) = 4) (fun j hj hz => by rw [if_pos hz.1])
                  have hgw : gm < w1.heap.size := (Array.getElem?_eq_some_iff.1 h.L.blk).1
                  refine ⟨rfl, fun j => if wo.heap.size ≤ j ∧ col8 j = 7 then 4 else col8 j, .slice A10 l.length c10, ⟨?_, ⟨?_, hRF⟩, by show (if _ then _ else _) = _; rw [if_neg (by omega)]; exact hcg8⟩, ⟨hS08.chg.trans hC1 (fun x hx hl => .inr (by rw [hx, ← hS08.old gm hgw]; exact hcg8)), fun j hj => ?_⟩⟩
                  · obtain ⟨sv, tv, hD, hf⟩ := hP8.D
                    exact ⟨sv, tv, hD.chg hC1 (fun j hj hs => by have := hf j hj; rw [hs] at this; omega), fun j hj => by have := hf j hj; show (if _ then _ else _) = _; rw [if_neg (by omega)]; exact this⟩
                  · rw [hbF]
                    show some (Obj.cells #[_, _, _, _, _] _ _) = _
                    rw [show (({ s with gen := s.gen + 1, recs := l } : LS).gen : Nat) = s.gen + 1 from rfl, Int.natCast_add]
                    rfl
                  · show (if _ then _ else _) = _
                    rw [if_neg (by omega)]
                    exact hS08.old j hj
                · have he1 : (e3 != 0) = true := by rw [bne_iff_ne]; exact he3
                  have he2 : (e3 == 0) = false := by rw [beq_eq_false_iff_ne]; exact he3
                  have hapr : ap = (d3, { s with down := true }, e3) := by rw [hap4.out, if_pos he3]
                  subst hapr
                  obtain ⟨c0, -, c2, -, c4⟩ := hP8.L.cell
                  have f4 := frozen_of_row w8 gm 4 _ _ hP8.L.blk
                  go_wp2_with fail
                  go_ret
                  obtain ⟨k1, k2⟩ := hP8.mark true
                  exact ⟨rfl, col8, v, k1, hS08.trans k2⟩
              · have he1 : (e2 != 0) = true := by rw [bne_iff_ne]; exact he
                have he2 : (e2 == 0) = false := by rw [beq_eq_false_iff_ne]; exact he
                have hapr : ap = (d2, { s with down := true }, e2) := by rw [hap3.out, if_pos he]
                subst hapr
                rw [decide_eq_true he, Bool.or_true] at hP6
                clear hap3
                obtain ⟨q0, -, -, -, q4⟩ := hP6.L.cell
                have f4 := frozen_of_row w6 gm 4 _ _ hP6.L.blk
                go_wp2_with fail
                go_ret
                obtain ⟨k1, k2⟩ := hP6.mark true
                exact ⟨rfl, col6, v, k1, hS06.trans k2⟩
end
end Go.Proofs.YtggogenhakdhiaaDoor
end
section
set_option linter.unusedVariables false
set_option linter.unusedSimpArgs false
namespace Go.Proofs.YtggogenhakdhiaaDoor
open Go.RowKit

/-- a log as it may be: it fits, its records are small; of a disk that is down it knows that it is stuck -/
structure GoodS (n : Nat) (d : DS) (s : LS) : Prop where
  used : usedOf s.recs ≤ halfOf n
  gen : 1 ≤ s.gen ∧ s.gen ≤ 1099511627776
  ld : ∀ r ∈ s.recs, r.2.length ≤ 262144 ∧ 1 ≤ r.1 ∧ r.1 ≤ 255
  dn : d.down = true → s.down = true
theorem length_usedOf (l : List (Int × List UInt8)) : l.length ≤ usedOf l := by
  induction l with
  | nil => exact Nat.zero_le _
  | cons r l ih =>
    unfold usedOf at *
    rw [List.map_cons, List.sum_cons, List.length_cons]
    have := secs_pos r.2.length
    omega
theorem writeOf_dn {n : Nat} {d : DS} {z : Int} {b : List UInt8} (hd : d.down = false) (h : (writeOf n d z b).1.down = true) : (writeOf n d z b).2 ≠ 0 := by
  unfold writeOf at *
  split
  · show (2 : Int) ≠ 0; decide
  · split
    · show (9 : Int) ≠ 0; decide
    · split
      · show (50 : Int) ≠ 0; decide
      · rename_i h1 h2 h3
        rw [if_neg h1, if_neg h2, if_neg h3] at h
        cases h
theorem writeOf_ok {n : Nat} {d : DS} {z : Int} {b : List UInt8} (hd : d.down = false) (h : (writeOf n d z b).2 = 0) : (writeOf n d z b).1.down = false := by
  cases hx : (writeOf n d z b).1.down with
  | false => rfl
  | true => exact absurd h (writeOf_dn hd hx)
theorem layDown_ok (n at_ : Nat) (b : List UInt8) : ∀ (k : Nat) (d : DS), d.down = false → (layDown n at_ b k d).2 = 0 → (layDown n at_ b k d).1.down = false
  | 0, d, hd, _ => hd
  | i + 1, d, hd, h => by
    unfold layDown at *
    split
    · rename_i h1
      rw [if_pos h1] at h
      exact layDown_ok n at_ b i _ (writeOf_ok hd h1) h
    · rename_i h1
      rw [if_neg h1] at h
      exact writeOf_ok hd h
theorem layOf_ok {n at_ : Nat} {b : List UInt8} {cnt room : Nat} {d : DS} (hd : d.down = false) (h : (layOf n at_ b cnt room d).2 = 0) : (layOf n at_ b cnt room d).1.down = false := by
  unfold layOf at *
  split
  · rename_i h0
    rw [if_pos h0] at h
    split
    · rename_i h1
      rw [if_pos h1] at h
      exact layDown_ok _ _ _ _ _ (writeOf_ok hd h1) h
    · rename_i h1
      rw [if_neg h1] at h
      exact writeOf_ok hd h
  · rename_i h0
    rw [if_neg h0] at h
    exact layDown_ok _ _ _ _ _ hd h
theorem wrongOf_ok {k : Int} {m : Nat} (h : ¬ wrongOf k m ≠ 0) : 1 ≤ k ∧ k ≤ 255 ∧ m ≤ 262144 := by
  have h : wrongOf k m = 0 := by simpa using h
  unfold wrongOf at h
  split at h
  · omega
  · split at h <;> omega
theorem stuck_same {n : Nat} {d : DS} {s : LS} (h : GoodS n d s) (hd : (s.down || d.down) = true) : ({ s with down := true } : LS) = s := by
  obtain ⟨g, r, b⟩ := s
  cases b with
  | true => rfl
  | false => exact absurd (h.dn (by simpa using hd)) (by simp)
theorem GoodS.down {n : Nat} {d d' : DS} {s : LS} (h : GoodS n d s) : GoodS n d' { s with down := true } := ⟨h.used, h.gen, h.ld, fun _ => rfl⟩
theorem appendOf_good {n : Nat} {d : DS} {s : LS} {r : Int × List UInt8} (h : GoodS n d s) : GoodS n (appendOf n d s r).1 (appendOf n d s r).2.1 := by
  unfold appendOf
  split
  · exact h.down
  · rename_i h0
    split
    · exact h
    · rename_i h1
      split
      · exact h
      · rename_i h2
        split
        · exact h.down
        · rename_i h3
          have hw := wrongOf_ok h1
          refine ⟨?_, h.gen, fun x hx => ?_, fun hx => ?_⟩
          · show usedOf (s.recs ++ [r]) ≤ _
            rw [usedOf_snoc]
            have := h.used
            omega
          · rcases List.mem_append.1 hx with hx | hx
            · exact h.ld x hx
            · rw [List.mem_singleton.1 hx]
              exact ⟨hw.2.2, hw.1, hw.2.1⟩
          · have hd : d.down = false := by simp at h0; exact h0.2
            have := layOf_ok hd (by simpa using h3)
            simp only at hx
            rw [this] at hx
            cases hx
theorem rewriteOf_good {n : Nat} {d : DS} {s : LS} {l : List (Int × List UInt8)} (h : GoodS n d s) : GoodS n (rewriteOf n d s l).1 (rewriteOf n d s l).2.1 := by
  unfold rewriteOf
  split
  · exact h.down
  · rename_i h0
    split
    · exact h
    · rename_i h1
      split
      · exact h
      · rename_i h2
        split
        · exact h
        · rename_i h3
          split
          · exact h.down
          · rename_i h4
            split
            · exact h.down
            · rename_i h5
              have hw := wrongsOf_zero l (by simpa using h1)
              refine ⟨?_, ?_, fun x hx => ?_, fun hx => ?_⟩
              · show usedOf l ≤ _
                omega
              · show 1 ≤ s.gen + 1 ∧ s.gen + 1 ≤ _
                have := h.gen
                omega
              · have := hw x hx
                exact ⟨this.2.2, this.1, this.2.1⟩
              · have hd : d.down = false := by simp at h0; exact h0.2
                have h6 := layOf_ok hd (by simpa using h4)
                have := writeOf_ok h6 (by simpa using h5)
                simp only at hx
                rw [this] at hx
                cases hx
theorem appendOf_trail {n : Nat} {d : DS} {s : LS} {r : Int × List UInt8} : (appendOf n d s r).1.trail.length ≤ d.trail.length + secs r.2.length + 1 := by
  have h := layOf_trail n (firstOf n s.gen + usedOf s.recs) (packB r.1.toNat r.2) (secs r.2.length) (halfOf n - usedOf s.recs) d d.trail.length (Nat.le_refl _)
  unfold appendOf
  repeat' split
  all_goals first
    | exact h
    | (show d.trail.length ≤ _; omega)
theorem rewriteOf_trail {n : Nat} {d : DS} {s : LS} {l : List (Int × List UInt8)} : (rewriteOf n d s l).1.trail.length ≤ d.trail.length + halfOf n + 2 := by
  have h := layOf_trail n (firstOf n (s.gen + 1)) (packAll l) (usedOf l) (halfOf n) d d.trail.length (Nat.le_refl _)
  have h2 : ∀ j, (layOf n (firstOf n (s.gen + 1)) (packAll l) (usedOf l) (halfOf n) d).1.trail.length ≤ j → (writeOf n (layOf n (firstOf n (s.gen + 1)) (packAll l) (usedOf l) (halfOf n) d).1 0 (headB (s.gen + 1))).1.trail.length ≤ j + 1 := fun j hj => writeOf_trail hj
  have h3 := h2 _ h
  unfold rewriteOf
  repeat' split
  all_goals first
    | (show d.trail.length ≤ _; omega)
    | (show (layOf _ _ _ _ _ _).1.trail.length ≤ _; omega)
    | (show (writeOf _ _ _ _).1.trail.length ≤ _; omega)
section
variable (w : World) (col : Nat → Nat) (gl ga n : Nat) (v : Value) (d : DS) (s : LS)
theorem append_walk (h : PM w col gl ga n v d s) (hn : n ≤ 16384) (k : Int) (A : Option Addr) (c : Nat) (l : List UInt8) (hG : GoodS n d s) (hb : Bys w A l.length l) (hA : ∀ ad, A = some ad → col ad.block ≠ 1 ∧ col ad.block ≠ 3)
    (ht : TabAt w) (htc : col 0 = 0) (htr : d.trail.length + secs l.length + 1 ≤ 1000000) :
    Calls Tryd.prog 21 #[.pointer (some ⟨gl, 0, none⟩), .agg #[.int .i64 k, .slice A l.length c]] w (PActs (.int .i64 (appendOf n d s (k, l)).2.2) col gl ga n (appendOf n d s (k, l)).1 (appendOf n d s (k, l)).2.1 w) := by
  have hmx := hb.max
  have hhn : halfOf n ≤ 16384 := by unfold halfOf; omega
  by_cases hd : (s.down || d.down) = true
  · have := append_stuck w col gl ga n v d s k A c l h hd
    unfold appendOf
    rw [if_pos hd]
    exact this
  · have hdf : (s.down || d.down) = false := by simpa using hd
    by_cases hw : wrongOf k l.length ≠ 0
    · have := append_wrong w col gl ga n v d s k A c l h hdf hmx hw
      unfold appendOf
      rw [if_neg hd, if_pos hw]
      exact this
    · have hwo := wrongOf_ok hw
      by_cases hf : halfOf n - usedOf s.recs < secs l.length
      · have := append_full w col gl ga n v d s k A c l h hdf (by simpa using hw) hG.used hwo.2.2 hf
        unfold appendOf
        rw [if_neg hd, if_neg hw, if_pos hf]
        exact this
      · have := hG.gen
        have := hG.used
        have := length_usedOf s.recs
        exact append_lay w col gl ga n v d s k A c l h hdf (by simpa using hw) hG.used hwo.2.2 hf hb hA (by omega) (by omega) ht htc htr
theorem rewrite_walk (h : PM w col gl ga n v d s) (A : Option Addr) (c : Nat) (l : List (Int × List UInt8)) (hG : GoodS n d s) (hr : RecsF w (fun k => col k ≠ 1 ∧ col k ≠ 3) A l) (hlc : l.length ≤ c) (hll : l.length ≤ 1000000) (hlb : ∀ r ∈ l, r.2.length ≤ 2000000)
    (ht : TabAt w) (htc : col 0 = 0) (htr : d.trail.length + 17000 ≤ 1000000) :
    Calls Tryd.prog 24 #[.pointer (some ⟨gl, 0, none⟩), .slice A l.length c] w (PActs (.int .i64 (rewriteOf n d s l).2.2) col gl ga n (rewriteOf n d s l).1 (rewriteOf n d s l).2.1 w) := by
  by_cases hd : (s.down || d.down) = true
  · have := rewrite_stuck w col gl ga n v d s A c l h hd
    unfold rewriteOf
    rw [if_pos hd]
    exact this
  · exact rewrite_go w col gl ga n v d s A c l h (by simpa using hd) hG.gen.2 hr hlc hll (fun r hr => by have := hlb r hr; omega) ht htc htr
end
section
variable (w : World) (col : Nat → Nat) (gm gr n : Nat) (v : Value) (d : DS) (s : LS)
theorem rappend_walk (h : RM w col gm gr n v d s) (hn : n ≤ 16384) (k : Int) (A : Option Addr) (c : Nat) (l : List UInt8) (hG : GoodS n d s) (hb : Bys w A l.length l) (hA : ∀ ad, A = some ad → l.length = 0 ∨ (col ad.block ≠ 2 ∧ col ad.block ≠ 4))
    (htr : d.trail.length + secs l.length + 1 ≤ 1000000) :
    Calls Tryd.prog 70 #[.pointer (some ⟨gm, 0, none⟩), .agg #[.int .i64 k, .slice A l.length c]] w (RActs (.int .i64 (appendOf n d s (k, l)).2.2) col gm gr n (appendOf n d s (k, l)).1 (appendOf n d s (k, l)).2.1 w) := by
  have hmx := hb.max
  have hhn : halfOf n ≤ 16384 := by unfold halfOf; omega
  by_cases hd : (s.down || d.down) = true
  · have := rappend_stuck w col gm gr n v d s k A c l h hd
    unfold appendOf
    rw [if_pos hd, stuck_same hG hd]
    exact this
  · have hdf : (s.down || d.down) = false := by simpa using hd
    by_cases hw : wrongOf k l.length ≠ 0
    · have := rappend_wrong w col gm gr n v d s k A c l h hdf hmx hw
      unfold appendOf
      rw [if_neg hd, if_pos hw]
      exact this
    · have hwo := wrongOf_ok hw
      by_cases hf : halfOf n - usedOf s.recs < secs l.length
      · have := rappend_full w col gm gr n v d s k A c l h hdf (by simpa using hw) hG.used hwo.2.2 hf
        unfold appendOf
        rw [if_neg hd, if_neg hw, if_pos hf]
        exact this
      · have := hG.gen
        have := hG.used
        have := length_usedOf s.recs
        exact rappend_lay w col gm gr n v d s k A c l h hdf (by simpa using hw) hG.used hwo.2.2 hf hb hA (by omega) (by omega) htr
theorem rrewrite_walk (h : RM w col gm gr n v d s) (A : Option Addr) (c : Nat) (l : List (Int × List UInt8)) (hG : GoodS n d s) (hr : RecsF w (fun k => col k ≠ 2 ∧ col k ≠ 4) A l) (hlc : l.length ≤ c) (hll : l.length ≤ 1000000) (hlb : ∀ r ∈ l, r.2.length ≤ 2000000)
    (htr : d.trail.length + 17000 ≤ 1000000) :
    Calls Tryd.prog 69 #[.pointer (some ⟨gm, 0, none⟩), .slice A l.length c] w (RActs (.int .i64 (rewriteOf n d s l).2.2) col gm gr n (rewriteOf n d s l).1 (rewriteOf n d s l).2.1 w) := by
  by_cases hd : (s.down || d.down) = true
  · have := rrewrite_stuck w col gm gr n v d s A c l h hd
    unfold rewriteOf
    rw [if_pos hd, stuck_same hG hd]
    exact this
  · exact rrewrite_go w col gm gr n v d s A c l h (by simpa using hd) hG.gen.2 hr hlc hll hlb htr
end
end Go.Proofs.YtggogenhakdhiaaDoor
end
section
set_option linter.unusedVariables false
set_option linter.unusedSimpArgs false
attribute [local go_sem ↓] Go.wp_at_zero Go.wp_at_succ
namespace Go.Proofs.YtggogenhakdhiaaDoor
open Go.RowKit

set_option maxHeartbeats 4000000 in
set_option maxRecDepth 20000 in
theorem of_walk (w : World) (A : Option Addr) (c : Nat) (l : List (Int × List UInt8)) (h : RecsF w (fun k => k < w.heap.size) A l) (hlc : l.length ≤ c) (hll : l.length ≤ 1000000) (hlb : ∀ r ∈ l, r.2.length ≤ 2000000) :
    Calls Tryd.prog 68 #[.slice A l.length c] w (fun e w' => ∃ v, e = .returned v ∧ RecsAt 50 w' (fun k => w.heap.size ≤ k) v l ∧ Below w.heap.size w w') := by
  go_enter Tryd.func68, Tryd.ntmps68
  go_wp2
  go_loopw [3, 4] (fun q i wq => ∃ j : Nat, j ≤ l.length ∧ i = .int .i64 j ∧ RecsAt 50 wq (fun k => w.heap.size ≤ k) q (l.take j) ∧ Below w.heap.size w wq) (fun _ i _ => l.length - (intOf i).toNat)
  case atStart => exact ⟨0, by omega, rfl, by simpa using RecsAt.nil _ w _, Below.refl _ _⟩
  case round =>
    obtain ⟨j, hj, rfl, hQ, hBq⟩ := hrel
    by_cases hlt : j < l.length
    · have hltz : (j : Int) < (l.length : Int) := by omega
      obtain ⟨g, o, B, cb, hA, hFg, i0, i1, hbO, hFB⟩ := h j hlt
      have p0 := cell_below hBq i0
      have p1 := cell_below hBq i1
      have hbB := hbO.below hBq
      subst hA
      have htk : l.take (j + 1) = l.take j ++ [l[j]] := List.take_succ_eq_append_getElem hlt
      have hbl := hlb l[j] (List.getElem_mem _)
      generalize l[j] = r at *
      have hszq := hBq.size
      replace htk := Go.Lib.hid htk
      have hg5 := heap_alloc_new wr.drew (.cells #[] 5)
      have hB5 : Below wr.heap.size wr (wr.drew.alloc (.cells #[] 5)) := (below_drew (Below.refl _ _)).alloc (Nat.le_refl _) _
      obtain ⟨A6, c6, w6, hr6, hO6, hB6⟩ := run_clone_bys (P := Tryd.prog) (t := 22) (base := wr.heap.size) Tryd.underlying22 (by kernel_rfl) 22 hg5 (Nat.le_refl _) hB5.size (hbB.below hB5) (by omega)
      have hone := RecsAt.one (T := 50) (k := r.1) hO6
      have hB7 : Below w6.heap.size w6 (w6.alloc (.cells #[.int .i64 r.1, .slice A6 r.2.length c6] 50)) := (Below.refl _ _).alloc (Nat.le_refl _) _
      have hB46 := hB5.trans (hB6.mono hB5.size)
      have hB47 := hB46.trans (hB7.mono hB46.size)
      have hQ7 := hQ.below hB47
      have hgw : g < w.heap.size := World.block_lt_of_cell? w _ i0
      go_upto_region 5 with fail
      go_region_held_law (fun w' => w'.cell? ⟨g, o + j * 2, none⟩ = some (.int .i64 r.1) ∧ w'.cell? ⟨g, o + j * 2 + 1, none⟩ = some (.slice B r.2.length cb)) (first | exact ⟨p2, p3⟩ | exact ⟨cell_below hB46 p0, cell_below hB46 p1⟩ | exact ⟨p0, p1⟩ | go_keep) ((first
        | (refine step_append_recs (o := ⟨some 26, _, _, _, _, _⟩) rfl (.tmp 11) (.tmp 25) 44 50 rfl (by decide) Tryd.underlying44 info_rec rfl hQ7 rfl hone (by rw [List.length_take]; simp; omega) ?_; intro v8 w8 hQ8 hg8; have hB8 := below_grown hg8 (B := w.heap.size) (fun j hj => (hQ7.in_ j hj)) (Nat.le_trans hszq hB47.size); have p2 := (World.cell?_of_block (a := ⟨g, o + j * 2, none⟩) (hB8.block g hgw)).trans (cell_below hB47 p0); have p3 := (World.cell?_of_block (a := ⟨g, o + j * 2 + 1, none⟩) (hB8.block g hgw)).trans (cell_below hB47 p1))
        | (refine step_builtin (o := ⟨some 23, _, _, _, _, _⟩) rfl (.tmp 17) (.tmp 22) rfl rfl rfl hr6 ?_)))
      go_wp2
      go_roundw
      case rel =>
        refine ⟨j + 1, hlt, by go_num, ?_, (hBq.trans (hB47.mono hszq)).trans hB8⟩
        rw [htk.out]
        refine hQ8.mono (fun k hk hz => ?_)
        have h46 := hB46.size
        have h47 := hB47.size
        rcases hz with hz | (hz | hz) | hz
        · exact hz
        · omega
        · omega
        · omega
      case measure => simp [intOf]; omega
    · have hjl : j = l.length := by omega
      subst hjl
      rw [List.take_length] at hQ
      go_wp2
      go_ret
      exact ⟨_, rfl, hQ, hBq⟩
end Go.Proofs.YtggogenhakdhiaaDoor
end
section
set_option linter.unusedVariables false
set_option linter.unusedSimpArgs false
namespace Go.Proofs.YtggogenhakdhiaaDoor
open Go.RowKit

theorem Rdv.at_ {w : World} {A : Option Addr} {n : Nat} {l : List Int} (h : Rdv w A n (iv l)) (k : Nat) (hk : k < n) : ∃ ad, A = some ad ∧ w.cell? (ad.add k) = some (.int .i64 (l.getD k 0)) := by
  have hl := h.len
  rw [iv_length] at hl
  exact h.cell k _ (by rw [iv_getElem?, List.getD_eq_getElem?_getD, List.getElem?_eq_getElem (by omega)]; rfl)
theorem take_getD_succ {l : List Int} {k : Nat} (hk : k < l.length) : l.take (k + 1) = l.take k ++ [l.getD k 0] := by
  rw [List.take_succ_eq_append_getElem hk, List.getD_eq_getElem?_getD, List.getElem?_eq_getElem hk]; rfl
set_option maxHeartbeats 1000000 in
theorem sameInts_walk (w : World) (A B : Option Addr) (n m c c' : Nat) (l r : List Int) (ha : Rdv w A n (iv l)) (hb : Rdv w B m (iv r)) (hn : n ≤ 9223372036854775807) (hm : m ≤ 9223372036854775807) :
    Calls Tryd.prog 31 #[.slice A n c, .slice B m c'] w (Tells w.heap.size (.bool (decide (l = r))) w) := by
  have hl : l.length = n := by have := ha.len; rwa [iv_length] at this
  have hr : r.length = m := by have := hb.len; rwa [iv_length] at this
  by_cases hnm : n = m
  · subst hnm
    go_enter Tryd.func31, Tryd.ntmps31
    go_wp2
    go_loopw [5] (fun i wr => ∃ k : Nat, k ≤ n ∧ i = .int .i64 k ∧ l.take k = r.take k ∧ Below w.heap.size w wr) (fun i _ => n - (intOf i).toNat)
    case atStart => exact ⟨0, by omega, rfl, by simp, Below.refl _ _⟩
    case round =>
      obtain ⟨k, hk, rfl, ht, hBr⟩ := hrel
      by_cases hlt : k < n
      · obtain ⟨ad, rfl, hca⟩ := (ha.below hBr).at_ k hlt
        obtain ⟨bd, rfl, hcb⟩ := (hb.below hBr).at_ k hlt
        have e1 := take_getD_succ (l := l) (k := k) (by omega)
        have e2 := take_getD_succ (l := r) (k := k) (by omega)
        by_cases hv : l.getD k 0 = r.getD k 0
        · have hT : l.take (k + 1) = r.take (k + 1) := by rw [e1, e2, ht, hv]
          generalize l.getD k 0 = x at *
          generalize r.getD k 0 = y at *
          subst hv
          clear e1 e2
          go_wp2
          go_quiet (fail)
          go_wp2
          go_roundw
          case rel => exact ⟨k + 1, hlt, by go_num, hT, below_drewN hBr _⟩
          case measure => simp [intOf]; omega
        · have hne : l ≠ r := by
            intro e
            exact hv (by rw [e])
          have hd : decide (l = r) = false := by simpa using hne
          rw [hd]
          generalize l.getD k 0 = x at *
          generalize r.getD k 0 = y at *
          have hxy : (x == y) = false := by simpa using hv
          clear e1 e2
          go_wp2
          go_quiet (fail)
          go_wp2
          go_ret
          exact ⟨rfl, below_drewN hBr _⟩
      · have hk' : k = n := by omega
        subst hk'
        have e : l = r := by
          rw [List.take_of_length_le (by omega), List.take_of_length_le (by omega)] at ht
          exact ht
        have hd : decide (l = r) = true := by simpa using e
        go_wp2
        go_ret
        exact ⟨by rw [hd]; rfl, hBr⟩
  · have hne : l ≠ r := by
      rintro rfl
      omega
    have hd : decide (l = r) = false := by simpa using hne
    rw [hd]
    go_enter Tryd.func31, Tryd.ntmps31
    go_wp2
    go_ret
    exact ⟨rfl, Below.refl _ _⟩
end Go.Proofs.YtggogenhakdhiaaDoor
end
section
set_option linter.unusedVariables false
set_option linter.unusedSimpArgs false
attribute [local go_sem ↓] Go.wp_at_zero Go.wp_at_succ
namespace Go.Proofs.YtggogenhakdhiaaDoor
open Go.RowKit

/-- some bytes that can be written -/
def U8s (w : World) (Z : Nat → Prop) (A : Option Addr) (m : Nat) : Prop :=
  ∀ j, j < m → ∃ g, A = some ⟨g, 0, none⟩ ∧ Z g ∧ w.frozen? ⟨g, j, none⟩ = false ∧ ∃ z : Int, 0 ≤ z ∧ z < 256 ∧ w.cell? ⟨g, j, none⟩ = some (.int .u8 z)
/-- records that can be written over -/
def RecsU (w : World) (Z : Nat → Prop) (A : Option Addr) (n : Nat) : Prop :=
  ∀ i, i < n → ∃ g, A = some ⟨g, 0, none⟩ ∧ Z g ∧ w.frozen? ⟨g, i * 2, none⟩ = false ∧ (∃ k : Int, w.cell? ⟨g, i * 2, none⟩ = some (.int .i64 k)) ∧ ∃ B m c, w.cell? ⟨g, i * 2 + 1, none⟩ = some (.slice B m c) ∧ m ≤ 9223372036854775807 ∧ U8s w Z B m
theorem cell_after (w : World) (p q : Addr) (u v x : Value) (hp : w.cell? p = some u) (hq : w.cell? q = some v) (hne : p ≠ q) : (w.setCell p x).cell? q = some v := (World.cell?_setCell_other _ _ _ _ hne).trans hq
theorem cell_apart (w : World) (p q : Addr) (u v x : Value) (hp : w.cell? p = some u) (hq : w.cell? q = some v) (hne : u ≠ v) : (w.setCell p x).cell? q = some v :=
  cell_after w p q u v x hp hq fun e => hne (by rw [e, hq] at hp; exact (Option.some.inj hp).symm)
theorem cell_same (w : World) (p : Addr) (u x : Value) (hp : w.cell? p = some u) : (w.setCell p x).cell? p = some x := World.cell?_setCell_same _ _ _ hp
section
variable {w : World} {Z : Nat → Prop} {A : Option Addr} {n : Nat}
theorem U8s.set {B : Option Addr} {m : Nat} (h : U8s w Z B m) {p : Addr} {y : Int} (hp : w.cell? p = some (.int .u8 y)) (x : Int) (h0 : 0 ≤ x) (h1 : x < 256) : U8s (w.setCell p (.int .u8 x)) Z B m := by
  intro j hj
  obtain ⟨g, e, hz, hf, z, z0, z1, hc⟩ := h j hj
  refine ⟨g, e, hz, by rw [World.frozen?_setCell]; exact hf, ?_⟩
  by_cases he : p = ⟨g, j, none⟩
  · subst he
    exact ⟨x, h0, h1, cell_same _ _ _ _ hp⟩
  · exact ⟨z, z0, z1, cell_after _ _ _ _ _ _ hp hc he⟩
theorem U8s.set' {B : Option Addr} {m : Nat} (h : U8s w Z B m) {p : Addr} {y : Int} (hp : w.cell? p = some (.int .i64 y)) (x : Value) : U8s (w.setCell p x) Z B m := by
  intro j hj
  obtain ⟨g, e, hz, hf, z, z0, z1, hc⟩ := h j hj
  exact ⟨g, e, hz, by rw [World.frozen?_setCell]; exact hf, z, z0, z1, cell_apart _ _ _ _ _ _ hp hc (by simp)⟩
theorem RecsU.set (h : RecsU w Z A n) {p : Addr} {y : Int} (hp : w.cell? p = some (.int .u8 y)) (x : Int) (h0 : 0 ≤ x) (h1 : x < 256) : RecsU (w.setCell p (.int .u8 x)) Z A n := by
  intro i hi
  obtain ⟨g, e, hz, hf, ⟨k, hk⟩, B, m, c, hb, hm, hu⟩ := h i hi
  exact ⟨g, e, hz, by rw [World.frozen?_setCell]; exact hf, ⟨k, cell_apart _ _ _ _ _ _ hp hk (by simp)⟩, B, m, c, cell_apart _ _ _ _ _ _ hp hb (by simp), hm, hu.set hp x h0 h1⟩
theorem RecsU.set' (h : RecsU w Z A n) {p : Addr} {y : Int} (hp : w.cell? p = some (.int .i64 y)) (x : Int) : RecsU (w.setCell p (.int .i64 x)) Z A n := by
  intro i hi
  obtain ⟨g, e, hz, hf, ⟨k, hk⟩, B, m, c, hb, hm, hu⟩ := h i hi
  refine ⟨g, e, hz, by rw [World.frozen?_setCell]; exact hf, ?_, B, m, c, cell_apart _ _ _ _ _ _ hp hb (by simp), hm, hu.set' hp _⟩
  by_cases he : p = ⟨g, i * 2, none⟩
  · subst he
    exact ⟨x, cell_same _ _ _ _ hp⟩
  · exact ⟨k, cell_after _ _ _ _ _ _ hp hk he⟩
theorem OwnB.u8s {B : Option Addr} {m c : Nat} {l : List UInt8} (h : OwnB w Z B m c l) : U8s w Z B m := by
  intro j hj
  rcases h.own.2 with ⟨e, h0⟩ | ⟨g, cap, cur, e, _, hh, _⟩
  · omega
  · cases e
    have hl := h.bys.len
    obtain ⟨ad, e', hc⟩ := h.bys.cell j hj
    cases e'
    rw [add_plain] at hc
    have := (l.getD j 0).toNat_lt
    exact ⟨g, rfl, h.in_ g (by simp [Value.ownBlock]), frozen_of_row w g j _ _ hh, _, by omega, by omega, hc⟩
theorem RecsAt.u {T : TypeId} {v : Value} {l : List (Int × List UInt8)} (h : RecsAt T w Z v l) : ∃ A c, v = .slice A l.length c ∧ RecsU w Z A l.length := by
  obtain ⟨xs, ho, hx⟩ := h.ex
  obtain ⟨A, c, hv⟩ := own_slice ho
  refine ⟨A, c, hv, fun i hi => ?_⟩
  obtain ⟨g, cap, B, c', hv', k0, k1, hO⟩ := h.cell (List.getElem?_eq_getElem hi)
  rw [hv] at hv'
  cases hv'
  rcases ho.2 with ⟨e, h0⟩ | ⟨g', cap', cur, e, _, hh, _⟩
  · omega
  · rw [hv] at e
    cases e
    rw [Nat.mul_comm] at k0 k1
    refine ⟨g, rfl, h.in_ g (by rw [hv]; simp [Value.ownBlock]), frozen_of_row w g _ _ _ hh, ⟨_, k0⟩, B, _, c', k1, ?_, hO.u8s⟩
    have := hO.bys.max
    exact this
end
set_option maxHeartbeats 1000000 in
set_option maxRecDepth 20000 in
theorem spoil_walk (w : World) (Z : Nat → Prop) (A : Option Addr) (n c : Nat) (h : RecsU w Z A n) (hn : n ≤ 9223372036854775807) :
    Calls Tryd.prog 55 #[.slice A n c] w (fun e w' => e = .returned (.tuple #[]) ∧ Chg Z w w') := by
  go_enter Tryd.func55, Tryd.ntmps55
  go_wp2
  go_loopw [2] (fun i wr => ∃ j : Nat, j ≤ n ∧ i = .int .i64 j ∧ RecsU wr Z A n ∧ Chg Z w wr) (fun i _ => n - (intOf i).toNat)
  case atStart => exact ⟨0, by omega, rfl, h, Chg.refl _ _⟩
  case round =>
    obtain ⟨j, hj, rfl, hU, hC⟩ := hrel
    by_cases hlt : j < n
    · have hltz : (j : Int) < (n : Int) := by omega
      obtain ⟨g, rfl, hZg, -, -, B, m, cb, hb, hm, hu⟩ := hU j hlt
      go_wp2
      go_loopw [3] (fun i wq => ∃ k : Nat, k ≤ m ∧ i = .int .i64 k ∧ RecsU wq Z (some ⟨g, 0, none⟩) n ∧ U8s wq Z B m ∧ wq.cell? ⟨g, j * 2 + 1, none⟩ = some (.slice B m cb) ∧ Chg Z w wq) (fun i _ => m - (intOf i).toNat)
      case atStart => exact ⟨0, by omega, rfl, hU, hu, hb, hC⟩
      case round =>
        clear hU hu hb hC
        obtain ⟨k, hk, rfl, hU, hu, hb, hC⟩ := hrel
        by_cases hlk : k < m
        · have hlkz : (k : Int) < (m : Int) := by omega
          obtain ⟨gb, rfl, hZb, hf, z, z0, z1, hc⟩ := hu k hlk
          have hw0 := IntKind.wrap_u8 (z + 1)
          have hx : 0 ≤ IntKind.u8.wrap (z + 1) ∧ IntKind.u8.wrap (z + 1) < 256 := by rw [hw0]; omega
          generalize hxx : IntKind.u8.wrap (z + 1) = x at *
          replace hxx := Go.Lib.hid hxx
          clear hw0
          go_wp2
          go_roundw
          case rel => exact ⟨k + 1, hlk, by go_num, hU.set hc _ (by omega) (by omega), hu.set hc _ (by omega) (by omega), cell_apart _ _ _ _ _ _ hc hb (by simp), hC.setCell hZb _⟩
          case measure => simp [intOf]; omega
        · have hkm : k = m := by omega
          obtain ⟨g', e', _, hf, ⟨kk, hkk⟩, _⟩ := hU j hlt
          cases e'
          go_wp2
          go_roundw
          case rel => exact ⟨j + 1, hlt, by go_num, hU.set' hkk _, hC.setCell hZg _⟩
          case measure => simp [intOf]; omega
    · go_wp2
      go_end0
      exact ⟨rfl, hC⟩
end Go.Proofs.YtggogenhakdhiaaDoor
end
section
set_option linter.unusedVariables false
set_option linter.unusedSimpArgs false
attribute [local go_sem ↓] Go.wp_at_zero Go.wp_at_succ
namespace Go.Proofs.YtggogenhakdhiaaDoor
open Go.RowKit

set_option maxRecDepth 20000 in
theorem alike_nil (w : World) (p : Option Addr) :
    Calls Tryd.prog 15 #[.pointer p, .pointer none] w (Says (.bool true) w) := by
  go_enter Tryd.func15, Tryd.ntmps15
  go_wp2
  go_ret
  exact ⟨rfl, rfl⟩
set_option maxRecDepth 20000 in
theorem alike_broken (w : World) (p : Option Addr) (Z : Nat → Prop) (gm g : Nat) (v : Value) (s : LS) (h : RLog w Z gm g v s) (hd : s.down = true) :
    Calls Tryd.prog 15 #[.pointer p, .pointer (some ⟨gm, 0, none⟩)] w (Says (.bool true) w) := by
  obtain ⟨-, -, -, -, c4⟩ := h.cell
  rw [hd] at c4
  clear h hd
  go_enter Tryd.func15, Tryd.ntmps15
  go_wp2
  go_ret
  exact ⟨rfl, rfl⟩
set_option maxHeartbeats 1000000 in
set_option maxRecDepth 20000 in
theorem alike_ok (w : World) (Z Z' : Nat → Prop) (gl gm g g' n : Nat) (v v' sv tv sv' tv' : Value) (s s' : LS) (d d' : DS) (hP : PLog w Z gl g v s) (hR : RLog w Z' gm g' v' s') (hs : s'.recs = s.recs ∧ s'.gen = s.gen) (hd : s'.down = false)
    (hDP : PDsk w g sv tv n d) (hDR : RDsk w g' sv' tv' n d') (hu : usedOf s.recs ≤ halfOf n) (hl : s.recs.length ≤ 1000000000) (hb : ∀ r ∈ s.recs, r.2.length ≤ 100000000000000) :
    Calls Tryd.prog 15 #[.pointer (some ⟨gl, 0, none⟩), .pointer (some ⟨gm, 0, none⟩)] w (fun e w' => e = .returned (.bool true) ∧ Below w.heap.size w w') := by
  obtain ⟨c0, c1, c2, c3, c4⟩ := hR.cell
  obtain ⟨sg, sr, sd⟩ := s'
  obtain ⟨hs1, hs2⟩ := hs
  simp only at hs1 hs2 hd
  subst hs1 hs2 hd
  simp only at c0 c1 c2 c3 c4
  have HR := records_walk w Z gl g v s hP hl hb
  have hRr : RecsAt 102 w Z' v' s.recs := hR.recs
  obtain ⟨A', c', rfl⟩ := hRr.slice
  go_enter Tryd.func15, Tryd.ntmps15
  go_upto_region 6 with (go_at_call 22; go_must (refine HR.mono ?_; rintro e w1 ⟨v1, rfl, hR1, hB1⟩; obtain ⟨A1, k1, hv1⟩ := hR1.slice; subst hv1))
  have hP1 := hP.chain hB1
  have hQ1 := hR.chain hB1
  have hDP1 := hDP.below hB1
  have hDR1 := hDR.below hB1
  have hd1 : Below w1.heap.size w1 w1.drew := below_drew (Below.refl _ _)
  have HS := same_recs w1.drew _ _ _ _ s.recs (hR1.below hd1) (hQ1.recs.below hd1)
  have y1 := cell_below hB1 c1
  have y2 := cell_below hB1 c2
  go_region_held_law (fun w' => w'.cell? ⟨gm, 1, none⟩ = some (.slice A' s.recs.length c') ∧ w'.cell? ⟨gm, 2, none⟩ = some (.int .i64 (s.gen : Nat))) (first | go_keep | exact ⟨x1, x2⟩) ((first
    | (go_at_call 28; (with_reducible refine HG4.mono ?_); rintro e w5 ⟨rfl, rfl⟩)
    | (go_at_call 54; (with_reducible refine HM3.mono ?_); rintro e w4 ⟨rfl, rfl⟩)
    | (go_at_call 53; (with_reducible refine HL2.mono ?_); rintro e w3 ⟨rfl, rfl⟩)
    | (go_at_call 52; (with_reducible refine HS.mono ?_); rintro e w2 ⟨rfl, hB2⟩; have hB2' := hd1.trans hB2; have x1 := cell_below hB2' y1; have x2 := cell_below hB2' y2; have HL2 := room_walk w2 _ gl g _ s (hP1.chain hB2') n sv tv d (hDP1.below hB2') hu; have hB2d : Below w1.heap.size w1 w2.drew := below_drew hB2'; have HM3 := rroom_walk w2.drew _ gm g' _ _ (hQ1.chain hB2d) n sv' tv' d' (hDR1.below hB2d) hu; have hB2e : Below w1.heap.size w1 w2.drew.drew := below_drew hB2d; have HG4 := gen_walk w2.drew.drew _ gl g _ s (hP1.chain hB2e))))
  have hRe := hR1.below hB2e
  obtain ⟨A2, k2, he2, hU⟩ := hRe.u
  cases he2
  have HSP := spoil_walk w2.drew.drew (fun k => w.heap.size ≤ k) A1 s.recs.length k1 hU (by omega)
  clear HS HR HL2 HM3 HG4 hP1 hQ1 hDP1 hDR1 hU hRe hR1
  go_wp2_with (go_at_call 55; go_must (refine HSP.mono ?_; rintro e w6 ⟨rfl, hC6⟩))
  go_ret
  exact ⟨rfl, (hB1.trans (hB2e.mono hB1.size)).trans (hC6.below (by have := hB2e.size; have := hB1.size; omega) (fun k hk => by omega))⟩
end Go.Proofs.YtggogenhakdhiaaDoor
end
section
set_option linter.unusedVariables false
set_option linter.unusedSimpArgs false
namespace Go.Proofs.YtggogenhakdhiaaDoor
open Go.RowKit

/-- an act -/
structure ActV where
  kind : Int
  recs : List (Int × List UInt8)
  n : Int
  b : List UInt8
/-- the logs, where there are any: the program's block, the document's, what both tell -/
abbrev Lg := Option (Nat × Nat × LS)
def pv : Lg → Value
  | none => .pointer none
  | some (gl, _, _) => .pointer (some ⟨gl, 0, none⟩)
def rv : Lg → Value
  | none => .pointer none
  | some (_, gm, _) => .pointer (some ⟨gm, 0, none⟩)
/-- the program's side -/
structure PS (w : World) (col : Nat → Nat) (ga n : Nat) (d : DS) (lg : Lg) : Prop where
  D : PIn w col ga n d
  L : ∀ gl gm s, lg = some (gl, gm, s) → ∃ v, PM w col gl ga n v d s
/-- the document's side -/
structure RS (w : World) (col : Nat → Nat) (gr n : Nat) (d : DS) (lg : Lg) : Prop where
  D : RIn w col gr n d
  L : ∀ gl gm s, lg = some (gl, gm, s) → ∃ v, RM w col gm gr n v d s
section
variable {w w' : World} {col col' : Nat → Nat} {ga gr n : Nat} {d d' : DS} {lg : Lg} {S : Nat → Prop}
theorem PIn.frame (h : PIn w col ga n d) (hc : Chg S w w') (hS : ∀ k, S k → col k ≠ 1) (ho : ∀ k, k < w.heap.size → col' k = col k) : PIn w' col' ga n d := by
  obtain ⟨a, b, hd, hf⟩ := h
  exact ⟨a, b, hd.chg hc (fun k hk hs => hS k hs (hf k hk)), fun k hk => (ho k (hd.lt k hk)).trans (hf k hk)⟩
theorem RIn.frame (h : RIn w col gr n d) (hc : Chg S w w') (hS : ∀ k, S k → col k ≠ 2) (ho : ∀ k, k < w.heap.size → col' k = col k) : RIn w' col' gr n d := by
  obtain ⟨a, b, hd, hf⟩ := h
  exact ⟨a, b, hd.chg hc (fun k hk hs => hS k hs (hf k hk)), fun k hk => (ho k (hd.lt k hk)).trans (hf k hk)⟩
theorem PS.frame (h : PS w col ga n d lg) (hc : Chg S w w') (hS : ∀ k, S k → col k ≠ 1 ∧ col k ≠ 3) (ho : ∀ k, k < w.heap.size → col' k = col k) : PS w' col' ga n d lg :=
  ⟨h.D.frame hc (fun k hk => (hS k hk).1) ho, fun gl gm s e => by
    obtain ⟨v, hv⟩ := h.L gl gm s e
    exact ⟨v, PM.frame hv hc hS ho⟩⟩
theorem RS.frame (h : RS w col gr n d lg) (hc : Chg S w w') (hS : ∀ k, S k → col k ≠ 2 ∧ col k ≠ 4) (ho : ∀ k, k < w.heap.size → col' k = col k) : RS w' col' gr n d lg :=
  ⟨h.D.frame hc (fun k hk => (hS k hk).1) ho, fun gl gm s e => by
    obtain ⟨v, hv⟩ := h.L gl gm s e
    exact ⟨v, RM.frame hv hc hS ho⟩⟩
theorem PS.step (h : PS w col ga n d lg) (k : Step 2 4 col w w' col') : PS w' col' ga n d lg := h.frame k.chg (fun x hx => by rcases hx with e | e <;> omega) k.old
theorem RS.step (h : RS w col gr n d lg) (k : Step 1 3 col w w' col') : RS w' col' gr n d lg := h.frame k.chg (fun x hx => by rcases hx with e | e <;> omega) k.old
theorem PS.below (h : PS w col ga n d lg) (hb : Below w.heap.size w w') (ho : ∀ k, k < w.heap.size → col' k = col k) : PS w' col' ga n d lg := h.frame (S := fun _ => False) (Chg.of_below hb) (fun k hk => hk.elim) ho
theorem RS.below (h : RS w col gr n d lg) (hb : Below w.heap.size w w') (ho : ∀ k, k < w.heap.size → col' k = col k) : RS w' col' gr n d lg := h.frame (S := fun _ => False) (Chg.of_below hb) (fun k hk => hk.elim) ho
theorem PS.acted (h : PS w col ga n d lg) {sv t t' : Value} (hd : PDsk w ga sv t n d) (hf : ∀ k, Foot ga sv t k → col k = 1) (hd' : PDsk w' ga sv t' n d') (hc : Chg (Foot ga sv t) w w') (ht : t'.ownBlock = t.ownBlock ∨ ∃ k, t'.ownBlock = some k ∧ w.heap.size ≤ k) :
    PS w' (dye w col 1) ga n d' lg ∧ Step 1 3 col w w' (dye w col 1) :=
  ⟨⟨In.acted hd hf hd' ht, fun gl gm s e => by
    obtain ⟨v, hv⟩ := h.L gl gm s e
    exact ⟨v, (hv.acted hd hf hd' hc ht).1⟩⟩, hc.mono (fun k _ hk => .inl (hf k hk)), fun k hk => dye_old hk⟩
theorem RS.acted (h : RS w col gr n d lg) {sv t t' : Value} (hd : RDsk w gr sv t n d) (hf : ∀ k, Foot gr sv t k → col k = 2) (hd' : RDsk w' gr sv t' n d') (hc : Chg (Foot gr sv t) w w') (ht : t'.ownBlock = t.ownBlock ∨ ∃ k, t'.ownBlock = some k ∧ w.heap.size ≤ k) :
    RS w' (dye w col 2) gr n d' lg ∧ Step 2 4 col w w' (dye w col 2) :=
  ⟨⟨In.acted hd hf hd' ht, fun gl gm s e => by
    obtain ⟨v, hv⟩ := h.L gl gm s e
    exact ⟨v, (hv.acted hd hf hd' hc ht).1⟩⟩, hc.mono (fun k _ hk => .inl (hf k hk)), fun k hk => dye_old hk⟩
theorem PS.none (h : PIn w col ga n d) : PS w col ga n d none := ⟨h, fun _ _ _ e => by cases e⟩
theorem RS.none (h : RIn w col gr n d) : RS w col gr n d none := ⟨h, fun _ _ _ e => by cases e⟩
end
/-- both sides, alike -/
structure Sys (B n : Nat) (w : World) (col : Nat → Nat) (ga gr : Nat) (d : DS) (lg : Lg) : Prop where
  P : PS w col ga n d lg
  R : RS w col gr n d lg
  G : ∀ gl gm s, lg = some (gl, gm, s) → GoodS n d s
  lo : ∀ k, k < B → col k = 0
  hB : B ≤ w.heap.size
theorem formatOf_trail {n : Nat} {d : DS} : (formatOf n d).1.trail.length ≤ d.trail.length + 2 := by
  have h1 : (writeOf n d 1 zb64).1.trail.length ≤ d.trail.length + 1 := writeOf_trail (Nat.le_refl _)
  have h2 : (writeOf n (writeOf n d 1 zb64).1 0 (headB 1)).1.trail.length ≤ d.trail.length + 1 + 1 := writeOf_trail h1
  unfold formatOf
  repeat' split
  all_goals first
    | (show d.trail.length ≤ _; omega)
    | (show (writeOf _ _ _ _).1.trail.length ≤ _; omega)
theorem writeOf_val (n : Nat) (d : DS) (z : Int) (b : List UInt8) : 0 ≤ (writeOf n d z b).2 ∧ (writeOf n d z b).2 ≤ 50 := by
  unfold writeOf
  repeat' split
  all_goals (refine ⟨?_, ?_⟩ <;> simp)
theorem formatOf_val (n : Nat) (d : DS) : 0 ≤ (formatOf n d).2 ∧ (formatOf n d).2 ≤ 50 := by
  have h1 := writeOf_val n d 1 zb64
  have h2 := writeOf_val n (writeOf n d 1 zb64).1 0 (headB 1)
  unfold formatOf
  repeat' split
  all_goals first
    | exact h1
    | exact h2
    | (refine ⟨?_, ?_⟩ <;> simp)
/-- what an act leaves -/
def OneP (B n ga gr : Nat) (w : World) (bd : Nat) (e : Ending) (w' : World) : Prop :=
  ∃ lg d col, e = .returned (.tuple #[pv lg, rv lg, .bool true]) ∧ Sys B n w' col ga gr d lg ∧ Below B w w' ∧ 16 * d.trail.length ≤ bd
section
variable {B n : Nat} {w w' : World} {col col' : Nat → Nat} {ga gr : Nat} {d d' : DS} {lg lg' : Lg}
theorem Sys.below (h : Sys B n w col ga gr d lg) (hb : Below w.heap.size w w') (ho : ∀ k, k < w.heap.size → col' k = col k) : Sys B n w' col' ga gr d lg :=
  ⟨h.P.below hb ho, h.R.below hb ho, h.G, fun k hk => (ho k (Nat.lt_of_lt_of_le hk h.hB)).trans (h.lo k hk), Nat.le_trans h.hB hb.size⟩
/-- zones are carried over a step -/
theorem RecsAt.step {T : TypeId} {F : Nat → Prop} {v : Value} {l : List (Int × List UInt8)} {i j : Nat} (h : RecsAt T w (fun k => F k ∧ col k = 7) v l) (k : Step i j col w w' col') (hi : i ≠ 7) (hj : j ≠ 7) : RecsAt T w' (fun k => F k ∧ col' k = 7) v l :=
  ((h.mono (Z' := fun x => (F x ∧ col x = 7) ∧ x < w.heap.size) (fun x hx hz => ⟨hz, hx⟩)).same (fun x hx hz => k.chg.block x hx (fun hs => by rcases hs with e | e <;> omega))).mono (fun x hx hz => ⟨hz.1.1, (k.old x hz.2).trans hz.1.2⟩)
theorem RecsAt.f {T : TypeId} {Z : Nat → Prop} {A : Option Addr} {m c : Nat} {l : List (Int × List UInt8)} (h : RecsAt T w Z (.slice A m c) l) : RecsF w Z A l := fun i hi => by
  obtain ⟨g, cap, B, c', e, h1, h2, h3, _⟩ := h.loads hi
  cases e
  refine ⟨g, 0, B, c', rfl, h.in_ g rfl, by rw [Nat.zero_add]; exact h1, by rw [Nat.zero_add]; exact h2, h3.bys, fun ad he => ?_⟩
  subst he
  exact .inr (h3.in_ _ rfl)
theorem block_step {i j g : Nat} {o : Obj} (hb : w.heap[g]? = some o) (h7 : col g = 7) (k : Step i j col w w' col') (hi : i ≠ 7) (hj : j ≠ 7) : w'.heap[g]? = some o ∧ col' g = 7 := by
  have hl := (Array.getElem?_eq_some_iff.1 hb).1
  exact ⟨(k.chg.block g hl (fun hs => by rcases hs with e | e <;> omega)).trans hb, (k.old g hl).trans h7⟩
end
end Go.Proofs.YtggogenhakdhiaaDoor
end
section
set_option linter.unusedVariables false
set_option linter.unusedSimpArgs false
namespace Go.Proofs.YtggogenhakdhiaaDoor
open Go.RowKit

set_option maxHeartbeats 1000000

theorem trail_mid (w : World) (g : Nat) (A : Option Addr) (c : Nat) (l : List Int) (k : Nat) (hgl : g < w.heap.size) (c1 : w.cell? ⟨g, 1, none⟩ = some (.slice A l.length c)) (hr : Rdv w A l.length (iv l)) (ht : l.length ≤ 1000000) (hcap : l.length ≤ c) (hk : k ≤ l.length) (hkp : 0 < k) :
    Calls Tryd.prog 32 #[.pointer (some ⟨g, 0, none⟩), .int .i64 k] w (RetInts w.heap.size (l.drop k) w) := by
  have hk2 : (l.length < k) = False := by simp; omega
  have hd : Rdv w (if c = k then A else A.map (·.add k)) (l.length - k) (iv (l.drop k)) := by
    have := hr.drop_if k c hk hcap
    simpa only [iv, List.map_drop] using this
  go_enter Tryd.func32, Tryd.ntmps32
  go_wp2
  go_region_held_law (fun w' => w'.cell? ⟨g, 1, none⟩ = some (.slice A l.length c)) (go_keep) ((refine step_append_rd (o := ⟨some 19, _, _, _, _, _⟩) w w.heap.size rfl (.tmp 5) (.tmp 18) 63 3 (.int .i64 0) 8 rfl Tryd.underlying63 info_int rfl _ 0 [] rfl (own_empty _ _ _ _ _ (Nat.le_refl _) (heap_alloc_new _ _)) _ (l.length - k) _ _ rfl (hd.drew.below ((Below.refl _ _).alloc (Nat.le_refl _) _)) (iv_one _) ((Below.refl _ _).drew.alloc (Nat.le_refl _) _) (by simp) (by omega) (by omega) ?_; intro v1 w1 hown1 hB1 hg1 hs1; have hk1 := cell_below hB1 c1))
  all_goals (go_wp2 <;> (go_ret; exact RetInts.of (l := l.drop k) hown1 (by simp) hB1))

theorem trail_low (w : World) (g : Nat) (A : Option Addr) (c : Nat) (l : List Int) (z : Int) (hgl : g < w.heap.size) (c1 : w.cell? ⟨g, 1, none⟩ = some (.slice A l.length c)) (hr : Rdv w A l.length (iv l)) (ht : l.length ≤ 1000000) (hcap : l.length ≤ c) (hz : z ≤ 0) :
    Calls Tryd.prog 32 #[.pointer (some ⟨g, 0, none⟩), .int .i64 z] w (RetInts w.heap.size l w) := by
  have hk2 : (0 < z) = False := by simp; omega
  have hd : Rdv w A l.length (iv l) := hr
  go_enter Tryd.func32, Tryd.ntmps32
  go_wp2
  go_region_held_law (fun w' => w'.cell? ⟨g, 1, none⟩ = some (.slice A l.length c)) (go_keep) ((refine step_append_rd (o := ⟨some 19, _, _, _, _, _⟩) w w.heap.size rfl (.tmp 5) (.tmp 18) 63 3 (.int .i64 0) 8 rfl Tryd.underlying63 info_int rfl _ 0 [] rfl (own_empty _ _ _ _ _ (Nat.le_refl _) (heap_alloc_new _ _)) _ (l.length) _ _ rfl (hd.drew.below ((Below.refl _ _).alloc (Nat.le_refl _) _)) (iv_one _) ((Below.refl _ _).drew.alloc (Nat.le_refl _) _) (by simp) (by omega) (by omega) ?_; intro v1 w1 hown1 hB1 hg1 hs1; have hk1 := cell_below hB1 c1))
  all_goals (go_wp2 <;> (go_ret; exact RetInts.of (l := l) hown1 (by simp) hB1))

theorem trail_high (w : World) (g : Nat) (A : Option Addr) (c : Nat) (l : List Int) (k : Nat) (hgl : g < w.heap.size) (c1 : w.cell? ⟨g, 1, none⟩ = some (.slice A l.length c)) (hr : Rdv w A l.length (iv l)) (ht : l.length ≤ 1000000) (hcap : l.length ≤ c) (hk : l.length < k) :
    Calls Tryd.prog 32 #[.pointer (some ⟨g, 0, none⟩), .int .i64 k] w (RetInts w.heap.size [] w) := by
  have hkp : 0 < k := by omega
  have hk2 : (l.length < k) = True := by simp; omega
  have hd : Rdv w (if c = l.length then A else A.map (·.add l.length)) 0 (iv []) := by
    have := hr.drop_if l.length c (Nat.le_refl _) hcap
    have e : (iv l).drop l.length = [] := List.drop_of_length_le (by rw [iv_length]; exact Nat.le_refl _)
    rw [e, Nat.sub_self] at this
    exact this
  go_enter Tryd.func32, Tryd.ntmps32
  go_wp2
  go_region_held_law (fun w' => w'.cell? ⟨g, 1, none⟩ = some (.slice A l.length c)) (go_keep) ((refine step_append_rd (o := ⟨some 19, _, _, _, _, _⟩) w w.heap.size rfl (.tmp 5) (.tmp 18) 63 3 (.int .i64 0) 8 rfl Tryd.underlying63 info_int rfl _ 0 [] rfl (own_empty _ _ _ _ _ (Nat.le_refl _) (heap_alloc_new _ _)) _ (0) _ _ rfl (hd.drew.below ((Below.refl _ _).alloc (Nat.le_refl _) _)) (iv_one _) ((Below.refl _ _).drew.alloc (Nat.le_refl _) _) (by simp) (by omega) (by omega) ?_; intro v1 w1 hown1 hB1 hg1 hs1; have hk1 := cell_below hB1 c1))
  all_goals (go_wp2 <;> (go_ret; exact RetInts.of (l := []) hown1 (by simp) hB1))

theorem trail_walk (w : World) (g n : Nat) (sv tv : Value) (d : DS) (z : Int) (h : PDsk w g sv tv n d) (ht : d.trail.length ≤ 1000000) :
    Calls Tryd.prog 32 #[.pointer (some ⟨g, 0, none⟩), .int .i64 z] w (RetInts w.heap.size (trailOf d z) w) := by
  have c1 := h.c1
  have hgl := h.lt g (.inl rfl)
  obtain ⟨A, c, hv⟩ := h.tv
  subst hv
  have hr := Rdv.of_own h.tr
  have hcap : d.trail.length ≤ c := by
    rcases h.tr.2 with ⟨h0, hx⟩ | ⟨g', cap, cur, h1, _, _, h2, _⟩
    · rw [Value.slice.injEq] at h0; omega
    · rw [Value.slice.injEq] at h1; omega
  by_cases h0 : z ≤ 0
  · have e : trailOf d z = d.trail := by
      unfold trailOf
      rw [show min (max 0 z).toNat d.trail.length = 0 by omega, List.drop_zero]
    rw [e]
    exact trail_low w g A c d.trail z hgl c1 hr ht hcap h0
  · obtain ⟨k, rfl⟩ := Int.eq_ofNat_of_zero_le (show 0 ≤ z by omega)
    by_cases h1 : k ≤ d.trail.length
    · have e : trailOf d k = d.trail.drop k := by
        unfold trailOf
        rw [show min (max 0 (k : Int)).toNat d.trail.length = k by omega]
      rw [e]
      exact trail_mid w g A c d.trail k hgl c1 hr ht hcap h1 (by omega)
    · have e : trailOf d k = [] := by
        unfold trailOf
        rw [show min (max 0 (k : Int)).toNat d.trail.length = d.trail.length by omega, List.drop_length]
      rw [e]
      exact trail_high w g A c d.trail k hgl c1 hr ht hcap (by omega)

theorem rtrail_mid (w : World) (g : Nat) (A : Option Addr) (c : Nat) (l : List Int) (k : Nat) (hgl : g < w.heap.size) (c1 : w.cell? ⟨g, 1, none⟩ = some (.slice A l.length c)) (hr : Rdv w A l.length (iv l)) (ht : l.length ≤ 1000000) (hcap : l.length ≤ c) (hk : k ≤ l.length) (hkp : 0 < k) :
    Calls Tryd.prog 33 #[.pointer (some ⟨g, 0, none⟩), .int .i64 k] w (RetInts w.heap.size (l.drop k) w) := by
  have hk2 : (l.length < k) = False := by simp; omega
  have hd : Rdv w (if c = k then A else A.map (·.add k)) (l.length - k) (iv (l.drop k)) := by
    have := hr.drop_if k c hk hcap
    simpa only [iv, List.map_drop] using this
  go_enter Tryd.func33, Tryd.ntmps33
  go_wp2
  go_region_held_law (fun w' => w'.cell? ⟨g, 1, none⟩ = some (.slice A l.length c)) (go_keep) ((refine step_append_rd (o := ⟨some 19, _, _, _, _, _⟩) w w.heap.size rfl (.tmp 5) (.tmp 18) 63 3 (.int .i64 0) 8 rfl Tryd.underlying63 info_int rfl _ 0 [] rfl (own_empty _ _ _ _ _ (Nat.le_refl _) (heap_alloc_new _ _)) _ (l.length - k) _ _ rfl (hd.drew.below ((Below.refl _ _).alloc (Nat.le_refl _) _)) (iv_one _) ((Below.refl _ _).drew.alloc (Nat.le_refl _) _) (by simp) (by omega) (by omega) ?_; intro v1 w1 hown1 hB1 hg1 hs1; have hk1 := cell_below hB1 c1))
  all_goals (go_wp2 <;> (go_ret; exact RetInts.of (l := l.drop k) hown1 (by simp) hB1))

theorem rtrail_low (w : World) (g : Nat) (A : Option Addr) (c : Nat) (l : List Int) (z : Int) (hgl : g < w.heap.size) (c1 : w.cell? ⟨g, 1, none⟩ = some (.slice A l.length c)) (hr : Rdv w A l.length (iv l)) (ht : l.length ≤ 1000000) (hcap : l.length ≤ c) (hz : z ≤ 0) :
    Calls Tryd.prog 33 #[.pointer (some ⟨g, 0, none⟩), .int .i64 z] w (RetInts w.heap.size l w) := by
  have hk2 : (0 < z) = False := by simp; omega
  have hd : Rdv w A l.length (iv l) := hr
  go_enter Tryd.func33, Tryd.ntmps33
  go_wp2
  go_region_held_law (fun w' => w'.cell? ⟨g, 1, none⟩ = some (.slice A l.length c)) (go_keep) ((refine step_append_rd (o := ⟨some 19, _, _, _, _, _⟩) w w.heap.size rfl (.tmp 5) (.tmp 18) 63 3 (.int .i64 0) 8 rfl Tryd.underlying63 info_int rfl _ 0 [] rfl (own_empty _ _ _ _ _ (Nat.le_refl _) (heap_alloc_new _ _)) _ (l.length) _ _ rfl (hd.drew.below ((Below.refl _ _).alloc (Nat.le_refl _) _)) (iv_one _) ((Below.refl _ _).drew.alloc (Nat.le_refl _) _) (by simp) (by omega) (by omega) ?_; intro v1 w1 hown1 hB1 hg1 hs1; have hk1 := cell_below hB1 c1))
  all_goals (go_wp2 <;> (go_ret; exact RetInts.of (l := l) hown1 (by simp) hB1))

theorem rtrail_high (w : World) (g : Nat) (A : Option Addr) (c : Nat) (l : List Int) (k : Nat) (hgl : g < w.heap.size) (c1 : w.cell? ⟨g, 1, none⟩ = some (.slice A l.length c)) (hr : Rdv w A l.length (iv l)) (ht : l.length ≤ 1000000) (hcap : l.length ≤ c) (hk : l.length < k) :
    Calls Tryd.prog 33 #[.pointer (some ⟨g, 0, none⟩), .int .i64 k] w (RetInts w.heap.size [] w) := by
  have hkp : 0 < k := by omega
  have hk2 : (l.length < k) = True := by simp; omega
  have hd : Rdv w (if c = l.length then A else A.map (·.add l.length)) 0 (iv []) := by
    have := hr.drop_if l.length c (Nat.le_refl _) hcap
    have e : (iv l).drop l.length = [] := List.drop_of_length_le (by rw [iv_length]; exact Nat.le_refl _)
    rw [e, Nat.sub_self] at this
    exact this
  go_enter Tryd.func33, Tryd.ntmps33
  go_wp2
  go_region_held_law (fun w' => w'.cell? ⟨g, 1, none⟩ = some (.slice A l.length c)) (go_keep) ((refine step_append_rd (o := ⟨some 19, _, _, _, _, _⟩) w w.heap.size rfl (.tmp 5) (.tmp 18) 63 3 (.int .i64 0) 8 rfl Tryd.underlying63 info_int rfl _ 0 [] rfl (own_empty _ _ _ _ _ (Nat.le_refl _) (heap_alloc_new _ _)) _ (0) _ _ rfl (hd.drew.below ((Below.refl _ _).alloc (Nat.le_refl _) _)) (iv_one _) ((Below.refl _ _).drew.alloc (Nat.le_refl _) _) (by simp) (by omega) (by omega) ?_; intro v1 w1 hown1 hB1 hg1 hs1; have hk1 := cell_below hB1 c1))
  all_goals (go_wp2 <;> (go_ret; exact RetInts.of (l := []) hown1 (by simp) hB1))

theorem rtrail_walk (w : World) (g n : Nat) (sv tv : Value) (d : DS) (z : Int) (h : RDsk w g sv tv n d) (ht : d.trail.length ≤ 1000000) :
    Calls Tryd.prog 33 #[.pointer (some ⟨g, 0, none⟩), .int .i64 z] w (RetInts w.heap.size (trailOf d z) w) := by
  have c1 := h.c1
  have hgl := h.lt g (.inl rfl)
  obtain ⟨A, c, hv⟩ := h.tv
  subst hv
  have hr := Rdv.of_own h.tr
  have hcap : d.trail.length ≤ c := by
    rcases h.tr.2 with ⟨h0, hx⟩ | ⟨g', cap, cur, h1, _, _, h2, _⟩
    · rw [Value.slice.injEq] at h0; omega
    · rw [Value.slice.injEq] at h1; omega
  by_cases h0 : z ≤ 0
  · have e : trailOf d z = d.trail := by
      unfold trailOf
      rw [show min (max 0 z).toNat d.trail.length = 0 by omega, List.drop_zero]
    rw [e]
    exact rtrail_low w g A c d.trail z hgl c1 hr ht hcap h0
  · obtain ⟨k, rfl⟩ := Int.eq_ofNat_of_zero_le (show 0 ≤ z by omega)
    by_cases h1 : k ≤ d.trail.length
    · have e : trailOf d k = d.trail.drop k := by
        unfold trailOf
        rw [show min (max 0 (k : Int)).toNat d.trail.length = k by omega]
      rw [e]
      exact rtrail_mid w g A c d.trail k hgl c1 hr ht hcap h1 (by omega)
    · have e : trailOf d k = [] := by
        unfold trailOf
        rw [show min (max 0 (k : Int)).toNat d.trail.length = d.trail.length by omega, List.drop_length]
      rw [e]
      exact rtrail_high w g A c d.trail k hgl c1 hr ht hcap (by omega)
end Go.Proofs.YtggogenhakdhiaaDoor
end
