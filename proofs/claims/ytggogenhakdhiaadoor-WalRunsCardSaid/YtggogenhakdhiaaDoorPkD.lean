/- Append, the document's way, walked: where nothing is laid. (ahead of it: The log that lies on a disk, the document's way, walked: the way through. Format, both sides, walked. Format, and sectors that are laid, the document's way, walked. Sectors that are laid, the document's way, walked. append to a new empty slice: what is old stays as it was. Records copied, walked. A call of a Go function by its contract, as one step of a region that draws its order. Append, the program's way, walked. Append, the program's way, walked: where the record is laid.) -/
import Derived.Test.YtggogenhakdhiaaDoorPkC
import Derived.Deep.RegionWith
import Derived.Deep.LoopGhost
import Derived.Test.YtggogenhakdhiaaDoorPkB
import Derived.Laws.MakeOwn
import Derived.Test.YtggogenhakdhiaaDoorPkA
import Derived.Deep.RegionLaw
section
set_option linter.unusedVariables false
set_option linter.unusedSimpArgs false
attribute [local go_sem ↓] Go.wp_at_zero Go.wp_at_succ
namespace Go.Proofs.YtggogenhakdhiaaDoor
open Go.RowKit

theorem RLog.snoc {w w1 w2 : World} {Z : Nat → Prop} {gl g : Nat} {v v1 : Value} {s : LS} {r : Int × List UInt8} (h : RLog w Z gl g v s) (hg : w.grownBy w1 v.ownBlock) (h1 : RecsAt 102 w1 Z v1 (s.recs ++ [r]))
    (hb : Below (w1.setCell ⟨gl, 1, none⟩ v1).heap.size (w1.setCell ⟨gl, 1, none⟩ v1) w2) :
    RLog (w2.setCell ⟨gl, 3, none⟩ (.int .i64 (usedOf (s.recs ++ [r]) : Nat))) Z gl g v1 { s with recs := s.recs ++ [r] } := by
  have hb0 := (h.grow hg).trans h.blk
  have hb1 := Go.Proofs.YtggogenhakdhiaaDoorW.PrintWords.blk_set hb0 1 v1
  have hb2 := (hb.block gl (Array.getElem?_eq_some_iff.1 hb1).1).trans hb1
  have r1 := (h1.set hb0 (by decide) (by decide) 1 v1).below hb
  exact ⟨Go.Proofs.YtggogenhakdhiaaDoorW.PrintWords.blk_set hb2 3 _, r1.set hb2 (by decide) (by decide) 3 _⟩
/-- sixty-four new zeros -/
theorem made_zb64 (x : World) : (Instr.makeSlice 22 (.int .i64 64) (.int .i64 64)).run Tryd.prog x = .ok (.slice (some ⟨x.heap.size, 0, none⟩) 64 64) (x.alloc (.cells (bv zb64).toArray 5)) := by
  obtain ⟨i, hi, hz, hs, hy⟩ := info_parts info_b
  have hr := run_make (P := Tryd.prog) x 22 5 i (.int .u8 0) Tryd.underlying22 hi hz .i64 .i64 64 64 (by omega) (Int.le_refl _) (by rw [hy]; omega) (by omega)
  rw [hs] at hr
  rw [← madeb64]
  exact hr
set_option maxHeartbeats 2000000 in
set_option maxRecDepth 20000 in
theorem ropen_ok (w : World) (g n : Nat) (sv tv : Value) (d : DS) (h : RDsk w g sv tv n d) (hd : d.down = false) (q0 : Nat) (hg : genOf d.img n = some q0) :
    Calls Tryd.prog 14 #[.pointer (some ⟨g, 0, none⟩)] w (RetOpened RLog w.heap.size g (match scan d.img (firstOf n q0 + halfOf n) (firstOf n q0) with | none => .err 61 | some l => .log q0 l) w) := by
  obtain ⟨op, hop⟩ : ∃ x, x = (match scan d.img (firstOf n q0 + halfOf n) (firstOf n q0) with | none => Opened.err 61 | some l => Opened.log q0 l) := ⟨_, rfl⟩
  rw [← hop]
  have hop1 := Go.Lib.hid hop
  clear hop
  have c3 := h.c3
  have c0 := h.c0
  rw [hd] at c3
  have hle := h.le
  have HS := rsectors_walk w g n sv tv d h
  have h3 : ¬ n < 3 := by
    intro h3
    unfold genOf at hg
    rw [if_pos (by unfold halfOf; omega)] at hg
    cases hg
  have h3z : ¬ (n : Int) < 3 := by omega
  have hpos := h.pos
  obtain ⟨s, c, hv, _, hs, hc1, hc2, hcells⟩ := own_some h.sec (by omega)
  subst hv
  have hby : Bys w (some ⟨s, 0, none⟩) (64 * n) d.img := Bys.own h.sec
  have hh : halfOf n ≥ 1 := by unfold halfOf; omega
  have hq8 : headNum d.img = num (((secOf d.img 0).drop 8).take 8) := rfl
  have hq8' : headNum d.img = num ((d.img.drop 8).take 8) := by
    rw [hq8]; unfold secOf; rw [Nat.mul_zero, List.drop_zero, List.drop_take, List.take_take]; congr 1
  have HN := high_walk w _ 8 (c - 8) _ (hby.cut 8 8 (by omega)) (by omega)
  rw [← hq8'] at HN
  have hq64 : headNum d.img < 18446744073709551616 := by rw [hq8']; exact num_lt64 _ (by rw [List.length_take]; omega)
  have hg2 : genOf d.img n = if headNum d.img < 1 ∨ headNum d.img > 1099511627776 then none else if secOf d.img 0 = headB (headNum d.img) then some (headNum d.img) else none := by unfold genOf; rw [if_neg (by omega)]
  rw [hg] at hg2
  have hsec0 : secOf d.img 0 = d.img.take 64 := by unfold secOf; rw [Nat.mul_zero, List.drop_zero]
  have hb64 := hby.take 64 (by omega)
  rw [← hsec0] at hb64
  have hm64 : (64 : Int) ≤ 64 * (n : Int) := by omega
  have hc8 : ¬ c = 8 := by omega
  have hc16 : (16 : Int) ≤ (c : Int) := by omega
  have hc64 : (64 : Int) ≤ (c : Int) := by omega
  have hby0 := hby
  clear hq8 hq8' hby hcells hg hsec0
  generalize headNum d.img = q at *
  generalize secOf d.img 0 = sec at *
  have h2 : ¬ (q < 1 ∨ q > 1099511627776) := by
    intro h2
    rw [if_pos h2] at hg2
    cases hg2
  rw [if_neg h2] at hg2
  have heq : sec = headB q := by
    by_cases e : sec = headB q
    · exact e
    · rw [if_neg e] at hg2; cases hg2
  rw [if_pos heq] at hg2
  cases hg2
  have d1 : decide ((q0 : Int) < 1) = false := by rw [decide_eq_false_iff_not]; omega
  have d2 : decide ((1099511627776 : Int) < (q0 : Int)) = false := by rw [decide_eq_false_iff_not]; omega
  have hqw : IntKind.i64.wrap (q0 : Int) = (q0 : Int) := by rw [IntKind.wrap_i64]; omega
  have HD : ∀ x, Calls Tryd.prog 47 #[.int .i64 q0] x (RetBys x.heap.size 5 (headB q0) x) := fun x => rhead_walk x q0 (by omega)
  have hhl := headB_length q0
  rw [heq] at hb64
  clear heq
  generalize headB q0 = hb at *
  replace hhl := Go.Lib.hid hhl
  have hq12 : q0 ≤ 1099511627776 := by omega
  clear h2
  go_enter Tryd.func14, Tryd.ntmps14
  go_upto_region 6 with (first
    | (go_at_call 38; go_must (refine HS.mono ?_); rintro e w' ⟨rfl, rfl⟩)
    | (go_at_call 46; go_must (refine HN.mono ?_); rintro e w' ⟨rfl, rfl⟩))
  have HD1 := HD w.drew
  have hdr : Below w.heap.size w w.drew := below_drew (Below.refl _ _)
  have hst1 := (hb64.below hdr).string (P := Tryd.prog) Tryd.underlying22 Tryd.underlying5 Tryd.underlying9 c
  go_cut [42] from 24 (fun v wx => v = .bool false ∧ Below w.heap.size w wx)
  case first =>
    go_region_held_law (fun w' => w'.cell? ⟨g, 0, none⟩ = some (.slice (some ⟨s, 0, none⟩) (64 * n) c)) (first | exact c02 | go_keep) (
      ((go_at_call 47; (with_reducible refine HD1.mono ?_); intro e w3 hR; obtain ⟨A3, c3, rfl, hown3, hB3⟩ := hR.len (show hb.length = 64 from hhl); have c02 := cell_below (hdr.trans hB3) c0; have hst2 := (hb64.below (hdr.trans hB3)).string (P := Tryd.prog) Tryd.underlying22 Tryd.underlying5 Tryd.underlying9 c; have hst3 := (Bys.own hown3).string (P := Tryd.prog) Tryd.underlying22 Tryd.underlying5 Tryd.underlying9 c3)))
    all_goals
      go_wp2_with fail
      go_meet
      exact ⟨by first | rfl | simp, hdr.trans hB3⟩
  case rest =>
    obtain ⟨rfl, hB1⟩ := hcut
    have hDk := h
    have hlen := h.len
    clear HD HD1 hst1 hdr hb64 d1 d2
    have h1 := h.below hB1
    go_upto_region 9 with fail
    have hfe : firstOf n q0 + halfOf n ≤ n := by unfold firstOf halfOf; split <;> omega
    have hf1 : 1 ≤ firstOf n q0 := by unfold firstOf; split <;> omega
    have hbx := heap_alloc_new wc (.cells #[.pointer (some ⟨g, 0, none⟩), .slice none 0 0, .int .i64 (q0 : Int), .int .i64 0, .bool false] 99)
    have hB2 : Below w.heap.size w (wc.alloc (.cells #[.pointer (some ⟨g, 0, none⟩), .slice none 0 0, .int .i64 (q0 : Int), .int .i64 0, .bool false] 99)) := hB1.alloc hB1.size _
    have hs1 := hB1.size
    obtain ⟨gl, hgl⟩ : ∃ x, x = wc.heap.size := ⟨_, rfl⟩
    rw [← hgl] at hbx ⊢
    have hgl1 : w.heap.size ≤ gl := by omega
    clear hgl
    generalize wc.alloc (.cells #[.pointer (some ⟨g, 0, none⟩), .slice none 0 0, .int .i64 (q0 : Int), .int .i64 0, .bool false] 99) = w2 at *
    have h2 := h.below hB2
    have c20 := h2.c0
    have y2 := cell_of_row w2 gl 2 _ _ _ hbx
    have HF := rfirst_walk w2 g n _ tv d h2 q0 (by omega)
    have hbyW := hby0.below hB2
    have HH : ∀ x, Below w2.heap.size w2 x → Calls Tryd.prog 49 #[.pointer (some ⟨g, 0, none⟩)] x (Says (.int .i64 (halfOf n : Nat)) x) := fun x hx => rhalf_walk x g n _ tv d (h2.below hx)
    have hop := hop1.out
    clear hop1
    obtain ⟨fi, hfi0⟩ : ∃ x, x = firstOf n q0 := ⟨_, rfl⟩
    obtain ⟨en, hen0⟩ : ∃ x, x = firstOf n q0 + halfOf n := ⟨_, rfl⟩
    rw [← hen0, ← hfi0] at hop
    rw [← hen0] at hfe
    rw [← hfi0] at hf1 HF hen0
    generalize hhn : halfOf n = hn at *
    replace hhn := Go.Lib.hid hhn
    have hm1 : IntKind.i64.wrap ((fi : Int) * 64) = ((64 * fi : Nat) : Int) := by rw [IntKind.wrap_i64]; omega
    have hm2 : IntKind.i64.wrap ((fi : Int) + (hn : Int)) = (en : Int) := by rw [IntKind.wrap_i64]; omega
    have hm3 : IntKind.i64.wrap ((en : Int) * 64) = ((64 * en : Nat) : Int) := by rw [IntKind.wrap_i64]; omega
    have hm4 : ¬ c = 64 * fi := by omega
    have hm5 : 64 * en ≤ c := by omega
    have hm6 : 64 * fi ≤ 64 * en := by omega
    have hm7 : 64 * en - 64 * fi = 64 * hn := by omega
    replace hfi0 := Go.Lib.hid hfi0
    replace hen0 := Go.Lib.hid hen0
    replace hop := Go.Lib.hid hop
    go_upto_region 10 with (go_at_call 48; go_must (refine HF.mono ?_); rintro e w' ⟨rfl, rfl⟩)
    have HH1 := HH w2.drew (below_drew (Below.refl _ _))
    go_region_held_law (fun w' => w'.cell? ⟨g, 0, none⟩ = some (.slice (some ⟨s, 0, none⟩) (64 * n) c)) (go_keep) (
      ((go_at_call 49; (with_reducible refine HH1.mono ?_); rintro e w' ⟨rfl, rfl⟩)))
    go_wp2
    clear HF HH1 h1 hby0 c0 c3 HS HN hbyW c20 y2 hm1 hm2 hm3 hqw
    go_loopg [8] hn (fun k _ wr => ∃ v recs, Below w.heap.size w wr ∧ RLog wr (fun k => w.heap.size ≤ k) gl g v ⟨q0, recs, false⟩ ∧ usedOf recs + k = hn ∧ recs.length ≤ usedOf recs ∧ Hid (scan d.img en fi = (scan d.img en (fi + usedOf recs)).map (recs ++ ·)))
    case atStart => exact ⟨.slice none 0 0, [], below_drew hB2, ⟨hbx, RecsAt.nil _ _ _⟩, by simp [usedOf], by simp [usedOf], Go.Lib.hid (by simp [usedOf])⟩
    case round =>
      obtain ⟨v, recs, hBr, hL, hu, hrl, hsc⟩ := hrel
      have hsr := hBr.size
      have z3 : wr.cell? ⟨gl, 3, none⟩ = some (.int .i64 (usedOf recs : Nat)) := by have := cell_of_row wr gl 3 _ _ _ hL.blk; exact this
      have hHr := rhalf_walk wr.drew g n (.slice (some ⟨s, 0, none⟩) (64 * n) c) tv d ((hDk.below hBr).below (below_drew (Below.refl _ _)))
      rw [show halfOf n = hn from hhn.out] at hHr
      have z3d : wr.drew.cell? ⟨gl, 3, none⟩ = some (.int .i64 (usedOf recs : Nat)) := z3
      by_cases hk : gk = 0
      · have hle : decide ((usedOf recs : Int) < (hn : Int)) = false := by rw [decide_eq_false_iff_not]; omega
        have hlN : decide (usedOf recs < hn) = false := by rw [decide_eq_false_iff_not]; omega
        have hlM : ¬ usedOf recs < hn := by omega
        have hs0 : scan d.img en fi = some recs := by
          rw [hsc.out, scan_end (by have : en = fi + hn := hen0.out; omega)]
          simp
        replace hs0 := Go.Lib.hid hs0
        replace hu := Go.Lib.hid hu
        replace hk := Go.Lib.hid hk
        clear hsc
        go_upto_region 11 with fail
        go_region_held_law (fun w' => w'.cell? ⟨gl, 3, none⟩ = some (.int .i64 (usedOf recs : Nat))) (go_keep) (
          ((go_at_call 49; (with_reducible refine hHr.mono ?_); rintro e w' ⟨rfl, rfl⟩)))
        go_wp2
        go_ret2
        rw [show op = Opened.log q0 recs by rw [hop.out, hs0.out]]
        exact ⟨below_drew hBr, _, v, rfl, hL.chain (below_drew (Below.refl _ _)), hgl1⟩
      · have hle : decide ((usedOf recs : Int) < (hn : Int)) = true := by rw [decide_eq_true_eq]; omega
        obtain ⟨us, hus⟩ : ∃ x, x = usedOf recs := ⟨_, rfl⟩
        have hlN : decide (usedOf recs < hn) = true := by rw [decide_eq_true_eq]; omega
        have hlM : usedOf recs < hn := by omega
        rw [← hus] at hle hlN hlM z3 z3d hu hrl hsc
        replace hus := Go.Lib.hid hus
        have hm2 : IntKind.i64.wrap ((us : Int) * 64) = ((64 * us : Nat) : Int) := by rw [IntKind.wrap_i64]; omega
        have hm8 : ¬ c - 64 * fi = 64 * us := by omega
        have hm9 : 64 * us ≤ 64 * hn := by omega
        have hm10 : 64 * fi + 64 * us = 64 * (fi + us) := by omega
        have hm11 : 64 * hn - 64 * us = 64 * (en - (fi + us)) := by have : en = fi + hn := hen0.out; omega
        go_upto_region 11 with fail
        go_region_held_law (fun w' => w'.cell? ⟨gl, 3, none⟩ = some (.int .i64 (us : Nat))) (go_keep) (
          ((go_at_call 49; (with_reducible refine hHr.mono ?_); rintro e w' ⟨rfl, rfl⟩)))
        go_upto_region 13 with fail
        rw [hm10, hm11]
        have hae : fi + us < en := by have : en = fi + hn := hen0.out; omega
        have hby : Bys wr (some ⟨s, 64 * (fi + us), none⟩) (64 * (en - (fi + us))) (secsOf d.img (fi + us) (en - (fi + us))) := by
          have h1 := ((Bys.own hDk.sec).below hBr).cut (64 * (fi + us)) (64 * (en - (fi + us))) (by omega)
          rw [Nat.zero_add] at h1
          exact h1
        have hcc : 64 * (en - (fi + us)) ≤ c - 64 * fi - 64 * us := by have : en = fi + hn := hen0.out; omega
        have hcb : c - 64 * fi - 64 * us ≤ 9223372036854775807 := by omega
        generalize c - 64 * fi - 64 * us = c2 at *
        obtain ⟨at_, hat⟩ : ∃ x, x = fi + us := ⟨_, rfl⟩
        rw [← hat] at hby hcc hae hsc ⊢
        have hs64 := secOf_secsOf d.img at_ (en - at_) (by omega)
        have hbt := hby.take 64 (by omega)
        rw [hs64] at hbt
        have hrp := rread_readP hlen hfe hae
        generalize secsOf d.img at_ (en - at_) = L at *
        obtain ⟨m, hmm⟩ : ∃ x, x = 64 * (en - at_) := ⟨_, rfl⟩
        rw [← hmm] at hby hcc ⊢
        have hm64 : 64 ≤ m := by omega
        have hmod : m % 64 = 0 := by omega
        have hc64 : (64 : Int) ≤ (c2 : Int) := by omega
        obtain ⟨W1, hW1⟩ : ∃ x, x = wr.drew := ⟨_, rfl⟩
        rw [← hW1]
        have hBW : Below wr.heap.size wr W1 := by rw [hW1]; exact below_drew (Below.refl _ _)
        clear z3 z3d hHr HH
        replace hW1 := Go.Lib.hid hW1
        replace hmm := Go.Lib.hid hmm
        replace hat := Go.Lib.hid hat
        replace hs64 := Go.Lib.hid hs64
        replace hrp := Go.Lib.hid hrp
        have hL1 := hL.chain hBW
        have hB1' := hBr.trans (hBW.mono hsr)
        have hby1 := hby.below hBW
        have hbt1 := hbt.below hBW
        have hBd : Below W1.heap.size W1 W1.drew := below_drew (Below.refl _ _)
        have hBa : Below W1.heap.size W1 (W1.alloc (.cells (bv zb64).toArray 5)).drew := below_drew ((Below.refl _ _).alloc (Nat.le_refl _) _)
        have hzb : Bys (W1.alloc (.cells (bv zb64).toArray 5)).drew (some ⟨W1.heap.size, 0, none⟩) 64 zb64 := (bys_sector W1 5 zb64 zb64_length).drew
        have st1 := (hbt1.below hBd).string (P := Tryd.prog) Tryd.underlying22 Tryd.underlying5 Tryd.underlying9 c2
        have st2 := (hbt1.below hBa).string (P := Tryd.prog) Tryd.underlying22 Tryd.underlying5 Tryd.underlying9 c2
        have st3 := hzb.string (P := Tryd.prog) Tryd.underlying22 Tryd.underlying5 Tryd.underlying9 64
        have hmk := made_zb64
        clear hby hbt hBr hBW hzb
        by_cases hz : secOf d.img at_ = zb64
        · rw [hz] at st1 st2
          have hs0 : scan d.img en fi = some recs := by rw [hsc.out, scan_zero hz]; simp
          replace hs0 := Go.Lib.hid hs0
          replace hz := Go.Lib.hid hz
          clear hsc hrp hs64
          generalize zb64 = zz at *
          go_region_held_law (fun _ => True) (trivial) (fail)
          all_goals
            go_wp2
            go_ret2
            rw [show op = Opened.log q0 recs by rw [hop.out, hs0.out]]
            exact ⟨hB1'.trans (hBa.mono hB1'.size), _, v, rfl, hL1.chain hBa, hgl1⟩
        · have hne : ((str (secOf d.img at_)).toList == (str zb64).toList) = false := by rw [str_toList, str_toList, beq_eq_false_iff_ne]; exact hz
          have hns : ¬ en ≤ at_ := by omega
          have HR : ∀ x, Below W1.heap.size W1 x → Calls Tryd.prog 50 #[.slice (some ⟨s, 64 * at_, none⟩) m c2] x (RetRRec x.heap.size (readP d.img at_ en) x) := by
            intro x hx
            have := rread_walk' x s (64 * at_) m c2 L (hby1.below hx) hm64 hcc (by omega) hmod
            rw [hrp.out] at this
            exact this
          have HRa := HR _ hBa
          cases hr : readP d.img at_ en with
          | none =>
            have hs0 : scan d.img en fi = none := by rw [hsc.out, scan_none hns hz hr]; rfl
            replace hs0 := Go.Lib.hid hs0
            rw [hr] at HRa
            clear hsc hrp hs64 hr HR hz hns
            generalize secOf d.img at_ = sec1 at *
            generalize zb64 = zz at *
            go_region_held_law (fun _ => True) (trivial) (fail)
            all_goals
              go_wp2_with (go_at_call 50; go_must (refine HRa.mono ?_; intro e w3 hR; obtain ⟨kz, A3, m3, c3, rfl, -, hB3⟩ := hR))
              go_ret2
              rw [show op = Opened.err 61 by rw [hop.out, hs0.out]]
              have hB03 := hBa.trans (hB3.mono hBa.size)
              exact ⟨(hB1'.trans (hB03.mono hB1'.size)).alloc (by have := hB03.size; have := hB1'.size; omega) _, rfl⟩
          | some r =>
            obtain ⟨hrl2, hre, hk1, hk2, hl2⟩ := readP_some hlen hfe hr
            rw [hr] at HRa
            have hsp := secs_pos (loadLen d.img at_)
            have hsx : scan d.img en fi = (scan d.img en (at_ + secs (loadLen d.img at_))).map (recs ++ [r] ++ ·) := by
              rw [hsc.out, scan_some hns hz hr, Option.map_map]
              congr 1
              funext x
              simp
            have husn : usedOf (recs ++ [r]) = us + secs (loadLen d.img at_) := by rw [usedOf_snoc, hrl2, hus.out]
            replace hsx := Go.Lib.hid hsx
            clear hsc hrp hs64 hr HR hz hns
            generalize secOf d.img at_ = sec1 at *
            generalize zb64 = zz at *
            generalize hksd : secs (loadLen d.img at_) = ks at *
            have hks2 : secs r.2.length = ks := by rw [hrl2]; exact hksd
            have hw1 : IntKind.i64.wrap ((us : Int) + (ks : Int)) = ((usedOf (recs ++ [r]) : Nat) : Int) := by rw [IntKind.wrap_i64, husn]; have : at_ = fi + us := hat.out; omega
            replace husn := Go.Lib.hid husn
            replace hrl2 := Go.Lib.hid hrl2
            replace hksd := Go.Lib.hid hksd
            go_cut [85] from 66 to 113 (fun v wx => v = .bool false ∧ wx = (W1.alloc (.cells (bv zz).toArray 5)).drew)
            case first =>
              go_region_held_law (fun _ => True) (trivial) (fail)
              all_goals (go_wp2_with fail; go_meet; exact ⟨rfl, rfl⟩)
            case rest =>
              obtain ⟨rfl, rfl⟩ := hcut
              go_upto_region 18 with (go_at_call 50; go_must (refine HRa.mono ?_; intro e w3 hR; obtain ⟨kz, A3, m3, c3, rfl, hq3, hB3⟩ := hR; obtain ⟨rfl, rfl, hown3⟩ := hq3 r rfl))
              have hB03 := hBa.trans (hB3.mono hBa.size)
              have hs3 := hB03.size
              have hb4 := heap_alloc_new w3 (.cells #[.int .i64 (r.1 : Int), .slice A3 r.2.length c3] 102)
              have hB4 : Below w3.heap.size w3 (w3.alloc (.cells #[.int .i64 (r.1 : Int), .slice A3 r.2.length c3] 102)) := (Below.refl _ _).alloc (Nat.le_refl _) _
              have hBs := hB1'.size
              have hbw3 : w.heap.size ≤ w3.heap.size := Nat.le_trans hBs hs3
              have hO4 : OwnB (w3.alloc (.cells #[.int .i64 (r.1 : Int), .slice A3 r.2.length c3] 102)) (fun k => w.heap.size ≤ k) A3 r.2.length c3 r.2 := ⟨(own_lo hown3 (Nat.zero_le _)).alloc _, fun k hk => by have := own_base hown3 k hk; have := hBa.size; omega⟩
              obtain ⟨gx, hgx⟩ : ∃ x, x = w3.heap.size := ⟨_, rfl⟩
              rw [← hgx] at hb4 ⊢
              have hgxn : gl ≠ gx := by have := (Array.getElem?_eq_some_iff.1 hL1.blk).1; omega
              replace hgx := Go.Lib.hid hgx
              have hL4 := (hL1.chain hB03).chain hB4
              have hB04 := hB1'.trans ((hB03.trans (hB4.mono hs3)).mono hBs)
              generalize w3.alloc (.cells #[.int .i64 (r.1 : Int), .slice A3 r.2.length c3] 102) = w4 at *
              have hs4 := hB04.size
              have z1 : w4.cell? ⟨gl, 1, none⟩ = some v := by have := cell_of_row w4 gl 1 _ _ _ hL4.blk; exact this
              have zf := frozen_of_row w4 gl 1 _ _ hL4.blk
              have x0 := cell_of_row w4 gx 0 _ _ _ hb4
              have x1 := cell_of_row w4 gx 1 _ _ _ hb4
              have hone : RecsAt 102 (w4.alloc (.cells #[.int .i64 (r.1 : Int), .slice A3 r.2.length c3] 102)).drew (fun j => w.heap.size ≤ j ∨ w4.heap.size ≤ j) (.slice (some ⟨w4.heap.size, 0, none⟩) 1 1) [r] := (RecsAt.one hO4).below (below_drew (Below.refl _ _))
              have hB5 : Below w4.heap.size w4 (w4.alloc (.cells #[.int .i64 (r.1 : Int), .slice A3 r.2.length c3] 102)).drew := below_drew ((Below.refl _ _).alloc (Nat.le_refl _) _)
              have hR5 := hL4.recs.below hB5
              have hL5 := hL4.chain hB5
              have hB05 := hB04.trans (hB5.mono hs4)
              have hs5 := hB05.size
              have y1 : (w4.alloc (.cells #[.int .i64 (r.1 : Int), .slice A3 r.2.length c3] 102)).cell? ⟨gl, 1, none⟩ = some v := cell_below ((Below.refl _ _).alloc (Nat.le_refl _) _) z1
              have hb5 := (hB5.block gx (Array.getElem?_eq_some_iff.1 hb4).1).trans hb4
              have hrl3 : recs.length ≤ 16384 := by omega
              go_cut [] from 66 to 113 (fun wx => ∃ v1 w6, RecsAt 102 w6 (fun k => w.heap.size ≤ k) v1 (recs ++ [r]) ∧ (w4.alloc (.cells #[.int .i64 (r.1 : Int), .slice A3 r.2.length c3] 102)).drew.grownBy w6 v.ownBlock ∧ wx = w6.setCell ⟨gl, 1, none⟩ v1)
              case first =>
                go_region_law (
                  ((refine step_append_recs (o := ⟨some 101, _, _, _, _, _⟩) rfl (.tmp 98) (.tmp 100) 42 102 rfl (by decide) Tryd.underlying42 info_rrec rfl hR5 rfl hone (by show recs.length + 1 ≤ _; omega) ?_; intro v1 w6 hR6 hg6; obtain ⟨A6, c6, hv6⟩ := hR6.slice; subst hv6; have q1 := cell_of_row w6 gl 1 _ _ _ ((hL5.grow hg6).trans hL5.blk); have p1 := frozen_of_row w6 gl 1 _ _ ((hL5.grow hg6).trans hL5.blk))))
                all_goals
                  go_wp2_with fail
                  go_meet
                  have e1 : (recs ++ [r]).length = recs.length + 1 := by simp
                  refine ⟨.slice A6 (recs ++ [r]).length c6, w6, hR6.mono (fun k _ hz => by rcases hz with hz | (hz | hz) | hz <;> omega), hg6, by rw [e1]⟩
              case rest =>
                obtain ⟨v1, w6, hR6, hg6, hwc⟩ := hcut
                go_upto_region 19 with fail
                have hb6 : w6.heap[gl]? = some (.cells #[.pointer (some ⟨g, 0, none⟩), v, .int .i64 (q0 : Nat), .int .i64 (usedOf recs : Nat), .bool false] 99) := (hL5.grow hg6).trans hL5.blk
                have hbc : wc.heap[gl]? = some (.cells #[.pointer (some ⟨g, 0, none⟩), v1, .int .i64 (q0 : Nat), .int .i64 (us : Nat), .bool false] 99) := by
                  rw [hwc, hus.out]
                  exact Go.Proofs.YtggogenhakdhiaaDoorW.PrintWords.blk_set hb6 1 v1
                have hgx6 : w6.heap[gx]? = some (.cells #[.int .i64 (r.1 : Int), .slice A3 r.2.length c3] 102) := by
                  refine (hg6.block gx (Array.getElem?_eq_some_iff.1 hb5).1 fun e => ?_).trans hb5
                  have h1 := hL1.recs.lt gx e.symm
                  have h2 : gx = w3.heap.size := hgx.out
                  omega
                have hgxc : wc.heap[gx]? = some (.cells #[.int .i64 (r.1 : Int), .slice A3 r.2.length c3] 102) := by
                  rw [hwc]
                  exact (heap_setCell_other _ _ _ _ (Ne.symm hgxn)).trans hgx6
                have hB6c : Below w.heap.size w wc := by
                  rw [hwc]
                  exact (hB05.grown hg6 hs5 (fun k hk => hL5.recs.in_ k hk)).setCell hgl1 v1
                have t3 : wc.cell? ⟨gl, 3, none⟩ = some (.int .i64 (us : Nat)) := by have := cell_of_row wc gl 3 _ _ _ hbc; exact this
                have t0 := cell_of_row wc gx 0 _ _ _ hgxc
                have t1 := cell_of_row wc gx 1 _ _ _ hgxc
                have HS := rsectors2_walk wc.drew (r.1 : Int) A3 r.2.length c3 (by omega)
                rw [hks2] at HS
                have hcd : Below wc.heap.size wc wc.drew := below_drew (Below.refl _ _)
                have hsc6 := hB6c.size
                have hwch := Go.Lib.hid hwc
                clear hwc z1 zf x0 x1 hone hR5 y1 HRa
                go_region_with (
                  ((go_at_call 51; go_must (refine HS.mono ?_; rintro e w8 ⟨rfl, hB8⟩; have hB8c := hcd.trans hB8; have u3 := cell_below hB8c t3; have hb8 := (hB8c.block gl (Array.getElem?_eq_some_iff.1 hbc).1).trans hbc; have v3 := frozen_of_row w8 gl 3 _ _ hb8))))
                all_goals
                  go_wp2_with fail
                  have hks3 : at_ = fi + us := hat.out
                  have hgk := hu
                  have hen1 : en = fi + hn := hen0.out
                  have hus1 : usedOf (recs ++ [r]) = us + ks := husn.out
                  go_roundg (gk - ks)
                  case measure => omega
                  case rel =>
                    have hR6' := hL5.snoc hg6 hR6 (w2 := w8) (by rw [← hwch.out]; exact hB8c)
                    refine ⟨v1, recs ++ [r], (hB6c.trans (hB8c.mono hsc6)).setCell hgl1 _, hR6', by omega, by rw [List.length_append, List.length_singleton]; omega, ?_⟩
                    rw [hus1, ← Nat.add_assoc, ← hks3]
                    exact hsx
theorem ropen_walk (w : World) (g n : Nat) (sv tv : Value) (d : DS) (h : RDsk w g sv tv n d) :
    Calls Tryd.prog 14 #[.pointer (some ⟨g, 0, none⟩)] w (RetOpened RLog w.heap.size g (openOf d n) w) := by
  unfold openOf
  by_cases hd : d.down = true
  · rw [if_pos hd]
    exact ropen_down w g n sv tv d h hd
  · rw [if_neg hd]
    have hd' : d.down = false := by simpa using hd
    cases hg : genOf d.img n with
    | none => exact ropen_head w g n sv tv d h hd' hg
    | some q => exact ropen_ok w g n sv tv d h hd' q hg
end Go.Proofs.YtggogenhakdhiaaDoor
end
section
set_option linter.unusedVariables false
set_option linter.unusedSimpArgs false
attribute [local go_sem ↓] Go.wp_at_zero Go.wp_at_succ
namespace Go.Proofs.YtggogenhakdhiaaDoor
open Go.RowKit

/-- what Format does, and answers -/
def formatOf (n : Nat) (d : DS) : DS × Int :=
  if d.down = true then (d, 50) else if halfOf n < 1 then (d, 2)
  else if (writeOf n d 1 zb64).2 ≠ 0 then writeOf n d 1 zb64 else writeOf n (writeOf n d 1 zb64).1 0 (headB 1)
/-- the program's disk alone -/
abbrev PIn (w : World) (col : Nat → Nat) (ga n : Nat) (d : DS) : Prop := In 82 84 64 n w ga n d col 1
abbrev RIn (w : World) (col : Nat → Nat) (gr n : Nat) (d : DS) : Prop := In 65 5 1 (64 * n) w gr n d col 2
theorem pin_write (w : World) (col : Nat → Nat) (ga n : Nat) (d : DS) (h : PIn w col ga n d) (z : Int) (A : Option Addr) (m c : Nat) (b : List UInt8) (hb : Bys w A m b) (ht : d.trail.length ≤ 1000000) :
    Calls Tryd.prog 11 #[.pointer (some ⟨ga, 0, none⟩), .int .i64 z, .slice A m c] w (fun e w' => e = .returned (.int .i64 (writeOf n d z b).2) ∧ ∃ col', PIn w' col' ga n (writeOf n d z b).1 ∧ Step 1 3 col w w' col') := by
  obtain ⟨sv, tv, hD, hf⟩ := h
  refine (write_walk w ga n sv tv d z A m c b hD hb ht).mono ?_
  rintro e w' ⟨rfl, t', hd', hc, ht'⟩
  exact ⟨rfl, dye w col 1, In.acted hD hf hd' ht', hc.mono (fun k _ hk => .inl (hf k hk)), fun k hk => dye_old hk⟩
theorem rin_write (w : World) (col : Nat → Nat) (gr n : Nat) (d : DS) (h : RIn w col gr n d) (z : Int) (A : Option Addr) (m c : Nat) (b : List UInt8) (hb : Bys w A m b) (ht : d.trail.length ≤ 1000000) :
    Calls Tryd.prog 12 #[.pointer (some ⟨gr, 0, none⟩), .int .i64 z, .slice A m c] w (fun e w' => e = .returned (.int .i64 (writeOf n d z b).2) ∧ ∃ col', RIn w' col' gr n (writeOf n d z b).1 ∧ Step 2 4 col w w' col') := by
  obtain ⟨sv, tv, hD, hf⟩ := h
  refine (rwrite_walk w gr n sv tv d z A m c b hD hb ht).mono ?_
  rintro e w' ⟨rfl, t', hd', hc, ht'⟩
  exact ⟨rfl, dye w col 2, In.acted hD hf hd' ht', hc.mono (fun k _ hk => .inl (hf k hk)), fun k hk => dye_old hk⟩
set_option maxHeartbeats 1000000 in
set_option maxRecDepth 20000 in
theorem format_walk (w : World) (col : Nat → Nat) (ga n : Nat) (d : DS) (h : PIn w col ga n d) (ht : TabAt w) (htc : col 0 = 0) (htr : d.trail.length ≤ 900000) :
    Calls Tryd.prog 56 #[.pointer (some ⟨ga, 0, none⟩)] w (fun e w' => e = .returned (.int .i64 (formatOf n d).2) ∧ ∃ col', PIn w' col' ga n (formatOf n d).1 ∧ Step 1 3 col w w' col') := by
  obtain ⟨ap, hap1⟩ : ∃ x, x = formatOf n d := ⟨_, rfl⟩
  rw [← hap1]
  unfold formatOf at hap1
  have HD : Calls Tryd.prog 27 #[.pointer (some ⟨ga, 0, none⟩)] w (Says (.bool d.down) w) := by
    obtain ⟨sv, tv, hD, -⟩ := h
    exact down_walk w ga n sv tv d hD
  have HH : Calls Tryd.prog 41 #[.pointer (some ⟨ga, 0, none⟩)] w (Says (.int .i64 (halfOf n : Nat)) w) := by
    obtain ⟨sv, tv, hD, -⟩ := h
    exact half_walk w ga n sv tv d hD
  by_cases hd : d.down = true
  · rw [if_pos hd] at hap1
    subst hap1
    rw [hd] at HD
    replace hd := Go.Lib.hid hd
    go_enter Tryd.func56, Tryd.ntmps56
    go_wp2_with (go_at_call 27; go_must (refine HD.mono ?_; rintro e w1 ⟨rfl, rfl⟩))
    go_ret
    exact ⟨rfl, col, h, Step.refl _ _ _ _⟩
  · have hd' : d.down = false := by simpa using hd
    rw [if_neg hd] at hap1
    rw [hd'] at HD
    replace hd' := Go.Lib.hid hd'
    clear hd
    by_cases hf : halfOf n < 1
    · rw [if_pos hf] at hap1
      subst hap1
      have hfz : (halfOf n : Int) < 1 := by omega
      go_enter Tryd.func56, Tryd.ntmps56
      go_wp2_with (first
        | (go_at_call 41; go_must (refine HH.mono ?_; rintro e w1 ⟨rfl, rfl⟩))
        | (go_at_call 27; go_must (refine HD.mono ?_; rintro e w1 ⟨rfl, rfl⟩)))
      go_ret
      exact ⟨rfl, col, h, Step.refl _ _ _ _⟩
    · rw [if_neg hf] at hap1
      have hfz : ¬ (halfOf n : Int) < 1 := by omega
      have HZ := zeros_walk w
      have HW : ∀ x A' c', Below w.heap.size w x → Bys x A' 64 zb64 → Calls Tryd.prog 11 #[.pointer (some ⟨ga, 0, none⟩), .int .i64 1, .slice A' 64 c'] x (fun e w' => e = .returned (.int .i64 (writeOf n d 1 zb64).2) ∧ ∃ col', PIn w' col' ga n (writeOf n d 1 zb64).1 ∧ Step 1 3 col x w' col') :=
        fun x A' c' hx hb => pin_write x col ga n d (h.below hx) 1 A' 64 c' zb64 hb (by omega)
      have htw : (writeOf n d 1 zb64).1.trail.length ≤ d.trail.length + 1 := writeOf_trail (Nat.le_refl _)
      have hzl := zb64_length
      generalize writeOf n d 1 zb64 = wx at *
      generalize zb64 = zz at *
      obtain ⟨d1, e1⟩ := wx
      simp only at hap1 HW htw
      replace hzl := Go.Lib.hid hzl
      by_cases he : e1 = 0
      · subst he
        rw [if_neg (by simp)] at hap1
        have HH1 : ∀ x, TabAt x → Calls Tryd.prog 64 #[.int .i64 1] x (RetBys x.heap.size 5 (headB 1) x) := fun x hx => head_walk x 1 (by omega) hx
        have HV : ∀ x col1 A' c', PIn x col1 ga n d1 → Bys x A' 64 (headB 1) → Calls Tryd.prog 11 #[.pointer (some ⟨ga, 0, none⟩), .int .i64 0, .slice A' 64 c'] x (fun e w' => e = .returned (.int .i64 ap.2) ∧ ∃ col', PIn w' col' ga n ap.1 ∧ Step 1 3 col1 x w' col') := by
          intro x col1 A' c' hx hb
          rw [hap1]
          exact pin_write x col1 ga n d1 hx 0 A' 64 c' (headB 1) hb (by omega)
        have hhl := headB_length 1
        generalize headB 1 = hb at *
        replace hhl := Go.Lib.hid hhl
        clear hap1
        go_enter Tryd.func56, Tryd.ntmps56
        go_upto_region 8 with (first
          | (go_at_call 11; go_must (refine (HW w1 A1 c1 hB1 (Bys.own hown1)).mono ?_; rintro e w2 ⟨rfl, col2, hP2, hS2⟩))
          | (go_at_call 44; go_must (refine HZ.mono ?_; intro e w1 hR; obtain ⟨A1, c1, rfl, hown1, hB1⟩ := hR.len (show zz.length = 64 from hzl.out)))
          | (go_at_call 41; go_must (refine HH.mono ?_; rintro e w1 ⟨rfl, rfl⟩))
          | (go_at_call 27; go_must (refine HD.mono ?_; rintro e w1 ⟨rfl, rfl⟩)))
        have hS02 := (Step.of_below (i := 1) (j := 3) hB1 (fun _ _ => rfl)).trans hS2
        have ht2 : TabAt w2 := ht.chg hS02.chg (by show ¬ (col _ = 1 ∨ col _ = 3); rw [htc]; omega)
        have HH2 := HH1 w2 ht2
        clear HW HZ HH HD HH1
        go_wp2_with (first
          | (go_at_call 11; go_must (refine (HV w3 col2 A3 c3 (hP2.below hB3) (Bys.own hown3)).mono ?_; rintro e w4 ⟨rfl, col4, hP4, hS4⟩))
          | (go_at_call 64; go_must (refine HH2.mono ?_; intro e w3 hR; obtain ⟨A3, c3, rfl, hown3, hB3⟩ := hR.len (show hb.length = 64 from hhl.out))))
        go_ret
        exact ⟨rfl, col4, hP4, (hS02.trans (Step.of_below hB3 (fun _ _ => rfl))).trans hS4⟩
      · rw [if_pos he] at hap1
        subst hap1
        have he1 : (e1 != 0) = true := by rw [bne_iff_ne]; exact he
        have he2 : (e1 == 0) = false := by rw [beq_eq_false_iff_ne]; exact he
        go_enter Tryd.func56, Tryd.ntmps56
        go_wp2_with (first
          | (go_at_call 11; go_must (refine (HW w1 A1 c1 hB1 (Bys.own hown1)).mono ?_; rintro e w2 ⟨rfl, col2, hP2, hS2⟩))
          | (go_at_call 44; go_must (refine HZ.mono ?_; intro e w1 hR; obtain ⟨A1, c1, rfl, hown1, hB1⟩ := hR.len (show zz.length = 64 from hzl.out)))
          | (go_at_call 41; go_must (refine HH.mono ?_; rintro e w1 ⟨rfl, rfl⟩))
          | (go_at_call 27; go_must (refine HD.mono ?_; rintro e w1 ⟨rfl, rfl⟩)))
        go_ret
        exact ⟨rfl, col2, hP2, (Step.of_below hB1 (fun _ _ => rfl)).trans hS2⟩
end Go.Proofs.YtggogenhakdhiaaDoor
end
section
set_option linter.unusedVariables false
set_option linter.unusedSimpArgs false
attribute [local go_sem ↓] Go.wp_at_zero Go.wp_at_succ
namespace Go.Proofs.YtggogenhakdhiaaDoor
open Go.RowKit

set_option maxHeartbeats 1000000 in
set_option maxRecDepth 20000 in
theorem rformat_walk (w : World) (col : Nat → Nat) (gr n : Nat) (d : DS) (h : RIn w col gr n d) (htr : d.trail.length ≤ 900000) :
    Calls Tryd.prog 65 #[.pointer (some ⟨gr, 0, none⟩)] w (fun e w' => e = .returned (.int .i64 (formatOf n d).2) ∧ ∃ col', RIn w' col' gr n (formatOf n d).1 ∧ Step 2 4 col w w' col') := by
  obtain ⟨ap, hap1⟩ : ∃ x, x = formatOf n d := ⟨_, rfl⟩
  rw [← hap1]
  unfold formatOf at hap1
  obtain ⟨c3, hle, hpos⟩ : w.cell? ⟨gr, 3, none⟩ = some (.bool d.down) ∧ n ≤ 16384 ∧ 1 ≤ n := by
    obtain ⟨sv, tv, hD, -⟩ := h
    exact ⟨hD.c3, hD.le, by have := hD.pos; omega⟩
  have HH : Calls Tryd.prog 38 #[.pointer (some ⟨gr, 0, none⟩)] w (Says (.int .i64 (n : Nat)) w) := by
    obtain ⟨sv, tv, hD, -⟩ := h
    exact rsectors_walk w gr n sv tv d hD
  by_cases hd : d.down = true
  · rw [if_pos hd] at hap1
    subst hap1
    rw [hd] at c3
    replace hd := Go.Lib.hid hd
    go_enter Tryd.func65, Tryd.ntmps65
    go_wp2
    go_ret
    exact ⟨rfl, col, h, Step.refl _ _ _ _⟩
  · have hd' : d.down = false := by simpa using hd
    rw [if_neg hd] at hap1
    rw [hd'] at c3
    replace hd' := Go.Lib.hid hd'
    clear hd
    by_cases hf : halfOf n < 1
    · rw [if_pos hf] at hap1
      subst hap1
      have hfz : (n : Int) < 3 := by unfold halfOf at hf; omega
      go_enter Tryd.func65, Tryd.ntmps65
      go_wp2_with (go_at_call 38; go_must (refine HH.mono ?_; rintro e w1 ⟨rfl, rfl⟩))
      go_ret
      exact ⟨rfl, col, h, Step.refl _ _ _ _⟩
    · rw [if_neg hf] at hap1
      have hfz : ¬ (n : Int) < 3 := by unfold halfOf at hf; omega
      have hB1 : Below w.heap.size w (w.alloc (.cells (bv zb64).toArray 5)) := (Below.refl _ _).alloc (Nat.le_refl _) _
      have hzb : Bys (w.alloc (.cells (bv zb64).toArray 5)) (some ⟨w.heap.size, 0, none⟩) 64 zb64 := bys_sector w 5 zb64 zb64_length
      have HW := rin_write (w.alloc (.cells (bv zb64).toArray 5)) col gr n d (h.below hB1) 1 (some ⟨w.heap.size, 0, none⟩) 64 64 zb64 hzb (by omega)
      have htw : (writeOf n d 1 zb64).1.trail.length ≤ d.trail.length + 1 := writeOf_trail (Nat.le_refl _)
      have hmk := made_zb64
      generalize writeOf n d 1 zb64 = wx at *
      generalize zb64 = zz at *
      obtain ⟨d1, e1⟩ := wx
      simp only at hap1 HW htw
      by_cases he : e1 = 0
      · subst he
        rw [if_neg (by simp)] at hap1
        have HH1 : ∀ x, Calls Tryd.prog 47 #[.int .i64 1] x (RetBys x.heap.size 5 (headB 1) x) := fun x => rhead_walk x 1 (by omega)
        have HV : ∀ x col1 A' c', RIn x col1 gr n d1 → Bys x A' 64 (headB 1) → Calls Tryd.prog 12 #[.pointer (some ⟨gr, 0, none⟩), .int .i64 0, .slice A' 64 c'] x (fun e w' => e = .returned (.int .i64 ap.2) ∧ ∃ col', RIn w' col' gr n ap.1 ∧ Step 2 4 col1 x w' col') := by
          intro x col1 A' c' hx hb
          rw [hap1]
          exact rin_write x col1 gr n d1 hx 0 A' 64 c' (headB 1) hb (by omega)
        have hhl := headB_length 1
        generalize headB 1 = hb at *
        replace hhl := Go.Lib.hid hhl
        clear hap1
        go_enter Tryd.func65, Tryd.ntmps65
        go_upto_region 7 with (first
          | (go_at_call 12; go_must (refine HW.mono ?_; rintro e w2 ⟨rfl, col2, hP2, hS2⟩))
          | (go_at_call 38; go_must (refine HH.mono ?_; rintro e w1 ⟨rfl, rfl⟩)))
        have hS02 := (Step.of_below (i := 2) (j := 4) hB1 (fun _ _ => rfl)).trans hS2
        have HH2 := HH1 w2
        clear HW HH HH1
        go_wp2_with (first
          | (go_at_call 12; go_must (refine (HV w3 col2 A3 k3 (hP2.below hB3) (Bys.own hown3)).mono ?_; rintro e w4 ⟨rfl, col4, hP4, hS4⟩))
          | (go_at_call 47; go_must (refine HH2.mono ?_; intro e w3 hR; obtain ⟨A3, k3, rfl, hown3, hB3⟩ := hR.len (show hb.length = 64 from hhl.out))))
        go_ret
        exact ⟨rfl, col4, hP4, (hS02.trans (Step.of_below hB3 (fun _ _ => rfl))).trans hS4⟩
      · rw [if_pos he] at hap1
        subst hap1
        have he1 : (e1 != 0) = true := by rw [bne_iff_ne]; exact he
        have he2 : (e1 == 0) = false := by rw [beq_eq_false_iff_ne]; exact he
        go_enter Tryd.func65, Tryd.ntmps65
        go_wp2_with (first
          | (go_at_call 12; go_must (refine HW.mono ?_; rintro e w2 ⟨rfl, col2, hP2, hS2⟩))
          | (go_at_call 38; go_must (refine HH.mono ?_; rintro e w1 ⟨rfl, rfl⟩)))
        go_ret
        exact ⟨rfl, col2, hP2, (Step.of_below hB1 (fun _ _ => rfl)).trans hS2⟩
end Go.Proofs.YtggogenhakdhiaaDoor
end
section
set_option linter.unusedVariables false
set_option linter.unusedSimpArgs false
attribute [local go_sem ↓] Go.wp_at_zero Go.wp_at_succ
namespace Go.Proofs.YtggogenhakdhiaaDoor
open Go.RowKit

theorem rm_write (w : World) (col : Nat → Nat) (gm gr n : Nat) (v : Value) (d : DS) (s : LS) (h : RM w col gm gr n v d s) (z : Int) (A : Option Addr) (m c : Nat) (b : List UInt8) (hb : Bys w A m b) (ht : d.trail.length ≤ 1000000) :
    Calls Tryd.prog 12 #[.pointer (some ⟨gr, 0, none⟩), .int .i64 z, .slice A m c] w (fun e w' => e = .returned (.int .i64 (writeOf n d z b).2) ∧ ∃ col', RM w' col' gm gr n v (writeOf n d z b).1 s ∧ Step 2 4 col w w' col') := by
  obtain ⟨sv, tv, hD, hf⟩ := h.D
  refine (rwrite_walk w gr n sv tv d z A m c b hD hb ht).mono ?_
  rintro e w' ⟨rfl, t', hd', hc, ht'⟩
  exact ⟨rfl, dye w col 2, h.acted hD hf hd' hc ht'⟩
/-- how far the laying is: none fell so far, or one fell -/
def LaySt (n at_ : Nat) (b : List UInt8) (res : DS × Int) (k : Nat) (d : DS) (e : Int) : Prop := (e = 0 ∧ res = layDown n at_ b k d) ∨ (e ≠ 0 ∧ res = (d, e))
set_option maxHeartbeats 2000000 in
set_option maxRecDepth 20000 in
theorem rlay_walk (w : World) (col : Nat → Nat) (gm gr n : Nat) (v : Value) (d : DS) (s : LS) (h : RM w col gm gr n v d s) (hsd : s.down = false) (at_ cnt room m c : Nat) (A : Option Addr) (b : List UInt8) (hb : Bys w A m b)
    (hA : ∀ ad, A = some ad → col ad.block ≠ 2 ∧ col ad.block ≠ 4) (hm : m = 64 * cnt) (hmc : m ≤ c) (hat : at_ + cnt ≤ 1000000) (hroom : room ≤ 1000000) (ht : d.trail.length + cnt + 1 ≤ 1000000) :
    Calls Tryd.prog 102 #[.pointer (some ⟨gm, 0, none⟩), .int .i64 (at_ : Nat), .slice A m c, .int .i64 (room : Nat)] w
      (fun e w' => e = .returned (.int .i64 (layOf n at_ b cnt room d).2) ∧ ∃ col', RM w' col' gm gr n v (layOf n at_ b cnt room d).1 { s with down := s.down || decide ((layOf n at_ b cnt room d).2 ≠ 0) } ∧ Step 2 4 col w w' col') := by
  have hd : IntKind.i64.wrap ((m : Int) / 64) = (cnt : Int) := by rw [IntKind.wrap_i64]; omega
  have hd2 : (m : Int) / 64 = (cnt : Int) := by omega
  obtain ⟨res, hres⟩ : ∃ x, x = layOf n at_ b cnt room d := ⟨_, rfl⟩
  rw [← hres]
  have hres1 := hres
  unfold layOf at hres1
  clear hres
  have hm0 := Go.Lib.hid hm
  have hw1 : IntKind.i64.wrap ((at_ : Int) + (cnt : Int)) = ((at_ + cnt : Nat) : Int) := by rw [IntKind.wrap_i64]; omega
  have hsc : IntKind.i64.wrap ((cnt : Int) - 1) = (cnt : Int) - 1 := by rw [IntKind.wrap_i64]; omega
  have hmc2 : 64 * cnt ≤ c := by omega
  clear hm
  replace hsd := Go.Lib.hid hsd
  have hbc := hb
  clear hb
  go_enter Tryd.func102, Tryd.ntmps102
  go_upto_if 17 with fail
  go_cut [10] from 12 (fun u wx => ∃ col1 d1 e1, u = .int .i64 e1 ∧ RM wx col1 gm gr n v d1 s ∧ Step 2 4 col w wx col1 ∧ LaySt n at_ b res cnt d1 e1 ∧ d1.trail.length ≤ d.trail.length + 1)
  case first =>
    by_cases hcr : cnt < room
    · have hcz : (cnt : Int) < (room : Int) := by omega
      have hczN : decide (cnt < room) = true := decide_eq_true hcr
      rw [if_pos hcr] at hres1
      obtain ⟨c0, -, -, -, -⟩ := h.L.cell
      have hB1 : Below w.heap.size w (w.alloc (.cells (bv zb64).toArray 5)).drew := below_drew ((Below.refl _ _).alloc (Nat.le_refl _) _)
      have hzb : Bys (w.alloc (.cells (bv zb64).toArray 5)).drew (some ⟨w.heap.size, 0, none⟩) 64 zb64 := (bys_sector w 5 zb64 zb64_length).drew
      have HW := rm_write _ col gm gr n v d s (h.below hB1) ((at_ + cnt : Nat) : Int) (some ⟨w.heap.size, 0, none⟩) 64 64 zb64 hzb (by omega)
      have htw : (writeOf n d ((at_ + cnt : Nat) : Int) zb64).1.trail.length ≤ d.trail.length + 1 := writeOf_trail (Nat.le_refl _)
      have hmk := made_zb64
      rw [Int.natCast_add] at HW hres1 htw
      generalize writeOf n d ((at_ : Int) + (cnt : Int)) zb64 = r1 at *
      generalize zb64 = zz at *
      obtain ⟨d1, e1⟩ := r1
      simp only at hres1 HW htw
      have hst : LaySt n at_ b res cnt d1 e1 := by
        by_cases he : e1 = 0
        · rw [if_pos he] at hres1; exact .inl ⟨he, hres1⟩
        · rw [if_neg he] at hres1; exact .inr ⟨he, hres1⟩
      replace hres1 := Go.Lib.hid hres1
      replace hst := Go.Lib.hid hst
      go_upto_region 4 with fail
      go_region_held_law (fun w' => w'.cell? ⟨gm, 0, none⟩ = some (.pointer (some ⟨gr, 0, none⟩))) (first | exact p0 | go_keep) (
        ((go_at_call 12; (with_reducible refine HW.mono ?_); rintro e w2 ⟨rfl, col2, hP2, hS2⟩; obtain ⟨p0, -, -, -, -⟩ := hP2.L.cell)))
      go_wp2_with fail
      go_meet
      exact ⟨col2, d1, e1, rfl, hP2, (Step.of_below hB1 (fun _ _ => rfl)).trans hS2, hst.out, htw⟩
    · have hcz : ¬ (cnt : Int) < (room : Int) := by omega
      have hczN : decide (cnt < room) = false := decide_eq_false hcr
      rw [if_neg hcr] at hres1
      replace hres1 := Go.Lib.hid hres1
      go_wp2_with fail
      go_meet
      exact ⟨col, d, 0, rfl, h, Step.refl _ _ _ _, .inl ⟨rfl, hres1.out⟩, by omega⟩
  case rest =>
    obtain ⟨col1, d1, e1, rfl, hP, hS, hst, htr⟩ := hcut
    replace hst := Go.Lib.hid hst
    clear h hres1
    go_wp2
    go_loopg [10, 11] cnt (fun k u i wr => i = .int .i64 ((k : Int) - 1) ∧ k ≤ cnt ∧ ∃ col2 d2 e2, u = .int .i64 e2 ∧ RM wr col2 gm gr n v d2 s ∧ Step 2 4 col w wr col2 ∧ Hid (LaySt n at_ b res k d2 e2) ∧ d2.trail.length + k ≤ d.trail.length + 1 + cnt)
    case atStart => exact ⟨rfl, Nat.le_refl _, col1, d1, e1, rfl, hP, hS, hst, by omega⟩
    case round =>
      clear hP hS hst htr
      obtain ⟨hi, hk, col2, d2, e2, rfl, hP, hS, hst, htr⟩ := hrel
      have hend : e2 ≠ 0 → res = (d2, e2) := by
        intro he
        rcases hst.out with ⟨h0, _⟩ | ⟨_, h0⟩
        · exact absurd h0 he
        · exact h0
      by_cases he : e2 = 0
      · subst he
        have hr : res = layDown n at_ b gk d2 := by
          rcases hst.out with ⟨_, h0⟩ | ⟨h0, _⟩
          · exact h0
          · exact absurd rfl h0
        clear hst hend
        cases gk with
        | zero =>
          have hi2 : u11 = .int .i64 (-1) := by rw [hi]; simp
          subst hi2
          clear hi
          have hr2 : res = (d2, 0) := by rw [hr]; rfl
          replace hr2 := Go.Lib.hid hr2
          clear hr
          go_wp2
          go_ret
          rw [hr2.out]
          have hsx : ({ s with down := s.down || decide ((0 : Int) ≠ 0) } : LS) = s := by cases s; simp
          refine ⟨rfl, col2, ?_, hS⟩
          show RM _ col2 gm gr n v d2 { s with down := s.down || decide ((0 : Int) ≠ 0) }
          rw [hsx]
          exact hP
        | succ k =>
          have hi2 : u11 = .int .i64 (k : Nat) := by rw [hi]; congr 1; omega
          subst hi2
          clear hi
          have hmm : m = 64 * cnt := hm0.out
          cases A with
          | none => obtain ⟨ad, e, _⟩ := hbc.cell 0 (by omega); cases e
          | some ad =>
            have hm1 : IntKind.i64.wrap ((k : Int) * 64) = ((64 * k : Nat) : Int) := by rw [IntKind.wrap_i64]; omega
            have hm2 : IntKind.i64.wrap ((k : Int) + 1) = ((k + 1 : Nat) : Int) := by rw [IntKind.wrap_i64]; omega
            have hm3 : IntKind.i64.wrap (((k : Int) + 1) * 64) = 64 * (k : Int) + 64 := by rw [IntKind.wrap_i64]; omega
            have hm4 : IntKind.i64.wrap ((at_ : Int) + (k : Int)) = ((at_ + k : Nat) : Int) := by rw [IntKind.wrap_i64]; omega
            have hm5 : ¬ c = 64 * k := by omega
            have hm6 : 64 * k + 64 ≤ c := by omega
            have hz7 : max (64 * (k : Int) + 64) 0 = 64 * (k : Int) + 64 := by omega
            have hz1 : (0 : Int) ≤ 64 * (k : Int) := by omega
            have hz2 : 64 * (k : Int) ≤ 64 * (k : Int) + 64 := by omega
            have hz3 : 64 * (k : Int) + 64 ≤ (c : Int) := by omega
            have hz4 : (64 * (k : Int)).toNat = 64 * k := by omega
            have hz5 : (64 * (k : Int) + 64).toNat = 64 * k + 64 := by omega
            have hz6 : (0 : Int) ≤ 64 * (k : Int) + 64 := by omega
            have hbk : Bys wr.drew (some (ad.add (64 * k))) 64 (pc b k) := ((hbc.chg hS.chg (fun ad' e => by have := hA ad' e; omega)).piece (64 * k) 64 (by omega)).drew
            have HW := rm_write wr.drew col2 gm gr n v d2 s (hP.below (below_drew (Below.refl _ _))) ((at_ + k : Nat) : Int) (some (ad.add (64 * k))) 64 (c - 64 * k) (pc b k) hbk (by omega)
            have htw : (writeOf n d2 ((at_ + k : Nat) : Int) (pc b k)).1.trail.length ≤ d2.trail.length + 1 := writeOf_trail (Nat.le_refl _)
            have hrs : res = if (writeOf n d2 ((at_ + k : Nat) : Int) (pc b k)).2 = 0 then layDown n at_ b k (writeOf n d2 ((at_ + k : Nat) : Int) (pc b k)).1 else writeOf n d2 ((at_ + k : Nat) : Int) (pc b k) := hr
            clear hr
            rw [Int.natCast_add] at HW htw hrs
            generalize writeOf n d2 ((at_ : Int) + (k : Int)) (pc b k) = r1 at *
            obtain ⟨d3, e3⟩ := r1
            simp only at HW htw hrs
            have hst3 : LaySt n at_ b res k d3 e3 := by
              by_cases he : e3 = 0
              · rw [if_pos he] at hrs; exact .inl ⟨he, hrs⟩
              · rw [if_neg he] at hrs; exact .inr ⟨he, hrs⟩
            clear hrs
            replace hst3 := Go.Lib.hid hst3
            replace hmm := Go.Lib.hid hmm
            obtain ⟨c0, -, -, -, -⟩ := hP.L.cell
            go_upto_region 8 with fail
            rotate_left
            go_region_held_law (fun w' => w'.cell? ⟨gm, 0, none⟩ = some (.pointer (some ⟨gr, 0, none⟩))) (first | exact p0 | go_keep) (
              ((go_at_call 12; (first | rw [show (k + 1) * 64 - 64 * k = 64 by omega] | skip); (with_reducible refine HW.mono ?_); rintro e w2 ⟨rfl, col3, hP3, hS3⟩; obtain ⟨p0, -, -, -, -⟩ := hP3.L.cell)))
            go_wp2
            go_roundg k
            case measure => omega
            case rel => exact ⟨by first | rfl | (congr 1; omega), by omega, col3, d3, e3, rfl, hP3, hS.trans ((Step.of_below (below_drew (Below.refl _ _)) (fun _ _ => rfl)).trans hS3), hst3, by omega⟩
      · have hr2 := hend he
        have he1 : (e2 != 0) = true := by rw [bne_iff_ne]; exact he
        have he2 : (e2 == 0) = false := by rw [beq_eq_false_iff_ne]; exact he
        replace hr2 := Go.Lib.hid hr2
        clear hst hend
        obtain ⟨c0, -, -, -, c4⟩ := hP.L.cell
        have f4 := frozen_of_row wr gm 4 _ _ hP.L.blk
        have hfin : RM (wr.setCell ⟨gm, 4, none⟩ (.bool true)) col2 gm gr n v d2 { s with down := s.down || decide (e2 ≠ 0) } ∧ Step 2 4 col w (wr.setCell ⟨gm, 4, none⟩ (.bool true)) col2 := by
          obtain ⟨k1, k2⟩ := hP.mark true
          refine ⟨?_, hS.trans k2⟩
          rw [decide_eq_true he, Bool.or_true]
          exact k1
        cases gk with
        | zero =>
          have hi2 : u11 = .int .i64 (-1) := by rw [hi]; simp
          subst hi2
          clear hi
          go_wp2
          go_ret
          rw [hr2.out]
          exact ⟨rfl, col2, hfin.1, hfin.2⟩
        | succ k =>
          have hi2 : u11 = .int .i64 (k : Nat) := by rw [hi]; congr 1; omega
          subst hi2
          clear hi
          go_wp2
          go_ret
          rw [hr2.out]
          exact ⟨rfl, col2, hfin.1, hfin.2⟩
end Go.Proofs.YtggogenhakdhiaaDoor
end
section
set_option linter.unusedVariables false
set_option linter.unusedSimpArgs false
namespace Go.Proofs.YtggogenhakdhiaaDoor
open Go.RowKit

section
variable {P : Program} {w : World} {t T : TypeId} {g base : Nat}
/-- append([]byte{}, b...) -/
theorem run_clone_bys (ht : P.underlying t = some (.slice 5)) (hinfo : (P.info? 5).map (fun i => (i.zero, i.size, i.bytes)) = some (some (.int .u8 0), 1, 1)) (ty : TypeId)
    (hg : w.heap[g]? = some (.cells #[] 5 (0, 0))) (hbg : base ≤ g) (hb : base ≤ w.heap.size) {A : Option Addr} {m c : Nat} {l : List UInt8} (hx : Bys w A m l) (hm : m ≤ 4000000000000) :
    ∃ A' c' w', (Builtin.append_ #[t, t] ty #[.slice (some ⟨g, 0, none⟩) 0 0, .slice A m c]).run P w = .ok (.slice A' m c') w' ∧ OwnB w' (fun k => base ≤ k) A' m c' l ∧ Below w.heap.size w w' := by
  obtain ⟨i0, hi, hzz⟩ := Option.map_eq_some_iff.1 hinfo
  simp only [Prod.mk.injEq] at hzz
  obtain ⟨hz0, hz1, hz2⟩ := hzz
  have hlen := hx.len
  rcases Nat.eq_zero_or_pos m with h0 | h0
  · subst h0
    have hl0 : l = [] := List.eq_nil_of_length_eq_zero hlen
    subst hl0
    have hrun : (Builtin.append_ #[t, t] ty #[.slice (some ⟨g, 0, none⟩) 0 0, .slice A 0 c]).run P w = .ok (.slice (some ⟨g, 0, none⟩) 0 0) w := by
      cases A with
      | none => simp [Builtin.append_, run_underlying ht, sizeOf, typeInfo, hi, Builtin.lenOf, Builtin.firstCells, storeCells]
      | some ad =>
        have hf := run_firstCells_some (P := P) w i0.size 0 ad 0 c [] (by simp) (by simp)
        simp [Builtin.append_, run_underlying ht, sizeOf, typeInfo, hi, Builtin.lenOf, hf, storeCells]
    refine ⟨_, _, w, hrun, ⟨own_empty w 0 _ 1 g (Nat.zero_le _) hg, fun k hk => ?_⟩, Below.refl _ _⟩
    have : g = k := by simpa [Value.ownBlock] using hk
    omega
  · obtain ⟨ad, rfl, _⟩ := hx.cell 0 h0
    have hr := run_append_grow (P := P) w t ty 5 i0 (.int .u8 0) ht hi hz0 ⟨g, 0, none⟩ 0 0 [] (by simp) (by simp) ad m c (bv l) (by rw [bv_length, hz1, Nat.mul_one, hlen]) hx.news (by omega) (by omega) (growslice_fits (by omega) (by rw [hz2]; omega))
    have hge := grownCap_ge w (0 + m) 0 5
    have hcm := grownCap_le_maxLen w (0 + m) 0 5 (by simp only [maxLen]; omega)
    generalize grownCap w (0 + m) 0 5 = cp at *
    rw [Nat.zero_add] at hr hge
    refine ⟨_, _, _, hr, ⟨⟨by rw [bv_length]; omega, .inr ⟨w.heap.size, _, _, rfl, Nat.zero_le _, heap_alloc_new w.drew _, hge, hcm, ?_, ?_⟩⟩, fun k hk => ?_⟩, (Below.refl _ _).drew.alloc (Nat.le_refl _) _⟩
    · simp [bv_length, size_zeroCells, Value.cells, hlen]
      omega
    · simp only [Array.toList_append, List.append_assoc, List.nil_append]
      rw [Nat.mul_one, ← show (bv l).length = m by rw [bv_length, hlen]]
      exact List.take_left
    · have : w.heap.size = k := by simpa [Value.ownBlock] using hk
      omega
/-- append([]Rec{}, l...): the records' bytes are the old ones -/
theorem run_clone_recs (hT : T ≠ 5) (ht : P.underlying t = some (.slice T)) (hinfo : (P.info? T).map (fun i => (i.zero, i.size, i.bytes)) = some (some (.agg #[.int .i64 0, .slice none 0 0]), 2, 32)) (ty : TypeId)
    (hg : w.heap[g]? = some (.cells #[] T (0, 0))) (hbg : base ≤ g) (hb : base ≤ w.heap.size) {v : Value} {Z : Nat → Prop} {l : List (Int × List UInt8)} (h : RecsAt T w Z v l) (hl : l.length ≤ 4000000000) :
    ∃ v' w', (Builtin.append_ #[t, t] ty #[.slice (some ⟨g, 0, none⟩) 0 0, v]).run P w = .ok v' w' ∧ RecsAt T w' (fun k => Z k ∨ base ≤ k) v' l ∧ (∀ k, v'.ownBlock = some k → base ≤ k) ∧ Below w.heap.size w w' := by
  obtain ⟨i0, hi, hz0, hz1, hz2⟩ := recInfo_parts hinfo
  obtain ⟨ys, ho, hy⟩ := h.ex
  have hly : ys.length = 2 * l.length := by have := ho.1; omega
  have hself : RecsAt T w (fun k => Z k ∨ base ≤ k) (.slice (some ⟨g, 0, none⟩) 0 0) [] := ⟨⟨[], own_empty w 0 T 2 g (Nat.zero_le _) hg, fun i r hr => by simp at hr⟩, fun k hk => by
    have : g = k := by simpa [Value.ownBlock] using hk
    exact .inr (by omega)⟩
  have hselfo : ∀ k, (Value.slice (some ⟨g, 0, none⟩) 0 0).ownBlock = some k → base ≤ k := fun k hk => by
    have : g = k := by simpa [Value.ownBlock] using hk
    omega
  rcases ho.2 with ⟨rfl, h0⟩ | ⟨g2, cap2, cur2, rfl, _, hh2, hn2, hm2, _⟩
  · have hl0 : l = [] := List.eq_nil_of_length_eq_zero h0
    subst hl0
    have hrun : (Builtin.append_ #[t, t] ty #[.slice (some ⟨g, 0, none⟩) 0 0, .slice none 0 0]).run P w = .ok (.slice (some ⟨g, 0, none⟩) 0 0) w := by
      simp [Builtin.append_, run_underlying ht, sizeOf, typeInfo, hi, Builtin.lenOf, Builtin.firstCells, storeCells]
    exact ⟨_, _, hrun, hself, hselfo, Below.refl _ _⟩
  · have hnews : ∀ j u, ys[j]? = some u → w.cell? ((⟨g2, 0, none⟩ : Addr).add j) = some u := ho.cells (g := g2) (by simp [Value.ownBlock])
    rcases Nat.eq_zero_or_pos l.length with h0 | h0
    · have hl0 : l = [] := List.eq_nil_of_length_eq_zero h0
      subst hl0
      have hrun : (Builtin.append_ #[t, t] ty #[.slice (some ⟨g, 0, none⟩) 0 0, .slice (some ⟨g2, 0, none⟩) 0 cap2]).run P w = .ok (.slice (some ⟨g, 0, none⟩) 0 0) w := by
        have hf := run_firstCells_some (P := P) w i0.size 0 ⟨g2, 0, none⟩ 0 cap2 [] (by simp) (by simp)
        simp [Builtin.append_, run_underlying ht, sizeOf, typeInfo, hi, Builtin.lenOf, hf, storeCells]
      exact ⟨_, _, hrun, hself, hselfo, Below.refl _ _⟩
    · have hr := run_append_grow (P := P) w t ty T i0 (.agg #[.int .i64 0, .slice none 0 0]) ht hi hz0 ⟨g, 0, none⟩ 0 0 [] (by simp) (by simp) ⟨g2, 0, none⟩ l.length cap2 ys (by rw [hly, hz1]; omega) hnews (by omega) (by omega) (growslice_fits (by omega) (by rw [hz2]; omega))
      have hge := grownCap_ge w (0 + l.length) 0 T
      have hcm := grownCap_le_maxLen w (0 + l.length) 0 T (by simp only [maxLen]; omega)
      generalize grownCap w (0 + l.length) 0 T = cp at *
      rw [Nat.zero_add] at hr hge
      have hB : Below w.heap.size w (w.drew.alloc (.cells (([] : List Value).toArray ++ ys.toArray ++ Builtin.zeroCells (Value.agg #[.int .i64 0, .slice none 0 0]).cells (cp - l.length)) T)) := (Below.refl _ _).drew.alloc (Nat.le_refl _) _
      refine ⟨_, _, hr, ⟨⟨ys, ⟨by omega, .inr ⟨w.heap.size, _, _, rfl, Nat.zero_le _, heap_alloc_new w.drew _, hge, hcm, ?_, ?_⟩⟩, fun i r hir => ?_⟩, fun k hk => ?_⟩, fun k hk => ?_, hB⟩
      · simp [size_zeroCells, Value.cells, hly]
        omega
      · simp only [Array.toList_append, List.append_assoc, List.nil_append]
        rw [← show ys.length = l.length * 2 by omega]
        exact List.take_left
      · obtain ⟨A, c, e1, e2, e3⟩ := hy i r hir
        exact ⟨A, c, e1, e2, (e3.same (fun k hk _ => hB.block k hk)).mono (fun _ _ hz => .inl hz)⟩
      · have : w.heap.size = k := by simpa [Value.ownBlock] using hk
        exact .inr (by omega)
      · have : w.heap.size = k := by simpa [Value.ownBlock] using hk
        omega
/-- one step of a region that draws its order -/
theorem step_builtin {ops : Array Oper} {o : Oper} {a : Act} {K : Act → World → Prop} {Q : Exit → Act → World → Prop} {E : Prop} (hgd : o.guard = none) (s x : Operand)
    (ho : o.op = .call { callee := .builtin .append, args := #[s, x], argTypes := #[t, t] }) {v1 v2 v' : Value} {w' : World} (hs : a.eval s = v1) (hx : a.eval x = v2)
    (hr : (Builtin.append_ #[t, t] o.type #[v1, v2]).run P w = .ok v' w') (hk : K (a.put o.dst v') w') :
    if Region.wanted o (yielded ops a.tmps) = true then Oper.wp P o a w K Q else E := by
  have hw : Region.wanted o (yielded ops a.tmps) = true := by simp [Region.wanted, hgd]
  rw [if_pos hw]
  unfold Oper.wp execOp
  simp only [ho, resolve, invoke, builtin, Sem.run_bind, Sem.run_pure, Result.andThen_ok, List.map_toArray, List.map_cons, List.map_nil, hs, hx, hr]
  exact hk
end
end Go.Proofs.YtggogenhakdhiaaDoor
end
section
set_option linter.unusedVariables false
set_option linter.unusedSimpArgs false
attribute [local go_sem ↓] Go.wp_at_zero Go.wp_at_succ
namespace Go.Proofs.YtggogenhakdhiaaDoor
open Go.RowKit

/-- make([]T, 0, n) for records -/
theorem wpList_make_recs {P : Program} {ops : Array Oper} {rest : List Oper} {o : Oper} {a : Act} {w : World} {Q : Exit → Act → World → Prop} (hgd : o.guard = none) (t T : TypeId) (x y : Operand) (ho : o.op = .makeSlice t x y) (n : Nat) (hx : a.eval x = .int .i64 0) (hy : a.eval y = .int .i64 n)
    (ht : P.underlying t = some (.slice T)) (hinfo : (P.info? T).map (fun i => (i.zero, i.size, i.bytes)) = some (some (.agg #[.int .i64 0, .slice none 0 0]), 2, 32)) (hn : n ≤ 4000000000000)
    (h : ∀ w1, RecsAt T w1 (fun k => w.heap.size ≤ k) (.slice (some ⟨w.heap.size, 0, none⟩) 0 n) [] → Below w.heap.size w w1 → wpList P ops Q rest (a.put o.dst (.slice (some ⟨w.heap.size, 0, none⟩) 0 n)) w1) : wpList P ops Q (o :: rest) a w := by
  obtain ⟨i, hi, hz, hs, hb⟩ := info_parts hinfo
  have hr := run_make (P := P) w t T i _ ht hi hz .i64 .i64 0 n (by omega) (by omega) (by rw [hb]; omega) (by omega)
  refine wpList_plain hgd fun K hK => ?_
  unfold Oper.wp execOp
  simp only [ho, hx, hy, Sem.run_bind, Sem.run_pure, Result.andThen_ok, hr]
  refine hK _ _ (h _ ⟨⟨[], ?_, fun i r hr => by simp at hr⟩, fun k hk => ?_⟩ ((Below.refl _ _).alloc (Nat.le_refl _) _))
  · have := World.ownsRow_made (base := 0) (e := T) (size := 2) w (madeCells (Value.agg #[.int .i64 0, .slice none 0 0]).cells (n * i.size)) n (Nat.zero_le _) (by simp only [maxLen]; omega) (by rw [hs]; simp [madeCells])
    simpa using this
  · have : w.heap.size = k := by simpa [Value.ownBlock] using hk
    omega
theorem RecsAt.loads {T : TypeId} {w : World} {Z : Nat → Prop} {v : Value} {l : List (Int × List UInt8)} (h : RecsAt T w Z v l) {i : Nat} (hi : i < l.length) :
    ∃ g cap A c, v = .slice (some ⟨g, 0, none⟩) l.length cap ∧ w.cell? ⟨g, i * 2, none⟩ = some (.int .i64 (l[i]).1) ∧ w.cell? ⟨g, i * 2 + 1, none⟩ = some (.slice A (l[i]).2.length c) ∧ OwnB w Z A (l[i]).2.length c (l[i]).2 ∧ l.length ≤ cap ∧ cap ≤ 9223372036854775807 := by
  obtain ⟨g, cap, A, c, hv, h1, h2, h3⟩ := h.cell (List.getElem?_eq_getElem hi)
  obtain ⟨A', c', hv', k1, k2⟩ := h.cap
  rw [hv'] at hv
  cases hv
  exact ⟨g, cap, A, c, hv', by rw [Nat.mul_comm]; exact h1, by rw [Nat.mul_comm]; exact h2, h3, k1, k2⟩
/-- records that can be read -/
def RecsR (w : World) (A : Option Addr) (l : List (Int × List UInt8)) : Prop :=
  ∀ i (hi : i < l.length), ∃ g o B c, A = some ⟨g, o, none⟩ ∧ w.cell? ⟨g, o + i * 2, none⟩ = some (.int .i64 (l[i]).1) ∧ w.cell? ⟨g, o + i * 2 + 1, none⟩ = some (.slice B (l[i]).2.length c) ∧ Bys w B (l[i]).2.length (l[i]).2
theorem RecsR.below {w w' : World} {A : Option Addr} {l : List (Int × List UInt8)} (h : RecsR w A l) (hb : Below w.heap.size w w') : RecsR w' A l := fun i hi => by
  obtain ⟨g, o, B, c, e, h1, h2, h3⟩ := h i hi
  exact ⟨g, o, B, c, e, cell_below hb h1, cell_below hb h2, h3.below hb⟩
theorem RecsAt.r {T : TypeId} {w : World} {Z : Nat → Prop} {A : Option Addr} {n c : Nat} {l : List (Int × List UInt8)} (h : RecsAt T w Z (.slice A n c) l) : RecsR w A l := fun i hi => by
  obtain ⟨g, cap, B, c', e, h1, h2, h3, _⟩ := h.loads hi
  cases e
  exact ⟨g, 0, B, c', rfl, by rw [Nat.zero_add]; exact h1, by rw [Nat.zero_add]; exact h2, h3.bys⟩
set_option maxHeartbeats 1000000 in
set_option maxRecDepth 20000 in
theorem copied_rd (w : World) (A : Option Addr) (c0 : Nat) (l : List (Int × List UInt8)) (h : RecsR w A l) (hl : l.length ≤ 1000000000) (hb : ∀ r ∈ l, r.2.length ≤ 100000000000000) :
    Calls Tryd.prog 62 #[.slice A l.length c0] w (fun e w' => ∃ v', e = .returned v' ∧ RecsAt 50 w' (fun k => w.heap.size ≤ k) v' l ∧ Below w.heap.size w w') := by
  go_enter Tryd.func62, Tryd.ntmps62
  go_wp2_with (at_make; go_must (refine wpList_make_recs (o := ⟨some 8, _, _, _, _, _⟩) rfl 44 50 (.const (.int .i64 0)) (.tmp 7) rfl l.length rfl rfl Tryd.underlying44 info_rec (by omega) ?_; intro w1 hR1 hB1))
  go_loopw [3, 11] (fun v i wr => ∃ j : Nat, j ≤ l.length ∧ i = .int .i64 j ∧ RecsAt 50 wr (fun k => w.heap.size ≤ k) v (l.take j) ∧ Below w.heap.size w wr) (fun _ i _ => l.length - (intOf i).toNat)
  case atStart => exact ⟨0, by omega, rfl, by rw [List.take_zero]; exact hR1, hB1⟩
  case round =>
    obtain ⟨j, hj, rfl, hRj, hBr⟩ := hrel
    by_cases hlt : j < l.length
    · have hltz : (j : Int) < (l.length : Int) := by omega
      have hr := h.below hBr
      obtain ⟨g, o, A, c, hv, k0, k1, hO⟩ := hr j hlt
      subst hv
      have hbl := hb l[j] (List.getElem_mem _)
      have htk : l.take (j + 1) = l.take j ++ [l[j]] := by rw [List.take_succ_eq_append_getElem hlt]
      generalize l[j] = r at *
      replace htk := Go.Lib.hid htk
      have hBX : Below wr.heap.size wr (wr.alloc (.cells #[.int .i64 r.1, .slice A r.2.length c] 50)) := (Below.refl _ _).alloc (Nat.le_refl _) _
      have hX := heap_alloc_new wr (.cells #[.int .i64 r.1, .slice A r.2.length c] 50)
      obtain ⟨gx, hgx⟩ : ∃ x, x = wr.heap.size := ⟨_, rfl⟩
      go_upto_region 5 with fail
      rw [← hgx] at hX ⊢
      have hgx1 : wr.heap.size ≤ gx := by omega
      clear hgx
      have hRX := hRj.below hBX
      have hBw : Below w.heap.size w (wr.alloc (.cells #[.int .i64 r.1, .slice A r.2.length c] 50)) := hBr.trans (hBX.mono hBr.size)
      have hby := hO.below hBX
      have hlX : gx < (wr.alloc (.cells #[.int .i64 r.1, .slice A r.2.length c] 50)).heap.size := (Array.getElem?_eq_some_iff.1 hX).1
      have hzX := hBX.size
      have hvX := fun k hk => Nat.lt_of_lt_of_le (hRj.lt k hk) hgx1
      have hlt2 : (l.take j).length = j := by rw [List.length_take]; omega
      generalize wr.alloc (.cells #[.int .i64 r.1, .slice A r.2.length c] 50) = W at *
      have hsW := hBw.size
      have z0 := cell_of_row W gx 0 _ _ _ hX
      have z1 := cell_of_row W gx 1 _ _ _ hX
      have hd : Below W.heap.size W W.drew := below_drew (Below.refl _ _)
      have HC := clone_any W.drew A r.2.length c r.2 (hby.below hd) (by omega)
      replace hlt2 := Go.Lib.hid hlt2
      go_region_held_law (fun w' => w'.cell? ⟨gx, 0, none⟩ = some (.int .i64 r.1) ∧ w'.cell? ⟨gx, 1, none⟩ = some (.slice A r.2.length c)) (first | exact ⟨y0, y1⟩ | exact ⟨x0, x1⟩ | go_keep) ((first
        | (refine step_append_recs (o := ⟨some 23, _, _, _, _, _⟩) rfl (.tmp 15) (.tmp 22) 44 50 rfl (by decide) Tryd.underlying44 info_rec rfl hR3 rfl hone (by rw [show (l.take j).length = j from hlt2.out]; show j + 1 ≤ _; omega) ?_; intro v4 w4 hR4 hg4; obtain ⟨A4, c4, hv4⟩ := hR4.slice; subst hv4; have hX4 := (hg4.block gx hlX3 (fun e => by have := hvX gx e.symm; omega)).trans hX3; have y0 := cell_of_row w4 gx 0 _ _ _ hX4; have y1 := cell_of_row w4 gx 1 _ _ _ hX4)
        | (go_at_call 94; (with_reducible refine HC.mono ?_); intro e w2 hR; obtain ⟨A2, c2, rfl, hown2, hB2⟩ := hR; have hB2W := hd.trans hB2; have x0 := cell_below hB2W z0; have x1 := cell_below hB2W z1; have hB3 : Below W.heap.size W (w2.alloc (.cells #[.int .i64 r.1, .slice A2 r.2.length c2] 50)) := hB2W.alloc hB2W.size _; have hR3 := hRX.below hB3; have hone := RecsAt.one (T := 50) (k := r.1) (OwnB.mk' hown2); have hX3 := (hB3.block gx hlX).trans hX; have hlX3 := (Array.getElem?_eq_some_iff.1 hX3).1)))
      go_wp2_with fail
      have hBw4 : Below w.heap.size w w4 := by
        refine Below.grown (hBw.trans (hB3.mono hsW)) hg4 (Nat.le_trans hsW hB3.size) fun k hk => ?_
        exact hRj.in_ k hk
      have hR5 : RecsAt 50 w4 (fun k => w.heap.size ≤ k) (.slice A4 (l.take (j + 1)).length c4) (l.take (j + 1)) := by
        rw [htk.out]
        exact hR4.mono (fun k _ hz => by
          have h1 : W.drew.heap.size = W.heap.size := rfl
          have h2 := hB2W.size
          rcases hz with hz | (hz | hz) | hz
          · exact hz
          · omega
          · omega
          · simp at hz; omega)
      rw [show (l.take (j + 1)).length = j + 1 by rw [List.length_take]; omega] at hR5
      go_roundw
      case rel => exact ⟨j + 1, hlt, by go_num, hR5, hBw4⟩
      case measure => simp [intOf]; omega
    · have hjl : j = l.length := by omega
      subst hjl
      rw [List.take_length] at hRj
      obtain ⟨A9, c9, rfl⟩ := hRj.slice
      go_wp2
      go_ret
      exact ⟨_, rfl, hRj, hBr⟩
theorem copied_walk (w : World) (Z : Nat → Prop) (v : Value) (l : List (Int × List UInt8)) (h : RecsAt 50 w Z v l) (hl : l.length ≤ 1000000000) (hb : ∀ r ∈ l, r.2.length ≤ 100000000000000) :
    Calls Tryd.prog 62 #[v] w (fun e w' => ∃ v', e = .returned v' ∧ RecsAt 50 w' (fun k => w.heap.size ≤ k) v' l ∧ Below w.heap.size w w') := by
  obtain ⟨A0, c0, rfl, hc0, hc1⟩ := h.cap
  exact copied_rd w A0 c0 l h.r hl hb
theorem records_walk (w : World) (Z : Nat → Prop) (gl g : Nat) (v : Value) (s : LS) (h : PLog w Z gl g v s) (hl : s.recs.length ≤ 1000000000) (hb : ∀ r ∈ s.recs, r.2.length ≤ 100000000000000) :
    Calls Tryd.prog 22 #[.pointer (some ⟨gl, 0, none⟩)] w (fun e w' => ∃ v', e = .returned v' ∧ RecsAt 50 w' (fun k => w.heap.size ≤ k) v' s.recs ∧ Below w.heap.size w w') := by
  obtain ⟨-, -, -, c3, -⟩ := h.cell
  have HC := copied_walk w Z v s.recs h.recs hl hb
  obtain ⟨A, c, rfl⟩ := h.recs.slice
  clear h
  go_enter Tryd.func22, Tryd.ntmps22
  go_wp2_with (go_at_call 62; go_must (refine HC.mono ?_; rintro e w1 ⟨v1, rfl, hR1, hB1⟩; obtain ⟨A1, c1, hv1⟩ := hR1.slice; subst hv1))
  go_ret
  exact ⟨_, rfl, hR1, hB1⟩
/-- the law's comparison of records that are the same -/
theorem same_recs (w : World) (Z Z' : Nat → Prop) (v v' : Value) (l : List (Int × List UInt8)) (h : RecsAt 50 w Z v l) (h' : RecsAt 102 w Z' v' l) :
    Calls Tryd.prog 52 #[v, v'] w (fun e w' => e = .returned (.bool true) ∧ Below w.heap.size w w') := by
  obtain ⟨A0, c0, rfl, hc0, hc1⟩ := h.cap
  obtain ⟨B0, d0, rfl, hd0, hd1⟩ := h'.cap
  have hq : ((l.length : Int) != (l.length : Int)) = false := by simp
  go_enter Tryd.func52, Tryd.ntmps52
  go_wp2
  go_loopw [5] (fun i wr => ∃ j : Nat, j ≤ l.length ∧ i = .int .i64 j ∧ Below w.heap.size w wr) (fun i _ => l.length - (intOf i).toNat)
  case atStart => exact ⟨0, by omega, rfl, Below.refl _ _⟩
  case round =>
    obtain ⟨j, hj, rfl, hBr⟩ := hrel
    by_cases hlt : j < l.length
    · have hltz : (j : Int) < (l.length : Int) := by omega
      obtain ⟨g, cap, A, c, hv, k0, k1, hO, _, _⟩ := (h.below hBr).loads hlt
      cases hv
      obtain ⟨g', cap', B, d, hv', k0', k1', hO', _, _⟩ := (h'.below hBr).loads hlt
      cases hv'
      generalize l[j] = r at *
      have st1 := (hO.bys.drew).string (P := Tryd.prog) Tryd.underlying22 Tryd.underlying5 Tryd.underlying9 c
      have st2 := (hO'.bys.drew).string (P := Tryd.prog) Tryd.underlying22 Tryd.underlying5 Tryd.underlying9 d
      have hne : (r.1 != r.1) = false := by simp
      go_upto_region 6 with fail
      go_region_held_law (fun w' => w'.cell? ⟨g, j * 2, none⟩ = some (.int .i64 r.1) ∧ w'.cell? ⟨g, j * 2 + 1, none⟩ = some (.slice A r.2.length c) ∧ w'.cell? ⟨g', j * 2, none⟩ = some (.int .i64 r.1) ∧ w'.cell? ⟨g', j * 2 + 1, none⟩ = some (.slice B r.2.length d)) (go_keep) (fail)
      all_goals
        go_wp2_with fail
        go_roundw
        case rel => exact ⟨j + 1, hlt, by go_num, below_drew hBr⟩
        case measure => simp [intOf]; omega
    · go_wp2
      go_ret
      exact ⟨rfl, hBr⟩
end Go.Proofs.YtggogenhakdhiaaDoor
end
section
set_option linter.unusedVariables false
set_option linter.unusedSimpArgs false
namespace Go.Proofs.YtggogenhakdhiaaDoor
open Go.RowKit

theorem step_call {P : Program} {ops : Array Oper} {o : Oper} {a : Act} {w : World} {K : Act → World → Prop} {Q : Exit → Act → World → Prop} {E : Prop} (hg : o.guard = none) {f : FuncId} {fn : Func} (hf : P.funcs[f]? = some fn) (hname : (fn.name == "runtime.NumGoroutine") = false) (hb : fn.body.isNone = false) (xs : List Operand) (ts : Array TypeId)
    (ho : o.op = .call { callee := .value (.func f), args := xs.toArray, argTypes := ts }) (args : List Value) (hargs : xs.map a.eval = args) {R : Ending → World → Prop} (hc : Calls P f args.toArray w R)
    (hK : ∀ e w', R e w' → ∃ v, e = .returned v ∧ K (a.put o.dst v) w') :
    if Region.wanted o (yielded ops a.tmps) = true then Oper.wp P o a w K Q else E := by
  have hw : Region.wanted o (yielded ops a.tmps) = true := by simp [Region.wanted, hg]
  rw [if_pos hw]
  unfold Oper.wp execOp
  simp only [ho, resolve, invoke, Sem.run_bind, Sem.run_pure, Result.andThen_ok, List.map_toArray, hargs]
  have h1 : (Deferred.ofValue (a.eval (Operand.func f)) args.toArray).run P w = .ok { target := .fn (.func f) #[], args := args.toArray } w := by simp [Deferred.ofValue, Act.eval]
  have h2 : (callFunc f args.toArray).run P w = .ok (.enter f args.toArray) w := by
    have n1 : ¬ fn.name = "runtime.NumGoroutine" := by intro e; rw [e] at hname; simp at hname
    have n2 : ¬ fn.body = none := by intro e; rw [e] at hb; simp at hb
    simp [callFunc, hf, n1, n2]
  rw [h1]
  simp only [Result.andThen_ok, Array.append_empty, h2, Oper.upon_enter]
  refine hc.mono fun e w' hR => ?_
  obtain ⟨v, rfl, hk⟩ := hK e w' hR
  exact hk
end Go.Proofs.YtggogenhakdhiaaDoor
end
section
set_option linter.unusedVariables false
set_option linter.unusedSimpArgs false
attribute [local go_sem ↓] Go.wp_at_zero Go.wp_at_succ
namespace Go.Proofs.YtggogenhakdhiaaDoor
open Go.RowKit

/-- what Append does, and answers -/
def appendOf (n : Nat) (d : DS) (s : LS) (r : Int × List UInt8) : DS × LS × Int :=
  if (s.down || d.down) = true then (d, { s with down := true }, 50)
  else if wrongOf r.1 r.2.length ≠ 0 then (d, s, wrongOf r.1 r.2.length)
  else if halfOf n - usedOf s.recs < secs r.2.length then (d, s, 4)
  else if (layOf n (firstOf n s.gen + usedOf s.recs) (packB r.1.toNat r.2) (secs r.2.length) (halfOf n - usedOf s.recs) d).2 ≠ 0 then
    ((layOf n (firstOf n s.gen + usedOf s.recs) (packB r.1.toNat r.2) (secs r.2.length) (halfOf n - usedOf s.recs) d).1, { s with down := true }, (layOf n (firstOf n s.gen + usedOf s.recs) (packB r.1.toNat r.2) (secs r.2.length) (halfOf n - usedOf s.recs) d).2)
  else ((layOf n (firstOf n s.gen + usedOf s.recs) (packB r.1.toNat r.2) (secs r.2.length) (halfOf n - usedOf s.recs) d).1, { s with recs := s.recs ++ [r] }, 0)
theorem PM.dyed {w : World} {col : Nat → Nat} {gl ga n : Nat} {v : Value} {d : DS} {s : LS} (h : PM w col gl ga n v d s) (i : Nat) : PM w (dye w col i) gl ga n v d s := h.below (Below.refl _ _) (fun k hk => dye_old hk)
theorem PActs.of {r : Value} {col col' : Nat → Nat} {gl ga n : Nat} {d : DS} {s : LS} {w : World} {e : Ending} {w' : World} (h : PActs r col' gl ga n d s w e w') (hc : ∀ k, k < w.heap.size → col' k = col k) : PActs r col gl ga n d s w e w' := by
  obtain ⟨he, c2, v, hp, hs⟩ := h
  exact ⟨he, c2, v, hp, (Step.of_below (Below.refl _ _) hc).trans hs⟩
section
variable (w : World) (col : Nat → Nat) (gl ga n : Nat) (v : Value) (d : DS) (s : LS) (k : Int) (A : Option Addr) (c : Nat) (l : List UInt8)
set_option maxRecDepth 20000 in
theorem append_stuck (h : PM w col gl ga n v d s) (hd : (s.down || d.down) = true) :
    Calls Tryd.prog 21 #[.pointer (some ⟨gl, 0, none⟩), .agg #[.int .i64 k, .slice A l.length c]] w (PActs (.int .i64 50) col gl ga n d { s with down := true } w) := by
  have hB : Below w.heap.size w (w.alloc (.cells #[.int .i64 k, .slice A l.length c] 50)) := (Below.refl _ _).alloc (Nat.le_refl _) _
  have HS := stuck_walk _ col gl ga n v d s (h.below hB)
  rw [hd] at HS
  replace hd := Go.Lib.hid hd
  go_enter Tryd.func21, Tryd.ntmps21
  go_wp2_with (go_at_call 57; go_must (refine HS.mono ?_; rintro e w1 ⟨rfl, hP1, hS1⟩))
  go_ret
  exact ⟨rfl, col, v, hP1, (Step.of_below hB (fun _ _ => rfl)).trans hS1⟩
set_option maxRecDepth 20000 in
theorem append_wrong (h : PM w col gl ga n v d s) (hd : (s.down || d.down) = false) (hl : l.length ≤ 9223372036854775807) (hw : wrongOf k l.length ≠ 0) :
    Calls Tryd.prog 21 #[.pointer (some ⟨gl, 0, none⟩), .agg #[.int .i64 k, .slice A l.length c]] w (PActs (.int .i64 (wrongOf k l.length)) col gl ga n d s w) := by
  refine Calls.mono (R := PActs (.int .i64 (wrongOf k l.length)) (dye w col 7) gl ga n d s w) ?_ (fun e w' hR => hR.of (fun k hk => dye_old hk))
  have h := h.dyed 7
  have h7 : dye w col 7 w.heap.size = 7 := dye_new (Nat.le_refl _)
  generalize dye w col 7 = col at *
  have hB : Below w.heap.size w (w.alloc (.cells #[.int .i64 k, .slice A l.length c] 50)) := (Below.refl _ _).alloc (Nat.le_refl _) _
  have hX := heap_alloc_new w (.cells #[.int .i64 k, .slice A l.length c] 50)
  have HS := stuck_walk _ col gl ga n v d s (h.below hB)
  rw [hd] at HS
  have hsd : ({ s with down := false } : LS) = s := by cases s; simp at hd; simp [hd.1]
  rw [hsd] at HS
  replace hsd := Go.Lib.hid hsd
  replace hd := Go.Lib.hid hd
  have HW : ∀ x, Calls Tryd.prog 58 #[.agg #[.int .i64 k, .slice A l.length c]] x (fun e w' => e = .returned (.int .i64 (wrongOf k l.length)) ∧ Below x.heap.size x w') := fun x => wrong_walk x k A l.length c hl
  generalize wrongOf k l.length = r at *
  have hr1 : (r != 0) = true := by rw [bne_iff_ne]; exact hw
  have hr2 : (r == 0) = false := by rw [beq_eq_false_iff_ne]; exact hw
  go_enter Tryd.func21, Tryd.ntmps21
  go_wp2_with (first
    | (go_at_call 58; go_must (refine (HW _).mono ?_; rintro e w2 ⟨rfl, hB2⟩))
    | (go_at_call 57; go_must (refine HS.mono ?_; rintro e w1 ⟨rfl, hP1, hS1⟩; have hX1 := (hS1.chg.block w.heap.size (by simp) (by rw [h7]; omega)).trans hX; have x0 := cell_of_row w1 w.heap.size 0 _ _ _ hX1; have x1 := cell_of_row w1 w.heap.size 1 _ _ _ hX1)))
  go_ret
  exact ⟨rfl, col, v, hP1.below hB2, ((Step.of_below hB (fun _ _ => rfl)).trans hS1).trans (Step.of_below hB2 (fun _ _ => rfl))⟩
end
end Go.Proofs.YtggogenhakdhiaaDoor
end
section
set_option linter.unusedVariables false
set_option linter.unusedSimpArgs false
attribute [local go_sem ↓] Go.wp_at_zero Go.wp_at_succ
namespace Go.Proofs.YtggogenhakdhiaaDoor
open Go.RowKit

theorem own_ad {w : World} {base n c : Nat} {e : TypeId} {size : Nat} {A : Option Addr} {xs : List Value} (h : w.ownsRow base e size (.slice A n c) n xs) {ad : Addr} (he : A = some ad) : base ≤ ad.block := by
  subst he
  rcases h.2 with ⟨e', _⟩ | ⟨g, cap, cur, e', hb, _⟩
  · cases e'
  · cases e'; exact hb
theorem Bys.chg' {w w' : World} {A : Option Addr} {n : Nat} {l : List UInt8} {S : Nat → Prop} (h : Bys w A n l) (hc : Chg S w w') (hS : ∀ ad, A = some ad → n = 0 ∨ ¬ S ad.block) : Bys w' A n l :=
  ⟨h.len, h.max, fun i hi => by
    obtain ⟨ad, e, hv⟩ := h.cell i hi
    have hb := World.block_lt_of_cell? w _ hv
    rw [add_block] at hb
    exact ⟨ad, e, (World.cell?_of_block (by rw [add_block]; exact hc.block ad.block hb (by rcases hS ad e with h0 | h0; omega; exact h0))).trans hv⟩⟩
section
variable (w : World) (col : Nat → Nat) (gl ga n : Nat) (v : Value) (d : DS) (s : LS) (k : Int) (A : Option Addr) (c : Nat) (l : List UInt8)
set_option maxHeartbeats 1000000 in
set_option maxRecDepth 20000 in
theorem append_full (h : PM w col gl ga n v d s) (hd : (s.down || d.down) = false) (hw : wrongOf k l.length = 0) (hu : usedOf s.recs ≤ halfOf n) (hl : l.length ≤ 262144) (hf : halfOf n - usedOf s.recs < secs l.length) :
    Calls Tryd.prog 21 #[.pointer (some ⟨gl, 0, none⟩), .agg #[.int .i64 k, .slice A l.length c]] w (PActs (.int .i64 4) col gl ga n d s w) := by
  refine Calls.mono (R := PActs (.int .i64 4) (dye w col 7) gl ga n d s w) ?_ (fun e w' hR => hR.of (fun k hk => dye_old hk))
  have h := h.dyed 7
  have h7 : dye w col 7 w.heap.size = 7 := dye_new (Nat.le_refl _)
  generalize dye w col 7 = col at *
  have hB : Below w.heap.size w (w.alloc (.cells #[.int .i64 k, .slice A l.length c] 50)) := (Below.refl _ _).alloc (Nat.le_refl _) _
  have hX := heap_alloc_new w (.cells #[.int .i64 k, .slice A l.length c] 50)
  have HS := stuck_walk _ col gl ga n v d s (h.below hB)
  rw [hd] at HS
  have hsd : ({ s with down := false } : LS) = s := by cases s; simp at hd; simp [hd.1]
  rw [hsd] at HS
  replace hsd := Go.Lib.hid hsd
  replace hd := Go.Lib.hid hd
  have HW : ∀ x, Calls Tryd.prog 58 #[.agg #[.int .i64 k, .slice A l.length c]] x (fun e w' => e = .returned (.int .i64 0) ∧ Below x.heap.size x w') := fun x => by
    have := wrong_walk x k A l.length c (by omega)
    rw [hw] at this
    exact this
  have HN : ∀ x, Calls Tryd.prog 59 #[.int .i64 (l.length : Nat)] x (fun e w' => e = .returned (.int .i64 (secs l.length : Nat)) ∧ x = w') := fun x => sectors_walk' x l.length (by omega)
  have HR : ∀ x, PM x col gl ga n v d s → Calls Tryd.prog 53 #[.pointer (some ⟨gl, 0, none⟩)] x (fun e w' => e = .returned (.int .i64 ((halfOf n - usedOf s.recs : Nat) : Int)) ∧ w' = x.drew) := fun x hx => by
    obtain ⟨sv, tv, hD, -⟩ := hx.D
    exact room_walk x _ gl ga v s hx.L n sv tv d hD hu
  generalize halfOf n - usedOf s.recs = room at *
  generalize secs l.length = ks at *
  have hfz : (room : Int) < (ks : Int) := by omega
  replace hw := Go.Lib.hid hw
  go_enter Tryd.func21, Tryd.ntmps21
  go_wp2_with (first
    | (go_at_call 53; go_must (refine (HR w2 (hP1.below hB2)).mono ?_; rintro e w3 ⟨rfl, rfl⟩))
    | (go_at_call 59; go_must (refine (HN _).mono ?_; rintro e w3 ⟨rfl, rfl⟩))
    | (go_at_call 58; go_must (refine (HW _).mono ?_; rintro e w2 ⟨rfl, hB2⟩; have x2 := cell_below hB2 x1))
    | (go_at_call 57; go_must (refine HS.mono ?_; rintro e w1 ⟨rfl, hP1, hS1⟩; have hX1 := (hS1.chg.block w.heap.size (by simp) (by rw [h7]; omega)).trans hX; have x0 := cell_of_row w1 w.heap.size 0 _ _ _ hX1; have x1 := cell_of_row w1 w.heap.size 1 _ _ _ hX1)))
  go_ret
  have hB2d := below_drew hB2
  exact ⟨rfl, col, v, hP1.below hB2d, ((Step.of_below hB (fun _ _ => rfl)).trans hS1).trans (Step.of_below hB2d (fun _ _ => rfl))⟩
set_option maxHeartbeats 4000000 in
set_option maxRecDepth 20000 in
theorem append_lay (h : PM w col gl ga n v d s) (hd : (s.down || d.down) = false) (hw : wrongOf k l.length = 0) (hu : usedOf s.recs ≤ halfOf n) (hl : l.length ≤ 262144) (hf : ¬ halfOf n - usedOf s.recs < secs l.length)
    (hb : Bys w A l.length l) (hA : ∀ ad, A = some ad → col ad.block ≠ 1 ∧ col ad.block ≠ 3) (hg : s.gen < 9223372036854775807) (hrl : s.recs.length ≤ 1000000) (ht : TabAt w) (htc : col 0 = 0) (htr : d.trail.length + secs l.length + 1 ≤ 1000000) :
    Calls Tryd.prog 21 #[.pointer (some ⟨gl, 0, none⟩), .agg #[.int .i64 k, .slice A l.length c]] w (PActs (.int .i64 (appendOf n d s (k, l)).2.2) col gl ga n (appendOf n d s (k, l)).1 (appendOf n d s (k, l)).2.1 w) := by
  have hk0 : 1 ≤ k ∧ k ≤ 255 := by unfold wrongOf at hw; split at hw <;> omega
  have hap : appendOf n d s (k, l) = if (layOf n (firstOf n s.gen + usedOf s.recs) (packB k.toNat l) (secs l.length) (halfOf n - usedOf s.recs) d).2 ≠ 0 then
    ((layOf n (firstOf n s.gen + usedOf s.recs) (packB k.toNat l) (secs l.length) (halfOf n - usedOf s.recs) d).1, { s with down := true }, (layOf n (firstOf n s.gen + usedOf s.recs) (packB k.toNat l) (secs l.length) (halfOf n - usedOf s.recs) d).2)
    else ((layOf n (firstOf n s.gen + usedOf s.recs) (packB k.toNat l) (secs l.length) (halfOf n - usedOf s.recs) d).1, { s with recs := s.recs ++ [(k, l)] }, 0) := by
    unfold appendOf
    rw [if_neg (by rw [hd]; simp), if_neg (by simpa using hw), if_neg hf]
  obtain ⟨ap, hap1⟩ : ∃ x, x = appendOf n d s (k, l) := ⟨_, rfl⟩
  rw [← hap1] at hap ⊢
  clear hap1
  have htlt : 0 < w.heap.size := World.block_lt_of_cell? w _ (ht 0 (by omega))
  refine Calls.mono (R := PActs (.int .i64 ap.2.2) (dye w col 7) gl ga n ap.1 ap.2.1 w) ?_ (fun e w' hR => hR.of (fun k hk => dye_old hk))
  have h := h.dyed 7
  have h7 : ∀ j, w.heap.size ≤ j → dye w col 7 j = 7 := fun j hj => dye_new hj
  have htc7 : dye w col 7 0 = 0 := (dye_old htlt).trans htc
  have hA7 : ∀ ad, A = some ad → (l.length = 0 ∨ (dye w col 7 ad.block ≠ 1 ∧ dye w col 7 ad.block ≠ 3)) := by
    intro ad e
    rcases Nat.eq_zero_or_pos l.length with h0 | h0
    · exact .inl h0
    · obtain ⟨ad', e', hc⟩ := hb.cell 0 h0
      rw [e] at e'
      cases e'
      have hlt := World.block_lt_of_cell? w _ hc
      rw [add_block] at hlt
      rw [dye_old hlt]
      exact .inr (hA ad e)
  clear hA htc
  generalize dye w col 7 = col at *
  have hB : Below w.heap.size w (w.alloc (.cells #[.int .i64 k, .slice A l.length c] 50)) := (Below.refl _ _).alloc (Nat.le_refl _) _
  have hX := heap_alloc_new w (.cells #[.int .i64 k, .slice A l.length c] 50)
  have HS := stuck_walk _ col gl ga n v d s (h.below hB)
  rw [hd] at HS
  have hsd : ({ s with down := false } : LS) = s := by cases s; simp at hd; simp [hd.1]
  have hsdn : s.down = false := by cases s; simp at hd; simp [hd.1]
  rw [hsd] at HS
  replace hsd := Go.Lib.hid hsd
  replace hsdn := Go.Lib.hid hsdn
  replace hd := Go.Lib.hid hd
  have HW : ∀ x, Calls Tryd.prog 58 #[.agg #[.int .i64 k, .slice A l.length c]] x (fun e w' => e = .returned (.int .i64 0) ∧ Below x.heap.size x w') := fun x => by
    have := wrong_walk x k A l.length c (by omega)
    rw [hw] at this
    exact this
  have HN : ∀ x, Calls Tryd.prog 59 #[.int .i64 (l.length : Nat)] x (fun e w' => e = .returned (.int .i64 (secs l.length : Nat)) ∧ x = w') := fun x => sectors_walk' x l.length (by omega)
  have HR : ∀ x, PM x col gl ga n v d s → Calls Tryd.prog 53 #[.pointer (some ⟨gl, 0, none⟩)] x (fun e w' => e = .returned (.int .i64 ((halfOf n - usedOf s.recs : Nat) : Int)) ∧ w' = x.drew) := fun x hx => by
    obtain ⟨sv, tv, hD, -⟩ := hx.D
    exact room_walk x _ gl ga v s hx.L n sv tv d hD hu
  have HF : ∀ x, PM x col gl ga n v d s → Calls Tryd.prog 40 #[.pointer (some ⟨ga, 0, none⟩), .int .i64 (s.gen : Nat)] x (Says (.int .i64 (firstOf n s.gen : Nat)) x) := fun x hx => by
    obtain ⟨sv, tv, hD, -⟩ := hx.D
    exact first_walk x ga n sv tv d hD s.gen (by omega)
  have hkn : ((k.toNat : Nat) : Int) = k := by omega
  have HP : ∀ x, Below w.heap.size w x ∨ True → Bys x A l.length l → TabAt x → Calls Tryd.prog 61 #[.agg #[.int .i64 k, .slice A l.length c]] x (RetBys x.heap.size 5 (packB k.toNat l) x) := fun x _ hx hy => by
    have := pack_walk x k.toNat A c l hx (by omega) (by omega) hy
    rw [hkn] at this
    exact this
  have hpl := packB_length k.toNat l
  have hhn : halfOf n ≤ 16384 ∧ firstOf n s.gen + halfOf n ≤ n ∧ n ≤ 16384 := by
    obtain ⟨sv, tv, hD, -⟩ := h.D
    have := hD.le
    have := hD.pos
    unfold firstOf halfOf
    split <;> omega
  have hrecs : ({ s with recs := s.recs } : LS) = s := by cases s; rfl
  have HL : ∀ x A' c', PM x col gl ga n v d s → Bys x A' (64 * secs l.length) (packB k.toNat l) → (∀ ad, A' = some ad → col ad.block ≠ 1 ∧ col ad.block ≠ 3) → 64 * secs l.length ≤ c' →
      Calls Tryd.prog 60 #[.pointer (some ⟨gl, 0, none⟩), .int .i64 ((firstOf n s.gen : Int) + (usedOf s.recs : Int)), .slice A' (64 * secs l.length) c', .int .i64 ((halfOf n - usedOf s.recs : Nat) : Int)] x
        (fun e w' => e = .returned (.int .i64 (layOf n (firstOf n s.gen + usedOf s.recs) (packB k.toNat l) (secs l.length) (halfOf n - usedOf s.recs) d).2) ∧ ∃ col', PM w' col' gl ga n v (layOf n (firstOf n s.gen + usedOf s.recs) (packB k.toNat l) (secs l.length) (halfOf n - usedOf s.recs) d).1 { s with down := s.down || decide ((layOf n (firstOf n s.gen + usedOf s.recs) (packB k.toNat l) (secs l.length) (halfOf n - usedOf s.recs) d).2 ≠ 0) } ∧ Step 1 3 col x w' col') := by
    intro x A' c' hx hy hz hc
    have := lay_walk x col gl ga n v d s hx (firstOf n s.gen + usedOf s.recs) (secs l.length) (halfOf n - usedOf s.recs) _ c' A' _ hy hz rfl hc (by omega) (by omega) (by omega)
    rw [Int.natCast_add] at this
    exact this
  have hadd : IntKind.i64.wrap ((firstOf n s.gen : Int) + (usedOf s.recs : Int)) = ((firstOf n s.gen + usedOf s.recs : Nat) : Int) := by rw [IntKind.wrap_i64]; omega
  have hadd2 : IntKind.i64.wrap ((usedOf s.recs : Int) + (secs l.length : Int)) = ((usedOf s.recs + secs l.length : Nat) : Int) := by rw [IntKind.wrap_i64]; omega
  have hus : usedOf (s.recs ++ [(k, l)]) = usedOf s.recs + secs l.length := usedOf_snoc _ _
  generalize layOf n (firstOf n s.gen + usedOf s.recs) (packB k.toNat l) (secs l.length) (halfOf n - usedOf s.recs) d = lay at *
  obtain ⟨d2, e2⟩ := lay
  simp only at hap HL
  generalize hroom : halfOf n - usedOf s.recs = room at *
  generalize hks : secs l.length = ks at *
  generalize packB k.toNat l = pk at *
  have hfz : ¬ (room : Int) < (ks : Int) := by omega
  have hft : ¬ room < ks := hf
  have hsg : s.gen < 9223372036854775808 := by omega
  replace hw := Go.Lib.hid hw
  replace hroom := Go.Lib.hid hroom
  replace hks := Go.Lib.hid hks
  replace hpl := Go.Lib.hid hpl
  replace hus := Go.Lib.hid hus
  replace hkn := Go.Lib.hid hkn
  replace hap := Go.Lib.hid hap
  have hlp := Go.Lib.hid hl
  go_enter Tryd.func21, Tryd.ntmps21
  go_upto_region 9 with (first
    | (go_at_call 53; go_must (refine (HR w2 (hP1.below hB2)).mono ?_; rintro e w3 ⟨rfl, rfl⟩))
    | (go_at_call 59; go_must (refine (HN _).mono ?_; rintro e w3 ⟨rfl, rfl⟩))
    | (go_at_call 58; go_must (refine (HW _).mono ?_; rintro e w2 ⟨rfl, hB2⟩; have x2 := cell_below hB2 x1))
    | (go_at_call 57; go_must (refine HS.mono ?_; rintro e w1 ⟨rfl, hP1, hS1⟩; have hX1 := (hS1.chg.block w.heap.size (by simp) (by rw [h7 _ (Nat.le_refl _)]; omega)).trans hX; have x0 := cell_of_row w1 w.heap.size 0 _ _ _ hX1; have x1 := cell_of_row w1 w.heap.size 1 _ _ _ hX1)))
  have hB2d : Below w1.heap.size w1 w2.drew := below_drew hB2
  have hB2e : Below w1.heap.size w1 w2.drew.drew := below_drew hB2d
  have hS0 := (Step.of_below (i := 1) (j := 3) hB (fun _ _ => rfl)).trans hS1
  have hPe : PM w2.drew.drew col gl ga n v d s := hP1.below hB2e
  have hSe := hS0.trans (Step.of_below hB2e (fun _ _ => rfl))
  have hXe := (hB2e.block w.heap.size (Array.getElem?_eq_some_iff.1 hX1).1).trans hX1
  have hbe : Bys w2.drew.drew A l.length l := by
    refine hb.chg' hSe.chg (fun ad e => ?_)
    rcases hA7 ad e with h0 | h0
    · exact .inl h0
    · exact .inr (by omega)
  have hte : TabAt w2.drew.drew := ht.chg hSe.chg (by show ¬ (col _ = 1 ∨ col _ = 3); rw [htc7]; omega)
  obtain ⟨c0, c1, c2, c3, c4⟩ := hPe.L.cell
  have b0 := cell_of_row w2.drew.drew w.heap.size 0 _ _ _ hXe
  have b1 := cell_of_row w2.drew.drew w.heap.size 1 _ _ _ hXe
  have HF9 := HF w2.drew.drew hPe
  have HP9 := HP w2.drew.drew (.inr trivial) hbe hte
  have hwsz : w.heap.size < w2.drew.drew.heap.size := (Array.getElem?_eq_some_iff.1 hXe).1
  have hgl : gl < w2.drew.drew.heap.size := (Array.getElem?_eq_some_iff.1 hPe.L.blk).1
  clear HF HP HW HS HN hP1 hB2 hB2d hS1 hS0 hX1 hte x0 x1 x2 hB hX
  generalize firstOf n s.gen = fi at *
  go_region_held_law (fun w' => w'.cell? ⟨gl, 0, none⟩ = some (.pointer (some ⟨ga, 0, none⟩)) ∧ w'.cell? ⟨gl, 1, none⟩ = some (.int .i64 (s.gen : Nat)) ∧ w'.cell? ⟨gl, 2, none⟩ = some (.int .i64 (usedOf s.recs : Nat)) ∧ w'.cell? ⟨w.heap.size, 0, none⟩ = some (.int .i64 k) ∧ w'.cell? ⟨w.heap.size, 1, none⟩ = some (.slice A l.length c)) (first | exact ⟨p0, p1, p2, p3, p4⟩ | exact ⟨q0, q1, q2, q3, q4⟩ | go_keep) ((first
    | (go_at_call 60; (with_reducible refine HL5.mono ?_); rintro e w6 ⟨rfl, col6, hP6, hS6⟩; obtain ⟨p0, p1, p2, -, -⟩ := hP6.L.cell; have hX6 := (hS6.chg.block w.heap.size (by have := hB4.size; show w.heap.size < w4.heap.size; omega) (by rw [h7 _ (Nat.le_refl _)]; omega)).trans hX4; have p3 := cell_of_row w6 w.heap.size 0 _ _ _ hX6; have p4 := cell_of_row w6 w.heap.size 1 _ _ _ hX6)
    | (go_at_call 53; (with_reducible refine HR4.mono ?_); rintro e w5 ⟨rfl, rfl⟩)
    | (go_at_call 61; (with_reducible refine HP9.mono ?_); intro e w4 hR; obtain ⟨A4, k4, rfl, hown4, hB4⟩ := hR.len (show pk.length = 64 * ks from hpl.out); have hP4 := hPe.below hB4; have HR4 := HR w4 hP4; have HL5 := HL w4.drew A4 k4 (hP4.below (below_drew (Below.refl _ _))) (Bys.own hown4).drew (fun ad e => by have h1 := own_ad hown4 e; have h2 := hSe.chg.size; rw [h7 ad.block (by omega)]; omega) (Go.Proofs.YtggogenhakdhiaaDoorW.PrintWords.own_le hown4); obtain ⟨q0, q1, q2, -, -⟩ := hP4.L.cell; have hX4 := (hB4.block w.heap.size hwsz).trans hXe; have q3 := cell_of_row w4 w.heap.size 0 _ _ _ hX4; have q4 := cell_of_row w4 w.heap.size 1 _ _ _ hX4)
    | (go_at_call 40; (with_reducible refine HF9.mono ?_); rintro e w' ⟨rfl, rfl⟩)))
  have hS16 : Step 1 3 col w w6 col6 := hSe.trans (((Step.of_below hB4 (fun _ _ => rfl)).trans (Step.of_below (below_drew (Below.refl _ _)) (fun _ _ => rfl))).trans hS6)
  by_cases he : e2 = 0
  · subst he
    have hsd6 : ({ s with down := s.down || decide ((0 : Int) ≠ 0) } : LS) = s := by cases s; simp
    have hP7 : PM w6 col6 gl ga n v d2 s := by rw [hsd6] at hP6; exact hP6
    have hapr : ap = (d2, { s with recs := s.recs ++ [(k, l)] }, 0) := by rw [hap.out, if_neg (by simp)]
    subst hapr
    have f2 := frozen_of_row w6 gl 2 _ _ hP7.L.blk
    replace hsd6 := Go.Lib.hid hsd6
    clear hP6 hap HR HL HP9 HF9 HR4 HL5 hP4 hPe hXe hbe b0 b1 c0 c1 c2 c3 c4 q0 q1 q2 q3 q4 hX4 hown4
    go_upto_region 13 with fail
    have hb7 := Go.Proofs.YtggogenhakdhiaaDoorW.PrintWords.blk_set hP7.L.blk 2 (.int .i64 ((usedOf s.recs : Int) + (ks : Int)))
    have hR7 := hP7.L.recs.set hP7.L.blk (by decide) (by decide) 2 (.int .i64 ((usedOf s.recs : Int) + (ks : Int)))
    have hC67 : Chg (fun j => j = gl) w6 (w6.setCell ⟨gl, 2, none⟩ (.int .i64 ((usedOf s.recs : Int) + (ks : Int)))) := (Chg.refl (fun j => j = gl) w6).setCell (p := ⟨gl, 2, none⟩) rfl _
    have hw6 : w.heap.size < w6.heap.size := (Array.getElem?_eq_some_iff.1 hX6).1
    have hgx : gl ≠ w.heap.size := fun e => by have h1 := h.cg; have h2 := h7 _ (Nat.le_refl w.heap.size); rw [e] at h1; omega
    have hX7 := (hC67.block w.heap.size hw6 (Ne.symm hgx)).trans hX6
    have hD7 := hP7.D.chg hC67 (fun j hj => by rw [hj, hP7.cg]; omega)
    have hCt : Chg (fun j => col j = 1 ∨ col j = 3) w (w6.setCell ⟨gl, 2, none⟩ (.int .i64 ((usedOf s.recs : Int) + (ks : Int)))) := hS16.chg.setCell (p := ⟨gl, 2, none⟩) (.inr h.cg) _
    have hS7 : Step 1 3 col w (w6.setCell ⟨gl, 2, none⟩ (.int .i64 ((usedOf s.recs : Int) + (ks : Int)))) col6 := ⟨hCt, hS16.old⟩
    have hbA : Bys (w6.setCell ⟨gl, 2, none⟩ (.int .i64 ((usedOf s.recs : Int) + (ks : Int)))) A l.length l := by
      refine hb.chg' hCt (fun ad e => ?_)
      rcases hA7 ad e with h0 | h0
      · exact .inl h0
      · exact .inr (by omega)
    have hcg6 := hP7.cg
    generalize w6.setCell ⟨gl, 2, none⟩ (.int .i64 ((usedOf s.recs : Int) + (ks : Int))) = w7 at *
    have z0 := cell_of_row w7 w.heap.size 0 _ _ _ hX7
    have z1 := cell_of_row w7 w.heap.size 1 _ _ _ hX7
    have z3 : w7.cell? ⟨gl, 3, none⟩ = some v := by have := cell_of_row w7 gl 3 _ _ _ hb7; exact this
    have hB8 : Below w7.heap.size w7 (w7.alloc (.cells #[.int .i64 k, .slice A l.length c] 50)).drew := below_drew ((Below.refl _ _).alloc (Nat.le_refl _) _)
    have y3 : (w7.alloc (.cells #[.int .i64 k, .slice A l.length c] 50)).cell? ⟨gl, 3, none⟩ = some v := cell_below ((Below.refl _ _).alloc (Nat.le_refl _) _) z3
    have hone : RecsR (w7.alloc (.cells #[.int .i64 k, .slice A l.length c] 50)).drew (some ⟨w7.heap.size, 0, none⟩) [(k, l)] := by
      intro i hi
      have hi0 : i = 0 := by simp at hi; omega
      subst hi0
      have hq := heap_alloc_new w7 (.cells #[.int .i64 k, .slice A l.length c] 50)
      exact ⟨w7.heap.size, 0, A, c, rfl, cell_of_row (w7.alloc (.cells #[.int .i64 k, .slice A l.length c] 50)).drew w7.heap.size 0 _ _ _ hq, cell_of_row (w7.alloc (.cells #[.int .i64 k, .slice A l.length c] 50)).drew w7.heap.size 1 _ _ _ hq, hbA.below hB8⟩
    have HC := copied_rd (w7.alloc (.cells #[.int .i64 k, .slice A l.length c] 50)).drew (some ⟨w7.heap.size, 0, none⟩) 1 [(k, l)] hone (by simp) (by intro r hr; simp at hr; subst hr; show l.length ≤ _; have := hlp.out; omega)
    have hvlt := hR7.lt
    have hvin := hR7.in_
    obtain ⟨xs7, ho7, hxs7⟩ := hR7.ex
    have hvne : v.ownBlock ≠ some gl := own_blk_ne ho7 hb7 (by decide)
    clear hxs7
    replace hlp := Go.Lib.hid hlp
    replace hX7 := Go.Lib.hid hX7
    go_region_law ((first
      | (refine step_append_recs (o := ⟨some 62, _, _, _, _, _⟩) rfl (.tmp 58) (.tmp 61) 44 50 rfl (by decide) Tryd.underlying44 info_rec rfl hR9 rfl hRv9 (by show s.recs.length + 1 ≤ _; omega) ?_; intro v1 w10 hR10 hg10; obtain ⟨A10, c10, hv10⟩ := hR10.slice; subst hv10; have hb10 := (hg10.block gl (Array.getElem?_eq_some_iff.1 hb9).1 (Ne.symm hvne)).trans hb9; have q3 := cell_of_row w10 gl 3 _ _ _ hb10; have p3 := frozen_of_row w10 gl 3 _ _ hb10)
      | (refine step_call (o := ⟨some 61, _, _, _, _, _⟩) rfl Tryd.func62 (by kernel_rfl) (by kernel_rfl) [.tmp 60] #[44] rfl [.slice (some ⟨w7.heap.size, 0, none⟩) 1 1] rfl HC ?_; rintro e w9 ⟨v9, rfl, hRv9, hB9⟩; refine ⟨v9, rfl, ?_⟩; have hB79 : Below w7.heap.size w7 w9 := hB8.trans (hB9.mono hB8.size); have hR9 := hR7.below hB79; have hb9 := (hB79.block gl (Array.getElem?_eq_some_iff.1 hb7).1).trans hb7; have u3 := cell_below hB79 z3; obtain ⟨A9, c9, hv9⟩ := hRv9.slice; subst hv9)))
    all_goals
      go_wp2_with fail
      go_ret
      have e1 : (s.recs ++ [(k, l)]).length = s.recs.length + 1 := by simp
      have hC0 : Chg (fun j => col6 j = 3) w7 w10 := (Chg.of_below hB79).trans (T := fun j => col6 j = 3) (S := fun j => col6 j = 3) ((Chg.refl (fun j => col6 j = 3) w9).grown hg10 (fun j hj hlt => hvin j hj)) (fun j hj _ => hj)
      have hC : Chg (fun j => col6 j = 3) w7 (w10.setCell ⟨gl, 3, none⟩ (.slice A10 (s.recs ++ [(k, l)]).length c10)) := hC0.setCell (p := ⟨gl, 3, none⟩) hcg6 _
      have hb11 := Go.Proofs.YtggogenhakdhiaaDoorW.PrintWords.blk_set hb10 3 (.slice A10 (s.recs ++ [(k, l)]).length c10)
      have hR11 := (hR10.mono (Z' := fun j => dye w7 col6 3 j = 3) (fun j _ hz => by
        by_cases hj : j < w7.heap.size
        · rw [dye_old hj]
          rcases hz with hz | hz | hz
          · exact hz
          · have := hB8.size; omega
          · have := hB79.size; omega
        · exact dye_new (by omega))).set hb10 (by decide) (by decide) 3 (.slice A10 (s.recs ++ [(k, l)]).length c10)
      have hgl7 := (Array.getElem?_eq_some_iff.1 hb7).1
      have hPf : PM (w10.setCell ⟨gl, 3, none⟩ (.slice A10 (s.recs ++ [(k, l)]).length c10)) (dye w7 col6 3) gl ga n (.slice A10 (s.recs ++ [(k, l)]).length c10) d2 { s with recs := s.recs ++ [(k, l)] } := by
        refine ⟨?_, ⟨?_, hR11⟩, (dye_old hgl7).trans hcg6⟩
        · obtain ⟨sv, tv, hD, hf⟩ := hD7
          exact ⟨sv, tv, hD.chg hC (fun j hj hs => by have := hf j hj; omega), fun j hj => (dye_old (hD.lt j hj)).trans (hf j hj)⟩
        · rw [hb11]
          show some (Obj.cells #[_, _, _, _, _] _ _) = _
          rw [show usedOf ({ s with recs := s.recs ++ [(k, l)] } : LS).recs = usedOf s.recs + ks from hus.out, Int.natCast_add]
      have hSf : Step 1 3 col6 w7 (w10.setCell ⟨gl, 3, none⟩ (.slice A10 (s.recs ++ [(k, l)]).length c10)) (dye w7 col6 3) := ⟨hC.mono (fun j _ hj => .inr hj), fun j hj => dye_old hj⟩
      rw [e1] at hPf hSf
      exact ⟨rfl, _, _, hPf, hS7.trans hSf⟩
  · have he1 : (e2 != 0) = true := by rw [bne_iff_ne]; exact he
    have he2 : (e2 == 0) = false := by rw [beq_eq_false_iff_ne]; exact he
    have hapr : ap = (d2, { s with down := true }, e2) := by rw [hap.out, if_pos he]
    subst hapr
    rw [decide_eq_true he, Bool.or_true] at hP6
    clear hap
    go_wp2_with fail
    go_ret
    exact ⟨rfl, col6, v, hP6, hS16⟩
end
end Go.Proofs.YtggogenhakdhiaaDoor
end
section
set_option linter.unusedVariables false
set_option linter.unusedSimpArgs false
attribute [local go_sem ↓] Go.wp_at_zero Go.wp_at_succ
namespace Go.Proofs.YtggogenhakdhiaaDoor
open Go.RowKit

/-- what Append does, the document's way: a log that is stuck stays as it is -/
def rappendOf (n : Nat) (d : DS) (s : LS) (r : Int × List UInt8) : DS × LS × Int := if (s.down || d.down) = true then (d, s, 50) else appendOf n d s r
theorem RM.dyed {w : World} {col : Nat → Nat} {gm gr n : Nat} {v : Value} {d : DS} {s : LS} (h : RM w col gm gr n v d s) (i : Nat) : RM w (dye w col i) gm gr n v d s := h.below (Below.refl _ _) (fun k hk => dye_old hk)
theorem RActs.of {r : Value} {col col' : Nat → Nat} {gm gr n : Nat} {d : DS} {s : LS} {w : World} {e : Ending} {w' : World} (h : RActs r col' gm gr n d s w e w') (hc : ∀ k, k < w.heap.size → col' k = col k) : RActs r col gm gr n d s w e w' := by
  obtain ⟨he, c2, v, hp, hs⟩ := h
  exact ⟨he, c2, v, hp, (Step.of_below (Below.refl _ _) hc).trans hs⟩
section
variable (w : World) (col : Nat → Nat) (gm gr n : Nat) (v : Value) (d : DS) (s : LS) (k : Int) (A : Option Addr) (c : Nat) (l : List UInt8)
set_option maxRecDepth 20000 in
theorem rappend_stuck (h : RM w col gm gr n v d s) (hd : (s.down || d.down) = true) :
    Calls Tryd.prog 70 #[.pointer (some ⟨gm, 0, none⟩), .agg #[.int .i64 k, .slice A l.length c]] w (RActs (.int .i64 50) col gm gr n d s w) := by
  have hB : Below w.heap.size w (w.alloc (.cells #[.int .i64 k, .slice A l.length c] 102)) := (Below.refl _ _).alloc (Nat.le_refl _) _
  have hP := h.below hB
  obtain ⟨sv, tv, hD, -⟩ := hP.D
  have e3 := hD.c3
  obtain ⟨c0, -, -, -, c4⟩ := hP.L.cell
  clear hD
  cases hdd : d.down with
  | true =>
    rw [hdd] at e3
    replace hd := Go.Lib.hid hd
    replace hdd := Go.Lib.hid hdd
    go_enter Tryd.func70, Tryd.ntmps70
    go_wp2
    go_ret
    exact ⟨rfl, col, v, hP, Step.of_below hB (fun _ _ => rfl)⟩
  | false =>
    have hs : s.down = true := by rw [hdd, Bool.or_false] at hd; exact hd
    rw [hdd] at e3
    rw [hs] at c4
    replace hd := Go.Lib.hid hd
    replace hs := Go.Lib.hid hs
    replace hdd := Go.Lib.hid hdd
    go_enter Tryd.func70, Tryd.ntmps70
    go_wp2
    go_ret
    exact ⟨rfl, col, v, hP, Step.of_below hB (fun _ _ => rfl)⟩
set_option maxRecDepth 20000 in
theorem rappend_wrong (h : RM w col gm gr n v d s) (hd : (s.down || d.down) = false) (hl : l.length ≤ 9223372036854775807) (hw : wrongOf k l.length ≠ 0) :
    Calls Tryd.prog 70 #[.pointer (some ⟨gm, 0, none⟩), .agg #[.int .i64 k, .slice A l.length c]] w (RActs (.int .i64 (wrongOf k l.length)) col gm gr n d s w) := by
  have hB : Below w.heap.size w (w.alloc (.cells #[.int .i64 k, .slice A l.length c] 102)) := (Below.refl _ _).alloc (Nat.le_refl _) _
  have hP := h.below hB
  obtain ⟨sv, tv, hD, -⟩ := hP.D
  have e3 := hD.c3
  obtain ⟨c0, -, -, -, c4⟩ := hP.L.cell
  clear hD
  have hs2 : s.down = false ∧ d.down = false := by simpa using hd
  rw [hs2.1] at c4
  rw [hs2.2] at e3
  replace hs2 := Go.Lib.hid hs2
  replace hd := Go.Lib.hid hd
  have HW : ∀ x, Calls Tryd.prog 101 #[.agg #[.int .i64 k, .slice A l.length c]] x (fun e w' => e = .returned (.int .i64 (wrongOf k l.length)) ∧ Below x.heap.size x w') := fun x => rwrong_walk x k A l.length c hl
  generalize wrongOf k l.length = r at *
  have hr1 : (r != 0) = true := by rw [bne_iff_ne]; exact hw
  have hr2 : (r == 0) = false := by rw [beq_eq_false_iff_ne]; exact hw
  have hr3 : ¬ r = 0 := hw
  go_enter Tryd.func70, Tryd.ntmps70
  go_wp2_with (go_at_call 101; go_must (refine (HW _).mono ?_; rintro e w2 ⟨rfl, hB2⟩))
  go_ret
  exact ⟨rfl, col, v, hP.below hB2, (Step.of_below hB (fun _ _ => rfl)).trans (Step.of_below hB2 (fun _ _ => rfl))⟩
set_option maxRecDepth 20000 in
theorem rappend_full (h : RM w col gm gr n v d s) (hd : (s.down || d.down) = false) (hw : wrongOf k l.length = 0) (hu : usedOf s.recs ≤ halfOf n) (hl : l.length ≤ 262144) (hf : halfOf n - usedOf s.recs < secs l.length) :
    Calls Tryd.prog 70 #[.pointer (some ⟨gm, 0, none⟩), .agg #[.int .i64 k, .slice A l.length c]] w (RActs (.int .i64 4) col gm gr n d s w) := by
  have hB : Below w.heap.size w (w.alloc (.cells #[.int .i64 k, .slice A l.length c] 102)) := (Below.refl _ _).alloc (Nat.le_refl _) _
  have hX := heap_alloc_new w (.cells #[.int .i64 k, .slice A l.length c] 102)
  have hP := h.below hB
  obtain ⟨sv, tv, hD, -⟩ := hP.D
  have e3 := hD.c3
  obtain ⟨c0, -, -, -, c4⟩ := hP.L.cell
  clear hD
  have hs2 : s.down = false ∧ d.down = false := by simpa using hd
  rw [hs2.1] at c4
  rw [hs2.2] at e3
  replace hs2 := Go.Lib.hid hs2
  replace hd := Go.Lib.hid hd
  have HW : ∀ x, Calls Tryd.prog 101 #[.agg #[.int .i64 k, .slice A l.length c]] x (fun e w' => e = .returned (.int .i64 0) ∧ Below x.heap.size x w') := fun x => by
    have := rwrong_walk x k A l.length c (by omega)
    rw [hw] at this
    exact this
  have HN : ∀ x, Calls Tryd.prog 51 #[.agg #[.int .i64 k, .slice A l.length c]] x (fun e w' => e = .returned (.int .i64 (secs l.length : Nat)) ∧ Below x.heap.size x w') := fun x => rsectors2_walk x k A l.length c (by omega)
  have HR : ∀ x, RM x col gm gr n v d s → Calls Tryd.prog 54 #[.pointer (some ⟨gm, 0, none⟩)] x (fun e w' => e = .returned (.int .i64 ((halfOf n - usedOf s.recs : Nat) : Int)) ∧ w' = x.drew) := fun x hx => by
    obtain ⟨sv, tv, hD, -⟩ := hx.D
    exact rroom_walk x _ gm gr v s hx.L n sv tv d hD hu
  generalize halfOf n - usedOf s.recs = room at *
  generalize secs l.length = ks at *
  have hfz : (room : Int) < (ks : Int) := by omega
  have x1 := cell_of_row _ w.heap.size 0 _ _ _ hX
  have x2 := cell_of_row _ w.heap.size 1 _ _ _ hX
  replace hw := Go.Lib.hid hw
  replace hX := Go.Lib.hid hX
  go_enter Tryd.func70, Tryd.ntmps70
  go_wp2_with (first
    | (go_at_call 54; go_must (refine (HR w3 (hP2.below hB3)).mono ?_; rintro e w4 ⟨rfl, rfl⟩))
    | (go_at_call 51; go_must (refine (HN w2).mono ?_; rintro e w3 ⟨rfl, hB3⟩))
    | (go_at_call 101; go_must (refine (HW _).mono ?_; rintro e w2 ⟨rfl, hB2⟩; have hP2 := hP.below hB2; have y1 := cell_below hB2 x1; have y2 := cell_below hB2 x2)))
  go_ret
  have hP3 := hP2.below (below_drew hB3)
  exact ⟨rfl, col, v, hP3, ((Step.of_below hB (fun _ _ => rfl)).trans (Step.of_below hB2 (fun _ _ => rfl))).trans (Step.of_below (below_drew hB3) (fun _ _ => rfl))⟩
end
end Go.Proofs.YtggogenhakdhiaaDoor
end
