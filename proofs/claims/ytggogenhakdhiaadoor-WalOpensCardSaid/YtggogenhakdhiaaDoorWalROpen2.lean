/- The log that lies on a disk, the document's way, walked: the way through. -/
import Derived.Test.YtggogenhakdhiaaDoorWalROpen
import Derived.Deep.RegionWith
set_option linter.unusedVariables false
set_option linter.unusedSimpArgs false
attribute [local go_sem ↓] Go.wp_at_zero Go.wp_at_succ
namespace Go.Proofs.YtggogenhakdhiaaDoor
open Go.RowKit

theorem RLog.snoc {w w1 w2 : World} {Z : Nat → Prop} {gl g : Nat} {v v1 : Value} {s : LS} {r : Int × List UInt8} (h : RLog w Z gl g v s) (hg : w.grownBy w1 v.ownBlock) (h1 : RecsAt 102 w1 Z v1 (s.recs ++ [r]))
    (hb : Below (w1.setCell ⟨gl, 1, none⟩ v1).heap.size (w1.setCell ⟨gl, 1, none⟩ v1) w2) :
    RLog (w2.setCell ⟨gl, 3, none⟩ (.int .i64 (usedOf (s.recs ++ [r]) : Nat))) Z gl g v1 { s with recs := s.recs ++ [r] } := by
  have hb0 := (h.grow hg).trans h.blk
  have hb1 := Go.Proofs.YtggogenhakdhiaaDoorW.PrintWords.blk_set hb0 1 v1
  have hb2 := (hb.block gl (Array.getElem?_eq_some_iff.1 hb1).1).trans hb1
  have r1 := (h1.set hb0 (by decide) (by decide) 1 v1).below hb
  exact ⟨Go.Proofs.YtggogenhakdhiaaDoorW.PrintWords.blk_set hb2 3 _, r1.set hb2 (by decide) (by decide) 3 _⟩
/-- sixty-four new zeros -/
theorem made_zb64 (x : World) : (Instr.makeSlice 22 (.int .i64 64) (.int .i64 64)).run Tryd.prog x = .ok (.slice (some ⟨x.heap.size, 0, none⟩) 64 64) (x.alloc (.cells (bv zb64).toArray 5)) := by
  obtain ⟨i, hi, hz, hs, hy⟩ := info_parts info_b
  have hr := run_make (P := Tryd.prog) x 22 5 i (.int .u8 0) Tryd.underlying22 hi hz .i64 .i64 64 64 (by omega) (Int.le_refl _) (by rw [hy]; omega) (by omega)
  rw [hs] at hr
  rw [← madeb64]
  exact hr
set_option maxHeartbeats 2000000 in
set_option maxRecDepth 20000 in
theorem ropen_ok (w : World) (g n : Nat) (sv tv : Value) (d : DS) (h : RDsk w g sv tv n d) (hd : d.down = false) (q0 : Nat) (hg : genOf d.img n = some q0) :
    Calls Tryd.prog 14 #[.pointer (some ⟨g, 0, none⟩)] w (RetOpened RLog w.heap.size g (match scan d.img (firstOf n q0 + halfOf n) (firstOf n q0) with | none => .err 61 | some l => .log q0 l) w) := by
  obtain ⟨op, hop⟩ : ∃ x, x = (match scan d.img (firstOf n q0 + halfOf n) (firstOf n q0) with | none => Opened.err 61 | some l => Opened.log q0 l) := ⟨_, rfl⟩
  rw [← hop]
  have hop1 := Go.Lib.hid hop
  clear hop
  have c3 := h.c3
  have c0 := h.c0
  rw [hd] at c3
  have hle := h.le
  have HS := rsectors_walk w g n sv tv d h
  have h3 : ¬ n < 3 := by
    intro h3
    unfold genOf at hg
    rw [if_pos (by unfold halfOf; omega)] at hg
    cases hg
  have h3z : ¬ (n : Int) < 3 := by omega
  have hpos := h.pos
  obtain ⟨s, c, hv, _, hs, hc1, hc2, hcells⟩ := own_some h.sec (by omega)
  subst hv
  have hby : Bys w (some ⟨s, 0, none⟩) (64 * n) d.img := Bys.own h.sec
  have hh : halfOf n ≥ 1 := by unfold halfOf; omega
  have hq8 : headNum d.img = num (((secOf d.img 0).drop 8).take 8) := rfl
  have hq8' : headNum d.img = num ((d.img.drop 8).take 8) := by
    rw [hq8]; unfold secOf; rw [Nat.mul_zero, List.drop_zero, List.drop_take, List.take_take]; congr 1
  have HN := high_walk w _ 8 (c - 8) _ (hby.cut 8 8 (by omega)) (by omega)
  rw [← hq8'] at HN
  have hq64 : headNum d.img < 18446744073709551616 := by rw [hq8']; exact num_lt64 _ (by rw [List.length_take]; omega)
  have hg2 : genOf d.img n = if headNum d.img < 1 ∨ headNum d.img > 1099511627776 then none else if secOf d.img 0 = headB (headNum d.img) then some (headNum d.img) else none := by unfold genOf; rw [if_neg (by omega)]
  rw [hg] at hg2
  have hsec0 : secOf d.img 0 = d.img.take 64 := by unfold secOf; rw [Nat.mul_zero, List.drop_zero]
  have hb64 := hby.take 64 (by omega)
  rw [← hsec0] at hb64
  have hm64 : (64 : Int) ≤ 64 * (n : Int) := by omega
  have hc8 : ¬ c = 8 := by omega
  have hc16 : (16 : Int) ≤ (c : Int) := by omega
  have hc64 : (64 : Int) ≤ (c : Int) := by omega
  have hby0 := hby
  clear hq8 hq8' hby hcells hg hsec0
  generalize headNum d.img = q at *
  generalize secOf d.img 0 = sec at *
  have h2 : ¬ (q < 1 ∨ q > 1099511627776) := by
    intro h2
    rw [if_pos h2] at hg2
    cases hg2
  rw [if_neg h2] at hg2
  have heq : sec = headB q := by
    by_cases e : sec = headB q
    · exact e
    · rw [if_neg e] at hg2; cases hg2
  rw [if_pos heq] at hg2
  cases hg2
  have d1 : decide ((q0 : Int) < 1) = false := by rw [decide_eq_false_iff_not]; omega
  have d2 : decide ((1099511627776 : Int) < (q0 : Int)) = false := by rw [decide_eq_false_iff_not]; omega
  have hqw : IntKind.i64.wrap (q0 : Int) = (q0 : Int) := by rw [IntKind.wrap_i64]; omega
  have HD : ∀ x, Calls Tryd.prog 47 #[.int .i64 q0] x (RetBys x.heap.size 5 (headB q0) x) := fun x => rhead_walk x q0 (by omega)
  have hhl := headB_length q0
  rw [heq] at hb64
  clear heq
  generalize headB q0 = hb at *
  replace hhl := Go.Lib.hid hhl
  have hq12 : q0 ≤ 1099511627776 := by omega
  clear h2
  go_enter Tryd.func14, Tryd.ntmps14
  go_upto_region 6 with (first
    | (go_at_call 38; go_must (refine HS.mono ?_); rintro e w' ⟨rfl, rfl⟩)
    | (go_at_call 46; go_must (refine HN.mono ?_); rintro e w' ⟨rfl, rfl⟩))
  have HD1 := HD w.drew
  have hdr : Below w.heap.size w w.drew := below_drew (Below.refl _ _)
  have hst1 := (hb64.below hdr).string (P := Tryd.prog) Tryd.underlying22 Tryd.underlying5 Tryd.underlying9 c
  go_cut [42] from 24 (fun v wx => v = .bool false ∧ Below w.heap.size w wx)
  case first =>
    go_region_held_law (fun w' => w'.cell? ⟨g, 0, none⟩ = some (.slice (some ⟨s, 0, none⟩) (64 * n) c)) (first | exact c02 | go_keep) (
      ((go_at_call 47; (with_reducible refine HD1.mono ?_); intro e w3 hR; obtain ⟨A3, c3, rfl, hown3, hB3⟩ := hR.len (show hb.length = 64 from hhl); have c02 := cell_below (hdr.trans hB3) c0; have hst2 := (hb64.below (hdr.trans hB3)).string (P := Tryd.prog) Tryd.underlying22 Tryd.underlying5 Tryd.underlying9 c; have hst3 := (Bys.own hown3).string (P := Tryd.prog) Tryd.underlying22 Tryd.underlying5 Tryd.underlying9 c3)))
    all_goals
      go_wp2_with fail
      go_meet
      exact ⟨by first | rfl | simp, hdr.trans hB3⟩
  case rest =>
    obtain ⟨rfl, hB1⟩ := hcut
    have hDk := h
    have hlen := h.len
    clear HD HD1 hst1 hdr hb64 d1 d2
    have h1 := h.below hB1
    go_upto_region 9 with fail
    have hfe : firstOf n q0 + halfOf n ≤ n := by unfold firstOf halfOf; split <;> omega
    have hf1 : 1 ≤ firstOf n q0 := by unfold firstOf; split <;> omega
    have hbx := heap_alloc_new wc (.cells #[.pointer (some ⟨g, 0, none⟩), .slice none 0 0, .int .i64 (q0 : Int), .int .i64 0, .bool false] 99)
    have hB2 : Below w.heap.size w (wc.alloc (.cells #[.pointer (some ⟨g, 0, none⟩), .slice none 0 0, .int .i64 (q0 : Int), .int .i64 0, .bool false] 99)) := hB1.alloc hB1.size _
    have hs1 := hB1.size
    obtain ⟨gl, hgl⟩ : ∃ x, x = wc.heap.size := ⟨_, rfl⟩
    rw [← hgl] at hbx ⊢
    have hgl1 : w.heap.size ≤ gl := by omega
    clear hgl
    generalize wc.alloc (.cells #[.pointer (some ⟨g, 0, none⟩), .slice none 0 0, .int .i64 (q0 : Int), .int .i64 0, .bool false] 99) = w2 at *
    have h2 := h.below hB2
    have c20 := h2.c0
    have y2 := cell_of_row w2 gl 2 _ _ _ hbx
    have HF := rfirst_walk w2 g n _ tv d h2 q0 (by omega)
    have hbyW := hby0.below hB2
    have HH : ∀ x, Below w2.heap.size w2 x → Calls Tryd.prog 49 #[.pointer (some ⟨g, 0, none⟩)] x (Says (.int .i64 (halfOf n : Nat)) x) := fun x hx => rhalf_walk x g n _ tv d (h2.below hx)
    have hop := hop1.out
    clear hop1
    obtain ⟨fi, hfi0⟩ : ∃ x, x = firstOf n q0 := ⟨_, rfl⟩
    obtain ⟨en, hen0⟩ : ∃ x, x = firstOf n q0 + halfOf n := ⟨_, rfl⟩
    rw [← hen0, ← hfi0] at hop
    rw [← hen0] at hfe
    rw [← hfi0] at hf1 HF hen0
    generalize hhn : halfOf n = hn at *
    replace hhn := Go.Lib.hid hhn
    have hm1 : IntKind.i64.wrap ((fi : Int) * 64) = ((64 * fi : Nat) : Int) := by rw [IntKind.wrap_i64]; omega
    have hm2 : IntKind.i64.wrap ((fi : Int) + (hn : Int)) = (en : Int) := by rw [IntKind.wrap_i64]; omega
    have hm3 : IntKind.i64.wrap ((en : Int) * 64) = ((64 * en : Nat) : Int) := by rw [IntKind.wrap_i64]; omega
    have hm4 : ¬ c = 64 * fi := by omega
    have hm5 : 64 * en ≤ c := by omega
    have hm6 : 64 * fi ≤ 64 * en := by omega
    have hm7 : 64 * en - 64 * fi = 64 * hn := by omega
    replace hfi0 := Go.Lib.hid hfi0
    replace hen0 := Go.Lib.hid hen0
    replace hop := Go.Lib.hid hop
    go_upto_region 10 with (go_at_call 48; go_must (refine HF.mono ?_); rintro e w' ⟨rfl, rfl⟩)
    have HH1 := HH w2.drew (below_drew (Below.refl _ _))
    go_region_held_law (fun w' => w'.cell? ⟨g, 0, none⟩ = some (.slice (some ⟨s, 0, none⟩) (64 * n) c)) (go_keep) (
      ((go_at_call 49; (with_reducible refine HH1.mono ?_); rintro e w' ⟨rfl, rfl⟩)))
    go_wp2
    clear HF HH1 h1 hby0 c0 c3 HS HN hbyW c20 y2 hm1 hm2 hm3 hqw
    go_loopg [8] hn (fun k _ wr => ∃ v recs, Below w.heap.size w wr ∧ RLog wr (fun k => w.heap.size ≤ k) gl g v ⟨q0, recs, false⟩ ∧ usedOf recs + k = hn ∧ recs.length ≤ usedOf recs ∧ Hid (scan d.img en fi = (scan d.img en (fi + usedOf recs)).map (recs ++ ·)))
    case atStart => exact ⟨.slice none 0 0, [], below_drew hB2, ⟨hbx, RecsAt.nil _ _ _⟩, by simp [usedOf], by simp [usedOf], Go.Lib.hid (by simp [usedOf])⟩
    case round =>
      obtain ⟨v, recs, hBr, hL, hu, hrl, hsc⟩ := hrel
      have hsr := hBr.size
      have z3 : wr.cell? ⟨gl, 3, none⟩ = some (.int .i64 (usedOf recs : Nat)) := by have := cell_of_row wr gl 3 _ _ _ hL.blk; exact this
      have hHr := rhalf_walk wr.drew g n (.slice (some ⟨s, 0, none⟩) (64 * n) c) tv d ((hDk.below hBr).below (below_drew (Below.refl _ _)))
      rw [show halfOf n = hn from hhn.out] at hHr
      have z3d : wr.drew.cell? ⟨gl, 3, none⟩ = some (.int .i64 (usedOf recs : Nat)) := z3
      by_cases hk : gk = 0
      · have hle : decide ((usedOf recs : Int) < (hn : Int)) = false := by rw [decide_eq_false_iff_not]; omega
        have hlN : decide (usedOf recs < hn) = false := by rw [decide_eq_false_iff_not]; omega
        have hlM : ¬ usedOf recs < hn := by omega
        have hs0 : scan d.img en fi = some recs := by
          rw [hsc.out, scan_end (by have : en = fi + hn := hen0.out; omega)]
          simp
        replace hs0 := Go.Lib.hid hs0
        replace hu := Go.Lib.hid hu
        replace hk := Go.Lib.hid hk
        clear hsc
        go_upto_region 11 with fail
        go_region_held_law (fun w' => w'.cell? ⟨gl, 3, none⟩ = some (.int .i64 (usedOf recs : Nat))) (go_keep) (
          ((go_at_call 49; (with_reducible refine hHr.mono ?_); rintro e w' ⟨rfl, rfl⟩)))
        go_wp2
        go_ret2
        rw [show op = Opened.log q0 recs by rw [hop.out, hs0.out]]
        exact ⟨below_drew hBr, _, v, rfl, hL.chain (below_drew (Below.refl _ _)), hgl1⟩
      · have hle : decide ((usedOf recs : Int) < (hn : Int)) = true := by rw [decide_eq_true_eq]; omega
        obtain ⟨us, hus⟩ : ∃ x, x = usedOf recs := ⟨_, rfl⟩
        have hlN : decide (usedOf recs < hn) = true := by rw [decide_eq_true_eq]; omega
        have hlM : usedOf recs < hn := by omega
        rw [← hus] at hle hlN hlM z3 z3d hu hrl hsc
        replace hus := Go.Lib.hid hus
        have hm2 : IntKind.i64.wrap ((us : Int) * 64) = ((64 * us : Nat) : Int) := by rw [IntKind.wrap_i64]; omega
        have hm8 : ¬ c - 64 * fi = 64 * us := by omega
        have hm9 : 64 * us ≤ 64 * hn := by omega
        have hm10 : 64 * fi + 64 * us = 64 * (fi + us) := by omega
        have hm11 : 64 * hn - 64 * us = 64 * (en - (fi + us)) := by have : en = fi + hn := hen0.out; omega
        go_upto_region 11 with fail
        go_region_held_law (fun w' => w'.cell? ⟨gl, 3, none⟩ = some (.int .i64 (us : Nat))) (go_keep) (
          ((go_at_call 49; (with_reducible refine hHr.mono ?_); rintro e w' ⟨rfl, rfl⟩)))
        go_upto_region 13 with fail
        rw [hm10, hm11]
        have hae : fi + us < en := by have : en = fi + hn := hen0.out; omega
        have hby : Bys wr (some ⟨s, 64 * (fi + us), none⟩) (64 * (en - (fi + us))) (secsOf d.img (fi + us) (en - (fi + us))) := by
          have h1 := ((Bys.own hDk.sec).below hBr).cut (64 * (fi + us)) (64 * (en - (fi + us))) (by omega)
          rw [Nat.zero_add] at h1
          exact h1
        have hcc : 64 * (en - (fi + us)) ≤ c - 64 * fi - 64 * us := by have : en = fi + hn := hen0.out; omega
        have hcb : c - 64 * fi - 64 * us ≤ 9223372036854775807 := by omega
        generalize c - 64 * fi - 64 * us = c2 at *
        obtain ⟨at_, hat⟩ : ∃ x, x = fi + us := ⟨_, rfl⟩
        rw [← hat] at hby hcc hae hsc ⊢
        have hs64 := secOf_secsOf d.img at_ (en - at_) (by omega)
        have hbt := hby.take 64 (by omega)
        rw [hs64] at hbt
        have hrp := rread_readP hlen hfe hae
        generalize secsOf d.img at_ (en - at_) = L at *
        obtain ⟨m, hmm⟩ : ∃ x, x = 64 * (en - at_) := ⟨_, rfl⟩
        rw [← hmm] at hby hcc ⊢
        have hm64 : 64 ≤ m := by omega
        have hmod : m % 64 = 0 := by omega
        have hc64 : (64 : Int) ≤ (c2 : Int) := by omega
        obtain ⟨W1, hW1⟩ : ∃ x, x = wr.drew := ⟨_, rfl⟩
        rw [← hW1]
        have hBW : Below wr.heap.size wr W1 := by rw [hW1]; exact below_drew (Below.refl _ _)
        clear z3 z3d hHr HH
        replace hW1 := Go.Lib.hid hW1
        replace hmm := Go.Lib.hid hmm
        replace hat := Go.Lib.hid hat
        replace hs64 := Go.Lib.hid hs64
        replace hrp := Go.Lib.hid hrp
        have hL1 := hL.chain hBW
        have hB1' := hBr.trans (hBW.mono hsr)
        have hby1 := hby.below hBW
        have hbt1 := hbt.below hBW
        have hBd : Below W1.heap.size W1 W1.drew := below_drew (Below.refl _ _)
        have hBa : Below W1.heap.size W1 (W1.alloc (.cells (bv zb64).toArray 5)).drew := below_drew ((Below.refl _ _).alloc (Nat.le_refl _) _)
        have hzb : Bys (W1.alloc (.cells (bv zb64).toArray 5)).drew (some ⟨W1.heap.size, 0, none⟩) 64 zb64 := (bys_sector W1 5 zb64 zb64_length).drew
        have st1 := (hbt1.below hBd).string (P := Tryd.prog) Tryd.underlying22 Tryd.underlying5 Tryd.underlying9 c2
        have st2 := (hbt1.below hBa).string (P := Tryd.prog) Tryd.underlying22 Tryd.underlying5 Tryd.underlying9 c2
        have st3 := hzb.string (P := Tryd.prog) Tryd.underlying22 Tryd.underlying5 Tryd.underlying9 64
        have hmk := made_zb64
        clear hby hbt hBr hBW hzb
        by_cases hz : secOf d.img at_ = zb64
        · rw [hz] at st1 st2
          have hs0 : scan d.img en fi = some recs := by rw [hsc.out, scan_zero hz]; simp
          replace hs0 := Go.Lib.hid hs0
          replace hz := Go.Lib.hid hz
          clear hsc hrp hs64
          generalize zb64 = zz at *
          go_region_held_law (fun _ => True) (trivial) (fail)
          all_goals
            go_wp2
            go_ret2
            rw [show op = Opened.log q0 recs by rw [hop.out, hs0.out]]
            exact ⟨hB1'.trans (hBa.mono hB1'.size), _, v, rfl, hL1.chain hBa, hgl1⟩
        · have hne : ((str (secOf d.img at_)).toList == (str zb64).toList) = false := by rw [str_toList, str_toList, beq_eq_false_iff_ne]; exact hz
          have hns : ¬ en ≤ at_ := by omega
          have HR : ∀ x, Below W1.heap.size W1 x → Calls Tryd.prog 50 #[.slice (some ⟨s, 64 * at_, none⟩) m c2] x (RetRRec x.heap.size (readP d.img at_ en) x) := by
            intro x hx
            have := rread_walk' x s (64 * at_) m c2 L (hby1.below hx) hm64 hcc (by omega) hmod
            rw [hrp.out] at this
            exact this
          have HRa := HR _ hBa
          cases hr : readP d.img at_ en with
          | none =>
            have hs0 : scan d.img en fi = none := by rw [hsc.out, scan_none hns hz hr]; rfl
            replace hs0 := Go.Lib.hid hs0
            rw [hr] at HRa
            clear hsc hrp hs64 hr HR hz hns
            generalize secOf d.img at_ = sec1 at *
            generalize zb64 = zz at *
            go_region_held_law (fun _ => True) (trivial) (fail)
            all_goals
              go_wp2_with (go_at_call 50; go_must (refine HRa.mono ?_; intro e w3 hR; obtain ⟨kz, A3, m3, c3, rfl, -, hB3⟩ := hR))
              go_ret2
              rw [show op = Opened.err 61 by rw [hop.out, hs0.out]]
              have hB03 := hBa.trans (hB3.mono hBa.size)
              exact ⟨(hB1'.trans (hB03.mono hB1'.size)).alloc (by have := hB03.size; have := hB1'.size; omega) _, rfl⟩
          | some r =>
            obtain ⟨hrl2, hre, hk1, hk2, hl2⟩ := readP_some hlen hfe hr
            rw [hr] at HRa
            have hsp := secs_pos (loadLen d.img at_)
            have hsx : scan d.img en fi = (scan d.img en (at_ + secs (loadLen d.img at_))).map (recs ++ [r] ++ ·) := by
              rw [hsc.out, scan_some hns hz hr, Option.map_map]
              congr 1
              funext x
              simp
            have husn : usedOf (recs ++ [r]) = us + secs (loadLen d.img at_) := by rw [usedOf_snoc, hrl2, hus.out]
            replace hsx := Go.Lib.hid hsx
            clear hsc hrp hs64 hr HR hz hns
            generalize secOf d.img at_ = sec1 at *
            generalize zb64 = zz at *
            generalize hksd : secs (loadLen d.img at_) = ks at *
            have hks2 : secs r.2.length = ks := by rw [hrl2]; exact hksd
            have hw1 : IntKind.i64.wrap ((us : Int) + (ks : Int)) = ((usedOf (recs ++ [r]) : Nat) : Int) := by rw [IntKind.wrap_i64, husn]; have : at_ = fi + us := hat.out; omega
            replace husn := Go.Lib.hid husn
            replace hrl2 := Go.Lib.hid hrl2
            replace hksd := Go.Lib.hid hksd
            go_cut [85] from 66 to 113 (fun v wx => v = .bool false ∧ wx = (W1.alloc (.cells (bv zz).toArray 5)).drew)
            case first =>
              go_region_held_law (fun _ => True) (trivial) (fail)
              all_goals (go_wp2_with fail; go_meet; exact ⟨rfl, rfl⟩)
            case rest =>
              obtain ⟨rfl, rfl⟩ := hcut
              go_upto_region 18 with (go_at_call 50; go_must (refine HRa.mono ?_; intro e w3 hR; obtain ⟨kz, A3, m3, c3, rfl, hq3, hB3⟩ := hR; obtain ⟨rfl, rfl, hown3⟩ := hq3 r rfl))
              have hB03 := hBa.trans (hB3.mono hBa.size)
              have hs3 := hB03.size
              have hb4 := heap_alloc_new w3 (.cells #[.int .i64 (r.1 : Int), .slice A3 r.2.length c3] 102)
              have hB4 : Below w3.heap.size w3 (w3.alloc (.cells #[.int .i64 (r.1 : Int), .slice A3 r.2.length c3] 102)) := (Below.refl _ _).alloc (Nat.le_refl _) _
              have hBs := hB1'.size
              have hbw3 : w.heap.size ≤ w3.heap.size := Nat.le_trans hBs hs3
              have hO4 : OwnB (w3.alloc (.cells #[.int .i64 (r.1 : Int), .slice A3 r.2.length c3] 102)) (fun k => w.heap.size ≤ k) A3 r.2.length c3 r.2 := ⟨(own_lo hown3 (Nat.zero_le _)).alloc _, fun k hk => by have := own_base hown3 k hk; have := hBa.size; omega⟩
              obtain ⟨gx, hgx⟩ : ∃ x, x = w3.heap.size := ⟨_, rfl⟩
              rw [← hgx] at hb4 ⊢
              have hgxn : gl ≠ gx := by have := (Array.getElem?_eq_some_iff.1 hL1.blk).1; omega
              replace hgx := Go.Lib.hid hgx
              have hL4 := (hL1.chain hB03).chain hB4
              have hB04 := hB1'.trans ((hB03.trans (hB4.mono hs3)).mono hBs)
              generalize w3.alloc (.cells #[.int .i64 (r.1 : Int), .slice A3 r.2.length c3] 102) = w4 at *
              have hs4 := hB04.size
              have z1 : w4.cell? ⟨gl, 1, none⟩ = some v := by have := cell_of_row w4 gl 1 _ _ _ hL4.blk; exact this
              have zf := frozen_of_row w4 gl 1 _ _ hL4.blk
              have x0 := cell_of_row w4 gx 0 _ _ _ hb4
              have x1 := cell_of_row w4 gx 1 _ _ _ hb4
              have hone : RecsAt 102 (w4.alloc (.cells #[.int .i64 (r.1 : Int), .slice A3 r.2.length c3] 102)).drew (fun j => w.heap.size ≤ j ∨ w4.heap.size ≤ j) (.slice (some ⟨w4.heap.size, 0, none⟩) 1 1) [r] := (RecsAt.one hO4).below (below_drew (Below.refl _ _))
              have hB5 : Below w4.heap.size w4 (w4.alloc (.cells #[.int .i64 (r.1 : Int), .slice A3 r.2.length c3] 102)).drew := below_drew ((Below.refl _ _).alloc (Nat.le_refl _) _)
              have hR5 := hL4.recs.below hB5
              have hL5 := hL4.chain hB5
              have hB05 := hB04.trans (hB5.mono hs4)
              have hs5 := hB05.size
              have y1 : (w4.alloc (.cells #[.int .i64 (r.1 : Int), .slice A3 r.2.length c3] 102)).cell? ⟨gl, 1, none⟩ = some v := cell_below ((Below.refl _ _).alloc (Nat.le_refl _) _) z1
              have hb5 := (hB5.block gx (Array.getElem?_eq_some_iff.1 hb4).1).trans hb4
              have hrl3 : recs.length ≤ 16384 := by omega
              go_cut [] from 66 to 113 (fun wx => ∃ v1 w6, RecsAt 102 w6 (fun k => w.heap.size ≤ k) v1 (recs ++ [r]) ∧ (w4.alloc (.cells #[.int .i64 (r.1 : Int), .slice A3 r.2.length c3] 102)).drew.grownBy w6 v.ownBlock ∧ wx = w6.setCell ⟨gl, 1, none⟩ v1)
              case first =>
                go_region_law (
                  ((refine step_append_recs (o := ⟨some 101, _, _, _, _, _⟩) rfl (.tmp 98) (.tmp 100) 42 102 rfl (by decide) Tryd.underlying42 info_rrec rfl hR5 rfl hone (by show recs.length + 1 ≤ _; omega) ?_; intro v1 w6 hR6 hg6; obtain ⟨A6, c6, hv6⟩ := hR6.slice; subst hv6; have q1 := cell_of_row w6 gl 1 _ _ _ ((hL5.grow hg6).trans hL5.blk); have p1 := frozen_of_row w6 gl 1 _ _ ((hL5.grow hg6).trans hL5.blk))))
                all_goals
                  go_wp2_with fail
                  go_meet
                  have e1 : (recs ++ [r]).length = recs.length + 1 := by simp
                  refine ⟨.slice A6 (recs ++ [r]).length c6, w6, hR6.mono (fun k _ hz => by rcases hz with hz | (hz | hz) | hz <;> omega), hg6, by rw [e1]⟩
              case rest =>
                obtain ⟨v1, w6, hR6, hg6, hwc⟩ := hcut
                go_upto_region 19 with fail
                have hb6 : w6.heap[gl]? = some (.cells #[.pointer (some ⟨g, 0, none⟩), v, .int .i64 (q0 : Nat), .int .i64 (usedOf recs : Nat), .bool false] 99) := (hL5.grow hg6).trans hL5.blk
                have hbc : wc.heap[gl]? = some (.cells #[.pointer (some ⟨g, 0, none⟩), v1, .int .i64 (q0 : Nat), .int .i64 (us : Nat), .bool false] 99) := by
                  rw [hwc, hus.out]
                  exact Go.Proofs.YtggogenhakdhiaaDoorW.PrintWords.blk_set hb6 1 v1
                have hgx6 : w6.heap[gx]? = some (.cells #[.int .i64 (r.1 : Int), .slice A3 r.2.length c3] 102) := by
                  refine (hg6.block gx (Array.getElem?_eq_some_iff.1 hb5).1 fun e => ?_).trans hb5
                  have h1 := hL1.recs.lt gx e.symm
                  have h2 : gx = w3.heap.size := hgx.out
                  omega
                have hgxc : wc.heap[gx]? = some (.cells #[.int .i64 (r.1 : Int), .slice A3 r.2.length c3] 102) := by
                  rw [hwc]
                  exact (heap_setCell_other _ _ _ _ (Ne.symm hgxn)).trans hgx6
                have hB6c : Below w.heap.size w wc := by
                  rw [hwc]
                  exact (hB05.grown hg6 hs5 (fun k hk => hL5.recs.in_ k hk)).setCell hgl1 v1
                have t3 : wc.cell? ⟨gl, 3, none⟩ = some (.int .i64 (us : Nat)) := by have := cell_of_row wc gl 3 _ _ _ hbc; exact this
                have t0 := cell_of_row wc gx 0 _ _ _ hgxc
                have t1 := cell_of_row wc gx 1 _ _ _ hgxc
                have HS := rsectors2_walk wc.drew (r.1 : Int) A3 r.2.length c3 (by omega)
                rw [hks2] at HS
                have hcd : Below wc.heap.size wc wc.drew := below_drew (Below.refl _ _)
                have hsc6 := hB6c.size
                have hwch := Go.Lib.hid hwc
                clear hwc z1 zf x0 x1 hone hR5 y1 HRa
                go_region_with (
                  ((go_at_call 51; go_must (refine HS.mono ?_; rintro e w8 ⟨rfl, hB8⟩; have hB8c := hcd.trans hB8; have u3 := cell_below hB8c t3; have hb8 := (hB8c.block gl (Array.getElem?_eq_some_iff.1 hbc).1).trans hbc; have v3 := frozen_of_row w8 gl 3 _ _ hb8))))
                all_goals
                  go_wp2_with fail
                  have hks3 : at_ = fi + us := hat.out
                  have hgk := hu
                  have hen1 : en = fi + hn := hen0.out
                  have hus1 : usedOf (recs ++ [r]) = us + ks := husn.out
                  go_roundg (gk - ks)
                  case measure => omega
                  case rel =>
                    have hR6' := hL5.snoc hg6 hR6 (w2 := w8) (by rw [← hwch.out]; exact hB8c)
                    refine ⟨v1, recs ++ [r], (hB6c.trans (hB8c.mono hsc6)).setCell hgl1 _, hR6', by omega, by rw [List.length_append, List.length_singleton]; omega, ?_⟩
                    rw [hus1, ← Nat.add_assoc, ← hks3]
                    exact hsx
theorem ropen_walk (w : World) (g n : Nat) (sv tv : Value) (d : DS) (h : RDsk w g sv tv n d) :
    Calls Tryd.prog 14 #[.pointer (some ⟨g, 0, none⟩)] w (RetOpened RLog w.heap.size g (openOf d n) w) := by
  unfold openOf
  by_cases hd : d.down = true
  · rw [if_pos hd]
    exact ropen_down w g n sv tv d h hd
  · rw [if_neg hd]
    have hd' : d.down = false := by simpa using hd
    cases hg : genOf d.img n with
    | none => exact ropen_head w g n sv tv d h hd' hg
    | some q => exact ropen_ok w g n sv tv d h hd' q hg
end Go.Proofs.YtggogenhakdhiaaDoor
