/- WalOpens walked. -/
import Derived.Test.YtggogenhakdhiaaDoorWalAlike
import Derived.Test.YtggogenhakdhiaaDoorWalROpen2
import Derived.Test.YtggogenhakdhiaaDoorWalZone
import Derived.Test.YtggogenhakdhiaaDoorDskImage
import Derived.Test.YtggogenhakdhiaaDoorDskWrite
import Derived.Test.YtggogenhakdhiaaDoorDskRWrite
import Derived.Test.YtggogenhakdhiaaDoorDskRNew
set_option linter.unusedVariables false
set_option linter.unusedSimpArgs false
attribute [local go_sem ↓] Go.wp_at_zero Go.wp_at_succ
namespace Go.Proofs.YtggogenhakdhiaaDoor
open Go.RowKit

/-- a piece of bytes, wherever they lie -/
theorem Bys.piece {w : World} {ad : Addr} {n : Nat} {l : List UInt8} (h : Bys w (some ad) n l) (k m : Nat) (hm : k + m ≤ n) : Bys w (some (ad.add k)) m ((l.drop k).take m) :=
  ⟨by rw [List.length_take, List.length_drop, h.len]; omega, by have := h.max; omega, fun i hi => ⟨_, rfl, by
    obtain ⟨ad', e, hc⟩ := h.cell (k + i) (by omega)
    cases e
    rw [add_of_add, hc, List.getD_eq_getElem?_getD, List.getD_eq_getElem?_getD, List.getElem?_take, if_pos hi, List.getElem?_drop]⟩⟩
/-- the law answers so, and turns nothing that was -/
def Tells (B : Nat) (v : Value) (w : World) (e : Ending) (w' : World) : Prop := e = .returned v ∧ Below B w w'
theorem num_walk (w : World) (z : Int) (h0 : -9223372036854775808 ≤ z) (h1 : z ≤ 9223372036854775807) : Calls Tryd.prog 10 #[.int .i64 z] w (Says (.int .i64 z) w) := by
  have hw : IntKind.i64.wrap z = z := by rw [IntKind.wrap_i64]; omega
  go_enter Tryd.func10, Tryd.ntmps10
  go_wp2
  go_ret
  exact ⟨rfl, rfl⟩
/-- what the scan finds fits -/
theorem scan_fits {img : List UInt8} {n en : Nat} (hl : img.length = 64 * n) (he : en ≤ n) : ∀ (k at_ : Nat) (l : List (Int × List UInt8)), en - at_ ≤ k → scan img en at_ = some l → usedOf l ≤ en - at_ ∧ l.length ≤ en - at_ ∧ ∀ r ∈ l, r.2.length ≤ 262144 ∧ 1 ≤ r.1 ∧ r.1 ≤ 255 := by
  intro k
  induction k with
  | zero =>
    intro at_ l hk h
    rw [scan_end (by omega)] at h
    cases h
    exact ⟨Nat.zero_le _, Nat.zero_le _, fun r hr => by simp at hr⟩
  | succ k ih =>
    intro at_ l hk h
    by_cases h1 : en ≤ at_
    · rw [scan_end h1] at h
      cases h
      exact ⟨Nat.zero_le _, Nat.zero_le _, fun r hr => by simp at hr⟩
    · by_cases h2 : secOf img at_ = zb64
      · rw [scan_zero h2] at h
        cases h
        exact ⟨Nat.zero_le _, Nat.zero_le _, fun r hr => by simp at hr⟩
      · cases h3 : readP img at_ en with
        | none => rw [scan_none h1 h2 h3] at h; cases h
        | some r =>
          rw [scan_some h1 h2 h3] at h
          obtain ⟨a1, a2, a3, a4, a5⟩ := readP_some hl he h3
          have hp := secs_pos (loadLen img at_)
          cases h4 : scan img en (at_ + secs (loadLen img at_)) with
          | none => rw [h4] at h; cases h
          | some l' =>
            rw [h4] at h
            cases h
            obtain ⟨b1, b2, b3⟩ := ih (at_ + secs (loadLen img at_)) l' (by omega) h4
            refine ⟨?_, ?_, ?_⟩
            · unfold usedOf at b1 ⊢
              rw [List.map_cons, List.sum_cons, a1]
              omega
            · rw [List.length_cons]; omega
            · intro x hx
              rcases List.mem_cons.1 hx with rfl | hx
              · exact ⟨a5, a3, a4⟩
              · exact b3 x hx
theorem open_fits {d : DS} {n : Nat} (hl : d.img.length = 64 * n) (hn : 1 ≤ n) {q : Nat} {l : List (Int × List UInt8)} (h : openOf d n = .log q l) : usedOf l ≤ halfOf n ∧ l.length ≤ halfOf n ∧ (∀ r ∈ l, r.2.length ≤ 262144 ∧ 1 ≤ r.1 ∧ r.1 ≤ 255) ∧ 1 ≤ q ∧ q ≤ 1099511627776 := by
  unfold openOf at h
  split at h
  · cases h
  · cases hg : genOf d.img n with
    | none => rw [hg] at h; cases h
    | some g =>
      rw [hg] at h
      have hq := genOf_le hg
      cases hs : scan d.img (firstOf n g + halfOf n) (firstOf n g) with
      | none => simp only [hs] at h; cases h
      | some l' =>
        simp only [hs] at h
        cases h
        obtain ⟨a, b, c⟩ := scan_fits hl (show firstOf n _ + halfOf n ≤ n by unfold firstOf halfOf; split <;> omega) _ _ _ (Nat.le_refl _) hs
        exact ⟨by omega, by omega, c, hq⟩
theorem openOf_err {d : DS} {n : Nat} {k : Int} (h : openOf d n = .err k) : 50 ≤ k ∧ k ≤ 61 := by
  unfold openOf at h
  split at h
  · cases h; omega
  · split at h
    · cases h; omega
    · split at h
      · cases h; omega
      · cases h
/-- an image that is written sector by sector -/
structure Filled (l : List UInt8) (n j : Nat) (d : DS) : Prop where
  img : d.img.take (64 * j) = l.take (64 * j)
  tr : d.trail.length = j
  ar : d.armed = -1
  dn : d.down = false
theorem Filled.step {l : List UInt8} {n j : Nat} {d : DS} (h : Filled l n j d) (hl : d.img.length = 64 * n) (hj : j < n) (hn : 64 * n ≤ l.length) : Filled l n (j + 1) (writeOf n d j ((l.drop (64 * j)).take 64)).1 ∧ (writeOf n d j ((l.drop (64 * j)).take 64)).2 = 0 := by
  have hb : ((l.drop (64 * j)).take 64).length = 64 := by rw [List.length_take, List.length_drop]; omega
  rw [writeOf_n n d j _ hj hb h.dn (by rw [h.ar]; omega)]
  refine ⟨⟨?_, ?_, ?_, rfl⟩, rfl⟩
  · show (splice d.img (64 * j) ((l.drop (64 * j)).take 64)).take (64 * (j + 1)) = _
    have e1 : splice d.img (64 * j) ((l.drop (64 * j)).take 64) = d.img.take (64 * j) ++ (l.drop (64 * j)).take 64 ++ d.img.drop (64 * j + 64) := by
      unfold splice; rw [hb, List.append_assoc]
    rw [e1, h.img, show 64 * (j + 1) = 64 * j + 64 by omega, List.take_append_of_le_length (by rw [List.length_append, List.length_take, hb]; omega), List.take_of_length_le (by rw [List.length_append, List.length_take, hb]; omega), List.take_add]
  · show (d.trail ++ [(j : Int)]).length = _
    rw [List.length_append, h.tr]; rfl
  · show (if 0 < d.armed then d.armed - 1 else d.armed) = -1
    rw [h.ar]; rfl
set_option maxRecDepth 20000 in
theorem opens_big (w : World) (A : Option Addr) (m c : Nat) (h : 19200 < m) (hm : m ≤ 9223372036854775807) :
    Calls Tryd.prog 3 #[.slice A m c] w (Tells w.heap.size (.bool true) w) := by
  have hz : (19200 : Int) < (m : Int) := by omega
  go_enter Tryd.func3, Tryd.ntmps3
  go_wp2
  go_ret
  exact ⟨rfl, Below.refl _ _⟩
set_option maxRecDepth 20000 in
theorem opens_small (w : World) (A : Option Addr) (m c : Nat) (h : m < 64) :
    Calls Tryd.prog 3 #[.slice A m c] w (Tells w.heap.size (.bool true) w) := by
  have hz : ¬ (19200 : Int) < (m : Int) := by omega
  have hd : IntKind.i64.wrap ((m : Int) / 64) = 0 := by rw [IntKind.wrap_i64]; omega
  have hd2 : (m : Int) / 64 = 0 := by omega
  have H1 := new_walk w 0 (by omega)
  have H2 := rnew_walk w 0 (by omega)
  go_enter Tryd.func3, Tryd.ntmps3
  go_wp2_with (first
    | (go_at_call 8; go_must (refine H1.mono ?_; intro e w1 hR; rw [RetNew, if_neg (by omega)] at hR; obtain ⟨rfl, rfl⟩ := hR))
    | (go_at_call 9; go_must (refine H2.mono ?_; intro e w1 hR; rw [RetNew, if_neg (by omega)] at hR; obtain ⟨rfl, rfl⟩ := hR)))
  go_ret
  exact ⟨rfl, Below.refl _ _⟩
set_option maxHeartbeats 8000000 in
set_option maxRecDepth 20000 in
theorem opens_main (w : World) (ad : Addr) (m c : Nat) (l : List UInt8) (hb : Bys w (some ad) m l) (hmc : m ≤ c) (h1 : 64 ≤ m) (h2 : m ≤ 19200) (ht : TabAt w) :
    Calls Tryd.prog 3 #[.slice (some ad) m c] w (Tells w.heap.size (.bool true) w) := by
  obtain ⟨n, hn⟩ : ∃ x, x = m / 64 := ⟨_, rfl⟩
  have hn1 : 1 ≤ n := by omega
  have hn2 : n ≤ 300 := by omega
  have hnm : 64 * n ≤ m := by omega
  have hz : ¬ (19200 : Int) < (m : Int) := by omega
  have hd : IntKind.i64.wrap ((m : Int) / 64) = (n : Int) := by rw [IntKind.wrap_i64]; omega
  have hd2 : (m : Int) / 64 = (n : Int) := by omega
  have H1 := new_in w n hn1 (by omega)
  have hll := hb.len
  replace hn := Go.Lib.hid hn
  replace hll := Go.Lib.hid hll
  go_enter Tryd.func3, Tryd.ntmps3
  go_upto_region 5 with (go_at_call 8; go_must (refine H1.mono ?_; intro e w1 hR; rw [RetNew, if_pos (by omega)] at hR; obtain ⟨ga, sa, ta, rfl, hDa, hFa, hB1⟩ := hR))
  have H2 := rnew_in w1 n hn1 (by omega)
  go_upto_region 10 with (go_at_call 9; go_must (refine H2.mono ?_; intro e w2 hR; rw [RetNew, if_pos (by omega)] at hR; obtain ⟨gr, sr, tr, rfl, hDr, hFr, hB2⟩ := hR))
  simp only [Int.toNat_natCast] at hDa hDr
  have hz1 := hB1.size
  have hz2 := hB2.size
  have hB02 : Below w.heap.size w w2 := hB1.trans (hB2.mono hz1)
  have hT0 : Two w.heap.size n w2 (dye w1 (dye w (fun _ => 0) 1) 2) ga gr (zeroDS n) (zeroDS n) := by
    refine ⟨?_, In.new hDr hFr, fun k hk => ?_, by omega⟩
    · exact ((In.new (col := fun _ => 0) (i := 1) hDa hFa).recol (fun k hk => dye_old hk)).below hB2
    · rw [dye_old (by omega), dye_old (by omega)]
  have hF0 : Filled l n 0 (zeroDS n) := ⟨by simp, rfl, rfl, rfl⟩
  clear H1 H2 hDa hDr hFa hFr
  go_wp2
  go_loopw [8] (fun i wr => ∃ j : Nat, j ≤ n ∧ i = .int .i64 j ∧ Below w.heap.size w wr ∧ ∃ col d, Two w.heap.size n wr col ga gr d d ∧ Filled l n j d) (fun i _ => n - (intOf i).toNat)
  case atStart => exact ⟨0, by omega, rfl, hB02, _, _, hT0, hF0⟩
  case round =>
    clear hT0 hF0 hB02 hB1 hB2 hz1 hz2
    obtain ⟨j, hj, rfl, hBr, col, d, hT, hF⟩ := hrel
    have hzr := hBr.size
    by_cases hlt : j < n
    · have hltN : (j : Int) < (n : Int) := by omega
      obtain ⟨sa, ta, hDa, hfa⟩ := hT.P
      have hm1 : IntKind.i64.wrap (64 * (j : Int)) = ((64 * j : Nat) : Int) := by rw [IntKind.wrap_i64]; omega
      have hm2 : IntKind.i64.wrap (((64 * j : Nat) : Int) + 64) = ((64 * j + 64 : Nat) : Int) := by rw [IntKind.wrap_i64]; omega
      obtain ⟨hF1, hw0⟩ := hF.step hDa.len hlt (by rw [hll.out]; exact hnm)
      have hbj := hb.piece (64 * j) 64 (by omega)
      have htl := hF.tr
      have hq1 : ¬ c = 64 * j := by omega
      have hq2 : (64 * j : Int) + 64 ≤ (c : Int) := by omega
      have HW := write_walk wr ga n sa ta d j (some (ad.add (64 * j))) 64 (c - 64 * j) _ hDa (hbj.below hBr) (by omega)
      have HV : ∀ x sr tr, RDsk x gr sr tr n d → Below w.heap.size w x → Calls Tryd.prog 12 #[.pointer (some ⟨gr, 0, none⟩), .int .i64 (j : Nat), .slice (some (ad.add (64 * j))) 64 (c - 64 * j)] x (Acts 65 5 1 (64 * n) (.int .i64 0) gr n sr tr (writeOf n d j ((l.drop (64 * j)).take 64)).1 x) := by
        intro x sr tr hx hB
        have := rwrite_walk x gr n sr tr d j (some (ad.add (64 * j))) 64 (c - 64 * j) _ hx (hbj.below hB) (by omega)
        rw [hw0] at this
        exact this
      rw [hw0] at HW
      generalize (writeOf n d j ((l.drop (64 * j)).take 64)).1 = d2 at *
      clear hw0 hbj
      replace htl := Go.Lib.hid htl
      go_upto_region 12 with (first
        | (go_at_call 12; go_must (refine (HV w3 sr tr hDr hB3).mono ?_; rintro e w4 ⟨rfl, t4, hd4, hC4, ht4⟩))
        | (go_at_call 10; go_must (refine (num_walk _ 0 (by omega) (by omega)).mono ?_; rintro e w9 ⟨rfl, rfl⟩))
        | (go_at_call 11; go_must (refine HW.mono ?_; rintro e w3 ⟨rfl, t3, hd3, hC3, ht3⟩; have hT3 := hT.actP hDa hfa hd3 hC3 ht3; have hB3 := hBr.trans (hT.low hfa (by omega) hC3); obtain ⟨sr, tr, hDr, hfr⟩ := hT3.R)))
      have hT4 := hT3.actR hDr hfr hd4 hC4 ht4
      have hB4 := hB3.trans (hT3.low hfr (by omega) hC4)
      clear HW HV hC3 hC4 hd3 hd4 ht3 ht4 hT hT3 hDa hDr hfa hfr
      go_wp2
      go_roundw
      case rel => exact ⟨j + 1, hlt, by go_num, hB4, _, d2, hT4, hF1⟩
      case measure => simp [intOf]; omega
    · have hjn : j = n := by omega
      subst hjn
      obtain ⟨sa, ta, hDa, hfa⟩ := hT.P
      obtain ⟨sr, tr, hDr, hfr⟩ := hT.R
      have htW := ht.below hBr
      have hil := hDa.len
      have him : d.img = l.take (64 * j) := by rw [← hF.img, ← hil, List.take_length]
      have hit : d.trail.length = j := hF.tr
      have HO := open_walk wr ga j sa ta d hDa htW
      have HQ : ∀ x, Below wr.heap.size wr x → Calls Tryd.prog 14 #[.pointer (some ⟨gr, 0, none⟩)] x (RetOpened RLog x.heap.size gr (openOf d j) x) := fun x hx => ropen_walk x gr j sr tr d (hDr.below hx)
      have hI : ∀ x, Below wr.heap.size wr x → Calls Tryd.prog 16 #[.pointer (some ⟨ga, 0, none⟩)] x (RetBys x.heap.size 5 (l.take (64 * j)) x) := by
        intro x hx
        rw [← him]
        exact image_walk x ga j sa ta d (hDa.below hx)
      have hWr : ∀ x, Below wr.heap.size wr x → Calls Tryd.prog 17 #[.pointer (some ⟨ga, 0, none⟩)] x (Says (.int .i64 (j : Nat)) x) := by
        intro x hx
        rw [← hit]
        exact writes_walk x ga j sa ta d (hDa.below hx)
      have hli : (l.take (64 * j)).length = 64 * j := by rw [List.length_take, hll.out]; omega
      have hbt : ∀ x, Below wr.heap.size wr x → Bys x (some ad) (64 * j) (l.take (64 * j)) := fun x hx => ((hb.below hBr).below hx).take (64 * j) hnm
      have hcv : ∀ x A k (hx : Bys x A (64 * j) (l.take (64 * j))), (convert 22 9 (.slice A (64 * j) k)).run Tryd.prog x = .ok (.string (str (l.take (64 * j)))) x := fun x A k hx => hx.string (P := Tryd.prog) Tryd.underlying22 Tryd.underlying5 Tryd.underlying9 k
      generalize l.take (64 * j) = im at *
      replace hli := Go.Lib.hid hli
      have hmj : IntKind.i64.wrap (64 * (j : Int)) = ((64 * j : Nat) : Int) := by rw [IntKind.wrap_i64]; omega
      have hmc2 : (64 * j : Int) ≤ (c : Int) := by omega
      replace him := Go.Lib.hid him
      replace hit := Go.Lib.hid hit
      clear hF
      cases ho : openOf d j with
      | err k =>
        obtain ⟨hk0, hk1⟩ := openOf_err ho
        rw [ho] at HO HQ
        replace ho := Go.Lib.hid ho
        go_upto_region 17 with (first
          | (go_at_call 14; go_must (refine (HQ w5 hB5).mono ?_; rintro e w6 ⟨hB6, rfl⟩))
          | (go_at_call 13; go_must (refine HO.mono ?_; rintro e w5 ⟨hB5, rfl⟩)))
        have hB06 : Below wr.heap.size wr w6 := hB5.trans (hB6.mono hB5.size)
        have hB0d : Below wr.heap.size wr w6.drew := below_drew hB06
        have N1 := num_walk w6.drew k (by omega) (by omega)
        have N2 := alike_nil w6.drew none
        have N3 := hI w6.drew hB0d
        have cv1 := hcv w6.drew _ c (hbt _ hB0d)
        go_region_held_law (fun _ => True) (trivial) ((first
          | (go_at_call 17; (with_reducible refine N4.mono ?_); rintro e w8 ⟨rfl, rfl⟩)
          | (go_at_call 16; (with_reducible refine N3.mono ?_); intro e w7 hR; obtain ⟨A7, c7, rfl, hown7, hB7⟩ := hR.len (show im.length = 64 * j from hli.out); have hB07 : Below wr.heap.size wr w7 := hB0d.trans (hB7.mono hB0d.size); have cv2 := hcv w7 _ c (hbt _ hB07); have cv3 := hcv w7 _ c7 (Bys.own hown7); have N4 := hWr w7 hB07)
          | (go_at_call 15; (with_reducible refine N2.mono ?_); rintro e w8 ⟨rfl, rfl⟩)
          | (go_at_call 10; (with_reducible refine N1.mono ?_); rintro e w8 ⟨rfl, rfl⟩)))
        all_goals
          go_wp2
          go_ret
          exact ⟨rfl, hBr.trans (hB07.mono hzr)⟩
      | log q recs =>
        obtain ⟨f1, f2, f3, f4, f5⟩ := open_fits hil hn1 ho
        have hf3 : ∀ r ∈ recs, r.2.length ≤ 100000000000000 := fun r hr => by have := (f3 r hr).1; omega
        have hhj : halfOf j ≤ 300 := by unfold halfOf; omega
        rw [ho] at HO HQ
        replace ho := Go.Lib.hid ho
        replace f3 := Go.Lib.hid f3
        replace hf3 := Go.Lib.hid hf3
        go_upto_region 17 with (first
          | (go_at_call 14; go_must (refine (HQ w5 hB5).mono ?_; rintro e w6 ⟨hB6, gm, vm, rfl, hL6, hgm⟩))
          | (go_at_call 13; go_must (refine HO.mono ?_; rintro e w5 ⟨hB5, gl, vl, rfl, hP5, hgl⟩)))
        have hB06 : Below wr.heap.size wr w6 := hB5.trans (hB6.mono hB5.size)
        have hB0d : Below wr.heap.size wr w6.drew := below_drew hB06
        have hB6d : Below w6.heap.size w6 w6.drew := below_drew (Below.refl _ _)
        have N1 := num_walk w6.drew 0 (by omega) (by omega)
        have N2 := alike_ok w6.drew _ _ gl gm ga gr j vl vm sa ta sr tr ⟨q, recs, false⟩ ⟨q, recs, false⟩ d d (hP5.chain (hB6.trans (hB6d.mono hB6.size))) (hL6.chain hB6d) ⟨rfl, rfl⟩ rfl (hDa.below hB0d) (hDr.below hB0d) f1 (by show recs.length ≤ _; omega) hf3.out
        clear HO HQ hP5 hL6
        go_region_held_law (fun _ => True) (trivial) ((first
          | (go_at_call 17; (with_reducible refine N4.mono ?_); rintro e w8 ⟨rfl, rfl⟩)
          | (go_at_call 16; (with_reducible refine N3.mono ?_); intro e w7 hR; obtain ⟨A7, c7, rfl, hown7, hB7⟩ := hR.len (show im.length = 64 * j from hli.out); have hB07 : Below wr.heap.size wr w7 := hB0a.trans (hB7.mono hB0a.size); have cv2 := hcv w7 _ c (hbt _ hB07); have cv3 := hcv w7 _ c7 (Bys.own hown7); have N4 := hWr w7 hB07)
          | (go_at_call 15; (with_reducible refine N2.mono ?_); rintro e wa ⟨rfl, hBa⟩; have hB0a : Below wr.heap.size wr wa := hB0d.trans (hBa.mono hB0d.size); have N3 := hI wa hB0a; have cv1 := hcv wa _ c (hbt _ hB0a))
          | (go_at_call 10; (with_reducible refine N1.mono ?_); rintro e w8 ⟨rfl, rfl⟩)))
        all_goals
          go_wp2
          go_ret
          exact ⟨rfl, hBr.trans (hB07.mono hzr)⟩
theorem opens_any (w : World) (A : Option Addr) (m c : Nat) (l : List UInt8) (hb : Bys w A m l) (hmc : m ≤ c) (ht : TabAt w) :
    Calls Tryd.prog 3 #[.slice A m c] w (Tells w.heap.size (.bool true) w) := by
  by_cases h2 : 19200 < m
  · exact opens_big w A m c h2 hb.max
  · by_cases h1 : m < 64
    · exact opens_small w A m c h1
    · obtain ⟨ad, rfl, _⟩ := hb.cell 0 (by omega)
      exact opens_main w ad m c l hb hmc (by omega) (by omega) ht
end Go.Proofs.YtggogenhakdhiaaDoor
