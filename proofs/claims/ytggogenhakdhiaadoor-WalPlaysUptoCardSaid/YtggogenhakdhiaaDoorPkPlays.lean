/- WalPlays: for every number of sectors and every row of acts, a disk and its log answer as the document's do, the power failing anywhere, and all that is told behind each act is the same (the card: the table of sixteen numbers holds what the program's text lays; the arguments together hold at most 1048576 values and letters). (ahead of it: All bytes of a disk, the program's way. New disks, the document's way. WalPlays walked.) -/
import Derived.Test.YtggogenhakdhiaaDoorPkA
import Derived.Deep.DeepMust
import Derived.Test.YtggogenhakdhiaaDoorPkG
section
set_option linter.unusedVariables false
set_option linter.unusedSimpArgs false
namespace Go.Proofs.YtggogenhakdhiaaDoor
open Go.RowKit

theorem take_sec (img : List UInt8) (k : Nat) : img.take (64 * k + 64) = img.take (64 * k) ++ secOf img k := by
  rw [List.take_add]; rfl
set_option maxHeartbeats 1000000 in
set_option maxRecDepth 20000 in
theorem image_walk (w : World) (g n : Nat) (sv tv : Value) (d : DS) (h : PDsk w g sv tv n d) :
    Calls Tryd.prog 16 #[.pointer (some ⟨g, 0, none⟩)] w (RetBys w.heap.size 5 d.img w) := by
  have c0 := h.c0
  have hle := h.le
  have hlen := h.len
  obtain ⟨s, c, hv, _, hs, hc1, hc2, _⟩ := own_some h.sec h.pos
  subst hv
  go_enter Tryd.func16, Tryd.ntmps16
  go_wp2
  go_loopw [3, 11] (fun b i wr => ∃ k : Nat, k ≤ n ∧ i = .int .i64 k ∧ Below w.heap.size w wr ∧ wr.ownsRow w.heap.size 5 1 b (64 * k) (bv (d.img.take (64 * k)))) (fun _ i _ => n - (intOf i).toNat)
  case atStart => exact ⟨0, by omega, rfl, Below.refl _ _, by simpa [bv] using own_nil w w.heap.size 5 1⟩
  case round =>
    obtain ⟨k, hk, rfl, hBr, hown⟩ := hrel
    by_cases hlt : k < n
    · have hD := h.below hBr
      have hcell := sec_cells hD.sec hD.len hlt hD.pos
      have hl64 := secOf_length hlen hlt
      have hsz := hBr.size
      clear h hD
      go_wp2_with (first
        | (refine wpList_load_cells (o := ⟨some 14, _, _, _, _, _⟩) rfl 84 (.tmp 13) rfl ⟨s, k * 64, none⟩ rfl (bv (secOf d.img k)) _ (sec_cells2 hcell) Tryd.underlying84 rfl (by rw [infoSec, bv_length, hl64]) ?_)
        | (refine wpList_store_fresh (o := ⟨none, _, _, _, _, _⟩) rfl 84 (.tmp 5) (.tmp 14) rfl (bv (secOf d.img k)).toArray rfl rfl _ _ (by rw [infoSec]; simp [bv_length, hl64]) (by simp [bv_length, hl64]) (bv_all _) ?_)
        | (at_builtin; go_must (refine wpList_append_bys (o := ⟨some 17, _, _, _, _, _⟩) w w.heap.size rfl (.tmp 15) (.tmp 16) 22 5 rfl Tryd.underlying22 info_u8 _ (64 * k) _ rfl (own_below_lt hown (own_lt hown) ((Below.refl _ _).alloc (Nat.le_refl _) _)) (some ⟨_, 0, none⟩) 64 64 (secOf d.img k) rfl (Bys.own (own_new _ _ _ 64 hl64 (by omega))) (hBr.alloc hsz _) (Nat.le_trans hsz (by simp)) (by omega) ?_); go_must (intro v2 w2 hown2 hB2 hg2 hat2 hs2)))
      go_roundw
      case rel =>
        refine ⟨k + 1, hlt, by go_num, hB2, ?_⟩
        have e : 64 * (k + 1) = 64 * k + 64 := by omega
        rw [e, take_sec, bv_append]
        exact hown2
      case measure => simp [intOf]; omega
    · have e : k = n := by omega
      subst e
      clear c0 hs
      go_wp2
      go_ret
      exact RetBys.of hown (by rw [← hlen, List.take_length]) hBr
end Go.Proofs.YtggogenhakdhiaaDoor
end
section
set_option linter.unusedVariables false
set_option linter.unusedSimpArgs false
namespace Go.Proofs.YtggogenhakdhiaaDoor
open Go.RowKit

set_option maxHeartbeats 1000000 in
set_option maxRecDepth 20000 in
theorem rnew_in (w : World) (n : Nat) (h1 : 1 ≤ n) (h2 : n ≤ 16384) :
    Calls Tryd.prog 9 #[.int .i64 n] w (RetNew 65 5 1 (64 * n) w.heap.size n w) := by
  go_enter Tryd.func9, Tryd.ntmps9
  go_wp2_with (refine wpList_make (o := ⟨some 12, _, _, _, _, _⟩) rfl 22 5 (.tmp 11) rfl (n * 64) rfl (.int .u8 0) 1 1 Tryd.underlying22 info_u8 (by omega) (by omega) ?_)
  go_ret2
  rw [RetNew, if_pos (by omega)]
  simp only [Int.toNat_natCast, Nat.mul_one]
  rw [made_zeros #[.int .u8 0] 1 (n * 64) rfl (by omega)]
  refine ⟨w.heap.size + 1, .slice (some ⟨w.heap.size, 0, none⟩) (n * 64) (n * 64), .slice none 0 0, by simp, ⟨?_, ?_, own_nil _ _ _ _, by simp [zeroDS]; omega, h1, h2, by simp [zeroDS], by simp [zeroDS]⟩, ?_, ((Below.refl _ _).alloc (Nat.le_refl _) _).alloc (by simp) _⟩
  · have := heap_alloc_new (w.alloc (.cells (bv (List.replicate (n * 64) 0)).toArray 5)) (.cells #[.slice (some ⟨w.heap.size, 0, none⟩) (n * 64) (n * 64), .slice none 0 0, .int .i64 (-1), .bool false] 65)
    rw [World.heap_alloc_size] at this
    exact this
  · rw [Nat.mul_comm 64 n]
    exact (World.ownsRow_lit (base := 0) (size := 1) w (bv (List.replicate (n * 64) 0)).toArray (n * 64) (Nat.zero_le _) (by simp only [maxLen]; omega) (by simp [bv_length])).alloc _
  · intro k hk
    rcases hk with rfl | hk | hk
    · omega
    · simp [Value.ownBlock] at hk; omega
    · simp [Value.ownBlock] at hk
theorem rnew_walk (w : World) (z : Int) (hz : -9223372036854775808 ≤ z ∧ z ≤ 9223372036854775807) :
    Calls Tryd.prog 9 #[.int .i64 z] w (RetNew 65 5 1 (64 * z.toNat) w.heap.size z w) := by
  by_cases h1 : 1 ≤ z
  · by_cases h2 : z ≤ 16384
    · obtain ⟨n, rfl⟩ := Int.eq_ofNat_of_zero_le (show 0 ≤ z by omega)
      exact rnew_in w n (by omega) (by omega)
    · have h2' : 16384 < z := by omega
      go_enter Tryd.func9, Tryd.ntmps9
      go_wp2
      go_ret2
      rw [RetNew, if_neg (by omega)]
      exact ⟨rfl, rfl⟩
  · have h1' : z < 1 := by omega
    go_enter Tryd.func9, Tryd.ntmps9
    go_wp2
    go_ret2
    rw [RetNew, if_neg (by omega)]
    exact ⟨rfl, rfl⟩
end Go.Proofs.YtggogenhakdhiaaDoor
end
section
set_option linter.unusedVariables false
set_option linter.unusedSimpArgs false
attribute [local go_sem ↓] Go.wp_at_zero Go.wp_at_succ
namespace Go.Proofs.YtggogenhakdhiaaDoor
open Go.RowKit

theorem alike_any (B n : Nat) (w : World) (col : Nat → Nat) (ga gr : Nat) (d : DS) (lg : Lg) (hS : Sys B n w col ga gr d lg) (hn : n ≤ 600) :
    Calls Tryd.prog 15 #[pv lg, rv lg] w (fun e w' => e = .returned (.bool true) ∧ Below w.heap.size w w') := by
  rcases lg with _ | ⟨gl, gm, s⟩
  · refine (alike_nil w none).mono ?_
    rintro e w' ⟨rfl, rfl⟩
    exact ⟨rfl, Below.refl _ _⟩
  · obtain ⟨v, hP⟩ := hS.P.L gl gm s rfl
    obtain ⟨v', hR⟩ := hS.R.L gl gm s rfl
    have hG := hS.G gl gm s rfl
    cases hd : s.down with
    | true =>
      refine (alike_broken w _ _ gm gr v' s hR.L hd).mono ?_
      rintro e w' ⟨rfl, rfl⟩
      exact ⟨rfl, Below.refl _ _⟩
    | false =>
      obtain ⟨sa, ta, hDa, -⟩ := hS.P.D
      obtain ⟨sr, tr, hDr, -⟩ := hS.R.D
      have h1 := length_usedOf s.recs
      have h2 := hG.used
      have h3 : halfOf n ≤ 300 := by unfold halfOf; omega
      exact alike_ok w _ _ gl gm ga gr n v v' sa ta sr tr s s d d hP.L hR.L ⟨rfl, rfl⟩ hd hDa hDr h2 (by omega) (fun r hr => by have := (hG.ld r hr).1; omega)
theorem trailOf_le (d : DS) (z : Int) (h : d.trail.length ≤ 1000000) : (trailOf d z).length ≤ 1000000 := by
  unfold trailOf
  repeat' split
  all_goals first
    | exact h
    | (rw [List.length_drop]; omega)
    | simp
set_option maxRecDepth 20000 in
theorem plays_dark (w : World) (z : Int) (A : Option Addr) (c : Nat) (l : List ActV) (h : ActsAt w w.heap.size A l) (hlc : l.length ≤ c) (hll : l.length ≤ 1000000000) (hw : wts l ≤ 1000000000000) (hd : 600 < z ∨ ¬ (l.length ≤ 100 ∧ wts l < 1048576)) :
    Calls Tryd.prog 6 #[.int .i64 z, .slice A l.length c] w (Tells w.heap.size (.bool true) w) := by
  have HL := light_walk w w.heap.size A c l h hlc hll hw
  by_cases hl : l.length ≤ 100 ∧ wts l < 1048576
  · have hz : 600 < z := by rcases hd with h0 | h0; exact h0; exact absurd hl h0
    rw [decide_eq_true hl] at HL
    clear hd
    go_enter Tryd.func6, Tryd.ntmps6
    go_wp2_with (go_at_call 29; go_must (refine HL.mono ?_; rintro e w1 ⟨rfl, rfl⟩))
    go_ret
    exact ⟨rfl, Below.refl _ _⟩
  · rw [decide_eq_false hl] at HL
    clear hd
    go_enter Tryd.func6, Tryd.ntmps6
    go_wp2_with (go_at_call 29; go_must (refine HL.mono ?_; rintro e w1 ⟨rfl, rfl⟩))
    go_ret
    exact ⟨rfl, Below.refl _ _⟩
set_option maxRecDepth 20000 in
theorem plays_none (w : World) (z : Int) (hz : -9223372036854775808 ≤ z ∧ z < 1) (A : Option Addr) (c : Nat) (l : List ActV) (h : ActsAt w w.heap.size A l) (hlc : l.length ≤ c) (hl1 : l.length ≤ 100) (hw : wts l < 1048576) :
    Calls Tryd.prog 6 #[.int .i64 z, .slice A l.length c] w (Tells w.heap.size (.bool true) w) := by
  have HL := light_walk w w.heap.size A c l h hlc (by omega) (by omega)
  rw [decide_eq_true (show l.length ≤ 100 ∧ wts l < 1048576 from ⟨hl1, hw⟩)] at HL
  have hz6 : ¬ 600 < z := by omega
  have H1 := new_walk w z (by omega)
  have H2 := rnew_walk w z (by omega)
  have hzn : ¬ (1 ≤ z ∧ z ≤ 16384) := by omega
  go_enter Tryd.func6, Tryd.ntmps6
  go_wp2_with (first
    | (go_at_call 9; go_must (refine H2.mono ?_; intro e w1 hR; rw [RetNew, if_neg hzn] at hR; obtain ⟨rfl, rfl⟩ := hR))
    | (go_at_call 8; go_must (refine H1.mono ?_; intro e w1 hR; rw [RetNew, if_neg hzn] at hR; obtain ⟨rfl, rfl⟩ := hR))
    | (go_at_call 29; go_must (refine HL.mono ?_; rintro e w1 ⟨rfl, rfl⟩)))
  go_ret
  exact ⟨rfl, Below.refl _ _⟩
set_option maxHeartbeats 8000000 in
set_option maxRecDepth 20000 in
theorem plays_main (w : World) (n : Nat) (hn : 1 ≤ n ∧ n ≤ 600) (A : Option Addr) (c : Nat) (l : List ActV) (h : ActsAt w w.heap.size A l) (hlc : l.length ≤ c) (hl1 : l.length ≤ 100) (hw : wts l < 1048576) (hz : ∀ a ∈ l, a.n ≤ 9223372036854775807) (ht : TabAt w) (htb : 0 < w.heap.size) :
    Calls Tryd.prog 6 #[.int .i64 n, .slice A l.length c] w (Tells w.heap.size (.bool true) w) := by
  have HL := light_walk w w.heap.size A c l h hlc (by omega) (by omega)
  rw [decide_eq_true (show l.length ≤ 100 ∧ wts l < 1048576 from ⟨hl1, hw⟩)] at HL
  have H1 := new_in w n hn.1 (by omega)
  have hnz : ¬ (600 : Int) < (n : Int) := by omega
  go_enter Tryd.func6, Tryd.ntmps6
  go_upto_region 4 with (first
    | (go_at_call 8; go_must (refine H1.mono ?_; intro e w1 hR; rw [RetNew, if_pos (by omega)] at hR; obtain ⟨ga, sa, ta, rfl, hDa, hFa, hB1⟩ := hR))
    | (go_at_call 29; go_must (refine HL.mono ?_; rintro e w1 ⟨rfl, rfl⟩)))
  have H2 := rnew_in w1 n hn.1 (by omega)
  go_upto_region 11 with (go_at_call 9; go_must (refine H2.mono ?_; intro e w2 hR; rw [RetNew, if_pos (by omega)] at hR; obtain ⟨gr, sr, tr, rfl, hDr, hFr, hB2⟩ := hR))
  simp only [Int.toNat_natCast] at hDa hDr
  have hz1 := hB1.size
  have hz2 := hB2.size
  have hB02 : Below w.heap.size w w2 := hB1.trans (hB2.mono hz1)
  have hS0 : Sys w.heap.size n w2 (dye w1 (dye w (fun _ => 0) 1) 2) ga gr (zeroDS n) none :=
    ⟨PS.none (((In.new (col := fun _ => 0) (i := 1) hDa hFa).recol (fun k hk => dye_old hk)).below hB2), RS.none (In.new hDr hFr), fun _ _ _ e => (by cases e), fun k hk => by rw [dye_old (by omega), dye_old hk], by omega⟩
  clear H1 H2 HL hDa hDr hFa hFr hB1 hB2
  go_wp2
  go_loopw [9, 10, 11] (fun va vb i wr => ∃ j : Nat, j ≤ l.length ∧ i = .int .i64 j ∧ ∃ lg d col, va = pv lg ∧ vb = rv lg ∧ Sys w.heap.size n wr col ga gr d lg ∧ Below w.heap.size w wr ∧ 16 * d.trail.length ≤ 6000 * j + wts (l.take j)) (fun _ _ i _ => l.length - (intOf i).toNat)
  case atStart => exact ⟨0, by omega, rfl, none, _, _, rfl, rfl, hS0, hB02, by simp [zeroDS]⟩
  case round =>
    clear hS0 hB02 hz1 hz2
    obtain ⟨j, hj, rfl, lg, d, col, rfl, rfl, hS, hBr, htr⟩ := hrel
    have hzr := hBr.size
    by_cases hlt : j < l.length
    · have hltz : (j : Int) < (l.length : Int) := by omega
      obtain ⟨g, o, RA, rc, BA, bc, hA, hgB, y0, y1, y2, y3, hR, hrc, hB⟩ := h j hlt
      subst hA
      have hwt := wts_take l j hlt
      have hwl := wts_le l (j + 1)
      have hzj := hz l[j] (List.getElem_mem _)
      generalize l[j] = a at *
      have hwa : wt a.recs < 1048576 := by omega
      have hral : a.recs.length ≤ wt a.recs ∧ ∀ r ∈ a.recs, r.2.length ≤ wt a.recs := by
        have : ∀ l' : List (Int × List UInt8), l'.length ≤ wt l' ∧ ∀ r ∈ l', r.2.length ≤ wt l' := by
          intro l'
          induction l' with
          | nil => exact ⟨Nat.zero_le _, fun r hr => by cases hr⟩
          | cons x l' ih =>
            have hx : wt (x :: l') = (64 + x.2.length) + wt l' := by unfold wt; rw [List.map_cons, List.sum_cons]
            refine ⟨by rw [hx, List.length_cons]; omega, fun r hr => ?_⟩
            rw [hx]
            rcases List.mem_cons.1 hr with rfl | hr
            · omega
            · have := ih.2 r hr; omega
        exact this a.recs
      have z0 := cell_below hBr y0
      have z1 := cell_below hBr y1
      have z2 := cell_below hBr y2
      have z3 := cell_below hBr y3
      have HO := one_any w.heap.size n wr col ga gr d lg hS a RA rc BA bc (hR.low hBr) hrc (by
        have h64 : 64 * a.recs.length ≤ wt a.recs := by
          have : ∀ l' : List (Int × List UInt8), 64 * l'.length ≤ wt l' := by
            intro l'
            induction l' with
            | nil => exact Nat.zero_le _
            | cons x l' ih => unfold wt at *; rw [List.map_cons, List.sum_cons, List.length_cons]; omega
          exact this a.recs
        omega) (fun r hr => by have := hral.2 r hr; omega) (hB.below hBr) hzj (ht.below hBr) htb hn.2 (by omega)
      generalize pv lg = pl at *
      generalize rv lg = rl at *
      go_upto_region 16 with (go_at_call 30; go_must (refine HO.mono ?_; rintro e w1 ⟨lg1, d1, col1, rfl, hS1, hB1, ht1⟩))
      have hz1 := hB1.size
      have hd1 : Below w1.heap.size w1 w1.drew := below_drew (Below.refl _ _)
      obtain ⟨sa1, ta1, hDa, -⟩ := hS1.P.D
      obtain ⟨sr1, tr1, hDr, -⟩ := hS1.R.D
      have c0 := hDr.c0
      have c3 := hDr.c3
      obtain ⟨R, cr, hvr⟩ := hDr.sv
      subst hvr
      have hbR : Bys w1 R (64 * n) d1.img := Bys.own hDr.sec
      have hil := hDr.len
      have htl : d1.trail.length ≤ 1000000 := by omega
      have hAl := alike_any _ n w1.drew col1 ga gr d1 lg1 (hS1.below (col' := col1) hd1 (fun _ _ => rfl)) hn.2
      have hI : ∀ x, Below w1.heap.size w1 x → Calls Tryd.prog 16 #[.pointer (some ⟨ga, 0, none⟩)] x (RetBys x.heap.size 5 d1.img x) := fun x hx => image_walk x ga n sa1 ta1 d1 (hDa.below hx)
      have hT : ∀ x, Below w1.heap.size w1 x → Calls Tryd.prog 32 #[.pointer (some ⟨ga, 0, none⟩), .int .i64 0] x (RetInts x.heap.size (trailOf d1 0) x) := fun x hx => trail_walk x ga n sa1 ta1 d1 0 (hDa.below hx) htl
      have hRT : ∀ x, Below w1.heap.size w1 x → Calls Tryd.prog 33 #[.pointer (some ⟨gr, 0, none⟩), .int .i64 0] x (RetInts x.heap.size (trailOf d1 0) x) := fun x hx => rtrail_walk x gr n _ tr1 d1 0 (hDr.below hx) htl
      have hDn : ∀ x, Below w1.heap.size w1 x → Calls Tryd.prog 27 #[.pointer (some ⟨ga, 0, none⟩)] x (Says (.bool d1.down) x) := fun x hx => down_walk x ga n sa1 ta1 d1 (hDa.below hx)
      have hcv : ∀ x A k (hx : Bys x A (64 * n) d1.img), (convert 22 9 (.slice A (64 * n) k)).run Tryd.prog x = .ok (.string (str d1.img)) x := fun x A k hx => hx.string (P := Tryd.prog) Tryd.underlying22 Tryd.underlying5 Tryd.underlying9 k
      have htrl : (trailOf d1 0).length ≤ 1000000 := trailOf_le d1 0 htl
      have hne : (d1.down != d1.down) = false := by simp
      clear hDa hDr HO hR hB h hS hwl hral hwa htl z0 z1 z2 z3 y0 y1 y2 y3 hzj
      generalize trailOf d1 0 = tl at *
      generalize hdi : d1.img = im at *
      generalize hdd : d1.down = dn at *
      clear hdi hdd
      replace hil := Go.Lib.hid hil
      replace hwt := Go.Lib.hid hwt
      generalize hpl1 : pv lg1 = pl1 at *
      generalize hrl1 : rv lg1 = rl1 at *
      replace hpl1 := Go.Lib.hid hpl1
      replace hrl1 := Go.Lib.hid hrl1
      have x0 := cell_below hd1 c0
      have x3 := cell_below hd1 c3
      go_region_held_law (fun w' => w'.cell? ⟨gr, 0, none⟩ = some (.slice R (64 * n) cr) ∧ w'.cell? ⟨gr, 3, none⟩ = some (.bool dn)) (first | exact ⟨q0, q3⟩ | exact ⟨x0, x3⟩ | go_keep) ((first
        | (go_at_call 27; (with_reducible refine ND.mono ?_); rintro e w9 ⟨rfl, rfl⟩)
        | (go_at_call 31; (with_reducible refine (sameInts_walk w6 A5 A6 tl.length tl.length k5 k6 tl tl hv5 hv6 (by omega) (by omega)).mono ?_); rw [decide_eq_true rfl]; rintro e w7 ⟨rfl, hB7⟩; have hb7 : Below w1.heap.size w1 w7 := hb6.trans (hB7.mono hb6.size); have q0 := cell_below hb7 c0; have q3 := cell_below hb7 c3; have ND := hDn w7 hb7)
        | (go_at_call 33; (with_reducible refine NR.mono ?_); rintro e w6 ⟨A6, k6, rfl, hown6, hB6⟩; have hb6 : Below w1.heap.size w1 w6 := hb5.trans (hB6.mono hb5.size); have q0 := cell_below hb6 c0; have q3 := cell_below hb6 c3; have hv5 := (Rdv.of_own hown5).below hB6; have hv6 := Rdv.of_own hown6)
        | (go_at_call 32; (with_reducible refine NT.mono ?_); rintro e w5 ⟨A5, k5, rfl, hown5, hB5⟩; have hb5 : Below w1.heap.size w1 w5 := hb4.trans (hB5.mono hb4.size); have q0 := cell_below hb5 c0; have q3 := cell_below hb5 c3; have NR := hRT w5 hb5)
        | (go_at_call 16; (with_reducible refine NI.mono ?_); intro e w4 hR; obtain ⟨A4, c4, rfl, hown4, hB4⟩ := hR.len (show im.length = 64 * n from hil.out); have hb4 : Below w1.heap.size w1 w4 := hb3.trans (hB4.mono hb3.size); have q0 := cell_below hb4 c0; have q3 := cell_below hb4 c3; have cv1 := hcv w4 _ c4 (Bys.own hown4); have cv2 := hcv w4 _ cr (hbR.below hb4); have NT := hT w4 hb4)
        | (go_at_call 15; (with_reducible refine hAl.mono ?_); rintro e w3 ⟨rfl, hB3⟩; have hb3 : Below w1.heap.size w1 w3 := hd1.trans (hB3.mono hd1.size); have q0 := cell_below hb3 c0; have q3 := cell_below hb3 c3; have cv0 := hcv w3 _ cr (hbR.below hb3); have NI := hI w3 hb3)))
      all_goals
        go_wp2
        go_roundw
        case rel => exact ⟨j + 1, hlt, by go_num, lg1, d1, col1, hpl1.out.symm, hrl1.out.symm, hS1.below (col' := col1) hb7 (fun _ _ => rfl), (hBr.trans hB1).trans (hb7.mono (by omega)), by rw [hwt.out]; omega⟩
        case measure => simp [intOf]; omega
    · go_wp2
      go_ret
      exact ⟨rfl, hBr⟩
theorem plays_any (w : World) (z : Int) (hz : -9223372036854775808 ≤ z) (A : Option Addr) (c : Nat) (l : List ActV) (h : ActsAt w w.heap.size A l) (hlc : l.length ≤ c) (hll : l.length ≤ 1000000000) (hw : wts l ≤ 1000000000000) (hn : ∀ a ∈ l, a.n ≤ 9223372036854775807) (ht : TabAt w) (htb : 0 < w.heap.size) :
    Calls Tryd.prog 6 #[.int .i64 z, .slice A l.length c] w (Tells w.heap.size (.bool true) w) := by
  by_cases hd : 600 < z ∨ ¬ (l.length ≤ 100 ∧ wts l < 1048576)
  · exact plays_dark w z A c l h hlc hll hw hd
  · have hd1 : z ≤ 600 ∧ (l.length ≤ 100 ∧ wts l < 1048576) := by
      refine ⟨?_, ?_⟩
      · by_cases h6 : 600 < z
        · exact absurd (.inl h6) hd
        · omega
      · exact Classical.byContradiction fun h6 => hd (.inr h6)
    by_cases h1 : 1 ≤ z
    · obtain ⟨n, rfl⟩ := Int.eq_ofNat_of_zero_le (show 0 ≤ z by omega)
      exact plays_main w n (by omega) A c l h hlc hd1.2.1 hd1.2.2 hn ht htb
    · exact plays_none w z (by omega) A c l h hlc hd1.2.1 hd1.2.2
end Go.Proofs.YtggogenhakdhiaaDoor
end
section
set_option linter.unusedVariables false
set_option linter.unusedSimpArgs false
namespace Go.Proofs.YtggogenhakdhiaaDoor.lawWalPlays
open Go.ChangeShapes Go.WideShapes Go.ChangeAt Go.RowKit

set_option maxRecDepth 100000 in
theorem contract (H : Type) (enc : TypeId × Value → H) (W : World) (base : Nat) (args : Array Value) (ds gs : List (DataW H)) (before : List MemPlace)
    (hval : ∀ (j : Nat) t v, Tryd.f6.params[j]? = some t → args[j]? = some v → Value.okWide Tryd.prog W .any base t v)
    (hW : DataW.Whole enc Tryd.prog Tryd.f6.params.toList Rows.walPlaysSpec.vars false W args.toList ds gs before)
    (hk : Rows.uptoSmall H (ds ++ gs) = true)
    (hsz : (DataW.weightsEach Tryd.prog (Tryd.f6.params.toList ++ []) (ds ++ gs)).all (· ≤ reachBytes) = true)
    (hL : laidMetH Tryd.prog Rows.walPlaysUptoRow.laid W) :
    Calls Tryd.prog 6 args W fun e W' => ∃ v, e = .returned v ∧ Rows.walPlaysSpec.post enc Tryd.prog Tryd.f6 false true false false W args v W' := by
  have hW' := hW
  obtain ⟨p, q, hA0, hV, _, _, _⟩ := hW
  have hA : DataW.TrodAll enc Tryd.prog W 0 (fun _ => true) true Tryd.f6.params.toList args.toList ds p := hA0
  rw [Tryd.params6] at hA hval hsz
  obtain ⟨v0, vs0, d0, ds0, p0, q0, hargs0, rfl, _, h0, r0⟩ := trodAll_cons hA
  obtain ⟨v1, vs1, d1, ds1, p1, q1, hargs1, rfl, _, h1, r1⟩ := trodAll_cons r0
  obtain ⟨rfl, rfl, _⟩ := trodAll_nil r1
  obtain rfl : args = #[v0, v1] := by cases args; simp_all
  obtain ⟨rfl, _⟩ := trodVars_none hV
  obtain ⟨z0, rfl, rfl, _, hz0⟩ := open_int Tryd.underlying3 (hval 0 3 v0 rfl rfl) h0
  have hz0 : -9223372036854775808 ≤ z0 ∧ z0 ≤ 9223372036854775807 := by
    simpa [Lit.wf, IntKind.min, IntKind.max, IntKind.signed, IntKind.bits] using hz0
  obtain ⟨A1, c1, l1, rfl, hlc1, hm1, hl1, hn1, hw1, hb1⟩ := acts_in (hval 1 56 v1 rfl rfl) h1
  have hbb : Rows.uptoBulk d1 ≤ 1048576 := by
    have : Rows.uptoBulkAll (([_, d1] : List (DataW H)) ++ []) ≤ 1048576 := of_decide_eq_true hk
    simp only [List.append_nil, Rows.uptoBulkAll] at this
    omega
  have hT := tab_of_laid hL
  have htb := World.block_lt_of_cell? W _ (hT 0 (by omega))
  refine (plays_any W z0 hz0.1 A1 c1 l1 hl1 hlc1 (by omega) (by omega) (fun a ha => (hn1 a ha).1) hT htb).mono fun e W' h => ?_
  refine law_post hW' ?_ rfl rfl rfl h
  rw [Tryd.params6]
  intro t ht
  simp only [List.mem_cons, List.not_mem_nil, or_false] at ht
  rcases ht with rfl | rfl <;> exact ⟨by kernel_rfl, of_decide_eq_true (by kernel_rfl)⟩

theorem reads (os : Os) {H : Type} (enc : TypeId × Value → H) : ∃ places, DataW.whole enc Tryd.prog ((laidWorld os).forCall (fun _ _ => 0) ⟨#[], #[Value.int .i64 0, .slice none 0 0], []⟩).memory Tryd.f6.params.toList Rows.walPlaysSpec.vars false #[Value.int .i64 0, .slice none 0 0].toList 8 = some ([.lit (.int .i64 0), .nil], [], places) :=
  ⟨[], by kernel_rfl⟩

set_option maxRecDepth 100000 in
theorem lifted (os : Os) (started : os.Started) (H : Type) (enc : TypeId × Value → H) (F : Stop.Interp) :
    ReturnsInHanded {} Tryd.checked os 6 .any ((Rows.OpenSpec.upto Rows.walPlaysSpec).preRow enc Tryd.prog Tryd.f6 Rows.walPlaysUptoRow.domain false Rows.walPlaysUptoRow.laid) (((Rows.OpenSpec.upto Rows.walPlaysSpec).at F).post enc Tryd.prog Tryd.f6 false true false false) := by
  obtain ⟨places, hx⟩ := reads os enc
  refine returnsInHanded_of_row (C := Tryd.checked) (s := Rows.OpenSpec.upto Rows.walPlaysSpec) own_knob started (by kernel_rfl) Tryd.func6
    (witness_row_at (enc := enc) (C := Tryd.checked) false (laidWorld os) #[Value.int .i64 0, .slice none 0 0] rfl (by kernel_rfl) (by kernel_rfl) (by kernel_rfl)
      (OpenSpec.preRow_of_cond 8 hx (by kernel_rfl) (fun k hk => by cases hk; kernel_rfl) (by kernel_rfl) (laid_met os _))) ?_
  intro W base args ds gs before hval hW _ hcond hsz hL _ _
  exact contract H enc W base args ds gs before hval hW (hcond _ rfl) hsz hL

theorem said : Rows.WalPlaysUptoSaid :=
  OpenClaim.holds_of_cond 6 Tryd.f6 rfl rfl rfl rfl rfl rfl rfl ⟨rfl, rfl, rfl, rfl, rfl⟩ rfl rfl rfl rfl rfl (by kernel_rfl) Tryd.func6 (by kernel_rfl)
    (of_decide_eq_true (by kernel_rfl)) (by unfold Func.isWrapper; first | (rw [if_pos (by decide +kernel)]; kernel_rfl) | (rw [if_neg (by decide +kernel)]; exact ⟨rfl, rfl⟩))
    (fun os started H enc _ F => by rw [OpenClaim.pre_eq_preRow]; exact lifted os started H enc F)

/-- No parameter wants a stand-in; the program's own looks are off: what the card asks. -/
theorem plain (f : FuncId) (fn : Func) (hf : Tryd.pinned.checked.prog.funcNamed "bursar/bursarlaw06.WalPlays" = some f) (hfn : Tryd.pinned.checked.prog.funcs[f]? = some fn) :
    false = Tryd.pinned.checked.prog.looks [] ∧ ∀ (j : Nat) t, fn.params[j]? = some t → Tryd.pinned.checked.prog.wantsStandIn t = false := by
  obtain rfl : f = 6 := Option.some.inj ((show Tryd.prog.funcNamed "bursar/bursarlaw06.WalPlays" = some 6 by kernel_rfl).symm.trans hf) |>.symm
  obtain rfl : fn = Tryd.f6 := (Option.some.inj (Tryd.func6.symm.trans hfn)).symm
  refine ⟨by kernel_rfl, fun j t ht => ?_⟩
  rw [Tryd.params6] at ht
  have hm := Array.mem_of_getElem? ht
  simp only [List.mem_toArray, List.mem_cons, List.not_mem_nil, or_false] at hm
  rcases hm with rfl | rfl
  · exact (show Tryd.prog.wantsStandIn 3 = false by kernel_rfl)
  · exact (show Tryd.prog.wantsStandIn 56 = false by kernel_rfl)

theorem card : Rows.WalPlaysUptoCardSaid :=
  Claim7.holds_tied_plain_at .later [] _ _ _ _ said (fun _ h => by cases h) (by kernel_rfl) (fun _ h => by cases h) walPlaysUpto_row_tie rfl ⟨rfl, rfl⟩ (by kernel_rfl) rfl plain (by kernel_rfl)
end Go.Proofs.YtggogenhakdhiaaDoor.lawWalPlays
end
