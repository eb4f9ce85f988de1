/- DiskPlays walked. -/
import Derived.Test.YtenfdankgjdfpaaDskSame
import Derived.Test.YtenfdankgjdfpaaDskSt
import Derived.Test.YtenfdankgjdfpaaDskRNew
import Derived.Test.YtenfdankgjdfpaaDskRWrite
import Derived.Test.YtenfdankgjdfpaaDskRRead
import Derived.Deep.DeepCutAuto
import Derived.Deep.CutBlock
set_option linter.unusedVariables false
set_option linter.unusedSimpArgs false
namespace Go.Proofs.Ytenfdankgjdfpaa
open Go.RowKit

theorem writeOf_trail {n j : Nat} {d : DS} {z : Int} {b : List UInt8} (h : d.trail.length ≤ j) : (writeOf n d z b).1.trail.length ≤ j + 1 := by
  unfold writeOf
  split
  · show d.trail.length ≤ _; omega
  · split
    · show d.trail.length ≤ _; omega
    · split
      · show d.trail.length ≤ _; omega
      · show (d.trail ++ [z]).length ≤ _
        rw [List.length_append]; simp; omega
theorem upd_trail {d : Nat → DS} {j k : Nat} {d' : DS} (htl : ∀ i, i < 2 → (d i).trail.length ≤ j) (h' : d'.trail.length ≤ j + 1) : ∀ i, i < 2 → (upd d k d' i).trail.length ≤ j + 1 := by
  intro i hi
  unfold upd
  split
  · exact h'
  · have := htl i hi; omega
theorem cell_chg {S : Nat → Prop} {w w' : World} (hc : Chg S w w') {a : Addr} {v : Value} (hv : w.cell? a = some v) (hn : ¬ S a.block) : w'.cell? a = some v :=
  (World.cell?_of_block (hc.block a.block (World.block_lt_of_cell? w a hv) hn)).trans hv
theorem In.step {TD TE sz m g n i : Nat} {w w' : World} {d : DS} {col : Nat → Nat} (h : In TD TE sz m w g n d col i) (hb : Below w.heap.size w w') (j : Nat) : In TD TE sz m w' g n d (dye w col j) i :=
  (In.recol h (fun k hk => dye_old hk)).chg (S := fun _ => False) (Chg.of_below hb) (fun _ hk => hk.elim)
set_option maxRecDepth 20000 in
theorem plays_out (w : World) (z : Int) (hz : -9223372036854775808 ≤ z ∧ z ≤ 9223372036854775807) (A : Option Addr) (n c : Nat) (h : ¬ (1 ≤ z ∧ z ≤ 16384)) :
    Calls Try.prog 6 #[.int .i64 z, .slice A n c] w (Tells w.heap.size (.bool true) w) := by
  have H1 := new_walk w z hz
  go_enter Try.func6, Try.ntmps6
  go_wp2_with (first
    | (go_at_call 11; go_must (refine H1.mono ?_); intro e w1 hR; rw [RetNew, if_neg h] at hR; obtain ⟨rfl, rfl⟩ := hR)
    | (go_at_call 21; go_must (refine (rnew_walk w z hz).mono ?_); intro e w2 hR; rw [RetNew, if_neg h] at hR; obtain ⟨rfl, rfl⟩ := hR))
  go_ret
  exact ⟨rfl, Below.refl _ _⟩
set_option maxRecDepth 20000 in
theorem plays_big (w : World) (z : Int) (hz : -9223372036854775808 ≤ z ∧ z ≤ 9223372036854775807) (A : Option Addr) (n c : Nat) (h : 1 ≤ z ∧ z ≤ 16384) (hb : 64 < z ∨ 200 < n) :
    Calls Try.prog 6 #[.int .i64 z, .slice A n c] w (Tells w.heap.size (.bool true) w) := by
  have H1 := new_walk w z hz
  by_cases h64 : 64 < z
  · clear hb
    go_enter Try.func6, Try.ntmps6
    go_wp2_with (first
      | (go_at_call 11; go_must (refine H1.mono ?_); intro e w1 hR; rw [RetNew, if_pos h] at hR; obtain ⟨ga, sa, ta, rfl, hDa, hFa, hB1⟩ := hR)
      | (go_at_call 21; go_must (refine (rnew_walk w1 z hz).mono ?_); intro e w2 hR; rw [RetNew, if_pos h] at hR; obtain ⟨gr, sr, tr, rfl, hDr, hFr, hB2⟩ := hR))
    go_ret
    exact ⟨rfl, hB1.trans (hB2.mono hB1.size)⟩
  · have hn : 200 < n := by omega
    have hn2 : (200 : Int) < (n : Int) := by omega
    clear hb
    go_enter Try.func6, Try.ntmps6
    go_wp2_with (first
      | (go_at_call 11; go_must (refine H1.mono ?_); intro e w1 hR; rw [RetNew, if_pos h] at hR; obtain ⟨ga, sa, ta, rfl, hDa, hFa, hB1⟩ := hR)
      | (go_at_call 21; go_must (refine (rnew_walk w1 z hz).mono ?_); intro e w2 hR; rw [RetNew, if_pos h] at hR; obtain ⟨gr, sr, tr, rfl, hDr, hFr, hB2⟩ := hR))
    go_ret
    exact ⟨rfl, hB1.trans (hB2.mono hB1.size)⟩
set_option maxHeartbeats 40000000 in
set_option maxRecDepth 20000 in
theorem plays_main (w : World) (N : Nat) (hN : 1 ≤ N ∧ N ≤ 64) (A : Option Addr) (n c : Nat) (l : List OpV) (hl : OpsAt w A n l) (hn : n ≤ 200) (hlen : ∀ o ∈ l, o.b.length ≤ 140737488351232 ∧ o.n ≤ 9223372036854775807) :
    Calls Try.prog 6 #[.int .i64 N, .slice A n c] w (Tells w.heap.size (.bool true) w) := by
  have H1 := new_in w N (by omega) (by omega)
  go_enter Try.func6, Try.ntmps6
  go_upto_region 2 with (go_at_call 11; go_must (refine H1.mono ?_); intro e w1 hR; rw [RetNew, if_pos (by omega)] at hR; obtain ⟨ga, sa, ta, rfl, hDa, hFa, hB1⟩ := hR)
  have H2 := rnew_in w1 N (by omega) (by omega)
  go_upto_region 7 with (go_at_call 21; go_must (refine H2.mono ?_); intro e w2 hR; rw [RetNew, if_pos (by omega)] at hR; obtain ⟨gr, sr, tr, rfl, hDr, hFr, hB2⟩ := hR)
  have hz1 := hB1.size
  have hz2 := hB2.size
  simp only [Int.toNat_natCast] at hDa hDr
  have hDa2 := hDa.below hB2
  have H3 := clone_walk w2 ga N sa ta (zeroDS N) hDa2 (by simp [zeroDS])
  go_upto_region 8 with (go_at_call 22; go_must (refine H3.mono ?_); rintro e w3 ⟨gb, sb, tb, rfl, hDb, hFb, hB3⟩)
  have hz3 := hB3.size
  have hDr3 := hDr.below hB3
  have hB4 : Below w3.heap.size w3 (w3.alloc (.cells #[.pointer (some ⟨ga, 0, none⟩), .pointer (some ⟨gb, 0, none⟩)] 55)) := (Below.refl _ _).alloc (Nat.le_refl _) _
  have hx4 := heap_alloc_new w3 (.cells #[.pointer (some ⟨ga, 0, none⟩), .pointer (some ⟨gb, 0, none⟩)] 55)
  have hlt4 : w3.heap.size < (w3.alloc (.cells #[.pointer (some ⟨ga, 0, none⟩), .pointer (some ⟨gb, 0, none⟩)] 55)).heap.size := by simp
  obtain ⟨gx, hgx⟩ : ∃ x, x = w3.heap.size := ⟨_, rfl⟩
  rw [← hgx] at hx4 hlt4 ⊢
  have hgx1 : w3.heap.size ≤ gx := by omega
  clear hgx
  have i1 := ((((In.new hDa hFa (col := fun _ => 0) (i := 1)).step hB2 3).step hB3 2).step hB4 5)
  have r1 := (((In.new hDr hFr (col := dye w (fun _ => 0) 1) (i := 3)).step hB3 2).step hB4 5)
  have i2 := ((In.new hDb hFb (col := dye w1 (dye w (fun _ => 0) 1) 3) (i := 2)).step hB4 5)
  have hDr4 := hDr3.below hB4
  generalize w3.alloc (.cells #[.pointer (some ⟨ga, 0, none⟩), .pointer (some ⟨gb, 0, none⟩)] 55) = w4 at *
  have hz4 := hB4.size
  have H5 := rclone_walk w4 gr N sr tr (zeroDS N) hDr4 (by simp [zeroDS])
  go_upto_region 9 with (go_at_call 23; go_must (refine H5.mono ?_); rintro e w5 ⟨gs, ss, ts, rfl, hDs, hFs, hB5⟩)
  have hz5 := hB5.size
  have hB6 : Below w5.heap.size w5 (w5.alloc (.cells #[.pointer (some ⟨gr, 0, none⟩), .pointer (some ⟨gs, 0, none⟩)] 57)) := (Below.refl _ _).alloc (Nat.le_refl _) _
  have hx6 := heap_alloc_new w5 (.cells #[.pointer (some ⟨gr, 0, none⟩), .pointer (some ⟨gs, 0, none⟩)] 57)
  obtain ⟨gy, hgy⟩ : ∃ x, x = w5.heap.size := ⟨_, rfl⟩
  rw [← hgy] at hx6 ⊢
  have hgy1 : w5.heap.size ≤ gy := by omega
  clear hgy
  have j1 := (i1.step hB5 4).step hB6 6
  have j2 := (i2.step hB5 4).step hB6 6
  have s1 := (r1.step hB5 4).step hB6 6
  have s2 := (In.new hDs hFs (col := dye w3 (dye w2 (dye w1 (dye w (fun _ => 0) 1) 3) 2) 5) (i := 4)).step hB6 6
  have hx7 := (hB6.block gx (by omega)).trans ((hB5.block gx (by omega)).trans hx4)
  generalize w5.alloc (.cells #[.pointer (some ⟨gr, 0, none⟩), .pointer (some ⟨gs, 0, none⟩)] 57) = w6 at *
  have hz6 := hB6.size
  have hB06 : Below w.heap.size w w6 := ((((hB1.trans (hB2.mono hz1)).trans (hB3.mono (by omega))).trans (hB4.mono (by omega))).trans (hB5.mono (by omega))).trans (hB6.mono (by omega))
  have hDk : Disks w.heap.size gx gy N w6 (dye w5 (dye w4 (dye w3 (dye w2 (dye w1 (dye w (fun _ => 0) 1) 3) 2) 5) 4) 6) (upd (fun _ => gb) 0 ga) (upd (fun _ => gs) 0 gr) (fun _ => zeroDS N) (fun _ => zeroDS N) := by
    refine ⟨fun i hi => ?_, fun i hi => ?_, hx7, hx6, ?_, ?_, fun k hk => ?_, by omega⟩
    · rcases (show i = 0 ∨ i = 1 by omega) with rfl | rfl
      · exact j1
      · exact j2
    · rcases (show i = 0 ∨ i = 1 by omega) with rfl | rfl
      · exact s1
      · exact s2
    · rw [dye_old (by omega), dye_old (by omega), dye_new (by omega)]
    · rw [dye_new (by omega)]
    · rw [dye_old (by omega), dye_old (by omega), dye_old (by omega), dye_old (by omega), dye_old (by omega), dye_old (by omega)]
  generalize dye w5 (dye w4 (dye w3 (dye w2 (dye w1 (dye w (fun _ => 0) 1) 3) 2) 5) 4) 6 = col at *
  have hxk := hDk.xk (k := 1) (by omega)
  have hxk2 : w6.cell? ⟨gx, 1, none⟩ = some (.pointer (some ⟨gb, 0, none⟩)) := hxk
  clear hxk hx7 hx6 hx4 i1 i2 r1 j1 j2 s1 s2 hDa hDr hDa2 hDr3 hDr4 hDb hDs hFa hFb hFr hFs hB1 hB2 hB3 hB4 hB5 hB6 H1 H2 H3 H5
  go_upto_region 11 with fail
  have hst : ∃ col p r d, Disks w.heap.size gx gy N w6 col p r d d ∧ ∀ i, i < 2 → (d i).trail.length ≤ 0 := ⟨_, _, _, _, hDk, fun i hi => by simp [zeroDS]⟩
  clear hDk hxk2 hgx1 hgy1 hz1 hz2 hz3 hz4 hz5 hz6 hlt4
  go_wp2
  go_loopw [11] (fun i wr => ∃ j : Nat, j ≤ n ∧ i = .int .i64 j ∧ Below w.heap.size w wr ∧ ∃ col p r d, Disks w.heap.size gx gy N wr col p r d d ∧ ∀ i, i < 2 → (d i).trail.length ≤ j) (fun i _ => n - (intOf i).toNat)
  case atStart => exact ⟨0, by omega, rfl, hB06, hst⟩
  case round =>
    clear hst hB06
    obtain ⟨j, hj, rfl, hBr, col, p, r, d, hDk, htl⟩ := hrel
    have hzr := hBr.size
    by_cases hlt : j < n
    · have hll := hl.len
      obtain ⟨G, O, Ab, nb, cb, rfl, v0, v1, v2, v3, hbw, v4⟩ := hl.cell j l[j] (List.getElem?_eq_getElem (by omega))
      obtain ⟨hol, hon⟩ := hlen l[j] (List.getElem_mem _)
      generalize l[j] = o at *
      obtain ⟨ok, oa, on, ob, ot⟩ := o
      simp only at v0 v1 v2 v3 v4 hbw hol hon
      have y0 := cell_below hBr v0
      have y1 := cell_below hBr v1
      have y2 := cell_below hBr v2
      have y3 := cell_below hBr v3
      have y4 := cell_below hBr v4
      go_upto_if 73 with fail
      go_cut [12] from 63 to 227 (fun v wx => (∃ k : Nat, k < 2 ∧ v = .int .i64 k) ∧ wx = wr)
      case first =>
        cases ot
        · go_wp2_with fail
          go_meet
          exact ⟨⟨0, by omega, rfl⟩, rfl⟩
        · go_wp2_with fail
          go_meet
          exact ⟨⟨1, by omega, rfl⟩, rfl⟩
      case rest =>
        obtain ⟨⟨k, hk, rfl⟩, rfl⟩ := hcut
        go_upto_region 18 with fail
        have hBW : Below wc.heap.size wc (wc.alloc (.cells #[.int .i64 ok, .int .i64 oa, .int .i64 on, .slice Ab nb cb, .bool ot] 41)) := (Below.refl _ _).alloc (Nat.le_refl _) _
        have hO := heap_alloc_new wc (.cells #[.int .i64 ok, .int .i64 oa, .int .i64 on, .slice Ab nb cb, .bool ot] 41)
        obtain ⟨go, hgo⟩ : ∃ x, x = wc.heap.size := ⟨_, rfl⟩
        rw [← hgo] at hO ⊢
        have hgo1 : w.heap.size ≤ go := by omega
        have hSt : St w.heap.size gx gy go N w (wc.alloc (.cells #[.int .i64 ok, .int .i64 oa, .int .i64 on, .slice Ab nb cb, .bool ot] 41)) (dye wc col 8) p r d d #[.int .i64 ok, .int .i64 oa, .int .i64 on, .slice Ab nb cb, .bool ot] :=
          ⟨(hDk.recol (col' := dye wc col 8) (fun k hk => dye_old hk)).below hBW, dye_new (by omega), hO, hBr.trans (hBW.mono hzr)⟩
        generalize dye wc col 8 = col1 at *
        generalize wc.alloc (.cells #[.int .i64 ok, .int .i64 oa, .int .i64 on, .slice Ab nb cb, .bool ot] 41) = W1 at *
        have hbw1 := hbw.below hSt.b
        have hob0 := hbw
        clear hgo hO hBW hDk y0 y1 y2 y3 y4 v0 v1 v2 v3 v4 hBr hl hzr hlen hgo1 hbw
        have hkz : (0 : Int) ≤ (k : Int) := by omega
        have hk2 : (k : Int) < 2 := by omega
        have hki : IntKind.i64.wrap (1 - (k : Int)) = ((1 - k : Nat) : Int) := by rw [IntKind.wrap_i64]; omega
        have q0 := hSt.kind
        go_upto_block 2 with fail
        go_cut [14, 15, 16, 17, 18, 19, 20] from 63 to 227 (fun _ _ _ _ _ _ _ wx => (∃ col p r d, Disks w.heap.size gx gy N wx col p r d d ∧ (∀ i, i < 2 → (d i).trail.length ≤ j + 1)) ∧ Below w.heap.size w wx ∧ wx.cell? ⟨go, 2, none⟩ = some (.int .i64 on))
        case first =>
          obtain ⟨qx, qy, q1, q2, q3⟩ := hSt.cells hk
          obtain ⟨sP, tP, hdP, hfP⟩ := hSt.D.P k hk
          by_cases h0 : ok = 0
          · as_aux_lemma =>
              subst h0
              have h7 : ∀ j, W1.heap.size ≤ j → dye W1 col1 7 j = 7 := fun j hj => dye_new hj
              have hS7 := hSt.dye7 7
              generalize dye W1 col1 7 = col7 at *
              clear hdP hfP hSt
              have q3' : (W1.alloc (.cells #[] 5)).cell? ⟨go, 3, none⟩ = some (.slice Ab nb cb) := cell_below ((Below.refl _ _).alloc (Nat.le_refl _) _) q3
              go_upto_region 29 with (first
                | (at_builtin; refine wpList_append_bys (o := ⟨some 122, _, _, _, _, _⟩) W1 W1.heap.size rfl (.tmp 119) (.tmp 121) 39 5 rfl Try.underlying39 info_u8 _ 0 [] rfl (own_empty _ _ _ _ _ (Nat.le_refl _) (heap_alloc_new W1 _)) Ab nb cb ob rfl (hbw1.below ((Below.refl _ _).alloc (Nat.le_refl _) _)) ((Below.refl _ _).alloc (Nat.le_refl _) _) (by simp) (by have := hbw1.len; omega) ?_; intro v1 w1 hown1 hB1 hg1 hat1 hs1)
                | (at_builtin; refine wpList_append_bys (o := ⟨some 124, _, _, _, _, _⟩) W1 W1.heap.size rfl (.tmp 122) (.tmp 123) 39 5 rfl Try.underlying39 info_u8 _ (0 + nb) ([] ++ bv ob) rfl (hown1.alloc _) _ 1 1 [3] rfl (Bys.new w1 _ _ [3] rfl (by simp)) (hB1.alloc hs1 _) (by simp; omega) (by have := hbw1.len; omega) ?_; intro v2 w2 hown2 hB2 hg2 hat2 hs2))
              have hnb := hbw1.len
              rw [Nat.zero_add, List.nil_append, ← bv_append] at hown2
              obtain ⟨g7, c7, hv7, hg7, hg7l, hc7, -, hx7⟩ := own_some hown2 (by omega)
              subst hv7
              have hcap : (nb : Int) ≤ (c7 : Int) := by omega
              have hnz : (0 : Int) ≤ (nb : Int) := by omega
              have hg77 : col7 g7 = 7 := h7 g7 hg7
              have hS2 := (hS7.below hB2).drew
              have hown2d : w2.drew.ownsRow W1.heap.size 5 1 (.slice (some ⟨g7, 0, none⟩) (nb + 1) c7) (nb + 1) (bv (ob ++ [3])) := hown2
              have hby2 : Bys w2.drew (some ⟨g7, 0, none⟩) nb ob := by
                have h1 := (Bys.own hown2d).take nb (by omega)
                rwa [List.take_left' hnb] at h1
              have hob2 : Bys w2.drew Ab nb ob := hbw1.below (hB2.trans (below_drew (Below.refl _ _)))
              obtain ⟨sP, tP, hdP, hfP⟩ := hS2.D.P k hk
              have htk := htl k hk
              have HP := write_walk w2.drew (p k) N sP tP (d k) oa (some ⟨g7, 0, none⟩) nb c7 ob hdP hby2 (by omega)
              have HR : ∀ w' sR tR, RDsk w' (r k) sR tR N (d k) → Bys w' Ab nb ob → Calls Try.prog 24 #[.pointer (some ⟨r k, 0, none⟩), .int .i64 oa, .slice Ab nb cb] w' (Acts 91 5 1 (64 * N) (.int .i64 (writeOf N (d k) oa ob).2) (r k) N sR tR (writeOf N (d k) oa ob).1 w') := fun w' sR tR h hb => rwrite_walk w' (r k) N sR tR (d k) oa Ab nb cb ob h hb (by omega)
              have hwt : (writeOf N (d k) oa ob).1.trail.length ≤ j + 1 := writeOf_trail htk
              generalize (writeOf N (d k) oa ob).1 = dn at *
              generalize (writeOf N (d k) oa ob).2 = rc at *
              obtain ⟨t0, t1, t2, t3, t4⟩ := hS2.cells hk
              have hg7d : g7 < w2.drew.heap.size := hg7l
              clear hown1 hB1 hg1 hat1 hs1 hown2 hB2 hg2 hat2 hs2 hx7 hS7 qx qy q1 q2 q3 q3' hbw1 hki
              go_upto_region 29 with fail
              go_cut [156] from 63 to 227 (fun v wx => v = .bool false ∧ (∃ col4, col4 g7 = 7 ∧ St w.heap.size gx gy go N w wx col4 p r (upd d k dn) (upd d k dn) #[.int .i64 0, .int .i64 oa, .int .i64 on, .slice Ab nb cb, .bool ot]) ∧ AnyO 5 wx W1.heap.size (nb + 1) (.slice (some ⟨g7, 0, none⟩) (nb + 1) c7))
              case first =>
                as_aux_lemma =>
                  go_region_held_law (fun w' => w'.cell? ⟨gx, k, none⟩ = some (.pointer (some ⟨p k, 0, none⟩)) ∧ w'.cell? ⟨gy, k, none⟩ = some (.pointer (some ⟨r k, 0, none⟩)) ∧ w'.cell? ⟨go, 1, none⟩ = some (.int .i64 oa) ∧ w'.cell? ⟨go, 2, none⟩ = some (.int .i64 on) ∧ w'.cell? ⟨go, 3, none⟩ = some (.slice Ab nb cb)) (first | go_keep | exact ⟨vx, vy, v1, v2, v3⟩ | exact ⟨ux, uy, u1, u2, u3⟩) ((first
                    | (go_at_call 24; refine ((show ∀ w' sR tR, RDsk w' (r k) sR tR N (d k) → Bys w' Ab nb ob → Calls Try.prog 24 #[.pointer (some ⟨r k, 0, none⟩), .int .i64 oa, .slice Ab nb cb] w' (Acts 91 5 1 (64 * N) (.int .i64 rc) (r k) N sR tR dn w') from HR) w3 sR tR hdR hob3).mono ?_; rintro e w4 ⟨rfl, t4', hd4, hC4, ht4⟩; obtain ⟨col4, hk4, hS4⟩ := hS3.actR hk hdR hfR hd4 hC4 ht4; obtain ⟨vx, vy, v1, v2, v3⟩ := hS4.cells hk; have hown4 : w4.ownsRow W1.heap.size 5 1 (.slice (some ⟨g7, 0, none⟩) (nb + 1) c7) (nb + 1) (bv (ob ++ [3])) := own_at hown3 (fun j hj => by cases hj; exact hC4.block g7 hg73 (fun hs => by have := hfR g7 hs; rw [hk3 g7 hg7d] at this; omega)); have hby4 : Bys w4 (some ⟨g7, 0, none⟩) nb ob := by { have h1 := (Bys.own hown4).take nb (by omega); rwa [List.take_left' hnb] at h1 }; have hob4 : Bys w4 Ab nb ob := hob0.below hS4.b; have s3 := hby4.string (P := Try.prog) Try.underlying39 Try.underlying5 Try.underlying9 c7; have s4 := hob4.string (P := Try.prog) Try.underlying39 Try.underlying5 Try.underlying9 cb)
                    | (go_at_call 13; refine HP.mono ?_; rintro e w3 ⟨rfl, t3', hd3, hC3, ht3⟩; obtain ⟨col3, hk3, hS3⟩ := hS2.actP hk hdP hfP hd3 hC3 ht3; obtain ⟨ux, uy, u1, u2, u3⟩ := hS3.cells hk; obtain ⟨sR, tR, hdR, hfR⟩ := hS3.D.R k hk; have hg73 : g7 < w3.heap.size := Nat.lt_of_lt_of_le hg7d hC3.size; have hown3 : w3.ownsRow W1.heap.size 5 1 (.slice (some ⟨g7, 0, none⟩) (nb + 1) c7) (nb + 1) (bv (ob ++ [3])) := own_at hown2d (fun j hj => by cases hj; exact hC3.block g7 hg7d (fun hs => by have := hfP g7 hs; omega)); have hob3 : Bys w3 Ab nb ob := hob0.below hS3.b)))
                  all_goals (go_wp2_with fail; go_meet; exact ⟨rfl, ⟨col4, (hk4 g7 hg73).trans ((hk3 g7 hg7d).trans hg77), hS4⟩, AnyO.of hown4 (Nat.le_refl _)⟩)
              case rest =>
                as_aux_lemma =>
                  obtain ⟨rfl, ⟨col4, hc47, hS4⟩, hany⟩ := hcut
                  clear HP HR hdP hfP hS2 hown2d hby2 hob2 t0 t1 t2 t3 t4 hg7d hg77 h7
                  go_wp2
                  go_loopw [15] (fun i wq => ∃ m : Nat, m ≤ nb + 1 ∧ i = .int .i64 m ∧ St w.heap.size gx gy go N w wq col4 p r (upd d k dn) (upd d k dn) #[.int .i64 0, .int .i64 oa, .int .i64 on, .slice Ab nb cb, .bool ot] ∧ AnyO 5 wq W1.heap.size (nb + 1) (.slice (some ⟨g7, 0, none⟩) (nb + 1) c7)) (fun i _ => nb + 1 - (intOf i).toNat)
                  case atStart => exact ⟨0, by omega, rfl, hS4, hany⟩
                  case round =>
                    clear hS4 hany
                    obtain ⟨m, hm, rfl, hSq, hany⟩ := hrel
                    by_cases hlm : m < nb + 1
                    · have hlm2 : (m : Int) < (nb : Int) + 1 := by omega
                      obtain ⟨g3, u, hge, hg0, hglt, hcell, hfz, hset, -⟩ := hany.at_ m hlm
                      cases hge
                      go_wp2
                      go_roundw
                      case rel => exact ⟨m + 1, hlm, by go_num, hSq.own ((Chg.refl (fun j => j = g7) _).setCell (p := ⟨g7, m, none⟩) rfl _) (fun j hj => by subst hj; exact hc47), hset _⟩
                      case measure => simp [intOf]; omega
                    · have hlm2 : ¬ (m : Int) < (nb : Int) + 1 := by omega
                      have v2 := (hSq.cells hk).2.2.2.1
                      go_wp2_with fail
                      go_meet
                      exact ⟨⟨_, _, _, _, hSq.D, upd_trail htl hwt⟩, hSq.b, v2⟩
          · by_cases h1 : ok = 1
            · as_aux_lemma =>
                subst h1
                have hdP' : PDsk W1.drew (p k) sP tP N (d k) := hdP.below (below_drew (Below.refl _ _))
                have hStd := hSt.drew
                clear hdP
                go_upto_region 36 with fail
                go_region_held_law (fun w' => w'.cell? ⟨gx, k, none⟩ = some (.pointer (some ⟨p k, 0, none⟩)) ∧ w'.cell? ⟨gy, k, none⟩ = some (.pointer (some ⟨r k, 0, none⟩)) ∧ w'.cell? ⟨go, 1, none⟩ = some (.int .i64 oa) ∧ w'.cell? ⟨go, 2, none⟩ = some (.int .i64 on)) (first | go_keep | exact ⟨ux, uy, u1, u2⟩)
                  ((go_at_call 12; refine (arm_walk _ (p k) N sP tP (d k) on hon hdP').mono ?_; rintro e w3 ⟨rfl, t3, hd3, hC3, ht3⟩; obtain ⟨col3, -, hS3⟩ := hStd.actP hk hdP' hfP hd3 hC3 ht3; obtain ⟨ux, uy, u1, u2, u3⟩ := hS3.cells hk))
                obtain ⟨sR, tR, hdR, hfR⟩ := hS3.D.R k hk
                have hdR' : RDsk w3.drew (r k) sR tR N (d k) := hdR.below (below_drew (Below.refl _ _))
                have hS3d := hS3.drew
                clear hdR hd3 hC3 ht3 hSt hStd qx qy q1 q2 q3 hfP hdP'
                go_upto_region 37 with fail
                go_region_held_law (fun w' => w'.cell? ⟨gx, k, none⟩ = some (.pointer (some ⟨p k, 0, none⟩)) ∧ w'.cell? ⟨gy, k, none⟩ = some (.pointer (some ⟨r k, 0, none⟩)) ∧ w'.cell? ⟨go, 1, none⟩ = some (.int .i64 oa) ∧ w'.cell? ⟨go, 2, none⟩ = some (.int .i64 on)) (first | go_keep | exact ⟨vx, vy, v1, v2⟩)
                  ((go_at_call 25; refine (rarm_walk _ (r k) N sR tR (d k) on hon hdR').mono ?_; rintro e w4 ⟨rfl, t4, hd4, hC4, ht4⟩; obtain ⟨col4, -, hS4⟩ := hS3d.actR hk hdR' hfR hd4 hC4 ht4; obtain ⟨vx, vy, v1, v2, v3⟩ := hS4.cells hk))
                go_wp2_with fail
                go_meet
                exact ⟨⟨_, _, _, _, hS4.D, upd_trail htl (by show (d k).trail.length ≤ j + 1; have := htl k hk; omega)⟩, hS4.b, v2⟩
            · by_cases h2 : ok = 2
              · as_aux_lemma =>
                  subst h2
                  have H3 := mend_walk W1 (p k) N sP tP (d k) hdP
                  go_upto_region 40 with (go_at_call 18; go_must (refine H3.mono ?_); rintro e w3 ⟨rfl, t3, hd3, hC3, ht3⟩)
                  obtain ⟨col3, -, hS3⟩ := hSt.actP hk hdP hfP hd3 hC3 ht3
                  obtain ⟨sR, tR, hdR, hfR⟩ := hS3.D.R k hk
                  obtain ⟨ux, uy, u1, u2, u3⟩ := hS3.cells hk
                  have H4 := rmend_walk w3 (r k) N sR tR (d k) hdR
                  clear H3 hd3 hC3 ht3 hSt qx qy q1 q2 q3 hdP hfP
                  go_wp2_with (go_at_call 26; go_must (refine H4.mono ?_); rintro e w4 ⟨rfl, t4, hd4, hC4, ht4⟩)
                  obtain ⟨col4, -, hS4⟩ := hS3.actR hk hdR hfR hd4 hC4 ht4
                  go_meet
                  exact ⟨⟨_, _, _, _, hS4.D, upd_trail htl (by show (d k).trail.length ≤ j + 1; have := htl k hk; omega)⟩, hS4.b, (hS4.cells hk).2.2.2.1⟩
              · by_cases h3 : ok = 3
                · as_aux_lemma =>
                    subst h3
                    obtain ⟨m, hm⟩ : ∃ x, x = 1 - k := ⟨_, rfl⟩
                    have hm2 : m < 2 := by omega
                    have hkm : IntKind.i64.wrap (1 - (k : Int)) = (m : Int) := by rw [hki]; omega
                    have hmz : (0 : Int) ≤ (m : Int) := by omega
                    have hmi : (m : Int) < 2 := by omega
                    clear hm hki
                    obtain ⟨sM, tM, hdM, -⟩ := hSt.D.P m hm2
                    have qm := hSt.D.xk hm2
                    have htm := htl m hm2
                    have H3 := clone_walk W1 (p m) N sM tM (d m) hdM (by omega)
                    have hx0 := hSt.D.x
                    have hxl := hSt.D.xlt
                    go_upto_region 43 with (go_at_call 22; go_must (refine H3.mono ?_); rintro e w3 ⟨gn, sn, tn, rfl, hdn, hFn, hB3⟩; have f3 := frozen_of_row w3 gx k _ _ ((hB3.block gx hxl).trans hx0); have k3 := cell_below hB3 qx)
                    obtain ⟨col3, hS3⟩ := hSt.newP hk hdn hFn hB3
                    generalize w3.setCell ⟨gx, k, none⟩ (.pointer (some ⟨gn, 0, none⟩)) = w4 at *
                    clear H3 hdn hFn hB3 hx0 hxl hSt qx qy q1 q2 q3 hfP hdP hdM qm f3 k3
                    obtain ⟨sR, tR, hdR, -⟩ := hS3.D.R m hm2
                    have um := hS3.D.yk hm2
                    have ux := hS3.D.yk hk
                    have H4 := rclone_walk w4 (r m) N sR tR (d m) hdR (by omega)
                    have hy0 := hS3.D.y
                    have hyl := hS3.D.ylt
                    go_upto_region 44 with (go_at_call 23; go_must (refine H4.mono ?_); rintro e w5 ⟨gm, sm, tm, rfl, hdm, hFm, hB5⟩; have f5 := frozen_of_row w5 gy k _ _ ((hB5.block gy hyl).trans hy0); have k5 := cell_below hB5 ux)
                    obtain ⟨col5, hS5⟩ := hS3.newR hk hdm hFm hB5
                    generalize w5.setCell ⟨gy, k, none⟩ (.pointer (some ⟨gm, 0, none⟩)) = w6 at *
                    clear H4 hdm hFm hB5 hy0 hyl hS3 hdR um ux f5 k5
                    obtain ⟨vx, vy, v1, v2, v3⟩ := hS5.cells hk
                    rw [upd_same] at vx
                    go_wp2_with fail
                    go_meet
                    exact ⟨⟨_, _, _, _, hS5.D, upd_trail htl (by omega)⟩, hS5.b, v2⟩
                · as_aux_lemma =>
                    have h00 : (ok == 0) = false := by simpa using h0
                    have h7 : ∀ j, W1.heap.size ≤ j → dye W1 col1 7 j = 7 := fun j hj => dye_new hj
                    have hS7 := hSt.dye7 7
                    generalize dye W1 col1 7 = col7 at *
                    clear hdP hfP hSt
                    obtain ⟨sP, tP, hdP, -⟩ := hS7.D.P k hk
                    have hdP' : PDsk W1.drew (p k) sP tP N (d k) := hdP.below (below_drew (Below.refl _ _))
                    have hSd := hS7.drew
                    have H3 := read_walk W1.drew (p k) N sP tP (d k) oa hdP'
                    have H4 : ∀ w' sR tR, RDsk w' (r k) sR tR N (d k) → Calls Try.prog 28 #[.pointer (some ⟨r k, 0, none⟩), .int .i64 oa] w' (RetOpen w'.heap.size 5 (readOf N (d k) oa) w') := fun w' sR tR h => rread_walk w' (r k) N sR tR (d k) oa h
                    generalize readOf N (d k) oa = rd at *
                    obtain ⟨rl, rc⟩ := rd
                    clear hdP hdP' h0
                    go_upto_region 19 with fail
                    go_region_held_law (fun w' => w'.cell? ⟨gx, k, none⟩ = some (.pointer (some ⟨p k, 0, none⟩)) ∧ w'.cell? ⟨gy, k, none⟩ = some (.pointer (some ⟨r k, 0, none⟩)) ∧ w'.cell? ⟨go, 1, none⟩ = some (.int .i64 oa) ∧ w'.cell? ⟨go, 2, none⟩ = some (.int .i64 on)) (first | go_keep | exact ⟨ux, uy, u1, u2⟩)
                      ((go_at_call 27; refine H3.mono ?_; rintro e w3 ⟨A3, c3, rfl, hown3, hB3⟩; have hS3 := hSd.below hB3; obtain ⟨ux, uy, u1, u2, u3⟩ := hS3.cells hk))
                    have hown3' : w3.ownsRow W1.heap.size 89 1 (.slice A3 rl.length c3) rl.length (bv rl) := hown3
                    obtain ⟨sR, tR, hdR, -⟩ := hS3.D.R k hk
                    have hdR' : RDsk w3.drew (r k) sR tR N (d k) := hdR.below (below_drew (Below.refl _ _))
                    have hS3d := hS3.drew
                    have H5 := H4 w3.drew sR tR hdR'
                    clear hown3 H4 hdR hdR' hS7 hSd qx qy q1 q2 q3 H3 hB3
                    go_upto_region 20 with fail
                    go_region_held_law (fun w' => w'.cell? ⟨gx, k, none⟩ = some (.pointer (some ⟨p k, 0, none⟩)) ∧ w'.cell? ⟨gy, k, none⟩ = some (.pointer (some ⟨r k, 0, none⟩)) ∧ w'.cell? ⟨go, 1, none⟩ = some (.int .i64 oa) ∧ w'.cell? ⟨go, 2, none⟩ = some (.int .i64 on)) (first | go_keep | exact ⟨vx, vy, v1, v2⟩)
                      ((go_at_call 28; refine H5.mono ?_; rintro e w4 ⟨A4, c4, rfl, hown4, hB4⟩; have hS4 := hS3d.below hB4; obtain ⟨vx, vy, v1, v2, v3⟩ := hS4.cells hk))
                    have hb3 : Bys w4 A3 rl.length rl := (Bys.own hown3').below ((below_drew (Below.refl _ _)).trans hB4)
                    have hb4 : Bys w4 A4 rl.length rl := Bys.own hown4
                    have hrm : rl.length ≤ 9223372036854775807 := hb3.max
                    have s3 := hb3.string (P := Try.prog) Try.underlying39 Try.underlying5 Try.underlying9 c3
                    have s4 := hb4.string (P := Try.prog) Try.underlying39 Try.underlying5 Try.underlying9 c4
                    have hany : AnyO 89 w4 W1.heap.size rl.length (.slice A3 rl.length c3) := (AnyO.of hown3' (Nat.le_refl _)).below ((below_drew (Below.refl _ _)).trans hB4)
                    clear hown3' hown4 hB4 H5 hS3 hS3d hb3 hb4 ux uy u1 u2 u3 vx vy v1 v2 v3
                    go_wp2
                    go_loopw [20] (fun i wq => ∃ m : Nat, m ≤ rl.length ∧ i = .int .i64 m ∧ St w.heap.size gx gy go N w wq col7 p r d d #[.int .i64 ok, .int .i64 oa, .int .i64 on, .slice Ab nb cb, .bool ot] ∧ AnyO 89 wq W1.heap.size rl.length (.slice A3 rl.length c3)) (fun i _ => rl.length - (intOf i).toNat)
                    case atStart => exact ⟨0, by omega, rfl, hS4, hany⟩
                    case round =>
                      clear hS4 hany s3 s4
                      obtain ⟨m, hm, rfl, hSq, hany⟩ := hrel
                      by_cases hlm : m < rl.length
                      · obtain ⟨g3, u, rfl, hg0, hglt, hcell, hfz, hset, -⟩ := hany.at_ m hlm
                        go_wp2
                        go_roundw
                        case rel => exact ⟨m + 1, hlm, by go_num, hSq.own ((Chg.refl (fun j => j = g3) _).setCell (p := ⟨g3, m, none⟩) rfl _) (fun j hj => by subst hj; exact h7 _ hg0), hset _⟩
                        case measure => simp [intOf]; omega
                      · have v2 := (hSq.cells hk).2.2.2.1
                        go_wp2_with fail
                        go_meet
                        exact ⟨⟨_, _, _, _, hSq.D, fun i hi => by have := htl i hi; omega⟩, hSq.b, v2⟩
        case rest =>
          as_aux_lemma =>
            clear hSt hbw1 hob0 htl q0
            obtain ⟨⟨col2, p2, r2, d2, hD2, ht2⟩, hBc, q2⟩ := hcut
            obtain ⟨sa0, ta0, hA0, -⟩ := hD2.P 0 (by omega)
            obtain ⟨sa1, ta1, hA1, -⟩ := hD2.P 1 (by omega)
            obtain ⟨sr0, tr0, hR0, -⟩ := hD2.R 0 (by omega)
            obtain ⟨sr1, tr1, hR1, -⟩ := hD2.R 1 (by omega)
            have x0 := hD2.xk (k := 0) (by omega)
            have x1 := hD2.xk (k := 1) (by omega)
            have z0 := hD2.yk (k := 0) (by omega)
            have z1 := hD2.yk (k := 1) (by omega)
            have t0 := ht2 0 (by omega)
            have t1 := ht2 1 (by omega)
            go_upto_region 13 with (first
              | (go_at_call 29; refine (same_walk w3 (p2 1) (r2 1) N sa1 ta1 sr1 tr1 (d2 1) on (hA1.below hB3) (hR1.below hB3) (by omega)).mono ?_; rintro e w4 ⟨rfl, hB4⟩)
              | (go_at_call 29; go_must (refine (same_walk _ (p2 0) (r2 0) N sa0 ta0 sr0 tr0 (d2 0) on hA0 hR0 (by omega)).mono ?_); rintro e w3 ⟨rfl, hB3⟩; have k1 := cell_below hB3 x1; have k2 := cell_below hB3 z1; have k3 := cell_below hB3 q2))
            have hz2 := hBc.size
            have hz3 := hB3.size
            have hB24 := hB3.trans (hB4.mono hz3)
            have hD4 := hD2.below hB24
            go_wp2
            go_roundw
            case rel => exact ⟨j + 1, hlt, by go_num, hBc.trans (hB24.mono hz2), _, _, _, _, hD4, ht2⟩
            case measure => simp [intOf]; omega
    · as_aux_lemma =>
        have hjn : j = n := by omega
        obtain ⟨sa0, ta0, hA0, -⟩ := hDk.P 0 (by omega)
        obtain ⟨sa1, ta1, hA1, -⟩ := hDk.P 1 (by omega)
        obtain ⟨sr0, tr0, hR0, -⟩ := hDk.R 0 (by omega)
        obtain ⟨sr1, tr1, hR1, -⟩ := hDk.R 1 (by omega)
        have x0 := hDk.xk (k := 0) (by omega)
        have x1 := hDk.xk (k := 1) (by omega)
        have z0 := hDk.yk (k := 0) (by omega)
        have z1 := hDk.yk (k := 1) (by omega)
        have t0 := htl 0 (by omega)
        have t1 := htl 1 (by omega)
        go_wp2_with (first
          | (go_at_call 29; refine (same_walk w3 (p 1) (r 1) N sa1 ta1 sr1 tr1 (d 1) (-1) (hA1.below hB3) (hR1.below hB3) (by omega)).mono ?_; rintro e w4 ⟨rfl, hB4⟩)
          | (go_at_call 29; go_must (refine (same_walk _ (p 0) (r 0) N sa0 ta0 sr0 tr0 (d 0) 0 hA0 hR0 (by omega)).mono ?_); rintro e w3 ⟨rfl, hB3⟩; have k1 := cell_below hB3 x1; have k2 := cell_below hB3 z1))
        go_ret
        have hz3 := hB3.size
        exact ⟨rfl, hBr.trans ((hB3.trans (hB4.mono hz3)).mono hzr)⟩
theorem plays_any (w : World) (z : Int) (hz : -9223372036854775808 ≤ z ∧ z ≤ 9223372036854775807) (A : Option Addr) (n c : Nat) (l : List OpV) (hl : OpsAt w A n l) (hlen : ∀ o ∈ l, o.b.length ≤ 140737488351232 ∧ o.n ≤ 9223372036854775807) :
    Calls Try.prog 6 #[.int .i64 z, .slice A n c] w (Tells w.heap.size (.bool true) w) := by
  by_cases h : 1 ≤ z ∧ z ≤ 16384
  · by_cases hb : 64 < z ∨ 200 < n
    · exact plays_big w z hz A n c h hb
    · obtain ⟨N, rfl⟩ := Int.eq_ofNat_of_zero_le (show 0 ≤ z by omega)
      exact plays_main w N (by omega) A n c l hl (by omega) hlen
  · exact plays_out w z hz A n c h
end Go.Proofs.Ytenfdankgjdfpaa
