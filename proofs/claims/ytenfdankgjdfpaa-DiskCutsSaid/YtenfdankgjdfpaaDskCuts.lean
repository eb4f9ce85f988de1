/- DiskCuts walked. -/
import Derived.Test.YtenfdankgjdfpaaOps
import Derived.Lib.Hide
import Derived.Deep.RegionHeldLaw
import Derived.Deep.DrawnRows
attribute [local go_sem ↓] Go.wp_at_zero Go.wp_at_succ
set_option linter.unusedVariables false
set_option linter.unusedSimpArgs false
namespace Go.Proofs.Ytenfdankgjdfpaa
open Go.RowKit

/-- the two disks of DiskCuts, behind i writes -/
def Pair (B k i ga gb : Nat) (sa sb : Value) (w : World) : Prop :=
  ∃ ta tb da db, PDsk w ga sa ta 16 da ∧ PDsk w gb sb tb 16 db ∧ (∀ j, Foot ga sa ta j → B ≤ j) ∧ (∀ j, Foot gb sb tb j → B ≤ j) ∧ (∀ j, Foot ga sa ta j → ¬ Foot gb sb tb j) ∧ CutRel k i da db
theorem cuts_long (w : World) (A : Option Addr) (n c : Nat) (z : Int) (hn : 200 < n) :
    Calls Try.prog 4 #[.slice A n c, .int .i64 z] w (Tells w.heap.size (.bool true) w) := by
  have H1 := works_walk w
  go_enter Try.func4, Try.ntmps4
  go_wp2_with (go_at_call 10; go_must (refine H1.mono ?_); rintro e w1 ⟨rfl, hB1⟩)
  go_ret
  exact ⟨rfl, hB1⟩
set_option maxHeartbeats 4000000 in
set_option maxRecDepth 20000 in
theorem cuts_walk (w : World) (A : Option Addr) (n c : Nat) (l : List OpV) (z : Int) (hl : OpsAt w A n l) (hn : n ≤ 200) :
    Calls Try.prog 4 #[.slice A n c, .int .i64 z] w (Tells w.heap.size (.bool true) w) := by
  have H1 := works_walk w
  go_enter Try.func4, Try.ntmps4
  go_upto_region 6 with (go_at_call 10; go_must (refine H1.mono ?_); rintro e w1 ⟨rfl, hB1⟩)
  obtain ⟨k, hk, ek⟩ := modk z 200 (by omega) (by omega)
  rw [ek]
  have H2 := new_in w1 16 (by omega) (by omega)
  go_upto_region 7 with (go_at_call 11; go_must (refine H2.mono ?_); intro e w2 hR; rw [RetNew, if_pos (by omega)] at hR; obtain ⟨ga, sa, ta, rfl, hDa, hFa, hB2⟩ := hR)
  have H3 := new_in w2 16 (by omega) (by omega)
  go_upto_region 10 with (go_at_call 11; go_must (refine H3.mono ?_); intro e w3 hR; rw [RetNew, if_pos (by omega)] at hR; obtain ⟨gb, sb, tb, rfl, hDb, hFb, hB3⟩ := hR)
  have hz1 := hB1.size
  have hz2 := hB2.size
  have hz3 := hB3.size
  have hDa3 : PDsk w3 ga sa ta 16 (zeroDS 16) := hDa.below hB3
  have hDb3 : PDsk w3 gb sb tb 16 (zeroDS 16) := hDb
  have H4 := arm_walk w3 ga 16 sa ta (zeroDS 16) k (by omega) hDa3
  have hsep : ∀ j, Foot ga sa ta j → ¬ Foot gb sb tb j := fun j h1 h2 => absurd (hDa.lt j h1) (by have := hFb j h2; omega)
  go_upto_region 11 with (go_at_call 12; go_must (refine H4.mono ?_); rintro e w4 ⟨rfl, ta4, hDa4, hC4, ht4⟩)
  have hB03 : Below w.heap.size w w3 := (hB1.trans (hB2.mono hz1)).trans (hB3.mono (by omega))
  obtain ⟨hDb4, hFa4, hsep4⟩ := sep_step (TD := 0) (TE := 0) (sz := 0) (m := 0) (n := 0) (B := w.heap.size) hDb3 hC4 ht4 hsep (fun j hj => by have := hFa j hj; omega) (by omega)
  have hP : Pair w.heap.size k 0 ga gb sa sb w4 := ⟨ta4, tb, _, _, hDa4, hDb4, hFa4, fun j hj => by have := hFb j hj; omega, hsep4, CutRel.start k 16⟩
  have hB04 : Below w.heap.size w w4 := hB03.trans (hC4.below (by omega) (fun j h1 h2 => absurd (hFa j h2) (by omega)))
  clear hDa hDb hDa3 hDb3 hDa4 hDb4 hFa hFb hFa4 hsep hsep4 hC4 ht4 H1 H2 H3 H4 hB1 hB2 hB3 hB03 ek
  have hz4 := hB04.size
  go_wp2
  go_loopw [9] (fun i wr => ∃ j : Nat, j ≤ n ∧ i = .int .i64 j ∧ Below w.heap.size w wr ∧ Pair w.heap.size k j ga gb sa sb wr) (fun i _ => n - (intOf i).toNat)
  case atStart => exact ⟨0, by omega, rfl, hB04, hP⟩
  case round =>
    clear hP hB04 hz1 hz2 hz3 hz4
    obtain ⟨j, hj, rfl, hBr, hP⟩ := hrel
    have hzr := hBr.size
    by_cases hlt : j < n
    · have hlen := hl.len
      obtain ⟨G, O, Ab, nb, cb, rfl, -, v1, -, v3, hbw, -⟩ := hl.cell j l[j] (List.getElem?_eq_getElem (by omega))
      generalize l[j] = o at *
      obtain ⟨ok, oa, on, ob, ot⟩ := o
      simp only at v1 v3 hbw
      have y1 := cell_below hBr v1
      have y3 := cell_below hBr v3
      go_upto_region 15 with fail
      obtain ⟨q, hq, eq⟩ := modk oa 16 (by omega) (by omega)
      rw [eq]
      clear eq
      obtain ⟨ta, tb, da, db, hDa, hDb, hFa, hFb, hsep, hR⟩ := hP
      have hta : da.trail.length ≤ 1000000 := by rw [hR.ta]; omega
      have htb : db.trail.length ≤ 1000000 := by rw [hR.tb]; omega
      have hsb := secBytes_length ob
      have H5 : ∀ w', Bys w' Ab nb ob → Calls Try.prog 14 #[.slice Ab nb cb] w' (RetBys w'.heap.size 5 (secBytes ob) w') := fun w' hb => sector_walk w' Ab nb cb ob hb
      replace H5 := Go.Lib.hid H5
      generalize secBytes ob = sq at *
      by_cases hjk : j < k
      · obtain ⟨a1, a2, hR2⟩ := hR.lt hjk (n := 16) (z := (q : Int)) (bs := sq) (by omega) hsb
        clear hsb hl hlen
        replace a1 := Go.Lib.hid a1
        replace a2 := Go.Lib.hid a2
        go_upto_region 16 with (first
          | (go_at_call 14; go_must (refine (H5 wr (hbw.below hBr)).mono ?_); rintro e w5 ⟨A5, c5, rfl, hown5, hB5⟩)
          | (go_at_call 13; go_must (refine (write_walk w5 ga 16 sa ta da q A5 sq.length c5 sq (hDa.below hB5) (Bys.own hown5) hta).mono ?_); rintro e w6 ⟨rfl, ta6, hDa6, hC6, ht6⟩))
        have hz5 := hB5.size
        have hz6 := hC6.size
        have hDb5 := hDb.below hB5
        obtain ⟨hDb6, hFa6, hsep6⟩ := sep_step (TD := 0) (TE := 0) (sz := 0) (m := 0) (n := 0) (B := w.heap.size) hDb5 hC6 ht6 hsep hFa (by omega)
        have hB06 : Below w.heap.size w w6 := (hBr.trans (hB5.mono hzr)).trans (hC6.below (by omega) (fun j h1 h2 => absurd (hFa j h2) (by omega)))
        rw [show (writeOf 16 da (q : Int) sq).2 = 0 from a1]
        have x3 := cell_below hB06 v3
        have hb6 := hbw.below hB06
        have hsep6' : ∀ i, Foot gb sb tb i → ¬ Foot ga sa ta6 i := fun i h1 h2 => hsep6 i h2 h1
        go_upto_region 13 with (first
          | (go_at_call 14; go_must (refine (H5 w6 hb6).mono ?_); rintro e w7 ⟨A7, c7, rfl, hown7, hB7⟩)
          | (go_at_call 13; go_must (refine (write_walk w7 gb 16 sb tb db q A7 sq.length c7 sq (hDb6.below hB7) (Bys.own hown7) htb).mono ?_); rintro e w8 ⟨rfl, tb8, hDb8, hC8, ht8⟩; rw [show (writeOf 16 db (q : Int) sq).2 = 0 from a2]))
        have hz7 := hB7.size
        obtain ⟨hDa8, hFb8, hsep8⟩ := sep_step (TD := 0) (TE := 0) (sz := 0) (m := 0) (n := 0) (B := w.heap.size) (hDa6.below hB7) hC8 ht8 hsep6' hFb (by omega)
        have hB08 : Below w.heap.size w w8 := (hB06.trans (hB7.mono (by omega))).trans (hC8.below (by omega) (fun j h1 h2 => absurd (hFb j h2) (by omega)))
        go_wp2
        go_roundw
        case rel => exact ⟨j + 1, hlt, by go_num, hB08, ta6, tb8, _, _, hDa8, hDb8, hFa6, hFb8, fun i h1 h2 => hsep8 i h2 h1, hR2⟩
        case measure => simp [intOf]; omega
      · obtain ⟨a1, hR2⟩ := hR.ge (by omega) (n := 16) (z := (q : Int)) (bs := sq) (by omega) hsb
        clear hsb hl hlen
        replace a1 := Go.Lib.hid a1
        go_upto_region 16 with (first
          | (go_at_call 14; go_must (refine (H5 wr (hbw.below hBr)).mono ?_); rintro e w5 ⟨A5, c5, rfl, hown5, hB5⟩)
          | (go_at_call 13; go_must (refine (write_walk w5 ga 16 sa ta da q A5 sq.length c5 sq (hDa.below hB5) (Bys.own hown5) hta).mono ?_); rintro e w6 ⟨rfl, ta6, hDa6, hC6, ht6⟩))
        have hz5 := hB5.size
        obtain ⟨hDb6, hFa6, hsep6⟩ := sep_step (TD := 0) (TE := 0) (sz := 0) (m := 0) (n := 0) (B := w.heap.size) (hDb.below hB5) hC6 ht6 hsep hFa (by omega)
        have hB06 : Below w.heap.size w w6 := (hBr.trans (hB5.mono hzr)).trans (hC6.below (by omega) (fun j h1 h2 => absurd (hFa j h2) (by omega)))
        rw [show (writeOf 16 da (q : Int) sq).2 = 50 from a1]
        go_wp2
        go_roundw
        case rel => exact ⟨j + 1, hlt, by go_num, hB06, ta6, tb, _, _, hDa6, hDb6, hFa6, hFb, hsep6, hR2⟩
        case measure => simp [intOf]; omega
    · have hjn : j = n := by omega
      subst hjn
      obtain ⟨ta, tb, da, db, hDa, hDb, hFa, hFb, hsep, hR⟩ := hP
      have hta : da.trail.length ≤ 1000000 := by rw [hR.ta]; omega
      have htb : db.trail.length ≤ 1000000 := by rw [hR.tb]; omega
      have hd0 : Below wr.heap.size wr wr.drew := below_drew (Below.refl _ _)
      have HI : ∀ w' g, Below wr.heap.size wr w' → (g = ga ∨ g = gb) → Calls Try.prog 15 #[.pointer (some ⟨g, 0, none⟩)] w' (RetBys w'.heap.size 5 da.img w') := by
        rintro w' g hb (rfl | rfl)
        · exact image_walk w' g 16 sa ta da (hDa.below hb)
        · rw [hR.img]; exact image_walk w' g 16 sb tb db (hDb.below hb)
      replace HI := Go.Lib.hid HI
      go_upto_region 21 with fail
      go_cut [112] from 88 to 112 (fun v wx => v = .bool false ∧ Below wr.heap.size wr wx)
      case first =>
        by_cases hkn : k < j
        · skip
          have HD : Go.RowKit.Hid (∀ w', Below wr.heap.size wr w' → Calls Try.prog 16 #[.pointer (some ⟨ga, 0, none⟩)] w' (Says (.bool true) w')) := Go.Lib.hid fun w' hb => by
              have := down_walk w' ga 16 sa ta da (hDa.below hb)
              rwa [hR.down, show decide (k < j) = true by simp; omega] at this
          have HW : Go.RowKit.Hid (∀ w', Below wr.heap.size wr w' → Calls Try.prog 17 #[.pointer (some ⟨ga, 0, none⟩)] w' (Says (.int .i64 (k : Nat)) w')) := Go.Lib.hid fun w' hb => by
              have := writes_walk w' ga 16 sa ta da (hDa.below hb)
              rwa [hR.ta, show min k j = k by omega] at this
          clear hR hDa hDb hFa hFb hsep hta htb hBr hzr hl
          go_region_held_law (fun _ => True) (trivial) ((first
            | (go_at_call 15; refine ((show ∀ w' g, Below wr.heap.size wr w' → (g = ga ∨ g = gb) → Calls Try.prog 15 #[.pointer (some ⟨g, 0, none⟩)] w' (RetBys w'.heap.size 5 da.img w') from HI) _ _ hd5 (by first | exact .inl rfl | exact .inr rfl)).mono ?_; rintro e w6 ⟨A6, c6, rfl, hown6, hB6⟩; have hd6 : Below wr.heap.size wr w6 := hd5.trans (hB6.mono hsz5); have t5 := ((Bys.own hown5).below hB6).string (P := Try.prog) Try.underlying39 Try.underlying5 Try.underlying9 c5; have t6 := (Bys.own hown6).string (P := Try.prog) Try.underlying39 Try.underlying5 Try.underlying9 c6)
            | (go_at_call 15; refine ((show ∀ w' g, Below wr.heap.size wr w' → (g = ga ∨ g = gb) → Calls Try.prog 15 #[.pointer (some ⟨g, 0, none⟩)] w' (RetBys w'.heap.size 5 da.img w') from HI) _ _ hd0 (by first | exact .inl rfl | exact .inr rfl)).mono ?_; rintro e w5 ⟨A5, c5, rfl, hown5, hB5⟩; have hd5 : Below wr.heap.size wr w5 := hd0.trans hB5; have hsz5 := hd5.size; have s5 := (Bys.own hown5).string (P := Try.prog) Try.underlying39 Try.underlying5 Try.underlying9 c5)
            | (go_at_call 16; refine (HD _ hd6).mono ?_; rintro e w7 ⟨rfl, rfl⟩)
            | (go_at_call 17; refine (HW _ hd6).mono ?_; rintro e w7 ⟨rfl, rfl⟩)))
          all_goals (go_wp2_with fail; go_meet; exact ⟨rfl, hd6⟩)
        by_cases hkj : j < k
        · have hkn2 : j ≤ k := by omega
          have HD : Go.RowKit.Hid (∀ w', Below wr.heap.size wr w' → Calls Try.prog 16 #[.pointer (some ⟨ga, 0, none⟩)] w' (Says (.bool false) w')) := Go.Lib.hid fun w' hb => by
              have := down_walk w' ga 16 sa ta da (hDa.below hb)
              rwa [hR.down, show decide (k < j) = false by simp; omega] at this
          have HW : Go.RowKit.Hid (∀ w', Below wr.heap.size wr w' → Calls Try.prog 17 #[.pointer (some ⟨ga, 0, none⟩)] w' (Says (.int .i64 (j : Nat)) w')) := Go.Lib.hid fun w' hb => by
              have := writes_walk w' ga 16 sa ta da (hDa.below hb)
              rwa [hR.ta, show min k j = j by omega] at this
          clear hR hDa hDb hFa hFb hsep hta htb hBr hzr hl
          go_region_held_law (fun _ => True) (trivial) ((first
            | (go_at_call 15; refine ((show ∀ w' g, Below wr.heap.size wr w' → (g = ga ∨ g = gb) → Calls Try.prog 15 #[.pointer (some ⟨g, 0, none⟩)] w' (RetBys w'.heap.size 5 da.img w') from HI) _ _ hd5 (by first | exact .inl rfl | exact .inr rfl)).mono ?_; rintro e w6 ⟨A6, c6, rfl, hown6, hB6⟩; have hd6 : Below wr.heap.size wr w6 := hd5.trans (hB6.mono hsz5); have t5 := ((Bys.own hown5).below hB6).string (P := Try.prog) Try.underlying39 Try.underlying5 Try.underlying9 c5; have t6 := (Bys.own hown6).string (P := Try.prog) Try.underlying39 Try.underlying5 Try.underlying9 c6)
            | (go_at_call 15; refine ((show ∀ w' g, Below wr.heap.size wr w' → (g = ga ∨ g = gb) → Calls Try.prog 15 #[.pointer (some ⟨g, 0, none⟩)] w' (RetBys w'.heap.size 5 da.img w') from HI) _ _ hd0 (by first | exact .inl rfl | exact .inr rfl)).mono ?_; rintro e w5 ⟨A5, c5, rfl, hown5, hB5⟩; have hd5 : Below wr.heap.size wr w5 := hd0.trans hB5; have hsz5 := hd5.size; have s5 := (Bys.own hown5).string (P := Try.prog) Try.underlying39 Try.underlying5 Try.underlying9 c5)
            | (go_at_call 16; refine (HD _ hd6).mono ?_; rintro e w7 ⟨rfl, rfl⟩)
            | (go_at_call 17; refine (HW _ hd6).mono ?_; rintro e w7 ⟨rfl, rfl⟩)))
          all_goals (go_wp2_with fail; go_meet; exact ⟨rfl, hd6⟩)
        · have hkn2 : j ≤ k := by omega
          have HD : Go.RowKit.Hid (∀ w', Below wr.heap.size wr w' → Calls Try.prog 16 #[.pointer (some ⟨ga, 0, none⟩)] w' (Says (.bool false) w')) := Go.Lib.hid fun w' hb => by
              have := down_walk w' ga 16 sa ta da (hDa.below hb)
              rwa [hR.down, show decide (k < j) = false by simp; omega] at this
          have HW : Go.RowKit.Hid (∀ w', Below wr.heap.size wr w' → Calls Try.prog 17 #[.pointer (some ⟨ga, 0, none⟩)] w' (Says (.int .i64 (k : Nat)) w')) := Go.Lib.hid fun w' hb => by
              have := writes_walk w' ga 16 sa ta da (hDa.below hb)
              rwa [hR.ta, show min k j = k by omega] at this
          clear hR hDa hDb hFa hFb hsep hta htb hBr hzr hl
          go_region_held_law (fun _ => True) (trivial) ((first
            | (go_at_call 15; refine ((show ∀ w' g, Below wr.heap.size wr w' → (g = ga ∨ g = gb) → Calls Try.prog 15 #[.pointer (some ⟨g, 0, none⟩)] w' (RetBys w'.heap.size 5 da.img w') from HI) _ _ hd5 (by first | exact .inl rfl | exact .inr rfl)).mono ?_; rintro e w6 ⟨A6, c6, rfl, hown6, hB6⟩; have hd6 : Below wr.heap.size wr w6 := hd5.trans (hB6.mono hsz5); have t5 := ((Bys.own hown5).below hB6).string (P := Try.prog) Try.underlying39 Try.underlying5 Try.underlying9 c5; have t6 := (Bys.own hown6).string (P := Try.prog) Try.underlying39 Try.underlying5 Try.underlying9 c6)
            | (go_at_call 15; refine ((show ∀ w' g, Below wr.heap.size wr w' → (g = ga ∨ g = gb) → Calls Try.prog 15 #[.pointer (some ⟨g, 0, none⟩)] w' (RetBys w'.heap.size 5 da.img w') from HI) _ _ hd0 (by first | exact .inl rfl | exact .inr rfl)).mono ?_; rintro e w5 ⟨A5, c5, rfl, hown5, hB5⟩; have hd5 : Below wr.heap.size wr w5 := hd0.trans hB5; have hsz5 := hd5.size; have s5 := (Bys.own hown5).string (P := Try.prog) Try.underlying39 Try.underlying5 Try.underlying9 c5)
            | (go_at_call 16; refine (HD _ hd6).mono ?_; rintro e w7 ⟨rfl, rfl⟩)
            | (go_at_call 17; refine (HW _ hd6).mono ?_; rintro e w7 ⟨rfl, rfl⟩)))
          all_goals (go_wp2_with fail; go_meet; exact ⟨rfl, hd6⟩)
      case rest =>
        obtain ⟨rfl, hBc⟩ := hcut
        have hsq := secBytes_length []
        have HS : ∀ w', Calls Try.prog 14 #[.slice none 0 0] w' (RetBys w'.heap.size 5 (secBytes []) w') := fun w' => sector_walk w' none 0 0 [] (Bys.nil _)
        have hda' : ({ da with armed := -1, down := false } : DS).trail.length ≤ 1000000 := hta
        have hdd' : ({ da with armed := -1, down := false } : DS).down = false := rfl
        obtain ⟨a1, a2, a3⟩ := hR.goes (n := 16) (z := 0) (bs := secBytes []) (by omega) hsq
        generalize secBytes [] = sq at *
        have H6 := mend_walk wc ga 16 sa ta da (hDa.below hBc)
        generalize ({ da with armed := -1, down := false } : DS) = da' at *
        have hWb : ∀ w' A m c, PDsk w' gb sb tb 16 db → Bys w' A m sq → Calls Try.prog 13 #[.pointer (some ⟨gb, 0, none⟩), .int .i64 0, .slice A m c] w' (Acts 87 89 64 16 (.int .i64 0) gb 16 sb tb (writeOf 16 db 0 sq).1 w') := fun w' A m c h1 h2 => by
          have := write_walk w' gb 16 sb tb db 0 A m c sq h1 h2 htb
          rwa [a2] at this
        have hWa : ∀ w' tt A m c, PDsk w' ga sa tt 16 da' → Bys w' A m sq → Calls Try.prog 13 #[.pointer (some ⟨ga, 0, none⟩), .int .i64 0, .slice A m c] w' (Acts 87 89 64 16 (.int .i64 0) ga 16 sa tt (writeOf 16 da' 0 sq).1 w') := fun w' tt A m c h1 h2 => by
          have := write_walk w' ga 16 sa tt da' 0 A m c sq h1 h2 hda'
          rwa [a1] at this
        generalize (writeOf 16 da' 0 sq).1 = d1 at *
        generalize (writeOf 16 db 0 sq).1 = d2 at *
        clear HI hR a1 a2 hda' hta htb
        replace hWa := Go.Lib.hid hWa
        replace hWb := Go.Lib.hid hWb
        replace hsq := Go.Lib.hid hsq
        replace hdd' := Go.Lib.hid hdd'
        replace a3 := Go.Lib.hid a3
        replace HS := Go.Lib.hid HS
        go_upto_region 24 with (go_at_call 18; go_must (refine H6.mono ?_); rintro e w5 ⟨rfl, ta5, hDa5, hC5, ht5⟩)
        obtain ⟨hDb5, hFa5, hsep5⟩ := sep_step (TD := 0) (TE := 0) (sz := 0) (m := 0) (n := 0) (B := w.heap.size) (hDb.below hBc) hC5 ht5 hsep hFa (by have := hBc.size; omega)
        have hBw5 : Below w.heap.size w w5 := (hBr.trans (hBc.mono hzr)).trans (hC5.below (by have := hBc.size; omega) (fun j h1 h2 => absurd (hFa j h2) (by omega)))
        clear hDa hDb hFa hsep hC5 ht5 hBc hBr H6 hl hd0
        have hz5 := hBw5.size
        have hd5 : Below w5.heap.size w5 w5.drew := below_drew (Below.refl _ _)
        have HD : ∀ w', Below w5.heap.size w5 w' → Calls Try.prog 16 #[.pointer (some ⟨ga, 0, none⟩)] w' (Says (.bool false) w') := fun w' hb => by
          have := down_walk w' ga 16 sa ta5 da' (hDa5.below hb)
          rwa [show da'.down = false from hdd'] at this
        replace HD := Go.Lib.hid HD
        go_region_held_law (fun _ => True) (trivial) ((first
          | (go_at_call 15; refine ((show ∀ w' g, Below w10.heap.size w10 w' → (g = ga ∨ g = gb) → Calls Try.prog 15 #[.pointer (some ⟨g, 0, none⟩)] w' (RetBys w'.heap.size 5 d2.img w') from HI) _ _ hd11 (by first | exact .inl rfl | exact .inr rfl)).mono ?_; rintro e w12 ⟨A12, c12, rfl, hown12, hB12⟩; have hd12 := hd11.trans (hB12.mono hsz11); have t11 := ((Bys.own hown11).below hB12).string (P := Try.prog) Try.underlying39 Try.underlying5 Try.underlying9 c11; have t12 := (Bys.own hown12).string (P := Try.prog) Try.underlying39 Try.underlying5 Try.underlying9 c12)
          | (go_at_call 15; refine ((show ∀ w' g, Below w10.heap.size w10 w' → (g = ga ∨ g = gb) → Calls Try.prog 15 #[.pointer (some ⟨g, 0, none⟩)] w' (RetBys w'.heap.size 5 d2.img w') from HI) _ _ (Below.refl _ _) (by first | exact .inl rfl | exact .inr rfl)).mono ?_; rintro e w11 ⟨A11, c11, rfl, hown11, hB11⟩; have hd11 := hB11; have hsz11 := hB11.size; have s11 := (Bys.own hown11).string (P := Try.prog) Try.underlying39 Try.underlying5 Try.underlying9 c11)
          | (go_at_call 13; refine ((show ∀ w' A m c, PDsk w' gb sb tb 16 db → Bys w' A m sq → Calls Try.prog 13 #[.pointer (some ⟨gb, 0, none⟩), .int .i64 0, .slice A m c] w' (Acts 87 89 64 16 (.int .i64 0) gb 16 sb tb d2 w') from hWb) _ _ _ _ (hDb8.below hB9) (Bys.own hown9)).mono ?_; rintro e w10 ⟨rfl, tb10, hDb10, hC10, ht10⟩; obtain ⟨hDa10, hFb10, hsep10⟩ := sep_step (TD := 0) (TE := 0) (sz := 0) (m := 0) (n := 0) (B := w.heap.size) (hDa8.below hB9) hC10 ht10 (fun i h1 h2 => hsep8 i h2 h1) hFb (by have := hB9.size; omega); have hBw10 : Below w.heap.size w w10 := (hBw8.trans (hB9.mono (by omega))).trans (hC10.below (by have := hB9.size; omega) (fun j h1 h2 => absurd (hFb j h2) (by omega))); have HI : Go.RowKit.Hid (∀ w' g, Below w10.heap.size w10 w' → (g = ga ∨ g = gb) → Calls Try.prog 15 #[.pointer (some ⟨g, 0, none⟩)] w' (RetBys w'.heap.size 5 d2.img w')) := Go.Lib.hid (by rintro w' g hb (rfl | rfl); (· rw [← show d1.img = d2.img from a3]; exact image_walk w' g 16 sa _ d1 (hDa10.below hb)); (· exact image_walk w' g 16 sb tb10 d2 (hDb10.below hb))))
          | (go_at_call 14; refine ((show ∀ w', Calls Try.prog 14 #[.slice none 0 0] w' (RetBys w'.heap.size 5 sq w') from HS) w8).mono ?_; rintro e w9 ⟨A9, c9, rfl, hown9, hB9⟩)
          | (go_at_call 13; refine ((show ∀ w' tt A m c, PDsk w' ga sa tt 16 da' → Bys w' A m sq → Calls Try.prog 13 #[.pointer (some ⟨ga, 0, none⟩), .int .i64 0, .slice A m c] w' (Acts 87 89 64 16 (.int .i64 0) ga 16 sa tt d1 w') from hWa) _ _ _ _ _ (hDa5.below hd7) (Bys.own hown7)).mono ?_; rintro e w8 ⟨rfl, ta8, hDa8, hC8, ht8⟩; obtain ⟨hDb8, hFa8, hsep8⟩ := sep_step (TD := 0) (TE := 0) (sz := 0) (m := 0) (n := 0) (B := w.heap.size) (hDb5.below hd7) hC8 ht8 hsep5 hFa5 (by have := hd7.size; omega); have hBw8 : Below w.heap.size w w8 := (hBw5.trans (hd7.mono (by omega))).trans (hC8.below (by have := hd7.size; omega) (fun j h1 h2 => absurd (hFa5 j h2) (by omega))); have hz8 := hBw8.size)
          | (go_at_call 14; refine ((show ∀ w', Calls Try.prog 14 #[.slice none 0 0] w' (RetBys w'.heap.size 5 sq w') from HS) _).mono ?_; rintro e w7 ⟨A7, c7, rfl, hown7, hB7⟩; have hd7 := hd5.trans (hB7.mono hd5.size))
          | (go_at_call 16; refine ((show ∀ w', Below w5.heap.size w5 w' → Calls Try.prog 16 #[.pointer (some ⟨ga, 0, none⟩)] w' (Says (.bool false) w') from HD) _ hd5).mono ?_; rintro e w6 ⟨rfl, rfl⟩)))
        all_goals (go_wp2_with fail; go_ret; exact ⟨rfl, hBw10.trans (hd12.mono (by have := hBw10.size; omega))⟩)
theorem cuts_any (w : World) (A : Option Addr) (n c : Nat) (l : List OpV) (z : Int) (hl : OpsAt w A n l) :
    Calls Try.prog 4 #[.slice A n c, .int .i64 z] w (Tells w.heap.size (.bool true) w) := by
  by_cases hn : n ≤ 200
  · exact cuts_walk w A n c l z hl hn
  · exact cuts_long w A n c z (by omega)
end Go.Proofs.Ytenfdankgjdfpaa
