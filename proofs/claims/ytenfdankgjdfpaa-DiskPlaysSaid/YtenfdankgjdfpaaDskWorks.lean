/- The law's works: some of the first example. -/
import Derived.Test.YtenfdankgjdfpaaDskSector
import Derived.Test.YtenfdankgjdfpaaDskImage
import Derived.Test.YtenfdankgjdfpaaDskInts
set_option linter.unusedVariables false
set_option linter.unusedSimpArgs false
namespace Go.Proofs.Ytenfdankgjdfpaa
open Go.RowKit

/-- the bytes that the example writes -/
def b7 : List UInt8 := z64.set 3 7
theorem b7_length : b7.length = 64 := by unfold b7; rw [List.length_set, z64_length]
theorem b7_cells : (bv z64).set 3 (.int .u8 7) = bv b7 := by rfl
theorem z64_three : (bv z64).toArray[3]? = some (.int .u8 0) := by rfl
theorem d7_ok : (writeOf 2 (zeroDS 2) 1 b7).2 = 0 := by decide
theorem d7_read : readOf 2 (writeOf 2 (zeroDS 2) 1 b7).1 1 = (b7, 0) := by decide
theorem d7_trail : (writeOf 2 (zeroDS 2) 1 b7).1.trail.length = 1 := by decide
theorem d7_img : (writeOf 2 (zeroDS 2) 1 b7).1.img.length = 128 := by rfl
set_option maxHeartbeats 1000000 in
theorem works_walk (w : World) : Calls Try.prog 10 #[] w (Tells w.heap.size (.bool true) w) := by
  have H1 := new_in w 2 (by omega) (by omega)
  go_enter Try.func10, Try.ntmps10
  go_upto_region 2 with (go_at_call 11; go_must (refine H1.mono ?_); intro e w1 hR; rw [RetNew, if_pos (by omega)] at hR; obtain ⟨g, sv, tv, rfl, hD, hF, hB⟩ := hR)
  have H2 := new_walk w1 0 (by omega)
  have hlt := hD.lt
  go_upto_region 6 with (first
    | (go_at_call 11; go_must (refine H2.mono ?_); intro e w2 hR; rw [RetNew, if_neg (by omega)] at hR; obtain ⟨rfl, rfl⟩ := hR)
    | (at_make; go_must (refine wpList_make (o := ⟨some 26, _, _, _, _, _⟩) rfl 39 5 (.const (.int .i64 64)) rfl 64 rfl (.int .u8 0) 1 1 Try.underlying39 info_u8 (by omega) (by omega) ?_; rw [made64])))
  have hh := heap_alloc_new w1 (.cells (bv z64).toArray 5)
  have hq : (w1.alloc (.cells (bv z64).toArray 5)).cell? ⟨w1.heap.size, 3, none⟩ = some (.int .u8 0) := by rw [cell_of_row _ _ 3 _ _ _ hh]; exact z64_three
  have hf := frozen_of_row _ _ 3 _ _ hh
  have hB3 : Below w1.heap.size w1 (w1.alloc (.cells ((bv z64).set 3 (.int .u8 7)).toArray 5)) := (Below.refl _ _).alloc (Nat.le_refl _) _
  have hb3 := heap_alloc_new w1 (.cells ((bv z64).set 3 (.int .u8 7)).toArray 5)
  go_upto_region 7 with fail
  generalize w1.alloc (.cells ((bv z64).set 3 (.int .u8 7)).toArray 5) = w3 at *
  rw [b7_cells] at hb3
  have hD3 : PDsk w3 g sv tv 2 (zeroDS 2) := hD.below hB3
  have hby : Bys w3 (some ⟨w1.heap.size, 0, none⟩) 64 b7 := bys_at b7_length (World.news_of_block hb3)
  have H3 := write_walk w3 g 2 sv tv (zeroDS 2) 1 _ 64 64 b7 hD3 hby (by simp [zeroDS])
  have E1 := d7_ok
  have E2 := d7_read
  have E3 := d7_trail
  have E4 := d7_img
  rw [E1] at H3
  generalize (writeOf 2 (zeroDS 2) 1 b7).1 = d7 at H3 E2 E3 E4
  clear hq hf hh H1 H2 E1
  go_upto_region 9 with (go_at_call 13; go_must (refine H3.mono ?_); rintro e w4 ⟨rfl, t4, hD4, hC4, ht4⟩)
  have hby4 : Bys w4 (some ⟨w1.heap.size, 0, none⟩) 64 b7 := bys_at b7_length (World.news_of_block ((hC4.block _ (Array.getElem?_eq_some_iff.1 hb3).1 (fun hk => absurd (hlt _ hk) (by omega))).trans hb3))
  have H5 := read_walk w4 g 2 sv t4 d7 1 hD4
  rw [E2] at H5
  go_upto_region 10 with (go_at_call 27; go_must (refine H5.mono ?_); rintro e w5 ⟨A5, c5, rfl, hown5, hB5⟩)
  have hD5 := hD4.below hB5
  have H6 := writes_walk w5 g 2 sv t4 d7 hD5
  have H7 := image_walk w5 g 2 sv t4 d7 hD5
  rw [E3] at H6
  unfold RetBys at H7
  rw [E4] at H7
  have hs1 := (Bys.own hown5).string (P := Try.prog) Try.underlying39 Try.underlying5 Try.underlying9 c5
  have hs2 := (hby4.below hB5).string (P := Try.prog) Try.underlying39 Try.underlying5 Try.underlying9 64
  have z1 : w.heap.size ≤ w1.heap.size := hB.size
  have z3 : w1.heap.size ≤ w3.heap.size := hB3.size
  have z4 : w3.heap.size ≤ w4.heap.size := hC4.size
  have z5 : w4.heap.size ≤ w5.heap.size := hB5.size
  have hB05 : Below w.heap.size w w5 := ((hB.trans (hB3.mono z1)).trans (hC4.below (by omega) (fun k hk hf => absurd (hF k hf) (by omega)))).trans (hB5.mono (by omega))
  clear H3 H5 E2 E3 E4 hown5 hby4 hby hC4 hD hD3 hD4 hD5 hB hB3 hB5 hb3
  go_wp2_with (first
    | (go_at_call 17; go_must (refine H6.mono ?_); rintro e w6 ⟨rfl, rfl⟩)
    | (go_at_call 15; go_must (refine H7.mono ?_); rintro e w7 ⟨A7, c7, rfl, hown7, hB7⟩))
  go_ret
  exact ⟨rfl, hB05.trans (hB7.mono (by omega))⟩
end Go.Proofs.Ytenfdankgjdfpaa
