/- A sector is read, the document's way. -/
import Derived.Test.YtenfdankgjdfpaaDskRead
set_option linter.unusedVariables false
set_option linter.unusedSimpArgs false
namespace Go.Proofs.Ytenfdankgjdfpaa
open Go.RowKit

set_option maxHeartbeats 1000000 in
theorem rread_in (w : World) (g n : Nat) (sv tv : Value) (d : DS) (k : Nat) (h : RDsk w g sv tv n d) (hk : k < n) :
    Calls Try.prog 28 #[.pointer (some ⟨g, 0, none⟩), .int .i64 k] w (RetOpen w.heap.size 5 (secOf d.img k, 0) w) := by
  have c0 := h.c0
  have hle := h.le
  have hp := h.pos
  have HS := rsectors_walk w g n sv tv d h
  obtain ⟨s, c, hv, _, hs, hc1, hc2, _⟩ := own_some h.sec (by omega)
  subst hv
  have hcell := sec_cells h.sec h.len hk (by omega)
  have hl64 := secOf_length h.len hk
  have hc3 : k * 64 + 64 ≤ c := by omega
  have hb0 : Bys w (some ⟨s, k * 64, none⟩) 64 (secOf d.img k) := bys_at hl64 (sec_cells2 hcell)
  have hgl := h.lt g (.inl rfl)
  have hb1 : Bys w (some ⟨s, k * 64, none⟩) (k * 64 + 64 - k * 64) (secOf d.img k) := by rw [show k * 64 + 64 - k * 64 = 64 by omega]; exact hb0
  clear hcell h
  go_enter Try.func28, Try.ntmps28
  go_upto_region 3 with (go_at_call 44; go_must (refine HS.mono ?_); rintro e w' ⟨rfl, rfl⟩)
  go_wp2_with (at_builtin; go_must (refine wpList_append_bys (o := ⟨some 25, _, _, _, _, _⟩) w w.heap.size rfl (.tmp 14) (.tmp 24) 39 5 rfl Try.underlying39 info_u8 _ 0 [] rfl (own_empty _ _ _ _ _ (Nat.le_refl _) (heap_alloc_new w _)) (some ⟨s, k * 64, none⟩) (k * 64 + 64 - k * 64) _ (secOf d.img k) rfl (hb1.below ((Below.refl _ _).alloc (Nat.le_refl _) _)) ((Below.refl _ _).alloc (Nat.le_refl _) _) (by simp) (by omega) ?_); go_must (intro v2 w2 hown2 hB2 hg2 hat2 hs2))
  go_ret2
  exact RetOpen.of hown2 rfl hB2
theorem rread_out (w : World) (g n : Nat) (sv tv : Value) (d : DS) (z : Int) (h : RDsk w g sv tv n d) (hz : ¬ (0 ≤ z ∧ z < n)) :
    Calls Try.prog 28 #[.pointer (some ⟨g, 0, none⟩), .int .i64 z] w (RetOpen w.heap.size 5 ([], 2) w) := by
  have HS := rsectors_walk w g n sv tv d h
  clear h
  by_cases hlo : z < 0
  · go_enter Try.func28, Try.ntmps28
    go_wp2
    go_ret2
    exact RetOpen.nil _ _ _ (Below.refl _ _)
  · have hlo' : 0 ≤ z := by omega
    have hhi : (n : Int) ≤ z := by omega
    go_enter Try.func28, Try.ntmps28
    go_wp2_with (go_at_call 44; go_must (refine HS.mono ?_); rintro e w' ⟨rfl, rfl⟩)
    go_ret2
    exact RetOpen.nil _ _ _ (Below.refl _ _)
theorem rread_walk (w : World) (g n : Nat) (sv tv : Value) (d : DS) (z : Int) (h : RDsk w g sv tv n d) :
    Calls Try.prog 28 #[.pointer (some ⟨g, 0, none⟩), .int .i64 z] w (RetOpen w.heap.size 5 (readOf n d z) w) := by
  unfold readOf
  by_cases hz : 0 ≤ z ∧ z < n
  · rw [if_pos hz]
    obtain ⟨k, rfl⟩ := Int.eq_ofNat_of_zero_le hz.1
    exact rread_in w g n sv tv d k h (by omega)
  · rw [if_neg hz]
    exact rread_out w g n sv tv d z h hz
end Go.Proofs.Ytenfdankgjdfpaa
