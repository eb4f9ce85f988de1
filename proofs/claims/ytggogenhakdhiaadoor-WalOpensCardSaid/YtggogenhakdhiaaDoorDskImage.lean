/- All bytes of a disk, the program's way. -/
import Derived.Test.YtggogenhakdhiaaDoorDskLay
import Derived.Deep.DeepMust
set_option linter.unusedVariables false
set_option linter.unusedSimpArgs false
namespace Go.Proofs.YtggogenhakdhiaaDoor
open Go.RowKit

theorem take_sec (img : List UInt8) (k : Nat) : img.take (64 * k + 64) = img.take (64 * k) ++ secOf img k := by
  rw [List.take_add]; rfl
set_option maxHeartbeats 1000000 in
set_option maxRecDepth 20000 in
theorem image_walk (w : World) (g n : Nat) (sv tv : Value) (d : DS) (h : PDsk w g sv tv n d) :
    Calls Tryd.prog 16 #[.pointer (some ⟨g, 0, none⟩)] w (RetBys w.heap.size 5 d.img w) := by
  have c0 := h.c0
  have hle := h.le
  have hlen := h.len
  obtain ⟨s, c, hv, _, hs, hc1, hc2, _⟩ := own_some h.sec h.pos
  subst hv
  go_enter Tryd.func16, Tryd.ntmps16
  go_wp2
  go_loopw [3, 11] (fun b i wr => ∃ k : Nat, k ≤ n ∧ i = .int .i64 k ∧ Below w.heap.size w wr ∧ wr.ownsRow w.heap.size 5 1 b (64 * k) (bv (d.img.take (64 * k)))) (fun _ i _ => n - (intOf i).toNat)
  case atStart => exact ⟨0, by omega, rfl, Below.refl _ _, by simpa [bv] using own_nil w w.heap.size 5 1⟩
  case round =>
    obtain ⟨k, hk, rfl, hBr, hown⟩ := hrel
    by_cases hlt : k < n
    · have hD := h.below hBr
      have hcell := sec_cells hD.sec hD.len hlt hD.pos
      have hl64 := secOf_length hlen hlt
      have hsz := hBr.size
      clear h hD
      go_wp2_with (first
        | (refine wpList_load_cells (o := ⟨some 14, _, _, _, _, _⟩) rfl 84 (.tmp 13) rfl ⟨s, k * 64, none⟩ rfl (bv (secOf d.img k)) _ (sec_cells2 hcell) Tryd.underlying84 rfl (by rw [infoSec, bv_length, hl64]) ?_)
        | (refine wpList_store_fresh (o := ⟨none, _, _, _, _, _⟩) rfl 84 (.tmp 5) (.tmp 14) rfl (bv (secOf d.img k)).toArray rfl rfl _ _ (by rw [infoSec]; simp [bv_length, hl64]) (by simp [bv_length, hl64]) (bv_all _) ?_)
        | (at_builtin; go_must (refine wpList_append_bys (o := ⟨some 17, _, _, _, _, _⟩) w w.heap.size rfl (.tmp 15) (.tmp 16) 22 5 rfl Tryd.underlying22 info_u8 _ (64 * k) _ rfl (own_below_lt hown (own_lt hown) ((Below.refl _ _).alloc (Nat.le_refl _) _)) (some ⟨_, 0, none⟩) 64 64 (secOf d.img k) rfl (Bys.own (own_new _ _ _ 64 hl64 (by omega))) (hBr.alloc hsz _) (Nat.le_trans hsz (by simp)) (by omega) ?_); go_must (intro v2 w2 hown2 hB2 hg2 hat2 hs2)))
      go_roundw
      case rel =>
        refine ⟨k + 1, hlt, by go_num, hB2, ?_⟩
        have e : 64 * (k + 1) = 64 * k + 64 := by omega
        rw [e, take_sec, bv_append]
        exact hown2
      case measure => simp [intOf]; omega
    · have e : k = n := by omega
      subst e
      clear c0 hs
      go_wp2
      go_ret
      exact RetBys.of hown (by rw [← hlen, List.take_length]) hBr
end Go.Proofs.YtggogenhakdhiaaDoor
