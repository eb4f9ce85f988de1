/- The law's sector: bytes made to be a sector. -/
import Derived.Test.YtenfdankgjdfpaaDskNew
set_option linter.unusedVariables false
set_option linter.unusedSimpArgs false
namespace Go.Proofs.Ytenfdankgjdfpaa
open Go.RowKit

/-- a sector made of some bytes -/
def secBytes (zs : List UInt8) : List UInt8 := zs.take 64 ++ List.replicate (64 - zs.length) 0
theorem secBytes_length (zs : List UInt8) : (secBytes zs).length = 64 := by
  unfold secBytes
  rw [List.length_append, List.length_take, List.length_replicate]
  omega
/-- sixty-four zeros (under a name: laid open it is a long list) -/
def z64 : List UInt8 := List.replicate 64 0
theorem z64_length : z64.length = 64 := by unfold z64; rw [List.length_replicate]
theorem made64 : madeCells (Value.int .u8 0).cells (64 * 1) = (bv z64).toArray := made_zeros _ 1 64 rfl (by omega)
theorem sec_lay (zs : List UInt8) : ((bv z64).toArray.toList.take 0 ++ (bv (zs.take 64) ++ (bv z64).toArray.toList.drop (0 + (bv (zs.take 64)).length))).toArray = (bv (secBytes zs)).toArray := by
  have e : (bv z64).drop (0 + (bv (zs.take 64)).length) = bv (List.replicate (64 - zs.length) 0) := by
    unfold bv z64
    rw [← List.map_drop, List.drop_replicate, List.length_map, List.length_take]
    congr 2
    omega
  rw [List.take_zero, List.nil_append]
  show (bv (zs.take 64) ++ (bv z64).drop (0 + (bv (zs.take 64)).length)).toArray = _
  rw [e, ← bv_append]
  rfl
set_option maxHeartbeats 1000000 in
theorem sector_some (w : World) (ad : Addr) (n c : Nat) (zs : List UInt8) (hb : Bys w (some ad) n zs) :
    Calls Try.prog 14 #[.slice (some ad) n c] w (RetBys w.heap.size 5 (secBytes zs) w) := by
  have hl := hb.len
  have hq : (bv (zs.take 64)).length = Nat.min n 64 := by rw [bv_length, List.length_take, hl, Nat.min_comm]
  have hq2 : 0 + (bv (zs.take 64)).length ≤ (bv z64).toArray.size := by
    rw [bv_length, List.length_take]; rw [List.size_toArray, bv_length, z64_length, Nat.zero_add]; exact Nat.min_le_left _ _
  have hn1 : ∀ j u, (bv (zs.take 64))[j]? = some u → (w.alloc (.cells (bv z64).toArray 5)).cell? (ad.add j) = some u := by
    intro j u hu
    refine (hb.below ((Below.refl _ _).alloc (Nat.le_refl _) _)).news j u ?_
    rw [bv_getElem?] at hu ⊢
    by_cases hj : j < 64
    · rwa [List.getElem?_take, if_pos hj] at hu
    · rw [List.getElem?_take, if_neg hj] at hu; simp at hu
  go_enter Try.func14, Try.ntmps14
  go_wp2_with (first
    | (at_make; go_must (refine wpList_make (o := ⟨some 4, _, _, _, _, _⟩) rfl 39 5 (.const (.int .i64 64)) rfl 64 rfl (.int .u8 0) 1 1 Try.underlying39 info_u8 (by omega) (by omega) ?_; rw [made64]))
    | ((with_reducible show wpList _ _ _ (Oper.mk (some 7) _ _ _ _ _ :: _) _ _); refine wpList_copy_own (o := ⟨some 7, _, _, _, _, _⟩) rfl (.tmp 5) (.tmp 6) 39 39 rfl 5 Try.underlying39 infoU8 w.heap.size 0 64 64 ad n c rfl rfl _ 5 (heap_alloc_new w _) (bv (zs.take 64)) hq hn1 hq2 (bv_one _) ?_; rw [setRow_alloc, sec_lay]))
  go_ret
  exact RetBys.of (own_new w _ _ 64 (secBytes_length zs) (by omega)) rfl ((Below.refl _ _).alloc (Nat.le_refl _) _)
theorem sector_none (w : World) (n c : Nat) (zs : List UInt8) (hb : Bys w none n zs) :
    Calls Try.prog 14 #[.slice none n c] w (RetBys w.heap.size 5 (secBytes zs) w) := by
  have hz : zs = [] := by
    cases zs with
    | nil => rfl
    | cons z zs => obtain ⟨ad, _, e, _⟩ := hb.at_ 0 (by have := hb.len; simp at this; omega); cases e
  subst hz
  have hn : n = 0 := by have := hb.len; simpa using this.symm
  subst hn
  go_enter Try.func14, Try.ntmps14
  go_wp2_with (first
    | (at_make; go_must (refine wpList_make (o := ⟨some 4, _, _, _, _, _⟩) rfl 39 5 (.const (.int .i64 64)) rfl 64 rfl (.int .u8 0) 1 1 Try.underlying39 info_u8 (by omega) (by omega) ?_; rw [made64]))
    | ((with_reducible show wpList _ _ _ (Oper.mk (some 7) _ _ _ _ _ :: _) _ _); refine wpList_copy_nothing (o := ⟨some 7, _, _, _, _, _⟩) rfl (.tmp 5) (.tmp 6) 39 39 rfl 5 Try.underlying39 infoU8 (some ⟨w.heap.size, 0, none⟩) none 64 64 0 c rfl rfl rfl ?_))
  go_ret
  exact RetBys.of (own_new w _ (secBytes []) 64 (secBytes_length _) (by omega)) rfl ((Below.refl _ _).alloc (Nat.le_refl _) _)
theorem sector_walk (w : World) (A : Option Addr) (n c : Nat) (zs : List UInt8) (hb : Bys w A n zs) :
    Calls Try.prog 14 #[.slice A n c] w (RetBys w.heap.size 5 (secBytes zs) w) := by
  cases A with
  | none => exact sector_none w n c zs hb
  | some ad => exact sector_some w ad n c zs hb
end Go.Proofs.Ytenfdankgjdfpaa
