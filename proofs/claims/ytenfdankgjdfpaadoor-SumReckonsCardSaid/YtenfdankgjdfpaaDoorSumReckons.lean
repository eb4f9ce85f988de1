/- The law SumReckons, walked. -/
import Derived.Test.YtenfdankgjdfpaaDoorSum
import Derived.Test.YtenfdankgjdfpaaDoorRow
import Derived.Deep.QuietTactic
import Derived.BigQuiet
set_option linter.unusedVariables false
set_option linter.unusedSimpArgs false
namespace Go.Proofs.YtenfdankgjdfpaaDoor
open Go.RowKit

theorem sum_quiet (w : World) (m : Nat) (A : Option Addr) (n c : Nat) (zs : List UInt8) (hb : Bys w A n zs) (ht : TabAt w) :
    Calls Tryd.prog 7 #[.slice A n c] (w.drewN m) fun e w' => e = .returned (.int .u32 (un (Crc.upd 0#32 zs))) ∧ ∃ k, w' = w.drewN k :=
  (sum_walk (w.drewN m) A n c zs ⟨hb.len, hb.max, hb.cell⟩ ht).mono fun _ _ ⟨he, hw⟩ => ⟨he, m, hw.symm⟩
theorem rsum_quiet (w : World) (m : Nat) (A : Option Addr) (n c : Nat) (zs : List UInt8) (hb : Bys w A n zs) :
    Calls Tryd.prog 8 #[.slice A n c] (w.drewN m) fun e w' => e = .returned (.int .u32 (un (Crc.upd 0#32 zs))) ∧ ∃ k, w' = w.drewN k :=
  (rsum_walk (w.drewN m) A n c zs ⟨hb.len, hb.max, hb.cell⟩).mono fun _ _ ⟨he, hw⟩ => ⟨he, m, hw.symm⟩
theorem upd_quiet (w : World) (m : Nat) (crc : BitVec 32) (A : Option Addr) (n c : Nat) (zs : List UInt8) (hb : Bys w A n zs) (ht : TabAt w) :
    Calls Tryd.prog 9 #[.int .u32 (un crc), .slice A n c] (w.drewN m) fun e w' => e = .returned (.int .u32 (un (Crc.upd crc zs))) ∧ ∃ k, w' = w.drewN k :=
  (upd_walk (w.drewN m) crc A n c zs ⟨hb.len, hb.max, hb.cell⟩ ht).mono fun _ _ ⟨he, hw⟩ => ⟨he, m, hw⟩
theorem rupd_quiet (w : World) (m : Nat) (crc : BitVec 32) (A : Option Addr) (n c : Nat) (zs : List UInt8) (hb : Bys w A n zs) :
    Calls Tryd.prog 10 #[.int .u32 (un crc), .slice A n c] (w.drewN m) fun e w' => e = .returned (.int .u32 (un (Crc.upd crc zs))) ∧ ∃ k, w' = w.drewN k :=
  (rupd_walk (w.drewN m) crc A n c zs ⟨hb.len, hb.max, hb.cell⟩).mono fun _ _ ⟨he, hw⟩ => ⟨he, m, hw⟩

theorem TabAt.below {w w' : World} (h : TabAt w) (hb : Below w.heap.size w w') : TabAt w' := fun i hi => cell_below hb (h i hi)

set_option maxHeartbeats 1000000 in
theorem reckons_walk (w : World) (A : Option Addr) (n c : Nat) (zs : List UInt8) (crc : BitVec 32) (hb : Bys w A n zs) (ht : TabAt w) (hn : n ≤ 140737488351232) :
    Calls Tryd.prog 3 #[.slice A n c, .int .u32 (un crc)] w (LawPost w) := by
  go_enter Tryd.func3, Tryd.ntmps3
  go_wp2_with (first
    | (at_builtin; refine wpList_append_bys (o := ⟨some 8, _, _, _, _, _⟩) w w.heap.size rfl (.tmp 6) (.tmp 7) 22 5 rfl Tryd.underlying22 info_u8 _ 0 [] rfl (own_empty _ _ _ _ _ (Nat.le_refl _) (heap_alloc_new w _)) A n c zs rfl (hb.below ((Below.refl _ _).alloc (Nat.le_refl _) _)) ((Below.refl _ _).alloc (Nat.le_refl _) _) (by simp) (by omega) ?_; intro v1 w1 hown1 hB1 hg1 hat1 hs1)
    | (at_builtin; refine wpList_append_bys (o := ⟨some 10, _, _, _, _, _⟩) w w.heap.size rfl (.tmp 8) (.tmp 9) 22 5 rfl Tryd.underlying22 info_u8 _ (0 + n) ([] ++ bv zs) rfl (hown1.alloc _) _ 1 1 [9] rfl (Bys.new w1 _ _ [9] rfl (by simp)) (hB1.alloc hs1 _) (by simp; omega) (by omega) ?_; intro v2 w2 hown2 hB2 hg2 hat2 hs2))
  obtain ⟨g, cap, hv, _, _, hcap, hcap2, hcells⟩ := own_some hown2 (by omega)
  subst hv
  have hall : Bys w2 (some ⟨g, 0, none⟩) (n + 1) (zs ++ [9]) := bys_of_cells (by simp [hb.len]) (by omega) (by simpa [bv_append] using hcells)
  have hhead : Bys w2 (some ⟨g, 0, none⟩) n zs := by
    have := hall.take n (by omega)
    rwa [List.take_left' hb.len] at this
  have hnine : w2.cell? ⟨g, n, none⟩ = some (.int .u8 9) := hcells n _ (by simp [bv_append, bv, hb.len])
  have ht2 : TabAt w2 := ht.below hB2
  have hb2 : Bys w2 A n zs := hb.below hB2
  have hcap' : n ≤ cap := by omega
  have hs1 := fun (m c : Nat) => (Bys.string (w := w2.drewN m) ⟨hhead.len, hhead.max, hhead.cell⟩ (P := Tryd.prog) Tryd.underlying22 Tryd.underlying5 Tryd.underlying9 c)
  have hs2 := fun (m c : Nat) => (Bys.string (w := w2.drewN m) ⟨hb2.len, hb2.max, hb2.cell⟩ (P := Tryd.prog) Tryd.underlying22 Tryd.underlying5 Tryd.underlying9 c)
  clear hcells hall hown2 hown1 hg1 hg2 hat1 hat2
  go_quiet ((first
    | (go_at_call 7; exact sum_quiet w2 _ _ _ _ _ hhead ht2)
    | (go_at_call 8; exact rsum_quiet w2 _ _ _ _ _ hb2)
    | (go_at_call 9; exact upd_quiet w2 _ _ _ _ _ _ hhead ht2)
    | (go_at_call 10; exact rupd_quiet w2 _ _ _ _ _ _ hb2)))
  go_wp2
  go_ret
  exact ⟨rfl, below_drewN hB2 _⟩
end Go.Proofs.YtenfdankgjdfpaaDoor
