/- The sums, called in a region whose order is open. -/
import Derived.Test.YtggogenhakdhiaaDoorSumCore
import Derived.Deep.QuietTactic
import Derived.BigQuiet
set_option linter.unusedVariables false
namespace Go.Proofs.YtggogenhakdhiaaDoor
open Go.RowKit

theorem sum_quiet (w : World) (m : Nat) (A : Option Addr) (n c : Nat) (zs : List UInt8) (hb : Bys w A n zs) (ht : TabAt w) :
    Calls Tryd.prog 100 #[.slice A n c] (w.drewN m) fun e w' => e = .returned (.int .u32 (un (Crc.upd 0#32 zs))) ∧ ∃ k, w' = w.drewN k :=
  (sum_walk (w.drewN m) A n c zs ⟨hb.len, hb.max, hb.cell⟩ ht).mono fun _ _ ⟨he, hw⟩ => ⟨he, m, hw.symm⟩
theorem rsum_quiet (w : World) (m : Nat) (A : Option Addr) (n c : Nat) (zs : List UInt8) (hb : Bys w A n zs) :
    Calls Tryd.prog 96 #[.slice A n c] (w.drewN m) fun e w' => e = .returned (.int .u32 (un (Crc.upd 0#32 zs))) ∧ ∃ k, w' = w.drewN k :=
  (rsum_walk (w.drewN m) A n c zs ⟨hb.len, hb.max, hb.cell⟩).mono fun _ _ ⟨he, hw⟩ => ⟨he, m, hw.symm⟩
theorem upd_quiet (w : World) (m : Nat) (crc : BitVec 32) (A : Option Addr) (n c : Nat) (zs : List UInt8) (hb : Bys w A n zs) (ht : TabAt w) :
    Calls Tryd.prog 99 #[.int .u32 (un crc), .slice A n c] (w.drewN m) fun e w' => e = .returned (.int .u32 (un (Crc.upd crc zs))) ∧ ∃ k, w' = w.drewN k :=
  (upd_walk (w.drewN m) crc A n c zs ⟨hb.len, hb.max, hb.cell⟩ ht).mono fun _ _ ⟨he, hw⟩ => ⟨he, m, hw⟩
theorem rupd_quiet (w : World) (m : Nat) (crc : BitVec 32) (A : Option Addr) (n c : Nat) (zs : List UInt8) (hb : Bys w A n zs) :
    Calls Tryd.prog 110 #[.int .u32 (un crc), .slice A n c] (w.drewN m) fun e w' => e = .returned (.int .u32 (un (Crc.upd crc zs))) ∧ ∃ k, w' = w.drewN k :=
  (rupd_walk (w.drewN m) crc A n c zs ⟨hb.len, hb.max, hb.cell⟩).mono fun _ _ ⟨he, hw⟩ => ⟨he, m, hw⟩

theorem TabAt.below {w w' : World} (h : TabAt w) (hb : Below w.heap.size w w') : TabAt w' := fun i hi => cell_below hb (h i hi)
end Go.Proofs.YtggogenhakdhiaaDoor
