/- The walks of the check sum: the program's Update by its table and the document's, bit by bit, come to the same function. -/
import Derived.Test.YtggogenhakdhiaaDoorProg
import Derived.Test.YtggogenhakdhiaaDoorCrc
import Derived.Test.YtggogenhakdhiaaDoorMem
import Derived.WalkKit
import Derived.KernelRfl
import Derived.Outline
import Derived.Deep.DeepMust
import Derived.Lib.Hide
set_option linter.unusedVariables false
set_option linter.unusedSimpArgs false
namespace Go.Proofs.YtggogenhakdhiaaDoor
open Go.RowKit

/-- a register as a number -/
def un (a : BitVec 32) : Int := a.toNat
theorem un_lo (a : BitVec 32) : 0 ≤ un a := by unfold un; omega
theorem un_hi (a : BitVec 32) : un a < 4294967296 := by have := a.isLt; unfold un; omega
theorem ofInt_un (a : BitVec 32) : BitVec.ofInt 32 (un a) = a := by unfold un; simp
theorem wrap_un (a : BitVec 32) : IntKind.u32.wrap (a.toNat : Int) = un a := by
  have := a.isLt
  unfold un
  rw [IntKind.wrap_u32]; omega
theorem bxor (a b : Int) : bits .xor .u32 a b = un (BitVec.ofInt 32 a ^^^ BitVec.ofInt 32 b) := wrap_un _
theorem band (a b : Int) : bits .and .u32 a b = un (BitVec.ofInt 32 a &&& BitVec.ofInt 32 b) := wrap_un _
theorem max_xor (a : BitVec 32) : BitVec.ofInt 32 IntKind.u32.max ^^^ a = ~~~a := by
  have hm : BitVec.ofInt 32 IntKind.u32.max = BitVec.allOnes 32 := by decide
  rw [hm, BitVec.allOnes_xor]
theorem shr4 (a : BitVec 32) : un a / (16 : Int) = un (a >>> 4) := by
  unfold un
  rw [BitVec.toNat_ushiftRight, Nat.shiftRight_eq_div_pow]; omega
theorem idx_lo (a : BitVec 32) : 0 ≤ un (a &&& 15#32) := un_lo _
theorem idx_hi (a : BitVec 32) : un (a &&& 15#32) < 16 := by have := Crc.and15_lt a; unfold un; omega
theorem idx_nat (a : BitVec 32) : (un (a &&& 15#32)).toNat = (a &&& 15#32).toNat := by unfold un; omega

theorem ofInt_shr4 (a : BitVec 32) : BitVec.ofInt 32 (un a / (16 : Int)) = a >>> 4 := by rw [shr4, ofInt_un]
attribute [local go_sem] bxor band ofInt_un ofInt_shr4 max_xor
theorem step_nibs (x : BitVec 32) (z : Int) (h0 : 0 ≤ z) (h1 : z < 256) :
    Crc.byteStep x z = ((x >>> 4) ^^^ Crc.tab.getD ((x ^^^ BitVec.ofInt 32 z) &&& 15#32).toNat 0#32) >>> 4 ^^^
      Crc.tab.getD ((((x >>> 4) ^^^ Crc.tab.getD ((x ^^^ BitVec.ofInt 32 z) &&& 15#32).toNat 0#32) ^^^ BitVec.ofInt 32 (z / 16)) &&& 15#32).toNat 0#32 := by
  have hn : (BitVec.ofInt 32 z).toNat = z.toNat := by
    rw [BitVec.toNat_ofInt]; omega
  have h8 : (BitVec.ofInt 32 z) >>> 8 = 0#32 := by
    apply BitVec.eq_of_toNat_eq
    rw [BitVec.toNat_ushiftRight, hn, Nat.shiftRight_eq_div_pow]
    simp; omega
  have h4 : (BitVec.ofInt 32 z) >>> 4 = BitVec.ofInt 32 (z / 16) := by
    apply BitVec.eq_of_toNat_eq
    rw [BitVec.toNat_ushiftRight, hn, Nat.shiftRight_eq_div_pow, BitVec.toNat_ofInt]
    omega
  have := Crc.nib_nib x (BitVec.ofInt 32 z) h8
  unfold Crc.byteStep
  rw [← this, h4]
  rfl
/-- the table lies in memory -/
def TabAt (w : World) : Prop := ∀ i, i < 16 → w.cell? ⟨0, i, none⟩ = some (.int .u32 (un (Crc.tab.getD i 0#32)))
theorem TabAt.idx {w : World} (h : TabAt w) (a : BitVec 32) : w.cell? ⟨0, (un (a &&& 15#32)).toNat, none⟩ = some (.int .u32 (un (Crc.tab.getD (a &&& 15#32).toNat 0#32))) := by
  rw [idx_nat]; exact h _ (Crc.and15_lt a)

theorem raw_snoc (r : BitVec 32) (l : List UInt8) (k : Nat) (hk : k < l.length) : Crc.raw r (l.take (k + 1)) = Crc.byteStep (Crc.raw r (l.take k)) ((l.getD k 0).toNat : Int) := by
  unfold Crc.raw
  rw [List.take_succ_eq_append_getElem hk, List.foldl_append]
  simp [List.getD_eq_getElem?_getD, List.getElem?_eq_getElem hk]

theorem par_eq (y : BitVec 32) (z : Int) (m : Nat) (h0 : 0 ≤ z) : un (BitVec.ofInt 32 (z / 2 ^ m % 2) ^^^ BitVec.ofInt 32 (un y % 2)) = ((y.toNat % 2 + z.toNat / 2 ^ m % 2) % 2 : Nat) := by
  obtain ⟨n, rfl⟩ := Int.eq_ofNat_of_zero_le h0
  have e1 : ((n : Int) / 2 ^ m % 2) = ((n / 2 ^ m % 2 : Nat) : Int) := by simp
  have e2 : un y % 2 = ((y.toNat % 2 : Nat) : Int) := by unfold un; omega
  rw [e1, e2]
  have hb : n / 2 ^ m % 2 < 2 := Nat.mod_lt _ (by omega)
  have hr : y.toNat % 2 < 2 := Nat.mod_lt _ (by omega)
  have : ∀ a b : Fin 2, un (BitVec.ofInt 32 ((a.val : Nat) : Int) ^^^ BitVec.ofInt 32 ((b.val : Nat) : Int)) = ((b.val + a.val) % 2 : Nat) := by decide
  have := this ⟨_, hb⟩ ⟨_, hr⟩
  simpa using this
theorem half_eq (y : BitVec 32) : un y / (2 : Int) = un (y >>> 1) := by
  unfold un; rw [BitVec.toNat_ushiftRight, Nat.shiftRight_eq_div_pow]; omega
theorem half_t (y : BitVec 32) : (un y).tdiv (2 : Int) % (4294967296 : Int) = un (y >>> 1) := by
  have h0 := un_lo y
  have h1 := un_hi y
  rw [Int.tdiv_eq_ediv_of_nonneg h0, ← half_eq]; omega
theorem bit_yes (y : BitVec 32) (z : Int) (m : Nat) (h0 : 0 ≤ z) (h : (un (BitVec.ofInt 32 (z / 2 ^ m % 2) ^^^ BitVec.ofInt 32 (un y % 2)) == 1) = true) :
    un (Crc.stp (y ^^^ BitVec.ofNat 32 (z.toNat / 2 ^ m % 2))) = un (BitVec.ofInt 32 ((un y).tdiv 2 % 4294967296) ^^^ 2197175160#32) := by
  rw [par_eq y z m h0, beq_iff_eq] at h
  rw [Crc.stp_bit _ _ (Nat.mod_lt _ (by omega)), if_pos (by omega), half_t, ofInt_un]; rfl
theorem bit_no (y : BitVec 32) (z : Int) (m : Nat) (h0 : 0 ≤ z) (h : (un (BitVec.ofInt 32 (z / 2 ^ m % 2) ^^^ BitVec.ofInt 32 (un y % 2)) == 1) = false) :
    un (Crc.stp (y ^^^ BitVec.ofNat 32 (z.toNat / 2 ^ m % 2))) = (un y).tdiv 2 % 4294967296 := by
  rw [par_eq y z m h0] at h
  have h : ¬ (((y.toNat % 2 + z.toNat / 2 ^ m % 2) % 2 : Nat) : Int) = 1 := by simpa using h
  rw [Crc.stp_bit _ _ (Nat.mod_lt _ (by omega)), if_neg (by omega), half_t]
section
attribute [local go_sem] bxor band ofInt_un ofInt_shr4 max_xor

set_option maxHeartbeats 400000 in
theorem upd_walk (w : World) (crc : BitVec 32) (A : Option Addr) (n c : Nat) (zs : List UInt8) (hb : Bys w A n zs) (ht : TabAt w) :
    Calls Tryd.prog 99 #[.int .u32 (un crc), .slice A n c] w fun e w' => e = .returned (.int .u32 (un (Crc.upd crc zs))) ∧ w' = w := by
  have hm := hb.max
  go_enter Tryd.func99, Tryd.ntmps99
  go_wp2
  go_loop [5, 12] (fun r i => ∃ k : Nat, k ≤ n ∧ i = .int .i64 k ∧ r = .int .u32 (un (Crc.raw (~~~crc) (zs.take k)))) (fun _ i => n - (intOf i).toNat)
  case atStart => exact ⟨0, Nat.zero_le _, rfl, rfl⟩
  case round =>
    obtain ⟨k, hk, rfl, rfl⟩ := hrel
    by_cases hlt : k < n
    · obtain ⟨ad, z, rfl, ez, hcell, hz0, hz1⟩ := hb.at_ k hlt
      have HS := raw_snoc (~~~crc) zs k (by rw [hb.len]; exact hlt)
      rw [← ez] at HS
      clear ez hb
      generalize Crc.raw (~~~crc) (zs.take k) = x at HS
      rw [step_nibs x z hz0 hz1] at HS
      have hw : z % 4294967296 = z := by omega
      have hw2 : z / 16 % 4294967296 = z / 16 := by omega
      have j1 := idx_lo (x ^^^ BitVec.ofInt 32 z)
      have j2 := idx_hi (x ^^^ BitVec.ofInt 32 z)
      have j3 := ht.idx (x ^^^ BitVec.ofInt 32 z)
      generalize Crc.tab.getD ((x ^^^ BitVec.ofInt 32 z) &&& 15#32).toNat 0#32 = t1 at j3 HS
      have l1 := idx_lo (((x >>> 4) ^^^ t1) ^^^ BitVec.ofInt 32 (z / 16))
      have l2 := idx_hi (((x >>> 4) ^^^ t1) ^^^ BitVec.ofInt 32 (z / 16))
      have l3 := ht.idx (((x >>> 4) ^^^ t1) ^^^ BitVec.ofInt 32 (z / 16))
      generalize Crc.tab.getD (((x >>> 4) ^^^ t1 ^^^ BitVec.ofInt 32 (z / 16)) &&& 15#32).toNat 0#32 = t2 at l3 HS
      replace HS := Go.Lib.hid HS
      clear ht
      go_wp2
      go_round
      case rel => exact ⟨k + 1, by omega, by go_num, by rw [HS.out]⟩
      case measure => simp [intOf]; omega
    · have hk' : k = zs.length := by rw [hb.len]; omega
      have HT : Hid (zs.take k = zs) := Go.Lib.hid (by rw [hk']; exact List.take_length)
      clear hk' hb
      go_wp2
      go_ret
      refine ⟨?_, rfl⟩
      rw [HT.out]; rfl

set_option maxHeartbeats 800000 in
theorem rupd_walk (w : World) (crc : BitVec 32) (A : Option Addr) (n c : Nat) (zs : List UInt8) (hb : Bys w A n zs) :
    Calls Tryd.prog 110 #[.int .u32 (un crc), .slice A n c] w fun e w' => e = .returned (.int .u32 (un (Crc.upd crc zs))) ∧ w' = w := by
  have hm := hb.max
  go_enter Tryd.func110, Tryd.ntmps110
  go_wp2
  go_loop [5, 6, 7, 8] (fun r i _ _ => ∃ k : Nat, k ≤ n ∧ i = .int .i64 k ∧ r = .int .u32 (un (Crc.raw (~~~crc) (zs.take k)))) (fun _ i _ _ => n - (intOf i).toNat)
  case atStart => exact ⟨0, Nat.zero_le _, rfl, rfl⟩
  case round =>
    obtain ⟨k, hk, rfl, rfl⟩ := hrel
    by_cases hlt : k < n
    · obtain ⟨ad, z, rfl, ez, hcell, hz0, hz1⟩ := hb.at_ k hlt
      have HS := raw_snoc (~~~crc) zs k (by rw [hb.len]; exact hlt)
      rw [← ez] at HS
      clear ez hb
      generalize Crc.raw (~~~crc) (zs.take k) = x at HS
      replace HS := Go.Lib.hid HS
      go_wp2
      go_loop [5, 7, 8] (fun r j _ => ∃ m : Nat, m ≤ 8 ∧ j = .int .i64 m ∧ r = .int .u32 (un (Crc.part x z m))) (fun _ j _ => 8 - (intOf j).toNat)
      case atStart => exact ⟨0, by omega, rfl, by rw [Crc.part_zero]⟩
      case round =>
        obtain ⟨m, hm8, rfl, rfl⟩ := hrel
        by_cases hlt8 : m < 8
        · have HP := Go.Lib.hid (Crc.part_succ x z m hz0 hz1 hlt8)
          generalize Crc.part x z m = y at HP
          have hy := un_lo y
          go_wp2
          · have ht : (un (BitVec.ofInt 32 (z / 2 ^ m % 2) ^^^ BitVec.ofInt 32 (un y % 2)) == 1) = true := by assumption
            go_round
            case rel => exact ⟨m + 1, by omega, by go_num, by rw [HP.out, bit_yes y z m hz0 ht]⟩
            case measure => simp [intOf]; omega
          · have ht : (un (BitVec.ofInt 32 (z / 2 ^ m % 2) ^^^ BitVec.ofInt 32 (un y % 2)) == 1) = false := by assumption
            go_round
            case rel => exact ⟨m + 1, by omega, by go_num, by rw [HP.out, bit_no y z m hz0 ht]⟩
            case measure => simp [intOf]; omega
        · obtain rfl : m = 8 := by omega
          go_wp2
          go_round
          case rel => exact ⟨k + 1, by omega, by go_num, by rw [HS.out, Crc.part_eight x z hz0 hz1]⟩
          case measure => simp [intOf]; omega
    · have hk' : k = zs.length := by rw [hb.len]; omega
      have HT : Hid (zs.take k = zs) := Go.Lib.hid (by rw [hk']; exact List.take_length)
      clear hk' hb
      go_wp2
      go_ret
      refine ⟨?_, rfl⟩
      rw [HT.out]; rfl

theorem un_zero : un 0#32 = 0 := rfl
theorem sum_walk (w : World) (A : Option Addr) (n c : Nat) (zs : List UInt8) (hb : Bys w A n zs) (ht : TabAt w) :
    Calls Tryd.prog 100 #[.slice A n c] w fun e w' => e = .returned (.int .u32 (un (Crc.upd 0#32 zs))) ∧ w = w' := by
  have H := upd_walk w 0#32 A n c zs hb ht
  rw [un_zero] at H
  go_enter Tryd.func100, Tryd.ntmps100
  go_wp2_with (go_at_call 99; refine H.mono ?_; rintro e w' ⟨rfl, rfl⟩)
  go_ret
  exact ⟨rfl, rfl⟩
theorem rsum_walk (w : World) (A : Option Addr) (n c : Nat) (zs : List UInt8) (hb : Bys w A n zs) :
    Calls Tryd.prog 96 #[.slice A n c] w fun e w' => e = .returned (.int .u32 (un (Crc.upd 0#32 zs))) ∧ w = w' := by
  have H := rupd_walk w 0#32 A n c zs hb
  rw [un_zero] at H
  go_enter Tryd.func96, Tryd.ntmps96
  go_wp2_with (go_at_call 110; refine H.mono ?_; rintro e w' ⟨rfl, rfl⟩)
  go_ret
  exact ⟨rfl, rfl⟩
end
end Go.Proofs.YtggogenhakdhiaaDoor
