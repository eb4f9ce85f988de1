/- A record's sectors, both sides, walked. -/
import Derived.Test.YtggogenhakdhiaaDoorWalHead
import Derived.Deep.RegionHeldLaw
import Derived.Deep.DrawnRows
attribute [local go_sem ↓] Go.wp_at_zero Go.wp_at_succ
set_option linter.unusedVariables false
set_option linter.unusedSimpArgs false
namespace Go.Proofs.YtggogenhakdhiaaDoor
open Go.RowKit

theorem crc_append (crc : BitVec 32) (l m : List UInt8) : Crc.upd crc (l ++ m) = Crc.upd (Crc.upd crc l) m := by
  simp [Crc.upd, Crc.raw]

/-- what stands ahead of the sum -/
def pre6 (k n : Nat) : List UInt8 := [82, UInt8.ofNat k] ++ le n 4
def pre10 (k : Nat) (l : List UInt8) : List UInt8 := pre6 k l.length ++ le (Crc.upd 0#32 (pre6 k l.length ++ l)).toNat 4
/-- a record's sectors -/
def packB (k : Nat) (l : List UInt8) : List UInt8 := pre10 k l ++ l ++ List.replicate (64 * secs l.length - (10 + l.length)) 0
theorem pre6_length (k n : Nat) : (pre6 k n).length = 6 := by unfold pre6; rw [List.length_append, le_length]; rfl
theorem pre10_length (k : Nat) (l : List UInt8) : (pre10 k l).length = 10 := by unfold pre10; rw [List.length_append, pre6_length, le_length]
theorem secs_le (n : Nat) : 10 + n ≤ 64 * secs n := by unfold secs; omega
theorem packB_length (k : Nat) (l : List UInt8) : (packB k l).length = 64 * secs l.length := by
  have := secs_le l.length
  unfold packB
  rw [List.length_append, List.length_append, pre10_length, List.length_replicate]
  omega
theorem two_cells (k : Nat) (hk : k < 256) : (#[Value.int .u8 82, .int .u8 (k : Int)] : Array Value).toList = bv [82, UInt8.ofNat k] := by
  simp [bv, Nat.mod_eq_of_lt hk]
set_option maxHeartbeats 300000 in
set_option maxRecDepth 20000 in
theorem pack_walk (w : World) (k : Nat) (A : Option Addr) (c : Nat) (l : List UInt8) (hb : Bys w A l.length l) (hk : k < 256) (hn : l.length ≤ 1000000) (ht : TabAt w) :
    Calls Tryd.prog 61 #[.agg #[.int .i64 k, .slice A l.length c]] w (RetBys w.heap.size 5 (packB k l) w) := by
  have hkw : IntKind.u8.wrap (k : Int) = (k : Int) := by rw [IntKind.wrap_u8]; omega
  have hlw : IntKind.u64.wrap (l.length : Int) = (l.length : Int) := by rw [IntKind.wrap_u64]; omega
  go_enter Tryd.func61, Tryd.ntmps61
  go_upto_region 2 with fail
  have hB0 : Below w.heap.size w ((w.alloc (.cells #[.int .i64 k, .slice A l.length c] 50)).alloc (.cells #[.int .u8 82, .int .u8 k] 5)) := ((Below.refl _ _).alloc (Nat.le_refl _) _).alloc (by simp) _
  have hbx : ((w.alloc (.cells #[.int .i64 k, .slice A l.length c] 50)).alloc (.cells #[.int .u8 82, .int .u8 k] 5)).heap[w.heap.size]? = some (.cells #[.int .i64 k, .slice A l.length c] 50) := by
    rw [← heap_alloc_new w (.cells #[.int .i64 k, .slice A l.length c] 50)]
    exact ((Below.refl (w.alloc (.cells #[.int .i64 k, .slice A l.length c] 50)).heap.size (w.alloc (.cells #[.int .i64 k, .slice A l.length c] 50))).alloc (Nat.le_refl _) (.cells #[.int .u8 82, .int .u8 k] 5)).block w.heap.size (by simp)
  have hO : ((w.alloc (.cells #[.int .i64 k, .slice A l.length c] 50)).alloc (.cells #[.int .u8 82, .int .u8 k] 5)).ownsRow (w.heap.size + 1) 5 1 (.slice (some ⟨(w.alloc (.cells #[.int .i64 k, .slice A l.length c] 50)).heap.size, 0, none⟩) 2 2) 2 (bv [82, UInt8.ofNat k]) := by
    rw [← two_cells k hk]
    exact World.ownsRow_lit (base := w.heap.size + 1) (size := 1) (w.alloc (.cells #[.int .i64 k, .slice A l.length c] 50)) _ 2 (by simp) (by simp only [maxLen]; omega) rfl
  rw [World.heap_alloc_size] at hO
  have hz0 := hB0.size
  have hgl : w.heap.size < ((w.alloc (.cells #[.int .i64 k, .slice A l.length c] 50)).alloc (.cells #[.int .u8 82, .int .u8 k] 5)).heap.size := by simp; omega
  generalize (w.alloc (.cells #[.int .i64 k, .slice A l.length c] 50)).alloc (.cells #[.int .u8 82, .int .u8 k] 5) = W at *
  obtain ⟨g1, hg1⟩ : ∃ x, x = w.heap.size + 1 := ⟨_, rfl⟩
  rw [← hg1] at hO ⊢
  have hg2 : w.heap.size < g1 := by omega
  have hg3 : g1 ≤ W.heap.size := by omega
  clear hg1
  have x1 : W.cell? ⟨w.heap.size, 1, none⟩ = some (.slice A l.length c) := by rw [cell_of_row W w.heap.size 1 _ _ _ hbx]; rfl
  have H1 : Calls Tryd.prog 98 #[.slice (some ⟨g1, 0, none⟩) 2 2, .int .u64 (l.length : Nat), .int .i64 (4 : Nat)] W (RetBys g1 5 (pre6 k l.length) W) := little_walk W g1 _ 2 [82, UInt8.ofNat k] l.length 4 (.inl hO) (by omega) hg3 (by omega) (by simp)
  have h6 := pre6_length k l.length
  have h10 := pre10_length k l
  have hpk : packB k l = pre10 k l ++ l ++ List.replicate (64 * secs l.length - (10 + l.length)) 0 := rfl
  have hp10 : pre10 k l = pre6 k l.length ++ le (Crc.upd 0#32 (pre6 k l.length ++ l)).toNat 4 := rfl
  have hcl : (Crc.upd 0#32 (pre6 k l.length ++ l)).toNat < 18446744073709551616 := by have := (Crc.upd 0#32 (pre6 k l.length ++ l)).isLt; omega
  rw [crc_append] at hp10 hcl
  generalize pre10 k l = p10 at *
  generalize pre6 k l.length = p6 at *
  generalize packB k l = pk at *
  replace hpk := Go.Lib.hid hpk
  replace hp10 := Go.Lib.hid hp10
  replace h10 := Go.Lib.hid h10
  replace h6 := Go.Lib.hid h6
  go_upto_region 3 with (go_at_call 98; go_must (refine H1.mono ?_; intro e w1 hR; obtain ⟨A1, c1, rfl, hown1, hB1⟩ := hR.len (show p6.length = 6 from h6)))
  have hz1 := hB1.size
  have hB01 : Below w.heap.size w w1 := hB0.trans (hB1.mono (Nat.le_of_lt hg2))
  have x2 : w1.cell? ⟨w.heap.size, 1, none⟩ = some (.slice A l.length c) := (hB1.cell hg2).trans x1
  have hby1 : Bys w1 A1 6 p6 := Bys.own hown1
  have hd1 : Below w1.heap.size w1 w1.drew := below_drew (Below.refl _ _)
  have HS := sum_walk w1.drew A1 6 c1 p6 (hby1.below hd1) ((ht.below hB01).below hd1)
  have HU := upd_walk w1.drew (Crc.upd 0#32 p6) A l.length c l ((hb.below hB01).below hd1) ((ht.below hB01).below hd1)
  have HL := little_walk w1.drew g1 A1 c1 p6 (Crc.upd (Crc.upd 0#32 p6) l).toNat 4 (.inl (by rw [show p6.length = 6 from h6]; exact hown1)) (by omega) (by show g1 ≤ w1.heap.size; omega) hcl (by rw [show p6.length = 6 from h6]; omega)
  rw [show p6.length = 6 from h6, ← show p10 = p6 ++ le (Crc.upd (Crc.upd 0#32 p6) l).toNat 4 from hp10] at HL
  generalize Crc.upd (Crc.upd 0#32 p6) l = cr at *
  generalize Crc.upd 0#32 p6 = cr0 at *
  have hcw : IntKind.u64.wrap ((cr.toNat : Nat) : Int) = ((cr.toNat : Nat) : Int) := by rw [IntKind.wrap_u64]; omega
  clear H1 hp10 hO x1 hbx
  go_region_held_law (fun w' => w'.cell? ⟨w.heap.size, 1, none⟩ = some (.slice A l.length c)) (first | go_keep | exact x3) ((first
    | (go_at_call 100; refine HS.mono ?_; rintro e w2 ⟨rfl, rfl⟩)
    | (go_at_call 99; refine HU.mono ?_; rintro e w2 ⟨rfl, rfl⟩; rw [un_u64 cr])
    | (go_at_call 98; refine HL.mono ?_; intro e w2 hR; obtain ⟨A2, c2, rfl, hown2, hB2⟩ := hR.len (show p10.length = 10 from h10); have x3 : w2.cell? ⟨w.heap.size, 1, none⟩ = some (.slice A l.length c) := (hB2.cell hg2).trans x2)))
  have hz2 := hB2.size
  have hz12 : w1.heap.size ≤ w2.heap.size := hz2
  have hB02 : Below w.heap.size w w2 := hB01.trans ((below_drew (Below.refl _ _)).trans (hB2.mono (Nat.le_of_lt hg2)))
  have hbl2 := hb.below hB02
  have hsec := secs_le l.length
  have hsn : secs l.length ≤ 16000 := by unfold secs; omega
  obtain ⟨sn, hsn2⟩ : ∃ x, x = secs l.length := ⟨_, rfl⟩
  have HC := fun W => sectors_walk' W l.length (by omega)
  rw [← hsn2] at hsec hsn HC
  have hpk2 : pk = p10 ++ l ++ List.replicate (64 * sn - (10 + l.length)) 0 := by rw [hsn2]; exact hpk
  replace hpk2 := Go.Lib.hid hpk2
  obtain ⟨zn, hzn⟩ : ∃ x, x = 64 * sn - (10 + l.length) := ⟨_, rfl⟩
  obtain ⟨m64, hm64⟩ : ∃ x, x = 64 * sn := ⟨_, rfl⟩
  obtain ⟨n10, hn10⟩ : ∃ x, x = 10 + l.length := ⟨_, rfl⟩
  have hs1 : IntKind.i64.wrap ((sn : Int) * 64) = (m64 : Int) := by rw [IntKind.wrap_i64]; omega
  have hs2 : IntKind.i64.wrap ((m64 : Int) - (n10 : Int)) = (zn : Int) := by rw [IntKind.wrap_i64]; omega
  have hz3 : zn ≤ 2000000 := by omega
  have hn3 : n10 ≤ 2000000 := by omega
  have hpk3 : pk = (p10 ++ l) ++ List.replicate zn 0 := by rw [hzn]; exact hpk2
  have hg4 : g1 ≤ w2.heap.size := by omega
  clear hsn2 HS HU HL hown1 hm64 hzn hsec hpk hpk2
  replace hpk3 := Go.Lib.hid hpk3
  replace hn10 := Go.Lib.hid hn10
  go_wp2_with (first
    | (at_builtin; refine wpList_append_bys (o := ⟨some 25, _, _, _, _, _⟩) w2 g1 rfl (.tmp 22) (.tmp 24) 22 5 rfl Tryd.underlying22 info_b _ 10 (bv p10) rfl hown2 A l.length c l rfl hbl2 (Below.refl _ _) hg4 (by omega) ?_; intro v3 w3 hown3 hB3 hg33 hat3 hs3; rw [← show n10 = 10 + l.length from hn10] at hown3; obtain ⟨A3, c3, hv3⟩ := own_slice hown3; subst hv3; have x4 := (hB3.cell hg2).trans x3)
    | (go_at_call 59; refine (HC w3).mono ?_; rintro e w4 ⟨rfl, rfl⟩)
    | (at_builtin; refine wpList_append_z (o := ⟨some 35, _, _, _, _, _⟩) w3 g1 rfl (.tmp 26) (.tmp 34) 22 3 5 rfl Tryd.underlying22 Tryd.underlying3 info_b _ n10 (bv p10 ++ bv l) rfl hown3 .i64 zn rfl (Below.refl _ _) hs3 (by omega) ?_; intro v5 w5 hown5 hB5 hs5))
  go_ret
  refine RetBys.of (own_lo hown5 (Nat.le_of_lt hg2)) (by rw [show pk = _ from hpk3, bv_append, bv_append]) ?_
  exact hB02.trans ((hB3.trans hB5).mono (Nat.le_of_lt hg2))
end Go.Proofs.YtggogenhakdhiaaDoor
