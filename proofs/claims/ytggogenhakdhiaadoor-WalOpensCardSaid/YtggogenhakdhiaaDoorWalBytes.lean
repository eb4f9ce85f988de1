/- A record's sectors, the document's way, walked. -/
import Derived.Test.YtggogenhakdhiaaDoorWalPack
import Derived.Test.YtggogenhakdhiaaDoorDskRdv
import Derived.Deep.RegionHeldLaw
import Derived.Deep.DrawnRows
attribute [local go_sem ↓] Go.wp_at_zero Go.wp_at_succ
set_option linter.unusedVariables false
set_option linter.unusedSimpArgs false
namespace Go.Proofs.YtggogenhakdhiaaDoor
open Go.RowKit

theorem Bys.rdv {w : World} {A : Option Addr} {n : Nat} {l : List UInt8} (h : Bys w A n l) : Rdv w A n (bv l) :=
  ⟨by rw [bv_length, h.len], fun i u hu => by
    rw [bv_getElem?] at hu
    obtain ⟨b, hb, rfl⟩ := Option.map_eq_some_iff.1 hu
    have hi : i < l.length := (List.getElem?_eq_some_iff.1 hb).1
    have hl := h.len
    obtain ⟨ad, e, hc⟩ := h.cell i (by omega)
    refine ⟨ad, e, ?_⟩
    rw [hc, List.getD_eq_getElem?_getD, hb]
    rfl⟩
/-- how long a slice is -/
def slLen : Value → Nat | .slice _ n _ => n | _ => 0
set_option maxHeartbeats 1000000 in
set_option maxRecDepth 20000 in
theorem bytes_walk (w : World) (k : Nat) (A : Option Addr) (c : Nat) (l : List UInt8) (hb : Bys w A l.length l) (hk : k < 256) (hn : l.length ≤ 1000000) :
    Calls Tryd.prog 97 #[.agg #[.int .i64 k, .slice A l.length c]] w (RetBys w.heap.size 5 (packB k l) w) := by
  have hkw : IntKind.u8.wrap (k : Int) = (k : Int) := by rw [IntKind.wrap_u8]; omega
  have hlw : IntKind.u64.wrap (l.length : Int) = (l.length : Int) := by rw [IntKind.wrap_u64]; omega
  have hB0 : Below w.heap.size w ((w.alloc (.cells #[.int .i64 k, .slice A l.length c] 102)).alloc (.cells #[.int .u8 82, .int .u8 k] 5)) := ((Below.refl _ _).alloc (Nat.le_refl _) _).alloc (by simp) _
  have hbx : ((w.alloc (.cells #[.int .i64 k, .slice A l.length c] 102)).alloc (.cells #[.int .u8 82, .int .u8 k] 5)).heap[w.heap.size]? = some (.cells #[.int .i64 k, .slice A l.length c] 102) := by
    rw [← heap_alloc_new w (.cells #[.int .i64 k, .slice A l.length c] 102)]
    exact ((Below.refl (w.alloc (.cells #[.int .i64 k, .slice A l.length c] 102)).heap.size (w.alloc (.cells #[.int .i64 k, .slice A l.length c] 102))).alloc (Nat.le_refl _) (.cells #[.int .u8 82, .int .u8 k] 5)).block w.heap.size (by simp)
  have hO : ((w.alloc (.cells #[.int .i64 k, .slice A l.length c] 102)).alloc (.cells #[.int .u8 82, .int .u8 k] 5)).ownsRow (w.heap.size + 1) 5 1 (.slice (some ⟨(w.alloc (.cells #[.int .i64 k, .slice A l.length c] 102)).heap.size, 0, none⟩) 2 2) 2 (bv [82, UInt8.ofNat k]) := by
    rw [← two_cells k hk]
    exact World.ownsRow_lit (base := w.heap.size + 1) (size := 1) (w.alloc (.cells #[.int .i64 k, .slice A l.length c] 102)) _ 2 (by simp) (by simp only [maxLen]; omega) rfl
  have hz0 := hB0.size
  have hgl : w.heap.size < ((w.alloc (.cells #[.int .i64 k, .slice A l.length c] 102)).alloc (.cells #[.int .u8 82, .int .u8 k] 5)).heap.size := by simp; omega
  obtain ⟨g1, hg1⟩ : ∃ x, x = w.heap.size + 1 := ⟨_, rfl⟩
  have hg3 : g1 ≤ ((w.alloc (.cells #[.int .i64 k, .slice A l.length c] 102)).alloc (.cells #[.int .u8 82, .int .u8 k] 5)).heap.size := by simp; omega
  rw [← hg1] at hO
  have hg2 : w.heap.size < g1 := by omega
  clear hg1
  have x1 : ((w.alloc (.cells #[.int .i64 k, .slice A l.length c] 102)).alloc (.cells #[.int .u8 82, .int .u8 k] 5)).cell? ⟨w.heap.size, 1, none⟩ = some (.slice A l.length c) := by rw [cell_of_row ((w.alloc (.cells #[.int .i64 k, .slice A l.length c] 102)).alloc (.cells #[.int .u8 82, .int .u8 k] 5)) w.heap.size 1 _ _ _ hbx]; rfl
  have H1 : Calls Tryd.prog 95 #[.slice (some ⟨(w.alloc (.cells #[.int .i64 k, .slice A l.length c] 102)).heap.size, 0, none⟩) 2 2, .int .u64 (l.length : Nat), .int .i64 (4 : Nat)] ((w.alloc (.cells #[.int .i64 k, .slice A l.length c] 102)).alloc (.cells #[.int .u8 82, .int .u8 k] 5)) (RetBys g1 5 (pre6 k l.length) ((w.alloc (.cells #[.int .i64 k, .slice A l.length c] 102)).alloc (.cells #[.int .u8 82, .int .u8 k] 5))) := low_walk ((w.alloc (.cells #[.int .i64 k, .slice A l.length c] 102)).alloc (.cells #[.int .u8 82, .int .u8 k] 5)) g1 _ 2 [82, UInt8.ofNat k] l.length 4 (.inl hO) (by omega) hg3 (by omega) (by simp) (by omega)
  rw [World.heap_alloc_size] at H1
  have h6 := pre6_length k l.length
  have h10 := pre10_length k l
  have hpk : packB k l = pre10 k l ++ l ++ List.replicate (64 * secs l.length - (10 + l.length)) 0 := rfl
  have hp10 : pre10 k l = pre6 k l.length ++ le (Crc.upd 0#32 (pre6 k l.length ++ l)).toNat 4 := rfl
  have hcl : (Crc.upd 0#32 (pre6 k l.length ++ l)).toNat < 18446744073709551616 := by have := (Crc.upd 0#32 (pre6 k l.length ++ l)).isLt; omega
  generalize pre10 k l = p10 at *
  generalize pre6 k l.length = p6 at *
  generalize packB k l = pk at *
  replace hpk := Go.Lib.hid hpk
  replace hp10 := Go.Lib.hid hp10
  replace h10 := Go.Lib.hid h10
  replace h6 := Go.Lib.hid h6
  clear hO hbx
  go_enter Tryd.func97, Tryd.ntmps97
  go_upto_region 2 with (go_at_call 95; go_must (refine H1.mono ?_; intro e w1 hR; obtain ⟨A1, c1, rfl, hown1, hB1⟩ := hR.len (show p6.length = 6 from h6)))
  have hz1 := hB1.size
  have x2 : w1.cell? ⟨w.heap.size, 1, none⟩ = some (.slice A l.length c) := (hB1.cell hg2).trans x1
  have hB01 : Below w.heap.size w w1 := hB0.trans (hB1.mono (Nat.le_of_lt hg2))
  have hg11 : g1 ≤ w1.heap.size := Nat.le_trans hg3 hz1
  have hlt1 : w.heap.size < w1.heap.size := by omega
  have hby1 : Bys w1 A1 6 p6 := Bys.own hown1
  have hbl1 := (hb.below hB01).rdv
  have hr1 := hby1.rdv
  obtain ⟨n6, hn6⟩ : ∃ x, x = 6 + l.length := ⟨_, rfl⟩
  replace hn6 := Go.Lib.hid hn6
  clear H1 hB0 hB1 hz0 hgl hg3 x1 hz1 hR
  go_region_held_law (fun w' => w'.cell? ⟨w.heap.size, 1, none⟩ = some (.slice A l.length c)) (first | go_keep | exact x3 | exact x4) ((first
    | (refine step_append_rd (o := ⟨some 19, _, _, _, _, _⟩) w1 w1.heap.size rfl (.tmp 16) (.tmp 18) 22 5 (.int .u8 0) 1 rfl Tryd.underlying22 info_b rfl _ 6 (bv p6) rfl hown2 A l.length c (bv l) rfl (hbl1.below hB2) (bv_one _) hB2 hs2 (by omega) (by omega) ?_; intro v3 w3 hown3 hB3 hg33 hs3; clear hg33; rw [← show n6 = 6 + l.length from hn6] at hown3; obtain ⟨A3, c3, hv3⟩ := own_slice hown3; subst hv3; have x4 := (hB3.cell hlt1).trans x2)
    | (refine step_append_rd (o := ⟨some 16, _, _, _, _, _⟩) w1 w1.heap.size rfl (.tmp 14) (.tmp 15) 22 5 (.int .u8 0) 1 rfl Tryd.underlying22 info_b rfl _ 0 [] rfl (own_empty _ _ _ _ _ (Nat.le_refl _) (heap_alloc_new _ _)) _ 6 _ _ rfl (hr1.drew.below ((Below.refl _ _).alloc (Nat.le_refl _) _)) (bv_one _) ((Below.refl _ _).drew.alloc (Nat.le_refl _) _) (by simp) (by omega) (by omega) ?_; intro v2 w2 hown2 hB2 hg22 hs2; clear hg22; rw [Nat.zero_add, List.nil_append] at hown2; obtain ⟨A2, c2, hv2⟩ := own_slice hown2; subst hv2; have x3 := (hB2.cell hlt1).trans x2)))
  have hlt3 : g1 ≤ w3.heap.size := Nat.le_trans hg11 hB3.size
  have hall : Bys w3 A3 n6 (p6 ++ l) := Bys.own (c := c3) (base := w1.heap.size) (E := 5) (by rw [bv_append]; exact hown3)
  have hd3 : Below w3.heap.size w3 w3.drew := below_drew (Below.refl _ _)
  have HS := rsum_walk w3.drew A3 n6 c3 (p6 ++ l) (hall.below hd3)
  have hown13 : w3.drew.ownsRow g1 5 1 (.slice A1 6 c1) 6 (bv p6) := own_at hown1 (fun k hk => (below_drew hB3).block k (own_lt hown1 k hk))
  have HL := low_walk w3.drew g1 A1 c1 p6 (Crc.upd 0#32 (p6 ++ l)).toNat 4 (.inl (by rw [show p6.length = 6 from h6]; exact hown13)) (by omega) hlt3 hcl (by rw [show p6.length = 6 from h6]; omega) (by omega)
  rw [show p6.length = 6 from h6, ← show p10 = p6 ++ le (Crc.upd 0#32 (p6 ++ l)).toNat 4 from hp10] at HL
  generalize Crc.upd 0#32 (p6 ++ l) = cr at *
  have hcw : IntKind.u64.wrap ((cr.toNat : Nat) : Int) = ((cr.toNat : Nat) : Int) := by rw [IntKind.wrap_u64]; omega
  have hB03 : Below w.heap.size w w3 := hB01.trans (hB3.mono (Nat.le_of_lt hlt1))
  have hbl3 := (hb.below hB03).rdv
  have y4 := x4
  obtain ⟨n10, hn10⟩ : ∃ x, x = 10 + l.length := ⟨_, rfl⟩
  replace hn10 := Go.Lib.hid hn10
  clear hp10 hown1 hown2 hB2 x2 x3 hbl1 hr1 hby1 hown13 hall hd3
  go_upto_region 3 with fail
  go_cut [3] from 20 to 28 (fun v wx => ∃ A5 c5, v = .slice A5 n10 c5 ∧ wx.ownsRow g1 5 1 (.slice A5 n10 c5) n10 (bv p10 ++ bv l) ∧ Below w.heap.size w wx ∧ g1 ≤ wx.heap.size)
  case first =>
    go_region_held_law (fun w' => w'.cell? ⟨w.heap.size, 1, none⟩ = some (.slice A l.length c)) (first | go_keep | exact x5 | exact x6) ((first
      | (refine step_append_rd (o := ⟨some 27, _, _, _, _, _⟩) w3 g1 rfl (.tmp 24) (.tmp 26) 22 5 (.int .u8 0) 1 rfl Tryd.underlying22 info_b rfl _ 10 (bv p10) rfl hown4 A l.length c (bv l) rfl ((hb.below (hB03.trans (hB4.mono (Nat.le_of_lt hg2)))).rdv) (bv_one _) hB4 hs4 (by omega) (by omega) ?_; intro v5 w5 hown5 hB5 hg55 hs5; clear hg55; rw [← show n10 = 10 + l.length from hn10] at hown5; obtain ⟨A5, c5, hv5⟩ := own_slice hown5; subst hv5; have x6 := (hB5.cell hg2).trans y4)
      | (go_at_call 95; refine HL.mono ?_; intro e w4 hR; obtain ⟨A4, c4, rfl, hown4, hB4'⟩ := hR.len (show p10.length = 10 from h10); clear hR; have hB4 : Below g1 w3 w4 := (below_drew (Below.refl _ _)).trans hB4'; have hs4 := Nat.le_trans hlt3 hB4.size; have x5 := (hB4.cell hg2).trans y4)
      | (go_at_call 96; refine HS.mono ?_; rintro e w4 ⟨rfl, rfl⟩; rw [un_u64 cr])))
    all_goals (go_wp2_with fail; go_meet; exact ⟨_, _, rfl, hown5, hB03.trans (hB5.mono (Nat.le_of_lt hg2)), hs5⟩)
  case rest =>
    obtain ⟨A5, c5, rfl, hown5, hB5, hs5⟩ := hcut
    clear HS HL hbl3 hB3 hown3 x4 y4 hB03 hlt3 hcl hcw
    have hsec := secs_le l.length
    have hsn : 64 * secs l.length < 64 + (10 + l.length) := by unfold secs; omega
    generalize secs l.length = sn at *
    obtain ⟨zn, hzn⟩ : ∃ x, x = 64 * sn - (10 + l.length) := ⟨_, rfl⟩
    have hpk3 : pk = (p10 ++ l) ++ List.replicate zn 0 := by rw [hzn]; exact hpk
    rw [← bv_append] at hown5
    have hn10' : n10 = 10 + l.length := hn10
    have hn11 : n10 + zn = 64 * sn := by omega
    have hzl : zn < 64 := by omega
    have hn12 : n10 ≤ 2000000 := by omega
    replace hpk3 := Go.Lib.hid hpk3
    replace hn11 := Go.Lib.hid hn11
    generalize p10 ++ l = pl at *
    clear hpk hzn hsec hn10' h10 h6 hb hn6 hlw hkw
    go_wp2
    go_loopw [3] (fun v wr => ∃ j : Nat, j ≤ zn ∧ Below w.heap.size w wr ∧ w.heap.size ≤ wr.heap.size ∧ ∃ A' c', v = .slice A' (n10 + j) c' ∧ wr.ownsRow w.heap.size 5 1 (.slice A' (n10 + j) c') (n10 + j) (bv (pl ++ List.replicate j 0))) (fun v _ => zn - (slLen v - n10))
    case atStart => exact ⟨0, by omega, hB5, hB5.size, A5, c5, rfl, own_lo (by simpa using hown5) (Nat.le_of_lt hg2)⟩
    case round => 
      obtain ⟨j, hj, hBr, hbr, A', c', rfl, hown⟩ := hrel
      by_cases hlt : j < zn
      · have hne : (n10 + j) % 64 ≠ 0 := by have : n10 + zn = 64 * sn := hn11; omega
        have hsn2 : pl ++ List.replicate (j + 1) 0 = (pl ++ List.replicate j 0) ++ [0] := by rw [List.replicate_succ', List.append_assoc]
        replace hsn2 := Go.Lib.hid hsn2
        go_wp2_with (at_builtin; go_must (refine wpList_append_bys (o := ⟨some 34, _, _, _, _, _⟩) w w.heap.size rfl (.tmp 32) (.tmp 33) 22 5 rfl Tryd.underlying22 info_b _ (n10 + j) (bv (pl ++ List.replicate j 0)) rfl (hown.alloc _) _ 1 1 [0] rfl (Bys.new wr 5 #[.int .u8 0] [0] rfl (by simp)) (hBr.alloc hbr _) (by simp; omega) (by omega) ?_; intro v6 w6 hown6 hB6 hg66 hat6 hs6; clear hg66 hat6; rw [← bv_append, ← show pl ++ List.replicate (j + 1) 0 = _ from hsn2] at hown6; obtain ⟨A6, c6, hv6⟩ := own_slice hown6; subst hv6))
        go_roundw
        case rel => exact ⟨j + 1, hlt, hB6, hs6, A6, c6, rfl, hown6⟩
        case measure => simp [slLen]; omega
      · have hjk : j = zn := by omega
        subst hjk
        have hne : (n10 + j) % 64 = 0 := by have : n10 + j = 64 * sn := hn11; omega
        go_wp2
        go_ret
        refine RetBys.of hown (by rw [show pk = _ from hpk3]) hBr
end Go.Proofs.YtggogenhakdhiaaDoor
