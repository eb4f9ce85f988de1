/- The law SumBursts, walked. -/
import Derived.Test.YtenfdankgjdfpaaDoorSumWorks
import Derived.Test.YtenfdankgjdfpaaDoorBurst
import Derived.Test.YtenfdankgjdfpaaDoorRow
import Derived.Test.YtenfdankgjdfpaaDoorSumQuiet
import Derived.BigRegion
import Derived.Deep.QuietTactic
import Derived.BigQuiet
import Derived.Laws.BitsAllLaws
set_option linter.unusedVariables false
set_option linter.unusedSimpArgs false
namespace Go.Proofs.YtenfdankgjdfpaaDoor
open Go.RowKit

/-- new bytes are returned, so many -/
def RetN (B : Nat) (E : TypeId) (n : Nat) (l : List UInt8) (w : World) (e : Ending) (w' : World) : Prop :=
  ∃ A c, e = .returned (.slice A n c) ∧ w'.ownsRow B E 1 (.slice A n c) n (bv l) ∧ Below B w w'
theorem RetBys.n {B : Nat} {E : TypeId} {l : List UInt8} {w w' : World} {e : Ending} {n : Nat} (hn : l.length = n) (h : RetBys B E l w e w') : RetN B E n l w e w' := by
  subst hn; exact h
/-- has a bit been turned? -/
def smb (turn k : Nat) : Bool := decide (turn % 2 ^ k ≠ 0)
theorem smb_zero (turn : Nat) : smb turn 0 = false := by simp [smb, Nat.mod_one]
theorem smb_yes (turn k : Nat) (h : turn / 2 ^ k % 2 = 1) : smb turn (k + 1) = true := by
  unfold smb
  have := Crc.mod_succ_zero turn k
  simp only [decide_eq_true_eq]
  omega
theorem smb_no (turn k : Nat) (h : ¬ turn / 2 ^ k % 2 = 1) : smb turn (k + 1) = smb turn k := by
  unfold smb
  have := Crc.mod_succ_zero turn k
  rw [decide_eq_decide]
  omega
theorem bit_tmod (tb : BitVec 32) (k : Nat) : (un tb / 2 ^ k).tmod 2 = ((tb.toNat / 2 ^ k % 2 : Nat) : Int) := by
  have e : un tb / 2 ^ k = ((tb.toNat / 2 ^ k : Nat) : Int) := by unfold un; simp
  rw [e]
  generalize tb.toNat / 2 ^ k = q
  rw [Int.tmod_eq_emod_of_nonneg (by omega)]
  omega
theorem bit_emod (tb : BitVec 32) (k : Nat) : un tb / 2 ^ k % 2 = ((tb.toNat / 2 ^ k % 2 : Nat) : Int) := by
  rw [← bit_tmod]
  have e : un tb / 2 ^ k = ((tb.toNat / 2 ^ k : Nat) : Int) := by unfold un; simp
  rw [e, Int.tmod_eq_emod_of_nonneg (Int.natCast_nonneg _)]
theorem bv_flip (l : List UInt8) (p : Nat) (b : UInt8) (hp : p / 8 < l.length) (hb : b = l[p / 8]'hp) : bv (Crc.flip l p) = (bv l).set (p / 8) (.int .u8 (bits BinOp.xor IntKind.u8 (b.toNat : Int) (2 ^ (p % 8) % 256))) := by
  have hj : p % 8 < 8 := Nat.mod_lt _ (by omega)
  have hpow : (UInt8.ofNat (2 ^ (p % 8))).toNat = 2 ^ (p % 8) := by
    rw [UInt8.toNat_ofNat']
    exact Nat.mod_eq_of_lt (Nat.lt_of_lt_of_le (Nat.pow_lt_pow_right (by omega) hj) (by omega))
  have hlt : 2 ^ (p % 8) < 256 := Nat.lt_of_lt_of_le (Nat.pow_lt_pow_right (by omega) hj) (by omega)
  have e : ((2 : Int) ^ (p % 8) % 256) = ((2 ^ (p % 8) : Nat) : Int) := by
    have : ((2 : Int) ^ (p % 8)) = ((2 ^ (p % 8) : Nat) : Int) := by simp
    rw [this]
    generalize 2 ^ (p % 8) = q at hlt
    omega
  unfold Crc.flip bv
  rw [List.map_set, List.getD_eq_getElem?_getD, List.getElem?_eq_getElem hp, ← hb]
  congr 2
  rw [e, u8_xor_nat _ _ b.toNat_lt hlt]
  have : (b ^^^ UInt8.ofNat (2 ^ (p % 8))).toNat = b.toNat ^^^ 2 ^ (p % 8) := by
    rw [UInt8.toNat_xor, hpow]
  rw [Option.getD_some, this]
/-- the law's place -/
def IsPlace (m : Nat) (w : World) (v : Value) (wx : World) : Prop := ∃ f : Nat, f < 8 * m ∧ v = .int .i64 f ∧ w = wx

theorem place_mk (z : Int) (n : Nat) (hn : n ≤ 140737488351232) (w : World) : IsPlace (n + 4) w (.int .i64 (wrap64 ((IntKind.u64.wrap z).tmod (8 * ((n : Int) + 4))))) w := by
  have h0 : 0 ≤ IntKind.u64.wrap z := by
    simp only [IntKind.wrap, IntKind.bits, IntKind.signed]
    simp
    omega
  have hm : (IntKind.u64.wrap z).tmod (8 * ((n : Int) + 4)) = (IntKind.u64.wrap z) % (8 * ((n : Int) + 4)) := Int.tmod_eq_emod_of_nonneg h0
  rw [hm]
  have h1 := Int.emod_nonneg (IntKind.u64.wrap z) (show (8 * ((n : Int) + 4)) ≠ 0 by omega)
  have h2 := Int.emod_lt_of_pos (IntKind.u64.wrap z) (show (0 : Int) < 8 * ((n : Int) + 4) by omega)
  generalize (IntKind.u64.wrap z) % (8 * ((n : Int) + 4)) = q at h1 h2
  refine ⟨q.toNat, by omega, ?_, rfl⟩
  congr 1
  unfold wrap64
  omega
set_option maxHeartbeats 2000000 in
theorem bursts_walk (w : World) (A : Option Addr) (n c : Nat) (zs : List UInt8) (hb : Bys w A n zs) (hc0 : n ≤ c) (z : Int) (tb : BitVec 32) (hz1 : -9223372036854775808 ≤ z) (hz2 : z ≤ 9223372036854775807) (ht : TabAt w) (hn : n ≤ 140737488351232) (hn0 : 0 < n) (ht0 : (un tb == 0) = false) :
    Calls Tryd.prog 6 #[.slice A n c, .int .i64 z, .int .u32 (un tb)] w (LawPost w) := by
  have H0 := works_walk w ht
  have hnz : ((n : Int) == 0) = false := by simp; omega
  go_enter Tryd.func6, Tryd.ntmps6
  go_upto_region 5 with (go_at_call 15; go_must (refine H0.mono ?_); rintro e w1 ⟨rfl, hB1⟩)
  have hs1 := hB1.size
  have hb1 := hb.below hB1
  have ht1 := ht.below hB1
  have H1 := (seal_walk w1 A n c zs hb1 ht1 hn).mono (fun e w' => RetBys.n (by rw [sld_length, hb.len]))
  go_upto_region 8 with (go_at_call 11; go_must (refine H1.mono ?_); rintro e w2 ⟨A2, c2, rfl, hown2, hB2⟩)
  have hs2 := hB2.size
  go_cut [8] from 32 to 39 (IsPlace (n + 4) w2)
  case first =>
    go_wp2
    go_meet
    exact place_mk z n hn w2
  case rest =>
    obtain ⟨f, hf, rfl, rfl⟩ := hcut
    go_upto_region 12 with (at_builtin; go_must (refine wpList_append_bys (o := ⟨some 42, _, _, _, _, _⟩) w2 w2.heap.size rfl (.tmp 40) (.tmp 41) 22 5 rfl Tryd.underlying22 info_u8 _ 0 [] rfl (own_empty _ _ _ _ _ (Nat.le_refl _) (heap_alloc_new w2 _)) A2 (n + 4) c2 (sld zs) rfl ((Bys.own hown2).below ((Below.refl _ _).alloc (Nat.le_refl _) _)) ((Below.refl _ _).alloc (Nat.le_refl _) _) (by simp) (by omega) ?_); go_must (intro v3 w3 hown3 hB3 hg3 hat3 hs3))
    rw [Nat.zero_add, List.nil_append] at hown3
    obtain ⟨g, cap, hv, hg0, hglt, hcap, hcap2, _⟩ := own_some hown3 (by omega)
    subst hv
    have hb2 := hb1.below hB2
    have hsl2 := Bys.own hown2
    obtain ⟨g2, cap2, hv2, _, _, hcap3, hcap4, _⟩ := own_some hown2 (by omega)
    cases hv2
    have hlen : (sld zs).length = n + 4 := by rw [sld_length, hb.len]
    replace hlen := Go.Lib.hid hlen
    have htu : 0 ≤ un tb := un_lo tb
    clear hg3 hat3 H0 H1 hown2
    go_loopw [10, 11] (fun so i wr => ∃ k : Nat, k ≤ 32 ∧ f + k ≤ 8 * (n + 4) ∧ i = .int .i64 k ∧ so = .bool (smb tb.toNat k) ∧ Below w2.heap.size w3 wr ∧
        wr.ownsRow w2.heap.size 5 1 (.slice (some ⟨g, 0, none⟩) (n + 4) cap) (n + 4) (bv (Crc.turned (sld zs) f tb.toNat k))) (fun _ i _ => 32 - (intOf i).toNat)
    case atStart => exact ⟨0, by omega, by omega, rfl, by rw [smb_zero], Below.refl _ _, hown3⟩
    case round =>
      obtain ⟨k, hk, hfk, rfl, rfl, hBr, hor⟩ := hrel
      by_cases hgo : k < 32 ∧ f + k < 8 * (n + 4)
      · obtain ⟨hk32, hfk8⟩ := hgo
        have hL : (Crc.turned (sld zs) f tb.toNat k).length = n + 4 := by rw [Crc.turned_length]; exact hlen.out
        by_cases hbit : tb.toNat / 2 ^ k % 2 = 1
        · have hd : (un tb / 2 ^ k % 2 == 1) = true := by
            have : un tb / 2 ^ k % 2 = ((tb.toNat / 2 ^ k % 2 : Nat) : Int) := by unfold un; simp
            rw [this, hbit]; rfl
          have hcell := hor.cellAt ((f + k) / 8) (by omega)
          rw [bv_getElem?, List.getElem?_eq_getElem (by rw [hL]; omega)] at hcell
          have hfz := hor.frozenAt ((f + k) / 8)
          obtain ⟨b, hb8⟩ : ∃ b, b = (Crc.turned (sld zs) f tb.toNat k)[(f + k) / 8]'(by rw [hL]; omega) := ⟨_, rfl⟩
          rw [← hb8] at hcell
          simp only [Option.map_some] at hcell
          replace hL := Go.Lib.hid hL
          replace hb8 := Go.Lib.hid hb8
          replace hbit := Go.Lib.hid hbit
          have hi0 : (f + k) / 8 < n + 4 := by omega
          go_wp2
          · go_region
            go_wp2
            go_roundw
            case rel =>
              refine ⟨k + 1, by omega, by omega, by go_num, by rw [smb_yes _ _ hbit.out], below_drew (hBr.setCell hg0 _), ?_⟩
              have h1 := (hor.stored ((f + k) / 8) (.int .u8 (bits BinOp.xor IntKind.u8 (↑b.toNat) (2 ^ ((f + k) % 8) % 256)))).1
              rw [Crc.turned_succ, if_pos hbit.out, bv_flip _ _ b (by rw [hL.out]; omega) hb8.out]
              exact h1
            case measure => simp [intOf]; omega
          · exact absurd (hd.symm.trans (by assumption)) (by decide)
        · have hd : ((un tb / 2 ^ k).tmod 2 == 1) = false := by
            rw [bit_tmod]
            have : tb.toNat / 2 ^ k % 2 = 0 := by omega
            rw [this]; rfl
          have hd2 : (un tb / 2 ^ k % 2 == 1) = false := by
            rw [bit_emod]
            have : tb.toNat / 2 ^ k % 2 = 0 := by omega
            rw [this]; rfl
          have hR := Go.Lib.hid (And.intro (smb_no tb.toNat k hbit) (show Crc.turned (sld zs) f tb.toNat (k + 1) = Crc.turned (sld zs) f tb.toNat k by rw [Crc.turned_succ, if_neg hbit]))
          clear hbit
          go_wp2
          go_roundw
          case rel => exact ⟨k + 1, by omega, by omega, by go_num, by rw [hR.out.1], hBr, by rw [hR.out.2]; exact hor⟩
          case measure => simp [intOf]; omega
      · have hB23 := hB3.trans hBr
        have ho : Bys wr (some ⟨g, 0, none⟩) (n + 4) (Crc.turned (sld zs) f tb.toNat k) := Bys.own hor
        have hbr := hb2.below hB23
        have hsr := hsl2.below hB23
        have htr := ht1.below (hB2.trans (hB23.mono hs2))
        have H5 := open_walk wr (some ⟨g, 0, none⟩) (n + 4) cap _ ho hcap htr (by omega)
        have hB0r : Below w.heap.size w wr := hB1.trans ((hB2.mono hs1).trans (hB23.mono (by omega)))
        have hT1 : smb tb.toNat k = false → Crc.turned (sld zs) f tb.toNat k = sld zs := fun h => Crc.turned_none _ _ _ _ hk (by simpa [smb] using h)
        have hT2 : smb tb.toNat k = true → ∀ x, Crc.turned (sld zs) f tb.toNat k ≠ sld x := fun h x => burst_told zs x f tb.toNat k hk (by rw [hlen.out]; exact hfk) (by simpa [smb] using h)
        have hTl : (Crc.turned (sld zs) f tb.toNat k).length = n + 4 := by rw [Crc.turned_length]; exact hlen.out
        generalize Crc.turned (sld zs) f tb.toNat k = T at ho H5 hT1 hT2 hTl
        generalize smb tb.toNat k = sm at hT1 hT2
        clear hor hsl2 hb2 hB23 hBr hb1
        have hexit : (k < 32 ∧ ¬ (f : Int) + k < 8 * ((n : Int) + 4)) ∨ ¬ k < 32 := by omega
        have hTt : Bys wr (some ⟨g, 0, none⟩) n (T.take n) := ho.take n (by omega)
        have hTd : Bys wr (some ⟨g, n, none⟩) 4 (T.drop n) := ho.drop_plain n 4 rfl hn0
        have hSd : Bys wr (some ⟨g2, n, none⟩) 4 ((sld zs).drop n) := hsr.drop_plain n 4 rfl hn0
        clear hgo
        cases sm with
        | false =>
          have hT := hT1 rfl
          subst hT
          rw [opn_sld] at H5
          have ht' : (sld zs).take n = zs := by unfold sld; exact List.take_left' hb.len
          rw [ht'] at hTt
          replace ht' := Go.Lib.hid ht'
          have hq : ((str zs).toList == (str zs).toList) = true := by simp
          rcases hexit with ⟨hk32, hfk8⟩ | hk32
          all_goals
            go_upto_region 18 with (go_at_call 13; go_must (refine H5.mono ?_); rintro e w5 ⟨A5, c5, rfl, hown5, hB5⟩)
            go_cut [14] from 85 to 92 (fun v wx => v = .bool true ∧ Below w5.heap.size w5 wx)
            case first =>
              have hst1 := fun m => ((hTt.below hB5).drewN m).string (P := Tryd.prog) Tryd.underlying22 Tryd.underlying5 Tryd.underlying9 cap
              have hst2 := fun m => ((hbr.below hB5).drewN m).string (P := Tryd.prog) Tryd.underlying22 Tryd.underlying5 Tryd.underlying9 c
              have hncap : n ≤ cap := by omega
              go_quiet (fail)
              go_wp2
              go_meet
              exact ⟨rfl, below_drewN (Below.refl _ _) _⟩
            case rest =>
              obtain ⟨rfl, hBc⟩ := hcut
              go_wp2
              go_quiet (fail)
              go_wp2
              go_ret
              exact ⟨rfl, below_drewN (hB0r.trans ((hB5.trans (hBc.mono hB5.size)).mono hB0r.size)) _⟩
        | true =>
          have hO : opn T = ([], 30) := by
            unfold opn
            rw [if_neg (by omega), if_neg (fun h => hT2 rfl _ h.symm)]
          rw [hO] at H5
          have hTs := hT2 rfl
          clear hT1 hT2 hO
          by_cases hsame : T.take n = zs
          · have hq : ((str (T.take n)).toList == (str zs).toList) = true := by rw [str_neq]; simpa using hsame
            clear hsame hTs
            rcases hexit with ⟨hk32, hfk8⟩ | hk32
            all_goals
              go_upto_region 18 with (go_at_call 13; go_must (refine H5.mono ?_); rintro e w5 ⟨A5, c5, rfl, hown5, hB5⟩)
              go_cut [14] from 85 to 92 (fun v wx => v = .bool true ∧ Below w5.heap.size w5 wx)
              case first =>
                have hst1 := fun m => ((hTt.below hB5).drewN m).string (P := Tryd.prog) Tryd.underlying22 Tryd.underlying5 Tryd.underlying9 cap
                have hst2 := fun m => ((hbr.below hB5).drewN m).string (P := Tryd.prog) Tryd.underlying22 Tryd.underlying5 Tryd.underlying9 c
                have hncap : n ≤ cap := by omega
                go_quiet (fail)
                go_wp2
                go_meet
                exact ⟨rfl, below_drewN (Below.refl _ _) _⟩
              case rest =>
                obtain ⟨rfl, hBc⟩ := hcut
                go_wp2
                go_quiet (fail)
                go_wp2
                go_ret
                exact ⟨rfl, below_drewN (hB0r.trans ((hB5.trans (hBc.mono hB5.size)).mono hB0r.size)) _⟩
          · have hq : ((str (T.take n)).toList == (str zs).toList) = false := by rw [str_neq]; simpa using hsame
            by_cases htail : T.drop n = (sld zs).drop n
            · have hq2 : ((str (T.drop n)).toList == (str ((sld zs).drop n)).toList) = true := by rw [str_neq]; simpa using htail
              have hsum : (un (Crc.upd 0#32 (T.take n)) == un (Crc.upd 0#32 zs)) = false := by
                rw [beq_eq_false_iff_ne]
                intro h
                have h' : Crc.upd 0#32 (T.take n) = Crc.upd 0#32 zs := by
                  have := congrArg (BitVec.ofInt 32) h
                  rwa [ofInt_un, ofInt_un] at this
                have hd : (sld zs).drop n = four (Crc.upd 0#32 zs) := by unfold sld; exact List.drop_left' hb.len
                refine hTs (T.take n) ?_
                conv => lhs; rw [← List.take_append_drop n T]
                rw [htail, hd, ← h']; rfl
              have hsum2 : (un (Crc.upd 0#32 (T.take n)) != un (Crc.upd 0#32 zs)) = true := by unfold bne; rw [hsum]; rfl
              clear hsame hTs htail
              rcases hexit with ⟨hk32, hfk8⟩ | hk32
              all_goals
                go_upto_region 18 with (go_at_call 13; go_must (refine H5.mono ?_); rintro e w5 ⟨A5, c5, rfl, hown5, hB5⟩)
                go_cut [14] from 85 to 92 (fun v wx => v = .bool false ∧ Below w5.heap.size w5 wx)
                case first =>
                  have hst1 := fun m => ((hTt.below hB5).drewN m).string (P := Tryd.prog) Tryd.underlying22 Tryd.underlying5 Tryd.underlying9 cap
                  have hst2 := fun m => ((hbr.below hB5).drewN m).string (P := Tryd.prog) Tryd.underlying22 Tryd.underlying5 Tryd.underlying9 c
                  have hncap : n ≤ cap := by omega
                  go_quiet (fail)
                  go_wp2
                  go_meet
                  exact ⟨rfl, below_drewN (Below.refl _ _) _⟩
                case rest =>
                  obtain ⟨rfl, hBc⟩ := hcut
                  have hB6 := hB5.trans (hBc.mono hB5.size)
                  have hst3 := fun m => ((hTd.below hB6).drewN m).string (P := Tryd.prog) Tryd.underlying22 Tryd.underlying5 Tryd.underlying9 (cap - n)
                  have hst4 := fun m => ((hSd.below hB6).drewN m).string (P := Tryd.prog) Tryd.underlying22 Tryd.underlying5 Tryd.underlying9 (c2 - n)
                  have hncap : n ≤ cap := by omega
                  have hn4 : n ≤ n + 4 := by omega
                  have hne1 : ¬ cap = n := by omega
                  have hne2 : ¬ c2 = n := by omega
                  have hta := hTt.below hB6
                  have hbb := hbr.below hB6
                  have htt := htr.below hB6
                  go_wp2
                  go_quiet ((first
                    | (go_at_call 7; exact sum_quiet wc _ _ _ _ _ hta htt)
                    | (go_at_call 7; exact sum_quiet wc _ _ _ _ _ hbb htt)))
                  go_wp2
                  go_ret
                  exact ⟨rfl, below_drewN (hB0r.trans ((hB5.trans (hBc.mono hB5.size)).mono hB0r.size)) _⟩
            · have hq2 : ((str (T.drop n)).toList == (str ((sld zs).drop n)).toList) = false := by rw [str_neq]; simpa using htail
              clear hsame hTs htail
              rcases hexit with ⟨hk32, hfk8⟩ | hk32
              all_goals
                go_upto_region 18 with (go_at_call 13; go_must (refine H5.mono ?_); rintro e w5 ⟨A5, c5, rfl, hown5, hB5⟩)
                go_cut [14] from 85 to 92 (fun v wx => v = .bool false ∧ Below w5.heap.size w5 wx)
                case first =>
                  have hst1 := fun m => ((hTt.below hB5).drewN m).string (P := Tryd.prog) Tryd.underlying22 Tryd.underlying5 Tryd.underlying9 cap
                  have hst2 := fun m => ((hbr.below hB5).drewN m).string (P := Tryd.prog) Tryd.underlying22 Tryd.underlying5 Tryd.underlying9 c
                  have hncap : n ≤ cap := by omega
                  go_quiet (fail)
                  go_wp2
                  go_meet
                  exact ⟨rfl, below_drewN (Below.refl _ _) _⟩
                case rest =>
                  obtain ⟨rfl, hBc⟩ := hcut
                  have hB6 := hB5.trans (hBc.mono hB5.size)
                  have hst3 := fun m => ((hTd.below hB6).drewN m).string (P := Tryd.prog) Tryd.underlying22 Tryd.underlying5 Tryd.underlying9 (cap - n)
                  have hst4 := fun m => ((hSd.below hB6).drewN m).string (P := Tryd.prog) Tryd.underlying22 Tryd.underlying5 Tryd.underlying9 (c2 - n)
                  have hncap : n ≤ cap := by omega
                  have hn4 : n ≤ n + 4 := by omega
                  have hne1 : ¬ cap = n := by omega
                  have hne2 : ¬ c2 = n := by omega
                  go_wp2
                  go_quiet (fail)
                  go_wp2
                  go_ret
                  exact ⟨rfl, below_drewN (hB0r.trans ((hB5.trans (hBc.mono hB5.size)).mono hB0r.size)) _⟩
end Go.Proofs.YtenfdankgjdfpaaDoor
