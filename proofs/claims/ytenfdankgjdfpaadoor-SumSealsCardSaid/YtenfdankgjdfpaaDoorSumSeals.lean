/- The law SumSeals, walked. -/
import Derived.Test.YtenfdankgjdfpaaDoorOpen
import Derived.Test.YtenfdankgjdfpaaDoorRow
import Derived.Deep.QuietTactic
import Derived.BigQuiet
import Derived.Deep.DeepCutAuto
import Derived.Deep.CutBlock
set_option linter.unusedVariables false
set_option linter.unusedSimpArgs false
namespace Go.Proofs.YtenfdankgjdfpaaDoor
open Go.RowKit

theorem TabAt.below {w w' : World} (h : TabAt w) (hb : Below w.heap.size w w') : TabAt w' := fun i hi => cell_below hb (h i hi)
/-- bytes of the call's own, whatever they are -/
def Any8 (w : World) (B n : Nat) (v : Value) : Prop := ∃ xs, xs.length = n ∧ w.ownsRow B 5 1 v n xs
theorem Any8.at_ {w : World} {B n c : Nat} {A : Option Addr} (h : Any8 w B n (.slice A n c)) (k : Nat) (hk : k < n) :
    ∃ g u, A = some ⟨g, 0, none⟩ ∧ B ≤ g ∧ w.cell? ⟨g, k, none⟩ = some u ∧ w.frozen? ⟨g, k, none⟩ = false ∧ ∀ z, Any8 (w.setCell ⟨g, k, none⟩ z) B n (.slice A n c) := by
  obtain ⟨xs, hl, h⟩ := h
  obtain ⟨g, cap, e, hb, _, _, _, hc⟩ := own_some h (by omega)
  cases e
  exact ⟨g, xs[k], rfl, hb, hc k _ (List.getElem?_eq_getElem (by omega)), h.frozenAt k, fun z => ⟨xs.set k z, by simpa using hl, (h.stored k z).1⟩⟩

set_option maxHeartbeats 2000000 in
theorem seals_walk (w : World) (A : Option Addr) (n c : Nat) (zs : List UInt8) (hb : Bys w A n zs) (hc0 : n ≤ c) (ht : TabAt w) (hn : n ≤ 140737488351232) :
    Calls Tryd.prog 4 #[.slice A n c] w (LawPost w) := by
  go_enter Tryd.func4, Tryd.ntmps4
  go_upto_region 2 with (first
    | (at_builtin; refine wpList_append_bys (o := ⟨some 13, _, _, _, _, _⟩) w w.heap.size rfl (.tmp 11) (.tmp 12) 22 5 rfl Tryd.underlying22 info_u8 _ 0 [] rfl (own_empty _ _ _ _ _ (Nat.le_refl _) (heap_alloc_new w _)) A n c zs rfl (hb.below ((Below.refl _ _).alloc (Nat.le_refl _) _)) ((Below.refl _ _).alloc (Nat.le_refl _) _) (by simp) (by omega) ?_; intro v1 w1 hown1 hB1 hg1 hat1 hs1)
    | (at_builtin; refine wpList_append_bys (o := ⟨some 15, _, _, _, _, _⟩) w w.heap.size rfl (.tmp 13) (.tmp 14) 22 5 rfl Tryd.underlying22 info_u8 _ (0 + n) ([] ++ bv zs) rfl (hown1.alloc _) _ 1 1 [9] rfl (Bys.new w1 _ _ [9] rfl (by simp)) (hB1.alloc hs1 _) (by simp; omega) (by omega) ?_; intro v2 w2 hown2 hB2 hg2 hat2 hs2))
  obtain ⟨g, cap, hv, hg0, hglt, hcap, hcap2, hcells⟩ := own_some hown2 (by omega)
  subst hv
  have hall : Bys w2 (some ⟨g, 0, none⟩) (n + 1) (zs ++ [9]) := bys_of_cells (by simp [hb.len]) (by omega) (by simpa [bv_append] using hcells)
  have hhead : Bys w2 (some ⟨g, 0, none⟩) n zs := by
    have := hall.take n (by omega)
    rwa [List.take_left' hb.len] at this
  have hnine : w2.cell? ⟨g, n, none⟩ = some (.int .u8 9) := hcells n _ (by simp [bv_append, bv, hb.len])
  have ht2 : TabAt w2 := ht.below hB2
  have hb2 : Bys w2 A n zs := hb.below hB2
  have hcap' : n ≤ cap := by omega
  clear hcells hall hown2 hown1 hg1 hg2 hat1 hat2
  go_upto_region 3 with (go_at_call 11; go_must (refine (seal_walk w2 _ n cap zs hhead ht2 (by omega)).mono ?_); rintro e w3 ⟨A3, c3, rfl, hown3, hB3⟩)
  have hs3 := hB3.size
  go_cut [34] from 21 to 34 (fun b wx => b = .bool false ∧ Below w3.heap.size w3 wx)
  case first =>
    have hnine3 := cell_below hB3 hnine
    have hst := (Bys.own hown3).drew.string (P := Tryd.prog) Tryd.underlying22 Tryd.underlying5 Tryd.underlying9 c3
    have H := rseal_walk w3.drew A n c zs (hb2.below hB3).drew hn
    have hq : ((str (sld zs)).toList == (str (sld zs)).toList) = true := by simp
    go_region_with (go_at_call 12; refine H.mono ?_; rintro e w4 ⟨A4, c4, rfl, hown4, hB4⟩; have hst1 := (Bys.below (Bys.own hown3) (below_of_drew hB4)).string (P := Tryd.prog) Tryd.underlying22 Tryd.underlying5 Tryd.underlying9 c3; have hst2 := (Bys.own hown4).string (P := Tryd.prog) Tryd.underlying22 Tryd.underlying5 Tryd.underlying9 c4; have hnine4 := cell_below (below_of_drew hB4) hnine3)
    all_goals
      have hB4' : Below w3.heap.size w3 w4 := below_of_drew (by assumption)
      go_wp2_with fail
      go_meet
      exact ⟨rfl, hB4'⟩
  case rest =>
    obtain ⟨rfl, hB4⟩ := hcut
    have hB04 : Below w2.heap.size w2 wc := hB3.trans (hB4.mono hs3)
    have hs4 := hB04.size
    have hhead4 := hhead.below hB04
    have hb4 := hb2.below hB04
    have hown4 : Any8 wc w2.heap.size (sld zs).length (.slice A3 (sld zs).length c3) := ⟨_, bv_length _, own_below hown3 hB4⟩
    obtain ⟨x, k, hr⟩ : ∃ x k, opn zs = (x, k) := ⟨_, _, rfl⟩
    replace hr := Go.Lib.hid hr
    have H1 := open_walk wc (some ⟨g, 0, none⟩) n cap zs hhead4 hcap' (ht2.below hB04) hn
    rw [hr.out] at H1
    go_upto_region 6 with (go_at_call 13; go_must (refine H1.mono ?_); rintro e w5 ⟨A5, c5, rfl, hown5, hB5⟩)
    have hs5 := hB5.size
    have H2 := ropen_walk w5 A n c zs (hb4.below hB5) hc0 hn
    rw [hr.out] at H2
    have hB05 : Below w2.heap.size w2 w5 := hB04.trans (hB5.mono hs4)
    go_upto_region 7 with (go_at_call 14; go_must (refine H2.mono ?_); rintro e w6 ⟨A6, c6, rfl, hown6, hB6⟩)
    have hB06 : Below w2.heap.size w2 w6 := hB05.trans (hB6.mono (by omega))
    have hx6 : Any8 w6 wc.heap.size x.length (.slice A5 x.length c5) := ⟨_, bv_length _, own_below hown5 hB6⟩
    have hy4 : ∀ k, (Value.slice A3 (sld zs).length c3).ownBlock = some k → k < wc.heap.size := by
      obtain ⟨xs, hxs, ho⟩ := hown4
      exact own_lt ho
    have hy6 : Any8 w6 w2.heap.size (sld zs).length (.slice A3 (sld zs).length c3) := by
      obtain ⟨xs, hxs, ho⟩ := hown4
      exact ⟨xs, hxs, own_below ho (hB5.trans (hB6.mono hs5))⟩
    have hst1 := (Bys.below (Bys.own hown5) hB6).string (P := Tryd.prog) Tryd.underlying22 Tryd.underlying5 Tryd.underlying9 c5
    have hst2 := (Bys.own hown6).string (P := Tryd.prog) Tryd.underlying22 Tryd.underlying5 Tryd.underlying9 c6
    have hm5 := (Bys.own hown5).max
    have hm3 := (Bys.own hown3).max
    clear hown4 hown5 hown6 hs5
    go_wp2
    go_loopw [9] (fun i wr => ∃ j : Nat, j ≤ x.length ∧ i = .int .i64 j ∧ Below wc.heap.size w6 wr ∧ Any8 wr wc.heap.size x.length (.slice A5 x.length c5)) (fun i _ => x.length - (intOf i).toNat)
    case atStart => exact ⟨0, by omega, rfl, Below.refl _ _, hx6⟩
    case round =>
      obtain ⟨j, hj, rfl, hBr, hxr⟩ := hrel
      by_cases hlt : j < x.length
      · obtain ⟨g1, u1, rfl, hg1, hc1, hf1, hset⟩ := hxr.at_ j hlt
        go_wp2
        go_roundw
        case rel => exact ⟨j + 1, by omega, by go_num, hBr.setCell hg1 _, hset _⟩
        case measure => simp [intOf]; omega
      · have hyr : Any8 wr w2.heap.size (sld zs).length (.slice A3 (sld zs).length c3) := by
          obtain ⟨xs, hxs, ho⟩ := hy6
          exact ⟨xs, hxs, own_below_lt ho hy4 hBr⟩
        have hB7 : Below w2.heap.size w2 wr := hB06.trans (hBr.mono hs4)
        obtain ⟨wo, hwo⟩ : ∃ wo : World, wo = wr := ⟨_, rfl⟩
        subst hwo
        clear hxr hBr hy6 hx6 hy4
        go_wp2
        go_loopw [10] (fun i wr => ∃ j : Nat, j ≤ (sld zs).length ∧ i = .int .i64 j ∧ Below w2.heap.size w2 wr ∧ Any8 wr w2.heap.size (sld zs).length (.slice A3 (sld zs).length c3)) (fun i _ => (sld zs).length - (intOf i).toNat)
        case atStart => exact ⟨0, by omega, rfl, hB7, hyr⟩
        case round =>
          obtain ⟨j', hj', rfl, hBr, hxr⟩ := hrel
          by_cases hlt' : j' < (sld zs).length
          · obtain ⟨g1, u1, rfl, hg1, hc1, hf1, hset⟩ := hxr.at_ j' hlt'
            go_wp2
            go_roundw
            case rel => exact ⟨j' + 1, by omega, by go_num, hBr.setCell hg1 _, hset _⟩
            case measure => simp [intOf]; omega
          · have hh := hhead.below hBr
            have hb9 := hb2.below hBr
            have hst3 := fun m => (hh.drewN m).string (P := Tryd.prog) Tryd.underlying22 Tryd.underlying5 Tryd.underlying9 cap
            have hst4 := fun m => (hb9.drewN m).string (P := Tryd.prog) Tryd.underlying22 Tryd.underlying5 Tryd.underlying9 c
            have hBw : Below w.heap.size w wr := hB2.trans (hBr.mono hs2)
            clear hBr hxr hst1 hst2
            go_wp2
            go_quiet (fail)
            go_wp2
            go_ret
            exact ⟨rfl, below_drewN hBw _⟩
end Go.Proofs.YtenfdankgjdfpaaDoor
