/- The law's comparison of two logs, walked. -/
import Derived.Test.YtggogenhakdhiaaDoorWalCopied
import Derived.Test.YtggogenhakdhiaaDoorWalSpoil
set_option linter.unusedVariables false
set_option linter.unusedSimpArgs false
attribute [local go_sem ↓] Go.wp_at_zero Go.wp_at_succ
namespace Go.Proofs.YtggogenhakdhiaaDoor
open Go.RowKit

set_option maxRecDepth 20000 in
theorem alike_nil (w : World) (p : Option Addr) :
    Calls Tryd.prog 15 #[.pointer p, .pointer none] w (Says (.bool true) w) := by
  go_enter Tryd.func15, Tryd.ntmps15
  go_wp2
  go_ret
  exact ⟨rfl, rfl⟩
set_option maxRecDepth 20000 in
theorem alike_broken (w : World) (p : Option Addr) (Z : Nat → Prop) (gm g : Nat) (v : Value) (s : LS) (h : RLog w Z gm g v s) (hd : s.down = true) :
    Calls Tryd.prog 15 #[.pointer p, .pointer (some ⟨gm, 0, none⟩)] w (Says (.bool true) w) := by
  obtain ⟨-, -, -, -, c4⟩ := h.cell
  rw [hd] at c4
  clear h hd
  go_enter Tryd.func15, Tryd.ntmps15
  go_wp2
  go_ret
  exact ⟨rfl, rfl⟩
set_option maxHeartbeats 1000000 in
set_option maxRecDepth 20000 in
theorem alike_ok (w : World) (Z Z' : Nat → Prop) (gl gm g g' n : Nat) (v v' sv tv sv' tv' : Value) (s s' : LS) (d d' : DS) (hP : PLog w Z gl g v s) (hR : RLog w Z' gm g' v' s') (hs : s'.recs = s.recs ∧ s'.gen = s.gen) (hd : s'.down = false)
    (hDP : PDsk w g sv tv n d) (hDR : RDsk w g' sv' tv' n d') (hu : usedOf s.recs ≤ halfOf n) (hl : s.recs.length ≤ 1000000000) (hb : ∀ r ∈ s.recs, r.2.length ≤ 100000000000000) :
    Calls Tryd.prog 15 #[.pointer (some ⟨gl, 0, none⟩), .pointer (some ⟨gm, 0, none⟩)] w (fun e w' => e = .returned (.bool true) ∧ Below w.heap.size w w') := by
  obtain ⟨c0, c1, c2, c3, c4⟩ := hR.cell
  obtain ⟨sg, sr, sd⟩ := s'
  obtain ⟨hs1, hs2⟩ := hs
  simp only at hs1 hs2 hd
  subst hs1 hs2 hd
  simp only at c0 c1 c2 c3 c4
  have HR := records_walk w Z gl g v s hP hl hb
  have hRr : RecsAt 102 w Z' v' s.recs := hR.recs
  obtain ⟨A', c', rfl⟩ := hRr.slice
  go_enter Tryd.func15, Tryd.ntmps15
  go_upto_region 6 with (go_at_call 22; go_must (refine HR.mono ?_; rintro e w1 ⟨v1, rfl, hR1, hB1⟩; obtain ⟨A1, k1, hv1⟩ := hR1.slice; subst hv1))
  have hP1 := hP.chain hB1
  have hQ1 := hR.chain hB1
  have hDP1 := hDP.below hB1
  have hDR1 := hDR.below hB1
  have hd1 : Below w1.heap.size w1 w1.drew := below_drew (Below.refl _ _)
  have HS := same_recs w1.drew _ _ _ _ s.recs (hR1.below hd1) (hQ1.recs.below hd1)
  have y1 := cell_below hB1 c1
  have y2 := cell_below hB1 c2
  go_region_held_law (fun w' => w'.cell? ⟨gm, 1, none⟩ = some (.slice A' s.recs.length c') ∧ w'.cell? ⟨gm, 2, none⟩ = some (.int .i64 (s.gen : Nat))) (first | go_keep | exact ⟨x1, x2⟩) ((first
    | (go_at_call 28; (with_reducible refine HG4.mono ?_); rintro e w5 ⟨rfl, rfl⟩)
    | (go_at_call 54; (with_reducible refine HM3.mono ?_); rintro e w4 ⟨rfl, rfl⟩)
    | (go_at_call 53; (with_reducible refine HL2.mono ?_); rintro e w3 ⟨rfl, rfl⟩)
    | (go_at_call 52; (with_reducible refine HS.mono ?_); rintro e w2 ⟨rfl, hB2⟩; have hB2' := hd1.trans hB2; have x1 := cell_below hB2' y1; have x2 := cell_below hB2' y2; have HL2 := room_walk w2 _ gl g _ s (hP1.chain hB2') n sv tv d (hDP1.below hB2') hu; have hB2d : Below w1.heap.size w1 w2.drew := below_drew hB2'; have HM3 := rroom_walk w2.drew _ gm g' _ _ (hQ1.chain hB2d) n sv' tv' d' (hDR1.below hB2d) hu; have hB2e : Below w1.heap.size w1 w2.drew.drew := below_drew hB2d; have HG4 := gen_walk w2.drew.drew _ gl g _ s (hP1.chain hB2e))))
  have hRe := hR1.below hB2e
  obtain ⟨A2, k2, he2, hU⟩ := hRe.u
  cases he2
  have HSP := spoil_walk w2.drew.drew (fun k => w.heap.size ≤ k) A1 s.recs.length k1 hU (by omega)
  clear HS HR HL2 HM3 HG4 hP1 hQ1 hDP1 hDR1 hU hRe hR1
  go_wp2_with (go_at_call 55; go_must (refine HSP.mono ?_; rintro e w6 ⟨rfl, hC6⟩))
  go_ret
  exact ⟨rfl, (hB1.trans (hB2e.mono hB1.size)).trans (hC6.below (by have := hB2e.size; have := hB1.size; omega) (fun k hk => by omega))⟩
end Go.Proofs.YtggogenhakdhiaaDoor
