/- The document's Same, walked (out of the print). -/
import Derived.Test.YtggogenhakdhiaaDoorStX0
import Derived.Test.YtggogenhakdhiaaDoorStX10
import Derived.Test.YtggogenhakdhiaaDoorStX11
import Derived.Test.YtggogenhakdhiaaDoorStX12
namespace Go.Proofs.YtggogenhakdhiaaDoor.PSnapTexts
open Go.RowKit Go.Proofs.YtggogenhakdhiaaDoorW.PrintWords Go.Proofs.YtggogenhakdhiaaDoorW.PrintLast Go.Proofs.YtggogenhakdhiaaDoorW.PrintMore
attribute [local go_sem] max2_int min2_int max_two min_two max_three min_three max_four min_four   -- for this text's walks alone
set_option linter.unusedVariables false
set_option linter.unusedSimpArgs false

/-! ### bursarref19_Same: function 37 -/
mutual
def bursarref19_Same.j0 : Nat → Bool → Int → List (S135) → List (S135) → List (S138) → List (S140) → List (S142) → List (S118) → Int → List (S135) → List (S135) → List (S138) → List (S140) → List (S142) → List (S118) → Option (Bool)
  | 0, _, _, _, _, _, _, _, _, _, _, _, _, _, _, _ => none
  | k + 1, x59, x297000, x297001, x297002, x297003, x297004, x297005, x297006, x298000, x298001, x298002, x298003, x298004, x298005, x298006 => if x59 = true then (some false) else (bursarref19_Same.l0 k 0 x297000 x297001 x297002 x297003 x297004 x297005 x297006 x298000 x298001 x298002 x298003 x298004 x298005 x298006)
def bursarref19_Same.l0 : Nat → Int → Int → List (S135) → List (S135) → List (S138) → List (S140) → List (S142) → List (S118) → Int → List (S135) → List (S135) → List (S138) → List (S140) → List (S142) → List (S118) → Option (Bool)
  | 0, _, _, _, _, _, _, _, _, _, _, _, _, _, _, _ => none
  | k + 1, x5, x297000, x297001, x297002, x297003, x297004, x297005, x297006, x298000, x298001, x298002, x298003, x298004, x298005, x298006 => if x5 < (x297006.length : Int) then (if 0 ≤ x5 then (if x5 < (x298006.length : Int) then ((bursarref19_SameRec.f k ((rd_T118 x297006 x5).f0.f0) ((rd_T118 x297006 x5).f0.f1) ((rd_T118 x297006 x5).f1) ((rd_T118 x297006 x5).f2) ((rd_T118 x297006 x5).f3) ((rd_T118 x297006 x5).f4) ((rd_T118 x297006 x5).f5) ((rd_T118 x297006 x5).f6) ((rd_T118 x298006 x5).f0.f0) ((rd_T118 x298006 x5).f0.f1) ((rd_T118 x298006 x5).f1) ((rd_T118 x298006 x5).f2) ((rd_T118 x298006 x5).f3) ((rd_T118 x298006 x5).f4) ((rd_T118 x298006 x5).f5) ((rd_T118 x298006 x5).f6)).bind fun t305 => (if t305 = true then (bursarref19_Same.l0 k (wrap64 (x5 + 1)) x297000 x297001 x297002 x297003 x297004 x297005 x297006 x298000 x298001 x298002 x298003 x298004 x298005 x298006) else (some false))) else (none)) else (none)) else (some true)
end
def bursarref19_Same.f (k : Nat) (a0_0 : Int) (l0_1 : List (S135)) (l0_2 : List (S135)) (l0_3 : List (S138)) (l0_4 : List (S140)) (l0_5 : List (S142)) (l0_6 : List (S118)) (a1_0 : Int) (l1_1 : List (S135)) (l1_2 : List (S135)) (l1_3 : List (S138)) (l1_4 : List (S140)) (l1_5 : List (S142)) (l1_6 : List (S118)) : Option (Bool) := if a0_0 = a1_0 then ((bursarref19_sameLocks.f k l0_1 l1_1).bind fun t298 => (if t298 = true then ((bursarref19_sameLocks.f k l0_2 l1_2).bind fun t299 => (if t299 = true then ((bursarref16_SameVersions.f k l0_3 l1_3).bind fun t300 => (if t300 = true then ((bursarref16_SameIntents.f k l0_4 l1_4).bind fun t301 => (if t301 = true then ((bursarref19_sameTxs.f k l0_5 l1_5).bind fun t302 => (if t302 = true then (bursarref19_Same.j0 k ((l0_6.length : Int) != (l1_6.length : Int)) a0_0 l0_1 l0_2 l0_3 l0_4 l0_5 l0_6 a1_0 l1_1 l1_2 l1_3 l1_4 l1_5 l1_6) else (bursarref19_Same.j0 k true a0_0 l0_1 l0_2 l0_3 l0_4 l0_5 l0_6 a1_0 l1_1 l1_2 l1_3 l1_4 l1_5 l1_6))) else (bursarref19_Same.j0 k true a0_0 l0_1 l0_2 l0_3 l0_4 l0_5 l0_6 a1_0 l1_1 l1_2 l1_3 l1_4 l1_5 l1_6))) else (bursarref19_Same.j0 k true a0_0 l0_1 l0_2 l0_3 l0_4 l0_5 l0_6 a1_0 l1_1 l1_2 l1_3 l1_4 l1_5 l1_6))) else (bursarref19_Same.j0 k true a0_0 l0_1 l0_2 l0_3 l0_4 l0_5 l0_6 a1_0 l1_1 l1_2 l1_3 l1_4 l1_5 l1_6))) else (bursarref19_Same.j0 k true a0_0 l0_1 l0_2 l0_3 l0_4 l0_5 l0_6 a1_0 l1_1 l1_2 l1_3 l1_4 l1_5 l1_6))) else (bursarref19_Same.j0 k true a0_0 l0_1 l0_2 l0_3 l0_4 l0_5 l0_6 a1_0 l1_1 l1_2 l1_3 l1_4 l1_5 l1_6)
theorem bursarref19_Same.mono_l : ∀ k, (∀ y0 y1 y2 y3 y4 y5 y6 y7 y8 y9 y10 y11 y12 y13 y14, LeO (bursarref19_Same.j0 k y0 y1 y2 y3 y4 y5 y6 y7 y8 y9 y10 y11 y12 y13 y14) (bursarref19_Same.j0 (k + 1) y0 y1 y2 y3 y4 y5 y6 y7 y8 y9 y10 y11 y12 y13 y14)) ∧ (∀ y0 y1 y2 y3 y4 y5 y6 y7 y8 y9 y10 y11 y12 y13 y14, LeO (bursarref19_Same.l0 k y0 y1 y2 y3 y4 y5 y6 y7 y8 y9 y10 y11 y12 y13 y14) (bursarref19_Same.l0 (k + 1) y0 y1 y2 y3 y4 y5 y6 y7 y8 y9 y10 y11 y12 y13 y14))
  | 0 => ⟨fun _ _ _ _ _ _ _ _ _ _ _ _ _ _ _ r h => by simp [bursarref19_Same.j0] at h, fun _ _ _ _ _ _ _ _ _ _ _ _ _ _ _ r h => by simp [bursarref19_Same.l0] at h⟩
  | k + 1 => by
    obtain ⟨ih0, ih1⟩ := bursarref19_Same.mono_l k
    refine ⟨?_, ?_⟩
    · intro y0 y1 y2 y3 y4 y5 y6 y7 y8 y9 y10 y11 y12 y13 y14
      unfold bursarref19_Same.j0
      repeat' first
      | (with_reducible exact ih0 _ _ _ _ _ _ _ _ _ _ _ _ _ _ _)
      | (with_reducible exact ih1 _ _ _ _ _ _ _ _ _ _ _ _ _ _ _)
      | (with_reducible exact bursarref16_SameIntents.mono _ _ _)
      | (with_reducible exact bursarref16_SameVersions.mono _ _ _)
      | (with_reducible exact bursarref19_SameRec.mono _ _ _ _ _ _ _ _ _ _ _ _ _ _ _ _ _)
      | (with_reducible exact bursarref19_sameLocks.mono _ _ _)
      | (with_reducible exact bursarref19_sameTxs.mono _ _ _)
      | (with_reducible exact LeO.refl _)
      | (with_reducible exact LeO.none _)
      | (with_reducible refine LeO.ite ?_ ?_)
      | (with_reducible refine LeO.bind ?_ (fun _ => ?_))
      | exact ih0 _ _ _ _ _ _ _ _ _ _ _ _ _ _ _
      | exact ih1 _ _ _ _ _ _ _ _ _ _ _ _ _ _ _
      | exact bursarref16_SameIntents.mono _ _ _
      | exact bursarref16_SameVersions.mono _ _ _
      | exact bursarref19_SameRec.mono _ _ _ _ _ _ _ _ _ _ _ _ _ _ _ _ _
      | exact bursarref19_sameLocks.mono _ _ _
      | exact bursarref19_sameTxs.mono _ _ _
      | exact LeO.none _
      | refine LeO.ite ?_ ?_
      | refine LeO.bind ?_ (fun _ => ?_)
    · intro y0 y1 y2 y3 y4 y5 y6 y7 y8 y9 y10 y11 y12 y13 y14
      unfold bursarref19_Same.l0
      repeat' first
      | (with_reducible exact ih0 _ _ _ _ _ _ _ _ _ _ _ _ _ _ _)
      | (with_reducible exact ih1 _ _ _ _ _ _ _ _ _ _ _ _ _ _ _)
      | (with_reducible exact bursarref16_SameIntents.mono _ _ _)
      | (with_reducible exact bursarref16_SameVersions.mono _ _ _)
      | (with_reducible exact bursarref19_SameRec.mono _ _ _ _ _ _ _ _ _ _ _ _ _ _ _ _ _)
      | (with_reducible exact bursarref19_sameLocks.mono _ _ _)
      | (with_reducible exact bursarref19_sameTxs.mono _ _ _)
      | (with_reducible exact LeO.refl _)
      | (with_reducible exact LeO.none _)
      | (with_reducible refine LeO.ite ?_ ?_)
      | (with_reducible refine LeO.bind ?_ (fun _ => ?_))
      | exact ih0 _ _ _ _ _ _ _ _ _ _ _ _ _ _ _
      | exact ih1 _ _ _ _ _ _ _ _ _ _ _ _ _ _ _
      | exact bursarref16_SameIntents.mono _ _ _
      | exact bursarref16_SameVersions.mono _ _ _
      | exact bursarref19_SameRec.mono _ _ _ _ _ _ _ _ _ _ _ _ _ _ _ _ _
      | exact bursarref19_sameLocks.mono _ _ _
      | exact bursarref19_sameTxs.mono _ _ _
      | exact LeO.none _
      | refine LeO.ite ?_ ?_
      | refine LeO.bind ?_ (fun _ => ?_)
theorem bursarref19_Same.mono : ∀ a0 a1 a2 a3 a4 a5 a6 a7 a8 a9 a10 a11 a12 a13 k, LeO (bursarref19_Same.f k a0 a1 a2 a3 a4 a5 a6 a7 a8 a9 a10 a11 a12 a13) (bursarref19_Same.f (k + 1) a0 a1 a2 a3 a4 a5 a6 a7 a8 a9 a10 a11 a12 a13) := by
  intro a0 a1 a2 a3 a4 a5 a6 a7 a8 a9 a10 a11 a12 a13 k
  obtain ⟨ih0, ih1⟩ := bursarref19_Same.mono_l k
  unfold bursarref19_Same.f
  repeat' first
      | (with_reducible exact ih0 _ _ _ _ _ _ _ _ _ _ _ _ _ _ _)
      | (with_reducible exact ih1 _ _ _ _ _ _ _ _ _ _ _ _ _ _ _)
      | (with_reducible exact bursarref16_SameIntents.mono _ _ _)
      | (with_reducible exact bursarref16_SameVersions.mono _ _ _)
      | (with_reducible exact bursarref19_SameRec.mono _ _ _ _ _ _ _ _ _ _ _ _ _ _ _ _ _)
      | (with_reducible exact bursarref19_sameLocks.mono _ _ _)
      | (with_reducible exact bursarref19_sameTxs.mono _ _ _)
      | (with_reducible exact LeO.refl _)
      | (with_reducible exact LeO.none _)
      | (with_reducible refine LeO.ite ?_ ?_)
      | (with_reducible refine LeO.bind ?_ (fun _ => ?_))
      | exact ih0 _ _ _ _ _ _ _ _ _ _ _ _ _ _ _
      | exact ih1 _ _ _ _ _ _ _ _ _ _ _ _ _ _ _
      | exact bursarref16_SameIntents.mono _ _ _
      | exact bursarref16_SameVersions.mono _ _ _
      | exact bursarref19_SameRec.mono _ _ _ _ _ _ _ _ _ _ _ _ _ _ _ _ _
      | exact bursarref19_sameLocks.mono _ _ _
      | exact bursarref19_sameTxs.mono _ _ _
      | exact LeO.none _
      | refine LeO.ite ?_ ?_
      | refine LeO.bind ?_ (fun _ => ?_)
def bursarref19_Same.T6 : Bool × List (List Nat × List Nat) := (true, [([], []), ([0], [0]), ([], []), ([1, 2], [1, 2]), ([3], [3]), ([], []), ([5], [5]), ([], []), ([6, 7], [6, 7]), ([8], [8]), ([4, 9], [4, 9]), ([10], [10])])
def bursarref19_Same.B6 : List Nat := [0, 1, 0, 7, 15, 0, 32, 0, 224, 480, 1023, 2047]
theorem bursarref19_Same.tab6 : rtab .any (opsOf Tryd.f37 6) = bursarref19_Same.T6 := by kernel_rfl
theorem bursarref19_Same.bits6 : waitsOk bursarref19_Same.T6.2 bursarref19_Same.B6 = true := by kernel_rfl
set_option maxHeartbeats 8000000 in
set_option maxRecDepth 100000 in
theorem bursarref19_Same.calls (k : Nat) (a0_0 : Int) (A0_1 : Option Addr) (c0_1 : Nat) (l0_1 : List (S135)) (A0_2 : Option Addr) (c0_2 : Nat) (l0_2 : List (S135)) (A0_3 : Option Addr) (c0_3 : Nat) (l0_3 : List (S138)) (A0_4 : Option Addr) (c0_4 : Nat) (l0_4 : List (S140)) (A0_5 : Option Addr) (c0_5 : Nat) (l0_5 : List (S142)) (A0_6 : Option Addr) (c0_6 : Nat) (l0_6 : List (S118)) (a1_0 : Int) (A1_1 : Option Addr) (c1_1 : Nat) (l1_1 : List (S135)) (A1_2 : Option Addr) (c1_2 : Nat) (l1_2 : List (S135)) (A1_3 : Option Addr) (c1_3 : Nat) (l1_3 : List (S138)) (A1_4 : Option Addr) (c1_4 : Nat) (l1_4 : List (S140)) (A1_5 : Option Addr) (c1_5 : Nat) (l1_5 : List (S142)) (A1_6 : Option Addr) (c1_6 : Nat) (l1_6 : List (S118)) (r : Bool) (w : World) (hr0_1 : Kd.C k135 w A0_1 l0_1.length l0_1) (hc0_1 : l0_1.length ≤ c0_1) (hr0_2 : Kd.C k135 w A0_2 l0_2.length l0_2) (hc0_2 : l0_2.length ≤ c0_2) (hr0_3 : Kd.C k138 w A0_3 l0_3.length l0_3) (hc0_3 : l0_3.length ≤ c0_3) (hr0_4 : Kd.C k140 w A0_4 l0_4.length l0_4) (hc0_4 : l0_4.length ≤ c0_4) (hr0_5 : Kd.C k142 w A0_5 l0_5.length l0_5) (hc0_5 : l0_5.length ≤ c0_5) (hr0_6 : Kd.C k118 w A0_6 l0_6.length l0_6) (hc0_6 : l0_6.length ≤ c0_6) (hr1_1 : Kd.C k135 w A1_1 l1_1.length l1_1) (hc1_1 : l1_1.length ≤ c1_1) (hr1_2 : Kd.C k135 w A1_2 l1_2.length l1_2) (hc1_2 : l1_2.length ≤ c1_2) (hr1_3 : Kd.C k138 w A1_3 l1_3.length l1_3) (hc1_3 : l1_3.length ≤ c1_3) (hr1_4 : Kd.C k140 w A1_4 l1_4.length l1_4) (hc1_4 : l1_4.length ≤ c1_4) (hr1_5 : Kd.C k142 w A1_5 l1_5.length l1_5) (hc1_5 : l1_5.length ≤ c1_5) (hr1_6 : Kd.C k118 w A1_6 l1_6.length l1_6) (hc1_6 : l1_6.length ≤ c1_6) (h : bursarref19_Same.f k a0_0 l0_1 l0_2 l0_3 l0_4 l0_5 l0_6 a1_0 l1_1 l1_2 l1_3 l1_4 l1_5 l1_6 = some r) :
    Calls Tryd.prog 37 #[.agg #[.int .i64 a0_0, .slice A0_1 l0_1.length c0_1, .slice A0_2 l0_2.length c0_2, .slice A0_3 l0_3.length c0_3, .slice A0_4 l0_4.length c0_4, .slice A0_5 l0_5.length c0_5, .slice A0_6 l0_6.length c0_6], .agg #[.int .i64 a1_0, .slice A1_1 l1_1.length c1_1, .slice A1_2 l1_2.length c1_2, .slice A1_3 l1_3.length c1_3, .slice A1_4 l1_4.length c1_4, .slice A1_5 l1_5.length c1_5, .slice A1_6 l1_6.length c1_6]] w fun e w' => e = .returned (.bool r) ∧ Below w.heap.size w w' := by
  have hu75 := Tryd.underlying75
  have hu118 := Tryd.underlying118
  have HR0_1 := Aside0.mk hr0_1
  have HC0_1 := Aside0.mk hc0_1
  clear hr0_1 hc0_1
  have HR0_2 := Aside0.mk hr0_2
  have HC0_2 := Aside0.mk hc0_2
  clear hr0_2 hc0_2
  have HR0_3 := Aside0.mk hr0_3
  have HC0_3 := Aside0.mk hc0_3
  clear hr0_3 hc0_3
  have HR0_4 := Aside0.mk hr0_4
  have HC0_4 := Aside0.mk hc0_4
  clear hr0_4 hc0_4
  have HR0_5 := Aside0.mk hr0_5
  have HC0_5 := Aside0.mk hc0_5
  clear hr0_5 hc0_5
  have HR0_6 := Aside0.mk hr0_6
  have HC0_6 := Aside0.mk hc0_6
  clear hr0_6 hc0_6
  have HR1_1 := Aside0.mk hr1_1
  have HC1_1 := Aside0.mk hc1_1
  clear hr1_1 hc1_1
  have HR1_2 := Aside0.mk hr1_2
  have HC1_2 := Aside0.mk hc1_2
  clear hr1_2 hc1_2
  have HR1_3 := Aside0.mk hr1_3
  have HC1_3 := Aside0.mk hc1_3
  clear hr1_3 hc1_3
  have HR1_4 := Aside0.mk hr1_4
  have HC1_4 := Aside0.mk hc1_4
  clear hr1_4 hc1_4
  have HR1_5 := Aside0.mk hr1_5
  have HC1_5 := Aside0.mk hc1_5
  clear hr1_5 hc1_5
  have HR1_6 := Aside0.mk hr1_6
  have HC1_6 := Aside0.mk hc1_6
  clear hr1_6 hc1_6
  have HB := Aside0.mk (Below.refl w.heap.size w)
  have H : (if a0_0 = a1_0 then ((bursarref19_sameLocks.f k l0_1 l1_1).bind fun t298 => (if t298 = true then ((bursarref19_sameLocks.f k l0_2 l1_2).bind fun t299 => (if t299 = true then ((bursarref16_SameVersions.f k l0_3 l1_3).bind fun t300 => (if t300 = true then ((bursarref16_SameIntents.f k l0_4 l1_4).bind fun t301 => (if t301 = true then ((bursarref19_sameTxs.f k l0_5 l1_5).bind fun t302 => (if t302 = true then (bursarref19_Same.j0 k ((l0_6.length : Int) != (l1_6.length : Int)) a0_0 l0_1 l0_2 l0_3 l0_4 l0_5 l0_6 a1_0 l1_1 l1_2 l1_3 l1_4 l1_5 l1_6) else (bursarref19_Same.j0 k true a0_0 l0_1 l0_2 l0_3 l0_4 l0_5 l0_6 a1_0 l1_1 l1_2 l1_3 l1_4 l1_5 l1_6))) else (bursarref19_Same.j0 k true a0_0 l0_1 l0_2 l0_3 l0_4 l0_5 l0_6 a1_0 l1_1 l1_2 l1_3 l1_4 l1_5 l1_6))) else (bursarref19_Same.j0 k true a0_0 l0_1 l0_2 l0_3 l0_4 l0_5 l0_6 a1_0 l1_1 l1_2 l1_3 l1_4 l1_5 l1_6))) else (bursarref19_Same.j0 k true a0_0 l0_1 l0_2 l0_3 l0_4 l0_5 l0_6 a1_0 l1_1 l1_2 l1_3 l1_4 l1_5 l1_6))) else (bursarref19_Same.j0 k true a0_0 l0_1 l0_2 l0_3 l0_4 l0_5 l0_6 a1_0 l1_1 l1_2 l1_3 l1_4 l1_5 l1_6))) else (bursarref19_Same.j0 k true a0_0 l0_1 l0_2 l0_3 l0_4 l0_5 l0_6 a1_0 l1_1 l1_2 l1_3 l1_4 l1_5 l1_6)) = some r := h
  clear h
  have HC3 := Aside0.mk H
  clear H
  go_enter Tryd.func37, Tryd.ntmps37
  go_upto_region 1 with (first | ((with_reducible refine gate_dst (N := 2) rfl ?_); (try (refine gate_guard (by rfl) ?_; dsimp only)); refine box_event ?hg (N := 2) ?hd (cs := #[.int .i64 a0_0, .slice A0_1 l0_1.length c0_1, .slice A0_2 l0_2.length c0_2, .slice A0_3 l0_3.length c0_3, .slice A0_4 l0_4.length c0_4, .slice A0_5 l0_5.length c0_5, .slice A0_6 l0_6.length c0_6]) (t := 75) ?hr ?_; (case hd => rfl); (case hg => rfl); (case hr => first | (go_simp; done) | (go_simp; rfl)); intro gb296 hg w4 hbox hb; have n0_ := Aside0.mk (below_step (by repeat (first | (with_reducible first | exact HB.out | apply below_alloc | apply pw_below_drewN | apply below_drew1) | exact HB.out)) hb); have n1_ := Aside0.mk (hbox); have n2_ := Aside0.mk ((by rw [hg]; exact (below_size (by repeat (first | (with_reducible first | exact HB.out | apply below_alloc | apply pw_below_drewN | apply below_drew1) | exact HB.out))) : w.heap.size ≤ gb296)); have n3_ := Aside0.mk ((by rw [hg]; exact (below_size (by repeat (first | (with_reducible first | exact HB.out | apply below_alloc | apply pw_below_drewN | apply below_drew1) | exact HB.out))) : w.heap.size ≤ gb296)); clear HB; have HB := n0_; have BK296 := n1_; have GW296 := n2_; have GE296 := n3_; clear n0_ n1_ n2_ n3_; clear hb hbox hg) | ((with_reducible refine gate_dst (N := 3) rfl ?_); (try (refine gate_guard (by rfl) ?_; dsimp only)); refine box_event ?hg (N := 3) ?hd (cs := #[.int .i64 a1_0, .slice A1_1 l1_1.length c1_1, .slice A1_2 l1_2.length c1_2, .slice A1_3 l1_3.length c1_3, .slice A1_4 l1_4.length c1_4, .slice A1_5 l1_5.length c1_5, .slice A1_6 l1_6.length c1_6]) (t := 75) ?hr ?_; (case hd => rfl); (case hg => rfl); (case hr => first | (go_simp; done) | (go_simp; rfl)); intro gb297 hg w5 hbox hb; have n0_ := Aside0.mk (blk_below (g := gb296) (o := .cells #[.int .i64 a0_0, .slice A0_1 l0_1.length c0_1, .slice A0_2 l0_2.length c0_2, .slice A0_3 l0_3.length c0_3, .slice A0_4 l0_4.length c0_4, .slice A0_5 l0_5.length c0_5, .slice A0_6 l0_6.length c0_6] 75 (0, 0)) (by (with_reducible repeat (first | refine blk_drewN ?_ _ | refine blk_drew ?_ | refine blk_alloc ?_ _)); exact BK296.out) hb); have n1_ := Aside0.mk (below_step (by repeat (first | (with_reducible first | exact HB.out | apply below_alloc | apply pw_below_drewN | apply below_drew1 | refine below_set ?_ GE296.out) | exact HB.out)) hb); have n2_ := Aside0.mk (hbox); have n3_ := Aside0.mk ((by rw [hg]; exact (below_size (by repeat (first | (with_reducible first | exact HB.out | apply below_alloc | apply pw_below_drewN | apply below_drew1 | refine below_set ?_ GE296.out) | exact HB.out))) : w.heap.size ≤ gb297)); have n4_ := Aside0.mk ((by rw [hg]; exact (below_size (by repeat (first | (with_reducible first | exact HB.out | apply below_alloc | apply pw_below_drewN | apply below_drew1 | refine below_set ?_ GE296.out) | exact HB.out))) : w.heap.size ≤ gb297)); have n5_ := Aside0.mk ((by rw [hg]; exact Nat.ne_of_lt (blk_lt (g := gb296) (o := .cells #[.int .i64 a0_0, .slice A0_1 l0_1.length c0_1, .slice A0_2 l0_2.length c0_2, .slice A0_3 l0_3.length c0_3, .slice A0_4 l0_4.length c0_4, .slice A0_5 l0_5.length c0_5, .slice A0_6 l0_6.length c0_6] 75 (0, 0)) (by (with_reducible repeat (first | refine blk_drewN ?_ _ | refine blk_drew ?_ | refine blk_alloc ?_ _)); exact BK296.out)) : gb296 ≠ gb297)); have n6_ := Aside0.mk ((by rw [hg]; exact Nat.ne_of_gt (blk_lt (g := gb296) (o := .cells #[.int .i64 a0_0, .slice A0_1 l0_1.length c0_1, .slice A0_2 l0_2.length c0_2, .slice A0_3 l0_3.length c0_3, .slice A0_4 l0_4.length c0_4, .slice A0_5 l0_5.length c0_5, .slice A0_6 l0_6.length c0_6] 75 (0, 0)) (by (with_reducible repeat (first | refine blk_drewN ?_ _ | refine blk_drew ?_ | refine blk_alloc ?_ _)); exact BK296.out)) : gb297 ≠ gb296)); clear BK296; clear HB; have BK296 := n0_; have HB := n1_; have BK297 := n2_; have GW297 := n3_; have GE297 := n4_; have NB296_297 := n5_; have NB297_296 := n6_; clear n0_ n1_ n2_ n3_ n4_ n5_ n6_; clear hb hbox hg))
  (try simp only [Act.put, List.setIfInBounds_toArray, List.set_cons_zero, List.set_cons_succ])
  go_cut [59] (fun v59 wc => ∃ (kq : Nat) (x59_2 : Bool), v59 = .bool x59_2 ∧ Aside0 (bursarref19_Same.j0 kq x59_2 a0_0 l0_1 l0_2 l0_3 l0_4 l0_5 l0_6 a1_0 l1_1 l1_2 l1_3 l1_4 l1_5 l1_6 = some r) ∧ Aside0 (kq ≤ k) ∧ Aside0 (wc.heap[gb296]? = some (.cells #[.int .i64 a0_0, (.slice A0_1 l0_1.length c0_1), (.slice A0_2 l0_2.length c0_2), (.slice A0_3 l0_3.length c0_3), (.slice A0_4 l0_4.length c0_4), (.slice A0_5 l0_5.length c0_5), (.slice A0_6 l0_6.length c0_6)] 75 (0, 0))) ∧ Aside0 (wc.heap[gb297]? = some (.cells #[.int .i64 a1_0, (.slice A1_1 l1_1.length c1_1), (.slice A1_2 l1_2.length c1_2), (.slice A1_3 l1_3.length c1_3), (.slice A1_4 l1_4.length c1_4), (.slice A1_5 l1_5.length c1_5), (.slice A1_6 l1_6.length c1_6)] 75 (0, 0))) ∧ Aside0 (Below w.heap.size w wc))
  case first =>
    have H := HC3.out
    clear HC3
    by_cases c6 : a0_0 = a1_0
    · rw [if_pos c6] at H
      have c6b0 : (a0_0 == a1_0) = true := beq_iff_eq.mpr c6
      have c6b1 : (a0_0 != a1_0) = false := bne_eq_false_iff_eq.mpr c6
      clear c6
      (first | rw [c6b0] | (simp only [i64_w, i32_w]; rw [c6b0]) | skip)
      replace H := Option.bind_eq_some_iff.mp H
      obtain ⟨t298, A70, H⟩ := H
      replace H : (if t298 = true then ((bursarref19_sameLocks.f k l0_2 l1_2).bind fun t299 => (if t299 = true then ((bursarref16_SameVersions.f k l0_3 l1_3).bind fun t300 => (if t300 = true then ((bursarref16_SameIntents.f k l0_4 l1_4).bind fun t301 => (if t301 = true then ((bursarref19_sameTxs.f k l0_5 l1_5).bind fun t302 => (if t302 = true then (bursarref19_Same.j0 k ((l0_6.length : Int) != (l1_6.length : Int)) a0_0 l0_1 l0_2 l0_3 l0_4 l0_5 l0_6 a1_0 l1_1 l1_2 l1_3 l1_4 l1_5 l1_6) else (bursarref19_Same.j0 k true a0_0 l0_1 l0_2 l0_3 l0_4 l0_5 l0_6 a1_0 l1_1 l1_2 l1_3 l1_4 l1_5 l1_6))) else (bursarref19_Same.j0 k true a0_0 l0_1 l0_2 l0_3 l0_4 l0_5 l0_6 a1_0 l1_1 l1_2 l1_3 l1_4 l1_5 l1_6))) else (bursarref19_Same.j0 k true a0_0 l0_1 l0_2 l0_3 l0_4 l0_5 l0_6 a1_0 l1_1 l1_2 l1_3 l1_4 l1_5 l1_6))) else (bursarref19_Same.j0 k true a0_0 l0_1 l0_2 l0_3 l0_4 l0_5 l0_6 a1_0 l1_1 l1_2 l1_3 l1_4 l1_5 l1_6))) else (bursarref19_Same.j0 k true a0_0 l0_1 l0_2 l0_3 l0_4 l0_5 l0_6 a1_0 l1_1 l1_2 l1_3 l1_4 l1_5 l1_6)) = some r := H
      have A7 := Aside0.mk A70
      clear A70
      by_cases c8 : t298 = true
      · subst c8
        have H1 : ((bursarref19_sameLocks.f k l0_2 l1_2).bind fun t299 => (if t299 = true then ((bursarref16_SameVersions.f k l0_3 l1_3).bind fun t300 => (if t300 = true then ((bursarref16_SameIntents.f k l0_4 l1_4).bind fun t301 => (if t301 = true then ((bursarref19_sameTxs.f k l0_5 l1_5).bind fun t302 => (if t302 = true then (bursarref19_Same.j0 k ((l0_6.length : Int) != (l1_6.length : Int)) a0_0 l0_1 l0_2 l0_3 l0_4 l0_5 l0_6 a1_0 l1_1 l1_2 l1_3 l1_4 l1_5 l1_6) else (bursarref19_Same.j0 k true a0_0 l0_1 l0_2 l0_3 l0_4 l0_5 l0_6 a1_0 l1_1 l1_2 l1_3 l1_4 l1_5 l1_6))) else (bursarref19_Same.j0 k true a0_0 l0_1 l0_2 l0_3 l0_4 l0_5 l0_6 a1_0 l1_1 l1_2 l1_3 l1_4 l1_5 l1_6))) else (bursarref19_Same.j0 k true a0_0 l0_1 l0_2 l0_3 l0_4 l0_5 l0_6 a1_0 l1_1 l1_2 l1_3 l1_4 l1_5 l1_6))) else (bursarref19_Same.j0 k true a0_0 l0_1 l0_2 l0_3 l0_4 l0_5 l0_6 a1_0 l1_1 l1_2 l1_3 l1_4 l1_5 l1_6))) = some r := by rw [if_pos rfl] at H; exact H
        clear H
        have H := H1
        clear H1
        replace H := Option.bind_eq_some_iff.mp H
        obtain ⟨t299, A90, H⟩ := H
        replace H : (if t299 = true then ((bursarref16_SameVersions.f k l0_3 l1_3).bind fun t300 => (if t300 = true then ((bursarref16_SameIntents.f k l0_4 l1_4).bind fun t301 => (if t301 = true then ((bursarref19_sameTxs.f k l0_5 l1_5).bind fun t302 => (if t302 = true then (bursarref19_Same.j0 k ((l0_6.length : Int) != (l1_6.length : Int)) a0_0 l0_1 l0_2 l0_3 l0_4 l0_5 l0_6 a1_0 l1_1 l1_2 l1_3 l1_4 l1_5 l1_6) else (bursarref19_Same.j0 k true a0_0 l0_1 l0_2 l0_3 l0_4 l0_5 l0_6 a1_0 l1_1 l1_2 l1_3 l1_4 l1_5 l1_6))) else (bursarref19_Same.j0 k true a0_0 l0_1 l0_2 l0_3 l0_4 l0_5 l0_6 a1_0 l1_1 l1_2 l1_3 l1_4 l1_5 l1_6))) else (bursarref19_Same.j0 k true a0_0 l0_1 l0_2 l0_3 l0_4 l0_5 l0_6 a1_0 l1_1 l1_2 l1_3 l1_4 l1_5 l1_6))) else (bursarref19_Same.j0 k true a0_0 l0_1 l0_2 l0_3 l0_4 l0_5 l0_6 a1_0 l1_1 l1_2 l1_3 l1_4 l1_5 l1_6)) = some r := H
        have A9 := Aside0.mk A90
        clear A90
        by_cases c10 : t299 = true
        · subst c10
          have H1 : ((bursarref16_SameVersions.f k l0_3 l1_3).bind fun t300 => (if t300 = true then ((bursarref16_SameIntents.f k l0_4 l1_4).bind fun t301 => (if t301 = true then ((bursarref19_sameTxs.f k l0_5 l1_5).bind fun t302 => (if t302 = true then (bursarref19_Same.j0 k ((l0_6.length : Int) != (l1_6.length : Int)) a0_0 l0_1 l0_2 l0_3 l0_4 l0_5 l0_6 a1_0 l1_1 l1_2 l1_3 l1_4 l1_5 l1_6) else (bursarref19_Same.j0 k true a0_0 l0_1 l0_2 l0_3 l0_4 l0_5 l0_6 a1_0 l1_1 l1_2 l1_3 l1_4 l1_5 l1_6))) else (bursarref19_Same.j0 k true a0_0 l0_1 l0_2 l0_3 l0_4 l0_5 l0_6 a1_0 l1_1 l1_2 l1_3 l1_4 l1_5 l1_6))) else (bursarref19_Same.j0 k true a0_0 l0_1 l0_2 l0_3 l0_4 l0_5 l0_6 a1_0 l1_1 l1_2 l1_3 l1_4 l1_5 l1_6))) = some r := by rw [if_pos rfl] at H; exact H
          clear H
          have H := H1
          clear H1
          replace H := Option.bind_eq_some_iff.mp H
          obtain ⟨t300, A110, H⟩ := H
          replace H : (if t300 = true then ((bursarref16_SameIntents.f k l0_4 l1_4).bind fun t301 => (if t301 = true then ((bursarref19_sameTxs.f k l0_5 l1_5).bind fun t302 => (if t302 = true then (bursarref19_Same.j0 k ((l0_6.length : Int) != (l1_6.length : Int)) a0_0 l0_1 l0_2 l0_3 l0_4 l0_5 l0_6 a1_0 l1_1 l1_2 l1_3 l1_4 l1_5 l1_6) else (bursarref19_Same.j0 k true a0_0 l0_1 l0_2 l0_3 l0_4 l0_5 l0_6 a1_0 l1_1 l1_2 l1_3 l1_4 l1_5 l1_6))) else (bursarref19_Same.j0 k true a0_0 l0_1 l0_2 l0_3 l0_4 l0_5 l0_6 a1_0 l1_1 l1_2 l1_3 l1_4 l1_5 l1_6))) else (bursarref19_Same.j0 k true a0_0 l0_1 l0_2 l0_3 l0_4 l0_5 l0_6 a1_0 l1_1 l1_2 l1_3 l1_4 l1_5 l1_6)) = some r := H
          have A11 := Aside0.mk A110
          clear A110
          by_cases c12 : t300 = true
          · subst c12
            have H1 : ((bursarref16_SameIntents.f k l0_4 l1_4).bind fun t301 => (if t301 = true then ((bursarref19_sameTxs.f k l0_5 l1_5).bind fun t302 => (if t302 = true then (bursarref19_Same.j0 k ((l0_6.length : Int) != (l1_6.length : Int)) a0_0 l0_1 l0_2 l0_3 l0_4 l0_5 l0_6 a1_0 l1_1 l1_2 l1_3 l1_4 l1_5 l1_6) else (bursarref19_Same.j0 k true a0_0 l0_1 l0_2 l0_3 l0_4 l0_5 l0_6 a1_0 l1_1 l1_2 l1_3 l1_4 l1_5 l1_6))) else (bursarref19_Same.j0 k true a0_0 l0_1 l0_2 l0_3 l0_4 l0_5 l0_6 a1_0 l1_1 l1_2 l1_3 l1_4 l1_5 l1_6))) = some r := by rw [if_pos rfl] at H; exact H
            clear H
            have H := H1
            clear H1
            replace H := Option.bind_eq_some_iff.mp H
            obtain ⟨t301, A130, H⟩ := H
            replace H : (if t301 = true then ((bursarref19_sameTxs.f k l0_5 l1_5).bind fun t302 => (if t302 = true then (bursarref19_Same.j0 k ((l0_6.length : Int) != (l1_6.length : Int)) a0_0 l0_1 l0_2 l0_3 l0_4 l0_5 l0_6 a1_0 l1_1 l1_2 l1_3 l1_4 l1_5 l1_6) else (bursarref19_Same.j0 k true a0_0 l0_1 l0_2 l0_3 l0_4 l0_5 l0_6 a1_0 l1_1 l1_2 l1_3 l1_4 l1_5 l1_6))) else (bursarref19_Same.j0 k true a0_0 l0_1 l0_2 l0_3 l0_4 l0_5 l0_6 a1_0 l1_1 l1_2 l1_3 l1_4 l1_5 l1_6)) = some r := H
            have A13 := Aside0.mk A130
            clear A130
            by_cases c14 : t301 = true
            · subst c14
              have H1 : ((bursarref19_sameTxs.f k l0_5 l1_5).bind fun t302 => (if t302 = true then (bursarref19_Same.j0 k ((l0_6.length : Int) != (l1_6.length : Int)) a0_0 l0_1 l0_2 l0_3 l0_4 l0_5 l0_6 a1_0 l1_1 l1_2 l1_3 l1_4 l1_5 l1_6) else (bursarref19_Same.j0 k true a0_0 l0_1 l0_2 l0_3 l0_4 l0_5 l0_6 a1_0 l1_1 l1_2 l1_3 l1_4 l1_5 l1_6))) = some r := by rw [if_pos rfl] at H; exact H
              clear H
              have H := H1
              clear H1
              replace H := Option.bind_eq_some_iff.mp H
              obtain ⟨t302, A150, H⟩ := H
              replace H : (if t302 = true then (bursarref19_Same.j0 k ((l0_6.length : Int) != (l1_6.length : Int)) a0_0 l0_1 l0_2 l0_3 l0_4 l0_5 l0_6 a1_0 l1_1 l1_2 l1_3 l1_4 l1_5 l1_6) else (bursarref19_Same.j0 k true a0_0 l0_1 l0_2 l0_3 l0_4 l0_5 l0_6 a1_0 l1_1 l1_2 l1_3 l1_4 l1_5 l1_6)) = some r := H
              have A15 := Aside0.mk A150
              clear A150
              by_cases c16 : t302 = true
              · subst c16
                have H1 : (bursarref19_Same.j0 k ((l0_6.length : Int) != (l1_6.length : Int)) a0_0 l0_1 l0_2 l0_3 l0_4 l0_5 l0_6 a1_0 l1_1 l1_2 l1_3 l1_4 l1_5 l1_6) = some r := by rw [if_pos rfl] at H; exact H
                clear H
                have H := H1
                clear H1
                have H' := Aside0.mk H
                clear H
                have hnb17 := NB296_297.out
                have hnc17 := NB297_296.out
                have hcz18_0 : w5.cell? ⟨gb296, 0, none⟩ = some (.int .i64 a0_0) := (blk_cell BK296.out 0).trans rfl
                have hcz18_1 : w5.cell? ⟨gb296, 1, none⟩ = some (.slice A0_1 l0_1.length c0_1) := (blk_cell BK296.out 1).trans rfl
                have hcz18_2 : w5.cell? ⟨gb296, 2, none⟩ = some (.slice A0_2 l0_2.length c0_2) := (blk_cell BK296.out 2).trans rfl
                have hcz18_3 : w5.cell? ⟨gb296, 3, none⟩ = some (.slice A0_3 l0_3.length c0_3) := (blk_cell BK296.out 3).trans rfl
                have hcz18_4 : w5.cell? ⟨gb296, 4, none⟩ = some (.slice A0_4 l0_4.length c0_4) := (blk_cell BK296.out 4).trans rfl
                have hcz18_5 : w5.cell? ⟨gb296, 5, none⟩ = some (.slice A0_5 l0_5.length c0_5) := (blk_cell BK296.out 5).trans rfl
                have hcz18_6 : w5.cell? ⟨gb296, 6, none⟩ = some (.slice A0_6 l0_6.length c0_6) := (blk_cell BK296.out 6).trans rfl
                have hfz18_0 := blk_frozen BK296.out 0
                have hfz18_1 := blk_frozen BK296.out 1
                have hfz18_2 := blk_frozen BK296.out 2
                have hfz18_3 := blk_frozen BK296.out 3
                have hfz18_4 := blk_frozen BK296.out 4
                have hfz18_5 := blk_frozen BK296.out 5
                have hfz18_6 := blk_frozen BK296.out 6
                have hcz19_0 : w5.cell? ⟨gb297, 0, none⟩ = some (.int .i64 a1_0) := (blk_cell BK297.out 0).trans rfl
                have hcz19_1 : w5.cell? ⟨gb297, 1, none⟩ = some (.slice A1_1 l1_1.length c1_1) := (blk_cell BK297.out 1).trans rfl
                have hcz19_2 : w5.cell? ⟨gb297, 2, none⟩ = some (.slice A1_2 l1_2.length c1_2) := (blk_cell BK297.out 2).trans rfl
                have hcz19_3 : w5.cell? ⟨gb297, 3, none⟩ = some (.slice A1_3 l1_3.length c1_3) := (blk_cell BK297.out 3).trans rfl
                have hcz19_4 : w5.cell? ⟨gb297, 4, none⟩ = some (.slice A1_4 l1_4.length c1_4) := (blk_cell BK297.out 4).trans rfl
                have hcz19_5 : w5.cell? ⟨gb297, 5, none⟩ = some (.slice A1_5 l1_5.length c1_5) := (blk_cell BK297.out 5).trans rfl
                have hcz19_6 : w5.cell? ⟨gb297, 6, none⟩ = some (.slice A1_6 l1_6.length c1_6) := (blk_cell BK297.out 6).trans rfl
                have hfz19_0 := blk_frozen BK297.out 0
                have hfz19_1 := blk_frozen BK297.out 1
                have hfz19_2 := blk_frozen BK297.out 2
                have hfz19_3 := blk_frozen BK297.out 3
                have hfz19_4 := blk_frozen BK297.out 4
                have hfz19_5 := blk_frozen BK297.out 5
                have hfz19_6 := blk_frozen BK297.out 6
                go_wp2_with (first | (go_at_call 87; (with_reducible refine (bursarref19_sameLocks.calls k _ _ l0_1 _ _ l1_1 true _ ?side1 ?side2 ?side3 ?side4 A7.out).mono ?_); (case side1 => repeat (first | exact (Kd.C_below HR0_1.out HB.out) | (with_reducible refine Kd.C_alloc ?_ _) | (with_reducible refine Kd.C_drewN ?_ _) | (with_reducible refine Kd.C_drew ?_))); (case side2 => exact HC0_1.out); (case side3 => repeat (first | exact (Kd.C_below HR1_1.out HB.out) | (with_reducible refine Kd.C_alloc ?_ _) | (with_reducible refine Kd.C_drewN ?_ _) | (with_reducible refine Kd.C_drew ?_))); (case side4 => exact HC1_1.out); rintro e w' ⟨rfl, ⟨nd, rfl⟩⟩) | (go_at_call 87; (with_reducible refine (bursarref19_sameLocks.calls k _ _ l0_2 _ _ l1_2 true _ ?side1 ?side2 ?side3 ?side4 A9.out).mono ?_); (case side1 => repeat (first | exact (Kd.C_below HR0_2.out (by repeat (first | (with_reducible first | exact HB.out | apply below_alloc | apply pw_below_drewN | apply below_drew1 | refine below_set ?_ GE296.out | refine below_set ?_ GE297.out) | exact HB.out))) | (with_reducible refine Kd.C_alloc ?_ _) | (with_reducible refine Kd.C_drewN ?_ _) | (with_reducible refine Kd.C_drew ?_))); (case side2 => exact HC0_2.out); (case side3 => repeat (first | exact (Kd.C_below HR1_2.out (by repeat (first | (with_reducible first | exact HB.out | apply below_alloc | apply pw_below_drewN | apply below_drew1 | refine below_set ?_ GE296.out | refine below_set ?_ GE297.out) | exact HB.out))) | (with_reducible refine Kd.C_alloc ?_ _) | (with_reducible refine Kd.C_drewN ?_ _) | (with_reducible refine Kd.C_drew ?_))); (case side4 => exact HC1_2.out); rintro e w' ⟨rfl, ⟨nd, rfl⟩⟩) | (go_at_call 88; (with_reducible refine (bursarref16_SameVersions.calls k _ _ l0_3 _ _ l1_3 true _ ?side1 ?side2 ?side3 ?side4 A11.out).mono ?_); (case side1 => repeat (first | exact (Kd.C_below HR0_3.out (by repeat (first | (with_reducible first | exact HB.out | apply below_alloc | apply pw_below_drewN | apply below_drew1 | refine below_set ?_ GE296.out | refine below_set ?_ GE297.out) | exact HB.out))) | (with_reducible refine Kd.C_alloc ?_ _) | (with_reducible refine Kd.C_drewN ?_ _) | (with_reducible refine Kd.C_drew ?_))); (case side2 => exact HC0_3.out); (case side3 => repeat (first | exact (Kd.C_below HR1_3.out (by repeat (first | (with_reducible first | exact HB.out | apply below_alloc | apply pw_below_drewN | apply below_drew1 | refine below_set ?_ GE296.out | refine below_set ?_ GE297.out) | exact HB.out))) | (with_reducible refine Kd.C_alloc ?_ _) | (with_reducible refine Kd.C_drewN ?_ _) | (with_reducible refine Kd.C_drew ?_))); (case side4 => exact HC1_3.out); rintro e w' ⟨rfl, ⟨nd, rfl⟩⟩) | (go_at_call 89; (with_reducible refine (bursarref16_SameIntents.calls k _ _ l0_4 _ _ l1_4 true _ ?side1 ?side2 ?side3 ?side4 A13.out).mono ?_); (case side1 => repeat (first | exact (Kd.C_below HR0_4.out (by repeat (first | (with_reducible first | exact HB.out | apply below_alloc | apply pw_below_drewN | apply below_drew1 | refine below_set ?_ GE296.out | refine below_set ?_ GE297.out) | exact HB.out))) | (with_reducible refine Kd.C_alloc ?_ _) | (with_reducible refine Kd.C_drewN ?_ _) | (with_reducible refine Kd.C_drew ?_))); (case side2 => exact HC0_4.out); (case side3 => repeat (first | exact (Kd.C_below HR1_4.out (by repeat (first | (with_reducible first | exact HB.out | apply below_alloc | apply pw_below_drewN | apply below_drew1 | refine below_set ?_ GE296.out | refine below_set ?_ GE297.out) | exact HB.out))) | (with_reducible refine Kd.C_alloc ?_ _) | (with_reducible refine Kd.C_drewN ?_ _) | (with_reducible refine Kd.C_drew ?_))); (case side4 => exact HC1_4.out); rintro e w' ⟨rfl, ⟨nd, rfl⟩⟩) | (go_at_call 90; (with_reducible refine (bursarref19_sameTxs.calls k _ _ l0_5 _ _ l1_5 true _ ?side1 ?side2 ?side3 ?side4 A15.out).mono ?_); (case side1 => repeat (first | exact (Kd.C_below HR0_5.out (by repeat (first | (with_reducible first | exact HB.out | apply below_alloc | apply pw_below_drewN | apply below_drew1 | refine below_set ?_ GE296.out | refine below_set ?_ GE297.out) | exact HB.out))) | (with_reducible refine Kd.C_alloc ?_ _) | (with_reducible refine Kd.C_drewN ?_ _) | (with_reducible refine Kd.C_drew ?_))); (case side2 => exact HC0_5.out); (case side3 => repeat (first | exact (Kd.C_below HR1_5.out (by repeat (first | (with_reducible first | exact HB.out | apply below_alloc | apply pw_below_drewN | apply below_drew1 | refine below_set ?_ GE296.out | refine below_set ?_ GE297.out) | exact HB.out))) | (with_reducible refine Kd.C_alloc ?_ _) | (with_reducible refine Kd.C_drewN ?_ _) | (with_reducible refine Kd.C_drew ?_))); (case side4 => exact HC1_5.out); rintro e w' ⟨rfl, ⟨nd, rfl⟩⟩))
                go_meet
                case rel => exact ⟨_, (((l0_6.length : Int) != (l1_6.length : Int))), (by first | rfl | (simp; done) | (simp [*]; done)), H', ⟨by first | omega | exact Nat.le_refl _⟩, ⟨by (with_reducible repeat (first | refine blk_drewN ?_ _ | refine blk_drew ?_ | refine blk_alloc ?_ _)); exact BK296.out⟩, ⟨by (with_reducible repeat (first | refine blk_drewN ?_ _ | refine blk_drew ?_ | refine blk_alloc ?_ _)); exact BK297.out⟩, ⟨by repeat (first | (with_reducible first | exact HB.out | apply below_alloc | apply pw_below_drewN | apply below_drew1 | refine below_set ?_ GE296.out | refine below_set ?_ GE297.out) | exact HB.out)⟩⟩
              · replace c16 := Bool.eq_false_iff.mpr c16
                subst c16
                have H1 : (bursarref19_Same.j0 k true a0_0 l0_1 l0_2 l0_3 l0_4 l0_5 l0_6 a1_0 l1_1 l1_2 l1_3 l1_4 l1_5 l1_6) = some r := by rw [if_neg (show ¬ (false = true) by decide)] at H; exact H
                clear H
                have H := H1
                clear H1
                have H' := Aside0.mk H
                clear H
                have hnb20 := NB296_297.out
                have hnc20 := NB297_296.out
                have hcz21_0 : w5.cell? ⟨gb296, 0, none⟩ = some (.int .i64 a0_0) := (blk_cell BK296.out 0).trans rfl
                have hcz21_1 : w5.cell? ⟨gb296, 1, none⟩ = some (.slice A0_1 l0_1.length c0_1) := (blk_cell BK296.out 1).trans rfl
                have hcz21_2 : w5.cell? ⟨gb296, 2, none⟩ = some (.slice A0_2 l0_2.length c0_2) := (blk_cell BK296.out 2).trans rfl
                have hcz21_3 : w5.cell? ⟨gb296, 3, none⟩ = some (.slice A0_3 l0_3.length c0_3) := (blk_cell BK296.out 3).trans rfl
                have hcz21_4 : w5.cell? ⟨gb296, 4, none⟩ = some (.slice A0_4 l0_4.length c0_4) := (blk_cell BK296.out 4).trans rfl
                have hcz21_5 : w5.cell? ⟨gb296, 5, none⟩ = some (.slice A0_5 l0_5.length c0_5) := (blk_cell BK296.out 5).trans rfl
                have hcz21_6 : w5.cell? ⟨gb296, 6, none⟩ = some (.slice A0_6 l0_6.length c0_6) := (blk_cell BK296.out 6).trans rfl
                have hfz21_0 := blk_frozen BK296.out 0
                have hfz21_1 := blk_frozen BK296.out 1
                have hfz21_2 := blk_frozen BK296.out 2
                have hfz21_3 := blk_frozen BK296.out 3
                have hfz21_4 := blk_frozen BK296.out 4
                have hfz21_5 := blk_frozen BK296.out 5
                have hfz21_6 := blk_frozen BK296.out 6
                have hcz22_0 : w5.cell? ⟨gb297, 0, none⟩ = some (.int .i64 a1_0) := (blk_cell BK297.out 0).trans rfl
                have hcz22_1 : w5.cell? ⟨gb297, 1, none⟩ = some (.slice A1_1 l1_1.length c1_1) := (blk_cell BK297.out 1).trans rfl
                have hcz22_2 : w5.cell? ⟨gb297, 2, none⟩ = some (.slice A1_2 l1_2.length c1_2) := (blk_cell BK297.out 2).trans rfl
                have hcz22_3 : w5.cell? ⟨gb297, 3, none⟩ = some (.slice A1_3 l1_3.length c1_3) := (blk_cell BK297.out 3).trans rfl
                have hcz22_4 : w5.cell? ⟨gb297, 4, none⟩ = some (.slice A1_4 l1_4.length c1_4) := (blk_cell BK297.out 4).trans rfl
                have hcz22_5 : w5.cell? ⟨gb297, 5, none⟩ = some (.slice A1_5 l1_5.length c1_5) := (blk_cell BK297.out 5).trans rfl
                have hcz22_6 : w5.cell? ⟨gb297, 6, none⟩ = some (.slice A1_6 l1_6.length c1_6) := (blk_cell BK297.out 6).trans rfl
                have hfz22_0 := blk_frozen BK297.out 0
                have hfz22_1 := blk_frozen BK297.out 1
                have hfz22_2 := blk_frozen BK297.out 2
                have hfz22_3 := blk_frozen BK297.out 3
                have hfz22_4 := blk_frozen BK297.out 4
                have hfz22_5 := blk_frozen BK297.out 5
                have hfz22_6 := blk_frozen BK297.out 6
                go_wp2_with (first | (go_at_call 87; (with_reducible refine (bursarref19_sameLocks.calls k _ _ l0_1 _ _ l1_1 true _ ?side1 ?side2 ?side3 ?side4 A7.out).mono ?_); (case side1 => repeat (first | exact (Kd.C_below HR0_1.out HB.out) | (with_reducible refine Kd.C_alloc ?_ _) | (with_reducible refine Kd.C_drewN ?_ _) | (with_reducible refine Kd.C_drew ?_))); (case side2 => exact HC0_1.out); (case side3 => repeat (first | exact (Kd.C_below HR1_1.out HB.out) | (with_reducible refine Kd.C_alloc ?_ _) | (with_reducible refine Kd.C_drewN ?_ _) | (with_reducible refine Kd.C_drew ?_))); (case side4 => exact HC1_1.out); rintro e w' ⟨rfl, ⟨nd, rfl⟩⟩) | (go_at_call 87; (with_reducible refine (bursarref19_sameLocks.calls k _ _ l0_2 _ _ l1_2 true _ ?side1 ?side2 ?side3 ?side4 A9.out).mono ?_); (case side1 => repeat (first | exact (Kd.C_below HR0_2.out (by repeat (first | (with_reducible first | exact HB.out | apply below_alloc | apply pw_below_drewN | apply below_drew1 | refine below_set ?_ GE296.out | refine below_set ?_ GE297.out) | exact HB.out))) | (with_reducible refine Kd.C_alloc ?_ _) | (with_reducible refine Kd.C_drewN ?_ _) | (with_reducible refine Kd.C_drew ?_))); (case side2 => exact HC0_2.out); (case side3 => repeat (first | exact (Kd.C_below HR1_2.out (by repeat (first | (with_reducible first | exact HB.out | apply below_alloc | apply pw_below_drewN | apply below_drew1 | refine below_set ?_ GE296.out | refine below_set ?_ GE297.out) | exact HB.out))) | (with_reducible refine Kd.C_alloc ?_ _) | (with_reducible refine Kd.C_drewN ?_ _) | (with_reducible refine Kd.C_drew ?_))); (case side4 => exact HC1_2.out); rintro e w' ⟨rfl, ⟨nd, rfl⟩⟩) | (go_at_call 88; (with_reducible refine (bursarref16_SameVersions.calls k _ _ l0_3 _ _ l1_3 true _ ?side1 ?side2 ?side3 ?side4 A11.out).mono ?_); (case side1 => repeat (first | exact (Kd.C_below HR0_3.out (by repeat (first | (with_reducible first | exact HB.out | apply below_alloc | apply pw_below_drewN | apply below_drew1 | refine below_set ?_ GE296.out | refine below_set ?_ GE297.out) | exact HB.out))) | (with_reducible refine Kd.C_alloc ?_ _) | (with_reducible refine Kd.C_drewN ?_ _) | (with_reducible refine Kd.C_drew ?_))); (case side2 => exact HC0_3.out); (case side3 => repeat (first | exact (Kd.C_below HR1_3.out (by repeat (first | (with_reducible first | exact HB.out | apply below_alloc | apply pw_below_drewN | apply below_drew1 | refine below_set ?_ GE296.out | refine below_set ?_ GE297.out) | exact HB.out))) | (with_reducible refine Kd.C_alloc ?_ _) | (with_reducible refine Kd.C_drewN ?_ _) | (with_reducible refine Kd.C_drew ?_))); (case side4 => exact HC1_3.out); rintro e w' ⟨rfl, ⟨nd, rfl⟩⟩) | (go_at_call 89; (with_reducible refine (bursarref16_SameIntents.calls k _ _ l0_4 _ _ l1_4 true _ ?side1 ?side2 ?side3 ?side4 A13.out).mono ?_); (case side1 => repeat (first | exact (Kd.C_below HR0_4.out (by repeat (first | (with_reducible first | exact HB.out | apply below_alloc | apply pw_below_drewN | apply below_drew1 | refine below_set ?_ GE296.out | refine below_set ?_ GE297.out) | exact HB.out))) | (with_reducible refine Kd.C_alloc ?_ _) | (with_reducible refine Kd.C_drewN ?_ _) | (with_reducible refine Kd.C_drew ?_))); (case side2 => exact HC0_4.out); (case side3 => repeat (first | exact (Kd.C_below HR1_4.out (by repeat (first | (with_reducible first | exact HB.out | apply below_alloc | apply pw_below_drewN | apply below_drew1 | refine below_set ?_ GE296.out | refine below_set ?_ GE297.out) | exact HB.out))) | (with_reducible refine Kd.C_alloc ?_ _) | (with_reducible refine Kd.C_drewN ?_ _) | (with_reducible refine Kd.C_drew ?_))); (case side4 => exact HC1_4.out); rintro e w' ⟨rfl, ⟨nd, rfl⟩⟩) | (go_at_call 90; (with_reducible refine (bursarref19_sameTxs.calls k _ _ l0_5 _ _ l1_5 false _ ?side1 ?side2 ?side3 ?side4 A15.out).mono ?_); (case side1 => repeat (first | exact (Kd.C_below HR0_5.out (by repeat (first | (with_reducible first | exact HB.out | apply below_alloc | apply pw_below_drewN | apply below_drew1 | refine below_set ?_ GE296.out | refine below_set ?_ GE297.out) | exact HB.out))) | (with_reducible refine Kd.C_alloc ?_ _) | (with_reducible refine Kd.C_drewN ?_ _) | (with_reducible refine Kd.C_drew ?_))); (case side2 => exact HC0_5.out); (case side3 => repeat (first | exact (Kd.C_below HR1_5.out (by repeat (first | (with_reducible first | exact HB.out | apply below_alloc | apply pw_below_drewN | apply below_drew1 | refine below_set ?_ GE296.out | refine below_set ?_ GE297.out) | exact HB.out))) | (with_reducible refine Kd.C_alloc ?_ _) | (with_reducible refine Kd.C_drewN ?_ _) | (with_reducible refine Kd.C_drew ?_))); (case side4 => exact HC1_5.out); rintro e w' ⟨rfl, ⟨nd, rfl⟩⟩))
                go_meet
                case rel => exact ⟨_, (true), (by first | rfl | (simp; done) | (simp [*]; done)), H', ⟨by first | omega | exact Nat.le_refl _⟩, ⟨by (with_reducible repeat (first | refine blk_drewN ?_ _ | refine blk_drew ?_ | refine blk_alloc ?_ _)); exact BK296.out⟩, ⟨by (with_reducible repeat (first | refine blk_drewN ?_ _ | refine blk_drew ?_ | refine blk_alloc ?_ _)); exact BK297.out⟩, ⟨by repeat (first | (with_reducible first | exact HB.out | apply below_alloc | apply pw_below_drewN | apply below_drew1 | refine below_set ?_ GE296.out | refine below_set ?_ GE297.out) | exact HB.out)⟩⟩
            · replace c14 := Bool.eq_false_iff.mpr c14
              subst c14
              have H1 : (bursarref19_Same.j0 k true a0_0 l0_1 l0_2 l0_3 l0_4 l0_5 l0_6 a1_0 l1_1 l1_2 l1_3 l1_4 l1_5 l1_6) = some r := by rw [if_neg (show ¬ (false = true) by decide)] at H; exact H
              clear H
              have H := H1
              clear H1
              have H' := Aside0.mk H
              clear H
              have hnb23 := NB296_297.out
              have hnc23 := NB297_296.out
              have hcz24_0 : w5.cell? ⟨gb296, 0, none⟩ = some (.int .i64 a0_0) := (blk_cell BK296.out 0).trans rfl
              have hcz24_1 : w5.cell? ⟨gb296, 1, none⟩ = some (.slice A0_1 l0_1.length c0_1) := (blk_cell BK296.out 1).trans rfl
              have hcz24_2 : w5.cell? ⟨gb296, 2, none⟩ = some (.slice A0_2 l0_2.length c0_2) := (blk_cell BK296.out 2).trans rfl
              have hcz24_3 : w5.cell? ⟨gb296, 3, none⟩ = some (.slice A0_3 l0_3.length c0_3) := (blk_cell BK296.out 3).trans rfl
              have hcz24_4 : w5.cell? ⟨gb296, 4, none⟩ = some (.slice A0_4 l0_4.length c0_4) := (blk_cell BK296.out 4).trans rfl
              have hcz24_5 : w5.cell? ⟨gb296, 5, none⟩ = some (.slice A0_5 l0_5.length c0_5) := (blk_cell BK296.out 5).trans rfl
              have hcz24_6 : w5.cell? ⟨gb296, 6, none⟩ = some (.slice A0_6 l0_6.length c0_6) := (blk_cell BK296.out 6).trans rfl
              have hfz24_0 := blk_frozen BK296.out 0
              have hfz24_1 := blk_frozen BK296.out 1
              have hfz24_2 := blk_frozen BK296.out 2
              have hfz24_3 := blk_frozen BK296.out 3
              have hfz24_4 := blk_frozen BK296.out 4
              have hfz24_5 := blk_frozen BK296.out 5
              have hfz24_6 := blk_frozen BK296.out 6
              have hcz25_0 : w5.cell? ⟨gb297, 0, none⟩ = some (.int .i64 a1_0) := (blk_cell BK297.out 0).trans rfl
              have hcz25_1 : w5.cell? ⟨gb297, 1, none⟩ = some (.slice A1_1 l1_1.length c1_1) := (blk_cell BK297.out 1).trans rfl
              have hcz25_2 : w5.cell? ⟨gb297, 2, none⟩ = some (.slice A1_2 l1_2.length c1_2) := (blk_cell BK297.out 2).trans rfl
              have hcz25_3 : w5.cell? ⟨gb297, 3, none⟩ = some (.slice A1_3 l1_3.length c1_3) := (blk_cell BK297.out 3).trans rfl
              have hcz25_4 : w5.cell? ⟨gb297, 4, none⟩ = some (.slice A1_4 l1_4.length c1_4) := (blk_cell BK297.out 4).trans rfl
              have hcz25_5 : w5.cell? ⟨gb297, 5, none⟩ = some (.slice A1_5 l1_5.length c1_5) := (blk_cell BK297.out 5).trans rfl
              have hcz25_6 : w5.cell? ⟨gb297, 6, none⟩ = some (.slice A1_6 l1_6.length c1_6) := (blk_cell BK297.out 6).trans rfl
              have hfz25_0 := blk_frozen BK297.out 0
              have hfz25_1 := blk_frozen BK297.out 1
              have hfz25_2 := blk_frozen BK297.out 2
              have hfz25_3 := blk_frozen BK297.out 3
              have hfz25_4 := blk_frozen BK297.out 4
              have hfz25_5 := blk_frozen BK297.out 5
              have hfz25_6 := blk_frozen BK297.out 6
              go_wp2_with (first | (go_at_call 87; (with_reducible refine (bursarref19_sameLocks.calls k _ _ l0_1 _ _ l1_1 true _ ?side1 ?side2 ?side3 ?side4 A7.out).mono ?_); (case side1 => repeat (first | exact (Kd.C_below HR0_1.out HB.out) | (with_reducible refine Kd.C_alloc ?_ _) | (with_reducible refine Kd.C_drewN ?_ _) | (with_reducible refine Kd.C_drew ?_))); (case side2 => exact HC0_1.out); (case side3 => repeat (first | exact (Kd.C_below HR1_1.out HB.out) | (with_reducible refine Kd.C_alloc ?_ _) | (with_reducible refine Kd.C_drewN ?_ _) | (with_reducible refine Kd.C_drew ?_))); (case side4 => exact HC1_1.out); rintro e w' ⟨rfl, ⟨nd, rfl⟩⟩) | (go_at_call 87; (with_reducible refine (bursarref19_sameLocks.calls k _ _ l0_2 _ _ l1_2 true _ ?side1 ?side2 ?side3 ?side4 A9.out).mono ?_); (case side1 => repeat (first | exact (Kd.C_below HR0_2.out (by repeat (first | (with_reducible first | exact HB.out | apply below_alloc | apply pw_below_drewN | apply below_drew1 | refine below_set ?_ GE296.out | refine below_set ?_ GE297.out) | exact HB.out))) | (with_reducible refine Kd.C_alloc ?_ _) | (with_reducible refine Kd.C_drewN ?_ _) | (with_reducible refine Kd.C_drew ?_))); (case side2 => exact HC0_2.out); (case side3 => repeat (first | exact (Kd.C_below HR1_2.out (by repeat (first | (with_reducible first | exact HB.out | apply below_alloc | apply pw_below_drewN | apply below_drew1 | refine below_set ?_ GE296.out | refine below_set ?_ GE297.out) | exact HB.out))) | (with_reducible refine Kd.C_alloc ?_ _) | (with_reducible refine Kd.C_drewN ?_ _) | (with_reducible refine Kd.C_drew ?_))); (case side4 => exact HC1_2.out); rintro e w' ⟨rfl, ⟨nd, rfl⟩⟩) | (go_at_call 88; (with_reducible refine (bursarref16_SameVersions.calls k _ _ l0_3 _ _ l1_3 true _ ?side1 ?side2 ?side3 ?side4 A11.out).mono ?_); (case side1 => repeat (first | exact (Kd.C_below HR0_3.out (by repeat (first | (with_reducible first | exact HB.out | apply below_alloc | apply pw_below_drewN | apply below_drew1 | refine below_set ?_ GE296.out | refine below_set ?_ GE297.out) | exact HB.out))) | (with_reducible refine Kd.C_alloc ?_ _) | (with_reducible refine Kd.C_drewN ?_ _) | (with_reducible refine Kd.C_drew ?_))); (case side2 => exact HC0_3.out); (case side3 => repeat (first | exact (Kd.C_below HR1_3.out (by repeat (first | (with_reducible first | exact HB.out | apply below_alloc | apply pw_below_drewN | apply below_drew1 | refine below_set ?_ GE296.out | refine below_set ?_ GE297.out) | exact HB.out))) | (with_reducible refine Kd.C_alloc ?_ _) | (with_reducible refine Kd.C_drewN ?_ _) | (with_reducible refine Kd.C_drew ?_))); (case side4 => exact HC1_3.out); rintro e w' ⟨rfl, ⟨nd, rfl⟩⟩) | (go_at_call 89; (with_reducible refine (bursarref16_SameIntents.calls k _ _ l0_4 _ _ l1_4 false _ ?side1 ?side2 ?side3 ?side4 A13.out).mono ?_); (case side1 => repeat (first | exact (Kd.C_below HR0_4.out (by repeat (first | (with_reducible first | exact HB.out | apply below_alloc | apply pw_below_drewN | apply below_drew1 | refine below_set ?_ GE296.out | refine below_set ?_ GE297.out) | exact HB.out))) | (with_reducible refine Kd.C_alloc ?_ _) | (with_reducible refine Kd.C_drewN ?_ _) | (with_reducible refine Kd.C_drew ?_))); (case side2 => exact HC0_4.out); (case side3 => repeat (first | exact (Kd.C_below HR1_4.out (by repeat (first | (with_reducible first | exact HB.out | apply below_alloc | apply pw_below_drewN | apply below_drew1 | refine below_set ?_ GE296.out | refine below_set ?_ GE297.out) | exact HB.out))) | (with_reducible refine Kd.C_alloc ?_ _) | (with_reducible refine Kd.C_drewN ?_ _) | (with_reducible refine Kd.C_drew ?_))); (case side4 => exact HC1_4.out); rintro e w' ⟨rfl, ⟨nd, rfl⟩⟩))
              go_meet
              case rel => exact ⟨_, (true), (by first | rfl | (simp; done) | (simp [*]; done)), H', ⟨by first | omega | exact Nat.le_refl _⟩, ⟨by (with_reducible repeat (first | refine blk_drewN ?_ _ | refine blk_drew ?_ | refine blk_alloc ?_ _)); exact BK296.out⟩, ⟨by (with_reducible repeat (first | refine blk_drewN ?_ _ | refine blk_drew ?_ | refine blk_alloc ?_ _)); exact BK297.out⟩, ⟨by repeat (first | (with_reducible first | exact HB.out | apply below_alloc | apply pw_below_drewN | apply below_drew1 | refine below_set ?_ GE296.out | refine below_set ?_ GE297.out) | exact HB.out)⟩⟩
          · replace c12 := Bool.eq_false_iff.mpr c12
            subst c12
            have H1 : (bursarref19_Same.j0 k true a0_0 l0_1 l0_2 l0_3 l0_4 l0_5 l0_6 a1_0 l1_1 l1_2 l1_3 l1_4 l1_5 l1_6) = some r := by rw [if_neg (show ¬ (false = true) by decide)] at H; exact H
            clear H
            have H := H1
            clear H1
            have H' := Aside0.mk H
            clear H
            have hnb26 := NB296_297.out
            have hnc26 := NB297_296.out
            have hcz27_0 : w5.cell? ⟨gb296, 0, none⟩ = some (.int .i64 a0_0) := (blk_cell BK296.out 0).trans rfl
            have hcz27_1 : w5.cell? ⟨gb296, 1, none⟩ = some (.slice A0_1 l0_1.length c0_1) := (blk_cell BK296.out 1).trans rfl
            have hcz27_2 : w5.cell? ⟨gb296, 2, none⟩ = some (.slice A0_2 l0_2.length c0_2) := (blk_cell BK296.out 2).trans rfl
            have hcz27_3 : w5.cell? ⟨gb296, 3, none⟩ = some (.slice A0_3 l0_3.length c0_3) := (blk_cell BK296.out 3).trans rfl
            have hcz27_4 : w5.cell? ⟨gb296, 4, none⟩ = some (.slice A0_4 l0_4.length c0_4) := (blk_cell BK296.out 4).trans rfl
            have hcz27_5 : w5.cell? ⟨gb296, 5, none⟩ = some (.slice A0_5 l0_5.length c0_5) := (blk_cell BK296.out 5).trans rfl
            have hcz27_6 : w5.cell? ⟨gb296, 6, none⟩ = some (.slice A0_6 l0_6.length c0_6) := (blk_cell BK296.out 6).trans rfl
            have hfz27_0 := blk_frozen BK296.out 0
            have hfz27_1 := blk_frozen BK296.out 1
            have hfz27_2 := blk_frozen BK296.out 2
            have hfz27_3 := blk_frozen BK296.out 3
            have hfz27_4 := blk_frozen BK296.out 4
            have hfz27_5 := blk_frozen BK296.out 5
            have hfz27_6 := blk_frozen BK296.out 6
            have hcz28_0 : w5.cell? ⟨gb297, 0, none⟩ = some (.int .i64 a1_0) := (blk_cell BK297.out 0).trans rfl
            have hcz28_1 : w5.cell? ⟨gb297, 1, none⟩ = some (.slice A1_1 l1_1.length c1_1) := (blk_cell BK297.out 1).trans rfl
            have hcz28_2 : w5.cell? ⟨gb297, 2, none⟩ = some (.slice A1_2 l1_2.length c1_2) := (blk_cell BK297.out 2).trans rfl
            have hcz28_3 : w5.cell? ⟨gb297, 3, none⟩ = some (.slice A1_3 l1_3.length c1_3) := (blk_cell BK297.out 3).trans rfl
            have hcz28_4 : w5.cell? ⟨gb297, 4, none⟩ = some (.slice A1_4 l1_4.length c1_4) := (blk_cell BK297.out 4).trans rfl
            have hcz28_5 : w5.cell? ⟨gb297, 5, none⟩ = some (.slice A1_5 l1_5.length c1_5) := (blk_cell BK297.out 5).trans rfl
            have hcz28_6 : w5.cell? ⟨gb297, 6, none⟩ = some (.slice A1_6 l1_6.length c1_6) := (blk_cell BK297.out 6).trans rfl
            have hfz28_0 := blk_frozen BK297.out 0
            have hfz28_1 := blk_frozen BK297.out 1
            have hfz28_2 := blk_frozen BK297.out 2
            have hfz28_3 := blk_frozen BK297.out 3
            have hfz28_4 := blk_frozen BK297.out 4
            have hfz28_5 := blk_frozen BK297.out 5
            have hfz28_6 := blk_frozen BK297.out 6
            go_wp2_with (first | (go_at_call 87; (with_reducible refine (bursarref19_sameLocks.calls k _ _ l0_1 _ _ l1_1 true _ ?side1 ?side2 ?side3 ?side4 A7.out).mono ?_); (case side1 => repeat (first | exact (Kd.C_below HR0_1.out HB.out) | (with_reducible refine Kd.C_alloc ?_ _) | (with_reducible refine Kd.C_drewN ?_ _) | (with_reducible refine Kd.C_drew ?_))); (case side2 => exact HC0_1.out); (case side3 => repeat (first | exact (Kd.C_below HR1_1.out HB.out) | (with_reducible refine Kd.C_alloc ?_ _) | (with_reducible refine Kd.C_drewN ?_ _) | (with_reducible refine Kd.C_drew ?_))); (case side4 => exact HC1_1.out); rintro e w' ⟨rfl, ⟨nd, rfl⟩⟩) | (go_at_call 87; (with_reducible refine (bursarref19_sameLocks.calls k _ _ l0_2 _ _ l1_2 true _ ?side1 ?side2 ?side3 ?side4 A9.out).mono ?_); (case side1 => repeat (first | exact (Kd.C_below HR0_2.out (by repeat (first | (with_reducible first | exact HB.out | apply below_alloc | apply pw_below_drewN | apply below_drew1 | refine below_set ?_ GE296.out | refine below_set ?_ GE297.out) | exact HB.out))) | (with_reducible refine Kd.C_alloc ?_ _) | (with_reducible refine Kd.C_drewN ?_ _) | (with_reducible refine Kd.C_drew ?_))); (case side2 => exact HC0_2.out); (case side3 => repeat (first | exact (Kd.C_below HR1_2.out (by repeat (first | (with_reducible first | exact HB.out | apply below_alloc | apply pw_below_drewN | apply below_drew1 | refine below_set ?_ GE296.out | refine below_set ?_ GE297.out) | exact HB.out))) | (with_reducible refine Kd.C_alloc ?_ _) | (with_reducible refine Kd.C_drewN ?_ _) | (with_reducible refine Kd.C_drew ?_))); (case side4 => exact HC1_2.out); rintro e w' ⟨rfl, ⟨nd, rfl⟩⟩) | (go_at_call 88; (with_reducible refine (bursarref16_SameVersions.calls k _ _ l0_3 _ _ l1_3 false _ ?side1 ?side2 ?side3 ?side4 A11.out).mono ?_); (case side1 => repeat (first | exact (Kd.C_below HR0_3.out (by repeat (first | (with_reducible first | exact HB.out | apply below_alloc | apply pw_below_drewN | apply below_drew1 | refine below_set ?_ GE296.out | refine below_set ?_ GE297.out) | exact HB.out))) | (with_reducible refine Kd.C_alloc ?_ _) | (with_reducible refine Kd.C_drewN ?_ _) | (with_reducible refine Kd.C_drew ?_))); (case side2 => exact HC0_3.out); (case side3 => repeat (first | exact (Kd.C_below HR1_3.out (by repeat (first | (with_reducible first | exact HB.out | apply below_alloc | apply pw_below_drewN | apply below_drew1 | refine below_set ?_ GE296.out | refine below_set ?_ GE297.out) | exact HB.out))) | (with_reducible refine Kd.C_alloc ?_ _) | (with_reducible refine Kd.C_drewN ?_ _) | (with_reducible refine Kd.C_drew ?_))); (case side4 => exact HC1_3.out); rintro e w' ⟨rfl, ⟨nd, rfl⟩⟩))
            go_meet
            case rel => exact ⟨_, (true), (by first | rfl | (simp; done) | (simp [*]; done)), H', ⟨by first | omega | exact Nat.le_refl _⟩, ⟨by (with_reducible repeat (first | refine blk_drewN ?_ _ | refine blk_drew ?_ | refine blk_alloc ?_ _)); exact BK296.out⟩, ⟨by (with_reducible repeat (first | refine blk_drewN ?_ _ | refine blk_drew ?_ | refine blk_alloc ?_ _)); exact BK297.out⟩, ⟨by repeat (first | (with_reducible first | exact HB.out | apply below_alloc | apply pw_below_drewN | apply below_drew1 | refine below_set ?_ GE296.out | refine below_set ?_ GE297.out) | exact HB.out)⟩⟩
        · replace c10 := Bool.eq_false_iff.mpr c10
          subst c10
          have H1 : (bursarref19_Same.j0 k true a0_0 l0_1 l0_2 l0_3 l0_4 l0_5 l0_6 a1_0 l1_1 l1_2 l1_3 l1_4 l1_5 l1_6) = some r := by rw [if_neg (show ¬ (false = true) by decide)] at H; exact H
          clear H
          have H := H1
          clear H1
          have H' := Aside0.mk H
          clear H
          have hnb29 := NB296_297.out
          have hnc29 := NB297_296.out
          have hcz30_0 : w5.cell? ⟨gb296, 0, none⟩ = some (.int .i64 a0_0) := (blk_cell BK296.out 0).trans rfl
          have hcz30_1 : w5.cell? ⟨gb296, 1, none⟩ = some (.slice A0_1 l0_1.length c0_1) := (blk_cell BK296.out 1).trans rfl
          have hcz30_2 : w5.cell? ⟨gb296, 2, none⟩ = some (.slice A0_2 l0_2.length c0_2) := (blk_cell BK296.out 2).trans rfl
          have hcz30_3 : w5.cell? ⟨gb296, 3, none⟩ = some (.slice A0_3 l0_3.length c0_3) := (blk_cell BK296.out 3).trans rfl
          have hcz30_4 : w5.cell? ⟨gb296, 4, none⟩ = some (.slice A0_4 l0_4.length c0_4) := (blk_cell BK296.out 4).trans rfl
          have hcz30_5 : w5.cell? ⟨gb296, 5, none⟩ = some (.slice A0_5 l0_5.length c0_5) := (blk_cell BK296.out 5).trans rfl
          have hcz30_6 : w5.cell? ⟨gb296, 6, none⟩ = some (.slice A0_6 l0_6.length c0_6) := (blk_cell BK296.out 6).trans rfl
          have hfz30_0 := blk_frozen BK296.out 0
          have hfz30_1 := blk_frozen BK296.out 1
          have hfz30_2 := blk_frozen BK296.out 2
          have hfz30_3 := blk_frozen BK296.out 3
          have hfz30_4 := blk_frozen BK296.out 4
          have hfz30_5 := blk_frozen BK296.out 5
          have hfz30_6 := blk_frozen BK296.out 6
          have hcz31_0 : w5.cell? ⟨gb297, 0, none⟩ = some (.int .i64 a1_0) := (blk_cell BK297.out 0).trans rfl
          have hcz31_1 : w5.cell? ⟨gb297, 1, none⟩ = some (.slice A1_1 l1_1.length c1_1) := (blk_cell BK297.out 1).trans rfl
          have hcz31_2 : w5.cell? ⟨gb297, 2, none⟩ = some (.slice A1_2 l1_2.length c1_2) := (blk_cell BK297.out 2).trans rfl
          have hcz31_3 : w5.cell? ⟨gb297, 3, none⟩ = some (.slice A1_3 l1_3.length c1_3) := (blk_cell BK297.out 3).trans rfl
          have hcz31_4 : w5.cell? ⟨gb297, 4, none⟩ = some (.slice A1_4 l1_4.length c1_4) := (blk_cell BK297.out 4).trans rfl
          have hcz31_5 : w5.cell? ⟨gb297, 5, none⟩ = some (.slice A1_5 l1_5.length c1_5) := (blk_cell BK297.out 5).trans rfl
          have hcz31_6 : w5.cell? ⟨gb297, 6, none⟩ = some (.slice A1_6 l1_6.length c1_6) := (blk_cell BK297.out 6).trans rfl
          have hfz31_0 := blk_frozen BK297.out 0
          have hfz31_1 := blk_frozen BK297.out 1
          have hfz31_2 := blk_frozen BK297.out 2
          have hfz31_3 := blk_frozen BK297.out 3
          have hfz31_4 := blk_frozen BK297.out 4
          have hfz31_5 := blk_frozen BK297.out 5
          have hfz31_6 := blk_frozen BK297.out 6
          go_wp2_with (first | (go_at_call 87; (with_reducible refine (bursarref19_sameLocks.calls k _ _ l0_1 _ _ l1_1 true _ ?side1 ?side2 ?side3 ?side4 A7.out).mono ?_); (case side1 => repeat (first | exact (Kd.C_below HR0_1.out HB.out) | (with_reducible refine Kd.C_alloc ?_ _) | (with_reducible refine Kd.C_drewN ?_ _) | (with_reducible refine Kd.C_drew ?_))); (case side2 => exact HC0_1.out); (case side3 => repeat (first | exact (Kd.C_below HR1_1.out HB.out) | (with_reducible refine Kd.C_alloc ?_ _) | (with_reducible refine Kd.C_drewN ?_ _) | (with_reducible refine Kd.C_drew ?_))); (case side4 => exact HC1_1.out); rintro e w' ⟨rfl, ⟨nd, rfl⟩⟩) | (go_at_call 87; (with_reducible refine (bursarref19_sameLocks.calls k _ _ l0_2 _ _ l1_2 false _ ?side1 ?side2 ?side3 ?side4 A9.out).mono ?_); (case side1 => repeat (first | exact (Kd.C_below HR0_2.out (by repeat (first | (with_reducible first | exact HB.out | apply below_alloc | apply pw_below_drewN | apply below_drew1 | refine below_set ?_ GE296.out | refine below_set ?_ GE297.out) | exact HB.out))) | (with_reducible refine Kd.C_alloc ?_ _) | (with_reducible refine Kd.C_drewN ?_ _) | (with_reducible refine Kd.C_drew ?_))); (case side2 => exact HC0_2.out); (case side3 => repeat (first | exact (Kd.C_below HR1_2.out (by repeat (first | (with_reducible first | exact HB.out | apply below_alloc | apply pw_below_drewN | apply below_drew1 | refine below_set ?_ GE296.out | refine below_set ?_ GE297.out) | exact HB.out))) | (with_reducible refine Kd.C_alloc ?_ _) | (with_reducible refine Kd.C_drewN ?_ _) | (with_reducible refine Kd.C_drew ?_))); (case side4 => exact HC1_2.out); rintro e w' ⟨rfl, ⟨nd, rfl⟩⟩))
          go_meet
          case rel => exact ⟨_, (true), (by first | rfl | (simp; done) | (simp [*]; done)), H', ⟨by first | omega | exact Nat.le_refl _⟩, ⟨by (with_reducible repeat (first | refine blk_drewN ?_ _ | refine blk_drew ?_ | refine blk_alloc ?_ _)); exact BK296.out⟩, ⟨by (with_reducible repeat (first | refine blk_drewN ?_ _ | refine blk_drew ?_ | refine blk_alloc ?_ _)); exact BK297.out⟩, ⟨by repeat (first | (with_reducible first | exact HB.out | apply below_alloc | apply pw_below_drewN | apply below_drew1 | refine below_set ?_ GE296.out | refine below_set ?_ GE297.out) | exact HB.out)⟩⟩
      · replace c8 := Bool.eq_false_iff.mpr c8
        subst c8
        have H1 : (bursarref19_Same.j0 k true a0_0 l0_1 l0_2 l0_3 l0_4 l0_5 l0_6 a1_0 l1_1 l1_2 l1_3 l1_4 l1_5 l1_6) = some r := by rw [if_neg (show ¬ (false = true) by decide)] at H; exact H
        clear H
        have H := H1
        clear H1
        have H' := Aside0.mk H
        clear H
        have hnb32 := NB296_297.out
        have hnc32 := NB297_296.out
        have hcz33_0 : w5.cell? ⟨gb296, 0, none⟩ = some (.int .i64 a0_0) := (blk_cell BK296.out 0).trans rfl
        have hcz33_1 : w5.cell? ⟨gb296, 1, none⟩ = some (.slice A0_1 l0_1.length c0_1) := (blk_cell BK296.out 1).trans rfl
        have hcz33_2 : w5.cell? ⟨gb296, 2, none⟩ = some (.slice A0_2 l0_2.length c0_2) := (blk_cell BK296.out 2).trans rfl
        have hcz33_3 : w5.cell? ⟨gb296, 3, none⟩ = some (.slice A0_3 l0_3.length c0_3) := (blk_cell BK296.out 3).trans rfl
        have hcz33_4 : w5.cell? ⟨gb296, 4, none⟩ = some (.slice A0_4 l0_4.length c0_4) := (blk_cell BK296.out 4).trans rfl
        have hcz33_5 : w5.cell? ⟨gb296, 5, none⟩ = some (.slice A0_5 l0_5.length c0_5) := (blk_cell BK296.out 5).trans rfl
        have hcz33_6 : w5.cell? ⟨gb296, 6, none⟩ = some (.slice A0_6 l0_6.length c0_6) := (blk_cell BK296.out 6).trans rfl
        have hfz33_0 := blk_frozen BK296.out 0
        have hfz33_1 := blk_frozen BK296.out 1
        have hfz33_2 := blk_frozen BK296.out 2
        have hfz33_3 := blk_frozen BK296.out 3
        have hfz33_4 := blk_frozen BK296.out 4
        have hfz33_5 := blk_frozen BK296.out 5
        have hfz33_6 := blk_frozen BK296.out 6
        have hcz34_0 : w5.cell? ⟨gb297, 0, none⟩ = some (.int .i64 a1_0) := (blk_cell BK297.out 0).trans rfl
        have hcz34_1 : w5.cell? ⟨gb297, 1, none⟩ = some (.slice A1_1 l1_1.length c1_1) := (blk_cell BK297.out 1).trans rfl
        have hcz34_2 : w5.cell? ⟨gb297, 2, none⟩ = some (.slice A1_2 l1_2.length c1_2) := (blk_cell BK297.out 2).trans rfl
        have hcz34_3 : w5.cell? ⟨gb297, 3, none⟩ = some (.slice A1_3 l1_3.length c1_3) := (blk_cell BK297.out 3).trans rfl
        have hcz34_4 : w5.cell? ⟨gb297, 4, none⟩ = some (.slice A1_4 l1_4.length c1_4) := (blk_cell BK297.out 4).trans rfl
        have hcz34_5 : w5.cell? ⟨gb297, 5, none⟩ = some (.slice A1_5 l1_5.length c1_5) := (blk_cell BK297.out 5).trans rfl
        have hcz34_6 : w5.cell? ⟨gb297, 6, none⟩ = some (.slice A1_6 l1_6.length c1_6) := (blk_cell BK297.out 6).trans rfl
        have hfz34_0 := blk_frozen BK297.out 0
        have hfz34_1 := blk_frozen BK297.out 1
        have hfz34_2 := blk_frozen BK297.out 2
        have hfz34_3 := blk_frozen BK297.out 3
        have hfz34_4 := blk_frozen BK297.out 4
        have hfz34_5 := blk_frozen BK297.out 5
        have hfz34_6 := blk_frozen BK297.out 6
        go_wp2_with (first | (go_at_call 87; (with_reducible refine (bursarref19_sameLocks.calls k _ _ l0_1 _ _ l1_1 false _ ?side1 ?side2 ?side3 ?side4 A7.out).mono ?_); (case side1 => repeat (first | exact (Kd.C_below HR0_1.out HB.out) | (with_reducible refine Kd.C_alloc ?_ _) | (with_reducible refine Kd.C_drewN ?_ _) | (with_reducible refine Kd.C_drew ?_))); (case side2 => exact HC0_1.out); (case side3 => repeat (first | exact (Kd.C_below HR1_1.out HB.out) | (with_reducible refine Kd.C_alloc ?_ _) | (with_reducible refine Kd.C_drewN ?_ _) | (with_reducible refine Kd.C_drew ?_))); (case side4 => exact HC1_1.out); rintro e w' ⟨rfl, ⟨nd, rfl⟩⟩))
        go_meet
        case rel => exact ⟨_, (true), (by first | rfl | (simp; done) | (simp [*]; done)), H', ⟨by first | omega | exact Nat.le_refl _⟩, ⟨by (with_reducible repeat (first | refine blk_drewN ?_ _ | refine blk_drew ?_ | refine blk_alloc ?_ _)); exact BK296.out⟩, ⟨by (with_reducible repeat (first | refine blk_drewN ?_ _ | refine blk_drew ?_ | refine blk_alloc ?_ _)); exact BK297.out⟩, ⟨by repeat (first | (with_reducible first | exact HB.out | apply below_alloc | apply pw_below_drewN | apply below_drew1 | refine below_set ?_ GE296.out | refine below_set ?_ GE297.out) | exact HB.out)⟩⟩
    · rw [if_neg c6] at H
      have c6b0 : (a0_0 == a1_0) = false := beq_eq_false_iff_ne.mpr c6
      have c6b1 : (a0_0 != a1_0) = true := bne_iff_ne.mpr c6
      (first | rw [c6b0] | (simp only [i64_w, i32_w]; rw [c6b0]) | skip)
      have H' := Aside0.mk H
      clear H
      have hnb35 := NB296_297.out
      have hnc35 := NB297_296.out
      have hcz36_0 : w5.cell? ⟨gb296, 0, none⟩ = some (.int .i64 a0_0) := (blk_cell BK296.out 0).trans rfl
      have hcz36_1 : w5.cell? ⟨gb296, 1, none⟩ = some (.slice A0_1 l0_1.length c0_1) := (blk_cell BK296.out 1).trans rfl
      have hcz36_2 : w5.cell? ⟨gb296, 2, none⟩ = some (.slice A0_2 l0_2.length c0_2) := (blk_cell BK296.out 2).trans rfl
      have hcz36_3 : w5.cell? ⟨gb296, 3, none⟩ = some (.slice A0_3 l0_3.length c0_3) := (blk_cell BK296.out 3).trans rfl
      have hcz36_4 : w5.cell? ⟨gb296, 4, none⟩ = some (.slice A0_4 l0_4.length c0_4) := (blk_cell BK296.out 4).trans rfl
      have hcz36_5 : w5.cell? ⟨gb296, 5, none⟩ = some (.slice A0_5 l0_5.length c0_5) := (blk_cell BK296.out 5).trans rfl
      have hcz36_6 : w5.cell? ⟨gb296, 6, none⟩ = some (.slice A0_6 l0_6.length c0_6) := (blk_cell BK296.out 6).trans rfl
      have hfz36_0 := blk_frozen BK296.out 0
      have hfz36_1 := blk_frozen BK296.out 1
      have hfz36_2 := blk_frozen BK296.out 2
      have hfz36_3 := blk_frozen BK296.out 3
      have hfz36_4 := blk_frozen BK296.out 4
      have hfz36_5 := blk_frozen BK296.out 5
      have hfz36_6 := blk_frozen BK296.out 6
      have hcz37_0 : w5.cell? ⟨gb297, 0, none⟩ = some (.int .i64 a1_0) := (blk_cell BK297.out 0).trans rfl
      have hcz37_1 : w5.cell? ⟨gb297, 1, none⟩ = some (.slice A1_1 l1_1.length c1_1) := (blk_cell BK297.out 1).trans rfl
      have hcz37_2 : w5.cell? ⟨gb297, 2, none⟩ = some (.slice A1_2 l1_2.length c1_2) := (blk_cell BK297.out 2).trans rfl
      have hcz37_3 : w5.cell? ⟨gb297, 3, none⟩ = some (.slice A1_3 l1_3.length c1_3) := (blk_cell BK297.out 3).trans rfl
      have hcz37_4 : w5.cell? ⟨gb297, 4, none⟩ = some (.slice A1_4 l1_4.length c1_4) := (blk_cell BK297.out 4).trans rfl
      have hcz37_5 : w5.cell? ⟨gb297, 5, none⟩ = some (.slice A1_5 l1_5.length c1_5) := (blk_cell BK297.out 5).trans rfl
      have hcz37_6 : w5.cell? ⟨gb297, 6, none⟩ = some (.slice A1_6 l1_6.length c1_6) := (blk_cell BK297.out 6).trans rfl
      have hfz37_0 := blk_frozen BK297.out 0
      have hfz37_1 := blk_frozen BK297.out 1
      have hfz37_2 := blk_frozen BK297.out 2
      have hfz37_3 := blk_frozen BK297.out 3
      have hfz37_4 := blk_frozen BK297.out 4
      have hfz37_5 := blk_frozen BK297.out 5
      have hfz37_6 := blk_frozen BK297.out 6
      go_wp2
      go_meet
      case rel => exact ⟨_, (true), (by first | rfl | (simp; done) | (simp [*]; done)), H', ⟨by first | omega | exact Nat.le_refl _⟩, ⟨by (with_reducible repeat (first | refine blk_drewN ?_ _ | refine blk_drew ?_ | refine blk_alloc ?_ _)); exact BK296.out⟩, ⟨by (with_reducible repeat (first | refine blk_drewN ?_ _ | refine blk_drew ?_ | refine blk_alloc ?_ _)); exact BK297.out⟩, ⟨by repeat (first | (with_reducible first | exact HB.out | apply below_alloc | apply pw_below_drewN | apply below_drew1 | refine below_set ?_ GE296.out | refine below_set ?_ GE297.out) | exact HB.out)⟩⟩
  case rest =>
    clear HC3
    try clear c1
    try clear c2
    try clear p2
    try clear c3
    try clear c6
    try clear c6b0
    try clear c6b1
    try clear c8
    try clear c10
    try clear c12
    try clear c14
    try clear c16
    try clear c17
    try clear c20
    try clear c23
    try clear c26
    try clear c29
    try clear c32
    try clear c35
    try clear c37
    try clear hcz18_0
    try clear hcz18_1
    try clear hcz18_2
    try clear hcz18_3
    try clear hcz18_4
    try clear hcz18_5
    try clear hcz18_6
    try clear hcz19_0
    try clear hcz19_1
    try clear hcz19_2
    try clear hcz19_3
    try clear hcz19_4
    try clear hcz19_5
    try clear hcz19_6
    try clear hcz21_0
    try clear hcz21_1
    try clear hcz21_2
    try clear hcz21_3
    try clear hcz21_4
    try clear hcz21_5
    try clear hcz21_6
    try clear hcz22_0
    try clear hcz22_1
    try clear hcz22_2
    try clear hcz22_3
    try clear hcz22_4
    try clear hcz22_5
    try clear hcz22_6
    try clear hcz24_0
    try clear hcz24_1
    try clear hcz24_2
    try clear hcz24_3
    try clear hcz24_4
    try clear hcz24_5
    try clear hcz24_6
    try clear hcz25_0
    try clear hcz25_1
    try clear hcz25_2
    try clear hcz25_3
    try clear hcz25_4
    try clear hcz25_5
    try clear hcz25_6
    try clear hcz27_0
    try clear hcz27_1
    try clear hcz27_2
    try clear hcz27_3
    try clear hcz27_4
    try clear hcz27_5
    try clear hcz27_6
    try clear hcz28_0
    try clear hcz28_1
    try clear hcz28_2
    try clear hcz28_3
    try clear hcz28_4
    try clear hcz28_5
    try clear hcz28_6
    try clear hcz30_0
    try clear hcz30_1
    try clear hcz30_2
    try clear hcz30_3
    try clear hcz30_4
    try clear hcz30_5
    try clear hcz30_6
    try clear hcz31_0
    try clear hcz31_1
    try clear hcz31_2
    try clear hcz31_3
    try clear hcz31_4
    try clear hcz31_5
    try clear hcz31_6
    try clear hcz33_0
    try clear hcz33_1
    try clear hcz33_2
    try clear hcz33_3
    try clear hcz33_4
    try clear hcz33_5
    try clear hcz33_6
    try clear hcz34_0
    try clear hcz34_1
    try clear hcz34_2
    try clear hcz34_3
    try clear hcz34_4
    try clear hcz34_5
    try clear hcz34_6
    try clear hcz36_0
    try clear hcz36_1
    try clear hcz36_2
    try clear hcz36_3
    try clear hcz36_4
    try clear hcz36_5
    try clear hcz36_6
    try clear hcz37_0
    try clear hcz37_1
    try clear hcz37_2
    try clear hcz37_3
    try clear hcz37_4
    try clear hcz37_5
    try clear hcz37_6
    try clear hfz18_0
    try clear hfz18_1
    try clear hfz18_2
    try clear hfz18_3
    try clear hfz18_4
    try clear hfz18_5
    try clear hfz18_6
    try clear hfz19_0
    try clear hfz19_1
    try clear hfz19_2
    try clear hfz19_3
    try clear hfz19_4
    try clear hfz19_5
    try clear hfz19_6
    try clear hfz21_0
    try clear hfz21_1
    try clear hfz21_2
    try clear hfz21_3
    try clear hfz21_4
    try clear hfz21_5
    try clear hfz21_6
    try clear hfz22_0
    try clear hfz22_1
    try clear hfz22_2
    try clear hfz22_3
    try clear hfz22_4
    try clear hfz22_5
    try clear hfz22_6
    try clear hfz24_0
    try clear hfz24_1
    try clear hfz24_2
    try clear hfz24_3
    try clear hfz24_4
    try clear hfz24_5
    try clear hfz24_6
    try clear hfz25_0
    try clear hfz25_1
    try clear hfz25_2
    try clear hfz25_3
    try clear hfz25_4
    try clear hfz25_5
    try clear hfz25_6
    try clear hfz27_0
    try clear hfz27_1
    try clear hfz27_2
    try clear hfz27_3
    try clear hfz27_4
    try clear hfz27_5
    try clear hfz27_6
    try clear hfz28_0
    try clear hfz28_1
    try clear hfz28_2
    try clear hfz28_3
    try clear hfz28_4
    try clear hfz28_5
    try clear hfz28_6
    try clear hfz30_0
    try clear hfz30_1
    try clear hfz30_2
    try clear hfz30_3
    try clear hfz30_4
    try clear hfz30_5
    try clear hfz30_6
    try clear hfz31_0
    try clear hfz31_1
    try clear hfz31_2
    try clear hfz31_3
    try clear hfz31_4
    try clear hfz31_5
    try clear hfz31_6
    try clear hfz33_0
    try clear hfz33_1
    try clear hfz33_2
    try clear hfz33_3
    try clear hfz33_4
    try clear hfz33_5
    try clear hfz33_6
    try clear hfz34_0
    try clear hfz34_1
    try clear hfz34_2
    try clear hfz34_3
    try clear hfz34_4
    try clear hfz34_5
    try clear hfz34_6
    try clear hfz36_0
    try clear hfz36_1
    try clear hfz36_2
    try clear hfz36_3
    try clear hfz36_4
    try clear hfz36_5
    try clear hfz36_6
    try clear hfz37_0
    try clear hfz37_1
    try clear hfz37_2
    try clear hfz37_3
    try clear hfz37_4
    try clear hfz37_5
    try clear hfz37_6
    obtain ⟨kq, x59_2, rfl, HA, HJ2, BK296, BK297, HB⟩ := hcut
    cases kq with
    | zero => exact absurd HA.out (by simp [bursarref19_Same.j0])
    | succ kj2 =>
      have H := HA.out
      clear HA
      simp only [bursarref19_Same.j0] at H
      by_cases c38 : x59_2 = true
      · subst c38
        have H1 : (some false) = some r := by rw [if_pos rfl] at H; exact H
        clear H
        have H := H1
        clear H1
        obtain rfl := Option.some.inj H
        go_wp2
        go_ret
        exact ⟨by first | rfl | (simp [errW_none, errW_some] <;> rfl) | (simp [*, errW_none, errW_some] <;> rfl), by repeat (first | (with_reducible first | exact HB.out | apply below_alloc | apply pw_below_drewN | apply below_drew1 | refine below_set ?_ GE296.out | refine below_set ?_ GE297.out) | exact HB.out)⟩
      · replace c38 := Bool.eq_false_iff.mpr c38
        subst c38
        have H1 : (bursarref19_Same.l0 kj2 0 a0_0 l0_1 l0_2 l0_3 l0_4 l0_5 l0_6 a1_0 l1_1 l1_2 l1_3 l1_4 l1_5 l1_6) = some r := by rw [if_neg (show ¬ (false = true) by decide)] at H; exact H
        clear H
        have H := H1
        clear H1
        have H' := Aside0.mk H
        clear H
        go_wp2
        go_loopg [5] kj2 (fun kq v5 w' => ∃ (x5_2 : Int), v5 = .int .i64 x5_2 ∧ Aside0 (bursarref19_Same.l0 kq x5_2 a0_0 l0_1 l0_2 l0_3 l0_4 l0_5 l0_6 a1_0 l1_1 l1_2 l1_3 l1_4 l1_5 l1_6 = some r) ∧ Aside0 (kq ≤ kj2) ∧ Aside0 (w'.heap[gb296]? = some (.cells #[.int .i64 a0_0, (.slice A0_1 l0_1.length c0_1), (.slice A0_2 l0_2.length c0_2), (.slice A0_3 l0_3.length c0_3), (.slice A0_4 l0_4.length c0_4), (.slice A0_5 l0_5.length c0_5), (.slice A0_6 l0_6.length c0_6)] 75 (0, 0))) ∧ Aside0 (w'.heap[gb297]? = some (.cells #[.int .i64 a1_0, (.slice A1_1 l1_1.length c1_1), (.slice A1_2 l1_2.length c1_2), (.slice A1_3 l1_3.length c1_3), (.slice A1_4 l1_4.length c1_4), (.slice A1_5 l1_5.length c1_5), (.slice A1_6 l1_6.length c1_6)] 75 (0, 0))) ∧ Aside0 (Below w.heap.size w w'))
        case atStart => exact ⟨(0), (by first | rfl | (simp; done) | (simp [*]; done)), H', ⟨Nat.le_refl _⟩, ⟨by (with_reducible repeat (first | refine blk_drewN ?_ _ | refine blk_drew ?_ | refine blk_alloc ?_ _)); exact BK296.out⟩, ⟨by (with_reducible repeat (first | refine blk_drewN ?_ _ | refine blk_drew ?_ | refine blk_alloc ?_ _)); exact BK297.out⟩, ⟨by repeat (first | (with_reducible first | exact HB.out | apply below_alloc | apply pw_below_drewN | apply below_drew1 | refine below_set ?_ GE296.out | refine below_set ?_ GE297.out) | exact HB.out)⟩⟩
        case round =>
          clear H'
          try clear c1
          try clear c2
          try clear p2
          try clear c3
          try clear c6
          try clear c6b0
          try clear c6b1
          try clear c8
          try clear c10
          try clear c12
          try clear c14
          try clear c16
          try clear c17
          try clear c20
          try clear c23
          try clear c26
          try clear c29
          try clear c32
          try clear c35
          try clear c37
          try clear c38
          try clear hcz18_0
          try clear hcz18_1
          try clear hcz18_2
          try clear hcz18_3
          try clear hcz18_4
          try clear hcz18_5
          try clear hcz18_6
          try clear hcz19_0
          try clear hcz19_1
          try clear hcz19_2
          try clear hcz19_3
          try clear hcz19_4
          try clear hcz19_5
          try clear hcz19_6
          try clear hcz21_0
          try clear hcz21_1
          try clear hcz21_2
          try clear hcz21_3
          try clear hcz21_4
          try clear hcz21_5
          try clear hcz21_6
          try clear hcz22_0
          try clear hcz22_1
          try clear hcz22_2
          try clear hcz22_3
          try clear hcz22_4
          try clear hcz22_5
          try clear hcz22_6
          try clear hcz24_0
          try clear hcz24_1
          try clear hcz24_2
          try clear hcz24_3
          try clear hcz24_4
          try clear hcz24_5
          try clear hcz24_6
          try clear hcz25_0
          try clear hcz25_1
          try clear hcz25_2
          try clear hcz25_3
          try clear hcz25_4
          try clear hcz25_5
          try clear hcz25_6
          try clear hcz27_0
          try clear hcz27_1
          try clear hcz27_2
          try clear hcz27_3
          try clear hcz27_4
          try clear hcz27_5
          try clear hcz27_6
          try clear hcz28_0
          try clear hcz28_1
          try clear hcz28_2
          try clear hcz28_3
          try clear hcz28_4
          try clear hcz28_5
          try clear hcz28_6
          try clear hcz30_0
          try clear hcz30_1
          try clear hcz30_2
          try clear hcz30_3
          try clear hcz30_4
          try clear hcz30_5
          try clear hcz30_6
          try clear hcz31_0
          try clear hcz31_1
          try clear hcz31_2
          try clear hcz31_3
          try clear hcz31_4
          try clear hcz31_5
          try clear hcz31_6
          try clear hcz33_0
          try clear hcz33_1
          try clear hcz33_2
          try clear hcz33_3
          try clear hcz33_4
          try clear hcz33_5
          try clear hcz33_6
          try clear hcz34_0
          try clear hcz34_1
          try clear hcz34_2
          try clear hcz34_3
          try clear hcz34_4
          try clear hcz34_5
          try clear hcz34_6
          try clear hcz36_0
          try clear hcz36_1
          try clear hcz36_2
          try clear hcz36_3
          try clear hcz36_4
          try clear hcz36_5
          try clear hcz36_6
          try clear hcz37_0
          try clear hcz37_1
          try clear hcz37_2
          try clear hcz37_3
          try clear hcz37_4
          try clear hcz37_5
          try clear hcz37_6
          try clear hfz18_0
          try clear hfz18_1
          try clear hfz18_2
          try clear hfz18_3
          try clear hfz18_4
          try clear hfz18_5
          try clear hfz18_6
          try clear hfz19_0
          try clear hfz19_1
          try clear hfz19_2
          try clear hfz19_3
          try clear hfz19_4
          try clear hfz19_5
          try clear hfz19_6
          try clear hfz21_0
          try clear hfz21_1
          try clear hfz21_2
          try clear hfz21_3
          try clear hfz21_4
          try clear hfz21_5
          try clear hfz21_6
          try clear hfz22_0
          try clear hfz22_1
          try clear hfz22_2
          try clear hfz22_3
          try clear hfz22_4
          try clear hfz22_5
          try clear hfz22_6
          try clear hfz24_0
          try clear hfz24_1
          try clear hfz24_2
          try clear hfz24_3
          try clear hfz24_4
          try clear hfz24_5
          try clear hfz24_6
          try clear hfz25_0
          try clear hfz25_1
          try clear hfz25_2
          try clear hfz25_3
          try clear hfz25_4
          try clear hfz25_5
          try clear hfz25_6
          try clear hfz27_0
          try clear hfz27_1
          try clear hfz27_2
          try clear hfz27_3
          try clear hfz27_4
          try clear hfz27_5
          try clear hfz27_6
          try clear hfz28_0
          try clear hfz28_1
          try clear hfz28_2
          try clear hfz28_3
          try clear hfz28_4
          try clear hfz28_5
          try clear hfz28_6
          try clear hfz30_0
          try clear hfz30_1
          try clear hfz30_2
          try clear hfz30_3
          try clear hfz30_4
          try clear hfz30_5
          try clear hfz30_6
          try clear hfz31_0
          try clear hfz31_1
          try clear hfz31_2
          try clear hfz31_3
          try clear hfz31_4
          try clear hfz31_5
          try clear hfz31_6
          try clear hfz33_0
          try clear hfz33_1
          try clear hfz33_2
          try clear hfz33_3
          try clear hfz33_4
          try clear hfz33_5
          try clear hfz33_6
          try clear hfz34_0
          try clear hfz34_1
          try clear hfz34_2
          try clear hfz34_3
          try clear hfz34_4
          try clear hfz34_5
          try clear hfz34_6
          try clear hfz36_0
          try clear hfz36_1
          try clear hfz36_2
          try clear hfz36_3
          try clear hfz36_4
          try clear hfz36_5
          try clear hfz36_6
          try clear hfz37_0
          try clear hfz37_1
          try clear hfz37_2
          try clear hfz37_3
          try clear hfz37_4
          try clear hfz37_5
          try clear hfz37_6
          try clear p2
          obtain ⟨x5_2, rfl, HA, HK2, BK296, BK297, HB⟩ := hrel
          cases gk with
          | zero => exact absurd HA.out (by simp [bursarref19_Same.l0])
          | succ k2 =>
            have H := HA.out
            clear HA
            simp only [bursarref19_Same.l0] at H
            by_cases c39 : x5_2 < (l0_6.length : Int)
            · rw [if_pos c39] at H
              have c39b0 : decide (x5_2 < (l0_6.length : Int)) = true := decide_eq_true c39
              clear c39
              by_cases c40 : 0 ≤ x5_2
              · rw [if_pos c40] at H
                have c40b0 : decide (0 ≤ x5_2) = true := decide_eq_true c40
                clear c40
                by_cases c41 : x5_2 < (l1_6.length : Int)
                · rw [if_pos c41] at H
                  have c41b0 : decide (x5_2 < (l1_6.length : Int)) = true := decide_eq_true c41
                  clear c41
                  replace H := Option.bind_eq_some_iff.mp H
                  obtain ⟨t305, A420, H⟩ := H
                  replace H : (if t305 = true then (bursarref19_Same.l0 k2 (wrap64 (x5_2 + 1)) a0_0 l0_1 l0_2 l0_3 l0_4 l0_5 l0_6 a1_0 l1_1 l1_2 l1_3 l1_4 l1_5 l1_6) else (some false)) = some r := H
                  have A42 := Aside0.mk A420
                  clear A420
                  by_cases c43 : t305 = true
                  · subst c43
                    have H1 : (bursarref19_Same.l0 k2 (wrap64 (x5_2 + 1)) a0_0 l0_1 l0_2 l0_3 l0_4 l0_5 l0_6 a1_0 l1_1 l1_2 l1_3 l1_4 l1_5 l1_6) = some r := by rw [if_pos rfl] at H; exact H
                    clear H
                    have H := H1
                    clear H1
                    have H' := Aside0.mk H
                    clear H
                    have hnb44 := NB296_297.out
                    have hnc44 := NB297_296.out
                    have hcz45_0 : wr.cell? ⟨gb296, 0, none⟩ = some (.int .i64 a0_0) := (blk_cell BK296.out 0).trans rfl
                    have hcz45_1 : wr.cell? ⟨gb296, 1, none⟩ = some (.slice A0_1 l0_1.length c0_1) := (blk_cell BK296.out 1).trans rfl
                    have hcz45_2 : wr.cell? ⟨gb296, 2, none⟩ = some (.slice A0_2 l0_2.length c0_2) := (blk_cell BK296.out 2).trans rfl
                    have hcz45_3 : wr.cell? ⟨gb296, 3, none⟩ = some (.slice A0_3 l0_3.length c0_3) := (blk_cell BK296.out 3).trans rfl
                    have hcz45_4 : wr.cell? ⟨gb296, 4, none⟩ = some (.slice A0_4 l0_4.length c0_4) := (blk_cell BK296.out 4).trans rfl
                    have hcz45_5 : wr.cell? ⟨gb296, 5, none⟩ = some (.slice A0_5 l0_5.length c0_5) := (blk_cell BK296.out 5).trans rfl
                    have hcz45_6 : wr.cell? ⟨gb296, 6, none⟩ = some (.slice A0_6 l0_6.length c0_6) := (blk_cell BK296.out 6).trans rfl
                    have hfz45_0 := blk_frozen BK296.out 0
                    have hfz45_1 := blk_frozen BK296.out 1
                    have hfz45_2 := blk_frozen BK296.out 2
                    have hfz45_3 := blk_frozen BK296.out 3
                    have hfz45_4 := blk_frozen BK296.out 4
                    have hfz45_5 := blk_frozen BK296.out 5
                    have hfz45_6 := blk_frozen BK296.out 6
                    try go_wp2
                    have n0_ := Aside0.mk (blk_drew BK296.out)
                    have n1_ := Aside0.mk (blk_drew BK297.out)
                    have n2_ := Aside0.mk (below_drew1 HB.out)
                    clear BK296
                    clear BK297
                    clear HB
                    have BK296 := n0_
                    have BK297 := n1_
                    have HB := n2_
                    clear n0_ n1_ n2_
                    have p303 : 0 ≤ (x5_2 : Int) := of_decide_eq_true (by first | (with_reducible assumption) | assumption)
                    have q303 : x5_2 < (l0_6.length : Int) := of_decide_eq_true (by first | (with_reducible assumption) | assumption)
                    obtain ⟨ad303, A303_2, c303_2, A303_3, c303_3, A303_7, c303_7, e303, hx303_0, hx303_1, hx303_2, hx303_3, hx303_4, hx303_5, hx303_6, hx303_7, hl303_2, hi303_2, hl303_3, hi303_3, hl303_7, hi303_7⟩ := at_T118 HR0_6.out x5_2 p303 q303
                    have hw303_7 := hx303_7
                    have hw303_6 := hx303_6
                    have hw303_5 := hx303_5
                    have hw303_4 := hx303_4
                    have hw303_3 := hx303_3
                    have hw303_2 := hx303_2
                    have hw303_1 := hx303_1
                    have hw303_0 := hx303_0
                    cases e303
                    replace hx303_0 := (HB.out.cell (World.block_lt_of_cell? w _ hx303_0)).trans hx303_0
                    replace hx303_1 := (HB.out.cell (World.block_lt_of_cell? w _ hx303_1)).trans hx303_1
                    replace hx303_2 := (HB.out.cell (World.block_lt_of_cell? w _ hx303_2)).trans hx303_2
                    replace hx303_3 := (HB.out.cell (World.block_lt_of_cell? w _ hx303_3)).trans hx303_3
                    replace hx303_4 := (HB.out.cell (World.block_lt_of_cell? w _ hx303_4)).trans hx303_4
                    replace hx303_5 := (HB.out.cell (World.block_lt_of_cell? w _ hx303_5)).trans hx303_5
                    replace hx303_6 := (HB.out.cell (World.block_lt_of_cell? w _ hx303_6)).trans hx303_6
                    replace hx303_7 := (HB.out.cell (World.block_lt_of_cell? w _ hx303_7)).trans hx303_7
                    have HR303_2 := Aside0.mk hi303_2
                    have HC303_2 := Aside0.mk hl303_2
                    clear hi303_2 hl303_2
                    have HR303_3 := Aside0.mk hi303_3
                    have HC303_3 := Aside0.mk hl303_3
                    clear hi303_3 hl303_3
                    have HR303_7 := Aside0.mk hi303_7
                    have HC303_7 := Aside0.mk hl303_7
                    clear hi303_7 hl303_7
                    replace p303 := eq_true p303
                    replace q303 := eq_true q303
                    have p304 : 0 ≤ (x5_2 : Int) := of_decide_eq_true (by first | (with_reducible assumption) | assumption)
                    have q304 : x5_2 < (l1_6.length : Int) := of_decide_eq_true (by first | (with_reducible assumption) | assumption)
                    obtain ⟨ad304, A304_2, c304_2, A304_3, c304_3, A304_7, c304_7, e304, hx304_0, hx304_1, hx304_2, hx304_3, hx304_4, hx304_5, hx304_6, hx304_7, hl304_2, hi304_2, hl304_3, hi304_3, hl304_7, hi304_7⟩ := at_T118 HR1_6.out x5_2 p304 q304
                    have hw304_7 := hx304_7
                    have hw304_6 := hx304_6
                    have hw304_5 := hx304_5
                    have hw304_4 := hx304_4
                    have hw304_3 := hx304_3
                    have hw304_2 := hx304_2
                    have hw304_1 := hx304_1
                    have hw304_0 := hx304_0
                    cases e304
                    replace hx304_0 := (HB.out.cell (World.block_lt_of_cell? w _ hx304_0)).trans hx304_0
                    replace hx304_1 := (HB.out.cell (World.block_lt_of_cell? w _ hx304_1)).trans hx304_1
                    replace hx304_2 := (HB.out.cell (World.block_lt_of_cell? w _ hx304_2)).trans hx304_2
                    replace hx304_3 := (HB.out.cell (World.block_lt_of_cell? w _ hx304_3)).trans hx304_3
                    replace hx304_4 := (HB.out.cell (World.block_lt_of_cell? w _ hx304_4)).trans hx304_4
                    replace hx304_5 := (HB.out.cell (World.block_lt_of_cell? w _ hx304_5)).trans hx304_5
                    replace hx304_6 := (HB.out.cell (World.block_lt_of_cell? w _ hx304_6)).trans hx304_6
                    replace hx304_7 := (HB.out.cell (World.block_lt_of_cell? w _ hx304_7)).trans hx304_7
                    have HR304_2 := Aside0.mk hi304_2
                    have HC304_2 := Aside0.mk hl304_2
                    clear hi304_2 hl304_2
                    have HR304_3 := Aside0.mk hi304_3
                    have HC304_3 := Aside0.mk hl304_3
                    clear hi304_3 hl304_3
                    have HR304_7 := Aside0.mk hi304_7
                    have HC304_7 := Aside0.mk hl304_7
                    clear hi304_7 hl304_7
                    replace p304 := eq_true p304
                    replace q304 := eq_true q304
                    refine start_ (n := 12) (S := fun w' => w'.cell? ⟨gb296, 0, none⟩ = some (.int .i64 a0_0) ∧ w'.cell? ⟨gb296, 1, none⟩ = some (.slice A0_1 l0_1.length c0_1) ∧ w'.cell? ⟨gb296, 2, none⟩ = some (.slice A0_2 l0_2.length c0_2) ∧ w'.cell? ⟨gb296, 3, none⟩ = some (.slice A0_3 l0_3.length c0_3) ∧ w'.cell? ⟨gb296, 4, none⟩ = some (.slice A0_4 l0_4.length c0_4) ∧ w'.cell? ⟨gb296, 5, none⟩ = some (.slice A0_5 l0_5.length c0_5) ∧ w'.cell? ⟨gb296, 6, none⟩ = some (.slice (some ad303) l0_6.length c0_6) ∧ w'.cell? ⟨gb297, 0, none⟩ = some (.int .i64 a1_0) ∧ w'.cell? ⟨gb297, 1, none⟩ = some (.slice A1_1 l1_1.length c1_1) ∧ w'.cell? ⟨gb297, 2, none⟩ = some (.slice A1_2 l1_2.length c1_2) ∧ w'.cell? ⟨gb297, 3, none⟩ = some (.slice A1_3 l1_3.length c1_3) ∧ w'.cell? ⟨gb297, 4, none⟩ = some (.slice A1_4 l1_4.length c1_4) ∧ w'.cell? ⟨gb297, 5, none⟩ = some (.slice A1_5 l1_5.length c1_5) ∧ w'.cell? ⟨gb297, 6, none⟩ = some (.slice (some ad304) l1_6.length c1_6) ∧ w'.cell? (ad303.add ((x5_2).toNat * 8)) = some (.int .i64 ((rd_T118 l0_6 x5_2).f0.f0)) ∧ w'.cell? ⟨(ad303.add ((x5_2).toNat * 8)).block, (ad303.add ((x5_2).toNat * 8)).off + 1, none⟩ = some (.int .i64 ((rd_T118 l0_6 x5_2).f0.f1)) ∧ w'.cell? ⟨(ad303.add ((x5_2).toNat * 8)).block, (ad303.add ((x5_2).toNat * 8)).off + 2, none⟩ = some (.slice A303_2 ((rd_T118 l0_6 x5_2).f1).length c303_2) ∧ w'.cell? ⟨(ad303.add ((x5_2).toNat * 8)).block, (ad303.add ((x5_2).toNat * 8)).off + 3, none⟩ = some (.slice A303_3 ((rd_T118 l0_6 x5_2).f2).length c303_3) ∧ w'.cell? ⟨(ad303.add ((x5_2).toNat * 8)).block, (ad303.add ((x5_2).toNat * 8)).off + 4, none⟩ = some (.int .i64 ((rd_T118 l0_6 x5_2).f3)) ∧ w'.cell? ⟨(ad303.add ((x5_2).toNat * 8)).block, (ad303.add ((x5_2).toNat * 8)).off + 5, none⟩ = some (.int .i64 ((rd_T118 l0_6 x5_2).f4)) ∧ w'.cell? ⟨(ad303.add ((x5_2).toNat * 8)).block, (ad303.add ((x5_2).toNat * 8)).off + 6, none⟩ = some (.int .i64 ((rd_T118 l0_6 x5_2).f5)) ∧ w'.cell? ⟨(ad303.add ((x5_2).toNat * 8)).block, (ad303.add ((x5_2).toNat * 8)).off + 7, none⟩ = some (.slice A303_7 ((rd_T118 l0_6 x5_2).f6).length c303_7) ∧ w'.cell? (ad304.add ((x5_2).toNat * 8)) = some (.int .i64 ((rd_T118 l1_6 x5_2).f0.f0)) ∧ w'.cell? ⟨(ad304.add ((x5_2).toNat * 8)).block, (ad304.add ((x5_2).toNat * 8)).off + 1, none⟩ = some (.int .i64 ((rd_T118 l1_6 x5_2).f0.f1)) ∧ w'.cell? ⟨(ad304.add ((x5_2).toNat * 8)).block, (ad304.add ((x5_2).toNat * 8)).off + 2, none⟩ = some (.slice A304_2 ((rd_T118 l1_6 x5_2).f1).length c304_2) ∧ w'.cell? ⟨(ad304.add ((x5_2).toNat * 8)).block, (ad304.add ((x5_2).toNat * 8)).off + 3, none⟩ = some (.slice A304_3 ((rd_T118 l1_6 x5_2).f2).length c304_3) ∧ w'.cell? ⟨(ad304.add ((x5_2).toNat * 8)).block, (ad304.add ((x5_2).toNat * 8)).off + 4, none⟩ = some (.int .i64 ((rd_T118 l1_6 x5_2).f3)) ∧ w'.cell? ⟨(ad304.add ((x5_2).toNat * 8)).block, (ad304.add ((x5_2).toNat * 8)).off + 5, none⟩ = some (.int .i64 ((rd_T118 l1_6 x5_2).f4)) ∧ w'.cell? ⟨(ad304.add ((x5_2).toNat * 8)).block, (ad304.add ((x5_2).toNat * 8)).off + 6, none⟩ = some (.int .i64 ((rd_T118 l1_6 x5_2).f5)) ∧ w'.cell? ⟨(ad304.add ((x5_2).toNat * 8)).block, (ad304.add ((x5_2).toNat * 8)).off + 7, none⟩ = some (.slice A304_7 ((rd_T118 l1_6 x5_2).f6).length c304_7)) (ds := []) #[false, false, false, false, false, false, false, false, false, false, false, false] (by kernel_rfl) rfl rfl ⟨(blk_cell BK296.out 0).trans rfl, (blk_cell BK296.out 1).trans rfl, (blk_cell BK296.out 2).trans rfl, (blk_cell BK296.out 3).trans rfl, (blk_cell BK296.out 4).trans rfl, (blk_cell BK296.out 5).trans rfl, (blk_cell BK296.out 6).trans rfl, (blk_cell BK297.out 0).trans rfl, (blk_cell BK297.out 1).trans rfl, (blk_cell BK297.out 2).trans rfl, (blk_cell BK297.out 3).trans rfl, (blk_cell BK297.out 4).trans rfl, (blk_cell BK297.out 5).trans rfl, (blk_cell BK297.out 6).trans rfl, ((HB.out.cell (World.block_lt_of_cell? w _ hw303_0)).trans hw303_0), ((HB.out.cell (World.block_lt_of_cell? w _ hw303_1)).trans hw303_1), ((HB.out.cell (World.block_lt_of_cell? w _ hw303_2)).trans hw303_2), ((HB.out.cell (World.block_lt_of_cell? w _ hw303_3)).trans hw303_3), ((HB.out.cell (World.block_lt_of_cell? w _ hw303_4)).trans hw303_4), ((HB.out.cell (World.block_lt_of_cell? w _ hw303_5)).trans hw303_5), ((HB.out.cell (World.block_lt_of_cell? w _ hw303_6)).trans hw303_6), ((HB.out.cell (World.block_lt_of_cell? w _ hw303_7)).trans hw303_7), ((HB.out.cell (World.block_lt_of_cell? w _ hw304_0)).trans hw304_0), ((HB.out.cell (World.block_lt_of_cell? w _ hw304_1)).trans hw304_1), ((HB.out.cell (World.block_lt_of_cell? w _ hw304_2)).trans hw304_2), ((HB.out.cell (World.block_lt_of_cell? w _ hw304_3)).trans hw304_3), ((HB.out.cell (World.block_lt_of_cell? w _ hw304_4)).trans hw304_4), ((HB.out.cell (World.block_lt_of_cell? w _ hw304_5)).trans hw304_5), ((HB.out.cell (World.block_lt_of_cell? w _ hw304_6)).trans hw304_6), ((HB.out.cell (World.block_lt_of_cell? w _ hw304_7)).trans hw304_7)⟩ (fun hHeld => ?_); refine with_tabW bursarref19_Same.tab6 bursarref19_Same.bits6 (fun HT_ HW_ => ?_)
                    generalize wr.drew = w46 at BK296 BK297 HB HR303_2 HR303_3 HR303_7 HR304_2 HR304_3 HR304_7 hx303_0 hx303_1 hx303_2 hx303_3 hx303_4 hx303_5 hx303_6 hx303_7 hx304_0 hx304_1 hx304_2 hx304_3 hx304_4 hx304_5 hx304_6 hx304_7 hHeld ⊢
                    refine pure_ (i := 0) (N := some 67) (v := ?_) (a' := ?_) #[true, false, false, false, false, false, false, false, false, false, false, false] rfl rfl (any_of HT_.out (by kernel_rfl)) (fun _ _ _ h => h) (Or.inl ⟨by rfl, ?_⟩) ?_ ?_
                    rotate_left
                    · intro w'
                      go_simp
                      with_reducible rfl
                    rotate_left
                    · simp only [Act.put, List.setIfInBounds_toArray, List.set_cons_zero, List.set_cons_succ, i64_w, i32_w]
                      rfl
                    refine pure_ (i := 2) (N := some 69) (v := ?_) (a' := ?_) #[true, false, true, false, false, false, false, false, false, false, false, false] rfl rfl (any_of HT_.out (by kernel_rfl)) (fun _ _ _ h => h) (Or.inl ⟨by rfl, ?_⟩) ?_ ?_
                    rotate_left
                    · intro w'
                      go_simp
                      with_reducible rfl
                    rotate_left
                    · simp only [Act.put, List.setIfInBounds_toArray, List.set_cons_zero, List.set_cons_succ, i64_w, i32_w]
                      rfl
                    refine pure_ (i := 5) (N := some 72) (v := ?_) (a' := ?_) #[true, false, true, false, false, true, false, false, false, false, false, false] rfl rfl (any_of HT_.out (by kernel_rfl)) (fun _ _ _ h => h) (Or.inl ⟨by rfl, ?_⟩) ?_ ?_
                    rotate_left
                    · intro w'
                      go_simp
                      with_reducible rfl
                    rotate_left
                    · simp only [Act.put, List.setIfInBounds_toArray, List.set_cons_zero, List.set_cons_succ, i64_w, i32_w]
                      rfl
                    refine pure_ (i := 7) (N := some 74) (v := ?_) (a' := ?_) #[true, false, true, false, false, true, false, true, false, false, false, false] rfl rfl (any_of HT_.out (by kernel_rfl)) (fun _ _ _ h => h) (Or.inl ⟨by rfl, ?_⟩) ?_ ?_
                    rotate_left
                    · intro w'
                      go_simp
                      with_reducible rfl
                    rotate_left
                    · simp only [Act.put, List.setIfInBounds_toArray, List.set_cons_zero, List.set_cons_succ, i64_w, i32_w]
                      rfl
                    refine take_ (i := 1) (N := some 68) (v := ?_) (a' := ?_) #[true, true, true, false, false, true, false, true, false, false, false, false] rfl rfl (take_ofW HT_.out HW_.out (by kernel_rfl)) (fun _ _ _ h => h) (Or.inl ⟨by rfl, ?_⟩) hHeld ?_ ?_
                    rotate_left
                    · rintro w' ⟨s0, s1, s2, s3, s4, s5, s6, s7, s8, s9, s10, s11, s12, s13, s14, s15, s16, s17, s18, s19, s20, s21, s22, s23, s24, s25, s26, s27, s28, s29⟩
                      go_simp
                      with_reducible rfl
                    rotate_left
                    · simp only [Act.put, List.setIfInBounds_toArray, List.set_cons_zero, List.set_cons_succ, i64_w, i32_w]
                      rfl
                    refine pure_ (i := 3) (N := some 70) (v := ?_) (a' := ?_) #[true, true, true, true, false, true, false, true, false, false, false, false] rfl rfl (any_of HT_.out (by kernel_rfl)) (fun _ _ _ h => h) (Or.inl ⟨by rfl, ?_⟩) ?_ ?_
                    rotate_left
                    · intro w'
                      go_simp
                      with_reducible rfl
                    rotate_left
                    · simp only [Act.put, List.setIfInBounds_toArray, List.set_cons_zero, List.set_cons_succ, i64_w, i32_w]
                      rfl
                    refine take_ (i := 4) (N := some 71) (v := ?_) (a' := ?_) #[true, true, true, true, true, true, false, true, false, false, false, false] rfl rfl (take_ofW HT_.out HW_.out (by kernel_rfl)) (fun _ _ _ h => h) (Or.inl ⟨by rfl, ?_⟩) hHeld ?_ ?_
                    rotate_left
                    · rintro w' ⟨s0, s1, s2, s3, s4, s5, s6, s7, s8, s9, s10, s11, s12, s13, s14, s15, s16, s17, s18, s19, s20, s21, s22, s23, s24, s25, s26, s27, s28, s29⟩
                      go_simp
                      with_reducible rfl
                    rotate_left
                    · simp only [Act.put, List.setIfInBounds_toArray, List.set_cons_zero, List.set_cons_succ, i64_w, i32_w]
                      rfl
                    refine take_ (i := 6) (N := some 73) (v := ?_) (a' := ?_) #[true, true, true, true, true, true, true, true, false, false, false, false] rfl rfl (take_ofW HT_.out HW_.out (by kernel_rfl)) (fun _ _ _ h => h) (Or.inl ⟨by rfl, ?_⟩) hHeld ?_ ?_
                    rotate_left
                    · rintro w' ⟨s0, s1, s2, s3, s4, s5, s6, s7, s8, s9, s10, s11, s12, s13, s14, s15, s16, s17, s18, s19, s20, s21, s22, s23, s24, s25, s26, s27, s28, s29⟩
                      go_simp
                      with_reducible rfl
                    rotate_left
                    · simp only [Act.put, List.setIfInBounds_toArray, List.set_cons_zero, List.set_cons_succ, i64_w, i32_w]
                      rfl
                    refine pure_ (i := 8) (N := some 75) (v := ?_) (a' := ?_) #[true, true, true, true, true, true, true, true, true, false, false, false] rfl rfl (any_of HT_.out (by kernel_rfl)) (fun _ _ _ h => h) (Or.inl ⟨by rfl, ?_⟩) ?_ ?_
                    rotate_left
                    · intro w'
                      go_simp
                      with_reducible rfl
                    rotate_left
                    · simp only [Act.put, List.setIfInBounds_toArray, List.set_cons_zero, List.set_cons_succ, i64_w, i32_w]
                      rfl
                    refine take_ (i := 9) (N := some 76) (v := ?_) (a' := ?_) #[true, true, true, true, true, true, true, true, true, true, false, false] rfl rfl (take_ofW HT_.out HW_.out (by kernel_rfl)) (fun _ _ _ h => h) (Or.inl ⟨by rfl, ?_⟩) hHeld ?_ ?_
                    rotate_left
                    · rintro w' ⟨s0, s1, s2, s3, s4, s5, s6, s7, s8, s9, s10, s11, s12, s13, s14, s15, s16, s17, s18, s19, s20, s21, s22, s23, s24, s25, s26, s27, s28, s29⟩
                      go_simp
                      with_reducible rfl
                    rotate_left
                    · simp only [Act.put, List.setIfInBounds_toArray, List.set_cons_zero, List.set_cons_succ, i64_w, i32_w]
                      rfl
                    refine one_ (i := 10) (N := some 77) #[true, true, true, true, true, true, true, true, true, true, true, false] rfl rfl (one_of HT_.out (by kernel_rfl)) (by decide) (fun K hK => ?_)
                    refine goes_ Tryd.func91 (by kernel_rfl) rfl #[.agg #[.int .i64 ((rd_T118 l0_6 x5_2).f0.f0), .int .i64 ((rd_T118 l0_6 x5_2).f0.f1), .slice A303_2 ((rd_T118 l0_6 x5_2).f1).length c303_2, .slice A303_3 ((rd_T118 l0_6 x5_2).f2).length c303_3, .int .i64 ((rd_T118 l0_6 x5_2).f3), .int .i64 ((rd_T118 l0_6 x5_2).f4), .int .i64 ((rd_T118 l0_6 x5_2).f5), .slice A303_7 ((rd_T118 l0_6 x5_2).f6).length c303_7], .agg #[.int .i64 ((rd_T118 l1_6 x5_2).f0.f0), .int .i64 ((rd_T118 l1_6 x5_2).f0.f1), .slice A304_2 ((rd_T118 l1_6 x5_2).f1).length c304_2, .slice A304_3 ((rd_T118 l1_6 x5_2).f2).length c304_3, .int .i64 ((rd_T118 l1_6 x5_2).f3), .int .i64 ((rd_T118 l1_6 x5_2).f4), .int .i64 ((rd_T118 l1_6 x5_2).f5), .slice A304_7 ((rd_T118 l1_6 x5_2).f6).length c304_7]] (by rfl) rfl rfl (by (try simp only [List.map_toArray, List.map_cons, List.map_nil]); first | done | rfl | (simp only [List.length_drop, List.length_take]; rfl)) ?_
                    with_reducible refine (bursarref19_SameRec.calls k2 ((rd_T118 l0_6 x5_2).f0.f0) ((rd_T118 l0_6 x5_2).f0.f1) _ _ ((rd_T118 l0_6 x5_2).f1) _ _ ((rd_T118 l0_6 x5_2).f2) ((rd_T118 l0_6 x5_2).f3) ((rd_T118 l0_6 x5_2).f4) ((rd_T118 l0_6 x5_2).f5) _ _ ((rd_T118 l0_6 x5_2).f6) ((rd_T118 l1_6 x5_2).f0.f0) ((rd_T118 l1_6 x5_2).f0.f1) _ _ ((rd_T118 l1_6 x5_2).f1) _ _ ((rd_T118 l1_6 x5_2).f2) ((rd_T118 l1_6 x5_2).f3) ((rd_T118 l1_6 x5_2).f4) ((rd_T118 l1_6 x5_2).f5) _ _ ((rd_T118 l1_6 x5_2).f6) true _ ?side1 ?side2 ?side3 ?side4 ?side5 ?side6 ?side7 ?side8 ?side9 ?side10 ?side11 ?side12 A42.out).mono ?_
                    (case side1 => repeat (first | exact (Kd.C_below HR303_2.out HB.out) | (with_reducible refine Kd.C_alloc ?_ _) | (with_reducible refine Kd.C_drewN ?_ _) | (with_reducible refine Kd.C_drew ?_)))
                    (case side2 => exact HC303_2.out)
                    (case side3 => repeat (first | exact (Kd.C_below HR303_3.out HB.out) | (with_reducible refine Kd.C_alloc ?_ _) | (with_reducible refine Kd.C_drewN ?_ _) | (with_reducible refine Kd.C_drew ?_)))
                    (case side4 => exact HC303_3.out)
                    (case side5 => repeat (first | exact (Kd.C_below HR303_7.out HB.out) | (with_reducible refine Kd.C_alloc ?_ _) | (with_reducible refine Kd.C_drewN ?_ _) | (with_reducible refine Kd.C_drew ?_)))
                    (case side6 => exact HC303_7.out)
                    (case side7 => repeat (first | exact (Kd.C_below HR304_2.out HB.out) | (with_reducible refine Kd.C_alloc ?_ _) | (with_reducible refine Kd.C_drewN ?_ _) | (with_reducible refine Kd.C_drew ?_)))
                    (case side8 => exact HC304_2.out)
                    (case side9 => repeat (first | exact (Kd.C_below HR304_3.out HB.out) | (with_reducible refine Kd.C_alloc ?_ _) | (with_reducible refine Kd.C_drewN ?_ _) | (with_reducible refine Kd.C_drew ?_)))
                    (case side10 => exact HC304_3.out)
                    (case side11 => repeat (first | exact (Kd.C_below HR304_7.out HB.out) | (with_reducible refine Kd.C_alloc ?_ _) | (with_reducible refine Kd.C_drewN ?_ _) | (with_reducible refine Kd.C_drew ?_)))
                    (case side12 => exact HC304_7.out)
                    rintro e w47 ⟨rfl, hb⟩
                    refine ⟨_, rfl, ?_⟩
                    have n0_ := Aside0.mk (blk_below (g := gb296) (o := .cells #[.int .i64 a0_0, .slice A0_1 l0_1.length c0_1, .slice A0_2 l0_2.length c0_2, .slice A0_3 l0_3.length c0_3, .slice A0_4 l0_4.length c0_4, .slice A0_5 l0_5.length c0_5, .slice (some ad303) l0_6.length c0_6] 75 (0, 0)) (by (with_reducible repeat (first | refine blk_drewN ?_ _ | refine blk_drew ?_ | refine blk_alloc ?_ _)); exact BK296.out) hb)
                    have n1_ := Aside0.mk (blk_below (g := gb297) (o := .cells #[.int .i64 a1_0, .slice A1_1 l1_1.length c1_1, .slice A1_2 l1_2.length c1_2, .slice A1_3 l1_3.length c1_3, .slice A1_4 l1_4.length c1_4, .slice A1_5 l1_5.length c1_5, .slice (some ad304) l1_6.length c1_6] 75 (0, 0)) (by (with_reducible repeat (first | refine blk_drewN ?_ _ | refine blk_drew ?_ | refine blk_alloc ?_ _)); exact BK297.out) hb)
                    have n2_ := Aside0.mk (below_step (by repeat (first | (with_reducible first | exact HB.out | apply below_alloc | apply pw_below_drewN | apply below_drew1 | refine below_set ?_ GE296.out | refine below_set ?_ GE297.out) | exact HB.out)) hb)
                    clear BK296
                    clear BK297
                    clear HB
                    have BK296 := n0_
                    have BK297 := n1_
                    have HB := n2_
                    clear n0_ n1_ n2_
                    (try clear hb)
                    (try clear hb2)
                    (try clear hk)
                    (try clear hi)
                    refine hK.out _ _ ⟨(blk_cell BK296.out 0).trans rfl, (blk_cell BK296.out 1).trans rfl, (blk_cell BK296.out 2).trans rfl, (blk_cell BK296.out 3).trans rfl, (blk_cell BK296.out 4).trans rfl, (blk_cell BK296.out 5).trans rfl, (blk_cell BK296.out 6).trans rfl, (blk_cell BK297.out 0).trans rfl, (blk_cell BK297.out 1).trans rfl, (blk_cell BK297.out 2).trans rfl, (blk_cell BK297.out 3).trans rfl, (blk_cell BK297.out 4).trans rfl, (blk_cell BK297.out 5).trans rfl, (blk_cell BK297.out 6).trans rfl, ((HB.out.cell (World.block_lt_of_cell? w _ hw303_0)).trans hw303_0), ((HB.out.cell (World.block_lt_of_cell? w _ hw303_1)).trans hw303_1), ((HB.out.cell (World.block_lt_of_cell? w _ hw303_2)).trans hw303_2), ((HB.out.cell (World.block_lt_of_cell? w _ hw303_3)).trans hw303_3), ((HB.out.cell (World.block_lt_of_cell? w _ hw303_4)).trans hw303_4), ((HB.out.cell (World.block_lt_of_cell? w _ hw303_5)).trans hw303_5), ((HB.out.cell (World.block_lt_of_cell? w _ hw303_6)).trans hw303_6), ((HB.out.cell (World.block_lt_of_cell? w _ hw303_7)).trans hw303_7), ((HB.out.cell (World.block_lt_of_cell? w _ hw304_0)).trans hw304_0), ((HB.out.cell (World.block_lt_of_cell? w _ hw304_1)).trans hw304_1), ((HB.out.cell (World.block_lt_of_cell? w _ hw304_2)).trans hw304_2), ((HB.out.cell (World.block_lt_of_cell? w _ hw304_3)).trans hw304_3), ((HB.out.cell (World.block_lt_of_cell? w _ hw304_4)).trans hw304_4), ((HB.out.cell (World.block_lt_of_cell? w _ hw304_5)).trans hw304_5), ((HB.out.cell (World.block_lt_of_cell? w _ hw304_6)).trans hw304_6), ((HB.out.cell (World.block_lt_of_cell? w _ hw304_7)).trans hw304_7)⟩ (fun hHeld => ?_)
                    clear hK K
                    refine norm_ (a' := ?_) ?_ ?_
                    rotate_left
                    · show Act.put _ (some 77) _ = _
                      simp only [Act.put, List.setIfInBounds_toArray, List.set_cons_zero, List.set_cons_succ, i64_w, i32_w]
                      rfl
                    refine pure_ (i := 11) (N := some 78) (v := ?_) (a' := ?_) #[true, true, true, true, true, true, true, true, true, true, true, true] rfl rfl (any_of HT_.out (by kernel_rfl)) (fun _ _ _ h => h) (Or.inl ⟨by rfl, ?_⟩) ?_ ?_
                    rotate_left
                    · intro w'
                      go_simp
                      with_reducible rfl
                    rotate_left
                    · simp only [Act.put, List.setIfInBounds_toArray, List.set_cons_zero, List.set_cons_succ, i64_w, i32_w]
                      rfl
                    refine done_ (done_of HT_.out (by kernel_rfl)) ?_
                    try go_wp2
                    go_roundg k2
                    case measure => have := HJ2.out; have := HK2.out; omega
                    case rel => exact ⟨(wrap64 (x5_2 + 1)), (by first | rfl | (simp; done) | (simp [*]; done)), H', ⟨by have := HJ2.out; have := HK2.out; omega⟩, ⟨by (with_reducible repeat (first | refine blk_drewN ?_ _ | refine blk_drew ?_ | refine blk_alloc ?_ _)); exact BK296.out⟩, ⟨by (with_reducible repeat (first | refine blk_drewN ?_ _ | refine blk_drew ?_ | refine blk_alloc ?_ _)); exact BK297.out⟩, ⟨by repeat (first | (with_reducible first | exact HB.out | apply below_alloc | apply pw_below_drewN | apply below_drew1 | refine below_set ?_ GE296.out | refine below_set ?_ GE297.out) | exact HB.out)⟩⟩
                  · replace c43 := Bool.eq_false_iff.mpr c43
                    subst c43
                    have H1 : (some false) = some r := by rw [if_neg (show ¬ (false = true) by decide)] at H; exact H
                    clear H
                    have H := H1
                    clear H1
                    obtain rfl := Option.some.inj H
                    have hnb48 := NB296_297.out
                    have hnc48 := NB297_296.out
                    have hcz49_0 : wr.cell? ⟨gb296, 0, none⟩ = some (.int .i64 a0_0) := (blk_cell BK296.out 0).trans rfl
                    have hcz49_1 : wr.cell? ⟨gb296, 1, none⟩ = some (.slice A0_1 l0_1.length c0_1) := (blk_cell BK296.out 1).trans rfl
                    have hcz49_2 : wr.cell? ⟨gb296, 2, none⟩ = some (.slice A0_2 l0_2.length c0_2) := (blk_cell BK296.out 2).trans rfl
                    have hcz49_3 : wr.cell? ⟨gb296, 3, none⟩ = some (.slice A0_3 l0_3.length c0_3) := (blk_cell BK296.out 3).trans rfl
                    have hcz49_4 : wr.cell? ⟨gb296, 4, none⟩ = some (.slice A0_4 l0_4.length c0_4) := (blk_cell BK296.out 4).trans rfl
                    have hcz49_5 : wr.cell? ⟨gb296, 5, none⟩ = some (.slice A0_5 l0_5.length c0_5) := (blk_cell BK296.out 5).trans rfl
                    have hcz49_6 : wr.cell? ⟨gb296, 6, none⟩ = some (.slice A0_6 l0_6.length c0_6) := (blk_cell BK296.out 6).trans rfl
                    have hfz49_0 := blk_frozen BK296.out 0
                    have hfz49_1 := blk_frozen BK296.out 1
                    have hfz49_2 := blk_frozen BK296.out 2
                    have hfz49_3 := blk_frozen BK296.out 3
                    have hfz49_4 := blk_frozen BK296.out 4
                    have hfz49_5 := blk_frozen BK296.out 5
                    have hfz49_6 := blk_frozen BK296.out 6
                    try go_wp2
                    have n0_ := Aside0.mk (blk_drew BK296.out)
                    have n1_ := Aside0.mk (blk_drew BK297.out)
                    have n2_ := Aside0.mk (below_drew1 HB.out)
                    clear BK296
                    clear BK297
                    clear HB
                    have BK296 := n0_
                    have BK297 := n1_
                    have HB := n2_
                    clear n0_ n1_ n2_
                    have p303 : 0 ≤ (x5_2 : Int) := of_decide_eq_true (by first | (with_reducible assumption) | assumption)
                    have q303 : x5_2 < (l0_6.length : Int) := of_decide_eq_true (by first | (with_reducible assumption) | assumption)
                    obtain ⟨ad303, A303_2, c303_2, A303_3, c303_3, A303_7, c303_7, e303, hx303_0, hx303_1, hx303_2, hx303_3, hx303_4, hx303_5, hx303_6, hx303_7, hl303_2, hi303_2, hl303_3, hi303_3, hl303_7, hi303_7⟩ := at_T118 HR0_6.out x5_2 p303 q303
                    have hw303_7 := hx303_7
                    have hw303_6 := hx303_6
                    have hw303_5 := hx303_5
                    have hw303_4 := hx303_4
                    have hw303_3 := hx303_3
                    have hw303_2 := hx303_2
                    have hw303_1 := hx303_1
                    have hw303_0 := hx303_0
                    cases e303
                    replace hx303_0 := (HB.out.cell (World.block_lt_of_cell? w _ hx303_0)).trans hx303_0
                    replace hx303_1 := (HB.out.cell (World.block_lt_of_cell? w _ hx303_1)).trans hx303_1
                    replace hx303_2 := (HB.out.cell (World.block_lt_of_cell? w _ hx303_2)).trans hx303_2
                    replace hx303_3 := (HB.out.cell (World.block_lt_of_cell? w _ hx303_3)).trans hx303_3
                    replace hx303_4 := (HB.out.cell (World.block_lt_of_cell? w _ hx303_4)).trans hx303_4
                    replace hx303_5 := (HB.out.cell (World.block_lt_of_cell? w _ hx303_5)).trans hx303_5
                    replace hx303_6 := (HB.out.cell (World.block_lt_of_cell? w _ hx303_6)).trans hx303_6
                    replace hx303_7 := (HB.out.cell (World.block_lt_of_cell? w _ hx303_7)).trans hx303_7
                    have HR303_2 := Aside0.mk hi303_2
                    have HC303_2 := Aside0.mk hl303_2
                    clear hi303_2 hl303_2
                    have HR303_3 := Aside0.mk hi303_3
                    have HC303_3 := Aside0.mk hl303_3
                    clear hi303_3 hl303_3
                    have HR303_7 := Aside0.mk hi303_7
                    have HC303_7 := Aside0.mk hl303_7
                    clear hi303_7 hl303_7
                    replace p303 := eq_true p303
                    replace q303 := eq_true q303
                    have p304 : 0 ≤ (x5_2 : Int) := of_decide_eq_true (by first | (with_reducible assumption) | assumption)
                    have q304 : x5_2 < (l1_6.length : Int) := of_decide_eq_true (by first | (with_reducible assumption) | assumption)
                    obtain ⟨ad304, A304_2, c304_2, A304_3, c304_3, A304_7, c304_7, e304, hx304_0, hx304_1, hx304_2, hx304_3, hx304_4, hx304_5, hx304_6, hx304_7, hl304_2, hi304_2, hl304_3, hi304_3, hl304_7, hi304_7⟩ := at_T118 HR1_6.out x5_2 p304 q304
                    have hw304_7 := hx304_7
                    have hw304_6 := hx304_6
                    have hw304_5 := hx304_5
                    have hw304_4 := hx304_4
                    have hw304_3 := hx304_3
                    have hw304_2 := hx304_2
                    have hw304_1 := hx304_1
                    have hw304_0 := hx304_0
                    cases e304
                    replace hx304_0 := (HB.out.cell (World.block_lt_of_cell? w _ hx304_0)).trans hx304_0
                    replace hx304_1 := (HB.out.cell (World.block_lt_of_cell? w _ hx304_1)).trans hx304_1
                    replace hx304_2 := (HB.out.cell (World.block_lt_of_cell? w _ hx304_2)).trans hx304_2
                    replace hx304_3 := (HB.out.cell (World.block_lt_of_cell? w _ hx304_3)).trans hx304_3
                    replace hx304_4 := (HB.out.cell (World.block_lt_of_cell? w _ hx304_4)).trans hx304_4
                    replace hx304_5 := (HB.out.cell (World.block_lt_of_cell? w _ hx304_5)).trans hx304_5
                    replace hx304_6 := (HB.out.cell (World.block_lt_of_cell? w _ hx304_6)).trans hx304_6
                    replace hx304_7 := (HB.out.cell (World.block_lt_of_cell? w _ hx304_7)).trans hx304_7
                    have HR304_2 := Aside0.mk hi304_2
                    have HC304_2 := Aside0.mk hl304_2
                    clear hi304_2 hl304_2
                    have HR304_3 := Aside0.mk hi304_3
                    have HC304_3 := Aside0.mk hl304_3
                    clear hi304_3 hl304_3
                    have HR304_7 := Aside0.mk hi304_7
                    have HC304_7 := Aside0.mk hl304_7
                    clear hi304_7 hl304_7
                    replace p304 := eq_true p304
                    replace q304 := eq_true q304
                    refine start_ (n := 12) (S := fun w' => w'.cell? ⟨gb296, 0, none⟩ = some (.int .i64 a0_0) ∧ w'.cell? ⟨gb296, 1, none⟩ = some (.slice A0_1 l0_1.length c0_1) ∧ w'.cell? ⟨gb296, 2, none⟩ = some (.slice A0_2 l0_2.length c0_2) ∧ w'.cell? ⟨gb296, 3, none⟩ = some (.slice A0_3 l0_3.length c0_3) ∧ w'.cell? ⟨gb296, 4, none⟩ = some (.slice A0_4 l0_4.length c0_4) ∧ w'.cell? ⟨gb296, 5, none⟩ = some (.slice A0_5 l0_5.length c0_5) ∧ w'.cell? ⟨gb296, 6, none⟩ = some (.slice (some ad303) l0_6.length c0_6) ∧ w'.cell? ⟨gb297, 0, none⟩ = some (.int .i64 a1_0) ∧ w'.cell? ⟨gb297, 1, none⟩ = some (.slice A1_1 l1_1.length c1_1) ∧ w'.cell? ⟨gb297, 2, none⟩ = some (.slice A1_2 l1_2.length c1_2) ∧ w'.cell? ⟨gb297, 3, none⟩ = some (.slice A1_3 l1_3.length c1_3) ∧ w'.cell? ⟨gb297, 4, none⟩ = some (.slice A1_4 l1_4.length c1_4) ∧ w'.cell? ⟨gb297, 5, none⟩ = some (.slice A1_5 l1_5.length c1_5) ∧ w'.cell? ⟨gb297, 6, none⟩ = some (.slice (some ad304) l1_6.length c1_6) ∧ w'.cell? (ad303.add ((x5_2).toNat * 8)) = some (.int .i64 ((rd_T118 l0_6 x5_2).f0.f0)) ∧ w'.cell? ⟨(ad303.add ((x5_2).toNat * 8)).block, (ad303.add ((x5_2).toNat * 8)).off + 1, none⟩ = some (.int .i64 ((rd_T118 l0_6 x5_2).f0.f1)) ∧ w'.cell? ⟨(ad303.add ((x5_2).toNat * 8)).block, (ad303.add ((x5_2).toNat * 8)).off + 2, none⟩ = some (.slice A303_2 ((rd_T118 l0_6 x5_2).f1).length c303_2) ∧ w'.cell? ⟨(ad303.add ((x5_2).toNat * 8)).block, (ad303.add ((x5_2).toNat * 8)).off + 3, none⟩ = some (.slice A303_3 ((rd_T118 l0_6 x5_2).f2).length c303_3) ∧ w'.cell? ⟨(ad303.add ((x5_2).toNat * 8)).block, (ad303.add ((x5_2).toNat * 8)).off + 4, none⟩ = some (.int .i64 ((rd_T118 l0_6 x5_2).f3)) ∧ w'.cell? ⟨(ad303.add ((x5_2).toNat * 8)).block, (ad303.add ((x5_2).toNat * 8)).off + 5, none⟩ = some (.int .i64 ((rd_T118 l0_6 x5_2).f4)) ∧ w'.cell? ⟨(ad303.add ((x5_2).toNat * 8)).block, (ad303.add ((x5_2).toNat * 8)).off + 6, none⟩ = some (.int .i64 ((rd_T118 l0_6 x5_2).f5)) ∧ w'.cell? ⟨(ad303.add ((x5_2).toNat * 8)).block, (ad303.add ((x5_2).toNat * 8)).off + 7, none⟩ = some (.slice A303_7 ((rd_T118 l0_6 x5_2).f6).length c303_7) ∧ w'.cell? (ad304.add ((x5_2).toNat * 8)) = some (.int .i64 ((rd_T118 l1_6 x5_2).f0.f0)) ∧ w'.cell? ⟨(ad304.add ((x5_2).toNat * 8)).block, (ad304.add ((x5_2).toNat * 8)).off + 1, none⟩ = some (.int .i64 ((rd_T118 l1_6 x5_2).f0.f1)) ∧ w'.cell? ⟨(ad304.add ((x5_2).toNat * 8)).block, (ad304.add ((x5_2).toNat * 8)).off + 2, none⟩ = some (.slice A304_2 ((rd_T118 l1_6 x5_2).f1).length c304_2) ∧ w'.cell? ⟨(ad304.add ((x5_2).toNat * 8)).block, (ad304.add ((x5_2).toNat * 8)).off + 3, none⟩ = some (.slice A304_3 ((rd_T118 l1_6 x5_2).f2).length c304_3) ∧ w'.cell? ⟨(ad304.add ((x5_2).toNat * 8)).block, (ad304.add ((x5_2).toNat * 8)).off + 4, none⟩ = some (.int .i64 ((rd_T118 l1_6 x5_2).f3)) ∧ w'.cell? ⟨(ad304.add ((x5_2).toNat * 8)).block, (ad304.add ((x5_2).toNat * 8)).off + 5, none⟩ = some (.int .i64 ((rd_T118 l1_6 x5_2).f4)) ∧ w'.cell? ⟨(ad304.add ((x5_2).toNat * 8)).block, (ad304.add ((x5_2).toNat * 8)).off + 6, none⟩ = some (.int .i64 ((rd_T118 l1_6 x5_2).f5)) ∧ w'.cell? ⟨(ad304.add ((x5_2).toNat * 8)).block, (ad304.add ((x5_2).toNat * 8)).off + 7, none⟩ = some (.slice A304_7 ((rd_T118 l1_6 x5_2).f6).length c304_7)) (ds := []) #[false, false, false, false, false, false, false, false, false, false, false, false] (by kernel_rfl) rfl rfl ⟨(blk_cell BK296.out 0).trans rfl, (blk_cell BK296.out 1).trans rfl, (blk_cell BK296.out 2).trans rfl, (blk_cell BK296.out 3).trans rfl, (blk_cell BK296.out 4).trans rfl, (blk_cell BK296.out 5).trans rfl, (blk_cell BK296.out 6).trans rfl, (blk_cell BK297.out 0).trans rfl, (blk_cell BK297.out 1).trans rfl, (blk_cell BK297.out 2).trans rfl, (blk_cell BK297.out 3).trans rfl, (blk_cell BK297.out 4).trans rfl, (blk_cell BK297.out 5).trans rfl, (blk_cell BK297.out 6).trans rfl, ((HB.out.cell (World.block_lt_of_cell? w _ hw303_0)).trans hw303_0), ((HB.out.cell (World.block_lt_of_cell? w _ hw303_1)).trans hw303_1), ((HB.out.cell (World.block_lt_of_cell? w _ hw303_2)).trans hw303_2), ((HB.out.cell (World.block_lt_of_cell? w _ hw303_3)).trans hw303_3), ((HB.out.cell (World.block_lt_of_cell? w _ hw303_4)).trans hw303_4), ((HB.out.cell (World.block_lt_of_cell? w _ hw303_5)).trans hw303_5), ((HB.out.cell (World.block_lt_of_cell? w _ hw303_6)).trans hw303_6), ((HB.out.cell (World.block_lt_of_cell? w _ hw303_7)).trans hw303_7), ((HB.out.cell (World.block_lt_of_cell? w _ hw304_0)).trans hw304_0), ((HB.out.cell (World.block_lt_of_cell? w _ hw304_1)).trans hw304_1), ((HB.out.cell (World.block_lt_of_cell? w _ hw304_2)).trans hw304_2), ((HB.out.cell (World.block_lt_of_cell? w _ hw304_3)).trans hw304_3), ((HB.out.cell (World.block_lt_of_cell? w _ hw304_4)).trans hw304_4), ((HB.out.cell (World.block_lt_of_cell? w _ hw304_5)).trans hw304_5), ((HB.out.cell (World.block_lt_of_cell? w _ hw304_6)).trans hw304_6), ((HB.out.cell (World.block_lt_of_cell? w _ hw304_7)).trans hw304_7)⟩ (fun hHeld => ?_); refine with_tabW bursarref19_Same.tab6 bursarref19_Same.bits6 (fun HT_ HW_ => ?_)
                    generalize wr.drew = w50 at BK296 BK297 HB HR303_2 HR303_3 HR303_7 HR304_2 HR304_3 HR304_7 hx303_0 hx303_1 hx303_2 hx303_3 hx303_4 hx303_5 hx303_6 hx303_7 hx304_0 hx304_1 hx304_2 hx304_3 hx304_4 hx304_5 hx304_6 hx304_7 hHeld ⊢
                    refine pure_ (i := 0) (N := some 67) (v := ?_) (a' := ?_) #[true, false, false, false, false, false, false, false, false, false, false, false] rfl rfl (any_of HT_.out (by kernel_rfl)) (fun _ _ _ h => h) (Or.inl ⟨by rfl, ?_⟩) ?_ ?_
                    rotate_left
                    · intro w'
                      go_simp
                      with_reducible rfl
                    rotate_left
                    · simp only [Act.put, List.setIfInBounds_toArray, List.set_cons_zero, List.set_cons_succ, i64_w, i32_w]
                      rfl
                    refine pure_ (i := 2) (N := some 69) (v := ?_) (a' := ?_) #[true, false, true, false, false, false, false, false, false, false, false, false] rfl rfl (any_of HT_.out (by kernel_rfl)) (fun _ _ _ h => h) (Or.inl ⟨by rfl, ?_⟩) ?_ ?_
                    rotate_left
                    · intro w'
                      go_simp
                      with_reducible rfl
                    rotate_left
                    · simp only [Act.put, List.setIfInBounds_toArray, List.set_cons_zero, List.set_cons_succ, i64_w, i32_w]
                      rfl
                    refine pure_ (i := 5) (N := some 72) (v := ?_) (a' := ?_) #[true, false, true, false, false, true, false, false, false, false, false, false] rfl rfl (any_of HT_.out (by kernel_rfl)) (fun _ _ _ h => h) (Or.inl ⟨by rfl, ?_⟩) ?_ ?_
                    rotate_left
                    · intro w'
                      go_simp
                      with_reducible rfl
                    rotate_left
                    · simp only [Act.put, List.setIfInBounds_toArray, List.set_cons_zero, List.set_cons_succ, i64_w, i32_w]
                      rfl
                    refine pure_ (i := 7) (N := some 74) (v := ?_) (a' := ?_) #[true, false, true, false, false, true, false, true, false, false, false, false] rfl rfl (any_of HT_.out (by kernel_rfl)) (fun _ _ _ h => h) (Or.inl ⟨by rfl, ?_⟩) ?_ ?_
                    rotate_left
                    · intro w'
                      go_simp
                      with_reducible rfl
                    rotate_left
                    · simp only [Act.put, List.setIfInBounds_toArray, List.set_cons_zero, List.set_cons_succ, i64_w, i32_w]
                      rfl
                    refine take_ (i := 1) (N := some 68) (v := ?_) (a' := ?_) #[true, true, true, false, false, true, false, true, false, false, false, false] rfl rfl (take_ofW HT_.out HW_.out (by kernel_rfl)) (fun _ _ _ h => h) (Or.inl ⟨by rfl, ?_⟩) hHeld ?_ ?_
                    rotate_left
                    · rintro w' ⟨s0, s1, s2, s3, s4, s5, s6, s7, s8, s9, s10, s11, s12, s13, s14, s15, s16, s17, s18, s19, s20, s21, s22, s23, s24, s25, s26, s27, s28, s29⟩
                      go_simp
                      with_reducible rfl
                    rotate_left
                    · simp only [Act.put, List.setIfInBounds_toArray, List.set_cons_zero, List.set_cons_succ, i64_w, i32_w]
                      rfl
                    refine pure_ (i := 3) (N := some 70) (v := ?_) (a' := ?_) #[true, true, true, true, false, true, false, true, false, false, false, false] rfl rfl (any_of HT_.out (by kernel_rfl)) (fun _ _ _ h => h) (Or.inl ⟨by rfl, ?_⟩) ?_ ?_
                    rotate_left
                    · intro w'
                      go_simp
                      with_reducible rfl
                    rotate_left
                    · simp only [Act.put, List.setIfInBounds_toArray, List.set_cons_zero, List.set_cons_succ, i64_w, i32_w]
                      rfl
                    refine take_ (i := 4) (N := some 71) (v := ?_) (a' := ?_) #[true, true, true, true, true, true, false, true, false, false, false, false] rfl rfl (take_ofW HT_.out HW_.out (by kernel_rfl)) (fun _ _ _ h => h) (Or.inl ⟨by rfl, ?_⟩) hHeld ?_ ?_
                    rotate_left
                    · rintro w' ⟨s0, s1, s2, s3, s4, s5, s6, s7, s8, s9, s10, s11, s12, s13, s14, s15, s16, s17, s18, s19, s20, s21, s22, s23, s24, s25, s26, s27, s28, s29⟩
                      go_simp
                      with_reducible rfl
                    rotate_left
                    · simp only [Act.put, List.setIfInBounds_toArray, List.set_cons_zero, List.set_cons_succ, i64_w, i32_w]
                      rfl
                    refine take_ (i := 6) (N := some 73) (v := ?_) (a' := ?_) #[true, true, true, true, true, true, true, true, false, false, false, false] rfl rfl (take_ofW HT_.out HW_.out (by kernel_rfl)) (fun _ _ _ h => h) (Or.inl ⟨by rfl, ?_⟩) hHeld ?_ ?_
                    rotate_left
                    · rintro w' ⟨s0, s1, s2, s3, s4, s5, s6, s7, s8, s9, s10, s11, s12, s13, s14, s15, s16, s17, s18, s19, s20, s21, s22, s23, s24, s25, s26, s27, s28, s29⟩
                      go_simp
                      with_reducible rfl
                    rotate_left
                    · simp only [Act.put, List.setIfInBounds_toArray, List.set_cons_zero, List.set_cons_succ, i64_w, i32_w]
                      rfl
                    refine pure_ (i := 8) (N := some 75) (v := ?_) (a' := ?_) #[true, true, true, true, true, true, true, true, true, false, false, false] rfl rfl (any_of HT_.out (by kernel_rfl)) (fun _ _ _ h => h) (Or.inl ⟨by rfl, ?_⟩) ?_ ?_
                    rotate_left
                    · intro w'
                      go_simp
                      with_reducible rfl
                    rotate_left
                    · simp only [Act.put, List.setIfInBounds_toArray, List.set_cons_zero, List.set_cons_succ, i64_w, i32_w]
                      rfl
                    refine take_ (i := 9) (N := some 76) (v := ?_) (a' := ?_) #[true, true, true, true, true, true, true, true, true, true, false, false] rfl rfl (take_ofW HT_.out HW_.out (by kernel_rfl)) (fun _ _ _ h => h) (Or.inl ⟨by rfl, ?_⟩) hHeld ?_ ?_
                    rotate_left
                    · rintro w' ⟨s0, s1, s2, s3, s4, s5, s6, s7, s8, s9, s10, s11, s12, s13, s14, s15, s16, s17, s18, s19, s20, s21, s22, s23, s24, s25, s26, s27, s28, s29⟩
                      go_simp
                      with_reducible rfl
                    rotate_left
                    · simp only [Act.put, List.setIfInBounds_toArray, List.set_cons_zero, List.set_cons_succ, i64_w, i32_w]
                      rfl
                    refine one_ (i := 10) (N := some 77) #[true, true, true, true, true, true, true, true, true, true, true, false] rfl rfl (one_of HT_.out (by kernel_rfl)) (by decide) (fun K hK => ?_)
                    refine goes_ Tryd.func91 (by kernel_rfl) rfl #[.agg #[.int .i64 ((rd_T118 l0_6 x5_2).f0.f0), .int .i64 ((rd_T118 l0_6 x5_2).f0.f1), .slice A303_2 ((rd_T118 l0_6 x5_2).f1).length c303_2, .slice A303_3 ((rd_T118 l0_6 x5_2).f2).length c303_3, .int .i64 ((rd_T118 l0_6 x5_2).f3), .int .i64 ((rd_T118 l0_6 x5_2).f4), .int .i64 ((rd_T118 l0_6 x5_2).f5), .slice A303_7 ((rd_T118 l0_6 x5_2).f6).length c303_7], .agg #[.int .i64 ((rd_T118 l1_6 x5_2).f0.f0), .int .i64 ((rd_T118 l1_6 x5_2).f0.f1), .slice A304_2 ((rd_T118 l1_6 x5_2).f1).length c304_2, .slice A304_3 ((rd_T118 l1_6 x5_2).f2).length c304_3, .int .i64 ((rd_T118 l1_6 x5_2).f3), .int .i64 ((rd_T118 l1_6 x5_2).f4), .int .i64 ((rd_T118 l1_6 x5_2).f5), .slice A304_7 ((rd_T118 l1_6 x5_2).f6).length c304_7]] (by rfl) rfl rfl (by (try simp only [List.map_toArray, List.map_cons, List.map_nil]); first | done | rfl | (simp only [List.length_drop, List.length_take]; rfl)) ?_
                    with_reducible refine (bursarref19_SameRec.calls k2 ((rd_T118 l0_6 x5_2).f0.f0) ((rd_T118 l0_6 x5_2).f0.f1) _ _ ((rd_T118 l0_6 x5_2).f1) _ _ ((rd_T118 l0_6 x5_2).f2) ((rd_T118 l0_6 x5_2).f3) ((rd_T118 l0_6 x5_2).f4) ((rd_T118 l0_6 x5_2).f5) _ _ ((rd_T118 l0_6 x5_2).f6) ((rd_T118 l1_6 x5_2).f0.f0) ((rd_T118 l1_6 x5_2).f0.f1) _ _ ((rd_T118 l1_6 x5_2).f1) _ _ ((rd_T118 l1_6 x5_2).f2) ((rd_T118 l1_6 x5_2).f3) ((rd_T118 l1_6 x5_2).f4) ((rd_T118 l1_6 x5_2).f5) _ _ ((rd_T118 l1_6 x5_2).f6) false _ ?side1 ?side2 ?side3 ?side4 ?side5 ?side6 ?side7 ?side8 ?side9 ?side10 ?side11 ?side12 A42.out).mono ?_
                    (case side1 => repeat (first | exact (Kd.C_below HR303_2.out HB.out) | (with_reducible refine Kd.C_alloc ?_ _) | (with_reducible refine Kd.C_drewN ?_ _) | (with_reducible refine Kd.C_drew ?_)))
                    (case side2 => exact HC303_2.out)
                    (case side3 => repeat (first | exact (Kd.C_below HR303_3.out HB.out) | (with_reducible refine Kd.C_alloc ?_ _) | (with_reducible refine Kd.C_drewN ?_ _) | (with_reducible refine Kd.C_drew ?_)))
                    (case side4 => exact HC303_3.out)
                    (case side5 => repeat (first | exact (Kd.C_below HR303_7.out HB.out) | (with_reducible refine Kd.C_alloc ?_ _) | (with_reducible refine Kd.C_drewN ?_ _) | (with_reducible refine Kd.C_drew ?_)))
                    (case side6 => exact HC303_7.out)
                    (case side7 => repeat (first | exact (Kd.C_below HR304_2.out HB.out) | (with_reducible refine Kd.C_alloc ?_ _) | (with_reducible refine Kd.C_drewN ?_ _) | (with_reducible refine Kd.C_drew ?_)))
                    (case side8 => exact HC304_2.out)
                    (case side9 => repeat (first | exact (Kd.C_below HR304_3.out HB.out) | (with_reducible refine Kd.C_alloc ?_ _) | (with_reducible refine Kd.C_drewN ?_ _) | (with_reducible refine Kd.C_drew ?_)))
                    (case side10 => exact HC304_3.out)
                    (case side11 => repeat (first | exact (Kd.C_below HR304_7.out HB.out) | (with_reducible refine Kd.C_alloc ?_ _) | (with_reducible refine Kd.C_drewN ?_ _) | (with_reducible refine Kd.C_drew ?_)))
                    (case side12 => exact HC304_7.out)
                    rintro e w51 ⟨rfl, hb⟩
                    refine ⟨_, rfl, ?_⟩
                    have n0_ := Aside0.mk (blk_below (g := gb296) (o := .cells #[.int .i64 a0_0, .slice A0_1 l0_1.length c0_1, .slice A0_2 l0_2.length c0_2, .slice A0_3 l0_3.length c0_3, .slice A0_4 l0_4.length c0_4, .slice A0_5 l0_5.length c0_5, .slice (some ad303) l0_6.length c0_6] 75 (0, 0)) (by (with_reducible repeat (first | refine blk_drewN ?_ _ | refine blk_drew ?_ | refine blk_alloc ?_ _)); exact BK296.out) hb)
                    have n1_ := Aside0.mk (blk_below (g := gb297) (o := .cells #[.int .i64 a1_0, .slice A1_1 l1_1.length c1_1, .slice A1_2 l1_2.length c1_2, .slice A1_3 l1_3.length c1_3, .slice A1_4 l1_4.length c1_4, .slice A1_5 l1_5.length c1_5, .slice (some ad304) l1_6.length c1_6] 75 (0, 0)) (by (with_reducible repeat (first | refine blk_drewN ?_ _ | refine blk_drew ?_ | refine blk_alloc ?_ _)); exact BK297.out) hb)
                    have n2_ := Aside0.mk (below_step (by repeat (first | (with_reducible first | exact HB.out | apply below_alloc | apply pw_below_drewN | apply below_drew1 | refine below_set ?_ GE296.out | refine below_set ?_ GE297.out) | exact HB.out)) hb)
                    clear BK296
                    clear BK297
                    clear HB
                    have BK296 := n0_
                    have BK297 := n1_
                    have HB := n2_
                    clear n0_ n1_ n2_
                    (try clear hb)
                    (try clear hb2)
                    (try clear hk)
                    (try clear hi)
                    refine hK.out _ _ ⟨(blk_cell BK296.out 0).trans rfl, (blk_cell BK296.out 1).trans rfl, (blk_cell BK296.out 2).trans rfl, (blk_cell BK296.out 3).trans rfl, (blk_cell BK296.out 4).trans rfl, (blk_cell BK296.out 5).trans rfl, (blk_cell BK296.out 6).trans rfl, (blk_cell BK297.out 0).trans rfl, (blk_cell BK297.out 1).trans rfl, (blk_cell BK297.out 2).trans rfl, (blk_cell BK297.out 3).trans rfl, (blk_cell BK297.out 4).trans rfl, (blk_cell BK297.out 5).trans rfl, (blk_cell BK297.out 6).trans rfl, ((HB.out.cell (World.block_lt_of_cell? w _ hw303_0)).trans hw303_0), ((HB.out.cell (World.block_lt_of_cell? w _ hw303_1)).trans hw303_1), ((HB.out.cell (World.block_lt_of_cell? w _ hw303_2)).trans hw303_2), ((HB.out.cell (World.block_lt_of_cell? w _ hw303_3)).trans hw303_3), ((HB.out.cell (World.block_lt_of_cell? w _ hw303_4)).trans hw303_4), ((HB.out.cell (World.block_lt_of_cell? w _ hw303_5)).trans hw303_5), ((HB.out.cell (World.block_lt_of_cell? w _ hw303_6)).trans hw303_6), ((HB.out.cell (World.block_lt_of_cell? w _ hw303_7)).trans hw303_7), ((HB.out.cell (World.block_lt_of_cell? w _ hw304_0)).trans hw304_0), ((HB.out.cell (World.block_lt_of_cell? w _ hw304_1)).trans hw304_1), ((HB.out.cell (World.block_lt_of_cell? w _ hw304_2)).trans hw304_2), ((HB.out.cell (World.block_lt_of_cell? w _ hw304_3)).trans hw304_3), ((HB.out.cell (World.block_lt_of_cell? w _ hw304_4)).trans hw304_4), ((HB.out.cell (World.block_lt_of_cell? w _ hw304_5)).trans hw304_5), ((HB.out.cell (World.block_lt_of_cell? w _ hw304_6)).trans hw304_6), ((HB.out.cell (World.block_lt_of_cell? w _ hw304_7)).trans hw304_7)⟩ (fun hHeld => ?_)
                    clear hK K
                    refine norm_ (a' := ?_) ?_ ?_
                    rotate_left
                    · show Act.put _ (some 77) _ = _
                      simp only [Act.put, List.setIfInBounds_toArray, List.set_cons_zero, List.set_cons_succ, i64_w, i32_w]
                      rfl
                    refine pure_ (i := 11) (N := some 78) (v := ?_) (a' := ?_) #[true, true, true, true, true, true, true, true, true, true, true, true] rfl rfl (any_of HT_.out (by kernel_rfl)) (fun _ _ _ h => h) (Or.inl ⟨by rfl, ?_⟩) ?_ ?_
                    rotate_left
                    · intro w'
                      go_simp
                      with_reducible rfl
                    rotate_left
                    · simp only [Act.put, List.setIfInBounds_toArray, List.set_cons_zero, List.set_cons_succ, i64_w, i32_w]
                      rfl
                    refine done_ (done_of HT_.out (by kernel_rfl)) ?_
                    try go_wp2
                    go_ret
                    exact ⟨by first | rfl | (simp [errW_none, errW_some] <;> rfl) | (simp [*, errW_none, errW_some] <;> rfl), by repeat (first | (with_reducible first | exact HB.out | apply below_alloc | apply pw_below_drewN | apply below_drew1 | refine below_set ?_ GE296.out | refine below_set ?_ GE297.out) | exact HB.out)⟩
                · rw [if_neg c41] at H
                  exact absurd H (by simp)
              · rw [if_neg c40] at H
                exact absurd H (by simp)
            · rw [if_neg c39] at H
              have c39b0 : decide (x5_2 < (l0_6.length : Int)) = false := decide_eq_false c39
              clear c39
              obtain rfl := Option.some.inj H
              have hnb52 := NB296_297.out
              have hnc52 := NB297_296.out
              have hcz53_0 : wr.cell? ⟨gb296, 0, none⟩ = some (.int .i64 a0_0) := (blk_cell BK296.out 0).trans rfl
              have hcz53_1 : wr.cell? ⟨gb296, 1, none⟩ = some (.slice A0_1 l0_1.length c0_1) := (blk_cell BK296.out 1).trans rfl
              have hcz53_2 : wr.cell? ⟨gb296, 2, none⟩ = some (.slice A0_2 l0_2.length c0_2) := (blk_cell BK296.out 2).trans rfl
              have hcz53_3 : wr.cell? ⟨gb296, 3, none⟩ = some (.slice A0_3 l0_3.length c0_3) := (blk_cell BK296.out 3).trans rfl
              have hcz53_4 : wr.cell? ⟨gb296, 4, none⟩ = some (.slice A0_4 l0_4.length c0_4) := (blk_cell BK296.out 4).trans rfl
              have hcz53_5 : wr.cell? ⟨gb296, 5, none⟩ = some (.slice A0_5 l0_5.length c0_5) := (blk_cell BK296.out 5).trans rfl
              have hcz53_6 : wr.cell? ⟨gb296, 6, none⟩ = some (.slice A0_6 l0_6.length c0_6) := (blk_cell BK296.out 6).trans rfl
              have hfz53_0 := blk_frozen BK296.out 0
              have hfz53_1 := blk_frozen BK296.out 1
              have hfz53_2 := blk_frozen BK296.out 2
              have hfz53_3 := blk_frozen BK296.out 3
              have hfz53_4 := blk_frozen BK296.out 4
              have hfz53_5 := blk_frozen BK296.out 5
              have hfz53_6 := blk_frozen BK296.out 6
              go_wp2
              go_ret
              exact ⟨by first | rfl | (simp [errW_none, errW_some] <;> rfl) | (simp [*, errW_none, errW_some] <;> rfl), by repeat (first | (with_reducible first | exact HB.out | apply below_alloc | apply pw_below_drewN | apply below_drew1 | refine below_set ?_ GE296.out | refine below_set ?_ GE297.out) | exact HB.out)⟩

end Go.Proofs.YtggogenhakdhiaaDoor.PSnapTexts
