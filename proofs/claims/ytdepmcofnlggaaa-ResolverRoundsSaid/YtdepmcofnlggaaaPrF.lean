/- slices.IndexFunc and slices.DeleteFunc at bursar/api.Id, walked (printed by wip/del_gen.py). (ahead of it: The edges of a state, in plain lists. Right of a state, walked. Right of a state, walked. slices.Grow laid at locks: the shelf's contract's premise, each field a fact of the dump's own. slices.Grow of no locks: an empty row of the call's own, or nil. slices.Concat of two rows of locks, walked. A row of the call's own whose elements are k cells each: read, laid anew, cut, cleared, sorted. slices.DeleteFunc: what lies in the row on the way.) -/
import Derived.Test.YtdepmcofnlggaaaPrE
import Derived.Test.YtdepmcofnlggaaaRcSEdges
import Derived.Lib.SlicesS
import Derived.Shelf.Spec.SlicesGrow
import Derived.Test.YtdepmcofnlggaaaProg
import Derived.Test.YtdepmcofnlggaaaPrC
section
set_option linter.unusedVariables false
set_option linter.unusedSimpArgs false
namespace Go.Proofs.Ytdepmcofnlggaaa.PResolverCycles
open Go.RowKit Go.Proofs.YtdepmcofnlggaaaW.PrintWords Go.Proofs.YtdepmcofnlggaaaW.PrintLast Go.Proofs.YtdepmcofnlggaaaW.PrintMore
open Classical

theorem ba_inj {x y : ByteArray} : x.toList = y.toList ↔ x = y := by
  have h := Go.Lib.bytes_beq_iff x y
  rw [beq_iff_eq] at h
  exact h
/-- whether one waits for another at one key -/
def Waits (w h : S91) : Prop := w.f0 = h.f0 ∧ w.f1 ≠ h.f1 ∧ (w.f2 ≠ 1 ∨ h.f2 ≠ 1)
noncomputable def edge1 (w h : S91) : List S26 := if Waits w h then [⟨w.f0, w.f1, h.f1⟩] else []
/-- the edges of a state -/
noncomputable def edgesP (locks waits : List S91) : List S26 := waits.flatMap fun w => locks.flatMap fun h => edge1 w h
theorem edge1_len (w h : S91) : (edge1 w h).length ≤ 1 := by unfold edge1; split <;> simp
theorem row_len (w : S91) : ∀ l : List S91, (l.flatMap fun h => edge1 w h).length ≤ l.length
  | [] => by simp
  | h :: l => by
    rw [List.flatMap_cons, List.length_append, List.length_cons]
    have := edge1_len w h
    have := row_len w l
    omega
theorem edgesP_len (locks : List S91) : ∀ waits : List S91, (edgesP locks waits).length ≤ waits.length * locks.length
  | [] => by simp [edgesP]
  | w :: l => by
    unfold edgesP
    rw [List.flatMap_cons, List.length_append, List.length_cons]
    have := row_len w locks
    have := edgesP_len locks l
    unfold edgesP at this
    rw [Nat.add_mul, Nat.one_mul]
    omega
theorem id_nbeq (x y : S24) : (!(x.f0 == y.f0) || !(x.f1 == y.f1)) = !decide (x = y) := by
  rw [← id_beq, Bool.not_and]
theorem rd_T91_at (l : List S91) (i : Nat) (h : i < l.length) : rd_T91 l (i : Int) = l[i] := by
  unfold rd_T91
  rw [Int.toNat_natCast, List.getD_eq_getElem?_getD, List.getElem?_eq_getElem h]
  rfl
theorem wrap_next {i : Nat} (h : i < 1000000) : wrap64 ((i : Int) + 1) = ((i + 1 : Nat) : Int) := by unfold wrap64; omega
/-- the inner round of the program -/
theorem edges_l1 (k : Nat) (x9 : List S91) (x10 x11 : Int) (L : List S91) (y0 : Int) (y1 y2 : List S91) (y3 : List S140) (y4 : List S93) (y5 : List S81) (y6 : List S109) (wt : S91) (hL : L.length ≤ 1000) :
    ∀ (d i : Nat) (x3 : List S26), d + i = L.length → x3.length + d ≤ 1000000 →
      resolver_edges.l1 (k + d + 1) x3 x9 x10 x11 L (L.length : Int) (i : Int) y0 y1 y2 y3 y4 y5 y6 wt.f0 wt.f1.f0 wt.f1.f1 wt.f2 =
      resolver_edges.l0 k (x3 ++ (L.drop i).flatMap fun h => edge1 wt h) x9 x10 (wrap64 (x11 + 1)) y0 y1 y2 y3 y4 y5 y6
  | 0, i, x3, hd, hx => by
    have hi : ¬ (i : Int) < (L.length : Int) := by omega
    unfold resolver_edges.l1
    rw [if_neg hi, List.drop_eq_nil_of_le (by omega)]
    simp
  | d + 1, i, x3, hd, hx => by
    have hi : (i : Int) < (L.length : Int) := by omega
    have hi0 : (0 : Int) ≤ (i : Int) := by omega
    have hiN : i < L.length := by omega
    have hr := rd_T91_at L i hiN
    have hw := wrap_next (i := i) (by omega)
    have hdr : L.drop i = L[i] :: L.drop (i + 1) := List.drop_eq_getElem_cons hiN
    have ih0 := edges_l1 k x9 x10 x11 L y0 y1 y2 y3 y4 y5 y6 wt hL d (i + 1) x3 (by omega) (by omega)
    have ih1 := edges_l1 k x9 x10 x11 L y0 y1 y2 y3 y4 y5 y6 wt hL d (i + 1) (x3 ++ [⟨wt.f0, wt.f1, L[i].f1⟩]) (by omega) (by rw [List.length_append, List.length_singleton]; omega)
    have hx3 : x3.length < 2932031007402 := by omega
    rw [show k + (d + 1) + 1 = (k + d + 1) + 1 from rfl]
    unfold resolver_edges.l1
    rw [if_pos hi, if_pos hi0, if_pos hi, hr, hw, hdr, List.flatMap_cons, id_nbeq]
    generalize L[i] = h at *
    by_cases c1 : wt.f0 = h.f0
    · rw [if_pos (ba_inj.2 c1)]
      by_cases c2 : wt.f1 = h.f1
      · have hn : edge1 wt h = [] := if_neg fun hh => hh.2.1 c2
        rw [if_neg (by simp [c2]), ih0, hn, List.nil_append]
      · rw [if_pos (by simp [c2])]
        by_cases c3 : wt.f2 = 1
        · rw [if_pos c3]
          by_cases c4 : h.f2 = 1
          · have hn : edge1 wt h = [] := if_neg fun hh => hh.2.2.elim (fun z => z c3) (fun z => z c4)
            rw [if_pos c4, ih0, hn, List.nil_append]
          · have hn : edge1 wt h = [⟨wt.f0, wt.f1, h.f1⟩] := if_pos ⟨c1, c2, .inr c4⟩
            rw [if_neg c4, if_pos hx3, hn]
            refine ih1.trans ?_
            rw [List.append_assoc]
        · have hn : edge1 wt h = [⟨wt.f0, wt.f1, h.f1⟩] := if_pos ⟨c1, c2, .inl c3⟩
          rw [if_neg c3, if_pos hx3, hn]
          refine ih1.trans ?_
          rw [List.append_assoc]
    · have hn : edge1 wt h = [] := if_neg fun hh => c1 hh.1
      rw [if_neg (fun z => c1 (ba_inj.1 z)), ih0, hn, List.nil_append]
/-- the outer round -/
theorem edges_l0 (L W : List S91) (y0 : Int) (y2 : List S91) (y3 : List S140) (y4 : List S93) (y5 : List S81) (y6 : List S109) (hL : L.length ≤ 1000) (hW : W.length ≤ 1000) :
    ∀ (d i : Nat) (x3 : List S26), d + i = W.length → x3.length + d * L.length ≤ 1000000 →
      ∃ k, resolver_edges.l0 k x3 W (W.length : Int) (i : Int) y0 L y2 y3 y4 y5 y6 = some (x3 ++ edgesP L (W.drop i))
  | 0, i, x3, hd, hx => ⟨1, by
    have hi : ¬ (i : Int) < (W.length : Int) := by omega
    unfold resolver_edges.l0
    rw [if_neg hi, List.drop_eq_nil_of_le (by omega)]
    simp [edgesP]⟩
  | d + 1, i, x3, hd, hx => by
    have hi : (i : Int) < (W.length : Int) := by omega
    have hi0 : (0 : Int) ≤ (i : Int) := by omega
    have hiN : i < W.length := by omega
    have hr := rd_T91_at W i hiN
    have hw := wrap_next (i := i) (by omega)
    have hdr : W.drop i = W[i] :: W.drop (i + 1) := List.drop_eq_getElem_cons hiN
    have hrl := row_len W[i] L
    rw [Nat.add_mul, Nat.one_mul] at hx
    obtain ⟨k, hk⟩ := edges_l0 L W y0 y2 y3 y4 y5 y6 hL hW d (i + 1) (x3 ++ L.flatMap fun h => edge1 W[i] h) (by omega) (by rw [List.length_append]; omega)
    refine ⟨(k + L.length + 1) + 1, ?_⟩
    unfold resolver_edges.l0
    rw [if_pos hi, if_pos hi0, if_pos hi, hr]
    have h1 := edges_l1 k W (W.length : Int) (i : Int) L y0 L y2 y3 y4 y5 y6 W[i] hL L.length 0 x3 (by omega) (by omega)
    refine h1.trans ?_
    rw [hw, List.drop_zero, hk, hdr]
    unfold edgesP
    rw [List.flatMap_cons, List.append_assoc]
/-- the program's edges -/
theorem edges_walk (w : World) (x : S45) (A1 : Option Addr) (c1 : Nat) (A2 : Option Addr) (c2 : Nat) (A3 : Option Addr) (c3 : Nat) (A4 : Option Addr) (c4 : Nat) (A5 : Option Addr) (c5 : Nat) (A6 : Option Addr) (c6 : Nat)
    (l1 : x.f1.length ≤ c1) (g1 : Kd.C k91 w A1 x.f1.length x.f1) (l2 : x.f2.length ≤ c2) (g2 : Kd.C k91 w A2 x.f2.length x.f2) (l3 : x.f3.length ≤ c3) (g3 : Kd.C k140 w A3 x.f3.length x.f3) (l4 : x.f4.length ≤ c4) (g4 : Kd.C k93 w A4 x.f4.length x.f4) (l5 : x.f5.length ≤ c5) (g5 : Kd.C k81 w A5 x.f5.length x.f5) (l6 : x.f6.length ≤ c6) (g6 : Kd.C k109 w A6 x.f6.length x.f6)
    (hL : x.f1.length ≤ 1000) (hW : x.f2.length ≤ 1000) :
    Calls Try.prog 40 #[.agg #[.int .i64 x.f0, .slice A1 x.f1.length c1, .slice A2 x.f2.length c2, .slice A3 x.f3.length c3, .slice A4 x.f4.length c4, .slice A5 x.f5.length c5, .slice A6 x.f6.length c6]] w
      fun e w' => ∃ v, e = .returned v ∧ Kd.R k26 26 w' w.heap.size (fun _ => True) v (edgesP x.f1 x.f2) ∧ Below w.heap.size w w' := by
  obtain ⟨k, hk⟩ := edges_l0 x.f1 x.f2 x.f0 x.f2 x.f3 x.f4 x.f5 x.f6 hL hW x.f2.length 0 [] (by omega) (by
    have := Nat.mul_le_mul hW hL
    simpa using this)
  exact resolver_edges.calls k x.f0 A1 c1 x.f1 A2 c2 x.f2 A3 c3 x.f3 A4 c4 x.f4 A5 c5 x.f5 A6 c6 x.f6 _ w g1 l1 g2 l2 g3 l3 g4 l4 g5 l5 g6 l6 (by simpa [resolver_edges.f] using hk)
end Go.Proofs.Ytdepmcofnlggaaa.PResolverCycles
end
section
set_option linter.unusedVariables false
set_option linter.unusedSimpArgs false
attribute [local go_sem ↓] Go.wp_at_zero Go.wp_at_succ
namespace Go.Proofs.Ytdepmcofnlggaaa.PResolverCycles
open Go.RowKit Go.Shelf Go.Proofs.YtdepmcofnlggaaaW.PrintWords Go.Proofs.YtdepmcofnlggaaaW.PrintLast Go.Proofs.YtdepmcofnlggaaaW.PrintMore
open Classical

theorem two_cells (w : World) (id : S24) : (w.alloc (.cells #[.int .i64 id.f0, .int .i64 id.f1] 24)).cell? ⟨w.heap.size, 0, none⟩ = some (.int .i64 id.f0) ∧ (w.alloc (.cells #[.int .i64 id.f0, .int .i64 id.f1] 24)).cell? ⟨w.heap.size, 1, none⟩ = some (.int .i64 id.f1) := by
  have hnew := heap_alloc_new w (.cells #[.int .i64 id.f0, .int .i64 id.f1] 24)
  have k0 := blk_cell hnew 0
  have k1 := blk_cell hnew 1
  simp only [List.getElem?_toArray, List.getElem?_cons_zero, List.getElem?_cons_succ] at k0 k1
  exact ⟨k0, k1⟩
set_option maxHeartbeats 1000000 in
set_option maxRecDepth 20000 in
theorem right1_walk (w : World) (q : Nat) (id : S24) (A5 : Option Addr) (c5 : Nat) (txs : List S81) (h5 : w.cell? ⟨q, 5, none⟩ = some (.slice A5 txs.length c5)) (hC : Kd.C k81 w A5 txs.length txs) (hm : txs.length ≤ 1000000) :
    Calls Try.prog 53 #[.agg #[.int .i64 id.f0, .int .i64 id.f1], .pointer (some ⟨q, 0, none⟩)] w fun e w' => e = .returned (.bool (txs.any (safeP id))) ∧ Below w.heap.size w w' := by
  have hB := below_alloc (Below.refl w.heap.size w) (.cells #[.int .i64 id.f0, .int .i64 id.f1] 24)
  obtain ⟨k0, k1⟩ := two_cells w id
  have H := contains_tx (w.alloc (.cells #[.int .i64 id.f0, .int .i64 id.f1] 24)) A5 c5 txs 54 #[.pointer (some ⟨w.heap.size, 0, none⟩)] (fun _ _ => rfl) (safeP id) (Kd.C_below hC hB) hm
    (fun x _ u hu => safe1_walk u w.heap.size id x (pw_cell_below hu k0) (pw_cell_below hu k1))
  replace h5 := pw_cell_below hB h5
  clear hC k0 k1
  generalize txs.any (safeP id) = r at *
  generalize txs.length = n at *
  go_enter Try.func53, Try.ntmps53
  go_wp2_with (go_at_call 50; refine H.mono ?_; rintro e u ⟨rfl, hu⟩)
  go_ret
  exact ⟨rfl, hB.trans (hu.mono hB.size)⟩
set_option maxHeartbeats 1000000 in
set_option maxRecDepth 20000 in
theorem left1_walk (w : World) (q : Nat) (id : S24) (A5 : Option Addr) (c5 : Nat) (txs : List S81) (h5 : w.cell? ⟨q, 5, none⟩ = some (.slice A5 txs.length c5)) (hC : Kd.C k81 w A5 txs.length txs) (hm : txs.length ≤ 1000000) :
    Calls Try.prog 49 #[.agg #[.int .i64 id.f0, .int .i64 id.f1], .pointer (some ⟨q, 0, none⟩)] w fun e w' => e = .returned (.bool (txs.any (livesP id))) ∧ Below w.heap.size w w' := by
  have hB := below_alloc (Below.refl w.heap.size w) (.cells #[.int .i64 id.f0, .int .i64 id.f1] 24)
  obtain ⟨k0, k1⟩ := two_cells w id
  have H := contains_tx (w.alloc (.cells #[.int .i64 id.f0, .int .i64 id.f1] 24)) A5 c5 txs 51 #[.pointer (some ⟨w.heap.size, 0, none⟩)] (fun _ _ => rfl) (livesP id) (Kd.C_below hC hB) hm
    (fun x _ u hu => lives1_walk u w.heap.size id x (pw_cell_below hu k0) (pw_cell_below hu k1))
  replace h5 := pw_cell_below hB h5
  clear hC k0 k1
  generalize txs.any (livesP id) = r at *
  generalize txs.length = n at *
  go_enter Try.func49, Try.ntmps49
  go_wp2_with (go_at_call 50; refine H.mono ?_; rintro e u ⟨rfl, hu⟩)
  go_ret
  exact ⟨rfl, hB.trans (hu.mono hB.size)⟩
end Go.Proofs.Ytdepmcofnlggaaa.PResolverCycles
end
section
set_option linter.unusedVariables false
set_option linter.unusedSimpArgs false
attribute [local go_sem ↓] Go.wp_at_zero Go.wp_at_succ
namespace Go.Proofs.Ytdepmcofnlggaaa.PResolverCycles
open Go.RowKit Go.Shelf Go.Proofs.YtdepmcofnlggaaaW.PrintWords Go.Proofs.YtdepmcofnlggaaaW.PrintLast Go.Proofs.YtdepmcofnlggaaaW.PrintMore
open Classical

/-- an edge to one who is neither older nor safe -/
noncomputable def badE (txs : List S81) (e : S26) : Bool := decide (0 ≤ cmpI e.f2 e.f1) && !(txs.any (safeP e.f2))
noncomputable def rightP (x : S45) : Int := if (edgesP x.f1 x.f2).any (badE x.f5) then 8 else 0
set_option maxHeartbeats 2000000 in
set_option maxRecDepth 20000 in
theorem right_walk (w : World) (x : S45) (cs : List Value) (hK : k45.K w x cs) (hL : x.f1.length ≤ 1000) (hW : x.f2.length ≤ 1000) (hT : x.f5.length ≤ 1000000) :
    Calls Try.prog 18 #[.agg ⟨cs⟩] w fun e w' => e = .returned (.int .i64 (rightP x)) ∧ Below w.heap.size w w' := by
  obtain ⟨A1, c1, A2, c2, A3, c3, A4, c4, A5, c5, A6, c6, rfl, l1, g1, l2, g2, l3, g3, l4, g4, l5, g5, l6, g6⟩ := k45_open hK
  clear hK
  have hB := below_alloc (Below.refl w.heap.size w) (.cells #[.int .i64 x.f0, .slice A1 x.f1.length c1, .slice A2 x.f2.length c2, .slice A3 x.f3.length c3, .slice A4 x.f4.length c4, .slice A5 x.f5.length c5, .slice A6 x.f6.length c6] 45)
  have hnew := heap_alloc_new w (.cells #[.int .i64 x.f0, .slice A1 x.f1.length c1, .slice A2 x.f2.length c2, .slice A3 x.f3.length c3, .slice A4 x.f4.length c4, .slice A5 x.f5.length c5, .slice A6 x.f6.length c6] 45)
  have HE := edges_walk (w.alloc (.cells #[.int .i64 x.f0, .slice A1 x.f1.length c1, .slice A2 x.f2.length c2, .slice A3 x.f3.length c3, .slice A4 x.f4.length c4, .slice A5 x.f5.length c5, .slice A6 x.f6.length c6] 45)) x A1 c1 A2 c2 A3 c3 A4 c4 A5 c5 A6 c6 l1 (Kd.C_below g1 hB) l2 (Kd.C_below g2 hB) l3 (Kd.C_below g3 hB) l4 (Kd.C_below g4 hB) l5 (Kd.C_below g5 hB) l6 (Kd.C_below g6 hB) hL hW
  have k5 := blk_cell hnew 5
  simp only [List.getElem?_toArray, List.getElem?_cons_zero, List.getElem?_cons_succ] at k5
  have HR := fun (W : World) (hb : Below (w.alloc (.cells #[.int .i64 x.f0, .slice A1 x.f1.length c1, .slice A2 x.f2.length c2, .slice A3 x.f3.length c3, .slice A4 x.f4.length c4, .slice A5 x.f5.length c5, .slice A6 x.f6.length c6] 45)).heap.size (w.alloc (.cells #[.int .i64 x.f0, .slice A1 x.f1.length c1, .slice A2 x.f2.length c2, .slice A3 x.f3.length c3, .slice A4 x.f4.length c4, .slice A5 x.f5.length c5, .slice A6 x.f6.length c6] 45)) W) (id : S24) =>
    right1_walk W w.heap.size id A5 c5 x.f5 (pw_cell_below hb k5) (Kd.C_below (Kd.C_below g5 hB) hb) hT
  have hlen := edgesP_len x.f1 x.f2
  have hlen2 := Nat.mul_le_mul hW hL
  unfold rightP
  obtain ⟨es, hes⟩ : ∃ es, es = edgesP x.f1 x.f2 := ⟨_, rfl⟩
  rw [← hes] at HE hlen ⊢
  clear hes g1 g2 g3 g4 g5 g6 l1 l2 l3 l4 l5 l6 k5 hnew
  replace hlen : es.length ≤ 1000000 := by omega
  clear hlen2 hL hW hT
  replace HR := Go.Lib.hid HR
  have hbad : ∀ e, badE x.f5 e = (decide (0 ≤ cmpI e.f2 e.f1) && !(x.f5.any (safeP e.f2))) := fun _ => rfl
  replace hbad := Go.Lib.hid hbad
  generalize badE x.f5 = bad at *
  obtain ⟨rv, hrv⟩ : ∃ r : Int, r = if es.any bad = true then 8 else 0 := ⟨_, rfl⟩
  rw [← hrv]
  replace hrv := Go.Lib.hid hrv
  go_enter Try.func18, Try.ntmps18
  go_upto_region 3 with (go_at_call 40; refine HE.mono ?_; rintro e u ⟨v, rfl, hv, hu⟩; obtain ⟨Ae, ce, rfl, hce, hCe⟩ := Kd.R_reads hv; obtain ⟨n, hN⟩ : ∃ n, n = es.length := ⟨_, rfl⟩; rw [← hN]; replace hN := Go.Lib.hid hN)
  obtain ⟨q, hq⟩ : ∃ y, y = w.heap.size := ⟨_, rfl⟩
  rw [← hq] at HR ⊢
  replace hq := Go.Lib.hid hq
  generalize w.alloc (.cells #[.int .i64 x.f0, .slice A1 x.f1.length c1, .slice A2 x.f2.length c2, .slice A3 x.f3.length c3, .slice A4 x.f4.length c4, .slice A5 x.f5.length c5, .slice A6 x.f6.length c6] 45) = V at *
  have hER := edgesR_of hCe
  have hBu := hB.trans (hu.mono hB.size)
  clear HE hv hCe hce hB
  replace hER := Go.Lib.hid hER
  replace hBu := Go.Lib.hid hBu
  have hn6 : n ≤ 1000000 := by rw [hN.out]; exact hlen
  replace hlen := Go.Lib.hid hlen
  go_loopw [10] (fun i wr => ∃ j : Nat, j ≤ n ∧ i = .int .i64 (j : Int) ∧ Below u.heap.size u wr ∧ ∀ y ∈ es.take j, bad y = false) (fun i _ => n - (intOf i).toNat)
  case atStart => exact ⟨0, by omega, rfl, Below.refl _ _, by simp⟩
  case round =>
    obtain ⟨j, hj, rfl, hBr, hno⟩ := hrel
    replace hno := Go.Lib.hid hno
    by_cases hlt : j < n
    · have hltz : (j : Int) < (n : Int) := by omega
      have hjl : j < es.length := by rw [← hN.out]; exact hlt
      obtain ⟨G, O, hA, hEd⟩ := hER.out (fun e => by rw [e] at hjl; exact Nat.not_lt_zero _ hjl)
      subst hA
      obtain ⟨a0, a1, a2, a3, a4⟩ := hEd.below hBr j hjl
      have hgx := Go.Lib.hid (List.getElem?_eq_getElem hjl)
      have htk : es.take (j + 1) = es.take j ++ [es[j]] := by rw [List.take_add_one, List.getElem?_eq_getElem hjl]; rfl
      replace htk := Go.Lib.hid htk
      clear hEd
      generalize es[j] = e at *
      have hb1 := below_alloc (Below.refl wr.heap.size wr) (.cells #[.string e.f0, .int .i64 e.f1.f0, .int .i64 e.f1.f1, .int .i64 e.f2.f0, .int .i64 e.f2.f1] 26)
      have hx := heap_alloc_new wr (.cells #[.string e.f0, .int .i64 e.f1.f0, .int .i64 e.f1.f1, .int .i64 e.f2.f0, .int .i64 e.f2.f1] 26)
      have e1 := blk_cell hx 1
      have e2 := blk_cell hx 2
      have e3 := blk_cell hx 3
      have e4 := blk_cell hx 4
      simp only [List.getElem?_toArray, List.getElem?_cons_zero, List.getElem?_cons_succ] at e1 e2 e3 e4
      clear hx
      have HR1 := fun (W : World) (hb : Below (wr.alloc (.cells #[.string e.f0, .int .i64 e.f1.f0, .int .i64 e.f1.f1, .int .i64 e.f2.f0, .int .i64 e.f2.f1] 26)).heap.size (wr.alloc (.cells #[.string e.f0, .int .i64 e.f1.f0, .int .i64 e.f1.f1, .int .i64 e.f2.f0, .int .i64 e.f2.f1] 26)) W) => HR.out W (hu.trans ((hBr.trans ((hb1.trans (hb.mono hb1.size)).mono hBr.size)).mono hu.size)) e.f2
      replace HR1 := Go.Lib.hid HR1
      have hfin : ∀ W : World, Below (wr.alloc (.cells #[.string e.f0, .int .i64 e.f1.f0, .int .i64 e.f1.f1, .int .i64 e.f2.f0, .int .i64 e.f2.f1] 26)).heap.size (wr.alloc (.cells #[.string e.f0, .int .i64 e.f1.f0, .int .i64 e.f1.f1, .int .i64 e.f2.f0, .int .i64 e.f2.f1] 26)) W → Below u.heap.size u W := fun W hb => hBr.trans ((hb1.trans (hb.mono hb1.size)).mono hBr.size)
      replace hfin := Go.Lib.hid hfin
      go_upto_region 5 with fail
      generalize wr.alloc (.cells #[.string e.f0, .int .i64 e.f1.f0, .int .i64 e.f1.f1, .int .i64 e.f2.f0, .int .i64 e.f2.f1] 26) = V2 at *
      generalize wr.heap.size = g2 at *
      clear a0 a1 a2 a3 a4
      have hbe := hbad.out e
      generalize (x.f5.any (safeP e.f2)) = sf at *
      have hw64 : wrap64 ((j : Int) + 1) = ((j + 1 : Nat) : Int) := by unfold wrap64; omega
      have hme : n - (j + 1) < n - j := by clear hw64; omega
      replace hme := Go.Lib.hid hme
      cases hp : bad e with
      | true =>
        rw [hp] at hbe
        have hc : 0 ≤ cmpI e.f2 e.f1 := by
          by_cases h : 0 ≤ cmpI e.f2 e.f1
          · exact h
          · rw [decide_eq_false h] at hbe; cases hbe
        have hs : sf = false := by
          cases sf
          · rfl
          · rw [Bool.not_true, Bool.and_false] at hbe; cases hbe
        subst hs
        have hF := Go.Lib.hid (show es.any bad = true from List.any_eq_true.2 ⟨e, List.mem_of_getElem? hgx.out, hp⟩)
        replace hp := Go.Lib.hid hp
        replace hbe := Go.Lib.hid hbe
        go_wp2_with (first
          | (go_at_call 24; refine (compare_walk e.f2 e.f1 _).mono ?_; rintro e5 u1 ⟨rfl, hu1⟩; replace hu1 := hu1.below; replace e3 := pw_cell_below hu1 e3; replace e4 := pw_cell_below hu1 e4)
          | (refine (HR1.out _ hu1).mono ?_; rintro e5 u2 ⟨rfl, hu2⟩))
        go_ret
        exact ⟨by rw [hrv.out, if_pos hF.out]; rfl, hBu.out.trans ((hfin.out _ (hu1.trans (hu2.mono hu1.size))).mono hBu.out.size)⟩
      | false =>
        rw [hp] at hbe
        have hF := Go.Lib.hid (show ∀ y ∈ es.take (j + 1), bad y = false from fun y hy => by
          rw [htk.out] at hy
          rcases List.mem_append.1 hy with h | h
          · exact hno.out y h
          · rw [List.mem_singleton.1 h]; exact hp)
        replace hp := Go.Lib.hid hp
        by_cases hc : 0 ≤ cmpI e.f2 e.f1
        · have hs : sf = true := by
            cases sf
            · rw [decide_eq_true hc, Bool.not_false, Bool.and_true] at hbe; cases hbe
            · rfl
          subst hs
          replace hbe := Go.Lib.hid hbe
          go_wp2_with (first
            | (go_at_call 24; refine (compare_walk e.f2 e.f1 _).mono ?_; rintro e5 u1 ⟨rfl, hu1⟩; replace hu1 := hu1.below; replace e3 := pw_cell_below hu1 e3; replace e4 := pw_cell_below hu1 e4)
            | (refine (HR1.out _ hu1).mono ?_; rintro e5 u2 ⟨rfl, hu2⟩))
          go_round
          case rel => exact ⟨j + 1, hlt, rfl, hfin.out _ (hu1.trans (hu2.mono hu1.size)), hF.out⟩
          case measure => simpa [intOf] using hme.out
        · replace hbe := Go.Lib.hid hbe
          go_wp2_with (first
            | (go_at_call 24; refine (compare_walk e.f2 e.f1 _).mono ?_; rintro e5 u1 ⟨rfl, hu1⟩; replace hu1 := hu1.below; replace e3 := pw_cell_below hu1 e3; replace e4 := pw_cell_below hu1 e4))
          go_round
          case rel => exact ⟨j + 1, hlt, rfl, hfin.out _ hu1, hF.out⟩
          case measure => simpa [intOf] using hme.out
    · obtain rfl : j = n := by omega
      have hF : es.any bad = false := List.any_eq_false.2 fun y hy => by
        have h1 := hno.out y (by rw [hN.out, List.take_length]; exact hy)
        rw [h1]
        exact Bool.false_ne_true
      replace hF := Go.Lib.hid hF
      go_wp2_with fail
      go_ret
      exact ⟨by rw [hrv.out, hF.out]; rfl, hBu.out.trans (hBr.mono hBu.out.size)⟩
end Go.Proofs.Ytdepmcofnlggaaa.PResolverCycles
end
section
namespace Go.Proofs
open Go.Shelf
def Try.growLk_ren : Go.Shelf.Ren := ⟨fun | 4 => 73 | n => n, fun | 22 => 39 | 25 => 91 | 3 => 3 | 0 => 0 | 4 => 4 | 9 => 9 | 20 => 20 | n => n, fun | n => n⟩
theorem Try.growLk : Go.Proofs.Lays8.n4 Try.prog Try.growLk_ren := {
  mixed := by kernel_rfl
  f4 := ⟨Try.f73.name, by decide, Try.func73.trans (congrArg some (by kernel_rfl))⟩
  t0 := Try.underlying0
  a0 := Try.isAgg0
  z0 := Try.sizeOf0
  v0 := Try.zeroValue0
  t3 := Try.underlying3
  a3 := Try.isAgg3
  z3 := Try.sizeOf3
  v3 := Try.zeroValue3
  t4 := Try.underlying4
  a4 := Try.isAgg4
  z4 := Try.sizeOf4
  v4 := Try.zeroValue4
  t9 := Try.underlying9
  a9 := Try.isAgg9
  z9 := Try.sizeOf9
  v9 := Try.zeroValue9
  t20 := Try.underlying20
  a20 := Try.isAgg20
  z20 := Try.sizeOf20
  v20 := Try.zeroValue20
  t22 := Try.underlying39
  a22 := Try.isAgg39
  z22 := Try.sizeOf39
  v22 := Try.zeroValue39 }
end Go.Proofs
end
section
set_option linter.unusedVariables false
set_option linter.unusedSimpArgs false
namespace Go.Proofs.Ytdepmcofnlggaaa.PResolverCycles
open Go.RowKit Go.Proofs.YtdepmcofnlggaaaW.PrintWords Go.Proofs.YtdepmcofnlggaaaW.PrintLast Go.Proofs.YtdepmcofnlggaaaW.PrintMore
open Classical

theorem grow_walk (w : World) (n : Nat) (hn : n ≤ 100000) : Calls Try.prog 73 #[.slice none 0 0, .int .i64 (n : Int)] w fun e w' => ∃ v, e = .returned v ∧ Kd.R k91 91 w' w.heap.size (fun _ => True) v [] ∧ Below w.heap.size w w' := by
  by_cases h0 : n = 0
  · subst h0
    refine (show Calls Try.prog 73 _ _ _ from Any8.slices_Grow_room Try.growLk none 0 0 0 w (by omega) (by omega) (by omega) (by omega)).mono ?_
    rintro e w' ⟨rfl, rfl⟩
    exact ⟨_, rfl, Kd.R_nil _ _ _ _ _, Below.refl _ _⟩
  · have hi := info91
    obtain ⟨i0, hi0, hz⟩ := Option.map_eq_some_iff.1 hi
    simp only [Prod.mk.injEq] at hz
    obtain ⟨hz0, hs0, hb0⟩ := hz
    refine (show Calls Try.prog 73 _ _ _ from Any8.slices_Grow_grow Try.growLk i0 _ hi0 hz0 (by omega) none 0 0 n [] w (by omega) (by omega) (by rw [hb0]; omega) (by omega) (by simp) (fun _ => rfl) (fun a ha => by cases ha)).mono ?_
    rintro e w' ⟨rfl, rfl⟩
    refine ⟨_, rfl, ⟨fun _ _ => trivial, [], ⟨by simp, .inr ⟨w.heap.size, grownCap w (0 + n) 0 91, _, rfl, Nat.le_refl _, heap_alloc_new w.drew _, Nat.zero_le _, grownCap_le_maxLen w _ _ _ (by rw [Nat.zero_add]; exact Nat.le_trans hn (by decide)), ?_, by simp⟩⟩, Reps.none _ _⟩, below_alloc (below_drew (Below.refl _ _)) _⟩
    have hge := grownCap_ge w (0 + n) 0 91
    have hsz : k91.sz = 4 := rfl
    rw [hsz, Array.size_append, Array.size_append, size_zeroCells, size_zeroCells]
    simp only [List.size_toArray, List.length_nil, Value.cells]
    show 0 + (0 + n - 0) * 4 + (grownCap w (0 + n) 0 91 - (0 + n)) * 4 = _
    omega
end Go.Proofs.Ytdepmcofnlggaaa.PResolverCycles
end
section
set_option linter.unusedVariables false
set_option linter.unusedSimpArgs false
attribute [local go_sem ↓] Go.wp_at_zero Go.wp_at_succ
namespace Go.Proofs.Ytdepmcofnlggaaa.PResolverCycles
open Go.RowKit Go.Proofs.YtdepmcofnlggaaaW.PrintWords Go.Proofs.YtdepmcofnlggaaaW.PrintLast Go.Proofs.YtdepmcofnlggaaaW.PrintMore
open Classical

set_option maxHeartbeats 2000000 in
set_option maxRecDepth 20000 in
theorem concat_walk (w : World) (g : Nat) (A1 A2 : Option Addr) (c1 c2 : Nat) (l1 l2 : List S91) (h0 : w.cell? ⟨g, 0, none⟩ = some (.slice A1 l1.length c1)) (h1 : w.cell? ⟨g, 1, none⟩ = some (.slice A2 l2.length c2))
    (g1 : Kd.C k91 w A1 l1.length l1) (g2 : Kd.C k91 w A2 l2.length l2) (hm1 : l1.length ≤ 1000) (hm2 : l2.length ≤ 1000) :
    Calls Try.prog 48 #[.slice (some ⟨g, 0, none⟩) 2 2] w fun e w' => ∃ v, e = .returned v ∧ Kd.R k91 91 w' w.heap.size (fun _ => True) v (l1 ++ l2) ∧ Below w.heap.size w w' := by
  have HG := grow_walk w (l1.length + l2.length) (by omega)
  have hC1 := Go.Lib.hid (fun (W : World) (hb : Below w.heap.size w W) => Kd.C_below g1 hb)
  have hC2 := Go.Lib.hid (fun (W : World) (hb : Below w.heap.size w W) => Kd.C_below g2 hb)
  clear g1 g2
  obtain ⟨n1, hn1⟩ : ∃ n, n = l1.length := ⟨_, rfl⟩
  obtain ⟨n2, hn2⟩ : ∃ n, n = l2.length := ⟨_, rfl⟩
  rw [← hn1] at HG h0 hm1
  rw [← hn2] at HG h1 hm2
  replace hn1 := Go.Lib.hid hn1
  replace hn2 := Go.Lib.hid hn2
  have q0 : ¬ ((n1 : Int) < 0) := by omega
  have q1 : ¬ (((n1 + n2 : Nat) : Int) < 0) := by omega
  have q2 : wrap64 (n1 : Int) = (n1 : Int) := by unfold wrap64; omega
  have q3 : wrap64 ((n1 : Int) + (n2 : Int)) = ((n1 + n2 : Nat) : Int) := by unfold wrap64; omega
  obtain ⟨N, hN⟩ : ∃ N, N = n1 + n2 := ⟨_, rfl⟩
  rw [← hN] at HG q1 q3
  replace hN := Go.Lib.hid hN
  go_enter Try.func48, Try.ntmps48
  go_wp2_with fail
  go_loopw [3, 11] (fun s i wr => w = wr ∧ ((i = .int .i64 0 ∧ s = .int .i64 0) ∨ (i = .int .i64 1 ∧ s = .int .i64 (n1 : Int)) ∨ (i = .int .i64 2 ∧ s = .int .i64 (N : Int)))) (fun _ i _ => 2 - (intOf i).toNat)
  case atStart => exact ⟨rfl, .inl ⟨rfl, rfl⟩⟩
  case round =>
    obtain ⟨rfl, ⟨rfl, rfl⟩ | ⟨rfl, rfl⟩ | ⟨rfl, rfl⟩⟩ := hrel
    · go_wp2_with fail
      go_round
      case rel => exact ⟨trivial, .inr (.inl ⟨rfl, rfl⟩)⟩
      case measure => simp [intOf]
    · go_wp2_with fail
      go_round
      case rel => exact ⟨trivial, .inr (.inr ⟨rfl, by have := hN.out; congr 1; omega⟩)⟩
      case measure => simp [intOf]
    · clear q0 q1 q2 q3
      go_wp2_with (go_at_call 73; refine HG.mono ?_; rintro e u ⟨v, rfl, hv, hu⟩)
      clear HG
      replace hv := Go.Lib.hid hv
      go_loopw [6, 27] (fun s i wq => Below w.heap.size w wq ∧ ((i = .int .i64 0 ∧ Kd.R k91 91 wq w.heap.size (fun _ => True) s []) ∨ (i = .int .i64 1 ∧ Kd.R k91 91 wq w.heap.size (fun _ => True) s l1) ∨ (i = .int .i64 2 ∧ Kd.R k91 91 wq w.heap.size (fun _ => True) s (l1 ++ l2)))) (fun _ i _ => 2 - (intOf i).toNat)
      case atStart => exact ⟨hu, .inl ⟨rfl, hv.out⟩⟩
      case round =>
        clear hv hu
        obtain ⟨hB, ⟨rfl, hO⟩ | ⟨rfl, hO⟩ | ⟨rfl, hO⟩⟩ := hrel
        · have a1 := pw_cell_below hB h0
          have hX : ReadsRow (k91.K wr) 4 wr A1 n1 l1 := by rw [hn1.out]; exact hC1.out _ hB
          have hlen := Go.Lib.hid (show ([] : List S91).length ≤ 1000 from by simp)
          replace hX := Go.Lib.hid hX
          go_wp2_with (at_builtin; refine Kd.R_append_rows k91 w.heap.size rfl (.tmp 31) (.tmp 32) 39 91 _ 40 rfl Try.underlying39 info91 rfl (by decide) (by omega) _ ([] : List S91) l1 A1 n1 c1 (fun _ => True) (fun _ => False) rfl rfl hO hX.out (fun x cs hx => by have := k91_open hx; subst this; exact k91_mkM _ _ _ x) (fun _ h => h.elim) (fun _ _ => trivial) hB hB.size (by have := hlen.out; simp; omega) ?_; intro v1 w1 hO1 hB1 hg1 hat1; clear hat1 hg1; replace hO1 := Go.Lib.hid hO1; replace hB1 := Go.Lib.hid hB1)
          go_round
          case rel => exact ⟨hB1.out, .inr (.inl ⟨rfl, hO1.out⟩)⟩
          case measure => simp [intOf]
        · have a2 := pw_cell_below hB h1
          have hX : ReadsRow (k91.K wr) 4 wr A2 n2 l2 := by rw [hn2.out]; exact hC2.out _ hB
          have hlen := Go.Lib.hid (show l1.length ≤ 1000 from by rw [← hn1.out]; exact hm1)
          replace hX := Go.Lib.hid hX
          go_wp2_with (at_builtin; refine Kd.R_append_rows k91 w.heap.size rfl (.tmp 31) (.tmp 32) 39 91 _ 40 rfl Try.underlying39 info91 rfl (by decide) (by omega) _ l1 l2 A2 n2 c2 (fun _ => True) (fun _ => False) rfl rfl hO hX.out (fun x cs hx => by have := k91_open hx; subst this; exact k91_mkM _ _ _ x) (fun _ h => h.elim) (fun _ _ => trivial) hB hB.size (by have := hlen.out; simp; omega) ?_; intro v1 w1 hO1 hB1 hg1 hat1; clear hat1 hg1; replace hO1 := Go.Lib.hid hO1; replace hB1 := Go.Lib.hid hB1)
          go_round
          case rel => exact ⟨hB1.out, .inr (.inr ⟨rfl, hO1.out⟩)⟩
          case measure => simp [intOf]
        · have hb := Go.Lib.hid hB
          replace hO := Go.Lib.hid hO
          go_wp2_with fail
          go_ret
          exact ⟨_, rfl, hO.out, hb.out⟩
end Go.Proofs.Ytdepmcofnlggaaa.PResolverCycles
end
section
set_option linter.unusedVariables false
set_option linter.unusedSimpArgs false
namespace Go.Proofs.Ytdepmcofnlggaaa.PResolverCycles
open Go.RowKit Go.Proofs.YtdepmcofnlggaaaW.PrintWords Go.Proofs.YtdepmcofnlggaaaW.PrintLast Go.Proofs.YtdepmcofnlggaaaW.PrintMore
open Classical

section
variable {α : Type} {enc : α → List Value} {k : Nat} {e : TypeId}
/-- the cells of a list -/
def fl (enc : α → List Value) (l : List α) : List Value := l.flatMap enc
theorem fl_append (a b : List α) : fl enc (a ++ b) = fl enc a ++ fl enc b := by simp [fl]
theorem fl_len (hk : ∀ x, (enc x).length = k) : ∀ l : List α, (fl enc l).length = l.length * k
  | [] => by simp [fl]
  | a :: l => by
    have := fl_len hk l
    simp only [fl, List.flatMap_cons, List.length_append, List.length_cons] at this ⊢
    rw [this, hk, Nat.add_mul, Nat.one_mul]
    omega
theorem fl_at (hk : ∀ x, (enc x).length = k) : ∀ (l : List α) (i : Nat) (h : i < l.length) (t : Nat), t < k → (fl enc l)[i * k + t]? = (enc l[i])[t]?
  | a :: l, 0, h, t, ht => by
    have ea : fl enc (a :: l) = enc a ++ fl enc l := rfl
    rw [ea, Nat.zero_mul, Nat.zero_add, List.getElem?_append_left (by rw [hk]; exact ht)]
    rfl
  | a :: l, i + 1, h, t, ht => by
    have ea : fl enc (a :: l) = enc a ++ fl enc l := rfl
    have ih := fl_at hk l i (by simpa using h) t ht
    rw [ea, List.getElem?_append_right (by rw [hk, Nat.add_mul]; omega), hk, show (i + 1) * k + t - k = i * k + t by rw [Nat.add_mul]; omega, ih]
    rfl
theorem fl_take (hk : ∀ x, (enc x).length = k) (l : List α) (i : Nat) (hi : i ≤ l.length) (r : List Value) : (fl enc l ++ r).take (i * k) = fl enc (l.take i) := by
  have h := fl_append (enc := enc) (l.take i) (l.drop i)
  rw [List.take_append_drop] at h
  have hl := fl_len hk (l.take i)
  rw [List.length_take, Nat.min_eq_left hi] at hl
  rw [h, List.append_assoc, ← hl, List.take_left']
  rfl
theorem fl_drop (hk : ∀ x, (enc x).length = k) (l : List α) (i : Nat) (hi : i ≤ l.length) (r : List Value) : (fl enc l ++ r).drop (i * k) = fl enc (l.drop i) ++ r := by
  have h := fl_append (enc := enc) (l.take i) (l.drop i)
  rw [List.take_append_drop] at h
  have hl := fl_len hk (l.take i)
  rw [List.length_take, Nat.min_eq_left hi] at hl
  rw [h, List.append_assoc, ← hl, List.drop_left']
  rfl
/-- a row of the call's own -/
abbrev Row (enc : α → List Value) (k : Nat) (e : TypeId) (w : World) (base g c : Nat) (l : List α) : Prop := w.ownsRow base e k (.slice (some ⟨g, 0, none⟩) l.length c) l.length (fl enc l)
theorem row_form {w : World} {base g c : Nat} {l : List α} (h : Row enc k e w base g c l) : ∃ cur rest, w.heap[g]? = some (.cells cur e (0, 0)) ∧ base ≤ g ∧ l.length ≤ c ∧ c ≤ maxLen ∧ cur.size = c * k ∧ cur.toList = fl enc l ++ rest := by
  rcases h.2 with ⟨h0, _⟩ | ⟨g', c', cur, ee, h1, h2, h3, h4, h5, h6⟩
  · cases h0
  · cases ee
    exact ⟨cur, cur.toList.drop (l.length * k), h2, h1, h3, h4, h5, by rw [← h6, List.take_append_drop]⟩
theorem row_mk (hk : ∀ x, (enc x).length = k) {w : World} {base g c : Nat} {l : List α} {cur : Array Value} {rest : List Value} (h : w.heap[g]? = some (.cells cur e (0, 0))) (hb : base ≤ g) (hc : l.length ≤ c) (hm : c ≤ maxLen) (hz : cur.size = c * k) (hcur : cur.toList = fl enc l ++ rest) : Row enc k e w base g c l :=
  ⟨fl_len hk l, .inr ⟨g, c, cur, rfl, hb, h, hc, hm, hz, by rw [hcur, fl_take hk l l.length (Nat.le_refl _), List.take_length]⟩⟩
theorem row_cell (hk : ∀ x, (enc x).length = k) {w : World} {base g c : Nat} {l : List α} (h : Row enc k e w base g c l) (i : Nat) (hi : i < l.length) (t : Nat) (v : Value) (hv : (enc l[i])[t]? = some v) : w.cell? ⟨g, i * k + t, none⟩ = some v := by
  have ht : t < k := by rw [← hk l[i]]; exact (List.getElem?_eq_some_iff.1 hv).1
  have hc := h.cells (g := g) rfl
  have c0 := hc _ _ ((fl_at hk l i hi t ht).trans hv)
  rw [add_plain] at c0
  exact c0
theorem row_frozen {w : World} {base g c : Nat} {l : List α} (h : Row enc k e w base g c l) (i : Nat) : w.frozen? ⟨g, i, none⟩ = false := by
  obtain ⟨cur, rest, hg, _⟩ := row_form h
  exact blk_frozen hg i
theorem row_lt {w : World} {base g c : Nat} {l : List α} (h : Row enc k e w base g c l) : g < w.heap.size := by
  obtain ⟨cur, rest, hg, _⟩ := row_form h
  exact (Array.getElem?_eq_some_iff.1 hg).1
theorem row_block {w w' : World} {base g c : Nat} {l : List α} (h : Row enc k e w base g c l) (hb : w'.heap[g]? = w.heap[g]?) (hk : ∀ x, (enc x).length = k) : Row enc k e w' base g c l := by
  obtain ⟨cur, rest, hg, h1, h2, h3, h4, h5⟩ := row_form h
  exact row_mk hk (hb.trans hg) h1 h2 h3 h4 h5
/-- cells laid one behind another -/
def setCells (w : World) (g : Nat) : Nat → List Value → World
  | _, [] => w
  | o, v :: vs => setCells (w.setCell ⟨g, o, none⟩ v) g (o + 1) vs
theorem setCells_heap (g : Nat) : ∀ (vs : List Value) (w : World) (o : Nat) (cur : Array Value), w.heap[g]? = some (.cells cur e (0, 0)) → o + vs.length ≤ cur.size →
    ∃ cur', (setCells w g o vs).heap[g]? = some (.cells cur' e (0, 0)) ∧ cur'.toList = cur.toList.take o ++ vs ++ cur.toList.drop (o + vs.length)
  | [], w, o, cur, hg, hz => ⟨cur, hg, by simp⟩
  | v :: vs, w, o, cur, hg, hz => by
    rw [List.length_cons] at hz
    have hh : (w.setCell ⟨g, o, none⟩ v).heap[g]? = some (.cells (cur.setIfInBounds o v) e (0, 0)) := by
      rw [Go.Sort.setCell_eq]
      show (w.heap.modify g _)[g]? = _
      rw [Array.getElem?_modify, if_pos rfl, hg]
      rfl
    obtain ⟨cur', h1, h2⟩ := setCells_heap g vs _ (o + 1) _ hh (by rw [Array.size_setIfInBounds]; omega)
    refine ⟨cur', h1, ?_⟩
    have hol : o < cur.toList.length := by rw [Array.length_toList]; omega
    rw [h2, Array.toList_setIfInBounds, List.take_set, List.length_cons, List.drop_set_of_lt (by omega), List.take_add_one, List.getElem?_eq_getElem hol]
    rw [List.set_append_right _ _ (by rw [List.length_take]; omega), show o + 1 + vs.length = o + (vs.length + 1) by omega]
    have h0 : o - (cur.toList.take o).length = 0 := by rw [List.length_take]; omega
    rw [h0]
    simp
theorem setCells_grown (g : Nat) : ∀ (vs : List Value) (w : World) (o : Nat), w.grownBy (setCells w g o vs) (some g)
  | [], w, o => grown_refl _ _
  | v :: vs, w, o => grown_trans (only_set v) (setCells_grown g vs _ _)
theorem row_set (hk : ∀ x, (enc x).length = k) {w : World} {base g c : Nat} {l : List α} (h : Row enc k e w base g c l) (i : Nat) (hi : i < l.length) (x : α) : Row enc k e (setCells w g (i * k) (enc x)) base g c (l.set i x) := by
  obtain ⟨cur, rest, hg, hb, hc, hm, hz, hcur⟩ := row_form h
  have hic : i * k + k ≤ c * k := by
    have := Nat.mul_le_mul_right k (show i + 1 ≤ c by omega)
    rw [Nat.add_mul, Nat.one_mul] at this
    exact this
  obtain ⟨cur', h1, h2⟩ := setCells_heap g (enc x) w (i * k) cur hg (by rw [hk, hz]; exact hic)
  have hl : (l.set i x).length = l.length := by simp
  have hs : l.set i x = l.take i ++ x :: l.drop (i + 1) := by rw [List.set_eq_take_append_cons_drop, if_pos hi]
  have e2 : cur'.toList = fl enc (l.set i x) ++ rest := by
    rw [h2, hcur, hk, show i * k + k = (i + 1) * k by rw [Nat.add_mul, Nat.one_mul], fl_take hk l i (by omega), fl_drop hk l (i + 1) (by omega), hs, fl_append]
    simp [fl]
  refine row_mk hk h1 hb (by rw [hl]; exact hc) hm ?_ e2
  have h3 := congrArg List.length e2
  have h4 := congrArg List.length hcur
  rw [Array.length_toList, List.length_append, fl_len hk] at h3 h4
  rw [hl] at h3
  rw [← hz, h3, h4]
theorem row_pre (hk : ∀ x, (enc x).length = k) {w : World} {base g c : Nat} {l m : List α} (h : Row enc k e w base g c (l ++ m)) : Row enc k e w base g c l := by
  obtain ⟨cur, rest, hg, hb, hc, hm, hz, hcur⟩ := row_form h
  exact row_mk (rest := fl enc m ++ rest) hk hg hb (by rw [List.length_append] at hc; omega) hm hz (by rw [hcur, fl_append, List.append_assoc])
/-- the tail of the row laid to nought -/
theorem row_clear (hk : ∀ x, (enc x).length = k) {w : World} {base g c : Nat} {l : List α} (h : Row enc k e w base g c l) (i : Nat) (hi : i < l.length) (cc : Nat) (ts ty : TypeId) (z : Value)
    (hu : Try.prog.underlying ts = some (.slice e)) (hzv : ∀ w, (zeroValue e).run Try.prog w = .ok z w) (hzk : z.cells.size = k) (hz1 : ∀ v ∈ z.cells.toList, v.oneCell' = true) (hk0 : 0 < k) :
    ∃ w', (Builtin.clear_ #[ts] ty #[.slice (some ⟨g, i * k, none⟩) (l.length - i) cc]).run Try.prog w = .ok (.tuple #[]) w' ∧ w.grownBy w' (some g) ∧ Row enc k e w' base g c (l.take i) := by
  obtain ⟨cur, rest, hg, hb, hc, hm, hz, hcur⟩ := row_form h
  have hZ : (Builtin.zeroCells z.cells (l.length - i)).toList.length = (l.length - i) * k := by rw [Array.length_toList, size_zeroCells, hzk]
  have hik : i * k + (l.length - i) * k ≤ c * k := by
    rw [← Nat.add_mul]
    exact Nat.mul_le_mul_right k (by omega)
  have hst := run_storeCells_at (P := Try.prog) g (i * k) e (Builtin.zeroCells z.cells (l.length - i)).toList 0 cur w hg
    (by rw [hZ, hz, Nat.add_zero]; exact hik)
    (by
      intro v hv
      simp only [Builtin.zeroCells, Array.toList_map, List.mem_map] at hv
      obtain ⟨q, _, rfl⟩ := hv
      have hq : q % z.cells.size < z.cells.size := Nat.mod_lt _ (by omega)
      rw [getElem!_pos z.cells (q % z.cells.size) hq]
      exact hz1 _ (by rw [← Array.getElem_toList]; exact List.getElem_mem _))
  have hrun : (Builtin.clear_ #[ts] ty #[.slice (some ⟨g, i * k, none⟩) (l.length - i) cc]).run Try.prog w = .ok (.tuple #[]) (w.setRow g (cur.toList.take (i * k + 0) ++ (Builtin.zeroCells z.cells (l.length - i)).toList ++ cur.toList.drop (i * k + 0 + (Builtin.zeroCells z.cells (l.length - i)).toList.length)).toArray) := by
    obtain ⟨d, hd⟩ : ∃ d, l.length - i = d + 1 := ⟨l.length - i - 1, by omega⟩
    rw [hd] at hst ⊢
    simp only [Builtin.clear_]
    simp [run_underlying hu, hzv, hst]
  generalize (Builtin.zeroCells z.cells (l.length - i)).toList = Z at *
  clear hst
  refine ⟨_, hrun, ⟨rfl, rfl, rfl, by simp, fun k' _ hk' => setRow_other w g k' _ (fun e => hk' (by rw [e]))⟩, ?_⟩
  have e1 : (cur.toList.take (i * k + 0) ++ Z ++ cur.toList.drop (i * k + 0 + Z.length)).toArray.toList = fl enc (l.take i) ++ (Z ++ cur.toList.drop (i * k + 0 + Z.length)) := by
    have ht : cur.toList.take (i * k) = fl enc (l.take i) := by rw [hcur, fl_take hk l i (by omega)]
    rw [List.toList_toArray, Nat.add_zero, List.append_assoc, ht]
  refine row_mk hk (setRow_heap w g cur _ _ _ hg) hb (by rw [List.length_take]; omega) hm ?_ e1
  rw [List.size_toArray, List.length_append, List.length_append, List.length_take, List.length_drop, Array.length_toList, hZ, hz, Nat.add_zero, Nat.min_eq_left (by omega)]
  omega
end
end Go.Proofs.Ytdepmcofnlggaaa.PResolverCycles
end
section
set_option linter.unusedVariables false
set_option linter.unusedSimpArgs false
namespace Go.Proofs.Ytdepmcofnlggaaa.PResolverCycles
open Go.RowKit Go.Proofs.YtdepmcofnlggaaaW.PrintWords Go.Proofs.YtdepmcofnlggaaaW.PrintLast Go.Proofs.YtdepmcofnlggaaaW.PrintMore
open Classical

section
variable {α : Type} {enc : α → List Value} {k : Nat} {e : TypeId} {p : α → Bool}
/-- those who stay -/
def keepL (p : α → Bool) (l : List α) : List α := l.filter fun x => !p x
def heapD (p : α → Bool) (l : List α) (j : Nat) : List α := keepL p (l.take j) ++ l.drop (keepL p (l.take j)).length
theorem keepL_len (l : List α) : (keepL p l).length ≤ l.length := List.length_filter_le _ _
theorem take_one' (l : List α) (j : Nat) (h : j < l.length) : l.take (j + 1) = l.take j ++ [l[j]] := by
  rw [List.take_add_one, List.getElem?_eq_getElem h]; rfl
theorem keepL_skip (l : List α) (j : Nat) (h : j < l.length) (hp : p l[j] = true) : keepL p (l.take (j + 1)) = keepL p (l.take j) := by
  rw [take_one' l j h]
  unfold keepL
  rw [List.filter_append]
  simp [hp]
theorem keepL_keep (l : List α) (j : Nat) (h : j < l.length) (hp : p l[j] = false) : keepL p (l.take (j + 1)) = keepL p (l.take j) ++ [l[j]] := by
  rw [take_one' l j h]
  unfold keepL
  rw [List.filter_append]
  simp [hp]
theorem heapD_len (l : List α) (j : Nat) : (heapD p l j).length = l.length := by
  have h1 := keepL_len (p := p) (l.take j)
  rw [List.length_take] at h1
  unfold heapD
  rw [List.length_append, List.length_drop]
  omega
theorem heapD_old (l : List α) (j t : Nat) (hlt : (keepL p (l.take j)).length ≤ t) (ht : t < l.length) : (heapD p l j)[t]? = l[t]? := by
  unfold heapD
  rw [List.getElem?_append_right hlt, List.getElem?_drop]
  congr 1
  omega
theorem heapD_skip (l : List α) (j : Nat) (h : j < l.length) (hp : p l[j] = true) : heapD p l (j + 1) = heapD p l j := by
  unfold heapD; rw [keepL_skip l j h hp]
theorem heapD_keep (l : List α) (j : Nat) (h : j < l.length) (hp : p l[j] = false) : heapD p l (j + 1) = (heapD p l j).set (keepL p (l.take j)).length l[j] := by
  have h1 := keepL_len (p := p) (l.take j)
  rw [List.length_take] at h1
  unfold heapD
  rw [keepL_keep l j h hp]
  generalize keepL p (l.take j) = C at *
  have hCl : C.length < l.length := by omega
  rw [List.set_append_right _ _ (Nat.le_refl _), Nat.sub_self, List.length_append]
  rw [List.drop_eq_getElem_cons hCl, List.set_cons_zero]
  simp
structure Dst (enc : α → List Value) (k : Nat) (e : TypeId) (p : α → Bool) (w wr : World) (base g c : Nat) (l : List α) (iv j : Nat) : Prop where
  len : (keepL p (l.take j)).length = iv
  lt : iv < j
  le : j ≤ l.length
  row : Row enc k e wr base g c (heapD p l j)
  grown : w.grownBy wr (some g)
variable {w wr u : World} {base g c iv j : Nat} {l : List α}
theorem Dst.cell (hk : ∀ x, (enc x).length = k) (h : Dst enc k e p w wr base g c l iv j) (hj : j < l.length) (t : Nat) (v : Value) (hv : (enc l[j])[t]? = some v) : wr.cell? ⟨g, j * k + t, none⟩ = some v := by
  have ho := heapD_old (p := p) l j j (by rw [h.len]; exact Nat.le_of_lt h.lt) hj
  rw [List.getElem?_eq_getElem hj] at ho
  obtain ⟨hj', e1⟩ := List.getElem?_eq_some_iff.1 ho
  exact row_cell hk h.row j hj' t v (by rw [e1]; exact hv)
theorem Dst.room (hk : ∀ x, (enc x).length = k) (h : Dst enc k e p w wr base g c l iv j) : ∃ z : α, ∀ (t : Nat) (v : Value), (enc z)[t]? = some v → wr.cell? ⟨g, iv * k + t, none⟩ = some v := by
  have hl := heapD_len (p := p) l j
  have h1 := h.lt
  have h2 := h.le
  exact ⟨(heapD p l j)[iv]'(by omega), fun t v hv => row_cell hk h.row iv (by omega) t v hv⟩
theorem Dst.later (hk : ∀ x, (enc x).length = k) (h : Dst enc k e p w wr base g c l iv j) (hb : Below wr.heap.size wr u) : Dst enc k e p w u base g c l iv j :=
  ⟨h.len, h.lt, h.le, row_block h.row (hb.block g (row_lt h.row)) hk, grown_trans h.grown (grown_of_below hb _)⟩
theorem Dst.skip (h : Dst enc k e p w wr base g c l iv j) (hj : j < l.length) (hp : p l[j] = true) : Dst enc k e p w wr base g c l iv (j + 1) :=
  ⟨by rw [keepL_skip l j hj hp]; exact h.len, Nat.lt_succ_of_lt h.lt, hj, by rw [heapD_skip l j hj hp]; exact h.row, h.grown⟩
theorem Dst.keep (hk : ∀ x, (enc x).length = k) (h : Dst enc k e p w wr base g c l iv j) (hj : j < l.length) (hp : p l[j] = false) : Dst enc k e p w (setCells wr g (iv * k) (enc l[j])) base g c l (iv + 1) (j + 1) := by
  have hl := heapD_len (p := p) l j
  have h1 := h.lt
  refine ⟨by rw [keepL_keep l j hj hp, List.length_append, h.len]; rfl, Nat.succ_lt_succ h.lt, hj, ?_, grown_trans h.grown (setCells_grown _ _ _ _)⟩
  rw [heapD_keep l j hj hp, h.len]
  exact row_set hk h.row iv (by omega) _
theorem Dst.start {i : Nat} {x : α} (hx : l[i]? = some x) (hp : p x = true) (hno : ∀ y ∈ l.take i, p y = false) (hr : Row enc k e wr base g c l) (hg : w.grownBy wr (some g)) : Dst enc k e p w wr base g c l i (i + 1) := by
  obtain ⟨hi, rfl⟩ := List.getElem?_eq_some_iff.1 hx
  have h0 : keepL p (l.take i) = l.take i := List.filter_eq_self.2 fun y hy => by rw [hno y hy]; rfl
  have h1 : keepL p (l.take (i + 1)) = l.take i := (keepL_skip l i hi hp).trans h0
  have h2 : (l.take i).length = i := by rw [List.length_take]; omega
  refine ⟨by rw [h1, h2], Nat.lt_succ_self i, hi, ?_, hg⟩
  unfold heapD
  rw [h1, h2, List.take_append_drop]
  exact hr
theorem Dst.fin (hk : ∀ x, (enc x).length = k) (h : Dst enc k e p w wr base g c l iv j) (hn : j = l.length) (cc : Nat) (ts ty : TypeId) (z : Value)
    (hu : Try.prog.underlying ts = some (.slice e)) (hzv : ∀ w, (zeroValue e).run Try.prog w = .ok z w) (hzk : z.cells.size = k) (hz1 : ∀ v ∈ z.cells.toList, v.oneCell' = true) (hk0 : 0 < k) :
    ∃ w', (Builtin.clear_ #[ts] ty #[.slice (some ⟨g, iv * k, none⟩) (l.length - iv) cc]).run Try.prog wr = .ok (.tuple #[]) w' ∧ (keepL p l).length = iv ∧ Row enc k e w' base g c (keepL p l) ∧ w.grownBy w' (some g) := by
  subst hn
  have hl := heapD_len (p := p) l l.length
  have h1 := h.lt
  have h2 := h.len
  rw [List.take_length] at h2
  obtain ⟨w', e1, hg, hr⟩ := row_clear hk h.row iv (by omega) cc ts ty z hu hzv hzk hz1 hk0
  rw [hl] at e1
  refine ⟨w', e1, h2, ?_, grown_trans h.grown hg⟩
  have e2 : (heapD p l l.length).take iv = keepL p l := by
    unfold heapD
    rw [List.take_length, List.take_append_of_le_length (by omega)]
    exact List.take_of_length_le (by omega)
  rw [e2] at hr
  exact hr
theorem keepL_all (h : ∀ y ∈ l, p y = false) : keepL p l = l := List.filter_eq_self.2 fun y hy => by rw [h y hy]; rfl
end
end Go.Proofs.Ytdepmcofnlggaaa.PResolverCycles
end
section
set_option linter.unusedVariables false
set_option linter.unusedSimpArgs false
attribute [local go_sem ↓] Go.wp_at_zero Go.wp_at_succ
namespace Go.Proofs.Ytdepmcofnlggaaa.PResolverCycles
open Go.RowKit Go.Shelf Go.Proofs.YtdepmcofnlggaaaW.PrintWords Go.Proofs.YtdepmcofnlggaaaW.PrintLast Go.Proofs.YtdepmcofnlggaaaW.PrintMore
open Classical

theorem encId_len' (x : S24) : (encId x).length = 2 := rfl
set_option maxHeartbeats 1000000 in
set_option maxRecDepth 20000 in
theorem indexId (w : World) (base g c : Nat) (l : List S24) (gf : Nat) (lb : Array Value) (eg : ∀ args w, (callFunc gf args).run Try.prog w = .ok (.enter gf args) w) (p : S24 → Bool) (hR : IdRow w base g c l) (hm : l.length ≤ 1000000)
    (hcall : ∀ x ∈ l, ∀ u, Below w.heap.size w u → Calls Try.prog gf (#[.agg #[.int .i64 x.f0, .int .i64 x.f1]] ++ lb) u fun e u' => e = .returned (.bool (p x)) ∧ Below u.heap.size u u') :
    Calls Try.prog 65 #[.slice (some ⟨g, 0, none⟩) l.length c, .func (.func gf) #[] lb] w fun e w' => ∃ r, e = .returned (.int .i64 r) ∧ FirstIn p l r ∧ Below w.heap.size w w' := by
  obtain ⟨n, hN⟩ : ∃ n, n = l.length := ⟨_, rfl⟩
  have hcap : l.length ≤ c := by obtain ⟨_, _, _, _, q, _⟩ := row_form hR; exact q
  rw [← hN] at hm hcap ⊢
  have hcells : ∀ wr, Below w.heap.size w wr → ∀ j (hj : j < l.length) t v, (encId l[j])[t]? = some v → wr.cell? ⟨g, j * 2 + t, none⟩ = some v := fun wr hb j hj t v hv => pw_cell_below hb (row_cell encId_len' hR j hj t v hv)
  clear hR
  replace hN := Go.Lib.hid hN
  replace hcall := Go.Lib.hid hcall
  replace hcells := Go.Lib.hid hcells
  go_enter Try.func65, Try.ntmps65
  go_wp2_with fail
  go_loopw [8] (fun i wr => ∃ j : Nat, j ≤ n ∧ i = .int .i64 (j : Int) ∧ Below w.heap.size w wr ∧ ∀ y ∈ l.take j, p y = false) (fun i _ => n - (intOf i).toNat)
  case atStart => exact ⟨0, by omega, rfl, Below.refl _ _, by simp⟩
  case round =>
    obtain ⟨j, hj, rfl, hB, hno⟩ := hrel
    replace hno := Go.Lib.hid hno
    by_cases hlt : j < n
    · have hltz : (j : Int) < (n : Int) := by omega
      have hjl : j < l.length := by rw [← hN.out]; exact hlt

      have a0 : wr.cell? ⟨g, j * 2, none⟩ = some (.int .i64 l[j].f0) := hcells.out wr hB j hjl 0 _ rfl
      have a1 : wr.cell? ⟨g, j * 2 + 1, none⟩ = some (.int .i64 l[j].f1) := hcells.out wr hB j hjl 1 _ rfl
      have hgx := Go.Lib.hid (List.getElem?_eq_getElem hjl)
      have H := hcall.out l[j] (List.getElem_mem hjl) wr hB
      have htk := take_one' l j hjl
      replace htk := Go.Lib.hid htk
      generalize l[j] = x at *
      cases hp : p x with
      | true =>
        rw [hp] at H
        have hF := Go.Lib.hid (show FirstIn p l (j : Int) from .inl ⟨j, x, hgx.out, rfl, hp, hno.out⟩)
        replace hp := Go.Lib.hid hp
        go_wp2_with (go_at_fn gf; refine H.mono ?_; rintro e u ⟨rfl, hu⟩)
        go_ret
        exact ⟨(j : Int), rfl, hF.out, hB.trans (hu.mono hB.size)⟩
      | false =>
        rw [hp] at H
        have hF := Go.Lib.hid (show ∀ y ∈ l.take (j + 1), p y = false from fun y hy => by
          rw [htk.out] at hy
          rcases List.mem_append.1 hy with h | h
          · exact hno.out y h
          · rw [List.mem_singleton.1 h]; exact hp)
        replace hp := Go.Lib.hid hp
        have hw64 : wrap64 ((j : Int) + 1) = ((j + 1 : Nat) : Int) := by unfold wrap64; omega
        have hme : n - (j + 1) < n - j := by clear hw64; omega
        replace hme := Go.Lib.hid hme
        go_wp2_with (go_at_fn gf; refine H.mono ?_; rintro e u ⟨rfl, hu⟩)
        go_round
        case rel => exact ⟨j + 1, hlt, rfl, hB.trans (hu.mono hB.size), hF.out⟩
        case measure => simpa [intOf] using hme.out
    · obtain rfl : j = n := by omega
      have hF : FirstIn p l (-1) := .inr ⟨rfl, by have := hno.out; rwa [hN.out, List.take_length] at this⟩
      replace hF := Go.Lib.hid hF
      go_wp2_with fail
      go_ret
      exact ⟨-1, rfl, hF.out, hB⟩
set_option maxHeartbeats 1000000 in
set_option maxRecDepth 20000 in
theorem indexId_none (w : World) (gf : Nat) (lb : Array Value) : Calls Try.prog 65 #[.slice none 0 0, .func (.func gf) #[] lb] w fun e w' => e = .returned (.int .i64 (-1)) ∧ w' = w := by
  go_enter Try.func65, Try.ntmps65
  go_wp2_with fail
  go_loopw [8] (fun i wr => i = .int .i64 0 ∧ wr = w) (fun i _ => 0)
  case atStart => exact ⟨rfl, rfl⟩
  case round =>
    obtain ⟨rfl, rfl⟩ := hrel
    go_wp2_with fail
    go_ret
    exact ⟨rfl, rfl⟩
set_option maxHeartbeats 1000000 in
set_option maxRecDepth 20000 in
theorem delId_none (w : World) (gf : Nat) (lb : Array Value) : Calls Try.prog 52 #[.slice none 0 0, .func (.func gf) #[] lb] w fun e w' => e = .returned (.slice none 0 0) ∧ w' = w := by
  go_enter Try.func52, Try.ntmps52
  go_wp2_with (go_at_call 65; refine (indexId_none _ _ _).mono ?_; rintro e u ⟨rfl, rfl⟩)
  go_ret
  exact ⟨rfl, rfl⟩

set_option maxHeartbeats 4000000 in
set_option maxRecDepth 20000 in
theorem delId (w : World) (base g c : Nat) (l : List S24) (gf : Nat) (lb : Array Value) (eg : ∀ args w, (callFunc gf args).run Try.prog w = .ok (.enter gf args) w) (p : S24 → Bool) (hR : IdRow w base g c l) (hm : l.length ≤ 1000000)
    (hcall : ∀ x ∈ l, ∀ u, w.grownBy u (some g) → Calls Try.prog gf (#[.agg #[.int .i64 x.f0, .int .i64 x.f1]] ++ lb) u fun e u' => e = .returned (.bool (p x)) ∧ Below u.heap.size u u') :
    Calls Try.prog 52 #[.slice (some ⟨g, 0, none⟩) l.length c, .func (.func gf) #[] lb] w fun e w' => e = .returned (.slice (some ⟨g, 0, none⟩) (keepL p l).length c) ∧ IdRow w' base g c (keepL p l) ∧ w.grownBy w' (some g) := by
  have HI := indexId w base g c l gf lb eg p hR hm (fun x hx u hu => hcall x hx u (grown_of_below hu _))
  obtain ⟨n, hN⟩ : ∃ n, n = l.length := ⟨_, rfl⟩
  have hcap : l.length ≤ c := by obtain ⟨_, _, _, _, q, _⟩ := row_form hR; exact q
  rw [← hN] at hm hcap HI ⊢
  obtain ⟨kn, hkn⟩ : ∃ x, x = (keepL p l).length := ⟨_, rfl⟩
  rw [← hkn]
  replace hkn := Go.Lib.hid hkn
  replace hN := Go.Lib.hid hN
  replace hcall := Go.Lib.hid hcall
  replace hR := Go.Lib.hid hR
  go_enter Try.func52, Try.ntmps52
  go_upto_region 2 with (go_at_call 65; refine HI.mono ?_; rintro e u ⟨r, rfl, hF, hu⟩)
  clear HI
  rcases hF with ⟨i, x, hx, rfl, hpx, hno⟩ | ⟨rfl, hno⟩
  · have hRu : IdRow u base g c l := row_block hR.out (hu.block g (row_lt hR.out)) encId_len'
    have hst := Dst.start (w := w) hx hpx hno hRu (grown_of_below hu (some g))
    have hi : i < n := by rw [hN.out]; exact (List.getElem?_eq_some_iff.1 hx).1
    have hw0 : wrap64 ((i : Int) + 1) = ((i + 1 : Nat) : Int) := by unfold wrap64; omega
    clear hx hpx hno hRu hR
    have hne : ((i : Int) == -1) = false := by rw [beq_eq_false_iff_ne]; omega
    replace hst := Go.Lib.hid hst
    go_upto_region 5 with fail
    replace hw0 := Go.Lib.hid hw0
    go_loopw [5, 6] (fun a b wr => ∃ iv j : Nat, j ≤ n ∧ iv < n ∧ a = .int .i64 (iv : Int) ∧ b = .int .i64 (j : Int) ∧ Dst encId 2 24 p w wr base g c l iv j) (fun _ b _ => n - (intOf b).toNat)
    case atStart => exact ⟨i, i + 1, hi, hi, rfl, rfl, hst.out⟩
    case round =>
      clear hne hst hw0 hi hu
      obtain ⟨iv, j, hj, hivn, rfl, rfl, hst⟩ := hrel
      by_cases hlt : j < n
      · have hltz : (j : Int) < (n : Int) := by omega
        have hivz : (iv : Int) < (n : Int) := by omega
        have hjl : j < l.length := by rw [← hN.out]; exact hlt
        have b0 : wr.cell? ⟨g, j * 2, none⟩ = some (.int .i64 l[j].f0) := hst.cell encId_len' hjl 0 _ rfl
        have b1 : wr.cell? ⟨g, j * 2 + 1, none⟩ = some (.int .i64 l[j].f1) := hst.cell encId_len' hjl 1 _ rfl
        obtain ⟨z, hz⟩ := hst.room encId_len'
        have z0 : wr.cell? ⟨g, iv * 2, none⟩ = some (.int .i64 z.f0) := hz 0 _ rfl
        have z1 : wr.cell? ⟨g, iv * 2 + 1, none⟩ = some (.int .i64 z.f1) := hz 1 _ rfl
        clear hz
        have hb1 := below_alloc (Below.refl wr.heap.size wr) (.cells #[.int .i64 l[j].f0, .int .i64 l[j].f1] 24)
        have hxn := heap_alloc_new wr (.cells #[.int .i64 l[j].f0, .int .i64 l[j].f1] 24)
        have e0 := blk_cell hxn 0
        have e1 := blk_cell hxn 1
        simp only [List.getElem?_toArray, List.getElem?_cons_zero, List.getElem?_cons_succ] at e0 e1
        clear hxn
        have hst1 := hst.later encId_len' hb1
        have H := hcall.out l[j] (List.getElem_mem hjl) _ hst1.grown
        have hsk : p l[j] = true → ∀ W, Dst encId 2 24 p w W base g c l iv j → Dst encId 2 24 p w W base g c l iv (j + 1) := fun hp W h => h.skip hjl hp
        have hke : p l[j] = false → ∀ W, Dst encId 2 24 p w W base g c l iv j → Dst encId 2 24 p w (setCells W g (iv * 2) (encId l[j])) base g c l (iv + 1) (j + 1) := fun hp W h => h.keep encId_len' hjl hp
        replace hsk := Go.Lib.hid hsk
        replace hke := Go.Lib.hid hke
        replace hst1 := Go.Lib.hid hst1
        clear hst
        generalize l[j] = x at *
        replace z0 := pw_cell_below hb1 z0
        replace z1 := pw_cell_below hb1 z1
        go_upto_region 8 with fail
        generalize wr.alloc (.cells #[.int .i64 x.f0, .int .i64 x.f1] 24) = V at *
        generalize wr.heap.size = gx at *
        clear b0 b1 hb1
        have hw64 : wrap64 ((j : Int) + 1) = ((j + 1 : Nat) : Int) := by unfold wrap64; omega
        have hw65 : wrap64 ((iv : Int) + 1) = ((iv + 1 : Nat) : Int) := by unfold wrap64; omega
        have hme : n - (j + 1) < n - j := by clear hw64 hw65; omega
        have hiv1 : p x = false → iv + 1 < n := fun hp => by have := (hke.out hp V hst1.out); have h1 := this.lt; omega
        replace hme := Go.Lib.hid hme
        replace hiv1 := Go.Lib.hid hiv1
        cases hp : p x with
        | true =>
          rw [hp] at H
          replace hp := Go.Lib.hid hp
          go_wp2_with (go_at_fn gf; refine H.mono ?_; rintro e0 u1 ⟨rfl, hu1⟩)
          go_round
          case rel => exact ⟨iv, j + 1, hlt, hivn, rfl, rfl, hsk.out hp.out _ (hst1.out.later encId_len' hu1)⟩
          case measure => simpa [intOf] using hme.out
        | false =>
          rw [hp] at H
          replace hp := Go.Lib.hid hp
          go_wp2_with (go_at_fn gf; refine H.mono ?_; rintro e0 u1 ⟨rfl, hu1⟩; have hst2 := hst1.out.later encId_len' hu1; replace e0 := pw_cell_below hu1 e0; replace z0 := pw_cell_below hu1 z0; have f0 : u1.frozen? ⟨g, iv * 2, none⟩ = false := row_frozen hst2.row _; replace e1 := pw_cell_below hu1 e1; replace z1 := pw_cell_below hu1 z1; have f1 : u1.frozen? ⟨g, iv * 2 + 1, none⟩ = false := row_frozen hst2.row _; replace hst2 := Go.Lib.hid hst2)
          go_round
          case rel => exact ⟨iv + 1, j + 1, hlt, hiv1.out hp.out, rfl, rfl, hke.out hp.out _ hst2.out⟩
          case measure => simpa [intOf] using hme.out
      · have hx2 : j = l.length := by rw [← hN.out]; omega
        have hltz : ¬ ((j : Int) < (n : Int)) := by omega
        have hivc : iv ≤ c := by omega
        obtain ⟨w', hrun, hlen, hrow, hgrn⟩ := hst.fin encId_len' hx2 (c - iv) 27 0 (.agg #[.int .i64 0, .int .i64 0]) Try.underlying27 (fun w => by kernel_rfl) rfl (by decide) (by omega)
        rw [← hN.out] at hrun
        clear hst
        have hki : kn = iv := by rw [hkn.out]; exact hlen
        replace hki := Go.Lib.hid hki
        replace hrow := Go.Lib.hid hrow
        replace hgrn := Go.Lib.hid hgrn
        go_wp2_with fail
        go_ret
        exact ⟨by rw [hki.out]; rfl, hrow.out, hgrn.out⟩
  · have hall := keepL_all hno
    replace hno := Go.Lib.hid hno
    have hRu : IdRow u base g c l := row_block hR.out (hu.block g (row_lt hR.out)) encId_len'
    replace hRu := Go.Lib.hid hRu
    replace hall := Go.Lib.hid hall
    go_wp2_with fail
    go_ret
    exact ⟨by rw [hkn.out, hall.out, ← hN.out]; rfl, by rw [hall.out]; exact hRu.out, grown_of_below hu _⟩

end Go.Proofs.Ytdepmcofnlggaaa.PResolverCycles
end
