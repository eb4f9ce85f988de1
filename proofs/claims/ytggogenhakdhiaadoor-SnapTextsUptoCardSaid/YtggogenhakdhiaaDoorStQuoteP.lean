/- The program's Quote, walked. -/
import Derived.Test.YtggogenhakdhiaaDoorPsM
import Derived.Test.YtggogenhakdhiaaDoorStPure
import Derived.Lib.ConvBytes
import Derived.Deep.RegionHeldLaw
import Derived.Deep.DrawnRows
set_option linter.unusedVariables false
set_option linter.unusedSimpArgs false
attribute [local go_sem ↓] Go.wp_at_zero Go.wp_at_succ
namespace Go.Proofs.YtggogenhakdhiaaDoor.PSnapTexts
open Go.RowKit Go.Proofs.YtggogenhakdhiaaDoorW.PrintWords Go.Proofs.YtggogenhakdhiaaDoorW.PrintLast Go.Proofs.YtggogenhakdhiaaDoorW.PrintMore

theorem below_bytesWorld (w : World) (e : TypeId) (s : ByteArray) : Below w.heap.size w (Lib.bytesWorld w e s) := by
  refine ⟨?_, ?_, ?_, by rw [Lib.bytesWorld_size]; omega, fun k hk => Lib.bytesWorld_at_old w e s k hk⟩
  all_goals simp [Lib.bytesWorld, World.freeze, World.alloc, World.drew, -World.alloc_eq, -World.drew_eq]
theorem info_b : (Tryd.prog.info? 5).map (fun i => (i.zero, i.size, i.bytes)) = some (some (.int .u8 0), 1, 1) := by kernel_rfl
theorem lit_rd (w : World) (e : TypeId) (cs : Array Value) (l : List Value) (h : cs.toList = l) : Rdv (w.alloc (.cells cs e)) (some ⟨w.heap.size, 0, none⟩) l.length l := by
  subst h
  refine ⟨rfl, fun i u hu => ⟨_, rfl, ?_⟩⟩
  rw [add_plain, blk_cell (heap_alloc_new w (.cells cs e)) i]
  simpa using hu
theorem qc_bv (c : UInt8) (h : c.toNat < 32 ∨ c.toNat > 126 ∨ c.toNat = 34 ∨ c.toNat = 92) : bv (qc c) = [.int .u8 92, .int .u8 ((hexd (c.toNat / 16)).toNat : Int), .int .u8 ((hexd (c.toNat % 16)).toNat : Int)] := by
  unfold qc
  rw [if_pos h]
  simp [bv]
theorem lt_of_heap {w : World} {g : Nat} {o : Obj} (h : w.heap[g]? = some o) : g < w.heap.size := (Array.getElem?_eq_some_iff.1 h).1
theorem blk_cell_f {w : World} {g : Nat} {cs : Array Value} {t : TypeId} {fz : Nat × Nat} (h : w.heap[g]? = some (.cells cs t fz)) (j : Nat) : w.cell? ⟨g, j, none⟩ = cs[j]? := by
  simp [World.cell?, h]
theorem own_frz_ne {w : World} {base : Nat} {e : TypeId} {size n g m : Nat} {v : Value} {xs : List Value} {cs : Array Value} (h : w.ownsRow base e size v n xs) (hg : w.heap[g]? = some (.cells cs e (m, m + 1))) : v.ownBlock ≠ some g := by
  rcases h.2 with ⟨rfl, _⟩ | ⟨g', cap, cur, rfl, _, hg', _⟩
  · simp [Value.ownBlock]
  · intro he
    simp only [Value.ownBlock, Option.some.injEq] at he
    subst he
    rw [hg'] at hg
    simp at hg
theorem low4 (c : UInt8) : bits .and .u8 ((c.toNat : Nat) : Int) 15 = ((c.toNat % 16 : Nat) : Int) := by
  have h : ∀ m : Fin 256, bits .and .u8 ((m.val : Nat) : Int) 15 = ((m.val % 16 : Nat) : Int) := by decide +kernel
  exact h ⟨c.toNat, c.toNat_lt⟩
set_option maxHeartbeats 4000000 in
set_option maxRecDepth 20000 in
theorem quote_walk (w : World) (s : ByteArray) (hs : s.size ≤ 1048576) :
    Calls Tryd.prog 78 #[.string s] w fun e w' => e = .returned (.string (B (quoteL s.data.toList))) ∧ Below w.heap.size w w' := by
  have hconv := Lib.run_convert_string_bytes (P := Tryd.prog) (w.alloc (.cells #[.int .u8 34] 5)) 9 22 5 s Tryd.underlying9 Tryd.underlying22 Tryd.underlying5
  have hO0 : (w.alloc (.cells #[.int .u8 34] 5)).ownsRow w.heap.size 5 1 (.slice (some ⟨w.heap.size, 0, none⟩) 1 1) 1 (bv [34]) := World.ownsRow_lit (base := w.heap.size) (size := 1) w _ 1 (Nat.le_refl _) (by simp only [maxLen]; omega) rfl
  have hB0 : Below w.heap.size w (w.alloc (.cells #[.int .u8 34] 5)) := below_alloc (Below.refl _ _) _
  have hB1 := below_bytesWorld (w.alloc (.cells #[.int .u8 34] 5)) 5 s
  have hO1 := own_below hO0 hB1
  have hB01 := hB0.trans (hB1.mono hB0.size)
  have hcells : ∀ j, j < s.size → (Lib.bytesCells (w.alloc (.cells #[.int .u8 34] 5)) 5 s)[j]? = some (.int .u8 (s.data.toList.getD j 0).toNat) := by
    intro j hj
    simp [Lib.bytesCells, Array.getElem?_append, List.getD, hj]
  have hblk := Lib.bytesWorld_at_new (w.alloc (.cells #[.int .u8 34] 5)) 5 s
  obtain ⟨g2, hg2⟩ : ∃ x, x = (w.alloc (.cells #[.int .u8 34] 5)).heap.size := ⟨_, rfl⟩
  obtain ⟨cap, hcap⟩ : ∃ x, x = grownCap (w.alloc (.cells #[.int .u8 34] 5)) s.size 0 5 := ⟨_, rfl⟩
  rw [← hg2] at hconv hblk
  rw [← hcap] at hconv
  clear hg2 hcap
  go_enter Tryd.func78, Tryd.ntmps78
  go_wp2
  clear hconv
  generalize Lib.bytesWorld (w.alloc (.cells #[.int .u8 34] 5)) 5 s = W at *
  generalize Lib.bytesCells (w.alloc (.cells #[.int .u8 34] 5)) 5 s = C at *
  generalize C.size = M at *
  obtain ⟨N, hN⟩ : ∃ x, x = s.size := ⟨_, rfl⟩
  rw [← hN] at hs hcells ⊢
  have hlen : s.data.toList.length = N := by rw [toList_len, hN]
  generalize hl : s.data.toList = l at *
  replace hl := Go.Lib.hid hl
  clear hN
  have hz1 := hB01.size
  clear hB0 hB1 hO0
  go_loopw [3, 10] (fun v i wr => ∃ j : Nat, j ≤ N ∧ i = .int .i64 j ∧ ∃ A' c' n, v = .slice A' n c' ∧ n = (34 :: (l.take j).flatMap qc).length ∧ wr.ownsRow w.heap.size 5 1 v n (bv (34 :: (l.take j).flatMap qc)) ∧ Below w.heap.size w wr ∧ wr.heap[g2]? = some (.cells C 5 (M, M + 1))) (fun _ i _ => N - (intOf i).toNat)
  case atStart => exact ⟨0, by omega, rfl, _, _, 1, rfl, rfl, by simpa using hO1, hB01, hblk⟩
  case round =>
    obtain ⟨j, hj, rfl, A', c', n, rfl, hn, hO, hBw, hBr⟩ := hrel
    have hz2 := hBw.size
    by_cases hlt : j < N
    · have hltz : (j : Int) < (N : Int) := by omega
      have hw64 : wrap64 ((j : Int) + 1) = ((j + 1 : Nat) : Int) := by unfold wrap64; omega
      have hcj : wr.cell? ⟨g2, j, none⟩ = some (.int .u8 (l.getD j 0).toNat) := by rw [blk_cell_f hBr]; exact hcells j hlt
      have htk : (l.take (j + 1)).flatMap qc = (l.take j).flatMap qc ++ qc (l.getD j 0) := by
        rw [List.take_succ_eq_append_getElem (by omega), List.flatMap_append, List.getD_eq_getElem?_getD, List.getElem?_eq_getElem (by omega)]
        simp
      have hpl := flat_length qc 3 (l.take j) (fun c _ => qc_length c)
      have hpl2 : (l.take j).length ≤ j := by rw [List.length_take]; omega
      generalize l.getD j 0 = c at *
      have hc256 := c.toNat_lt
      generalize (l.take j).flatMap qc = q at *
      have hn' : n = q.length + 1 := by rw [hn]; rfl
      obtain ⟨ja, hja⟩ : ∃ x : Int, x = ((c.toNat / 16 : Nat) : Int) := ⟨_, rfl⟩
      obtain ⟨jb, hjb⟩ : ∃ x : Int, x = ((c.toNat % 16 : Nat) : Int) := ⟨_, rfl⟩
      have hsb : bits .and .u8 ((c.toNat : Nat) : Int) 15 = jb := by rw [low4, hjb]
      have hsa : Int.fdiv ((c.toNat : Nat) : Int) 16 = ja := by rw [Int.fdiv_eq_ediv_of_nonneg _ (by omega)]; omega
      have hsa2 : ((c.toNat : Nat) : Int) / 16 = ja := by omega
      have pa := eq_true (show (0 : Int) ≤ ja by omega)
      have qa := eq_true (show ja < (16 : Int) by omega)
      have pb := eq_true (show (0 : Int) ≤ jb by omega)
      have qb := eq_true (show jb < (16 : Int) by omega)
      have hxa := bt_at hexB ja
      have hxb := bt_at hexB jb
      have ya : bt hexB ja = ((hexd (c.toNat / 16)).toNat : Int) := by rw [hja]; exact bt_hex _ (by omega)
      have yb : bt hexB jb = ((hexd (c.toNat % 16)).toNat : Int) := by rw [hjb]; exact bt_hex _ (by omega)
      have hlq : (c.toNat < 32 ∨ c.toNat > 126 ∨ c.toNat = 34 ∨ c.toNat = 92) → (qc c).length = 3 := fun h => by unfold qc; rw [if_pos h]; rfl
      have h5 : (c.toNat < 32 ∨ c.toNat > 126 ∨ c.toNat = 34 ∨ c.toNat = 92) → bv (qc c) = [.int .u8 92, .int .u8 (bt hexB ja), .int .u8 (bt hexB jb)] := fun h => by rw [ya, yb]; exact qc_bv c h
      have h6 : ¬ (c.toNat < 32 ∨ c.toNat > 126 ∨ c.toNat = 34 ∨ c.toNat = 92) → qc c = [c] := fun h => by unfold qc; rw [if_neg h]
      clear ya yb hcells
      replace htk := Go.Lib.hid htk
      replace hn := Go.Lib.hid hn
      replace hn' := Go.Lib.hid hn'
      replace hlen := Go.Lib.hid hlen
      have k1 := Decidable.em (c.toNat < 32)
      have k2 := Decidable.em (c.toNat > 126)
      have k3 := Decidable.em (c.toNat = 34)
      have k4 := Decidable.em (c.toNat = 92)
      rcases k1 with k1 | k1
      · have d1 : decide (((c.toNat : Nat) : Int) < 32) = true := decide_eq_true (by omega)
        replace h5 := h5 (by omega)
        replace hlq := hlq (by omega)
        replace hlq := Go.Lib.hid hlq
        clear h6 k1 k2 k3 k4
        unfold hexB at hxa hxb h5
        generalize bt (⟨#[48, 49, 50, 51, 52, 53, 54, 55, 56, 57, 97, 98, 99, 100, 101, 102]⟩ : ByteArray) ja = va at *
        generalize bt (⟨#[48, 49, 50, 51, 52, 53, 54, 55, 56, 57, 97, 98, 99, 100, 101, 102]⟩ : ByteArray) jb = vb at *
        have hB5 : Below wr.heap.size wr (wr.drew.alloc (.cells #[.int .u8 92, .int .u8 va, .int .u8 vb] 5)) := below_alloc (below_drew (Below.refl _ _)) _
        have hR5 : Rdv (wr.drew.alloc (.cells #[.int .u8 92, .int .u8 va, .int .u8 vb] 5)) (some ⟨wr.heap.size, 0, none⟩) 3 (bv (qc c)) := by rw [h5]; exact lit_rd wr.drew 5 _ _ rfl
        have hO5 := own_below hO hB5
        have hBw5 := hBw.trans (hB5.mono hz2)
        have hbl5 := (hB5.block g2 (lt_of_heap hBr)).trans hBr
        have hz5 := hBw5.size
        have hnb : n + 3 ≤ 4000000 := by have := hn'.out; omega
        clear hja hjb h5
        go_upto_region 6 with fail
        go_region_held_law (fun _ => True) (trivial) ((first | (refine step_append_rd (o := ⟨some 36, _, _, _, _, _⟩) w w.heap.size rfl (.tmp 28) (.tmp 35) 22 5 (.int .u8 0) 1 rfl Tryd.underlying22 info_b rfl _ n (bv (34 :: q)) rfl hO5 _ 3 _ (bv (qc c)) rfl hR5 (bv_one _) hBw5 hz5 (by omega) (by omega) ?_; intro v1 w1 hown1 hB11 hg1 hz11)))
        all_goals
          have hbl1 := (hg1.block g2 (lt_of_heap hbl5) (fun e => own_frz_ne hO5 hbl5 e.symm)).trans hbl5
          obtain ⟨A1, k1, rfl⟩ := own_slice hown1
          rw [← bv_append] at hown1
          go_wp2_with fail
          go_roundw
          case rel => exact ⟨j + 1, hlt, by first | rfl | rw [hw64], A1, k1, n + 3, rfl, by rw [htk.out, hn.out]; simp [hlq.out], by rw [htk.out]; exact hown1, hB11, hbl1⟩
          case measure => simp only [intOf]; first | omega | (rw [hw64]; omega)
      have n1 := k1
      have d1 : decide (((c.toNat : Nat) : Int) < 32) = false := decide_eq_false (by omega)
      clear k1
      rcases k2 with k2 | k2
      · have d2 : decide (((c.toNat : Nat) : Int) > 126) = true := decide_eq_true (by omega)
        replace h5 := h5 (by omega)
        replace hlq := hlq (by omega)
        replace hlq := Go.Lib.hid hlq
        clear h6 k2 k3 k4
        unfold hexB at hxa hxb h5
        generalize bt (⟨#[48, 49, 50, 51, 52, 53, 54, 55, 56, 57, 97, 98, 99, 100, 101, 102]⟩ : ByteArray) ja = va at *
        generalize bt (⟨#[48, 49, 50, 51, 52, 53, 54, 55, 56, 57, 97, 98, 99, 100, 101, 102]⟩ : ByteArray) jb = vb at *
        have hB5 : Below wr.heap.size wr (wr.drew.alloc (.cells #[.int .u8 92, .int .u8 va, .int .u8 vb] 5)) := below_alloc (below_drew (Below.refl _ _)) _
        have hR5 : Rdv (wr.drew.alloc (.cells #[.int .u8 92, .int .u8 va, .int .u8 vb] 5)) (some ⟨wr.heap.size, 0, none⟩) 3 (bv (qc c)) := by rw [h5]; exact lit_rd wr.drew 5 _ _ rfl
        have hO5 := own_below hO hB5
        have hBw5 := hBw.trans (hB5.mono hz2)
        have hbl5 := (hB5.block g2 (lt_of_heap hBr)).trans hBr
        have hz5 := hBw5.size
        have hnb : n + 3 ≤ 4000000 := by have := hn'.out; omega
        clear hja hjb h5
        go_upto_region 6 with fail
        go_region_held_law (fun _ => True) (trivial) ((first | (refine step_append_rd (o := ⟨some 36, _, _, _, _, _⟩) w w.heap.size rfl (.tmp 28) (.tmp 35) 22 5 (.int .u8 0) 1 rfl Tryd.underlying22 info_b rfl _ n (bv (34 :: q)) rfl hO5 _ 3 _ (bv (qc c)) rfl hR5 (bv_one _) hBw5 hz5 (by omega) (by omega) ?_; intro v1 w1 hown1 hB11 hg1 hz11)))
        all_goals
          have hbl1 := (hg1.block g2 (lt_of_heap hbl5) (fun e => own_frz_ne hO5 hbl5 e.symm)).trans hbl5
          obtain ⟨A1, k1, rfl⟩ := own_slice hown1
          rw [← bv_append] at hown1
          go_wp2_with fail
          go_roundw
          case rel => exact ⟨j + 1, hlt, by first | rfl | rw [hw64], A1, k1, n + 3, rfl, by rw [htk.out, hn.out]; simp [hlq.out], by rw [htk.out]; exact hown1, hB11, hbl1⟩
          case measure => simp only [intOf]; first | omega | (rw [hw64]; omega)
      have n2 := k2
      have d2 : decide (((c.toNat : Nat) : Int) > 126) = false := decide_eq_false (by omega)
      clear k2
      rcases k3 with k3 | k3
      · have d3 : decide (((c.toNat : Nat) : Int) = 34) = true := decide_eq_true (by omega)
        have e3 : (((c.toNat : Nat) : Int) == 34) = true := by simp; omega
        replace h5 := h5 (by omega)
        replace hlq := hlq (by omega)
        replace hlq := Go.Lib.hid hlq
        clear h6 k3 k4
        unfold hexB at hxa hxb h5
        generalize bt (⟨#[48, 49, 50, 51, 52, 53, 54, 55, 56, 57, 97, 98, 99, 100, 101, 102]⟩ : ByteArray) ja = va at *
        generalize bt (⟨#[48, 49, 50, 51, 52, 53, 54, 55, 56, 57, 97, 98, 99, 100, 101, 102]⟩ : ByteArray) jb = vb at *
        have hB5 : Below wr.heap.size wr (wr.drew.alloc (.cells #[.int .u8 92, .int .u8 va, .int .u8 vb] 5)) := below_alloc (below_drew (Below.refl _ _)) _
        have hR5 : Rdv (wr.drew.alloc (.cells #[.int .u8 92, .int .u8 va, .int .u8 vb] 5)) (some ⟨wr.heap.size, 0, none⟩) 3 (bv (qc c)) := by rw [h5]; exact lit_rd wr.drew 5 _ _ rfl
        have hO5 := own_below hO hB5
        have hBw5 := hBw.trans (hB5.mono hz2)
        have hbl5 := (hB5.block g2 (lt_of_heap hBr)).trans hBr
        have hz5 := hBw5.size
        have hnb : n + 3 ≤ 4000000 := by have := hn'.out; omega
        clear hja hjb h5
        go_upto_region 6 with fail
        go_region_held_law (fun _ => True) (trivial) ((first | (refine step_append_rd (o := ⟨some 36, _, _, _, _, _⟩) w w.heap.size rfl (.tmp 28) (.tmp 35) 22 5 (.int .u8 0) 1 rfl Tryd.underlying22 info_b rfl _ n (bv (34 :: q)) rfl hO5 _ 3 _ (bv (qc c)) rfl hR5 (bv_one _) hBw5 hz5 (by omega) (by omega) ?_; intro v1 w1 hown1 hB11 hg1 hz11)))
        all_goals
          have hbl1 := (hg1.block g2 (lt_of_heap hbl5) (fun e => own_frz_ne hO5 hbl5 e.symm)).trans hbl5
          obtain ⟨A1, k1, rfl⟩ := own_slice hown1
          rw [← bv_append] at hown1
          go_wp2_with fail
          go_roundw
          case rel => exact ⟨j + 1, hlt, by first | rfl | rw [hw64], A1, k1, n + 3, rfl, by rw [htk.out, hn.out]; simp [hlq.out], by rw [htk.out]; exact hown1, hB11, hbl1⟩
          case measure => simp only [intOf]; first | omega | (rw [hw64]; omega)
      have n3 := k3
      have d3 : decide (((c.toNat : Nat) : Int) = 34) = false := decide_eq_false (by omega)
      have e3 : (((c.toNat : Nat) : Int) == 34) = false := by simp; omega
      clear k3
      rcases k4 with k4 | k4
      · have d4 : decide (((c.toNat : Nat) : Int) = 92) = true := decide_eq_true (by omega)
        have e4 : (((c.toNat : Nat) : Int) == 92) = true := by simp; omega
        replace h5 := h5 (by omega)
        replace hlq := hlq (by omega)
        replace hlq := Go.Lib.hid hlq
        clear h6 k4
        unfold hexB at hxa hxb h5
        generalize bt (⟨#[48, 49, 50, 51, 52, 53, 54, 55, 56, 57, 97, 98, 99, 100, 101, 102]⟩ : ByteArray) ja = va at *
        generalize bt (⟨#[48, 49, 50, 51, 52, 53, 54, 55, 56, 57, 97, 98, 99, 100, 101, 102]⟩ : ByteArray) jb = vb at *
        have hB5 : Below wr.heap.size wr (wr.drew.alloc (.cells #[.int .u8 92, .int .u8 va, .int .u8 vb] 5)) := below_alloc (below_drew (Below.refl _ _)) _
        have hR5 : Rdv (wr.drew.alloc (.cells #[.int .u8 92, .int .u8 va, .int .u8 vb] 5)) (some ⟨wr.heap.size, 0, none⟩) 3 (bv (qc c)) := by rw [h5]; exact lit_rd wr.drew 5 _ _ rfl
        have hO5 := own_below hO hB5
        have hBw5 := hBw.trans (hB5.mono hz2)
        have hbl5 := (hB5.block g2 (lt_of_heap hBr)).trans hBr
        have hz5 := hBw5.size
        have hnb : n + 3 ≤ 4000000 := by have := hn'.out; omega
        clear hja hjb h5
        go_upto_region 6 with fail
        go_region_held_law (fun _ => True) (trivial) ((first | (refine step_append_rd (o := ⟨some 36, _, _, _, _, _⟩) w w.heap.size rfl (.tmp 28) (.tmp 35) 22 5 (.int .u8 0) 1 rfl Tryd.underlying22 info_b rfl _ n (bv (34 :: q)) rfl hO5 _ 3 _ (bv (qc c)) rfl hR5 (bv_one _) hBw5 hz5 (by omega) (by omega) ?_; intro v1 w1 hown1 hB11 hg1 hz11)))
        all_goals
          have hbl1 := (hg1.block g2 (lt_of_heap hbl5) (fun e => own_frz_ne hO5 hbl5 e.symm)).trans hbl5
          obtain ⟨A1, k1, rfl⟩ := own_slice hown1
          rw [← bv_append] at hown1
          go_wp2_with fail
          go_roundw
          case rel => exact ⟨j + 1, hlt, by first | rfl | rw [hw64], A1, k1, n + 3, rfl, by rw [htk.out, hn.out]; simp [hlq.out], by rw [htk.out]; exact hown1, hB11, hbl1⟩
          case measure => simp only [intOf]; first | omega | (rw [hw64]; omega)
      have n4 := k4
      have d4 : decide (((c.toNat : Nat) : Int) = 92) = false := decide_eq_false (by omega)
      have e4 : (((c.toNat : Nat) : Int) == 92) = false := by simp; omega
      clear k4
      replace h6 := h6 (by omega)
      clear h5 hlq n1 n2 n3 n4
      clear hxa hxb pa pb qa qb hsa hsa2 hsb hja hjb
      have hB5 : Below wr.heap.size wr (wr.alloc (.cells #[.int .u8 c.toNat] 5)) := below_alloc (Below.refl _ _) _
      have hR5 : Rdv (wr.alloc (.cells #[.int .u8 c.toNat] 5)) (some ⟨wr.heap.size, 0, none⟩) 1 (bv (qc c)) := by rw [h6]; exact lit_rd wr 5 _ _ rfl
      have hO5 := own_below hO hB5
      have hBw5 := hBw.trans (hB5.mono hz2)
      have hbl5 := (hB5.block g2 (lt_of_heap hBr)).trans hBr
      have hz5 := hBw5.size
      have hnb : n + 1 ≤ 4000000 := by have := hn'.out; omega
      replace h6 := Go.Lib.hid h6
      go_wp2_with ((first | (refine wpList_append_rd (o := ⟨some 40, _, _, _, _, _⟩) w w.heap.size rfl (.tmp 37) (.tmp 39) 22 5 (.int .u8 0) 1 rfl Tryd.underlying22 info_b rfl _ n (bv (34 :: q)) rfl hO5 _ 1 _ (bv (qc c)) rfl hR5 (bv_one _) hBw5 hz5 (by omega) (by omega) ?_; intro v1 w1 hown1 hB11 hg1 hz11)))
      all_goals
        have hbl1 := (hg1.block g2 (lt_of_heap hbl5) (fun e => own_frz_ne hO5 hbl5 e.symm)).trans hbl5
        obtain ⟨A1, k1, rfl⟩ := own_slice hown1
        rw [← bv_append] at hown1
        go_wp2_with fail
        go_roundw
        case rel => exact ⟨j + 1, hlt, by first | rfl | rw [hw64], A1, k1, n + 1, rfl, by rw [htk.out, hn.out, h6.out]; simp, by rw [htk.out]; exact hown1, hB11, hbl1⟩
        case measure => simp only [intOf]; first | omega | (rw [hw64]; omega)
    · have hjl : j = N := by omega
      subst hjl
      have hltf : ¬ ((j : Int) < (j : Int)) := by omega
      have hpl := flat_length qc 3 (l.take j) (fun c _ => qc_length c)
      have hpl2 : (l.take j).length ≤ j := by rw [List.length_take]; omega
      have hn' : n = ((l.take j).flatMap qc).length + 1 := by rw [hn]; rfl
      rw [List.take_of_length_le (by omega)] at hO hpl hn' hpl2
      have hB5 : Below wr.heap.size wr (wr.alloc (.cells #[.int .u8 34] 5)) := below_alloc (Below.refl _ _) _
      have hR5 : Rdv (wr.alloc (.cells #[.int .u8 34] 5)) (some ⟨wr.heap.size, 0, none⟩) 1 (bv [34]) := lit_rd wr 5 _ _ rfl
      have hO5 := own_below hO hB5
      have hBw5 := hBw.trans (hB5.mono hz2)
      have hz5 := hBw5.size
      have hq : quoteL l = 34 :: l.flatMap qc ++ [34] := rfl
      have hlq : (34 :: l.flatMap qc ++ [34]).length = n + 1 := by rw [hn']; simp
      replace hq := Go.Lib.hid hq
      clear hn hcells
      have hnb : n + 1 ≤ 4000000 := by omega
      replace hn' := Go.Lib.hid hn'
      generalize l.flatMap qc = q at *
      go_upto_region 9 with fail
      go_wp2_with ((first
        | (refine wpList_append_rd (o := ⟨some 44, _, _, _, _, _⟩) w w.heap.size rfl (.tmp 42) (.tmp 43) 22 5 (.int .u8 0) 1 rfl Tryd.underlying22 info_b rfl _ n (bv (34 :: q)) rfl hO5 _ 1 _ (bv [34]) rfl hR5 (bv_one _) hBw5 hz5 (by omega) (by omega) ?_; intro v1 w1 hown1 hB11 hg1 hz11; obtain ⟨A1, k1, rfl⟩ := own_slice hown1; rw [← bv_append] at hown1; have hst := (Bys.own hown1).string (P := Tryd.prog) Tryd.underlying22 Tryd.underlying5 Tryd.underlying9 k1)))
      go_ret
      exact ⟨by rw [hl.out, hq.out]; rfl, hB11⟩
end Go.Proofs.YtggogenhakdhiaaDoor.PSnapTexts
