/- A disk's clone, the program's way. -/
import Derived.Test.YtenfdankgjdfpaaDskWrite
import Derived.Test.YtenfdankgjdfpaaDskRdv
set_option linter.unusedVariables false
set_option linter.unusedSimpArgs false
namespace Go.Proofs.Ytenfdankgjdfpaa
open Go.RowKit

/-- a new disk is returned, of memory of its own -/
def RetDsk (TD TE sz m B n : Nat) (d : DS) (w : World) (e : Ending) (w' : World) : Prop :=
  ∃ g sv tv, e = .returned (.pointer (some ⟨g, 0, none⟩)) ∧ Dsk TD TE sz m w' g sv tv n d ∧ (∀ k, Foot g sv tv k → B ≤ k) ∧ Below B w w'
theorem own_lo {a b e size n : Nat} {v : Value} {xs : List Value} {w : World} (h : w.ownsRow b e size v n xs) (hab : a ≤ b) : w.ownsRow a e size v n xs :=
  ⟨h.1, h.2.imp id fun ⟨g, cap, cur, p, q, r⟩ => ⟨g, cap, cur, p, Nat.le_trans hab q, r⟩⟩
theorem info_sec : (Try.prog.info? 89).map (fun i => (i.zero, i.size, i.bytes)) = some (some (.agg (Array.replicate 64 (.int .u8 0))), 64, 64) := by kernel_rfl
set_option maxHeartbeats 1000000 in
theorem clone_walk (w : World) (g n : Nat) (sv tv : Value) (d : DS) (h : PDsk w g sv tv n d) (ht : d.trail.length ≤ 1000000) :
    Calls Try.prog 22 #[.pointer (some ⟨g, 0, none⟩)] w (RetDsk 87 89 64 n w.heap.size n d w) := by
  have c0 := h.c0
  have c1 := h.c1
  have c2 := h.c2
  have c3 := h.c3
  have hle := h.le
  have hpos := h.pos
  have hlen := h.len
  have hgl := h.lt g (.inl rfl)
  obtain ⟨s, cs, hv, _, hs, hc1, hc2, hsc⟩ := own_some h.sec h.pos
  subst hv
  obtain ⟨A, c, hv⟩ := h.tv
  subst hv
  go_enter Try.func22, Try.ntmps22
  go_upto_region 2 with fail
  have hB1 : Below w.heap.size w (w.alloc (.cells #[.slice (some ⟨s, 0, none⟩) n cs, .slice A d.trail.length c, .int .i64 d.armed, .bool d.down] 87)) := (Below.refl _ _).alloc (Nat.le_refl _) _
  have hG1 := heap_alloc_new w (.cells #[.slice (some ⟨s, 0, none⟩) n cs, .slice A d.trail.length c, .int .i64 d.armed, .bool d.down] 87)
  have hz1 : w.heap.size < (w.alloc (.cells #[.slice (some ⟨s, 0, none⟩) n cs, .slice A d.trail.length c, .int .i64 d.armed, .bool d.down] 87)).heap.size := by simp
  generalize w.alloc (.cells #[.slice (some ⟨s, 0, none⟩) n cs, .slice A d.trail.length c, .int .i64 d.armed, .bool d.down] 87) = W1 at *
  have h1 := h.below hB1
  have hgl1 : g < W1.heap.size := by omega
  have x0 := cell_below hB1 c0
  obtain ⟨i0, hi0, hj0, hj1, hj2⟩ := info_parts info_sec
  clear c0 c2 c3
  go_upto_region 3 with ((at_builtin; go_must (refine wpList_append_own_at (o := ⟨some 12, _, _, _, _, _⟩) _ rfl (.tmp 7) (.tmp 11) 85 rfl W1.heap.size 89 i0 (.agg (Array.replicate 64 (.int .u8 0))) 64 64 Try.underlying85 hi0 hj0 hj1 hj2 rfl (by omega) _ 0 [] rfl (own_empty _ _ _ _ _ (Nat.le_refl _) (heap_alloc_new W1 _)) ⟨s, 0, none⟩ n cs (bv d.img) rfl (by rw [bv_length, hlen, Nat.mul_comm]) ((h1.sec.alloc _).cells (g := s) rfl) (bv_one _) (by simp only [maxLen]; omega) (by omega) (by simp) ?_); go_must (intro v2 w2 hown2 hg2 _ hat2; rw [Nat.zero_add, List.nil_append] at hown2; obtain ⟨A2, c2, e2⟩ := own_slice hown2; subst e2; have hB2 := ((Below.refl W1.heap.size W1).alloc (Nat.le_refl _) (.cells #[] 89)).grown hg2 (by simp) (own_base (own_empty (W1.alloc (.cells #[] 89)) W1.heap.size 89 64 _ (Nat.le_refl _) (heap_alloc_new W1 _))); have hb2 := (hB2.block _ hz1).trans hG1; have y0 := cell_of_row w2 w.heap.size 0 _ _ _ hb2; have y1 := frozen_of_row w2 w.heap.size 0 _ _ hb2; simp at y0)))
  have hB02 : Below w.heap.size w (w2.setCell ⟨w.heap.size, 0, none⟩ (.slice A2 n c2)) := (hB1.trans (hB2.mono (Nat.le_of_lt hz1))).setCell (Nat.le_refl _) _
  have hb3 := heap_setCell_same w2 w.heap.size 0 _ _ (.slice A2 n c2) hb2
  have hs3 : (w2.setCell ⟨w.heap.size, 0, none⟩ (.slice A2 n c2)).ownsRow W1.heap.size 89 64 (.slice A2 n c2) n (bv d.img) :=
    own_at hown2 fun j hj => heap_setCell_other _ _ _ _ (by have := own_base hown2 j hj; simp only; omega)
  have hz3 : W1.heap.size ≤ (w2.setCell ⟨w.heap.size, 0, none⟩ (.slice A2 n c2)).heap.size := by simpa [World.setCell] using hB2.size
  generalize w2.setCell ⟨w.heap.size, 0, none⟩ (.slice A2 n c2) = w3 at *
  have h3 := h.below hB02
  have x1 := cell_below hB02 c1
  have hgl3 : g < w3.heap.size := by omega
  have hr := Rdv.of_own h3.tr
  clear h h1 x0 c1 hb2 y0 y1 hown2 hg2 hat2 hG1 hB1 hB2
  go_upto_region 4 with ((at_builtin; go_must (refine wpList_append_rd (o := ⟨some 19, _, _, _, _, _⟩) w3 w3.heap.size rfl (.tmp 14) (.tmp 18) 47 3 (.int .i64 0) 8 rfl Try.underlying47 info_int rfl _ 0 [] rfl (own_empty _ _ _ _ _ (Nat.le_refl _) (heap_alloc_new w3 _)) A d.trail.length c (iv d.trail) rfl (hr.below ((Below.refl _ _).alloc (Nat.le_refl _) _)) (iv_one _) ((Below.refl _ _).alloc (Nat.le_refl _) _) (by simp) (by omega) (by omega) ?_); go_must (intro v4 w4 hown4 hB4 hg4 hs4; rw [Nat.zero_add, List.nil_append] at hown4; obtain ⟨A4, c4, e4⟩ := own_slice hown4; subst e4; have hb4 := (hB4.block _ (show w.heap.size < w3.heap.size by omega)).trans hb3; have y0 := cell_of_row w4 w.heap.size 1 _ _ _ hb4; have y1 := frozen_of_row w4 w.heap.size 1 _ _ hb4; simp at y0)))
  have hB5 : Below w.heap.size w (w4.setCell ⟨w.heap.size, 1, none⟩ (.slice A4 d.trail.length c4)) := (hB02.trans (hB4.mono (by omega))).setCell (Nat.le_refl _) _
  have hb5 := heap_setCell_same w4 w.heap.size 1 _ _ (.slice A4 d.trail.length c4) hb4
  have ht5 : (w4.setCell ⟨w.heap.size, 1, none⟩ (.slice A4 d.trail.length c4)).ownsRow 0 3 1 (.slice A4 d.trail.length c4) d.trail.length (iv d.trail) :=
    own_lo (own_at hown4 fun j hj => heap_setCell_other _ _ _ _ (by have := own_base hown4 j hj; simp only [ne_eq]; omega)) (Nat.zero_le _)
  have hs5 : (w4.setCell ⟨w.heap.size, 1, none⟩ (.slice A4 d.trail.length c4)).ownsRow 0 89 64 (.slice A2 n c2) n (bv d.img) :=
    own_lo (own_at (own_below_lt hs3 (own_lt hs3) hB4) fun j hj => heap_setCell_other _ _ _ _ (by have := own_base hs3 j hj; simp only [ne_eq]; omega)) (Nat.zero_le _)
  go_wp2
  go_ret
  refine ⟨w.heap.size, _, _, rfl, ⟨?_, hs5, ht5, hlen, hpos, hle, h3.lo, h3.hi⟩, ?_, hB5⟩
  · rw [hb5]; rfl
  · intro k hk
    rcases hk with rfl | hk | hk
    · exact Nat.le_refl _
    · have := own_base hs3 k hk; omega
    · have := own_base hown4 k hk; omega
end Go.Proofs.Ytenfdankgjdfpaa
