/- A clone of the document's disk. -/
import Derived.Test.YtenfdankgjdfpaaDskNew
import Derived.Lib.Hide
import Derived.Deep.RegionHeldLaw
import Derived.Deep.DrawnRows
attribute [local go_sem ↓] Go.wp_at_zero Go.wp_at_succ
set_option linter.unusedVariables false
set_option linter.unusedSimpArgs false
namespace Go.Proofs.Ytenfdankgjdfpaa
open Go.RowKit

theorem own_hollow {w : World} {base : Nat} {e : TypeId} {size g : Nat} (hh : w.heap[g]? = some (.cells #[] e (0, 0))) (hb : base ≤ g) : w.ownsRow base e size (.slice (some ⟨g, 0, none⟩) 0 0) 0 [] := own_empty w base e size g hb hh
theorem alloc_old (w : World) (o1 o2 : Obj) : ((w.alloc o1).alloc o2).heap[w.heap.size]? = some o1 := by
  have := heap_alloc_new w o1
  rw [← this]
  exact ((Below.refl (w.alloc o1).heap.size (w.alloc o1)).alloc (Nat.le_refl _) o2).block w.heap.size (by simp)
theorem alloc_two (w : World) (o1 o2 : Obj) : ((w.alloc o1).alloc o2).heap[w.heap.size + 1]? = some o2 := by
  have := heap_alloc_new (w.alloc o1) o2
  rwa [World.heap_alloc_size] at this
theorem own_past {w1 w2 : World} {b s n g : Nat} {e t : TypeId} {v : Value} {xs : List Value} {cs : Array Value} (h1 : w1.ownsRow b e s v n xs) (hg : w1.grownBy w2 (some g)) (hh : w1.heap[g]? = some (.cells cs t (0, 0))) (hne : e ≠ t) :
    w2.ownsRow b e s v n xs :=
  own_at h1 fun k hk => hg.block k (own_lt h1 k hk) (fun e => own_blk_ne h1 hh hne (hk.trans e))
set_option maxHeartbeats 2000000 in
set_option maxRecDepth 20000 in
theorem rclone_walk (w : World) (g n : Nat) (sv tv : Value) (d : DS) (h : RDsk w g sv tv n d) (ht : d.trail.length ≤ 1000000) :
    Calls Try.prog 23 #[.pointer (some ⟨g, 0, none⟩)] w (RetDsk 91 5 1 (64 * n) w.heap.size n d w) := by
  have c0 := h.c0
  have c1 := h.c1
  have c2 := h.c2
  have c3 := h.c3
  have hle := h.le
  have hpos := h.pos
  have hlen := h.len
  have hlo := h.lo
  have hhi := h.hi
  have hgl := h.lt g (.inl rfl)
  obtain ⟨s, cs, hv, _, hs, hc1, hc2, hsc⟩ := own_some h.sec (by omega)
  subst hv
  obtain ⟨A, c, hv⟩ := h.tv
  subst hv
  have hb0 : Rdv w (some ⟨s, 0, none⟩) (64 * n) (bv d.img) := Rdv.of_own h.sec
  have hr0 : Rdv w A d.trail.length (iv d.trail) := Rdv.of_own h.tr
  have hbl : (bv d.img).length = 64 * n := by rw [bv_length, hlen]
  clear h hsc
  go_enter Try.func23, Try.ntmps23
  go_upto_region 1 with fail
  go_region_held_law (fun w' => w'.cell? ⟨g, 0, none⟩ = some (.slice (some ⟨s, 0, none⟩) (64 * n) cs) ∧ w'.cell? ⟨g, 1, none⟩ = some (.slice A d.trail.length c) ∧ w'.cell? ⟨g, 2, none⟩ = some (.int .i64 d.armed) ∧ w'.cell? ⟨g, 3, none⟩ = some (.bool d.down))
    (first | go_keep | (exact ⟨cell_below hB1 c0, cell_below hB1 c1, cell_below hB1 c2, cell_below hB1 c3⟩) | (exact ⟨cell_below hB2 c0, cell_below hB2 c1, cell_below hB2 c2, cell_below hB2 c3⟩))
    ((first
      | (refine step_append_rd (o := ⟨some 8, _, _, _, _, _⟩) w w.heap.size rfl (.tmp 3) (.tmp 7) 39 5 (.int .u8 0) 1 rfl Try.underlying39 info_u8 rfl _ 0 [] rfl (own_hollow (by first | exact heap_alloc_new _ _ | exact alloc_old _ _ _ | exact alloc_two _ _ _ | exact (hg1.block w.heap.size (by first | (simp; done) | (simp; omega)) (show some w.heap.size ≠ some (w.heap.size + 1) by simp)).trans (alloc_old w.drew _ _) | exact (hg1.block (w.heap.size + 1) (by first | (simp; done) | (simp; omega)) (show some (w.heap.size + 1) ≠ some w.heap.size by simp)).trans (alloc_two w.drew _ _)) (by first | exact Nat.le_refl _ | exact hs1 | omega | (simp; done))) (some ⟨s, 0, none⟩) (64 * n) cs (bv d.img) rfl (hb0.below (by first | exact (Below.refl _ _).drew.alloc (Nat.le_refl _) _ | exact ((Below.refl _ _).drew.alloc (Nat.le_refl _) _).alloc (by simp) _ | exact hB1 | exact hB1.alloc hs1 _)) (bv_one _) (by first | exact (Below.refl _ _).drew.alloc (Nat.le_refl _) _ | exact ((Below.refl _ _).drew.alloc (Nat.le_refl _) _).alloc (by simp) _ | exact hB1 | exact hB1.alloc hs1 _) (by first | exact hs1 | (simp; done) | (simp; omega)) (by omega) (by omega) ?_; intro v1 w1 hown1 hB1 hg1 hs1; rw [Nat.zero_add, List.nil_append] at hown1; obtain ⟨A1, k1, hv1⟩ := own_slice hown1; subst hv1)
      | (refine step_append_rd (o := ⟨some 14, _, _, _, _, _⟩) w w.heap.size rfl (.tmp 9) (.tmp 13) 47 3 (.int .i64 0) 8 rfl Try.underlying47 info_int rfl _ 0 [] rfl (own_hollow (by first | exact heap_alloc_new _ _ | exact alloc_old _ _ _ | exact alloc_two _ _ _ | exact (hg1.block w.heap.size (by first | (simp; done) | (simp; omega)) (show some w.heap.size ≠ some (w.heap.size + 1) by simp)).trans (alloc_old w.drew _ _) | exact (hg1.block (w.heap.size + 1) (by first | (simp; done) | (simp; omega)) (show some (w.heap.size + 1) ≠ some w.heap.size by simp)).trans (alloc_two w.drew _ _)) (by first | exact Nat.le_refl _ | exact hs1 | omega | (simp; done))) A d.trail.length c (iv d.trail) rfl (hr0.below (by first | exact (Below.refl _ _).drew.alloc (Nat.le_refl _) _ | exact ((Below.refl _ _).drew.alloc (Nat.le_refl _) _).alloc (by simp) _ | exact hB1 | exact hB1.alloc hs1 _)) (iv_one _) (by first | exact (Below.refl _ _).drew.alloc (Nat.le_refl _) _ | exact ((Below.refl _ _).drew.alloc (Nat.le_refl _) _).alloc (by simp) _ | exact hB1 | exact hB1.alloc hs1 _) (by first | exact hs1 | (simp; done) | (simp; omega)) (by omega) (by omega) ?_; intro v2 w2 hown2 hB2 hg2 hs2; rw [Nat.zero_add, List.nil_append] at hown2; obtain ⟨A2, k2, hv2⟩ := own_slice hown2; subst hv2; have hk1 : w2.ownsRow w.heap.size 5 1 (.slice A1 (64 * n) k1) (64 * n) (bv d.img) := by first | exact own_past (g := w1.heap.size) (hown1.alloc _) hg2 (heap_alloc_new _ _) (by decide) | exact own_past (g := w.heap.size + 1) hown1 hg2 ((hg1.block (w.heap.size + 1) (by first | (simp; done) | (simp; omega)) (show some (w.heap.size + 1) ≠ some w.heap.size by simp)).trans (alloc_two w.drew _ _)) (by decide) | exact own_past (g := w.heap.size) hown1 hg2 ((hg1.block w.heap.size (by first | (simp; done) | (simp; omega)) (show some w.heap.size ≠ some (w.heap.size + 1) by simp)).trans (alloc_old w.drew _ _)) (by decide))))
  all_goals
    go_wp2
    go_ret
    have hz2 := hB2.size
    refine ⟨w2.heap.size, .slice A1 (64 * n) k1, .slice A2 d.trail.length k2, rfl, ⟨heap_alloc_new _ _, own_lo (hk1.alloc _) (Nat.zero_le _), own_lo (hown2.alloc _) (Nat.zero_le _), hlen, hpos, hle, hlo, hhi⟩, ?_, hB2.alloc hz2 _⟩
    intro k hk
    rcases hk with rfl | hk | hk
    · exact hz2
    · exact own_base hk1 k hk
    · exact own_base hown2 k hk
end Go.Proofs.Ytenfdankgjdfpaa
