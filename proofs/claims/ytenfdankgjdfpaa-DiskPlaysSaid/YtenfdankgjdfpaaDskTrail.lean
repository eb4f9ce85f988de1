/- The trail is told, the program's way and the document's. -/
import Derived.Test.YtenfdankgjdfpaaDskRdv
import Derived.Deep.RegionHeldLaw
import Derived.RegionTactic
set_option linter.unusedVariables false
set_option linter.unusedSimpArgs false
namespace Go.Proofs.Ytenfdankgjdfpaa
open Go.RowKit

set_option maxHeartbeats 1000000

theorem trail_mid (w : World) (g : Nat) (A : Option Addr) (c : Nat) (l : List Int) (k : Nat) (hgl : g < w.heap.size) (c1 : w.cell? ⟨g, 1, none⟩ = some (.slice A l.length c)) (hr : Rdv w A l.length (iv l)) (ht : l.length ≤ 1000000) (hcap : l.length ≤ c) (hk : k ≤ l.length) (hkp : 0 < k) :
    Calls Try.prog 20 #[.pointer (some ⟨g, 0, none⟩), .int .i64 k] w (RetInts w.heap.size (l.drop k) w) := by
  have hk2 : (l.length < k) = False := by simp; omega
  have hd : Rdv w (if c = k then A else A.map (·.add k)) (l.length - k) (iv (l.drop k)) := by
    have := hr.drop_if k c hk hcap
    simpa only [iv, List.map_drop] using this
  go_enter Try.func20, Try.ntmps20
  go_wp2
  go_region_held_law (fun w' => w'.cell? ⟨g, 1, none⟩ = some (.slice A l.length c)) (go_keep) ((refine step_append_rd (o := ⟨some 19, _, _, _, _, _⟩) w w.heap.size rfl (.tmp 5) (.tmp 18) 47 3 (.int .i64 0) 8 rfl Try.underlying47 info_int rfl _ 0 [] rfl (own_empty _ _ _ _ _ (Nat.le_refl _) (heap_alloc_new _ _)) _ (l.length - k) _ _ rfl (hd.drew.below ((Below.refl _ _).alloc (Nat.le_refl _) _)) (iv_one _) ((Below.refl _ _).drew.alloc (Nat.le_refl _) _) (by simp) (by omega) (by omega) ?_; intro v1 w1 hown1 hB1 hg1 hs1; have hk1 := cell_below hB1 c1))
  all_goals (go_wp2 <;> (go_ret; exact RetInts.of (l := l.drop k) hown1 (by simp) hB1))

theorem trail_low (w : World) (g : Nat) (A : Option Addr) (c : Nat) (l : List Int) (z : Int) (hgl : g < w.heap.size) (c1 : w.cell? ⟨g, 1, none⟩ = some (.slice A l.length c)) (hr : Rdv w A l.length (iv l)) (ht : l.length ≤ 1000000) (hcap : l.length ≤ c) (hz : z ≤ 0) :
    Calls Try.prog 20 #[.pointer (some ⟨g, 0, none⟩), .int .i64 z] w (RetInts w.heap.size l w) := by
  have hk2 : (0 < z) = False := by simp; omega
  have hd : Rdv w A l.length (iv l) := hr
  go_enter Try.func20, Try.ntmps20
  go_wp2
  go_region_held_law (fun w' => w'.cell? ⟨g, 1, none⟩ = some (.slice A l.length c)) (go_keep) ((refine step_append_rd (o := ⟨some 19, _, _, _, _, _⟩) w w.heap.size rfl (.tmp 5) (.tmp 18) 47 3 (.int .i64 0) 8 rfl Try.underlying47 info_int rfl _ 0 [] rfl (own_empty _ _ _ _ _ (Nat.le_refl _) (heap_alloc_new _ _)) _ (l.length) _ _ rfl (hd.drew.below ((Below.refl _ _).alloc (Nat.le_refl _) _)) (iv_one _) ((Below.refl _ _).drew.alloc (Nat.le_refl _) _) (by simp) (by omega) (by omega) ?_; intro v1 w1 hown1 hB1 hg1 hs1; have hk1 := cell_below hB1 c1))
  all_goals (go_wp2 <;> (go_ret; exact RetInts.of (l := l) hown1 (by simp) hB1))

theorem trail_high (w : World) (g : Nat) (A : Option Addr) (c : Nat) (l : List Int) (k : Nat) (hgl : g < w.heap.size) (c1 : w.cell? ⟨g, 1, none⟩ = some (.slice A l.length c)) (hr : Rdv w A l.length (iv l)) (ht : l.length ≤ 1000000) (hcap : l.length ≤ c) (hk : l.length < k) :
    Calls Try.prog 20 #[.pointer (some ⟨g, 0, none⟩), .int .i64 k] w (RetInts w.heap.size [] w) := by
  have hkp : 0 < k := by omega
  have hk2 : (l.length < k) = True := by simp; omega
  have hd : Rdv w (if c = l.length then A else A.map (·.add l.length)) 0 (iv []) := by
    have := hr.drop_if l.length c (Nat.le_refl _) hcap
    have e : (iv l).drop l.length = [] := List.drop_of_length_le (by rw [iv_length]; exact Nat.le_refl _)
    rw [e, Nat.sub_self] at this
    exact this
  go_enter Try.func20, Try.ntmps20
  go_wp2
  go_region_held_law (fun w' => w'.cell? ⟨g, 1, none⟩ = some (.slice A l.length c)) (go_keep) ((refine step_append_rd (o := ⟨some 19, _, _, _, _, _⟩) w w.heap.size rfl (.tmp 5) (.tmp 18) 47 3 (.int .i64 0) 8 rfl Try.underlying47 info_int rfl _ 0 [] rfl (own_empty _ _ _ _ _ (Nat.le_refl _) (heap_alloc_new _ _)) _ (0) _ _ rfl (hd.drew.below ((Below.refl _ _).alloc (Nat.le_refl _) _)) (iv_one _) ((Below.refl _ _).drew.alloc (Nat.le_refl _) _) (by simp) (by omega) (by omega) ?_; intro v1 w1 hown1 hB1 hg1 hs1; have hk1 := cell_below hB1 c1))
  all_goals (go_wp2 <;> (go_ret; exact RetInts.of (l := []) hown1 (by simp) hB1))

theorem trail_walk (w : World) (g n : Nat) (sv tv : Value) (d : DS) (z : Int) (h : PDsk w g sv tv n d) (ht : d.trail.length ≤ 1000000) :
    Calls Try.prog 20 #[.pointer (some ⟨g, 0, none⟩), .int .i64 z] w (RetInts w.heap.size (trailOf d z) w) := by
  have c1 := h.c1
  have hgl := h.lt g (.inl rfl)
  obtain ⟨A, c, hv⟩ := h.tv
  subst hv
  have hr := Rdv.of_own h.tr
  have hcap : d.trail.length ≤ c := by
    rcases h.tr.2 with ⟨h0, hx⟩ | ⟨g', cap, cur, h1, _, _, h2, _⟩
    · rw [Value.slice.injEq] at h0; omega
    · rw [Value.slice.injEq] at h1; omega
  by_cases h0 : z ≤ 0
  · have e : trailOf d z = d.trail := by
      unfold trailOf
      rw [show min (max 0 z).toNat d.trail.length = 0 by omega, List.drop_zero]
    rw [e]
    exact trail_low w g A c d.trail z hgl c1 hr ht hcap h0
  · obtain ⟨k, rfl⟩ := Int.eq_ofNat_of_zero_le (show 0 ≤ z by omega)
    by_cases h1 : k ≤ d.trail.length
    · have e : trailOf d k = d.trail.drop k := by
        unfold trailOf
        rw [show min (max 0 (k : Int)).toNat d.trail.length = k by omega]
      rw [e]
      exact trail_mid w g A c d.trail k hgl c1 hr ht hcap h1 (by omega)
    · have e : trailOf d k = [] := by
        unfold trailOf
        rw [show min (max 0 (k : Int)).toNat d.trail.length = d.trail.length by omega, List.drop_length]
      rw [e]
      exact trail_high w g A c d.trail k hgl c1 hr ht hcap (by omega)

theorem rtrail_mid (w : World) (g : Nat) (A : Option Addr) (c : Nat) (l : List Int) (k : Nat) (hgl : g < w.heap.size) (c1 : w.cell? ⟨g, 1, none⟩ = some (.slice A l.length c)) (hr : Rdv w A l.length (iv l)) (ht : l.length ≤ 1000000) (hcap : l.length ≤ c) (hk : k ≤ l.length) (hkp : 0 < k) :
    Calls Try.prog 46 #[.pointer (some ⟨g, 0, none⟩), .int .i64 k] w (RetInts w.heap.size (l.drop k) w) := by
  have hk2 : (l.length < k) = False := by simp; omega
  have hd : Rdv w (if c = k then A else A.map (·.add k)) (l.length - k) (iv (l.drop k)) := by
    have := hr.drop_if k c hk hcap
    simpa only [iv, List.map_drop] using this
  go_enter Try.func46, Try.ntmps46
  go_wp2
  go_region_held_law (fun w' => w'.cell? ⟨g, 1, none⟩ = some (.slice A l.length c)) (go_keep) ((refine step_append_rd (o := ⟨some 19, _, _, _, _, _⟩) w w.heap.size rfl (.tmp 5) (.tmp 18) 47 3 (.int .i64 0) 8 rfl Try.underlying47 info_int rfl _ 0 [] rfl (own_empty _ _ _ _ _ (Nat.le_refl _) (heap_alloc_new _ _)) _ (l.length - k) _ _ rfl (hd.drew.below ((Below.refl _ _).alloc (Nat.le_refl _) _)) (iv_one _) ((Below.refl _ _).drew.alloc (Nat.le_refl _) _) (by simp) (by omega) (by omega) ?_; intro v1 w1 hown1 hB1 hg1 hs1; have hk1 := cell_below hB1 c1))
  all_goals (go_wp2 <;> (go_ret; exact RetInts.of (l := l.drop k) hown1 (by simp) hB1))

theorem rtrail_low (w : World) (g : Nat) (A : Option Addr) (c : Nat) (l : List Int) (z : Int) (hgl : g < w.heap.size) (c1 : w.cell? ⟨g, 1, none⟩ = some (.slice A l.length c)) (hr : Rdv w A l.length (iv l)) (ht : l.length ≤ 1000000) (hcap : l.length ≤ c) (hz : z ≤ 0) :
    Calls Try.prog 46 #[.pointer (some ⟨g, 0, none⟩), .int .i64 z] w (RetInts w.heap.size l w) := by
  have hk2 : (0 < z) = False := by simp; omega
  have hd : Rdv w A l.length (iv l) := hr
  go_enter Try.func46, Try.ntmps46
  go_wp2
  go_region_held_law (fun w' => w'.cell? ⟨g, 1, none⟩ = some (.slice A l.length c)) (go_keep) ((refine step_append_rd (o := ⟨some 19, _, _, _, _, _⟩) w w.heap.size rfl (.tmp 5) (.tmp 18) 47 3 (.int .i64 0) 8 rfl Try.underlying47 info_int rfl _ 0 [] rfl (own_empty _ _ _ _ _ (Nat.le_refl _) (heap_alloc_new _ _)) _ (l.length) _ _ rfl (hd.drew.below ((Below.refl _ _).alloc (Nat.le_refl _) _)) (iv_one _) ((Below.refl _ _).drew.alloc (Nat.le_refl _) _) (by simp) (by omega) (by omega) ?_; intro v1 w1 hown1 hB1 hg1 hs1; have hk1 := cell_below hB1 c1))
  all_goals (go_wp2 <;> (go_ret; exact RetInts.of (l := l) hown1 (by simp) hB1))

theorem rtrail_high (w : World) (g : Nat) (A : Option Addr) (c : Nat) (l : List Int) (k : Nat) (hgl : g < w.heap.size) (c1 : w.cell? ⟨g, 1, none⟩ = some (.slice A l.length c)) (hr : Rdv w A l.length (iv l)) (ht : l.length ≤ 1000000) (hcap : l.length ≤ c) (hk : l.length < k) :
    Calls Try.prog 46 #[.pointer (some ⟨g, 0, none⟩), .int .i64 k] w (RetInts w.heap.size [] w) := by
  have hkp : 0 < k := by omega
  have hk2 : (l.length < k) = True := by simp; omega
  have hd : Rdv w (if c = l.length then A else A.map (·.add l.length)) 0 (iv []) := by
    have := hr.drop_if l.length c (Nat.le_refl _) hcap
    have e : (iv l).drop l.length = [] := List.drop_of_length_le (by rw [iv_length]; exact Nat.le_refl _)
    rw [e, Nat.sub_self] at this
    exact this
  go_enter Try.func46, Try.ntmps46
  go_wp2
  go_region_held_law (fun w' => w'.cell? ⟨g, 1, none⟩ = some (.slice A l.length c)) (go_keep) ((refine step_append_rd (o := ⟨some 19, _, _, _, _, _⟩) w w.heap.size rfl (.tmp 5) (.tmp 18) 47 3 (.int .i64 0) 8 rfl Try.underlying47 info_int rfl _ 0 [] rfl (own_empty _ _ _ _ _ (Nat.le_refl _) (heap_alloc_new _ _)) _ (0) _ _ rfl (hd.drew.below ((Below.refl _ _).alloc (Nat.le_refl _) _)) (iv_one _) ((Below.refl _ _).drew.alloc (Nat.le_refl _) _) (by simp) (by omega) (by omega) ?_; intro v1 w1 hown1 hB1 hg1 hs1; have hk1 := cell_below hB1 c1))
  all_goals (go_wp2 <;> (go_ret; exact RetInts.of (l := []) hown1 (by simp) hB1))

theorem rtrail_walk (w : World) (g n : Nat) (sv tv : Value) (d : DS) (z : Int) (h : RDsk w g sv tv n d) (ht : d.trail.length ≤ 1000000) :
    Calls Try.prog 46 #[.pointer (some ⟨g, 0, none⟩), .int .i64 z] w (RetInts w.heap.size (trailOf d z) w) := by
  have c1 := h.c1
  have hgl := h.lt g (.inl rfl)
  obtain ⟨A, c, hv⟩ := h.tv
  subst hv
  have hr := Rdv.of_own h.tr
  have hcap : d.trail.length ≤ c := by
    rcases h.tr.2 with ⟨h0, hx⟩ | ⟨g', cap, cur, h1, _, _, h2, _⟩
    · rw [Value.slice.injEq] at h0; omega
    · rw [Value.slice.injEq] at h1; omega
  by_cases h0 : z ≤ 0
  · have e : trailOf d z = d.trail := by
      unfold trailOf
      rw [show min (max 0 z).toNat d.trail.length = 0 by omega, List.drop_zero]
    rw [e]
    exact rtrail_low w g A c d.trail z hgl c1 hr ht hcap h0
  · obtain ⟨k, rfl⟩ := Int.eq_ofNat_of_zero_le (show 0 ≤ z by omega)
    by_cases h1 : k ≤ d.trail.length
    · have e : trailOf d k = d.trail.drop k := by
        unfold trailOf
        rw [show min (max 0 (k : Int)).toNat d.trail.length = k by omega]
      rw [e]
      exact rtrail_mid w g A c d.trail k hgl c1 hr ht hcap h1 (by omega)
    · have e : trailOf d k = [] := by
        unfold trailOf
        rw [show min (max 0 (k : Int)).toNat d.trail.length = d.trail.length by omega, List.drop_length]
      rw [e]
      exact rtrail_high w g A c d.trail k hgl c1 hr ht hcap (by omega)
end Go.Proofs.Ytenfdankgjdfpaa
