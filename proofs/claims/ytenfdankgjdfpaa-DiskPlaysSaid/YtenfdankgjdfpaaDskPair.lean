/- Four disks in memory, two of the program's and two of the document's, each with blocks of its own: told apart by a colouring of the blocks. -/
import Derived.Test.YtenfdankgjdfpaaOps
set_option linter.unusedVariables false
set_option linter.unusedSimpArgs false
namespace Go.Proofs.Ytenfdankgjdfpaa
open Go.RowKit

/-- a disk all of whose blocks have the colour i -/
def In (TD TE sz m : Nat) (w : World) (g n : Nat) (d : DS) (col : Nat → Nat) (i : Nat) : Prop :=
  ∃ s t, Dsk TD TE sz m w g s t n d ∧ ∀ k, Foot g s t k → col k = i
/-- what is new has the colour i -/
def dye (w : World) (col : Nat → Nat) (i k : Nat) : Nat := if k < w.heap.size then col k else i
theorem dye_old {w : World} {col : Nat → Nat} {i k : Nat} (h : k < w.heap.size) : dye w col i k = col k := by unfold dye; rw [if_pos h]
theorem dye_new {w : World} {col : Nat → Nat} {i k : Nat} (h : w.heap.size ≤ k) : dye w col i k = i := by unfold dye; rw [if_neg (by omega)]
section
variable {TD TE sz m g n i : Nat} {w w' : World} {d d' : DS} {col col' : Nat → Nat} {S : Nat → Prop}
theorem In.chg (h : In TD TE sz m w g n d col i) (hc : Chg S w w') (hS : ∀ k, S k → col k ≠ i) : In TD TE sz m w' g n d col i := by
  obtain ⟨s, t, hd, hf⟩ := h
  exact ⟨s, t, hd.chg hc (fun k hk hs => hS k hs (hf k hk)), hf⟩
theorem In.recol (h : In TD TE sz m w g n d col i) (hcol : ∀ k, k < w.heap.size → col' k = col k) : In TD TE sz m w g n d col' i := by
  obtain ⟨s, t, hd, hf⟩ := h
  exact ⟨s, t, hd, fun k hk => (hcol k (hd.lt k hk)).trans (hf k hk)⟩
theorem In.acted {s t t' : Value} (hd : Dsk TD TE sz m w g s t n d) (hf : ∀ k, Foot g s t k → col k = i) (hd' : Dsk TD TE sz m w' g s t' n d')
    (ht : t'.ownBlock = t.ownBlock ∨ ∃ k, t'.ownBlock = some k ∧ w.heap.size ≤ k) : In TD TE sz m w' g n d' (dye w col i) i :=
  ⟨s, t', hd', fun k hk => by
    rcases foot_step ht hk with h | h
    · rw [dye_old (hd.lt k h)]; exact hf k h
    · exact dye_new h⟩
theorem In.new {s t : Value} (hd : Dsk TD TE sz m w' g s t n d) (hF : ∀ k, Foot g s t k → w.heap.size ≤ k) : In TD TE sz m w' g n d (dye w col i) i :=
  ⟨s, t, hd, fun k hk => dye_new (hF k hk)⟩
end
def ptr (g : Nat) : Value := .pointer (some ⟨g, 0, none⟩)
/-- one place turned -/
def upd {α : Type} (f : Nat → α) (k : Nat) (v : α) (i : Nat) : α := if i = k then v else f i
theorem upd_same {α : Type} (f : Nat → α) (k : Nat) (v : α) : upd f k v k = v := by unfold upd; rw [if_pos rfl]
theorem upd_other {α : Type} (f : Nat → α) (k i : Nat) (v : α) (h : i ≠ k) : upd f k v i = f i := by unfold upd; rw [if_neg h]
structure Disks (B gx gy n : Nat) (w : World) (col : Nat → Nat) (p r : Nat → Nat) (d e : Nat → DS) : Prop where
  P : ∀ i, i < 2 → In 87 89 64 n w (p i) n (d i) col (1 + i)
  R : ∀ i, i < 2 → In 91 5 1 (64 * n) w (r i) n (e i) col (3 + i)
  x : w.heap[gx]? = some (.cells #[ptr (p 0), ptr (p 1)] 55 (0, 0))
  y : w.heap[gy]? = some (.cells #[ptr (r 0), ptr (r 1)] 57 (0, 0))
  cx : col gx = 5
  cy : col gy = 6
  lo : ∀ k, k < B → col k = 0
  hB : B ≤ w.heap.size
section
variable {B gx gy n : Nat} {w w' : World} {col col' : Nat → Nat} {p r : Nat → Nat} {d e : Nat → DS} {S : Nat → Prop}
theorem Disks.xlt (h : Disks B gx gy n w col p r d e) : gx < w.heap.size := (Array.getElem?_eq_some_iff.1 h.x).1
theorem Disks.ylt (h : Disks B gx gy n w col p r d e) : gy < w.heap.size := (Array.getElem?_eq_some_iff.1 h.y).1
theorem Disks.chg (h : Disks B gx gy n w col p r d e) (hc : Chg S w w') (hS : ∀ k, S k → col k = 0 ∨ 7 ≤ col k) : Disks B gx gy n w' col p r d e where
  P := fun i hi => (h.P i hi).chg hc (fun k hk => by rcases hS k hk with h | h <;> omega)
  R := fun i hi => (h.R i hi).chg hc (fun k hk => by rcases hS k hk with h | h <;> omega)
  x := (hc.block gx h.xlt (fun hs => by have := h.cx; rcases hS gx hs with h | h <;> omega)).trans h.x
  y := (hc.block gy h.ylt (fun hs => by have := h.cy; rcases hS gy hs with h | h <;> omega)).trans h.y
  cx := h.cx
  cy := h.cy
  lo := h.lo
  hB := Nat.le_trans h.hB hc.size
theorem Disks.below (h : Disks B gx gy n w col p r d e) (hb : Below w.heap.size w w') : Disks B gx gy n w' col p r d e :=
  h.chg (S := fun _ => False) (Chg.of_below hb) (fun k hk => hk.elim)
theorem Disks.recol (h : Disks B gx gy n w col p r d e) (hc : ∀ k, k < w.heap.size → col' k = col k) : Disks B gx gy n w col' p r d e where
  P := fun i hi => (h.P i hi).recol hc
  R := fun i hi => (h.R i hi).recol hc
  x := h.x
  y := h.y
  cx := (hc gx h.xlt).trans h.cx
  cy := (hc gy h.ylt).trans h.cy
  lo := fun k hk => (hc k (Nat.lt_of_lt_of_le hk h.hB)).trans (h.lo k hk)
  hB := h.hB
/-- the program's disk k has acted -/
theorem Disks.actP (h : Disks B gx gy n w col p r d e) {k : Nat} (hk : k < 2) {s t t' : Value} {d' : DS} (hd : PDsk w (p k) s t n (d k)) (hf : ∀ j, Foot (p k) s t j → col j = 1 + k)
    (hd' : PDsk w' (p k) s t' n d') (hc : Chg (Foot (p k) s t) w w') (ht : t'.ownBlock = t.ownBlock ∨ ∃ k, t'.ownBlock = some k ∧ w.heap.size ≤ k) :
    Disks B gx gy n w' (dye w col (1 + k)) p r (upd d k d') e where
  P := fun i hi => by
    by_cases hik : i = k
    · subst hik; rw [upd_same]; exact In.acted hd hf hd' ht
    · rw [upd_other _ _ _ _ hik]
      exact ((h.P i hi).recol (fun j hj => dye_old hj)).chg hc (fun j hj => by rw [dye_old (hd.lt j hj)]; have := hf j hj; omega)
  R := fun i hi => ((h.R i hi).recol (fun j hj => dye_old hj)).chg hc (fun j hj => by rw [dye_old (hd.lt j hj)]; have := hf j hj; omega)
  x := (hc.block gx h.xlt (fun hs => by have := h.cx; have := hf gx hs; omega)).trans h.x
  y := (hc.block gy h.ylt (fun hs => by have := h.cy; have := hf gy hs; omega)).trans h.y
  cx := (dye_old h.xlt).trans h.cx
  cy := (dye_old h.ylt).trans h.cy
  lo := fun j hj => (dye_old (Nat.lt_of_lt_of_le hj h.hB)).trans (h.lo j hj)
  hB := Nat.le_trans h.hB hc.size
/-- the document's disk k has acted -/
theorem Disks.actR (h : Disks B gx gy n w col p r d e) {k : Nat} (hk : k < 2) {s t t' : Value} {d' : DS} (hd : RDsk w (r k) s t n (e k)) (hf : ∀ j, Foot (r k) s t j → col j = 3 + k)
    (hd' : RDsk w' (r k) s t' n d') (hc : Chg (Foot (r k) s t) w w') (ht : t'.ownBlock = t.ownBlock ∨ ∃ k, t'.ownBlock = some k ∧ w.heap.size ≤ k) :
    Disks B gx gy n w' (dye w col (3 + k)) p r d (upd e k d') where
  P := fun i hi => ((h.P i hi).recol (fun j hj => dye_old hj)).chg hc (fun j hj => by rw [dye_old (hd.lt j hj)]; have := hf j hj; omega)
  R := fun i hi => by
    by_cases hik : i = k
    · subst hik; rw [upd_same]; exact In.acted hd hf hd' ht
    · rw [upd_other _ _ _ _ hik]
      exact ((h.R i hi).recol (fun j hj => dye_old hj)).chg hc (fun j hj => by rw [dye_old (hd.lt j hj)]; have := hf j hj; omega)
  x := (hc.block gx h.xlt (fun hs => by have := h.cx; have := hf gx hs; omega)).trans h.x
  y := (hc.block gy h.ylt (fun hs => by have := h.cy; have := hf gy hs; omega)).trans h.y
  cx := (dye_old h.xlt).trans h.cx
  cy := (dye_old h.ylt).trans h.cy
  lo := fun j hj => (dye_old (Nat.lt_of_lt_of_le hj h.hB)).trans (h.lo j hj)
  hB := Nat.le_trans h.hB hc.size
theorem set_two (a b v : Value) (k : Nat) (hk : k < 2) : (#[a, b] : Array Value).setIfInBounds k v = #[if k = 0 then v else a, if k = 1 then v else b] := by
  rcases (show k = 0 ∨ k = 1 by omega) with rfl | rfl <;> rfl
/-- the program's disk k is another one, new -/
theorem Disks.newP (h : Disks B gx gy n w col p r d e) {k : Nat} (hk : k < 2) {g : Nat} {s t : Value} {d' : DS} (hd' : PDsk w' g s t n d') (hF : ∀ j, Foot g s t j → w.heap.size ≤ j) (hb : Below w.heap.size w w') :
    Disks B gx gy n (w'.setCell ⟨gx, k, none⟩ (ptr g)) (dye w col (1 + k)) (upd p k g) r (upd d k d') e := by
  have h' := h.below hb
  have hC : Chg (fun j => j = gx) w' (w'.setCell ⟨gx, k, none⟩ (ptr g)) := (Chg.refl (fun j => j = gx) w').setCell (p := ⟨gx, k, none⟩) rfl (ptr g)
  have hxr : dye w col (1 + k) gx = 5 := (dye_old h.xlt).trans h.cx
  have hyr : dye w col (1 + k) gy = 6 := (dye_old h.ylt).trans h.cy
  refine ⟨fun i hi => ?_, fun i hi => ?_, ?_, ?_, hxr, hyr, fun j hj => (dye_old (Nat.lt_of_lt_of_le hj h.hB)).trans (h.lo j hj), ?_⟩
  · by_cases hik : i = k
    · subst hik
      rw [upd_same, upd_same]
      exact (In.new hd' hF).chg hC (fun j hj => by subst hj; omega)
    · rw [upd_other _ _ _ _ hik, upd_other _ _ _ _ hik]
      refine ((((h.P i hi).recol (col' := dye w col (1 + k)) (fun j hj => dye_old hj)).chg (S := fun _ => False) (Chg.of_below hb) (fun j hj => hj.elim))).chg hC (fun j hj => by subst hj; omega)
  · exact ((((h.R i hi).recol (col' := dye w col (1 + k)) (fun j hj => dye_old hj)).chg (S := fun _ => False) (Chg.of_below hb) (fun j hj => hj.elim))).chg hC (fun j hj => by subst hj; omega)
  · rw [heap_setCell_same w' gx k _ _ _ h'.x, set_two _ _ _ k hk]
    unfold upd
    rcases (show k = 0 ∨ k = 1 by omega) with rfl | rfl <;> simp
  · rw [heap_setCell_other _ _ _ _ (by show gy ≠ gx; intro e; rw [e] at hyr; omega)]
    exact h'.y
  · rw [show (w'.setCell ⟨gx, k, none⟩ (ptr g)).heap.size = w'.heap.size by simp [World.setCell]]
    exact h'.hB
theorem Disks.newR (h : Disks B gx gy n w col p r d e) {k : Nat} (hk : k < 2) {g : Nat} {s t : Value} {d' : DS} (hd' : RDsk w' g s t n d') (hF : ∀ j, Foot g s t j → w.heap.size ≤ j) (hb : Below w.heap.size w w') :
    Disks B gx gy n (w'.setCell ⟨gy, k, none⟩ (ptr g)) (dye w col (3 + k)) p (upd r k g) d (upd e k d') := by
  have h' := h.below hb
  have hC : Chg (fun j => j = gy) w' (w'.setCell ⟨gy, k, none⟩ (ptr g)) := (Chg.refl (fun j => j = gy) w').setCell (p := ⟨gy, k, none⟩) rfl (ptr g)
  have hxr : dye w col (3 + k) gx = 5 := (dye_old h.xlt).trans h.cx
  have hyr : dye w col (3 + k) gy = 6 := (dye_old h.ylt).trans h.cy
  refine ⟨fun i hi => ?_, fun i hi => ?_, ?_, ?_, hxr, hyr, fun j hj => (dye_old (Nat.lt_of_lt_of_le hj h.hB)).trans (h.lo j hj), ?_⟩
  · exact ((((h.P i hi).recol (col' := dye w col (3 + k)) (fun j hj => dye_old hj)).chg (S := fun _ => False) (Chg.of_below hb) (fun j hj => hj.elim))).chg hC (fun j hj => by subst hj; omega)
  · by_cases hik : i = k
    · subst hik
      rw [upd_same, upd_same]
      exact (In.new hd' hF).chg hC (fun j hj => by subst hj; omega)
    · rw [upd_other _ _ _ _ hik, upd_other _ _ _ _ hik]
      refine ((((h.R i hi).recol (col' := dye w col (3 + k)) (fun j hj => dye_old hj)).chg (S := fun _ => False) (Chg.of_below hb) (fun j hj => hj.elim))).chg hC (fun j hj => by subst hj; omega)
  · rw [heap_setCell_other _ _ _ _ (by show gx ≠ gy; intro e; rw [e] at hxr; omega)]
    exact h'.x
  · rw [heap_setCell_same w' gy k _ _ _ h'.y, set_two _ _ _ k hk]
    unfold upd
    rcases (show k = 0 ∨ k = 1 by omega) with rfl | rfl <;> simp
  · rw [show (w'.setCell ⟨gy, k, none⟩ (ptr g)).heap.size = w'.heap.size by simp [World.setCell]]
    exact h'.hB
/-- the cells of the two rows -/
theorem Disks.xk (h : Disks B gx gy n w col p r d e) {k : Nat} (hk : k < 2) : w.cell? ⟨gx, k, none⟩ = some (.pointer (some ⟨p k, 0, none⟩)) := by
  rw [cell_of_row w gx k _ _ _ h.x]
  rcases (show k = 0 ∨ k = 1 by omega) with rfl | rfl <;> rfl
theorem Disks.yk (h : Disks B gx gy n w col p r d e) {k : Nat} (hk : k < 2) : w.cell? ⟨gy, k, none⟩ = some (.pointer (some ⟨r k, 0, none⟩)) := by
  rw [cell_of_row w gy k _ _ _ h.y]
  rcases (show k = 0 ∨ k = 1 by omega) with rfl | rfl <;> rfl
end
end Go.Proofs.Ytenfdankgjdfpaa
