/- The state of DiskPlays within a round: four disks, the act's own copy, and what was there before. -/
import Derived.Test.YtenfdankgjdfpaaDskPair
set_option linter.unusedVariables false
set_option linter.unusedSimpArgs false
namespace Go.Proofs.Ytenfdankgjdfpaa
open Go.RowKit

structure St (B gx gy go n : Nat) (w0 w : World) (col : Nat → Nat) (p r : Nat → Nat) (d e : Nat → DS) (O : Array Value) : Prop where
  D : Disks B gx gy n w col p r d e
  c8 : col go = 8
  o : w.heap[go]? = some (.cells O 41 (0, 0))
  b : Below B w0 w
section
variable {B gx gy go n : Nat} {w0 w w' : World} {col col' : Nat → Nat} {p r : Nat → Nat} {d e : Nat → DS} {O : Array Value} {S : Nat → Prop} {o0 o1 o2 o3 o4 : Value}
theorem St.gl (h : St B gx gy go n w0 w col p r d e O) : go < w.heap.size := (Array.getElem?_eq_some_iff.1 h.o).1
theorem Disks.low (h : Disks B gx gy n w col p r d e) (hc : Chg S w w') (hS : ∀ k, S k → col k ≠ 0) : Below B w w' := hc.below h.hB (fun k hk hs => hS k hs (h.lo k hk))
theorem St.below (h : St B gx gy go n w0 w col p r d e O) (hb : Below w.heap.size w w') : St B gx gy go n w0 w' col p r d e O :=
  ⟨h.D.below hb, h.c8, (hb.block go h.gl).trans h.o, h.b.trans (hb.mono h.D.hB)⟩
theorem St.drew (h : St B gx gy go n w0 w col p r d e O) : St B gx gy go n w0 w.drew col p r d e O := h.below (below_drew (Below.refl _ _))
theorem St.dye7 (h : St B gx gy go n w0 w col p r d e O) (c : Nat) : St B gx gy go n w0 w (dye w col c) p r d e O :=
  ⟨h.D.recol (fun k hk => dye_old hk), (dye_old h.gl).trans h.c8, h.o, h.b⟩
/-- a row of colour 7 was written to -/
theorem St.own (h : St B gx gy go n w0 w col p r d e O) (hc : Chg S w w') (hS : ∀ k, S k → col k = 7) : St B gx gy go n w0 w' col p r d e O :=
  ⟨h.D.chg hc (fun k hk => .inr (by have := hS k hk; omega)), h.c8, (hc.block go h.gl (fun hs => by have := hS go hs; have := h.c8; omega)).trans h.o, h.b.trans (h.D.low hc (fun k hk => by have := hS k hk; omega))⟩
theorem St.actP (h : St B gx gy go n w0 w col p r d e O) {k : Nat} (hk : k < 2) {s t t' : Value} {d' : DS} (hd : PDsk w (p k) s t n (d k)) (hf : ∀ j, Foot (p k) s t j → col j = 1 + k)
    (hd' : PDsk w' (p k) s t' n d') (hc : Chg (Foot (p k) s t) w w') (ht : t'.ownBlock = t.ownBlock ∨ ∃ k, t'.ownBlock = some k ∧ w.heap.size ≤ k) :
    ∃ col', (∀ k, k < w.heap.size → col' k = col k) ∧ St B gx gy go n w0 w' col' p r (upd d k d') e O :=
  ⟨dye w col (1 + k), fun j hj => dye_old hj, h.D.actP hk hd hf hd' hc ht, (dye_old h.gl).trans h.c8, (hc.block go h.gl (fun hs => by have := hf go hs; have := h.c8; omega)).trans h.o,
    h.b.trans (h.D.low hc (fun j hj => by have := hf j hj; omega))⟩
theorem St.actR (h : St B gx gy go n w0 w col p r d e O) {k : Nat} (hk : k < 2) {s t t' : Value} {d' : DS} (hd : RDsk w (r k) s t n (e k)) (hf : ∀ j, Foot (r k) s t j → col j = 3 + k)
    (hd' : RDsk w' (r k) s t' n d') (hc : Chg (Foot (r k) s t) w w') (ht : t'.ownBlock = t.ownBlock ∨ ∃ k, t'.ownBlock = some k ∧ w.heap.size ≤ k) :
    ∃ col', (∀ k, k < w.heap.size → col' k = col k) ∧ St B gx gy go n w0 w' col' p r d (upd e k d') O :=
  ⟨dye w col (3 + k), fun j hj => dye_old hj, h.D.actR hk hd hf hd' hc ht, (dye_old h.gl).trans h.c8, (hc.block go h.gl (fun hs => by have := hf go hs; have := h.c8; omega)).trans h.o,
    h.b.trans (h.D.low hc (fun j hj => by have := hf j hj; omega))⟩
theorem St.newP (h : St B gx gy go n w0 w col p r d e O) {k : Nat} (hk : k < 2) {g : Nat} {s t : Value} {d' : DS} (hd' : PDsk w' g s t n d') (hF : ∀ j, Foot g s t j → w.heap.size ≤ j) (hb : Below w.heap.size w w') :
    ∃ col', St B gx gy go n w0 (w'.setCell ⟨gx, k, none⟩ (.pointer (some ⟨g, 0, none⟩))) col' (upd p k g) r (upd d k d') e O := by
  have hx5 := h.D.cx
  have h8 := h.c8
  have hne : go ≠ gx := by rintro rfl; omega
  refine ⟨dye w col (1 + k), h.D.newP hk hd' hF hb, (dye_old h.gl).trans h.c8, ?_, ?_⟩
  · rw [heap_setCell_other _ _ _ _ hne]; exact (hb.block go h.gl).trans h.o
  · have hgx : B ≤ gx := by
      by_cases hlt : gx < B
      · have := h.D.lo gx hlt; omega
      · omega
    exact (h.b.trans (hb.mono h.D.hB)).setCell hgx _
theorem St.newR (h : St B gx gy go n w0 w col p r d e O) {k : Nat} (hk : k < 2) {g : Nat} {s t : Value} {d' : DS} (hd' : RDsk w' g s t n d') (hF : ∀ j, Foot g s t j → w.heap.size ≤ j) (hb : Below w.heap.size w w') :
    ∃ col', St B gx gy go n w0 (w'.setCell ⟨gy, k, none⟩ (.pointer (some ⟨g, 0, none⟩))) col' p (upd r k g) d (upd e k d') O := by
  have hx5 := h.D.cy
  have h8 := h.c8
  have hne : go ≠ gy := by rintro rfl; omega
  refine ⟨dye w col (3 + k), h.D.newR hk hd' hF hb, (dye_old h.gl).trans h.c8, ?_, ?_⟩
  · rw [heap_setCell_other _ _ _ _ hne]; exact (hb.block go h.gl).trans h.o
  · have hgx : B ≤ gy := by
      by_cases hlt : gy < B
      · have := h.D.lo gy hlt; omega
      · omega
    exact (h.b.trans (hb.mono h.D.hB)).setCell hgx _
/-- the cells that a round reads -/
theorem St.cells (h : St B gx gy go n w0 w col p r d e #[o0, o1, o2, o3, o4]) {k : Nat} (hk : k < 2) :
    w.cell? ⟨gx, k, none⟩ = some (.pointer (some ⟨p k, 0, none⟩)) ∧ w.cell? ⟨gy, k, none⟩ = some (.pointer (some ⟨r k, 0, none⟩)) ∧ w.cell? ⟨go, 1, none⟩ = some o1 ∧ w.cell? ⟨go, 2, none⟩ = some o2 ∧ w.cell? ⟨go, 3, none⟩ = some o3 :=
  ⟨h.D.xk hk, h.D.yk hk, by rw [cell_of_row w go 1 _ _ _ h.o]; rfl, by rw [cell_of_row w go 2 _ _ _ h.o]; rfl, by rw [cell_of_row w go 3 _ _ _ h.o]; rfl⟩
theorem St.kind (h : St B gx gy go n w0 w col p r d e #[o0, o1, o2, o3, o4]) : w.cell? ⟨go, 0, none⟩ = some o0 := by rw [cell_of_row w go 0 _ _ _ h.o]; rfl
end
end Go.Proofs.Ytenfdankgjdfpaa
