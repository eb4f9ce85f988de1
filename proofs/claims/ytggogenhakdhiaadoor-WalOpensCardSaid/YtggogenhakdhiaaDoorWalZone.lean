/- Two disks in memory, the program's and the document's, each with blocks of its own: told apart by a colouring of the blocks. -/
import Derived.Test.YtggogenhakdhiaaDoorDskSmall
import Derived.Test.YtggogenhakdhiaaDoorDskLay
set_option linter.unusedVariables false
set_option linter.unusedSimpArgs false
namespace Go.Proofs.YtggogenhakdhiaaDoor
open Go.RowKit

theorem foot_acted {g : Nat} {sv tv tv' : Value} {B k : Nat} (ht : tv'.ownBlock = tv.ownBlock ∨ ∃ j, tv'.ownBlock = some j ∧ B ≤ j) (h : Foot g sv tv' k) : Foot g sv tv k ∨ B ≤ k := by
  rcases h with h | h | h
  · exact .inl (.inl h)
  · exact .inl (.inr (.inl h))
  · rcases ht with ht | ⟨j, ht, hj⟩
    · exact .inl (.inr (.inr (by rw [← ht]; exact h)))
    · right
      rw [ht] at h
      have := Option.some.inj h
      omega
/-- a disk all of whose blocks have the colour i -/
def In (TD TE sz m : Nat) (w : World) (g n : Nat) (d : DS) (col : Nat → Nat) (i : Nat) : Prop :=
  ∃ s t, Dsk TD TE sz m w g s t n d ∧ ∀ k, Foot g s t k → col k = i
/-- what is new has the colour i -/
def dye (w : World) (col : Nat → Nat) (i k : Nat) : Nat := if k < w.heap.size then col k else i
theorem dye_old {w : World} {col : Nat → Nat} {i k : Nat} (h : k < w.heap.size) : dye w col i k = col k := by unfold dye; rw [if_pos h]
theorem dye_new {w : World} {col : Nat → Nat} {i k : Nat} (h : w.heap.size ≤ k) : dye w col i k = i := by unfold dye; rw [if_neg (by omega)]
section
variable {TD TE sz m g n i : Nat} {w w' : World} {d d' : DS} {col col' : Nat → Nat} {S : Nat → Prop}
theorem In.chg (h : In TD TE sz m w g n d col i) (hc : Chg S w w') (hS : ∀ k, S k → col k ≠ i) : In TD TE sz m w' g n d col i := by
  obtain ⟨s, t, hd, hf⟩ := h
  exact ⟨s, t, hd.chg hc (fun k hk hs => hS k hs (hf k hk)), hf⟩
theorem In.recol (h : In TD TE sz m w g n d col i) (hcol : ∀ k, k < w.heap.size → col' k = col k) : In TD TE sz m w g n d col' i := by
  obtain ⟨s, t, hd, hf⟩ := h
  exact ⟨s, t, hd, fun k hk => (hcol k (hd.lt k hk)).trans (hf k hk)⟩
theorem In.acted {s t t' : Value} (hd : Dsk TD TE sz m w g s t n d) (hf : ∀ k, Foot g s t k → col k = i) (hd' : Dsk TD TE sz m w' g s t' n d')
    (ht : t'.ownBlock = t.ownBlock ∨ ∃ k, t'.ownBlock = some k ∧ w.heap.size ≤ k) : In TD TE sz m w' g n d' (dye w col i) i :=
  ⟨s, t', hd', fun k hk => by
    rcases foot_acted ht hk with h | h
    · rw [dye_old (hd.lt k h)]; exact hf k h
    · exact dye_new h⟩
theorem In.new {s t : Value} (hd : Dsk TD TE sz m w' g s t n d) (hF : ∀ k, Foot g s t k → w.heap.size ≤ k) : In TD TE sz m w' g n d (dye w col i) i :=
  ⟨s, t, hd, fun k hk => dye_new (hF k hk)⟩
theorem In.below (h : In TD TE sz m w g n d col i) (hb : Below w.heap.size w w') : In TD TE sz m w' g n d col i := h.chg (S := fun _ => False) (Chg.of_below hb) (fun _ hk => hk.elim)
end
/-- the program's disk p and the document's r; the blocks below B are none of theirs -/
structure Two (B n : Nat) (w : World) (col : Nat → Nat) (p r : Nat) (d e : DS) : Prop where
  P : In 82 84 64 n w p n d col 1
  R : In 65 5 1 (64 * n) w r n e col 2
  lo : ∀ k, k < B → col k = 0
  hB : B ≤ w.heap.size
section
variable {B n : Nat} {w w' : World} {col col' : Nat → Nat} {p r : Nat} {d e : DS} {S : Nat → Prop}
theorem Two.chg (h : Two B n w col p r d e) (hc : Chg S w w') (hS : ∀ k, S k → col k ≠ 1 ∧ col k ≠ 2) : Two B n w' col p r d e :=
  ⟨h.P.chg hc (fun k hk => (hS k hk).1), h.R.chg hc (fun k hk => (hS k hk).2), h.lo, Nat.le_trans h.hB hc.size⟩
theorem Two.below (h : Two B n w col p r d e) (hb : Below w.heap.size w w') : Two B n w' col p r d e := h.chg (S := fun _ => False) (Chg.of_below hb) (fun k hk => hk.elim)
theorem Two.recol (h : Two B n w col p r d e) (hc : ∀ k, k < w.heap.size → col' k = col k) : Two B n w col' p r d e :=
  ⟨h.P.recol hc, h.R.recol hc, fun k hk => (hc k (Nat.lt_of_lt_of_le hk h.hB)).trans (h.lo k hk), h.hB⟩
theorem Two.actP (h : Two B n w col p r d e) {s t t' : Value} {d' : DS} (hd : PDsk w p s t n d) (hf : ∀ j, Foot p s t j → col j = 1)
    (hd' : PDsk w' p s t' n d') (hc : Chg (Foot p s t) w w') (ht : t'.ownBlock = t.ownBlock ∨ ∃ k, t'.ownBlock = some k ∧ w.heap.size ≤ k) : Two B n w' (dye w col 1) p r d' e :=
  ⟨In.acted hd hf hd' ht, (h.R.recol (fun j hj => dye_old hj)).chg hc (fun j hj => by rw [dye_old (hd.lt j hj), hf j hj]; omega), fun j hj => (dye_old (Nat.lt_of_lt_of_le hj h.hB)).trans (h.lo j hj), Nat.le_trans h.hB hc.size⟩
theorem Two.actR (h : Two B n w col p r d e) {s t t' : Value} {e' : DS} (hd : RDsk w r s t n e) (hf : ∀ j, Foot r s t j → col j = 2)
    (hd' : RDsk w' r s t' n e') (hc : Chg (Foot r s t) w w') (ht : t'.ownBlock = t.ownBlock ∨ ∃ k, t'.ownBlock = some k ∧ w.heap.size ≤ k) : Two B n w' (dye w col 2) p r d e' :=
  ⟨(h.P.recol (fun j hj => dye_old hj)).chg hc (fun j hj => by rw [dye_old (hd.lt j hj), hf j hj]; omega), In.acted hd hf hd' ht, fun j hj => (dye_old (Nat.lt_of_lt_of_le hj h.hB)).trans (h.lo j hj), Nat.le_trans h.hB hc.size⟩
/-- what a disk's act turns lies above B -/
theorem Two.low (h : Two B n w col p r d e) {s t : Value} {g i : Nat} (hf : ∀ j, Foot g s t j → col j = i) (hi : i ≠ 0) (hc : Chg (Foot g s t) w w') : Below B w w' :=
  hc.below h.hB (fun k hk hF => hi ((hf k hF).symm.trans (h.lo k hk)))
end
end Go.Proofs.YtggogenhakdhiaaDoor
