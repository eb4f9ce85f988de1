/- What a cut leaves: the plain law of DiskCuts: two disks, one armed with k. -/
import Derived.Test.YtenfdankgjdfpaaDskWorks
set_option linter.unusedVariables false
set_option linter.unusedSimpArgs false
namespace Go.Proofs.Ytenfdankgjdfpaa
open Go.RowKit

/-- behind i writes -/
structure CutRel (k i : Nat) (a b : DS) : Prop where
  img : a.img = b.img
  down : a.down = decide (k < i)
  armed : a.armed = if i ≤ k then (k : Int) - i else 0
  ta : a.trail.length = min k i
  tb : b.trail.length = min k i
  bd : b.down = false
  ba : b.armed = -1
theorem CutRel.start (k n : Nat) : CutRel k 0 { zeroDS n with armed := max (-1) (k : Int) } (zeroDS n) := by
  refine ⟨rfl, ?_, ?_, by simp [zeroDS], by simp [zeroDS], rfl, rfl⟩
  · simp [zeroDS]
  · simp only [Nat.zero_le, if_true]; omega
theorem writeOf_goes (n : Nat) (d : DS) (z : Int) (b : List UInt8) (hz : 0 ≤ z ∧ z < n) (hb : b.length = 64) (hd : d.down = false) (ha : d.armed ≠ 0) :
    writeOf n d z b = ({ img := splice d.img (64 * z.toNat) b, trail := d.trail ++ [z], armed := if 0 < d.armed then d.armed - 1 else d.armed, down := false }, 0) := by
  unfold writeOf
  rw [if_neg (by omega), if_neg (by omega), if_neg (by simp [hd, ha])]
theorem writeOf_stops (n : Nat) (d : DS) (z : Int) (b : List UInt8) (hz : 0 ≤ z ∧ z < n) (hb : b.length = 64) (hd : d.down = true ∨ d.armed = 0) :
    writeOf n d z b = ({ d with down := true }, 50) := by
  unfold writeOf
  rw [if_neg (by omega), if_neg (by omega), if_pos hd]
theorem CutRel.lt {k i n : Nat} {a b : DS} {z : Int} {bs : List UInt8} (h : CutRel k i a b) (hi : i < k) (hz : 0 ≤ z ∧ z < n) (hb : bs.length = 64) :
    (writeOf n a z bs).2 = 0 ∧ (writeOf n b z bs).2 = 0 ∧ CutRel k (i + 1) (writeOf n a z bs).1 (writeOf n b z bs).1 := by
  have h1 : a.armed = (k : Int) - i := by rw [h.armed, if_pos (by omega)]
  rw [writeOf_goes n a z bs hz hb (by rw [h.down]; simp; omega) (by omega), writeOf_goes n b z bs hz hb h.bd (by rw [h.ba]; omega)]
  refine ⟨rfl, rfl, ?_, ?_, ?_, ?_, ?_, rfl, ?_⟩
  · show splice a.img _ _ = splice b.img _ _
    rw [h.img]
  · simp; omega
  · simp only
    rw [if_pos (by omega), if_pos (by omega), h1]; omega
  · simp [h.ta]; omega
  · simp [h.tb]; omega
  · simp [h.ba]
theorem CutRel.ge {k i n : Nat} {a b : DS} {z : Int} {bs : List UInt8} (h : CutRel k i a b) (hi : k ≤ i) (hz : 0 ≤ z ∧ z < n) (hb : bs.length = 64) :
    (writeOf n a z bs).2 = 50 ∧ CutRel k (i + 1) (writeOf n a z bs).1 b := by
  have h0 : a.down = true ∨ a.armed = 0 := by
    right
    rw [h.armed]
    split <;> omega
  rw [writeOf_stops n a z bs hz hb h0]
  refine ⟨rfl, h.img, ?_, ?_, ?_, ?_, h.bd, h.ba⟩
  · simp; omega
  · show a.armed = _
    rw [h.armed]
    split <;> split <;> omega
  · show a.trail.length = _
    rw [h.ta]; omega
  · rw [h.tb]; omega
/-- mended, it goes on -/
theorem CutRel.goes {k i n : Nat} {a b : DS} {z : Int} {bs : List UInt8} (h : CutRel k i a b) (hz : 0 ≤ z ∧ z < n) (hb : bs.length = 64) :
    (writeOf n { a with armed := -1, down := false } z bs).2 = 0 ∧ (writeOf n b z bs).2 = 0 ∧ (writeOf n { a with armed := -1, down := false } z bs).1.img = (writeOf n b z bs).1.img := by
  rw [writeOf_goes n { a with armed := -1, down := false } z bs hz hb rfl (by simp), writeOf_goes n b z bs hz hb h.bd (by rw [h.ba]; omega)]
  refine ⟨rfl, rfl, ?_⟩
  show splice a.img _ _ = splice b.img _ _
  rw [h.img]
end Go.Proofs.Ytenfdankgjdfpaa
