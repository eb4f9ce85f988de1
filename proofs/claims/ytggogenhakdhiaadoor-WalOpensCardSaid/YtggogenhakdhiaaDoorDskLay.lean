/- A sector is written: the plain side and the words for it. -/
import Derived.Test.YtggogenhakdhiaaDoorDskRead
import Derived.ArgAppend
set_option linter.unusedVariables false
set_option linter.unusedSimpArgs false
namespace Go.Proofs.YtggogenhakdhiaaDoor
open Go.RowKit

/-- what Write does, and answers -/
def writeOf (n : Nat) (d : DS) (at_ : Int) (b : List UInt8) : DS × Int :=
  if ¬ (0 ≤ at_ ∧ at_ < n) then (d, 2)
  else if b.length ≠ 64 then (d, 9)
  else if d.down = true ∨ d.armed = 0 then ({ d with down := true }, 50)
  else ({ img := splice d.img (64 * at_.toNat) b, trail := d.trail ++ [at_], armed := if 0 < d.armed then d.armed - 1 else d.armed, down := false }, 0)
theorem writeOf_n (n : Nat) (d : DS) (k : Nat) (b : List UInt8) (hk : k < n) (hb : b.length = 64) (hd : d.down = false) (ha : d.armed ≠ 0) :
    writeOf n d k b = ({ img := splice d.img (64 * k) b, trail := d.trail ++ [(k : Int)], armed := if 0 < d.armed then d.armed - 1 else d.armed, down := false }, 0) := by
  unfold writeOf
  rw [if_neg (by omega), if_neg (by omega), if_neg (by simp [hd, ha])]
  simp

theorem bv_splice (l m : List UInt8) (o : Nat) : bv (splice l o m) = splice (bv l) o (bv m) := by
  unfold splice bv
  simp
theorem splice_append {α : Type} (A B X : List α) (o : Nat) (h : o + X.length ≤ A.length) : splice (A ++ B) o X = splice A o X ++ B := by
  unfold splice
  rw [List.take_append_of_le_length (by omega), List.drop_append_of_le_length (by omega)]
  simp
theorem take_splice {α : Type} (L X : List α) (o m : Nat) (h : o + X.length ≤ m) (hL : m ≤ L.length) : (splice L o X).take m = splice (L.take m) o X := by
  have hl : (L.take m).length = m := by simp; omega
  conv => lhs; rw [← List.take_append_drop m L]
  rw [splice_append _ _ _ _ (by rw [hl]; exact h)]
  exact List.take_left' (by rw [length_splice _ _ _ (by rw [hl]; exact h), hl])
/-- bytes do not lie among a disk's own four cells -/
theorem Dsk.bys {TD TE sz m g n i k : Nat} {w : World} {sv tv : Value} {d : DS} {A : Option Addr} {l : List UInt8} (h : Dsk TD TE sz m w g sv tv n d) (hb : Bys w A k l) (v : Value) : Bys (w.setCell ⟨g, i, none⟩ v) A k l := by
  obtain ⟨As, cs, hs⟩ := own_slice h.sec
  obtain ⟨At, ct, ht⟩ := own_slice h.tr
  refine ⟨hb.len, hb.max, fun j hj => ?_⟩
  obtain ⟨ad, e, hc⟩ := hb.cell j hj
  refine ⟨ad, e, ?_⟩
  have hne : (ad.add j).block ≠ g := by
    intro hg
    unfold World.cell? at hc
    rw [hg, h.blk] at hc
    simp only at hc
    split at hc
    · cases hc
    · subst hs ht
      generalize (ad.add j).off = o at hc
      match o, hc with
      | 0, hc => simp at hc
      | 1, hc => simp at hc
      | 2, hc => simp at hc
      | 3, hc => simp at hc
      | o + 4, hc => simp at hc
  rw [← hc]
  exact World.cell?_of_block (heap_setCell_other _ _ _ _ hne)
theorem setRow_other' (w : World) (g j : Nat) (cs : Array Value) (h : j ≠ g) : (w.setRow g cs).heap[j]? = w.heap[j]? := setRow_other w g j cs h
theorem chg_setRow {S : Nat → Prop} {w w' : World} (h : Chg S w w') {s : Nat} (hs : S s) (cs : Array Value) : Chg S w (w'.setRow s cs) :=
  ⟨h.os, h.tape, h.output, by simpa using h.size, fun k hk hn => (setRow_other w' s k cs (fun e => hn (by rw [e]; exact hs))).trans (h.block k hk hn)⟩
/-- the row of what a disk holds, and what it is when bytes are laid over it -/
theorem Dsk.row {TD TE sz m g n s c : Nat} {w : World} {tv : Value} {d : DS} (h : Dsk TD TE sz m w g (.slice (some ⟨s, 0, none⟩) m c) tv n d) (hp : 0 < m) (ht : TD ≠ TE) (ht2 : TE ≠ 3) (hsz : m * sz = 64 * n) :
    ∃ cur : List Value, w.heap[s]? = some (.cells cur.toArray TE (0, 0)) ∧ 64 * n ≤ cur.length ∧ ∀ (k : Nat) (b : List UInt8), k < n → b.length = 64 →
      Dsk TD TE sz m (w.setRow s (cur.take (64 * k) ++ (bv b ++ cur.drop (64 * k + (bv b).length))).toArray) g (.slice (some ⟨s, 0, none⟩) m c) tv n { d with img := splice d.img (64 * k) b } := by
  rcases h.sec.2 with ⟨h0, _⟩ | ⟨s', c', cur, h0, _, hh, hmc, hcm, hcs, htk⟩
  · cases h0
  · cases h0
    rw [hsz] at htk
    have hsz2 : 64 * n ≤ cur.size := by
      rw [hcs, ← hsz]
      exact Nat.mul_le_mul_right _ hmc
    refine ⟨cur.toList, by simpa using hh, by simpa using hsz2, fun k b hk hb => ?_⟩
    have hbl : (bv b).length = 64 := by rw [bv_length, hb]
    have hgs : g ≠ s := by
      intro e
      subst e
      have := h.blk
      rw [hh] at this
      injection this with this
      injection this with _ this
      exact ht this.symm
    have htv : tv.ownBlock ≠ some s := own_blk_ne h.tr hh (Ne.symm ht2)
    refine ⟨(setRow_other w s g _ hgs).trans h.blk, ⟨?_, .inr ⟨s, c, _, rfl, Nat.zero_le _, setRow_heap w s cur _ TE (0, 0) hh, hmc, hcm, ?_, ?_⟩⟩, own_at h.tr (fun j hj => setRow_other w s j _ (fun e => htv (by rw [hj, e]))), ?_, h.pos, h.le, h.lo, h.hi⟩
    · rw [bv_length, hsz]
      rw [length_splice _ _ _ (by rw [hb, h.len]; omega), h.len]
    · rw [← hcs]
      have : (splice cur.toList (64 * k) (bv b)).length = cur.size := by
        rw [length_splice _ _ _ (by rw [hbl]; simp; omega)]; simp
      simpa [splice] using this
    · have e : ((cur.toList.take (64 * k) ++ (bv b ++ cur.toList.drop (64 * k + (bv b).length))).toArray).toList = splice cur.toList (64 * k) (bv b) := by simp [splice]
      rw [e, hsz, take_splice _ _ _ _ (by rw [hbl]; omega) (by simpa using hsz2), htk, bv_splice]
    · rw [length_splice _ _ _ (by rw [hb, h.len]; omega), h.len]
theorem Dsk.blk5 {TD TE sz m g n : Nat} {w w' : World} {sv tv : Value} {d : DS} (h : Dsk TD TE sz m w g sv tv n d) (ht3 : TD ≠ 3) (hg : w.grownBy w' tv.ownBlock) :
    w'.heap[g]? = some (.cells #[sv, tv, .int .i64 d.armed, .bool d.down] TD (0, 0)) := by
  have hv : tv.ownBlock ≠ some g := own_blk_ne h.tr h.blk (Ne.symm ht3)
  exact (hg.block g (h.lt g (.inl rfl)) (fun e => hv e.symm)).trans h.blk
/-- the trail grows -/
theorem Dsk.trl {TD TE sz m g n : Nat} {w w' : World} {sv tv tv' : Value} {d : DS} {z : Int} (h : Dsk TD TE sz m w g sv tv n d) (ht : TD ≠ TE) (ht2 : TE ≠ 3) (ht3 : TD ≠ 3)
    (hg : w.grownBy w' tv.ownBlock) (ho : w'.ownsRow 0 3 1 tv' (d.trail.length + 1) (iv d.trail ++ [.int .i64 z])) :
    Dsk TD TE sz m (w'.setCell ⟨g, 1, none⟩ tv') g sv tv' n { d with trail := d.trail ++ [z] } := by
  have hs : sv.ownBlock ≠ some g := own_blk_ne h.sec h.blk (Ne.symm ht)
  have hv : tv.ownBlock ≠ some g := own_blk_ne h.tr h.blk (Ne.symm ht3)
  have hb' : w'.heap[g]? = some (.cells #[sv, tv, .int .i64 d.armed, .bool d.down] TD (0, 0)) := (hg.block g (h.lt g (.inl rfl)) (fun e => hv e.symm)).trans h.blk
  have hv' : tv'.ownBlock ≠ some g := own_blk_ne ho hb' (Ne.symm ht3)
  have hst : ∀ j, sv.ownBlock = some j → some j ≠ tv.ownBlock := by
    intro j hj he
    rcases h.sec.2 with ⟨h0, _⟩ | ⟨s', c', cur, h0, _, hh, _⟩
    · rw [h0] at hj; simp [Value.ownBlock] at hj
    · have : s' = j := by rw [h0] at hj; simpa [Value.ownBlock] using hj
      subst this
      exact own_blk_ne h.tr hh (Ne.symm ht2) he.symm
  refine ⟨?_, own_at h.sec (fun j hj => (heap_setCell_other _ _ _ _ (fun e => hs (by rw [hj, e]))).trans (hg.block j (h.lt j (.inr (.inl hj))) (hst j hj))), ?_, h.len, h.pos, h.le, h.lo, h.hi⟩
  · rw [heap_setCell_same _ _ _ _ _ _ hb']; rfl
  · have := own_at (w' := w'.setCell ⟨g, 1, none⟩ tv') ho (fun j hj => heap_setCell_other _ _ _ _ (fun e => hv' (by rw [hj, e])))
    simpa [iv_append, iv] using this

theorem infoU8 : (Tryd.prog.info? 5).map (·.size) = some 1 := by kernel_rfl
theorem writeOf_out (n : Nat) (d : DS) (z : Int) (b : List UInt8) (hz : ¬ (0 ≤ z ∧ z < n)) : writeOf n d z b = (d, 2) := by
  unfold writeOf
  rw [if_pos hz]
theorem writeOf_long (n : Nat) (d : DS) (z : Int) (b : List UInt8) (hz : 0 ≤ z ∧ z < n) (hb : b.length ≠ 64) : writeOf n d z b = (d, 9) := by
  unfold writeOf
  rw [if_neg (by omega), if_pos hb]
theorem writeOf_down (n : Nat) (d : DS) (z : Int) (b : List UInt8) (hz : 0 ≤ z ∧ z < n) (hb : b.length = 64) (hd : d.down = true ∨ d.armed = 0) : writeOf n d z b = ({ d with down := true }, 50) := by
  unfold writeOf
  rw [if_neg (by omega), if_neg (by omega), if_pos hd]
end Go.Proofs.YtggogenhakdhiaaDoor
