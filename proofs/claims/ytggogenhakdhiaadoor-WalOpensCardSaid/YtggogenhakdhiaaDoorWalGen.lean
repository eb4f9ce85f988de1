/- What lies on a disk, as plain functions; the head that is read, the program's way, walked. -/
import Derived.Test.YtggogenhakdhiaaDoorWalSmall
set_option linter.unusedVariables false
set_option linter.unusedSimpArgs false
namespace Go.Proofs.YtggogenhakdhiaaDoor
open Go.RowKit

/-- the generation that the head tells -/
def headNum (img : List UInt8) : Nat := num (((secOf img 0).drop 8).take 8)
def genOf (img : List UInt8) (n : Nat) : Option Nat :=
  if halfOf n < 1 then none else if headNum img < 1 ∨ headNum img > 1099511627776 then none else if secOf img 0 = headB (headNum img) then some (headNum img) else none
/-- sectors side by side -/
def secsOf (img : List UInt8) (at_ k : Nat) : List UInt8 := (img.drop (64 * at_)).take (64 * k)
theorem secsOf_one (img : List UInt8) (at_ : Nat) : secsOf img at_ 1 = secOf img at_ := rfl
theorem secsOf_succ (img : List UInt8) (at_ k : Nat) : secsOf img at_ (k + 1) = secsOf img at_ k ++ secOf img (at_ + k) := by
  unfold secsOf secOf
  rw [show 64 * (k + 1) = 64 * k + 64 by omega, List.take_add, List.drop_drop, show 64 * at_ + 64 * k = 64 * (at_ + k) by omega]
theorem secsOf_length {img : List UInt8} {n at_ k : Nat} (h : img.length = 64 * n) (hk : at_ + k ≤ n) : (secsOf img at_ k).length = 64 * k := by
  unfold secsOf
  rw [List.length_take, List.length_drop]
  omega
/-- how long a record's load is -/
def loadLen (img : List UInt8) (at_ : Nat) : Nat := num (((secOf img at_).drop 2).take 4)
/-- the record that begins at a sector, ahead of the end -/
def recOf (img : List UInt8) (at_ end_ : Nat) : Nat × List UInt8 := (((secOf img at_).getD 1 0).toNat, ((secsOf img at_ (secs (loadLen img at_))).drop 10).take (loadLen img at_))
def readP (img : List UInt8) (at_ end_ : Nat) : Option (Int × List UInt8) :=
  if ((secOf img at_).getD 0 0).toNat ≠ 82 ∨ ((secOf img at_).getD 1 0).toNat = 0 ∨ loadLen img at_ > 262144 ∨ at_ + secs (loadLen img at_) > end_ then none
  else if secsOf img at_ (secs (loadLen img at_)) = packB (recOf img at_ end_).1 (recOf img at_ end_).2 then some (((recOf img at_ end_).1 : Int), (recOf img at_ end_).2) else none
theorem secs_pos (n : Nat) : 1 ≤ secs n := by unfold secs; omega
/-- the records from a sector on -/
def scan (img : List UInt8) (end_ at_ : Nat) : Option (List (Int × List UInt8)) :=
  if h : end_ ≤ at_ then some [] else if secOf img at_ = zb64 then some [] else
    match readP img at_ end_ with
    | none => none
    | some r => (scan img end_ (at_ + secs (loadLen img at_))).map (r :: ·)
termination_by end_ - at_
decreasing_by have := secs_pos (loadLen img at_); omega
theorem scan_end {img : List UInt8} {end_ at_ : Nat} (h : end_ ≤ at_) : scan img end_ at_ = some [] := by rw [scan, dif_pos h]
theorem scan_zero {img : List UInt8} {end_ at_ : Nat} (h : secOf img at_ = zb64) : scan img end_ at_ = some [] := by
  rw [scan]
  split
  · rfl
  · simp [h]
theorem scan_none {img : List UInt8} {end_ at_ : Nat} (h : ¬ end_ ≤ at_) (hz : secOf img at_ ≠ zb64) (hr : readP img at_ end_ = none) : scan img end_ at_ = none := by
  rw [scan, dif_neg h, if_neg hz, hr]
theorem scan_some {img : List UInt8} {end_ at_ : Nat} {r : Int × List UInt8} (h : ¬ end_ ≤ at_) (hz : secOf img at_ ≠ zb64) (hr : readP img at_ end_ = some r) : scan img end_ at_ = (scan img end_ (at_ + secs (loadLen img at_))).map (r :: ·) := by
  rw [scan, dif_neg h, if_neg hz, hr]
/-- what Open answers -/
inductive Opened where
  | err (k : Int)
  | log (gen : Nat) (recs : List (Int × List UInt8))
def openOf (d : DS) (n : Nat) : Opened :=
  if d.down = true then .err 50 else
    match genOf d.img n with
    | none => .err 60
    | some g =>
      match scan d.img (firstOf n g + halfOf n) (firstOf n g) with
      | none => .err 61
      | some l => .log g l

theorem Bys.cut {w : World} {g o n : Nat} {l : List UInt8} (h : Bys w (some ⟨g, o, none⟩) n l) (k m : Nat) (hm : k + m ≤ n) : Bys w (some ⟨g, o + k, none⟩) m ((l.drop k).take m) :=
  ⟨by rw [List.length_take, List.length_drop, h.len]; omega, by have := h.max; omega, fun i hi => ⟨_, rfl, by
    obtain ⟨ad, e, hc⟩ := h.cell (k + i) (by omega)
    cases e
    have ha : (⟨g, o + k, none⟩ : Addr).add i = (⟨g, o, none⟩ : Addr).add (k + i) := by unfold Addr.add; split <;> split <;> simp_all <;> omega
    rw [ha, hc, List.getD_eq_getElem?_getD, List.getD_eq_getElem?_getD, List.getElem?_take, if_pos hi, List.getElem?_drop]⟩⟩
theorem bys_sector (w : World) (e : TypeId) (l : List UInt8) (hl : l.length = 64) : Bys (w.alloc (.cells (bv l).toArray e)) (some ⟨w.heap.size, 0, none⟩) 64 l := Bys.own (own_new w e l 64 hl (by omega))

set_option maxHeartbeats 1000000 in
set_option maxRecDepth 20000 in
theorem generation_walk (w : World) (g n : Nat) (sv tv : Value) (d : DS) (h : PDsk w g sv tv n d) (ht : TabAt w) :
    Calls Tryd.prog 39 #[.pointer (some ⟨g, 0, none⟩)] w (fun e w' => ∃ z : Int, e = .returned (.tuple #[.int .i64 z, .bool (genOf d.img n).isSome]) ∧ (∀ q, genOf d.img n = some q → z = (q : Int)) ∧ Below w.heap.size w w') := by
  have hle := h.le
  have hp : 1 ≤ n := by have := h.pos; omega
  have HH := half_walk w g n sv tv d h
  by_cases h1 : halfOf n < 1
  · have hg : genOf d.img n = none := by unfold genOf; rw [if_pos h1]
    rw [hg]
    generalize halfOf n = hn at *
    go_enter Tryd.func39, Tryd.ntmps39
    go_wp2_with (go_at_call 41; go_must (refine HH.mono ?_); rintro e w' ⟨rfl, rfl⟩)
    go_ret2
    exact ⟨0, rfl, (by intro q hq; cases hq), Below.refl _ _⟩
  · have hg : genOf d.img n = if headNum d.img < 1 ∨ headNum d.img > 1099511627776 then none else if secOf d.img 0 = headB (headNum d.img) then some (headNum d.img) else none := by unfold genOf; rw [if_neg h1]
    have HR := read_at w g n sv tv d 0 h (by omega)
    have hl64 := secOf_length h.len (show 0 < n by omega)
    have hb1 := bys_sector w 84 (secOf d.img 0) hl64
    have hB1 : Below w.heap.size w (w.alloc (.cells (bv (secOf d.img 0)).toArray 84)) := (Below.refl _ _).alloc (Nat.le_refl _) _
    have hq8 : headNum d.img = num (((secOf d.img 0).drop 8).take 8) := rfl
    generalize headNum d.img = q at *
    generalize secOf d.img 0 = hd at *
    generalize w.alloc (.cells (bv hd).toArray 84) = w1 at *
    have HN := number_walk w1 _ 8 56 _ (hb1.cut 8 8 (by omega)) (by omega)
    rw [← hq8] at HN
    have hq64 : q < 18446744073709551616 := by rw [hq8]; exact num_lt64 _ (by rw [List.length_take]; omega)
    generalize halfOf n = hn at *
    have ht1 := ht.below hB1
    clear hq8
    have hs1 := hB1.size
    by_cases h2 : q < 1 ∨ q > 1099511627776
    · rw [if_pos h2] at hg
      rw [hg]
      have hcase : q = 0 ∨ 1099511627776 < q := by omega
      rcases hcase with h0 | h0
      · subst h0
        go_enter Tryd.func39, Tryd.ntmps39
        go_wp2_with (first
          | (go_at_call 41; go_must (refine HH.mono ?_); rintro e w' ⟨rfl, rfl⟩)
          | (go_at_call 42; go_must (refine HR.mono ?_); rintro e w' ⟨rfl, rfl⟩)
          | (go_at_call 92; go_must (refine HN.mono ?_); rintro e w' ⟨rfl, rfl⟩))
        go_ret2
        exact ⟨0, rfl, (by intro q hq; cases hq), hB1⟩
      · have h01 : ¬ q < 1 := by omega
        go_enter Tryd.func39, Tryd.ntmps39
        go_wp2_with (first
          | (go_at_call 41; go_must (refine HH.mono ?_); rintro e w' ⟨rfl, rfl⟩)
          | (go_at_call 42; go_must (refine HR.mono ?_); rintro e w' ⟨rfl, rfl⟩)
          | (go_at_call 92; go_must (refine HN.mono ?_); rintro e w' ⟨rfl, rfl⟩))
        go_ret2
        exact ⟨0, rfl, (by intro q hq; cases hq), hB1⟩
    · rw [if_neg h2] at hg
      have hqw : IntKind.i64.wrap (q : Int) = (q : Int) := by rw [IntKind.wrap_i64]; omega
      have h01 : ¬ q < 1 := by omega
      have h02 : ¬ 1099511627776 < q := by omega
      have HD := head_walk w1 q (by omega) ht1
      have hhl := headB_length q
      have hgs : (genOf d.img n).isSome = decide (hd = headB q) := by
        rw [hg]
        by_cases he : hd = headB q
        · rw [if_pos he, decide_eq_true he]; rfl
        · rw [if_neg he, decide_eq_false he]; rfl
      have hgq : ∀ x, genOf d.img n = some x → (q : Int) = (x : Int) := by
        intro x hx
        rw [hg] at hx
        by_cases he : hd = headB q
        · rw [if_pos he] at hx; cases hx; rfl
        · rw [if_neg he] at hx; cases hx
      rw [hgs]
      generalize headB q = hbq at *
      replace hhl := Go.Lib.hid hhl
      clear hg hgs
      go_enter Tryd.func39, Tryd.ntmps39
      go_wp2_with (first
        | (go_at_call 43; go_must (refine (equal_walk w2 _ _ 64 64 _ _ hd hbq (hb1.below hB2') (Bys.own hown2)).mono ?_); rintro e w' ⟨rfl, rfl⟩)
        | (go_at_call 64; go_must (refine HD.mono ?_; intro e w2 hR; obtain ⟨A2, c2, rfl, hown2, hB2⟩ := hR.len (show hbq.length = 64 from hhl); have hB2' : Below w1.heap.size w1 w2 := hB2))
        | (go_at_call 41; go_must (refine HH.mono ?_); rintro e w' ⟨rfl, rfl⟩)
        | (go_at_call 42; go_must (refine HR.mono ?_); rintro e w' ⟨rfl, rfl⟩)
        | (go_at_call 92; go_must (refine HN.mono ?_); rintro e w' ⟨rfl, rfl⟩))
      go_ret2
      exact ⟨q, rfl, hgq, hB1.trans (hB2.mono hs1)⟩
end Go.Proofs.YtggogenhakdhiaaDoor
