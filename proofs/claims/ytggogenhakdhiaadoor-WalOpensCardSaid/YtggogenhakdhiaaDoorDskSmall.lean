/- The small functions of a disk, the program's and the document's, walked. -/
import Derived.Test.YtggogenhakdhiaaDoorDskMem
import Derived.Outline
set_option linter.unusedVariables false
set_option linter.unusedSimpArgs false
namespace Go.Proofs.YtggogenhakdhiaaDoor
open Go.RowKit

/-- the program's disk, and the document's -/
abbrev PDsk (w : World) (g : Nat) (sv tv : Value) (n : Nat) (d : DS) : Prop := Dsk 82 84 64 n w g sv tv n d
abbrev RDsk (w : World) (g : Nat) (sv tv : Value) (n : Nat) (d : DS) : Prop := Dsk 65 5 1 (64 * n) w g sv tv n d
/-- the call answered so, and turned nothing -/
def Says (v : Value) (w : World) (e : Ending) (w' : World) : Prop := e = .returned v ∧ w = w'
theorem Dsk.sv {TD TE sz m g n : Nat} {w : World} {sv tv : Value} {d : DS} (h : Dsk TD TE sz m w g sv tv n d) : ∃ A c, sv = .slice A m c := own_slice h.sec
theorem Dsk.tv {TD TE sz m g n : Nat} {w : World} {sv tv : Value} {d : DS} (h : Dsk TD TE sz m w g sv tv n d) : ∃ A c, tv = .slice A d.trail.length c := own_slice h.tr

theorem down_walk (w : World) (g n : Nat) (sv tv : Value) (d : DS) (h : PDsk w g sv tv n d) : Calls Tryd.prog 27 #[.pointer (some ⟨g, 0, none⟩)] w (Says (.bool d.down) w) := by
  have c3 := h.c3
  clear h
  go_enter Tryd.func27, Tryd.ntmps27
  go_wp2
  go_ret
  exact ⟨rfl, rfl⟩
theorem writes_walk (w : World) (g n : Nat) (sv tv : Value) (d : DS) (h : PDsk w g sv tv n d) : Calls Tryd.prog 17 #[.pointer (some ⟨g, 0, none⟩)] w (Says (.int .i64 (d.trail.length : Int)) w) := by
  have c1 := h.c1
  obtain ⟨A, c, rfl⟩ := h.tv
  clear h
  go_enter Tryd.func17, Tryd.ntmps17
  go_wp2
  go_ret
  exact ⟨rfl, rfl⟩
theorem sectors_walk (w : World) (g n : Nat) (sv tv : Value) (d : DS) (h : PDsk w g sv tv n d) : Calls Tryd.prog 93 #[.pointer (some ⟨g, 0, none⟩)] w (Says (.int .i64 (n : Int)) w) := by
  have c0 := h.c0
  obtain ⟨A, c, rfl⟩ := h.sv
  clear h
  go_enter Tryd.func93, Tryd.ntmps93
  go_wp2
  go_ret
  exact ⟨rfl, rfl⟩
theorem rsectors_walk (w : World) (g n : Nat) (sv tv : Value) (d : DS) (h : RDsk w g sv tv n d) : Calls Tryd.prog 38 #[.pointer (some ⟨g, 0, none⟩)] w (Says (.int .i64 (n : Int)) w) := by
  have c0 := h.c0
  have hle := h.le
  obtain ⟨A, c, rfl⟩ := h.sv
  clear h
  go_enter Tryd.func38, Tryd.ntmps38
  go_wp2
  go_ret
  refine ⟨?_, rfl⟩
  first | rfl | (simp; done) | (congr 2; omega)

/-- what is behind an act on a disk -/
def Acts (TD TE sz m : Nat) (v : Value) (g n : Nat) (sv tv : Value) (d : DS) (w : World) (e : Ending) (w' : World) : Prop :=
  e = .returned v ∧ ∃ tv', Dsk TD TE sz m w' g sv tv' n d ∧ Chg (Foot g sv tv) w w' ∧ (tv'.ownBlock = tv.ownBlock ∨ ∃ k, tv'.ownBlock = some k ∧ w.heap.size ≤ k)

theorem Dsk.set2 {TD TE sz m g n : Nat} {w : World} {sv tv : Value} {d : DS} (h : Dsk TD TE sz m w g sv tv n d) (ht : TD ≠ TE) (ht2 : TD ≠ 3) (a : Int) (h1 : -1 ≤ a) (h2 : a ≤ 9223372036854775807) :
    Dsk TD TE sz m (w.setCell ⟨g, 2, none⟩ (.int .i64 a)) g sv tv n { d with armed := a } := by
  have hs : sv.ownBlock ≠ some g := own_blk_ne h.sec h.blk (Ne.symm ht)
  have hv : tv.ownBlock ≠ some g := own_blk_ne h.tr h.blk (Ne.symm ht2)
  refine ⟨?_, own_at h.sec (fun j hj => heap_setCell_other _ _ _ _ (fun e => hs (by rw [hj, e]))), own_at h.tr (fun j hj => heap_setCell_other _ _ _ _ (fun e => hv (by rw [hj, e]))), h.len, h.pos, h.le, h1, h2⟩
  rw [heap_setCell_same _ _ _ _ _ _ h.blk]; rfl
theorem Dsk.set3 {TD TE sz m g n : Nat} {w : World} {sv tv : Value} {d : DS} (h : Dsk TD TE sz m w g sv tv n d) (ht : TD ≠ TE) (ht2 : TD ≠ 3) (b : Bool) :
    Dsk TD TE sz m (w.setCell ⟨g, 3, none⟩ (.bool b)) g sv tv n { d with down := b } := by
  have hs : sv.ownBlock ≠ some g := own_blk_ne h.sec h.blk (Ne.symm ht)
  have hv : tv.ownBlock ≠ some g := own_blk_ne h.tr h.blk (Ne.symm ht2)
  refine ⟨?_, own_at h.sec (fun j hj => heap_setCell_other _ _ _ _ (fun e => hs (by rw [hj, e]))), own_at h.tr (fun j hj => heap_setCell_other _ _ _ _ (fun e => hv (by rw [hj, e]))), h.len, h.pos, h.le, h.lo, h.hi⟩
  rw [heap_setCell_same _ _ _ _ _ _ h.blk]; rfl

theorem arm_walk (w : World) (g n : Nat) (sv tv : Value) (d : DS) (k : Int) (hk : k ≤ 9223372036854775807) (hd : PDsk w g sv tv n d) :
    Calls Tryd.prog 23 #[.pointer (some ⟨g, 0, none⟩), .int .i64 k] w (Acts 82 84 64 (n) (.tuple #[]) g n sv tv { d with armed := max (-1) k } w) := by
  have c2 := hd.c2
  have f2 := hd.fz 2
  go_enter Tryd.func23, Tryd.ntmps23
  go_wp2
  · go_end0
    have e : max (-1) k = k := by omega
    rw [e]
    exact ⟨rfl, tv, hd.set2 (by decide) (by decide) k (by omega) hk, (Chg.refl _ _).setCell (.inl rfl) _, .inl rfl⟩
  · go_end0
    have e : max (-1) k = -1 := by omega
    rw [e]
    exact ⟨rfl, tv, hd.set2 (by decide) (by decide) (-1) (by omega) (by omega), (Chg.refl _ _).setCell (.inl rfl) _, .inl rfl⟩
theorem mend_walk (w : World) (g n : Nat) (sv tv : Value) (d : DS) (hd : PDsk w g sv tv n d) :
    Calls Tryd.prog 25 #[.pointer (some ⟨g, 0, none⟩)] w (Acts 82 84 64 (n) (.tuple #[]) g n sv tv { d with armed := -1, down := false } w) := by
  have c2 := hd.c2
  have f2 := hd.fz 2
  have c3 := hd.c3
  have f3 := hd.fz 3
  go_enter Tryd.func25, Tryd.ntmps25
  go_wp2
  go_end0
  exact ⟨rfl, tv, (hd.set3 (by decide) (by decide) false).set2 (by decide) (by decide) (-1) (by omega) (by omega), ((Chg.refl _ _).setCell (.inl rfl) _).setCell (.inl rfl) _, .inl rfl⟩
theorem rarm_walk (w : World) (g n : Nat) (sv tv : Value) (d : DS) (k : Int) (hk : k ≤ 9223372036854775807) (hd : RDsk w g sv tv n d) :
    Calls Tryd.prog 66 #[.pointer (some ⟨g, 0, none⟩), .int .i64 k] w (Acts 65 5 1 (64 * n) (.tuple #[]) g n sv tv { d with armed := max (-1) k } w) := by
  have c2 := hd.c2
  have f2 := hd.fz 2
  go_enter Tryd.func66, Tryd.ntmps66
  go_wp2
  · go_end0
    have e : max (-1) k = k := by omega
    rw [e]
    exact ⟨rfl, tv, hd.set2 (by decide) (by decide) k (by omega) hk, (Chg.refl _ _).setCell (.inl rfl) _, .inl rfl⟩
  · go_end0
    have e : max (-1) k = -1 := by omega
    rw [e]
    exact ⟨rfl, tv, hd.set2 (by decide) (by decide) (-1) (by omega) (by omega), (Chg.refl _ _).setCell (.inl rfl) _, .inl rfl⟩
theorem rmend_walk (w : World) (g n : Nat) (sv tv : Value) (d : DS) (hd : RDsk w g sv tv n d) :
    Calls Tryd.prog 67 #[.pointer (some ⟨g, 0, none⟩)] w (Acts 65 5 1 (64 * n) (.tuple #[]) g n sv tv { d with armed := -1, down := false } w) := by
  have c2 := hd.c2
  have f2 := hd.fz 2
  have c3 := hd.c3
  have f3 := hd.fz 3
  go_enter Tryd.func67, Tryd.ntmps67
  go_wp2
  go_end0
  exact ⟨rfl, tv, (hd.set3 (by decide) (by decide) false).set2 (by decide) (by decide) (-1) (by omega) (by omega), ((Chg.refl _ _).setCell (.inl rfl) _).setCell (.inl rfl) _, .inl rfl⟩
end Go.Proofs.YtggogenhakdhiaaDoor
