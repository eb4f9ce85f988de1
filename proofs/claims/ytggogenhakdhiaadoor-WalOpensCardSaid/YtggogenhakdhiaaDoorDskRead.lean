/- A sector is read, the program's way and the document's. -/
import Derived.Test.YtggogenhakdhiaaDoorDskSmall
import Derived.Deep.DeepMust
import Derived.Outline
import Derived.Deep.DeepCutAuto
import Derived.Deep.CutBlock
import Derived.Laws.AppendOwnNone
set_option linter.unusedVariables false
set_option linter.unusedSimpArgs false
namespace Go.Proofs.YtggogenhakdhiaaDoor
open Go.RowKit

theorem infoSec : (Tryd.prog.info? 84).map (·.size) = some 64 := by kernel_rfl
theorem info_u8 : (Tryd.prog.info? 5).map (fun i => (i.zero, i.size, i.bytes)) = some (some (.int .u8 0), 1, 1) := by kernel_rfl
theorem info_int : (Tryd.prog.info? 3).map (fun i => (i.zero, i.size, i.bytes)) = some (some (.int .i64 0), 1, 8) := by kernel_rfl
/-- a sector -/
def secOf (img : List UInt8) (at_ : Nat) : List UInt8 := (img.drop (64 * at_)).take 64
theorem secOf_length {img : List UInt8} {n at_ : Nat} (h : img.length = 64 * n) (ha : at_ < n) : (secOf img at_).length = 64 := by
  unfold secOf
  rw [List.length_take, List.length_drop]
  omega
/-- bytes and a number are returned -/
def RetOpen (B : Nat) (E : TypeId) (r : List UInt8 × Int) (w : World) (e : Ending) (w' : World) : Prop :=
  ∃ A c, e = .returned (.tuple #[.slice A r.1.length c, .int .i64 r.2]) ∧ w'.ownsRow B E 1 (.slice A r.1.length c) r.1.length (bv r.1) ∧ Below B w w'
theorem RetOpen.nil (B : Nat) (E : TypeId) (k : Int) {w w' : World} (hb : Below B w w') : RetOpen B E ([], k) w (.returned (.tuple #[.slice none 0 0, .int .i64 k])) w' :=
  ⟨none, 0, rfl, own_nil _ _ _ _, hb⟩
theorem RetOpen.of {B : Nat} {E : TypeId} {l : List UInt8} {k : Int} {w w' : World} {v : Value} {n : Nat} {xs : List Value} (h : w'.ownsRow B E 1 v n xs) (hx : xs = bv l) (hb : Below B w w') : RetOpen B E (l, k) w (.returned (.tuple #[v, .int .i64 k])) w' := by
  subst hx
  obtain ⟨A, c, rfl⟩ := own_slice h
  have hn : n = l.length := by have := h.1; rw [bv_length] at this; omega
  subst hn
  exact ⟨A, c, rfl, h, hb⟩
/-- what Read answers -/
def readOf (n : Nat) (d : DS) (at_ : Int) : List UInt8 × Int := if 0 ≤ at_ ∧ at_ < n then (secOf d.img at_.toNat, 0) else ([], 2)
theorem sec_cells {w : World} {E sz m s c : Nat} {img : List UInt8} {n k : Nat} (h : w.ownsRow 0 E sz (.slice (some ⟨s, 0, none⟩) m c) m (bv img)) (hl : img.length = 64 * n) (hk : k < n) (hp : 0 < m) :
    ∀ j v, (bv (secOf img k))[j]? = some v → w.cell? ⟨s, 64 * k + j, none⟩ = some v := by
  intro j v hv
  have hc := h.cells (g := s) rfl (64 * k + j) v (by
    rw [bv_getElem?] at hv ⊢
    unfold secOf at hv
    rw [List.getElem?_take] at hv
    by_cases hj : j < 64
    · rw [if_pos hj, List.getElem?_drop] at hv
      exact hv
    · rw [if_neg hj] at hv; simp at hv)
  rwa [add_plain] at hc

theorem sec_cells2 {w : World} {s k : Nat} {cs : List Value} (h : ∀ j v, cs[j]? = some v → w.cell? ⟨s, 64 * k + j, none⟩ = some v) : ∀ j v, cs[j]? = some v → w.cell? ((⟨s, k * 64, none⟩ : Addr).add j) = some v := by
  intro j v hv
  have ha : (⟨s, k * 64, none⟩ : Addr).add j = ⟨s, 64 * k + j, none⟩ := by
    unfold Addr.add
    split
    · subst_vars; simp; try omega
    · simp; omega
  rw [ha]
  exact h j v hv
theorem bys_at {w : World} {ad : Addr} {n : Nat} {l : List UInt8} (hl : l.length = n) (h : ∀ j v, (bv l)[j]? = some v → w.cell? (ad.add j) = some v) (hm : n ≤ 9223372036854775807 := by omega) : Bys w (some ad) n l :=
  ⟨hl, hm, fun i hi => ⟨_, rfl, h i _ (by rw [bv_getElem?, List.getD_eq_getElem?_getD, List.getElem?_eq_getElem (by omega)]; rfl)⟩⟩
set_option maxHeartbeats 1000000 in
set_option maxRecDepth 20000 in
theorem read_in (w : World) (g n : Nat) (sv tv : Value) (d : DS) (k : Nat) (h : PDsk w g sv tv n d) (hk : k < n) :
    Calls Tryd.prog 42 #[.pointer (some ⟨g, 0, none⟩), .int .i64 k] w (RetOpen w.heap.size 84 (secOf d.img k, 0) w) := by
  have c0 := h.c0
  have hle := h.le
  obtain ⟨s, c, hv, _, hs, hc1, hc2, _⟩ := own_some h.sec h.pos
  subst hv
  have hcell := sec_cells h.sec h.len hk h.pos
  have hl64 := secOf_length h.len hk
  go_enter Tryd.func42, Tryd.ntmps42
  go_upto_region 3 with fail
  go_wp2_with (first
    | (refine wpList_load_cells (o := ⟨some 24, _, _, _, _, _⟩) rfl 84 (.tmp 23) rfl ⟨s, k * 64, none⟩ rfl (bv (secOf d.img k)) _ (sec_cells2 hcell) Tryd.underlying84 rfl (by rw [infoSec, bv_length, hl64]) ?_)
    | (refine wpList_store_fresh (o := ⟨none, _, _, _, _, _⟩) rfl 84 (.tmp 6) (.tmp 24) rfl (bv (secOf d.img k)).toArray rfl rfl _ _ (by rw [infoSec]; simp [bv_length, hl64]) (by simp [bv_length, hl64]) (bv_all _) ?_))
  go_ret2
  exact RetOpen.of (own_new w _ _ 64 hl64 (by omega)) rfl ((Below.refl _ _).alloc (Nat.le_refl _) _)

theorem read_out (w : World) (g n : Nat) (sv tv : Value) (d : DS) (z : Int) (h : PDsk w g sv tv n d) (hz : ¬ (0 ≤ z ∧ z < n)) :
    Calls Tryd.prog 42 #[.pointer (some ⟨g, 0, none⟩), .int .i64 z] w (RetOpen w.heap.size 84 ([], 2) w) := by
  have c0 := h.c0
  obtain ⟨A, c, rfl⟩ := h.sv
  clear h
  by_cases hlo : z < 0
  · go_enter Tryd.func42, Tryd.ntmps42
    go_wp2
    go_ret2
    exact RetOpen.nil _ _ _ (Below.refl _ _)
  · have hlo' : 0 ≤ z := by omega
    have hhi : (n : Int) ≤ z := by omega
    go_enter Tryd.func42, Tryd.ntmps42
    go_wp2
    go_ret2
    exact RetOpen.nil _ _ _ (Below.refl _ _)
theorem read_walk (w : World) (g n : Nat) (sv tv : Value) (d : DS) (z : Int) (h : PDsk w g sv tv n d) :
    Calls Tryd.prog 42 #[.pointer (some ⟨g, 0, none⟩), .int .i64 z] w (RetOpen w.heap.size 84 (readOf n d z) w) := by
  unfold readOf
  by_cases hz : 0 ≤ z ∧ z < n
  · rw [if_pos hz]
    obtain ⟨k, rfl⟩ := Int.eq_ofNat_of_zero_le hz.1
    exact read_in w g n sv tv d k h (by omega)
  · rw [if_neg hz]
    exact read_out w g n sv tv d z h hz

end Go.Proofs.YtggogenhakdhiaaDoor
