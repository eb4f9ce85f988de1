/- The law's spoiler: it writes over all records that it is handed, walked. -/
import Derived.Test.YtggogenhakdhiaaDoorWalRec
import Derived.Test.YtggogenhakdhiaaDoorDskSmall
set_option linter.unusedVariables false
set_option linter.unusedSimpArgs false
attribute [local go_sem ↓] Go.wp_at_zero Go.wp_at_succ
namespace Go.Proofs.YtggogenhakdhiaaDoor
open Go.RowKit

/-- some bytes that can be written -/
def U8s (w : World) (Z : Nat → Prop) (A : Option Addr) (m : Nat) : Prop :=
  ∀ j, j < m → ∃ g, A = some ⟨g, 0, none⟩ ∧ Z g ∧ w.frozen? ⟨g, j, none⟩ = false ∧ ∃ z : Int, 0 ≤ z ∧ z < 256 ∧ w.cell? ⟨g, j, none⟩ = some (.int .u8 z)
/-- records that can be written over -/
def RecsU (w : World) (Z : Nat → Prop) (A : Option Addr) (n : Nat) : Prop :=
  ∀ i, i < n → ∃ g, A = some ⟨g, 0, none⟩ ∧ Z g ∧ w.frozen? ⟨g, i * 2, none⟩ = false ∧ (∃ k : Int, w.cell? ⟨g, i * 2, none⟩ = some (.int .i64 k)) ∧ ∃ B m c, w.cell? ⟨g, i * 2 + 1, none⟩ = some (.slice B m c) ∧ m ≤ 9223372036854775807 ∧ U8s w Z B m
theorem cell_after (w : World) (p q : Addr) (u v x : Value) (hp : w.cell? p = some u) (hq : w.cell? q = some v) (hne : p ≠ q) : (w.setCell p x).cell? q = some v := (World.cell?_setCell_other _ _ _ _ hne).trans hq
theorem cell_apart (w : World) (p q : Addr) (u v x : Value) (hp : w.cell? p = some u) (hq : w.cell? q = some v) (hne : u ≠ v) : (w.setCell p x).cell? q = some v :=
  cell_after w p q u v x hp hq fun e => hne (by rw [e, hq] at hp; exact (Option.some.inj hp).symm)
theorem cell_same (w : World) (p : Addr) (u x : Value) (hp : w.cell? p = some u) : (w.setCell p x).cell? p = some x := World.cell?_setCell_same _ _ _ hp
section
variable {w : World} {Z : Nat → Prop} {A : Option Addr} {n : Nat}
theorem U8s.set {B : Option Addr} {m : Nat} (h : U8s w Z B m) {p : Addr} {y : Int} (hp : w.cell? p = some (.int .u8 y)) (x : Int) (h0 : 0 ≤ x) (h1 : x < 256) : U8s (w.setCell p (.int .u8 x)) Z B m := by
  intro j hj
  obtain ⟨g, e, hz, hf, z, z0, z1, hc⟩ := h j hj
  refine ⟨g, e, hz, by rw [World.frozen?_setCell]; exact hf, ?_⟩
  by_cases he : p = ⟨g, j, none⟩
  · subst he
    exact ⟨x, h0, h1, cell_same _ _ _ _ hp⟩
  · exact ⟨z, z0, z1, cell_after _ _ _ _ _ _ hp hc he⟩
theorem U8s.set' {B : Option Addr} {m : Nat} (h : U8s w Z B m) {p : Addr} {y : Int} (hp : w.cell? p = some (.int .i64 y)) (x : Value) : U8s (w.setCell p x) Z B m := by
  intro j hj
  obtain ⟨g, e, hz, hf, z, z0, z1, hc⟩ := h j hj
  exact ⟨g, e, hz, by rw [World.frozen?_setCell]; exact hf, z, z0, z1, cell_apart _ _ _ _ _ _ hp hc (by simp)⟩
theorem RecsU.set (h : RecsU w Z A n) {p : Addr} {y : Int} (hp : w.cell? p = some (.int .u8 y)) (x : Int) (h0 : 0 ≤ x) (h1 : x < 256) : RecsU (w.setCell p (.int .u8 x)) Z A n := by
  intro i hi
  obtain ⟨g, e, hz, hf, ⟨k, hk⟩, B, m, c, hb, hm, hu⟩ := h i hi
  exact ⟨g, e, hz, by rw [World.frozen?_setCell]; exact hf, ⟨k, cell_apart _ _ _ _ _ _ hp hk (by simp)⟩, B, m, c, cell_apart _ _ _ _ _ _ hp hb (by simp), hm, hu.set hp x h0 h1⟩
theorem RecsU.set' (h : RecsU w Z A n) {p : Addr} {y : Int} (hp : w.cell? p = some (.int .i64 y)) (x : Int) : RecsU (w.setCell p (.int .i64 x)) Z A n := by
  intro i hi
  obtain ⟨g, e, hz, hf, ⟨k, hk⟩, B, m, c, hb, hm, hu⟩ := h i hi
  refine ⟨g, e, hz, by rw [World.frozen?_setCell]; exact hf, ?_, B, m, c, cell_apart _ _ _ _ _ _ hp hb (by simp), hm, hu.set' hp _⟩
  by_cases he : p = ⟨g, i * 2, none⟩
  · subst he
    exact ⟨x, cell_same _ _ _ _ hp⟩
  · exact ⟨k, cell_after _ _ _ _ _ _ hp hk he⟩
theorem OwnB.u8s {B : Option Addr} {m c : Nat} {l : List UInt8} (h : OwnB w Z B m c l) : U8s w Z B m := by
  intro j hj
  rcases h.own.2 with ⟨e, h0⟩ | ⟨g, cap, cur, e, _, hh, _⟩
  · omega
  · cases e
    have hl := h.bys.len
    obtain ⟨ad, e', hc⟩ := h.bys.cell j hj
    cases e'
    rw [add_plain] at hc
    have := (l.getD j 0).toNat_lt
    exact ⟨g, rfl, h.in_ g (by simp [Value.ownBlock]), frozen_of_row w g j _ _ hh, _, by omega, by omega, hc⟩
theorem RecsAt.u {T : TypeId} {v : Value} {l : List (Int × List UInt8)} (h : RecsAt T w Z v l) : ∃ A c, v = .slice A l.length c ∧ RecsU w Z A l.length := by
  obtain ⟨xs, ho, hx⟩ := h.ex
  obtain ⟨A, c, hv⟩ := own_slice ho
  refine ⟨A, c, hv, fun i hi => ?_⟩
  obtain ⟨g, cap, B, c', hv', k0, k1, hO⟩ := h.cell (List.getElem?_eq_getElem hi)
  rw [hv] at hv'
  cases hv'
  rcases ho.2 with ⟨e, h0⟩ | ⟨g', cap', cur, e, _, hh, _⟩
  · omega
  · rw [hv] at e
    cases e
    rw [Nat.mul_comm] at k0 k1
    refine ⟨g, rfl, h.in_ g (by rw [hv]; simp [Value.ownBlock]), frozen_of_row w g _ _ _ hh, ⟨_, k0⟩, B, _, c', k1, ?_, hO.u8s⟩
    have := hO.bys.max
    exact this
end
set_option maxHeartbeats 1000000 in
set_option maxRecDepth 20000 in
theorem spoil_walk (w : World) (Z : Nat → Prop) (A : Option Addr) (n c : Nat) (h : RecsU w Z A n) (hn : n ≤ 9223372036854775807) :
    Calls Tryd.prog 55 #[.slice A n c] w (fun e w' => e = .returned (.tuple #[]) ∧ Chg Z w w') := by
  go_enter Tryd.func55, Tryd.ntmps55
  go_wp2
  go_loopw [2] (fun i wr => ∃ j : Nat, j ≤ n ∧ i = .int .i64 j ∧ RecsU wr Z A n ∧ Chg Z w wr) (fun i _ => n - (intOf i).toNat)
  case atStart => exact ⟨0, by omega, rfl, h, Chg.refl _ _⟩
  case round =>
    obtain ⟨j, hj, rfl, hU, hC⟩ := hrel
    by_cases hlt : j < n
    · have hltz : (j : Int) < (n : Int) := by omega
      obtain ⟨g, rfl, hZg, -, -, B, m, cb, hb, hm, hu⟩ := hU j hlt
      go_wp2
      go_loopw [3] (fun i wq => ∃ k : Nat, k ≤ m ∧ i = .int .i64 k ∧ RecsU wq Z (some ⟨g, 0, none⟩) n ∧ U8s wq Z B m ∧ wq.cell? ⟨g, j * 2 + 1, none⟩ = some (.slice B m cb) ∧ Chg Z w wq) (fun i _ => m - (intOf i).toNat)
      case atStart => exact ⟨0, by omega, rfl, hU, hu, hb, hC⟩
      case round =>
        clear hU hu hb hC
        obtain ⟨k, hk, rfl, hU, hu, hb, hC⟩ := hrel
        by_cases hlk : k < m
        · have hlkz : (k : Int) < (m : Int) := by omega
          obtain ⟨gb, rfl, hZb, hf, z, z0, z1, hc⟩ := hu k hlk
          have hw0 := IntKind.wrap_u8 (z + 1)
          have hx : 0 ≤ IntKind.u8.wrap (z + 1) ∧ IntKind.u8.wrap (z + 1) < 256 := by rw [hw0]; omega
          generalize hxx : IntKind.u8.wrap (z + 1) = x at *
          replace hxx := Go.Lib.hid hxx
          clear hw0
          go_wp2
          go_roundw
          case rel => exact ⟨k + 1, hlk, by go_num, hU.set hc _ (by omega) (by omega), hu.set hc _ (by omega) (by omega), cell_apart _ _ _ _ _ _ hc hb (by simp), hC.setCell hZb _⟩
          case measure => simp [intOf]; omega
        · have hkm : k = m := by omega
          obtain ⟨g', e', _, hf, ⟨kk, hkk⟩, _⟩ := hU j hlt
          cases e'
          go_wp2
          go_roundw
          case rel => exact ⟨j + 1, hlt, by go_num, hU.set' hkk _, hC.setCell hZg _⟩
          case measure => simp [intOf]; omega
    · go_wp2
      go_end0
      exact ⟨rfl, hC⟩
end Go.Proofs.YtggogenhakdhiaaDoor
