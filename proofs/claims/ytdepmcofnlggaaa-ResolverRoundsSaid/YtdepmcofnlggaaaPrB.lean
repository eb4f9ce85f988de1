/- A map of rows of identities, and one more laid to the row at a key. (ahead of it: Identities as keys of maps; maps over identities as functions. The program's Compare of identities, walked, with the world it leaves spelled out. DERIVED: THE SHELF's CONTRACTS AT THIS DUMP, IN PLAIN WORDS (tools/lay-plain.mjs out of 'YtdepmcofnlggaaaRcShelf.lean', which tools/lay-shelf.mjs wrote): THE SAME DECLARATIONS UNDER THE SAME NAMES: 'import', 'namespace', 'open', 'def', 'theorem' AND NOTHING ELSE: no command of the shelf's: FOR A HAND-IN. Each laying: the table of numbers ('.._ren') and one theorem, a field a fact of the dump's own or the kernel's comparison; each contract: ONE APPLICATION. The library's sort at identities: what it leaves. slices.Clone of identities, walked. A queue of identities: a slice of the call's own whose front has moved on.) -/
import Derived.Test.YtdepmcofnlggaaaPrA
import Derived.Test.YtdepmcofnlggaaaRcSx0
import Derived.DeepKeys4
import Derived.KernelRfl
import Derived.Deep.RegionHeldLaw
import Derived.Deep.DrawnRows
import Derived.Sort.Grow
import Derived.Shelf.SlGeneric
import Derived.Shelf.SlSortCmp.WholeK
import Derived.Ground.SlsfProg
import Derived.Test.YtdepmcofnlggaaaProg
import Derived.Deep.AppendLies
import Derived.WalkSpells
import Derived.Maps.AppendAt
section
set_option linter.unusedVariables false
set_option linter.unusedSimpArgs false
namespace Go.Proofs.Ytdepmcofnlggaaa.PResolverCycles
open Go.RowKit Go.WideMaps Go.Proofs.YtdepmcofnlggaaaW.PrintWords Go.Proofs.YtdepmcofnlggaaaW.PrintLast Go.Proofs.YtdepmcofnlggaaaW.PrintMore
open Go.Maps (Keyed)
open Classical

theorem rc_laid : laidOutB Try.prog = true := by kernel_rfl
set_option maxRecDepth 100000 in
theorem id_wide : (match Try.prog.underlying 24 with | some (.array _ _) | some (.struct _) => true | _ => false) = true := by rw [Try.underlying24]
theorem id_row : (24 : TypeId) < Try.prog.types.size := of_decide_eq_true (by kernel_rfl)
theorem id_at : Try.prog.keyTypeAt 2 24 = true := by kernel_rfl
set_option maxRecDepth 100000 in
theorem id_law : KeyLaw Try.prog 24 := deep_law_laid rc_laid (m := 2) (by omega) id_row id_at id_wide
theorem id_keyed : Keyed Try.prog 24 := Keyed.of_law id_law
def InR (n : Int) : Prop := -9223372036854775808 ≤ n ∧ n ≤ 9223372036854775807
def InId (a : S24) : Prop := InR a.f0 ∧ InR a.f1
theorem wf_of {n : Int} (h : InR n) : (Lit.int .i64 n).wf = true := by
  simpa [InR, Lit.wf, IntKind.min, IntKind.max, IntKind.signed, IntKind.bits] using h
def idV (a : S24) : Value := .agg #[.int .i64 a.f0, .int .i64 a.f1]
theorem idV_inj {a b : S24} (h : idV a = idV b) : a = b := by
  obtain ⟨a0, a1⟩ := a
  obtain ⟨b0, b1⟩ := b
  simp only [idV, Value.agg.injEq, Array.mk.injEq, List.cons.injEq, Value.int.injEq, true_and, and_true] at h
  rw [h.1, h.2]
theorem id_key {a : S24} (h : InId a) : ∃ kl, keyOf Try.prog 24 (idV a) = some kl := by
  have h0 := wf_of h.1
  have h1 := wf_of h.2
  have hk : Try.prog.keyType 24 = true := by kernel_rfl
  have hf : (idV a).formed Try.prog 24 = true := by
    have hc : Try.prog.cellsOf 24 = 2 := by kernel_rfl
    simp [idV, Value.formed, Try.underlying24, hc]
  have hs : ∃ m, Try.prog.types.size = m + 2 := ⟨Try.prog.types.size - 2, by have : Try.prog.types.size ≥ 2 := of_decide_eq_true (by kernel_rfl); omega⟩
  obtain ⟨m, hm⟩ := hs
  unfold keyOf
  simp only [Try.underlying24]
  rw [if_pos (by simp [hk, hf]), hm]
  unfold Program.keyLits
  simp only [Try.underlying24, idV, Value.cells]
  have c2 : Try.prog.cellsOf 24 = 2 := by kernel_rfl
  have c1 : Try.prog.cellsOf 3 = 1 := by kernel_rfl
  simp [c2, c1, Program.keyLits, Try.underlying3, h0, h1]
/-- block b is a map whose values at identities are these -/
def MapIs (w : World) (b : Nat) (f : S24 → Option Value) : Prop :=
  ∃ l, MapAt Try.prog 24 w b l ∧ (∀ p ∈ l, ∃ a, InId a ∧ p.1 = idV a) ∧ ∀ a, atK l (idV a) = f a
section
variable {w w' : World} {b : Nat} {f : S24 → Option Value}
theorem MapIs.made (w : World) : MapIs (w.alloc (.map #[] 0)) w.heap.size (fun _ => none) := ⟨[], MapAt.made _ _ w, fun p hp => (by cases hp), fun _ => rfl⟩
theorem MapIs.lt (h : MapIs w b f) : b < w.heap.size := by obtain ⟨l, h1, _⟩ := h; exact h1.lt
theorem MapIs.block (h : MapIs w b f) (hb : w'.heap[b]? = w.heap[b]?) : MapIs w' b f := by obtain ⟨l, h1, h2⟩ := h; exact ⟨l, h1.block hb, h2⟩
theorem MapIs.below (h : MapIs w b f) (hb : Below w.heap.size w w') : MapIs w' b f := h.block (hb.block b h.lt)
theorem MapIs.kept {row : Option Nat} (h : MapIs w b f) (hg : w.grownBy w' row) (hne : some b ≠ row) : MapIs w' b f := h.block (hg.block b h.lt hne)
theorem MapIs.congr {g : S24 → Option Value} (h : MapIs w b f) (hfg : ∀ a, f a = g a) : MapIs w b g := by obtain ⟨l, h1, h2, h3⟩ := h; exact ⟨l, h1, h2, fun a => (h3 a).trans (hfg a)⟩
/-- 'm[a]', 'v, ok := m[a]' -/
theorem MapIs.lookup {t e : TypeId} (h : MapIs w b f) (ht : Try.prog.underlying t = some (.map 24 e)) {z : Value} (hz : (zeroValue e).run Try.prog w = .ok z w) {a : S24} (ha : InId a) (c : Bool) :
    (Instr.lookup t (.map (some b)) (idV a) c).run Try.prog w = .ok (if c then .tuple #[(f a).getD z, .bool (f a).isSome] else (f a).getD z) w := by
  obtain ⟨l, h1, h2, h3⟩ := h
  obtain ⟨kl, hkl⟩ := id_key ha
  rw [← h3 a]
  exact h1.lookup id_keyed ht hz hkl c
theorem MapIs.update {t e : TypeId} (h : MapIs w b f) (ht : Try.prog.underlying t = some (.map 24 e)) {a : S24} (ha : InId a) (v : Value) :
    ∃ w', (Instr.mapUpdate t (.map (some b)) (idV a) v).run Try.prog w = .ok () w' ∧ MapIs w' b (fun x => if x = a then some v else f x) ∧ w.grownBy w' (some b) ∧ w'.heap.size = w.heap.size := by
  obtain ⟨l, h1, h2, h3⟩ := h
  obtain ⟨kl, hkl⟩ := id_key ha
  obtain ⟨w', r1, r2, r3, r4⟩ := h1.update id_keyed ht (v := v) hkl
  refine ⟨w', r1, ⟨_, r2, fun p hp => ?_, fun x => ?_⟩, r3, r4⟩
  · exact keys_putK (G := fun v => ∃ a, InId a ∧ v = idV a) h2 ⟨a, ha, rfl⟩ p hp
  · rw [atK_putK, h3]
    show _ = if x = a then some v else f x
    by_cases e : x = a
    · rw [if_pos (by rw [e]), if_pos e]
    · rw [if_neg (fun h => e (idV_inj h).symm), if_neg e]
end
end Go.Proofs.Ytdepmcofnlggaaa.PResolverCycles
end
section
set_option linter.unusedVariables false
set_option linter.unusedSimpArgs false
attribute [local go_sem ↓] Go.wp_at_zero Go.wp_at_succ
namespace Go.Proofs.Ytdepmcofnlggaaa.PResolverCycles
open Go.RowKit Go.Proofs.YtdepmcofnlggaaaW.PrintWords Go.Proofs.YtdepmcofnlggaaaW.PrintLast Go.Proofs.YtdepmcofnlggaaaW.PrintMore
open Classical

def cmpZ (x y : Int) : Int := if x < y then -1 else if y < x then 1 else 0
theorem nan_walk (x : Int) (w : World) : Calls Try.prog 80 #[.int .i64 x] w fun e w' => e = .returned (.bool false) ∧ w' = w := by
  have h : (x != x) = false := by simp
  go_enter Try.func80, Try.ntmps80
  go_wp2_with fail
  go_ret
  exact ⟨rfl, rfl⟩
theorem cmp_walk (x y : Int) (w : World) : Calls Try.prog 59 #[.int .i64 x, .int .i64 y] w fun e w' => e = .returned (.int .i64 (cmpZ x y)) ∧ w' = w := by
  rcases Int.lt_trichotomy x y with h | h | h
  · have e : cmpZ x y = -1 := by unfold cmpZ; rw [if_pos h]
    rw [e]
    go_enter Try.func59, Try.ntmps59
    go_wp2_with (go_at_call 80; refine (nan_walk _ _).mono ?_; rintro e w' ⟨rfl, rfl⟩)
    go_ret
    exact ⟨rfl, rfl⟩
  · subst h
    have e : cmpZ x x = 0 := by unfold cmpZ; rw [if_neg (by omega), if_neg (by omega)]
    rw [e]
    have h1 : ¬ x < x := by omega
    go_enter Try.func59, Try.ntmps59
    go_wp2_with (go_at_call 80; refine (nan_walk _ _).mono ?_; rintro e w' ⟨rfl, rfl⟩)
    go_ret
    exact ⟨rfl, rfl⟩
  · have e : cmpZ x y = 1 := by unfold cmpZ; rw [if_neg (by omega), if_pos h]
    rw [e]
    have h1 : ¬ x < y := by omega
    go_enter Try.func59, Try.ntmps59
    go_wp2_with (go_at_call 80; refine (nan_walk _ _).mono ?_; rintro e w' ⟨rfl, rfl⟩)
    go_ret
    exact ⟨rfl, rfl⟩
def orZ (x y : Int) : Int := if x = 0 then y else x
theorem or_walk (w : World) (g : Nat) (x y : Int) (h0 : w.cell? ⟨g, 0, none⟩ = some (.int .i64 x)) (h1 : w.cell? ⟨g, 1, none⟩ = some (.int .i64 y)) :
    Calls Try.prog 58 #[.slice (some ⟨g, 0, none⟩) 2 2] w fun e w' => e = .returned (.int .i64 (orZ x y)) ∧ w' = w := by
  go_enter Try.func58, Try.ntmps58
  go_wp2_with fail
  go_loop [8] (fun i => i = .int .i64 0 ∨ (i = .int .i64 1 ∧ x = 0) ∨ (i = .int .i64 2 ∧ x = 0 ∧ y = 0)) (fun i => 2 - (intOf i).toNat)
  case atStart => exact .inl rfl
  case round =>
    rcases hrel with rfl | ⟨rfl, hx⟩ | ⟨rfl, hx, hy⟩
    · by_cases h : x = 0
      · have hb : (x != 0) = false := by simp [h]
        replace h := Go.Lib.hid h
        go_wp2_with fail
        go_round
        case rel => exact .inr (.inl ⟨rfl, h.out⟩)
        case measure => simp [intOf]
      · have hb : (x != 0) = true := by simp [h]
        have hr : orZ x y = x := if_neg h
        replace hr := Go.Lib.hid hr
        go_wp2_with fail
        go_ret
        exact ⟨by rw [hr.out]; rfl, rfl⟩
    · have hr : orZ x y = y := if_pos hx
      replace hr := Go.Lib.hid hr
      replace hx := Go.Lib.hid hx
      by_cases h : y = 0
      · have hb : (y != 0) = false := by simp [h]
        replace h := Go.Lib.hid h
        go_wp2_with fail
        go_round
        case rel => exact .inr (.inr ⟨rfl, hx.out, h.out⟩)
        case measure => simp [intOf]
      · have hb : (y != 0) = true := by simp [h]
        go_wp2_with fail
        go_ret
        exact ⟨by rw [hr.out]; rfl, rfl⟩
    · have hr : orZ x y = 0 := by unfold orZ; rw [if_pos hx, hy]
      replace hr := Go.Lib.hid hr
      clear hx hy
      go_wp2_with fail
      go_ret
      exact ⟨by rw [hr.out]; rfl, rfl⟩
/-- -1, where a is older, 1, where b is, 0, where they are one -/
def cmpI (a b : S24) : Int := orZ (cmpZ a.f0 b.f0) (cmpZ a.f1 b.f1)
theorem cmpZ_self (x : Int) : cmpZ x x = 0 := by unfold cmpZ; rw [if_neg (by omega), if_neg (by omega)]
/-- draws and new blocks, nothing else -/
def Grown (w w' : World) : Prop := ∃ q os, w' = Sort.grow (w.drewN q) os
theorem Grown.refl (w : World) : Grown w w := ⟨0, #[], by simp [Sort.grow, World.drewN]⟩
theorem Grown.alloc {w W : World} (h : Grown w W) (o : Obj) : Grown w (W.alloc o) := by
  obtain ⟨q, os, rfl⟩ := h
  exact ⟨q, os.push o, by simp [Sort.grow, World.alloc]⟩
theorem Grown.drew {w W : World} (h : Grown w W) : Grown w W.drew := by
  obtain ⟨q, os, rfl⟩ := h
  exact ⟨q + 1, os, rfl⟩
theorem Grown.below {w W : World} (h : Grown w W) : Below w.heap.size w W := by
  obtain ⟨q, os, rfl⟩ := h
  refine ⟨rfl, rfl, rfl, ?_, fun i hi => ?_⟩
  · simp [Sort.grow]
  · show (w.heap ++ os)[i]? = w.heap[i]?
    rw [Array.getElem?_append_left hi]
theorem two_old (w : World) (o1 o2 : Obj) : ((w.alloc o1).alloc o2).heap[w.heap.size]? = some o1 := by
  rw [heap_alloc_old (w.alloc o1) o2 (by simp)]
  exact heap_alloc_new w o1
theorem two_new (w : World) (o1 o2 : Obj) : ((w.alloc o1).alloc o2).heap[w.heap.size + 1]? = some o2 := by
  have h := heap_alloc_new (w.alloc o1) o2
  have hz : (w.alloc o1).heap.size = w.heap.size + 1 := by simp
  rwa [hz] at h
set_option maxHeartbeats 2000000 in
set_option maxRecDepth 20000 in
theorem compare_walk (a b : S24) (w : World) : Calls Try.prog 24 #[idV a, idV b] w fun e w' => e = .returned (.int .i64 (cmpI a b)) ∧ Grown w w' := by
  have hG : Grown w ((w.alloc (.cells #[.int .i64 a.f0, .int .i64 a.f1] 24)).alloc (.cells #[.int .i64 b.f0, .int .i64 b.f1] 24)) := ((Grown.refl w).alloc _).alloc _
  unfold idV
  have k1 := Decidable.em (a.f0 = b.f0 ∧ a.f1 = b.f1)
  rcases k1 with h | h
  · have e : cmpI a b = 0 := by unfold cmpI orZ; rw [h.1, h.2, cmpZ_self, cmpZ_self]; rfl
    rw [e]
    have d1 : (a.f0 == b.f0) = true := by simpa using h.1
    have d2 : (a.f1 == b.f1) = true := by simpa using h.2
    replace h := Go.Lib.hid h
    go_enter Try.func24, Try.ntmps24
    go_wp2_with fail
    go_ret
    exact ⟨rfl, hG⟩
  · have key : (a.f0 == b.f0) = false ∨ ((a.f0 == b.f0) = true ∧ (a.f1 == b.f1) = false) := by
      by_cases h0 : a.f0 = b.f0
      · exact .inr ⟨by simpa using h0, by simpa using fun h1 => h ⟨h0, h1⟩⟩
      · exact .inl (by simpa using h0)
    replace h := Go.Lib.hid h
    rcases key with d1 | ⟨d1, d2⟩
    all_goals
      have hx := two_old w (.cells #[.int .i64 a.f0, .int .i64 a.f1] 24) (.cells #[.int .i64 b.f0, .int .i64 b.f1] 24)
      have hy := two_new w (.cells #[.int .i64 a.f0, .int .i64 a.f1] 24) (.cells #[.int .i64 b.f0, .int .i64 b.f1] 24)
      go_enter Try.func24, Try.ntmps24
      go_upto_region 1 with fail
      generalize (w.alloc (.cells #[.int .i64 a.f0, .int .i64 a.f1] 24)).alloc (.cells #[.int .i64 b.f0, .int .i64 b.f1] 24) = V at *
      generalize w.heap.size + 1 = gy at *
      obtain ⟨gx, hgx⟩ : ∃ y, y = w.heap.size := ⟨_, rfl⟩
      rw [← hgx] at hx ⊢
      clear hgx
      have a0 := blk_cell hx 0
      have a1 := blk_cell hx 1
      have b0 := blk_cell hy 0
      have b1 := blk_cell hy 1
      simp only [List.getElem?_toArray, List.getElem?_cons_zero, List.getElem?_cons_succ] at a0 a1 b0 b1
      clear hx hy
      go_upto_region 3 with fail
      have hc := heap_alloc_new V.drew (.cells #[.int .i64 (cmpZ a.f0 b.f0), .int .i64 (cmpZ a.f1 b.f1)] 3)
      have c0 := blk_cell hc 0
      have c1 := blk_cell hc 1
      simp only [List.getElem?_toArray, List.getElem?_cons_zero, List.getElem?_cons_succ] at c0 c1
      clear hc
      have hD : Below V.heap.size V V.drew := below_drew (Below.refl _ _)
      have hE : Below V.heap.size V (V.drew.alloc (.cells #[.int .i64 (cmpZ a.f0 b.f0), .int .i64 (cmpZ a.f1 b.f1)] 3)) := below_alloc hD _
      have HO := or_walk _ _ _ _ c0 c1
      have hor : orZ (cmpZ a.f0 b.f0) (cmpZ a.f1 b.f1) = cmpI a b := rfl
      rw [hor] at HO
      clear hor c0 c1
      go_region_held_law (fun w' => w'.cell? ⟨gx, 0, none⟩ = some (.int .i64 a.f0) ∧ w'.cell? ⟨gx, 1, none⟩ = some (.int .i64 a.f1) ∧ w'.cell? ⟨gy, 0, none⟩ = some (.int .i64 b.f0) ∧ w'.cell? ⟨gy, 1, none⟩ = some (.int .i64 b.f1))
        (first | go_keep | exact ⟨pw_cell_below hE a0, pw_cell_below hE a1, pw_cell_below hE b0, pw_cell_below hE b1⟩ | exact ⟨pw_cell_below hD a0, pw_cell_below hD a1, pw_cell_below hD b0, pw_cell_below hD b1⟩)
        ((first
          | (go_at_call 58; refine HO.mono ?_; rintro e w' ⟨rfl, rfl⟩)
          | (go_at_call 59; refine (cmp_walk _ _ _).mono ?_; rintro e w' ⟨rfl, rfl⟩)))
      all_goals (go_wp2_with fail; go_ret; exact ⟨rfl, hG.drew.alloc _⟩)
end Go.Proofs.Ytdepmcofnlggaaa.PResolverCycles
end
section
namespace Go.Proofs
open Go.Shelf
def Try.sortId_ren : Go.Shelf.Ren := ⟨fun | 6 => 61 | 15 => 70 | 14 => 81 | 28 => 90 | 29 => 91 | 20 => 94 | 21 => 95 | 22 => 96 | 23 => 97 | 24 => 98 | 25 => 99 | 26 => 100 | 27 => 101 | 46 => 109 | 47 => 103 | 48 => 104 | 49 => 110 | 50 => 111 | 57 => 113 | n => n, fun | 22 => 27 | 24 => 24 | 25 => 53 | 3 => 3 | 39 => 114 | 0 => 0 | 53 => 135 | 55 => 137 | 4 => 4 | 46 => 129 | 45 => 128 | 50 => 104 | 5 => 5 | 9 => 9 | 66 => 147 | 70 => 151 | 76 => 157 | 77 => 158 | n => n, fun | n => n⟩
theorem Try.sortId : Go.Proofs.SlLaysF0.n6 Try.prog Try.sortId_ren := {
  mixed := by kernel_rfl
  f6 := ⟨Try.f61.name, by decide, Try.func61.trans (congrArg some (by kernel_rfl))⟩
  f14 := ⟨Try.f81.name, by decide, Try.func81.trans (congrArg some (by kernel_rfl))⟩
  f15 := Try.func70.trans (congrArg some (by kernel_rfl))
  f20 := ⟨Try.f94.name, by decide, Try.func94.trans (congrArg some (by kernel_rfl))⟩
  f21 := ⟨Try.f95.name, by decide, Try.func95.trans (congrArg some (by kernel_rfl))⟩
  f22 := ⟨Try.f96.name, by decide, Try.func96.trans (congrArg some (by kernel_rfl))⟩
  f23 := ⟨Try.f97.name, by decide, Try.func97.trans (congrArg some (by kernel_rfl))⟩
  f24 := ⟨Try.f98.name, by decide, Try.func98.trans (congrArg some (by kernel_rfl))⟩
  f25 := ⟨Try.f99.name, by decide, Try.func99.trans (congrArg some (by kernel_rfl))⟩
  f26 := ⟨Try.f100.name, by decide, Try.func100.trans (congrArg some (by kernel_rfl))⟩
  f27 := ⟨Try.f101.name, by decide, Try.func101.trans (congrArg some (by kernel_rfl))⟩
  f28 := Try.func90.trans (congrArg some (by kernel_rfl))
  f29 := Try.func91.trans (congrArg some (by kernel_rfl))
  f46 := ⟨Try.f109.name, by decide, Try.func109.trans (congrArg some (by kernel_rfl))⟩
  f47 := Try.func103.trans (congrArg some (by kernel_rfl))
  f48 := Try.func104.trans (congrArg some (by kernel_rfl))
  f49 := ⟨Try.f110.name, by decide, Try.func110.trans (congrArg some (by kernel_rfl))⟩
  f50 := ⟨Try.f111.name, by decide, Try.func111.trans (congrArg some (by kernel_rfl))⟩
  f57 := ⟨Try.f113.name, by decide, Try.func113.trans (congrArg some (by kernel_rfl))⟩
  t0 := Try.underlying0
  a0 := Try.isAgg0
  z0 := Try.sizeOf0
  v0 := Try.zeroValue0
  t3 := Try.underlying3
  a3 := Try.isAgg3
  z3 := Try.sizeOf3
  v3 := Try.zeroValue3
  t4 := Try.underlying4
  a4 := Try.isAgg4
  z4 := Try.sizeOf4
  v4 := Try.zeroValue4
  t5 := Try.underlying5
  a5 := Try.isAgg5
  z5 := Try.sizeOf5
  v5 := Try.zeroValue5
  t9 := Try.underlying9
  a9 := Try.isAgg9
  z9 := Try.sizeOf9
  v9 := Try.zeroValue9
  t22 := Try.underlying27
  a22 := Try.isAgg27
  z22 := Try.sizeOf27
  v22 := Try.zeroValue27
  t25 := Try.underlying53
  a25 := Try.isAgg53
  z25 := Try.sizeOf53
  v25 := Try.zeroValue53
  t39 := Try.underlying114
  a39 := Try.isAgg114
  z39 := Try.sizeOf114
  v39 := Try.zeroValue114
  t45 := Try.underlying128
  a45 := Try.isAgg128
  z45 := Try.sizeOf128
  v45 := Try.zeroValue128
  t46 := Try.underlying129
  a46 := Try.isAgg129
  z46 := Try.sizeOf129
  v46 := Try.zeroValue129
  t50 := Try.underlying104
  a50 := Try.isAgg104
  z50 := Try.sizeOf104
  v50 := Try.zeroValue104
  t53 := Try.underlying135
  a53 := Try.isAgg135
  z53 := Try.sizeOf135
  v53 := Try.zeroValue135
  t55 := Try.underlying137
  a55 := Try.isAgg137
  z55 := Try.sizeOf137
  v55 := Try.zeroValue137
  t66 := Try.underlying147
  a66 := Try.isAgg147
  z66 := Try.sizeOf147
  v66 := Try.zeroValue147
  t70 := Try.underlying151
  a70 := Try.isAgg151
  z70 := Try.sizeOf151
  v70 := Try.zeroValue151
  t76 := Try.underlying157
  a76 := Try.isAgg157
  z76 := Try.sizeOf157
  v76 := Try.zeroValue157
  t77 := Try.underlying158
  a77 := Try.isAgg158
  z77 := Try.sizeOf158
  v77 := Try.zeroValue158 }
end Go.Proofs
end
section
set_option linter.unusedVariables false
set_option linter.unusedSimpArgs false
namespace Go.Proofs.Ytdepmcofnlggaaa.PResolverCycles
open Go.RowKit Go.Proofs.YtdepmcofnlggaaaW.PrintWords Go.Proofs.YtdepmcofnlggaaaW.PrintLast Go.Proofs.YtdepmcofnlggaaaW.PrintMore
open Classical

/-- an identity's two cells -/
def encId (a : S24) : List Value := [.int .i64 a.f0, .int .i64 a.f1]
def idc (l : List S24) : List Value := l.flatMap encId
theorem idc_len (l : List S24) : (idc l).length = l.length * 2 := by
  induction l with
  | nil => rfl
  | cons a l ih => simp only [idc, List.flatMap_cons, List.length_append, List.length_cons] at ih ⊢; rw [ih]; simp [encId]; omega
theorem idc_append (a b : List S24) : idc (a ++ b) = idc a ++ idc b := by simp [idc]
theorem idc_at : ∀ (l : List S24) (i : Nat) (h : i < l.length), (idc l)[i * 2]? = some (.int .i64 l[i].f0) ∧ (idc l)[i * 2 + 1]? = some (.int .i64 l[i].f1)
  | a :: l, 0, h => by simp [idc, encId]
  | a :: l, i + 1, h => by
    have h' := idc_at l i (by simpa using h)
    have e : idc (a :: l) = encId a ++ idc l := rfl
    rw [e, show (i + 1) * 2 = 2 + i * 2 by omega, show 2 + i * 2 + 1 = 2 + (i * 2 + 1) by omega, List.getElem?_append_right (by simp [encId]), List.getElem?_append_right (by simp [encId])]
    simp only [encId, List.length_cons, List.length_nil, Nat.zero_add]
    rw [show 2 + i * 2 - 2 = i * 2 by omega, show 2 + (i * 2 + 1) - 2 = i * 2 + 1 by omega]
    simpa using h'
instance : Inhabited S24 := ⟨z24⟩
theorem flat_idc (d : Array S24) : (Go.Sort.flatK encId 2 d).toList = idc d.toList := by
  apply List.ext_getElem?
  intro t
  by_cases h : t < d.size * 2
  · have h1 : (Go.Sort.flatK encId 2 d).toList[t]? = some ((encId d[t / 2]!)[t % 2]!) := by
      rw [Array.getElem?_toList, Array.getElem?_eq_getElem (by simpa using h), ← getElem!_pos _ t (by simpa using h), Go.Sort.get_flatK encId 2 d t h]
    have hi : t / 2 < d.toList.length := by simp; omega
    obtain ⟨q0, q1⟩ := idc_at d.toList (t / 2) hi
    have hd : d[t / 2]! = d.toList[t / 2] := by rw [getElem!_pos d (t / 2) (by simpa using hi)]; simp
    rw [h1, hd]
    rcases Nat.mod_two_eq_zero_or_one t with e | e
    · have ht : t = t / 2 * 2 := by omega
      rw [e]
      have : (idc d.toList)[t]? = (idc d.toList)[t / 2 * 2]? := by rw [← ht]
      rw [this, q0]
      rfl
    · have ht : t = t / 2 * 2 + 1 := by omega
      rw [e]
      have : (idc d.toList)[t]? = (idc d.toList)[t / 2 * 2 + 1]? := by rw [← ht]
      rw [this, q1]
      rfl
  · rw [List.getElem?_eq_none (by simp; omega), List.getElem?_eq_none (by rw [idc_len]; simp; omega)]
/-- a row of identities of the call's own -/
abbrev IdRow (w : World) (base g c : Nat) (l : List S24) : Prop := w.ownsRow base 24 2 (.slice (some ⟨g, 0, none⟩) l.length c) l.length (idc l)
theorem idrow_form {w : World} {base g c : Nat} {l : List S24} (h : IdRow w base g c l) (hn : 0 < l.length) : ∃ cur, w.heap[g]? = some (.cells cur 24 (0, 0)) ∧ base ≤ g ∧ l.length ≤ c ∧ c ≤ maxLen ∧ cur.size = c * 2 ∧ cur.toList.take (l.length * 2) = idc l := by
  rcases h.2 with ⟨h0, _⟩ | ⟨g', c', cur, e, h1, h2, h3, h4, h5, h6⟩
  · cases h0
  · cases e
    exact ⟨cur, h2, h1, h3, h4, h5, h6⟩
theorem idrow_cell {w : World} {base g c : Nat} {l : List S24} (h : IdRow w base g c l) (i : Nat) (hi : i < l.length) : w.cell? ⟨g, i * 2, none⟩ = some (.int .i64 l[i].f0) ∧ w.cell? ⟨g, i * 2 + 1, none⟩ = some (.int .i64 l[i].f1) := by
  obtain ⟨q0, q1⟩ := idc_at l i hi
  have hc := h.cells (g := g) rfl
  have c0 := hc _ _ q0
  have c1 := hc _ _ q1
  rw [add_plain] at c0 c1
  exact ⟨c0, c1⟩
theorem idrow_holds {w : World} {base g c : Nat} {l : List S24} (h : IdRow w base g c l) (hn : 0 < l.length) : Go.Sort.HoldsK encId 2 w g 0 l.toArray := by
  obtain ⟨cur, hg, _, hc, _, hs, ht⟩ := idrow_form h hn
  intro j hj
  have hj' : j < l.length * 2 := by simpa using hj
  have hf := flat_idc l.toArray
  rw [Nat.zero_add]
  refine ⟨?_, blk_frozen hg j⟩
  rw [blk_cell hg j]
  have h1 : (idc l)[j]? = cur[j]? := by rw [← ht, List.getElem?_take, if_pos hj', Array.getElem?_toList]
  rw [← h1]
  have h2 : (Go.Sort.flatK encId 2 l.toArray)[j]! = (idc l)[j]'(by rw [idc_len]; exact hj') := by
    rw [getElem!_pos _ j hj]
    have : (Go.Sort.flatK encId 2 l.toArray)[j] = (Go.Sort.flatK encId 2 l.toArray).toList[j]'(by simpa using hj) := by simp
    rw [this]
    simp only [hf]
  rw [h2, List.getElem?_eq_getElem]
  rfl
/-- the world behind a sort: the row holds the list sorted; every other block stands -/
theorem sortWorld_row {w : World} {base g c : Nat} {l s : List S24} (h : IdRow w base g c l) (hn : 0 < l.length) (hs : s.length = l.length) (m : Nat) (os : Array Obj) :
    IdRow (sortWorldK encId 2 w g 0 m s.toArray os) base g c s ∧ w.grownBy (sortWorldK encId 2 w g 0 m s.toArray os) (some g) := by
  obtain ⟨cur, hg, hb, hc, hm, hz, ht⟩ := idrow_form h hn
  have hlt := (Array.getElem?_eq_some_iff.1 hg).1
  have hFs : (Go.Sort.flatK encId 2 s.toArray).size = l.length * 2 := by simp [hs]
  have hh : (sortWorldK encId 2 w g 0 m s.toArray os).heap[g]? = some (.cells (Go.Sort.putCells id 0 (Go.Sort.flatK encId 2 s.toArray) cur) 24 (0, 0)) := by
    show ((w.heap.modify g (Go.Sort.onCells (Go.Sort.putCells id 0 (Go.Sort.flatK encId 2 s.toArray)))) ++ os)[g]? = _
    rw [Array.getElem?_append_left (by simpa using hlt), Array.getElem?_modify, if_pos rfl, hg]
    rfl
  have ho : ∀ k, k < w.heap.size → k ≠ g → (sortWorldK encId 2 w g 0 m s.toArray os).heap[k]? = w.heap[k]? := by
    intro k hk hne
    show ((w.heap.modify g (Go.Sort.onCells (Go.Sort.putCells id 0 (Go.Sort.flatK encId 2 s.toArray)))) ++ os)[k]? = _
    rw [Array.getElem?_append_left (by simpa using hk), Array.getElem?_modify, if_neg (fun e => hne e.symm)]
  refine ⟨⟨by rw [idc_len], .inr ⟨g, c, _, rfl, hb, hh, by omega, hm, by simp [Go.Sort.putCells, hz], ?_⟩⟩, ⟨rfl, rfl, rfl, ?_, fun k hk hne => ho k hk (fun e => hne (by rw [e]))⟩⟩
  · have hF' : (Go.Sort.flatK encId 2 s.toArray).toList = idc s := by simpa using flat_idc s.toArray
    rw [← hF']
    apply List.ext_getElem?
    intro t
    rw [List.getElem?_take]
    by_cases htt : t < s.length * 2
    · rw [if_pos htt, Array.getElem?_toList, Array.getElem?_toList]
      have h1 : t < cur.size := by rw [hz]; omega
      have h2 : t < (Go.Sort.flatK encId 2 s.toArray).size := by rw [hFs]; omega
      unfold Go.Sort.putCells
      rw [Array.getElem?_mapIdx, Array.getElem?_eq_getElem h1, Option.map_some, if_pos ⟨Nat.zero_le _, by omega⟩, Array.getElem?_eq_getElem h2]
      simp only [id, Nat.sub_zero]
      rw [getElem!_pos _ t h2]
    · rw [if_neg htt, Array.getElem?_toList, Array.getElem?_eq_none (by rw [hFs]; omega)]
  · show w.heap.size ≤ ((w.heap.modify g _) ++ os).size
    simp

/-! ### the order of identities -/
def ltI (a b : S24) : Prop := a.f0 < b.f0 ∨ (a.f0 = b.f0 ∧ a.f1 < b.f1)
theorem cmpI_lt {a b : S24} : cmpI a b < 0 ↔ ltI a b := by
  unfold cmpI orZ cmpZ ltI
  repeat' split
  all_goals omega
theorem cmpI_gt {a b : S24} : 0 < cmpI a b ↔ ltI b a := by
  unfold cmpI orZ cmpZ ltI
  repeat' split
  all_goals omega
theorem id_ext {a b : S24} (h0 : a.f0 = b.f0) (h1 : a.f1 = b.f1) : a = b := by
  obtain ⟨a0, a1⟩ := a
  obtain ⟨b0, b1⟩ := b
  simp only at h0 h1
  rw [h0, h1]
theorem tot_id : Rc.Tot ltI := ⟨fun a h => by unfold ltI at h; omega, fun {a b c} h1 h2 => by unfold ltI at *; omega, fun a b => by
  unfold ltI
  by_cases h0 : a.f0 = b.f0
  · by_cases h1 : a.f1 = b.f1
    · exact .inr (.inl (id_ext h0 h1))
    · omega
  · omega⟩
theorem ltOf_id (a b : S24) : ltOf cmpI a b = decide (ltI a b) := by
  unfold ltOf
  rw [Bool.eq_iff_iff]
  simp only [decide_eq_true_eq]
  exact cmpI_lt
theorem swo_id : Go.Sort.SWO (ltOf cmpI) where
  irrefl x := by rw [ltOf_id]; exact decide_eq_false (tot_id.irr x)
  trans x y z h1 h2 := by
    rw [ltOf_id] at *
    exact decide_eq_true (tot_id.tr (of_decide_eq_true h1) (of_decide_eq_true h2))
  ntrans x y z h1 h2 := by
    rw [ltOf_id] at *
    refine decide_eq_false (fun h => ?_)
    have h1' := of_decide_eq_false h1
    have h2' := of_decide_eq_false h2
    unfold ltI at *
    omega
theorem cmp_lays (g size : Nat) (w : World) : CmpLays Try.prog 24 #[] encId 2 cmpI g 0 size w :=
  fun _ _ _ _ x y => (compare_walk x y _).mono fun _ _ h => h
theorem id_agg (w : World) : (isAgg 24).run Try.prog w = .ok true w := by kernel_rfl
theorem id_size (w : World) : (Go.sizeOf 24).run Try.prog w = .ok 2 w := by kernel_rfl
/-- the library's sort by age -/
theorem sort_walk (w : World) (base g c : Nat) (l : List S24) (h : IdRow w base g c l) (hn : 0 < l.length) (hm : l.length ≤ 1000000000) :
    Calls Try.prog 61 #[.slice (some ⟨g, 0, none⟩) l.length c, .func (.func 24) #[] #[]] w fun e w' =>
      e = .returned (.tuple #[]) ∧ ∃ s, s.Perm l ∧ s.Pairwise (fun a b => ¬ ltI b a) ∧ IdRow w' base g c s ∧ w.grownBy w' (some g) := by
  have eg : ∀ args w, (callFunc 24 args).run Try.prog w = .ok (.enter 24 args) w := enters_of Try.func24 (by kernel_rfl) rfl
  obtain ⟨cur, hg, _, hc, _, _, _⟩ := idrow_form h hn
  have hlt := (Array.getElem?_eq_some_iff.1 hg).1
  have hcon := AnyQ.slices_SortFunc Try.sortId 2 id_agg id_size encId (fun _ => rfl) (fun x v hv => by simp [encId] at hv; rcases hv with rfl | rfl <;> rfl) cmpI swo_id 24 #[] g 0 c l.toArray w eg (cmp_lays g _ w) (idrow_holds h hn) hlt (by simp; omega)
  refine (show Calls Try.prog 61 _ _ _ from hcon).mono ?_
  rintro e w' ⟨rfl, d', n, os, hp, hs, rfl⟩
  obtain ⟨p1, _, p3⟩ := hp
  have hs' : d'.toList.length = l.length := by simpa using p1
  have hr := sortWorld_row h hn (s := d'.toList) hs' n os
  refine ⟨rfl, d'.toList, ?_, ?_, hr.1, hr.2⟩
  · have e1 : (d'.extract 0 l.toArray.size) = d' := by rw [← p1]; simp
    rw [e1] at p3
    simpa using p3
  · rw [List.pairwise_iff_getElem]
    intro i j hi hj hij
    have := hs i j (Nat.zero_le _) hij (by simpa [hs'] using hj)
    rw [ltOf_id] at this
    have h2 := of_decide_eq_false this
    rw [getElem!_pos d' i (by simpa using hi), getElem!_pos d' j (by simpa using hj)] at h2
    simpa using h2
end Go.Proofs.Ytdepmcofnlggaaa.PResolverCycles
end
section
set_option linter.unusedVariables false
set_option linter.unusedSimpArgs false
attribute [local go_sem ↓] Go.wp_at_zero Go.wp_at_succ
namespace Go.Proofs.Ytdepmcofnlggaaa.PResolverCycles
open Go.RowKit Go.Proofs.YtdepmcofnlggaaaW.PrintWords Go.Proofs.YtdepmcofnlggaaaW.PrintLast Go.Proofs.YtdepmcofnlggaaaW.PrintMore
open Classical

theorem idc_one (l : List S24) : ∀ u ∈ idc l, u.oneCell' = true := by
  intro u hu
  obtain ⟨a, _, ha⟩ := List.mem_flatMap.1 hu
  simp [encId] at ha
  rcases ha with rfl | rfl <;> rfl
/-- identities that lie one behind the other from an address on -/
def IdsAt (w : World) (ad : Addr) (l : List S24) : Prop := ∀ j u, (idc l)[j]? = some u → w.cell? (ad.add j) = some u
theorem IdsAt.keep {w w' : World} {ad : Addr} {l : List S24} (h : IdsAt w ad l) (hk : ∀ p v, w.cell? p = some v → w'.cell? p = some v) : IdsAt w' ad l := fun j u hu => hk _ _ (h j u hu)
theorem IdsAt.below {w w' : World} {ad : Addr} {l : List S24} (h : IdsAt w ad l) (hb : Below w.heap.size w w') : IdsAt w' ad l := h.keep fun p v hc => pw_cell_below hb hc
theorem idrow_ids {w : World} {base g c : Nat} {l : List S24} (h : IdRow w base g c l) : IdsAt w ⟨g, 0, none⟩ l := h.cells (g := g) rfl
theorem own_idrow {w : World} {base n : Nat} {v : Value} {l : List S24} (h : w.ownsRow base 24 2 v n (idc l)) (hn : 0 < n) : ∃ g c, v = .slice (some ⟨g, 0, none⟩) n c ∧ n = l.length ∧ IdRow w base g c l ∧ base ≤ g ∧ g < w.heap.size := by
  obtain ⟨g, c, e, hb, hlt⟩ := h.form hn
  have hl : n = l.length := by have := h.1; rw [idc_len] at this; omega
  subst hl
  exact ⟨g, c, e, rfl, by rw [e] at h; exact h, hb, hlt⟩
set_option maxRecDepth 20000 in
theorem clone_walk (w : World) (ad : Addr) (c : Nat) (l : List S24) (h : IdsAt w ad l) (hn : 0 < l.length) (hm : l.length ≤ 1000000000) :
    Calls Try.prog 60 #[.slice (some ad) l.length c] w fun e w' => ∃ g c', e = .returned (.slice (some ⟨g, 0, none⟩) l.length c') ∧ IdRow w' w.heap.size g c' l ∧ Below w.heap.size w w' := by
  obtain ⟨i0, hi, hz⟩ := Option.map_eq_some_iff.1 info24
  simp only [Prod.mk.injEq] at hz
  obtain ⟨hz0, hz1, hz2⟩ := hz
  have hO : (w.alloc (.cells #[] 24)).ownsRow w.heap.size 24 2 (.slice (some ⟨w.heap.size, 0, none⟩) 0 0) 0 [] := World.ownsRow_lit (base := w.heap.size) (size := 2) w #[] 0 (Nat.le_refl _) (Nat.zero_le _) rfl
  have hB : Below w.heap.size w (w.alloc (.cells #[] 24)) := below_alloc (Below.refl _ _) _
  have hs := h.below hB
  have hl := idc_len l
  have hBs := hB.size
  obtain ⟨n, hnn⟩ : ∃ n, n = l.length := ⟨_, rfl⟩
  rw [← hnn] at hn hm hl ⊢
  replace hl := Go.Lib.hid hl
  replace hz0 := Go.Lib.hid hz0
  replace hz1 := Go.Lib.hid hz1
  replace hz2 := Go.Lib.hid hz2
  replace hi := Go.Lib.hid hi
  replace hnn := Go.Lib.hid hnn
  have heq := Lib.run_eql_slice_nil (P := Try.prog) w 27 24 (some ad) n c 0 0 Try.underlying27
  go_enter Try.func60, Try.ntmps60
  go_wp2_with ((first | (at_builtin; refine wpList_append_own _ rfl (.tmp 5) (.tmp 6) 27 rfl w.heap.size 24 i0 (.agg #[.int .i64 0, .int .i64 0]) 2 16 Try.underlying27 hi.out hz0.out hz1.out hz2.out rfl (by omega) _ 0 [] rfl hO ad n c (idc l) rfl hl.out hs (idc_one l) (by simp only [maxLen]; omega) (by omega) hBs ?_; intro v1 w1 hown1 hg1 _)))
  rw [List.nil_append, Nat.zero_add] at hown1
  obtain ⟨g, c', rfl, _, hr, _, _⟩ := own_idrow hown1 hn
  have hB1 := pw_below_grown hB _ hBs hg1 (fun k hk => by cases hk; exact Nat.le_refl _)
  go_wp2_with fail
  go_ret
  exact ⟨g, c', by rw [hnn.out]; rfl, hr, hB1⟩
end Go.Proofs.Ytdepmcofnlggaaa.PResolverCycles
end
section
set_option linter.unusedVariables false
set_option linter.unusedSimpArgs false
namespace Go.Proofs.Ytdepmcofnlggaaa.PResolverCycles
open Go.RowKit Go.Proofs.YtdepmcofnlggaaaW.PrintWords Go.Proofs.YtdepmcofnlggaaaW.PrintLast Go.Proofs.YtdepmcofnlggaaaW.PrintMore
open Classical

theorem add_off (b off i : Nat) : (⟨b, off, none⟩ : Addr).add i = ⟨b, off + i, none⟩ := by
  unfold Addr.add
  split <;> simp_all
section
variable {P : Program} (w : World)
/-- there is room: whatever the front -/
theorem run_append_room_off (t ty e : TypeId) (i : TypeInfo) (ht : P.underlying t = some (.slice e)) (hi : P.info? e = some i)
    (g off sLen sCap : Nat) (cur : Array Value) (hg : w.heap[g]? = some (.cells cur e (0, 0)))
    (a : Addr) (m c : Nat) (news : List Value) (hl : news.length = m * i.size) (hnews : ∀ j u, news[j]? = some u → w.cell? (a.add j) = some u) (h1 : ∀ u ∈ news, u.oneCell' = true)
    (hroom : sLen + m ≤ sCap) (hfit : off + sLen * i.size + news.length ≤ cur.size) :
    (Builtin.append_ #[t, t] ty #[.slice (some ⟨g, off, none⟩) sLen sCap, .slice (some a) m c]).run P w =
      .ok (.slice (some ⟨g, off, none⟩) (sLen + m) sCap) (w.setRow g (cur.toList.take (off + sLen * i.size) ++ news ++ cur.toList.drop (off + sLen * i.size + news.length)).toArray) := by
  have hf := run_firstCells_some (P := P) w i.size m a m c news hl hnews
  have hst := run_storeCells_at P g (off + sLen * i.size) e news 0 cur w hg (by simpa using hfit) h1
  simp only [Nat.add_zero] at hst
  simp [Builtin.append_, run_underlying ht, sizeOf, typeInfo, hi, Builtin.lenOf, hroom, hf, add_off, hst]
end
def QueueAt (w : World) (base g o c : Nat) (l : List S24) : Prop :=
  ∃ cur, w.heap[g]? = some (.cells cur 24 (0, 0)) ∧ base ≤ g ∧ l.length ≤ c ∧ c ≤ maxLen ∧ cur.size = o * 2 + c * 2 ∧ (cur.toList.drop (o * 2)).take (l.length * 2) = idc l
theorem QueueAt.block {w w' : World} {base g o c : Nat} {l : List S24} (h : QueueAt w base g o c l) (hb : w'.heap[g]? = w.heap[g]?) : QueueAt w' base g o c l := by
  obtain ⟨cur, hg, r⟩ := h
  exact ⟨cur, hb.trans hg, r⟩
theorem QueueAt.lt {w : World} {base g o c : Nat} {l : List S24} (h : QueueAt w base g o c l) : base ≤ g ∧ g < w.heap.size := by
  obtain ⟨cur, hg, hb, _⟩ := h
  exact ⟨hb, (Array.getElem?_eq_some_iff.1 hg).1⟩
theorem QueueAt.kept {w w' : World} {row : Option Nat} {base g o c : Nat} {l : List S24} (h : QueueAt w base g o c l) (hg : w.grownBy w' row) (hne : some g ≠ row) : QueueAt w' base g o c l := h.block (hg.block g h.lt.2 hne)
theorem QueueAt.ids {w : World} {base g o c : Nat} {l : List S24} (h : QueueAt w base g o c l) : IdsAt w ⟨g, o * 2, none⟩ l := by
  obtain ⟨cur, hg, _, _, _, _, ht⟩ := h
  intro j u hu
  rw [add_off, blk_cell hg]
  have hj : j < l.length * 2 := by
    have := (List.getElem?_eq_some_iff.1 hu).1
    rwa [idc_len] at this
  rw [← ht, List.getElem?_take, if_pos hj, List.getElem?_drop, Array.getElem?_toList] at hu
  exact hu
theorem QueueAt.head {w : World} {base g o c : Nat} {a : S24} {l : List S24} (h : QueueAt w base g o c (a :: l)) : w.cell? ⟨g, o * 2, none⟩ = some (.int .i64 a.f0) ∧ w.cell? ⟨g, o * 2 + 1, none⟩ = some (.int .i64 a.f1) := by
  have h0 := h.ids 0 (.int .i64 a.f0) rfl
  have h1 := h.ids 1 (.int .i64 a.f1) rfl
  rw [add_off] at h0 h1
  exact ⟨h0, h1⟩
theorem QueueAt.pop {w : World} {base g o c : Nat} {a : S24} {l : List S24} (h : QueueAt w base g o c (a :: l)) : QueueAt w base g (o + 1) (c - 1) l := by
  obtain ⟨cur, hg, hb, hc, hm, hs, ht⟩ := h
  simp only [List.length_cons] at hc ht
  refine ⟨cur, hg, hb, by omega, by omega, by omega, ?_⟩
  have e : idc (a :: l) = encId a ++ idc l := rfl
  have h2 : ((cur.toList.drop (o * 2)).take ((l.length + 1) * 2)).drop 2 = idc l := by rw [ht, e]; rfl
  rw [List.drop_take, List.drop_drop] at h2
  rw [show (o + 1) * 2 = o * 2 + 2 by omega]
  rw [show (l.length + 1) * 2 - 2 = l.length * 2 by omega] at h2
  exact h2
theorem QueueAt.of_row {w : World} {base g c : Nat} {l : List S24} (h : IdRow w base g c l) (hn : 0 < l.length) : QueueAt w base g 0 c l := by
  obtain ⟨cur, hg, hb, hc, hm, hs, ht⟩ := idrow_form h hn
  exact ⟨cur, hg, hb, hc, hm, by omega, by simpa using ht⟩
/-- append(queue, x) -/
theorem QueueAt.push {w : World} {base g o c : Nat} {l : List S24} (h : QueueAt w base g o c l) (hbase : base ≤ w.heap.size) (hm : l.length ≤ 1000000000) (x : S24) (ad : Addr) (k : Nat) (hx : IdsAt w ad [x]) (ty : TypeId) :
    ∃ g' o' c' w', (Builtin.append_ #[27, 27] ty #[.slice (some ⟨g, o * 2, none⟩) l.length c, .slice (some ad) 1 k]).run Try.prog w = .ok (.slice (some ⟨g', o' * 2, none⟩) (l.length + 1) c') w' ∧ QueueAt w' base g' o' c' (l ++ [x]) ∧ w.grownBy w' (some g) ∧ (g' = g ∨ g' = w.heap.size) := by
  obtain ⟨i0, hi, hz⟩ := Option.map_eq_some_iff.1 info24
  simp only [Prod.mk.injEq] at hz
  obtain ⟨hz0, hz1, hz2⟩ := hz
  have hids := h.ids
  obtain ⟨cur, hg, hb, hc, hcm, hs, ht⟩ := h
  have hl := idc_len l
  by_cases hroom : l.length + 1 ≤ c
  · have hr := run_append_room_off (P := Try.prog) w 27 ty 24 i0 Try.underlying27 hi g (o * 2) l.length c cur hg ad 1 k (idc [x]) (by rw [hz1]; rfl) hx (idc_one [x]) hroom (by rw [hz1, hs, idc_len]; simp only [List.length_cons, List.length_nil]; omega)
    rw [hz1] at hr
    have hx2 : (idc [x]).length = 2 := rfl
    refine ⟨g, o, c, _, hr, ⟨_, setRow_heap w g cur _ _ _ hg, hb, by simp; omega, hcm, ?_, ?_⟩, ⟨rfl, rfl, rfl, by simp, fun q _ hq => setRow_other w g q _ (fun e => hq (by rw [e]))⟩, .inl rfl⟩
    · simp only [List.size_toArray, List.length_append, List.length_take, List.length_drop, Array.length_toList, hx2, hs]
      omega
    · have hcl : cur.toList.length = cur.size := Array.length_toList
      rw [List.toList_toArray, List.append_assoc, idc_append, ← ht]
      have e1 : (cur.toList.take (o * 2 + l.length * 2)).length = o * 2 + l.length * 2 := by rw [List.length_take, hcl, hs]; omega
      rw [List.drop_append_of_le_length (by rw [e1]; omega), List.drop_take, show o * 2 + l.length * 2 - o * 2 = l.length * 2 by omega]
      generalize (cur.toList.drop (o * 2)).take (l.length * 2) = F at *
      have e2 : F.length = l.length * 2 := by rw [ht, hl]
      have e4 : (F ++ idc [x]).length = (l ++ [x]).length * 2 := by rw [List.length_append, e2, hx2]; simp; omega
      rw [← List.append_assoc, ← e4]
      exact List.take_left
  · have hr := run_append_grow (P := Try.prog) w 27 ty 24 i0 _ Try.underlying27 hi hz0 ⟨g, o * 2, none⟩ l.length c (idc l) (by rw [hz1, hl]) hids ad 1 k (idc [x]) (by rw [hz1]; rfl) hx (by omega) (by omega) (growslice_fits (by omega) (by rw [hz2]; omega))
    have hge := grownCap_ge w (l.length + 1) c 24
    have hcm2 : grownCap w (l.length + 1) c 24 ≤ maxLen := grownCap_le_maxLen w (l.length + 1) c 24 (by simp only [maxLen]; omega)
    generalize hcap : grownCap w (l.length + 1) c 24 = cap at *
    refine ⟨w.heap.size, 0, cap, _, by simpa using hr, ⟨_, heap_alloc_new w.drew _, hbase, by simp; omega, hcm2, ?_, ?_⟩, ⟨rfl, rfl, rfl, by simp, fun q hq _ => heap_alloc_old w.drew _ hq⟩, .inr rfl⟩
    · have hzz : (Value.agg #[Value.int .i64 0, Value.int .i64 0]).cells.size = 2 := rfl
      have hx2 : (idc [x]).length = 2 := rfl
      simp only [Array.size_append, List.size_toArray, List.length_append, size_zeroCells, hl, hx2, hzz]
      omega
    · rw [idc_append]
      simp only [Array.toList_append, List.append_assoc, Nat.zero_mul, List.drop_zero]
      rw [← List.append_assoc]
      have e3 : (l ++ [x]).length * 2 = (idc l ++ idc [x]).length := by simp [idc_len]; omega
      rw [e3]
      exact List.take_left
end Go.Proofs.Ytdepmcofnlggaaa.PResolverCycles
end
section
set_option linter.unusedVariables false
set_option linter.unusedSimpArgs false
namespace Go.Proofs.Ytdepmcofnlggaaa.PResolverCycles
open Go.RowKit Go.WideMaps Go.Proofs.YtdepmcofnlggaaaW.PrintWords Go.Proofs.YtdepmcofnlggaaaW.PrintLast Go.Proofs.YtdepmcofnlggaaaW.PrintMore
open Go.Maps (Keyed)
open Classical

/-- .. and the entry at a bears this stamp -/
def EntIs (w : World) (b : Nat) (f : S24 → Option Value) (a : S24) (n : Nat) : Prop :=
  ∃ l, EntAt Try.prog 24 w b l (idV a) n ∧ InId a ∧ (∀ p ∈ l, ∃ a, InId a ∧ p.1 = idV a) ∧ ∀ a, atK l (idV a) = f a
theorem put_fun {l : Ents} {f : S24 → Option Value} (h3 : ∀ a, atK l (idV a) = f a) (a : S24) (v : Value) (x : S24) : atK (putK l (idV a) v) (idV x) = if x = a then some v else f x := by
  rw [atK_putK, h3]
  by_cases e : x = a
  · rw [if_pos (by rw [e]), if_pos e]
  · rw [if_neg (fun h => e (idV_inj h).symm), if_neg e]
section
variable {w w' : World} {b : Nat} {f : S24 → Option Value} {a : S24} {n : Nat}
theorem EntIs.kept {row : Option Nat} (h : EntIs w b f a n) (hg : w.grownBy w' row) (hne : some b ≠ row) : EntIs w' b f a n := by
  obtain ⟨l, h1, h2⟩ := h
  exact ⟨l, h1.kept hg hne, h2⟩
theorem MapIs.entry {t e : TypeId} (h : MapIs w b f) (ht : Try.prog.underlying t = some (.map 24 e)) {z : Value} (hz : ∀ w, (zeroValue e).run Try.prog w = .ok z w) (ha : InId a) :
    ∃ w' n, (Instr.mapEntry t (.map (some b)) (idV a)).run Try.prog w = .ok (.tuple #[(f a).getD z, goInt (n : Nat)]) w' ∧ EntIs w' b (fun x => if x = a then some ((f a).getD z) else f x) a n ∧ w.grownBy w' (some b) ∧ w'.heap.size = w.heap.size := by
  obtain ⟨l, h1, h2, h3⟩ := h
  obtain ⟨kl, hkl⟩ := id_key ha
  obtain ⟨w', n, r1, r2, r3, r4⟩ := h1.entry id_keyed ht hz hkl
  rw [h3 a] at r1 r2
  exact ⟨w', n, r1, ⟨_, r2, ha, fun p hp => keys_putK (G := fun v => ∃ a, InId a ∧ v = idV a) h2 ⟨a, ha, rfl⟩ p hp, put_fun h3 a _⟩, r3, r4⟩
theorem EntIs.store {t : TypeId} {v : Value} (h : EntIs w b f a n) :
    ∃ w', (Instr.entryStore t (.map (some b)) (goInt (n : Nat)) v).run Try.prog w = .ok () w' ∧ MapIs w' b (fun x => if x = a then some v else f x) ∧ w.grownBy w' (some b) ∧ w'.heap.size = w.heap.size := by
  obtain ⟨l, h1, ha, h2, h3⟩ := h
  obtain ⟨w', r1, r2, r3, r4⟩ := h1.store (t := t) (v := v) trivial
  exact ⟨w', r1, ⟨_, r2, fun p hp => keys_putK (G := fun v => ∃ a, InId a ∧ v = idV a) h2 ⟨a, ha, rfl⟩ p hp, put_fun h3 a _⟩, r3, r4⟩
end
def rowV (f : S24 → List S24) (g c : S24 → Nat) (a : S24) : Value := .slice (some ⟨g a, 0, none⟩) (f a).length (c a)
noncomputable def rowF (f : S24 → List S24) (g c : S24 → Nat) (a : S24) : Option Value := if f a = [] then none else some (rowV f g c a)
/-- block b: a map of rows, each in a block of its own -/
structure RowsMap (w : World) (base b : Nat) (f : S24 → List S24) (g c : S24 → Nat) : Prop where
  map : MapIs w b (rowF f g c)
  above : base ≤ b
  rows : ∀ a, f a ≠ [] → IdRow w base (g a) (c a) (f a)
  ne : ∀ a, f a ≠ [] → g a ≠ b
  inj : ∀ a a', f a ≠ [] → f a' ≠ [] → g a = g a' → a = a'
theorem idrow_lt {w : World} {base g c : Nat} {l : List S24} (h : IdRow w base g c l) (hn : l ≠ []) : base ≤ g ∧ g < w.heap.size := by
  obtain ⟨cur, hg, hb, _⟩ := idrow_form h (List.length_pos_iff.2 hn)
  exact ⟨hb, (Array.getElem?_eq_some_iff.1 hg).1⟩
theorem idrow_block {w w' : World} {base g c : Nat} {l : List S24} (h : IdRow w base g c l) (hn : l ≠ []) (hb : w'.heap[g]? = w.heap[g]?) : IdRow w' base g c l := by
  obtain ⟨cur, hg, hbb, hc, hm, hs, ht⟩ := idrow_form h (List.length_pos_iff.2 hn)
  exact ⟨by rw [idc_len], .inr ⟨g, c, cur, rfl, hbb, hb.trans hg, hc, hm, hs, ht⟩⟩
theorem idrow_kept {w w' : World} {row : Option Nat} {base g c : Nat} {l : List S24} (h : IdRow w base g c l) (hn : l ≠ []) (hg : w.grownBy w' row) (hne : some g ≠ row) : IdRow w' base g c l :=
  idrow_block h hn (hg.block g (idrow_lt h hn).2 hne)
noncomputable def pushF (f : S24 → List S24) (a y : S24) : S24 → List S24 := fun x => if x = a then f x ++ [y] else f x
theorem RowsMap.below {w w' : World} {base b : Nat} {f : S24 → List S24} {g c : S24 → Nat} (h : RowsMap w base b f g c) (hb : Below w.heap.size w w') : RowsMap w' base b f g c :=
  ⟨h.map.below hb, h.above, fun a ha => idrow_block (h.rows a ha) ha (hb.block _ (idrow_lt (h.rows a ha) ha).2), h.ne, h.inj⟩
theorem RowsMap.made {base : Nat} (w : World) (hb : base ≤ w.heap.size) (g c : S24 → Nat) : RowsMap (w.alloc (.map #[] 0)) base w.heap.size (fun _ => []) g c :=
  ⟨(MapIs.made w).congr fun a => by unfold rowF; rw [if_pos rfl], hb, fun a h => absurd rfl h, fun a h => absurd rfl h, fun a _ h => absurd rfl h⟩
theorem zero27 (w : World) : (zeroValue 27).run Try.prog w = .ok (.slice none 0 0) w := by kernel_rfl
/-- 'm[a] = append(m[a], y)' -/
theorem RowsMap.push {w : World} {base b : Nat} {f : S24 → List S24} {g c : S24 → Nat} (h : RowsMap w base b f g c) (hbase : base ≤ w.heap.size) {a y : S24} (ha : InId a) (hm : (f a).length ≤ 1000000000)
    (q : Nat) (hq : w.heap[q]? = some (.cells #[.int .i64 y.f0, .int .i64 y.f1] 24 (0, 0))) (hqb : q ≠ b) (k : Nat) (ty : TypeId) {t : TypeId} (ht : Try.prog.underlying t = some (.map 24 27)) :
    ∃ v n w1 v' w2 w3, (Instr.mapEntry t (.map (some b)) (idV a)).run Try.prog w = .ok (.tuple #[v, goInt (n : Nat)]) w1 ∧
      (Builtin.append_ #[27, 27] ty #[v, .slice (some ⟨q, 0, none⟩) 1 k]).run Try.prog w1 = .ok v' w2 ∧
      (Instr.entryStore t (.map (some b)) (goInt (n : Nat)) v').run Try.prog w2 = .ok () w3 ∧
      (∃ g' c', RowsMap w3 base b (pushF f a y) g' c') ∧ (∀ B, B ≤ base → B ≤ w.heap.size → Below B w w → Below B w w3) ∧ w.heap.size ≤ w3.heap.size := by
  obtain ⟨i0, hi, hz⟩ := Option.map_eq_some_iff.1 info24
  simp only [Prod.mk.injEq] at hz
  obtain ⟨hz0, hz1, hz2⟩ := hz
  obtain ⟨w1, n, r1, E1, g1, s1⟩ := h.map.entry ht zero27 ha
  have hv : ∃ v row, v = (rowF f g c a).getD (.slice none 0 0) ∧ w1.ownsRow base 24 2 v (f a).length (idc (f a)) ∧ v.ownBlock = row ∧ (∀ r, row = some r → f a ≠ [] ∧ r = g a) := by
    by_cases e : f a = []
    · refine ⟨_, none, rfl, ?_, ?_, fun r hr => by cases hr⟩
      · unfold rowF; rw [if_pos e, e]; exact World.ownsRow_nil w1 base _ _
      · unfold rowF; rw [if_pos e]; rfl
    · refine ⟨_, some (g a), rfl, ?_, ?_, fun r hr => by cases hr; exact ⟨e, rfl⟩⟩
      · unfold rowF; rw [if_neg e]
        exact idrow_kept (h.rows a e) e g1 (fun x => h.ne a e (by cases x; rfl))
      · unfold rowF; rw [if_neg e]; rfl
  obtain ⟨v, row, hve, hvo, hvb, hvr⟩ := hv
  rw [← hve] at r1
  have hq1 : w1.heap[q]? = some (.cells #[.int .i64 y.f0, .int .i64 y.f1] 24 (0, 0)) := (g1.block q (Array.getElem?_eq_some_iff.1 hq).1 (fun x => hqb (by cases x; rfl))).trans hq
  have hids : IdsAt w1 ⟨q, 0, none⟩ [y] := by
    intro j u hu
    rw [add_off, Nat.zero_add, blk_cell hq1]
    simpa [idc, encId] using hu
  obtain ⟨v', w2, r2, o2, g2, _, hat⟩ := run_append_own_at (P := Try.prog) w1 base 27 ty 24 i0 _ 2 16 Try.underlying27 hi hz0 hz1 hz2 rfl (by omega) v (f a).length (idc (f a)) hvo ⟨q, 0, none⟩ 1 k (idc [y]) rfl hids (idc_one [y]) (by simp only [maxLen]; omega) (by omega) (by omega)
  rw [hvb] at g2 hat
  have hbrow : some b ≠ row := fun e => by
    obtain ⟨e1, e2⟩ := hvr b e.symm
    exact h.ne a e1 e2.symm
  obtain ⟨w3, r3, M3, g3, s3⟩ := (E1.kept g2 hbrow).store (t := t) (v := v')
  rw [← idc_append] at o2
  obtain ⟨ga, ca, hv', hn', O2, hbga, hlga⟩ := own_idrow o2 (by omega)
  have hgab : ga ≠ b := by
    intro e
    subst hv'
    rcases hat with hat | hat
    · obtain ⟨e1, e2⟩ := hvr ga hat.symm
      exact h.ne a e1 (by rw [← e2, e])
    · have : ga = w1.heap.size := by simpa [Value.ownBlock] using hat
      have := h.map.lt
      omega
  have hother : ∀ x, x ≠ a → f x ≠ [] → g x ≠ ga := by
    intro x hx hfx e
    subst hv'
    rcases hat with hat | hat
    · obtain ⟨e1, e2⟩ := hvr ga hat.symm
      exact hx (h.inj x a hfx e1 (by rw [← e2, e]))
    · have : ga = w1.heap.size := by simpa [Value.ownBlock] using hat
      have := (idrow_lt (h.rows x hfx) hfx).2
      omega
  have hpa : pushF f a y a = f a ++ [y] := if_pos rfl
  have hpx : ∀ x, x ≠ a → pushF f a y x = f x := fun x hx => if_neg hx
  refine ⟨v, n, w1, v', w2, w3, r1, r2, r3, ⟨fun x => if x = a then ga else g x, fun x => if x = a then ca else c x, ?_, h.above, fun x hx => ?_, fun x hx => ?_, fun x x' hx hx' e => ?_⟩, fun B hB hB2 hb => ?_, ?_⟩
  · refine M3.congr fun x => ?_
    unfold rowF rowV
    by_cases e : x = a
    · subst e
      simp only [if_pos, hpa]
      rw [if_neg (by simp), hv', hn']
    · simp only [if_neg e]
      rw [hpx x e]
  · by_cases e : x = a
    · subst e
      simp only [if_pos, hpa]
      exact idrow_kept O2 (by simp) g3 (fun e => hgab (by cases e; rfl))
    · simp only [if_neg e]
      rw [hpx x e] at hx ⊢
      have k1 := idrow_kept (h.rows x hx) hx g1 (fun e => h.ne x hx (by cases e; rfl))
      have k2 := idrow_kept k1 hx g2 (fun e2 => by
        obtain ⟨e3, e4⟩ := hvr _ e2.symm
        exact e (h.inj x a hx e3 e4))
      exact idrow_kept k2 hx g3 (fun e => h.ne x hx (by cases e; rfl))
  · by_cases e : x = a
    · simp only [if_pos e]; exact hgab
    · simp only [if_neg e]
      rw [hpx x e] at hx
      exact h.ne x hx
  · by_cases e1 : x = a
    · by_cases e2 : x' = a
      · rw [e1, e2]
      · simp only [if_pos e1, if_neg e2] at e
        rw [hpx x' e2] at hx'
        exact absurd e.symm (hother x' e2 hx')
    · by_cases e2 : x' = a
      · simp only [if_neg e1, if_pos e2] at e
        rw [hpx x e1] at hx
        exact absurd e (hother x e1 hx)
      · simp only [if_neg e1, if_neg e2] at e
        rw [hpx x e1] at hx
        rw [hpx x' e2] at hx'
        exact h.inj x x' hx hx' e
  · have b1 := pw_below_grown hb _ hB2 g1 (fun k hk => by cases hk; exact Nat.le_trans hB h.above)
    have b2 := pw_below_grown b1 _ (by rw [s1]; exact hB2) g2 (fun k hk => by
      obtain ⟨e1, e2⟩ := hvr k hk
      rw [e2]
      exact Nat.le_trans hB (idrow_lt (h.rows a e1) e1).1)
    exact pw_below_grown b2 _ (Nat.le_trans (by rw [s1]; exact hB2) g2.size) g3 (fun k hk => by cases hk; exact Nat.le_trans hB h.above)
  · have := g2.size
    omega
end Go.Proofs.Ytdepmcofnlggaaa.PResolverCycles
end
