/- Open, the program's and the document's, walked. -/
import Derived.Test.YtenfdankgjdfpaaDoorSum
import Derived.Deep.RegionWith
import Derived.Deep.QuietTactic
import Derived.BigQuiet
import Derived.Deep.DeepFit
import Derived.Deep.DeepCutAuto
import Derived.Deep.CutBlock
set_option linter.unusedVariables false
set_option linter.unusedSimpArgs false
namespace Go.Proofs.YtenfdankgjdfpaaDoor
open Go.RowKit

/-- what Open answers -/
def opn (l : List UInt8) : List UInt8 × Int := if l.length < 4 then ([], 1) else if sld (l.take (l.length - 4)) = l then (l.take (l.length - 4), 0) else ([], 30)
/-- bytes and a number are returned -/
def RetOpen (B : Nat) (E : TypeId) (r : List UInt8 × Int) (w : World) (e : Ending) (w' : World) : Prop :=
  ∃ A c, e = .returned (.tuple #[.slice A r.1.length c, .int .i64 r.2]) ∧ w'.ownsRow B E 1 (.slice A r.1.length c) r.1.length (bv r.1) ∧ Below B w w'
theorem RetOpen.nil (B : Nat) (E : TypeId) (k : Int) {w w' : World} (hb : Below B w w') : RetOpen B E ([], k) w (.returned (.tuple #[.slice none 0 0, .int .i64 k])) w' :=
  ⟨none, 0, rfl, own_nil _ _ _ _, hb⟩
theorem RetOpen.of {B : Nat} {E : TypeId} {l : List UInt8} {k : Int} {w w' : World} {v : Value} {n : Nat} {xs : List Value} (h : w'.ownsRow B E 1 v n xs) (hx : xs = bv l) (hb : Below B w w') : RetOpen B E (l, k) w (.returned (.tuple #[v, .int .i64 k])) w' := by
  subst hx
  obtain ⟨A, c, rfl⟩ := own_slice h
  have hn : n = l.length := by have := h.1; rw [bv_length] at this; omega
  subst hn
  exact ⟨A, c, rfl, h, hb⟩
theorem str_neq {l m : List UInt8} : ((str l).toList == (str m).toList) = (l == m) := by
  rw [Bool.eq_iff_iff, beq_iff_eq, beq_iff_eq]
  have h : ∀ b : ByteArray, b.toList = b.data.toList := by
    intro b
    exact Go.ByteArray.toList_eq b
  rw [h, h]
  simp [str]

set_option maxHeartbeats 1000000 in
theorem open_short (w : World) (A : Option Addr) (n c : Nat) (zs : List UInt8) (hb : Bys w A n zs) (hn : n < 4) :
    Calls Tryd.prog 13 #[.slice A n c] w (RetOpen w.heap.size 5 ([], 1) w) := by
  go_enter Tryd.func13, Tryd.ntmps13
  go_wp2
  go_ret2
  exact RetOpen.nil _ _ _ (Below.refl _ _)

set_option maxHeartbeats 1000000 in
theorem open_no (w : World) (A : Option Addr) (m c : Nat) (zs : List UInt8) (hb : Bys w A (m + 4) zs) (hc : m + 4 ≤ c) (ht : TabAt w) (hn2 : m ≤ 140737488351232) (hne : sld (zs.take m) ≠ zs) :
    Calls Tryd.prog 13 #[.slice A ↑(m + 4) c] w (RetOpen w.heap.size 5 ([], 30) w) := by
  obtain ⟨ad, rfl, _⟩ := hb.cell 0 (by omega)
  have hs := hb.drew.string (P := Tryd.prog) Tryd.underlying22 Tryd.underlying5 Tryd.underlying9 c
  have ht' := hb.take m (by omega)
  have H := seal_walk w.drew (some ad) m c _ ht'.drew ht (by omega)
  have hcm : m ≤ c := by omega
  have hq : ((str (sld (zs.take m))).toList == (str zs).toList) = false := by rw [str_neq]; simpa using hne
  go_enter Tryd.func13, Tryd.ntmps13
  go_wp2
  go_region_with (go_at_call 11; refine H.mono ?_; rintro e w1 ⟨A1, c1, rfl, hown, hB⟩; have hs1 := (hb.below (below_of_drew hB)).string (P := Tryd.prog) Tryd.underlying22 Tryd.underlying5 Tryd.underlying9 c; have hs2 := (Bys.own hown).string (P := Tryd.prog) Tryd.underlying22 Tryd.underlying5 Tryd.underlying9 c1)
  all_goals
    have hB0 : Below w.heap.size w w1 := below_of_drew (by assumption)
    go_wp2
    go_ret2
    exact RetOpen.nil _ _ _ hB0

set_option maxHeartbeats 1000000 in
theorem open_yes (w : World) (A : Option Addr) (m c : Nat) (zs : List UInt8) (hb : Bys w A (m + 4) zs) (hc : m + 4 ≤ c) (ht : TabAt w) (hn2 : m ≤ 140737488351232) (hne : sld (zs.take m) = zs) :
    Calls Tryd.prog 13 #[.slice A ↑(m + 4) c] w (RetOpen w.heap.size 5 (zs.take m, 0) w) := by
  obtain ⟨ad, rfl, _⟩ := hb.cell 0 (by omega)
  have hs := hb.drew.string (P := Tryd.prog) Tryd.underlying22 Tryd.underlying5 Tryd.underlying9 c
  have ht' := hb.take m (by omega)
  have H := seal_walk w.drew (some ad) m c _ ht'.drew ht (by omega)
  have hcm : m ≤ c := by omega
  have hq : ((str (sld (zs.take m))).toList == (str zs).toList) = true := by rw [str_neq]; simpa using hne
  replace hne := Go.Lib.hid hne
  go_enter Tryd.func13, Tryd.ntmps13
  go_wp2
  go_region_with (go_at_call 11; refine H.mono ?_; rintro e w1 ⟨A1, c1, rfl, hown, hB⟩; have hs1 := (hb.below (below_of_drew hB)).string (P := Tryd.prog) Tryd.underlying22 Tryd.underlying5 Tryd.underlying9 c; have hs2 := (Bys.own hown).string (P := Tryd.prog) Tryd.underlying22 Tryd.underlying5 Tryd.underlying9 c1)
  all_goals
    have hB0 : Below w.heap.size w w1 := below_of_drew (by assumption)
    have ht1 := ht'.below hB0
    have hsz := hB0.size
    go_wp2_with (at_builtin; go_must (refine wpList_append_bys (o := ⟨some 22, _, _, _, _, _⟩) w w.heap.size rfl (.tmp 18) (.tmp 21) 22 5 rfl Tryd.underlying22 info_u8 _ 0 [] rfl (own_empty _ _ _ _ _ hB0.size (heap_alloc_new w1 _)) (some ad) m c (zs.take m) rfl (ht1.below ((Below.refl _ _).alloc (Nat.le_refl _) _)) (hB0.alloc hB0.size _) (by simp; omega) (by omega) ?_); go_must (intro v2 w2 hown2 hB2 hg2 hat2 hs2))
    go_ret2
    exact RetOpen.of hown2 rfl hB2

theorem open_walk (w : World) (A : Option Addr) (n c : Nat) (zs : List UInt8) (hb : Bys w A n zs) (hc : n ≤ c) (ht : TabAt w) (hn : n ≤ 140737488351236) :
    Calls Tryd.prog 13 #[.slice A n c] w (RetOpen w.heap.size 5 (opn zs) w) := by
  unfold opn
  rw [hb.len]
  by_cases h4 : n < 4
  · rw [if_pos h4]; exact open_short w A n c zs hb h4
  · rw [if_neg h4]
    obtain ⟨m, rfl⟩ : ∃ m, n = m + 4 := ⟨n - 4, by omega⟩
    rw [show m + 4 - 4 = m by omega]
    by_cases hne : sld (zs.take m) = zs
    · rw [if_pos hne]; exact open_yes w A m c zs hb hc ht (by omega) hne
    · rw [if_neg hne]; exact open_no w A m c zs hb hc ht (by omega) hne

set_option maxHeartbeats 1000000 in
theorem ropen_short (w : World) (A : Option Addr) (n c : Nat) (zs : List UInt8) (hb : Bys w A n zs) (hn : n < 4) :
    Calls Tryd.prog 14 #[.slice A n c] w (RetOpen w.heap.size 5 ([], 1) w) := by
  go_enter Tryd.func14, Tryd.ntmps14
  go_wp2
  go_ret2
  exact RetOpen.nil _ _ _ (Below.refl _ _)

set_option maxHeartbeats 1000000 in
theorem ropen_long (w : World) (A : Option Addr) (m c : Nat) (zs : List UInt8) (hb : Bys w A (m + 4) zs) (hc : m + 4 ≤ c) (hn2 : m ≤ 140737488351232) :
    Calls Tryd.prog 14 #[.slice A ↑(m + 4) c] w (RetOpen w.heap.size 5 (if sld (zs.take m) = zs then (zs.take m, 0) else ([], 30)) w) := by
  obtain ⟨ad, rfl, _⟩ := hb.cell 0 (by omega)
  have ht' := hb.take m (by omega)
  have hcm : m ≤ c := by omega
  obtain ⟨r, hr⟩ : ∃ r, r = (if sld (zs.take m) = zs then (zs.take m, (0 : Int)) else ([], 30)) := ⟨_, rfl⟩
  rw [← hr]
  replace hr := Go.Lib.hid hr
  go_enter Tryd.func14, Tryd.ntmps14
  go_wp2_with (at_builtin; go_must (refine wpList_append_bys (o := ⟨some 14, _, _, _, _, _⟩) w w.heap.size rfl (.tmp 8) (.tmp 13) 22 5 rfl Tryd.underlying22 info_u8 _ 0 [] rfl (own_empty _ _ _ _ _ (Nat.le_refl _) (heap_alloc_new w _)) (some ad) m c (zs.take m) rfl (ht'.below ((Below.refl _ _).alloc (Nat.le_refl _) _)) ((Below.refl _ _).alloc (Nat.le_refl _) _) (by simp) (by omega) ?_); go_must (intro v2 w2 hown2 hB2 hg2 hat2 hs2'))
  simp only [Nat.zero_add, List.nil_append] at hown2
  obtain ⟨A2, c2, e2, hb2⟩ := Bys.of_own (l := zs.take m) hown2
  subst e2
  have hb1 := hb.below hB2
  have hs := hb1.drew.string (P := Tryd.prog) Tryd.underlying22 Tryd.underlying5 Tryd.underlying9 c
  have H := rseal_walk w2.drew A2 m c2 _ hb2.drew (by omega)
  by_cases hne : sld (zs.take m) = zs
  · have hq : ((str (sld (zs.take m))).toList == (str zs).toList) = true := by rw [str_neq]; simpa using hne
    replace hne := Go.Lib.hid hne
    go_region_with (go_at_call 12; refine H.mono ?_; rintro e w1 ⟨A1, c1, rfl, hown, hB⟩; have hs1 := (hb1.below (below_of_drew hB)).string (P := Tryd.prog) Tryd.underlying22 Tryd.underlying5 Tryd.underlying9 c; have hs2 := (Bys.own hown).string (P := Tryd.prog) Tryd.underlying22 Tryd.underlying5 Tryd.underlying9 c1)
    all_goals
      have hB0 : Below w2.heap.size w2 w1 := below_of_drew (by assumption)
      go_wp2
      go_ret2
      rw [hr.out, if_pos hne.out]
      have hB3 : Below w.heap.size w w1 := hB2.trans (hB0.mono hs2')
      have hown3 : w1.ownsRow w.heap.size 5 1 (.slice A2 m c2) m (bv (zs.take m)) := own_below hown2 hB0
      have X := RetOpen.of (k := 0) hown3 rfl hB3
      exact X
  · have hq : ((str (sld (zs.take m))).toList == (str zs).toList) = false := by rw [str_neq]; simpa using hne
    go_region_with (go_at_call 12; refine H.mono ?_; rintro e w1 ⟨A1, c1, rfl, hown, hB⟩; have hs1 := (hb1.below (below_of_drew hB)).string (P := Tryd.prog) Tryd.underlying22 Tryd.underlying5 Tryd.underlying9 c; have hs2 := (Bys.own hown).string (P := Tryd.prog) Tryd.underlying22 Tryd.underlying5 Tryd.underlying9 c1)
    all_goals
      have hB0 : Below w2.heap.size w2 w1 := below_of_drew (by assumption)
      go_wp2
      go_ret2
      rw [hr.out, if_neg hne]
      exact RetOpen.nil _ _ _ (hB2.trans (hB0.mono hs2'))

theorem ropen_walk (w : World) (A : Option Addr) (n c : Nat) (zs : List UInt8) (hb : Bys w A n zs) (hc : n ≤ c) (hn : n ≤ 140737488351236) :
    Calls Tryd.prog 14 #[.slice A n c] w (RetOpen w.heap.size 5 (opn zs) w) := by
  unfold opn
  rw [hb.len]
  by_cases h4 : n < 4
  · rw [if_pos h4]; exact ropen_short w A n c zs hb h4
  · rw [if_neg h4]
    obtain ⟨m, rfl⟩ : ∃ m, n = m + 4 := ⟨n - 4, by omega⟩
    rw [show m + 4 - 4 = m by omega]
    exact ropen_long w A m c zs hb hc (by omega)

theorem opn_sld (l : List UInt8) : opn (sld l) = (l, 0) := by
  unfold opn
  have h : (sld l).take ((sld l).length - 4) = l := by
    rw [sld_length]; simp [sld]
  rw [if_neg (by rw [sld_length]; omega), h, if_pos rfl]
theorem upd_append (crc : BitVec 32) (l m : List UInt8) : Crc.upd crc (l ++ m) = Crc.upd (Crc.upd crc l) m := by
  simp [Crc.upd, Crc.raw]
theorem upd_nil (crc : BitVec 32) : Crc.upd crc [] = crc := by simp [Crc.upd, Crc.raw]
end Go.Proofs.YtenfdankgjdfpaaDoor
