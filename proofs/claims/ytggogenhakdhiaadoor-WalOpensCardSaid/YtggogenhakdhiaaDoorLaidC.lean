/- The table of the check sum in the rows' words; the arguments opened. -/
import Derived.Test.YtggogenhakdhiaaDoorCards
import Derived.Test.YtggogenhakdhiaaDoorTie
import Derived.Test.YtggogenhakdhiaaDoorRow
import Derived.Test.YtggogenhakdhiaaDoorSumCore
import Derived.Deep.DeepHandedRow
import Derived.Lib.LaidTab
import Derived.SizedLaws
set_option maxRecDepth 20000
set_option linter.unusedVariables false
set_option linter.unusedSimpArgs false
namespace Go.Proofs.YtggogenhakdhiaaDoor
open Go.ChangeShapes Go.WideShapes Go.ChangeAt Go.RowKit

theorem own_knob : ownKnob Tryd.prog.godebug = none := by kernel_rfl
theorem gTab : Tryd.prog.globalNamed "bursar/sum.nibbles" = some 0 := by kernel_rfl
theorem gTabType : (Tryd.prog.globals[0]?).map (·.type) = some 163 := by kernel_rfl
theorem cellsTab : Tryd.prog.cellsOf 163 = 16 := by kernel_rfl
theorem cellsU32 : Tryd.prog.cellsOf 154 = 1 := by kernel_rfl
theorem cellsU8 : Tryd.prog.cellsOf 5 = 1 := by kernel_rfl
theorem bytesU8 : Tryd.prog.bytesOf 5 = 1 := by kernel_rfl
theorem tab_of_laid {W : World} (h : laidMetH Tryd.prog [("bursar/sum.nibbles", Rows.laid_bursar_sum_nibbles)] W) : TabAt W := by
  have ht : Lib.TabIs Tryd.prog W "bursar/sum.nibbles" .u32 [0, 274646895, 549293790, 820201905, 1098587580, 1361435347, 1640403810, 1905808397, 2197175160, 2460548119, 2722870694, 2987750089, 3280807620, 3553878443, 3811616794, 4084100981] :=
    Lib.tabIs_of_head (rest := []) gTab gTabType Tryd.underlying163 Tryd.underlying154 cellsU32 cellsTab h
  intro i hi
  have := ht.cell gTab i (by simpa using hi)
  rw [this]
  have : ∀ j : Fin 16, ([0, 274646895, 549293790, 820201905, 1098587580, 1361435347, 1640403810, 1905808397, 2197175160, 2460548119, 2722870694, 2987750089, 3280807620, 3553878443, 3811616794, 4084100981] : List Int).getD j.val 0 = un (Crc.tab.getD j.val 0#32) := by decide
  have := this ⟨i, hi⟩
  simp only at this
  rw [← this]

section
variable {H : Type} {enc : TypeId × Value → H} {W : World} {base : Nat} {spare : Nat → Bool} {held : Bool}
/-- an argument []byte -/
theorem open_bytes {v : Value} {d : DataW H} {ps : List MemPlace} (hval : Value.okWide Tryd.prog W .any base 22 v) (h : DataW.Trod enc Tryd.prog W 0 spare held 22 v d ps)
    (hz : ∀ elems sp : List (DataW H), d = .slice elems sp → (elems.length + sp.length) * Tryd.prog.bytesOf 5 ≤ reachBytes) :
    ∃ A n c l, v = .slice A n c ∧ Bys W A n l ∧ n ≤ 140737488351232 ∧ n ≤ c := by
  obtain ⟨fuel, hf⟩ := h
  obtain ⟨A, n, c, rfl⟩ := okWide_slice Tryd.underlying22 hval
  rcases open_ints Tryd.underlying22 Tryd.underlying5 cellsU8 hf with ⟨hc, hx⟩ | ⟨a, len, cap, zs, hc, _, hl, hm, hlen, hx, hcell, hwf⟩
  · cases hc
    exact ⟨none, 0, 0, [], rfl, Bys.nil W, by omega, by omega⟩
  · cases hc
    have hlz : n ≤ zs.length := by split at hlen <;> omega
    have hd : d = .slice (lits .u8 (zs.take n)) (lits .u8 (zs.drop n)) := by cases hx; rfl
    have hsz := hz _ _ hd
    rw [bytesU8] at hsz
    simp only [lits, List.length_map, List.length_take, List.length_drop, reachBytes] at hsz
    refine ⟨some a, n, c, (zs.take n).map (fun z => UInt8.ofNat z.toNat), rfl, ⟨by simp; omega, by omega, fun i hi => ⟨a, rfl, ?_⟩⟩, by omega, by omega⟩
    have hz' : zs.getD i 0 ∈ zs := by
      rw [List.getD_eq_getElem?_getD, List.getElem?_eq_getElem (by omega)]
      exact List.getElem_mem (by omega)
    have hw := hwf _ hz'
    have hw2 : 0 ≤ zs.getD i 0 ∧ zs.getD i 0 < 256 := by
      generalize zs.getD i 0 = z at hw
      have : 0 ≤ z ∧ z ≤ 255 := by simpa [Lit.wf, IntKind.min, IntKind.max, IntKind.signed, IntKind.bits] using hw
      omega
    rw [hcell i (by omega)]
    have he : (((zs.take n).map (fun z => UInt8.ofNat z.toNat)).getD i 0).toNat = (zs.getD i 0).toNat := by
      have h1 : ((zs.take n).map (fun z => UInt8.ofNat z.toNat)).getD i 0 = UInt8.ofNat (zs.getD i 0).toNat := by
        rw [List.getD_eq_getElem?_getD, List.getElem?_map, List.getElem?_take, if_pos hi, List.getD_eq_getElem?_getD, List.getElem?_eq_getElem (show i < zs.length by omega)]
        rfl
      rw [h1, UInt8.toNat_ofNat']
      omega
    rw [he]
    congr 2
    omega
/-- an argument uint32 -/
theorem open_u32 {v : Value} {d : DataW H} {ps : List MemPlace} (hval : Value.okWide Tryd.prog W .any base 154 v) (h : DataW.Trod enc Tryd.prog W 0 spare held 154 v d ps) :
    ∃ a : BitVec 32, v = .int .u32 (un a) := by
  obtain ⟨n, rfl, rfl, _, hw⟩ := open_int Tryd.underlying154 hval h
  refine ⟨BitVec.ofInt 32 n, ?_⟩
  have hw2 : 0 ≤ n ∧ n ≤ 4294967295 := by
    simpa [Lit.wf, IntKind.min, IntKind.max, IntKind.signed, IntKind.bits] using hw
  congr 1
  unfold un
  rw [BitVec.toNat_ofInt]
  omega
end
/-- A world for the witness: the settled one, the table holding what its initialiser lays. -/
noncomputable def laidWorld (os : Os) : World :=
  { World.holding Tryd.prog os ⟨#[], #[], []⟩ with heap := (World.holding Tryd.prog os ⟨#[], #[], []⟩).heap.modify 0 fun
      | .cells _ t frozen => .cells #[.int .u32 0, .int .u32 274646895, .int .u32 549293790, .int .u32 820201905, .int .u32 1098587580, .int .u32 1361435347, .int .u32 1640403810, .int .u32 1905808397, .int .u32 2197175160, .int .u32 2460548119, .int .u32 2722870694, .int .u32 2987750089, .int .u32 3280807620, .int .u32 3553878443, .int .u32 3811616794, .int .u32 4084100981] t frozen
      | o => o }
theorem laid_met (os : Os) (args : Array Value) : laidMet Tryd.prog [("bursar/sum.nibbles", Rows.laid_bursar_sum_nibbles)] ((laidWorld os).forCall (fun _ _ => 0) ⟨#[], args, []⟩).memory :=
  laidMet_of_run' 8 (by kernel_rfl) (by kernel_rfl)
end Go.Proofs.YtggogenhakdhiaaDoor
