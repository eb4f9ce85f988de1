/- The examples that the laws of the check sum ask first. -/
import Derived.Test.YtenfdankgjdfpaaDoorOpen
import Derived.Test.YtenfdankgjdfpaaDoorSumQuiet
import Derived.Lib.SlBytesConst
set_option linter.unusedVariables false
set_option linter.unusedSimpArgs false
namespace Go.Proofs.YtenfdankgjdfpaaDoor
open Go.RowKit

def SayTrue (w : World) (e : Ending) (w' : World) : Prop := e = .returned (.bool true) ∧ Below w.heap.size w w'
theorem opn_zeros : opn [0, 0, 0, 0] = ([], 0) := by decide +kernel
theorem sum_nine : un (Crc.upd 0#32 [49, 50, 51, 52, 53, 54, 55, 56, 57]) = 3808858755 := by decide +kernel
theorem bys_marked (w : World) (e : TypeId) (cs : Array Value) (fr : Nat × Nat) (l : List UInt8) (hcs : cs.toList = bv l) (hm : l.length ≤ 9223372036854775807) : Bys (w.alloc (.cells cs e fr)) (some ⟨w.heap.size, 0, none⟩) l.length l :=
  ⟨rfl, hm, fun i hi => ⟨_, rfl, by
    have h := World.news_of_block (cs := cs) (t := e) (fr := fr) (heap_alloc_new w (.cells cs e fr)) i (.int .u8 ((l.getD i 0).toNat : Int)) (by
      rw [hcs, bv_getElem?, List.getD_eq_getElem?_getD, List.getElem?_eq_getElem hi]; rfl)
    exact h⟩⟩
set_option maxHeartbeats 1000000 in
theorem works_walk (w : World) (ht : TabAt w) : Calls Tryd.prog 15 #[] w (SayTrue w) := by
  go_enter Tryd.func15, Tryd.ntmps15
  have hb1 : Bys (w.alloc (.cells #[.int .u8 0, .int .u8 0, .int .u8 0, .int .u8 0] 5)) (some ⟨w.heap.size, 0, none⟩) 4 [0, 0, 0, 0] := Bys.new w _ _ [0, 0, 0, 0] rfl (by simp)
  have hB1 : Below w.heap.size w (w.alloc (.cells #[.int .u8 0, .int .u8 0, .int .u8 0, .int .u8 0] 5)) := (Below.refl _ _).alloc (Nat.le_refl _) _
  have H1 := open_walk _ _ 4 4 _ hb1 (by omega) (ht.below hB1) (by omega)
  rw [opn_zeros] at H1
  go_upto_region 2 with (go_at_call 13; go_must (refine H1.mono ?_); rintro e w2 ⟨A2, c2, rfl, hown2, hB2⟩)
  have hB02 : Below w.heap.size w w2 := hB1.trans (hB2.mono hB1.size)
  have hs2 := hB02.size
  have hb3 : Bys (w2.alloc (.cells #[.int .u8 49, .int .u8 50, .int .u8 51, .int .u8 52, .int .u8 53, .int .u8 54, .int .u8 55, .int .u8 56, .int .u8 57] 5 (9, 10))) (some ⟨w2.heap.size, 0, none⟩) 9 [49, 50, 51, 52, 53, 54, 55, 56, 57] := bys_marked w2 _ _ _ [49, 50, 51, 52, 53, 54, 55, 56, 57] rfl (by simp)
  have hB3 : Below w.heap.size w (w2.alloc (.cells #[.int .u8 49, .int .u8 50, .int .u8 51, .int .u8 52, .int .u8 53, .int .u8 54, .int .u8 55, .int .u8 56, .int .u8 57] 5 (9, 10))) := hB02.alloc hs2 _
  have H2 := sum_walk _ _ 9 9 _ hb3 (ht.below hB3)
  rw [sum_nine] at H2
  clear hb1 hB1 H1 hB2 hown2
  have kc := fun (w : World) (C : Array Value) (n c : Nat) => Lib.run_convert_bytes_const (P := Tryd.prog) w 22 5 C n c Tryd.underlying22 Tryd.underlying5
  go_wp2_with (first
    | (go_at_call 7; go_must (refine H2.mono ?_); rintro e w' ⟨rfl, rfl⟩; have hb4 : Bys _ (some ⟨w2.heap.size + 1, 0, none⟩) 1 [1] := (by have h := Bys.new (w2.alloc (.cells #[.int .u8 49, .int .u8 50, .int .u8 51, .int .u8 52, .int .u8 53, .int .u8 54, .int .u8 55, .int .u8 56, .int .u8 57] 5 (9, 10))) 5 #[.int .u8 1] [1] rfl (by simp); simpa using h); have hB4 := hB3.alloc hB3.size (.cells #[.int .u8 1] 5))
    | (go_at_call 11; go_must (refine (seal_walk _ _ 1 1 [1] hb4 (ht.below hB4) (by omega)).mono ?_); rintro e w4 ⟨A4, c4, rfl, hown4, hB5⟩; have hB6 := hB4.trans (hB5.mono hB4.size)))
  go_ret
  exact ⟨rfl, hB6⟩
theorem own_cap {w : World} {base n c : Nat} {e : TypeId} {size : Nat} {A : Option Addr} {xs : List Value} (h : w.ownsRow base e size (.slice A n c) n xs) : n ≤ c := by
  rcases h.2 with ⟨h0, _⟩ | ⟨g, cap, cur, h1, _, _, h2, _⟩
  · cases h0; omega
  · cases h1; exact h2
end Go.Proofs.YtenfdankgjdfpaaDoor
