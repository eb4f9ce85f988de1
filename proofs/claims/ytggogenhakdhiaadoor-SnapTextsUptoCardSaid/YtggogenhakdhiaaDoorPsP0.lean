/- Words of the program's Text. (ahead of it: What the program's Text calls: Itoa, age.Text, Quote, the builder; its two closures, walked. The loops' code of the program's Text.) -/
import Derived.Test.YtggogenhakdhiaaDoorPsR1
import Derived.Test.YtggogenhakdhiaaDoorStQuoteP
import Derived.Test.YtggogenhakdhiaaDoorShelf
import Derived.Lib.ItoaMem
import Derived.Lib.AppendIntMem
import Derived.Deep.RegionHeldLaw
import Derived.Deep.DrawnRows
import Derived.Deep.AppendLies
section
set_option linter.unusedVariables false
set_option linter.unusedSimpArgs false
attribute [local go_sem ↓] Go.wp_at_zero Go.wp_at_succ
namespace Go.Proofs.YtggogenhakdhiaaDoor.PSnapTexts
open Go.RowKit Go.Proofs.YtggogenhakdhiaaDoorW.PrintWords Go.Proofs.YtggogenhakdhiaaDoorW.PrintLast Go.Proofs.YtggogenhakdhiaaDoorW.PrintMore
open Classical

/-- the library's table of powers of ten lies in the world -/
def Pow (w : World) : Prop := Lib.TabIs Tryd.prog w "internal/strconv.uint64pow10" .u64 Lib.pow10Tab
theorem Pow.below {w w' : World} (h : Pow w) (hb : Below w.heap.size w w') : Pow w' := Lib.tabBelow_of_tabIs h w' hb
theorem below_grow0 (w : World) (os : Array Obj) : Below w.heap.size w (Sort.grow w os) := by
  refine ⟨rfl, rfl, rfl, ?_, fun i hi => ?_⟩
  · simp [Sort.grow]
  · show (w.heap ++ os)[i]? = w.heap[i]?
    rw [Array.getElem?_append_left hi]
theorem below_grow (w : World) (k : Nat) (os : Array Obj) : Below w.heap.size w (Sort.grow (w.drewN k) os) :=
  (pw_below_drewN (Below.refl _ _) k).trans (below_grow0 (w.drewN k) os)
theorem itoa_calls (n : Int) (h : InR n) (w : World) (ht : Pow w) : Calls Tryd.prog 76 #[.int .i64 n] w fun e w' => e = .returned (.string (B (Lib.itoa n))) ∧ Below w.heap.size w w' :=
  (Tryd.strconv_Itoa n h.1 h.2 w ht).mono fun e w' ⟨he, k, os, hw⟩ => ⟨he, by rw [hw]; exact below_grow w k os⟩
/-- a builder that holds these bytes -/
def Bld (b : Nat) (l : List UInt8) (w : World) : Prop := Lib.IsBuilderF 122 5 b b (Lib.byteCells l) w
/-- every block but the builder's own and rows of bytes stands as it stood -/
def Oth (b : Nat) (w w' : World) : Prop := Lib.OthersKept 5 (some b) w w'
theorem Oth.trans {b : Nat} {w1 w2 w3 : World} (h : Oth b w1 w2) (k : Oth b w2 w3) : Oth b w1 w3 := Lib.OthersKept.trans h k
theorem Oth.of_below {b : Nat} {w w' : World} (h : Below w.heap.size w w') : Oth b w w' := fun k o hk _ _ => (h.block k (lt_of_heap hk)).trans hk
theorem ownF_below {w w1 : World} {base : Nat} {e : TypeId} {size n : Nat} {v : Value} {xs : List Value} (h : w.ownsRowF base e size v n xs) (hb : Below w.heap.size w w1) : w1.ownsRowF base e size v n xs :=
  h.kept (row := none) ⟨hb.os, hb.tape, hb.output, hb.size, fun i hi _ => hb.block i hi⟩ (by cases v.ownBlock <;> simp)
theorem bld_lt {T e : TypeId} {B b : Nat} {p : Value} {bs : List Value} {w : World} (h : Lib.BuilderAtF T e B b p bs w) : b < w.heap.size := by
  obtain ⟨h0, v, h1, h2, h3⟩ := h
  exact lt_of_heap h1
theorem bld_at {T e : TypeId} {B b : Nat} {p : Value} {bs : List Value} {w w' : World} (h : Lib.BuilderAtF T e B b p bs w) (hb : Below w.heap.size w w') : Lib.BuilderAtF T e B b p bs w' := by
  have hlt := bld_lt h
  obtain ⟨h0, v, h1, h2, h3⟩ := h
  exact ⟨h0, v, (hb.block b hlt).trans h1, ownF_below h2 hb, h3⟩
theorem Bld.below {b : Nat} {l : List UInt8} {w w' : World} (h : Bld b l w) (hb : Below w.heap.size w w') : Bld b l w' := h.imp (fun h => bld_at h hb) (fun h => bld_at h hb)
theorem Bld.lt {b : Nat} {l : List UInt8} {w : World} (h : Bld b l w) : b < w.heap.size := h.elim (fun h => bld_lt h) (fun h => bld_lt h)
theorem byteCells_append (a b : List UInt8) : Lib.byteCells (a ++ b) = Lib.byteCells a ++ Lib.byteCells b := by simp [Lib.byteCells]
theorem byteCells_len (a : List UInt8) : (Lib.byteCells a).length = a.length := by simp [Lib.byteCells]
theorem writeS (b : Nat) (l s : List UInt8) (w : World) (h : Bld b l w) (hl : l.length + s.length ≤ 140737488355328) :
    Calls Tryd.prog 73 #[.pointer (some ⟨b, 0, none⟩), .string (B s)] w fun e w' => e = .returned (.tuple #[.int .i64 ((B s).size : Int), .nilIface]) ∧ Bld b (l ++ s) w' ∧ Below b w w' ∧ Oth b w w' :=
  (Tryd.Builder_WriteString_k b b _ (B s) w h (by rw [byteCells_len, B_size]; exact hl) (by have := h.lt; omega)).mono fun e w' ⟨he, h1, h2, h3⟩ => ⟨he, Or.inr (by rw [byteCells_append]; exact h1), h2, h3⟩
theorem writeB (b : Nat) (l : List UInt8) (w : World) (h : Bld b l w) (hl : l.length + 1 ≤ 140737488355328) :
    Calls Tryd.prog 75 #[.pointer (some ⟨b, 0, none⟩), .int .u8 10] w fun e w' => e = .returned .nilIface ∧ Bld b (l ++ [10]) w' ∧ Below b w w' ∧ Oth b w w' :=
  (Tryd.Builder_WriteByte_k b b _ 10 w h (by rw [byteCells_len]; exact hl) (by have := h.lt; omega)).mono fun e w' ⟨he, h1, h2, h3⟩ => ⟨he, Or.inr (by rw [byteCells_append]; exact h1), h2, h3⟩
theorem builderS (b : Nat) (l : List UInt8) (w : World) (h : Bld b l w) :
    Calls Tryd.prog 81 #[.pointer (some ⟨b, 0, none⟩)] w fun e w' => e = .returned (.string (B l)) ∧ Below b w w' :=
  (Tryd.Builder_String_any_f b b l w h (by have := h.lt; omega)).mono fun e w' h => ⟨h.1, h.2.2⟩
theorem kept_cell {w0 w w' : World} {b g : Nat} {cs : Array Value} {T : TypeId} {i : Nat} {v : Value} (hk : Oth b w w') (hb : Below w0.heap.size w0 w) (hx : Hid (w0.heap[g]? = some (.cells cs T (0, 0)))) (hne : g ≠ b) (hT : T ≠ 5) (he : w0.cell? ⟨g, i, none⟩ = some v) : w'.cell? ⟨g, i, none⟩ = some v := by
  have h1 := hk g _ ((hb.block g (lt_of_heap hx.out)).trans hx.out) (by simpa using hne) (fun c fz he => by cases he; exact hT rfl)
  rw [blk_cell h1 i]
  rwa [blk_cell hx.out i] at he
/-- words that lie one behind the other -/
def Words (w : World) (g : Nat) (ws : List (List UInt8)) : Prop := g < w.heap.size ∧ ∀ (j : Nat) x, ws[j]? = some x → w.cell? ⟨g, 0 + j, none⟩ = some (.string (B x))
theorem joined (g c : Nat) (ws : List (List UInt8)) (w : World) (h : Words w g ws) (hn : ws.length ≤ 140737488355328) (hc : ws.length ≤ c) (hl : (Lib.join ws [32]).length ≤ 140737488355328) :
    Calls Tryd.prog 74 #[.slice (some ⟨g, 0, none⟩) ws.length c, .string ⟨#[32]⟩] w fun e w' => e = .returned (.string (B (Lib.join ws [32]))) ∧ Below w.heap.size w w' := by
  have hm : (ws.map B).map (·.data.toList) = ws := by rw [List.map_map]; simp [Function.comp_def, B_toList]
  have h1 := Tryd.strings_Join g 0 c (ws.map B) ⟨#[32]⟩ w (fun j x hx => by
    rw [List.getElem?_map] at hx
    obtain ⟨y, hy, rfl⟩ := Option.map_eq_some_iff.1 hx
    exact h.2 j y hy) h.1 (by rw [List.length_map]; exact hn) (by rw [List.length_map]; exact hc) (by rw [hm]; exact hl)
  rw [List.length_map, hm] at h1
  exact h1
theorem lineL_len (ws : List (List UInt8)) : (lineL ws).length = (Lib.join ws [32]).length + 1 := by simp [lineL]
set_option maxRecDepth 20000 in
/-- the closure that writes a line -/
theorem line_walk (w : World) (b g c : Nat) (l : List UInt8) (ws : List (List UInt8)) (hB : Bld b l w) (hw : Words w g ws) (hn : ws.length ≤ 1000000000) (hc : ws.length ≤ c) (hl : l.length + (lineL ws).length ≤ 140737488355328) :
    Calls Tryd.prog 72 #[.slice (some ⟨g, 0, none⟩) ws.length c, .pointer (some ⟨b, 0, none⟩)] w fun e w' => e = .returned (.tuple #[]) ∧ Bld b (l ++ lineL ws) w' ∧ Below b w w' ∧ Oth b w w' := by
  have h3 := lineL_len ws
  have h1 := joined g c ws w hw (by omega) hc (by omega)
  have hln : l ++ Lib.join ws [32] ++ [10] = l ++ lineL ws := by simp [lineL]
  generalize ws.length = n at *
  go_enter Tryd.func72, Tryd.ntmps72
  go_wp2_with fail
  refine h1.mono ?_
  rintro e w2 ⟨rfl, hB2⟩
  have hb2 := hB.below hB2
  have hlt := hB.lt
  go_wp2_with fail
  refine (writeS b l (Lib.join ws [32]) w2 hb2 (by omega)).mono ?_
  rintro e w3 ⟨rfl, hb3, hB3, hO3⟩
  go_wp2_with fail
  refine (writeB b _ w3 hb3 (by rw [List.length_append]; omega)).mono ?_
  rintro e w4 ⟨rfl, hb4, hB4, hO4⟩
  go_wp2_with fail
  rw [hln] at hb4
  go_end0
  exact ⟨rfl, hb4, ((hB2.mono (by omega)).trans hB3).trans hB4, ((Oth.of_below hB2).trans hO3).trans hO4⟩
set_option maxRecDepth 20000 in
/-- the closure that shows a value -/
theorem pvalue_walk (w : World) (s : ByteArray) (d : Bool) (hs : s.size ≤ 1048576) :
    Calls Tryd.prog 77 #[.string s, .bool d] w fun e w' => e = .returned (.string (B (valueL s d))) ∧ Below w.heap.size w w' := by
  cases d
  · go_enter Tryd.func77, Tryd.ntmps77
    go_wp2_with fail
    refine (quote_walk w s hs).mono ?_
    rintro e w2 ⟨rfl, hB2⟩
    go_wp2_with fail
    go_ret
    exact ⟨rfl, hB2⟩
  · go_enter Tryd.func77, Tryd.ntmps77
    go_wp2_with fail
    go_ret
    exact ⟨rfl, Below.refl _ _⟩
set_option maxRecDepth 20000 in
theorem page_walk (w : World) (a : S115) (h : InId a) (ht : Pow w) :
    Calls Tryd.prog 79 #[.agg #[.int .i64 a.f0, .int .i64 a.f1]] w fun e w' => e = .returned (.string (B (idL a))) ∧ Below w.heap.size w w' := by
  have z0 : (B (Lib.itoa a.f0)).size ≤ 21 := by rw [B_size]; exact itoa_len h.1
  have z1 : (B (Lib.itoa a.f1)).size ≤ 21 := by rw [B_size]; exact itoa_len h.2
  have hnew : B (Lib.itoa a.f0) ++ (⟨#[46]⟩ : ByteArray) ++ B (Lib.itoa a.f1) = B (idL a) := by
    rw [show (⟨#[46]⟩ : ByteArray) = B [46] from rfl]
    simp only [B_append]
    congr 1
    simp [idL]
  have hI0 := fun u hu => itoa_calls a.f0 h.1 u hu
  have hI1 := fun u hu => itoa_calls a.f1 h.2 u hu
  generalize B (Lib.itoa a.f0) = s0 at *
  generalize B (Lib.itoa a.f1) = s1 at *
  have r1 := lt_false (n := s0.size + 1) (by omega)
  have r2 := lt_false (n := s0.size + 1 + s1.size) (by omega)
  replace z0 := Go.Lib.hid z0
  replace z1 := Go.Lib.hid z1
  replace hnew := Go.Lib.hid hnew
  go_enter Tryd.func79, Tryd.ntmps79
  go_upto_region 1 with fail
  have hB1 : Below w.heap.size w (w.alloc (.cells #[.int .i64 a.f0, .int .i64 a.f1] 115)) := below_alloc (Below.refl _ _) _
  have hx := heap_alloc_new w (.cells #[.int .i64 a.f0, .int .i64 a.f1] 115)
  replace ht := ht.below hB1
  obtain ⟨gx, hgx⟩ : ∃ y, y = w.heap.size := ⟨_, rfl⟩
  rw [← hgx] at hx ⊢
  generalize w.alloc (.cells #[.int .i64 a.f0, .int .i64 a.f1] 115) = V at *
  clear hgx
  have e0 := blk_cell hx 0
  have e1 := blk_cell hx 1
  simp only [List.getElem?_toArray, List.getElem?_cons_zero, List.getElem?_cons_succ] at e0 e1
  clear hx
  have hv1 : Below V.heap.size V V.drew := below_drew (Below.refl _ _)
  go_region_held_law (fun w' => w'.cell? ⟨gx, 0, none⟩ = some (.int .i64 a.f0) ∧ w'.cell? ⟨gx, 1, none⟩ = some (.int .i64 a.f1))
    (first | go_keep | exact ⟨pw_cell_below hv3 e0, pw_cell_below hv3 e1⟩ | exact ⟨pw_cell_below hv2 e0, pw_cell_below hv2 e1⟩ | exact ⟨pw_cell_below hv1 e0, pw_cell_below hv1 e1⟩)
    ((first
      | (go_at_call 76; refine (hI1 u_2 (ht.below hv2)).mono ?_; rintro e u_3 ⟨rfl, hu3⟩; have hv3 := hv2.trans (hu3.mono hv2.size))
      | (go_at_call 76; refine (hI0 _ (ht.below hv1)).mono ?_; rintro e u_2 ⟨rfl, hu2⟩; have hv2 := hv1.trans (hu2.mono hv1.size))))
  rw [hnew.out]
  go_wp2_with fail
  go_ret
  exact ⟨rfl, hB1.trans (hv3.mono hB1.size)⟩
end Go.Proofs.YtggogenhakdhiaaDoor.PSnapTexts
end
section
set_option linter.unusedVariables false
set_option linter.unusedSimpArgs false
attribute [local go_sem ↓] Go.wp_at_zero Go.wp_at_succ
namespace Go.Proofs.YtggogenhakdhiaaDoor.PSnapTexts
open Go.RowKit Go.Proofs.YtggogenhakdhiaaDoorW.PrintWords Go.Proofs.YtggogenhakdhiaaDoorW.PrintLast Go.Proofs.YtggogenhakdhiaaDoorW.PrintMore
open Classical

theorem words_alloc (w : World) (T : TypeId) (cs : Array Value) (ws : List (List UInt8)) (h : cs.toList = ws.map fun x => .string (B x)) : Words (w.alloc (.cells cs T)) w.heap.size ws := by
  refine ⟨by simp, fun j x hx => ?_⟩
  rw [Nat.zero_add, blk_cell (heap_alloc_new w (.cells cs T)) j, ← Array.getElem?_toList, h, List.getElem?_map, hx]
  rfl
theorem line_at (w : World) (b g n c : Nat) (l : List UInt8) (ws : List (List UInt8)) (hB : Bld b l w) (hw : Words w g ws) (hnn : n = ws.length) (hn : n ≤ 1000000000) (hc : n ≤ c) (hl : l.length + (lineL ws).length ≤ 140737488355328) :
    Calls Tryd.prog 72 #[.slice (some ⟨g, 0, none⟩) n c, .pointer (some ⟨b, 0, none⟩)] w fun e w' => e = .returned (.tuple #[]) ∧ Bld b (l ++ lineL ws) w' ∧ Below b w w' ∧ Oth b w w' := by
  subst hnn; exact line_walk w b g c l ws hB hw hn hc hl
noncomputable def ptLoop1 : Code := loopAt Tryd.f35 0
noncomputable def ptLoop2 : Code := loopAt Tryd.f35 1
noncomputable def ptLoop3 : Code := loopAt Tryd.f35 2
noncomputable def ptLoop4 : Code := loopAt Tryd.f35 3
noncomputable def ptLoop5 : Code := loopAt Tryd.f35 4
noncomputable def ptLoop6 : Code := loopAt Tryd.f35 5
noncomputable def ptLoop7 : Code := loopAt Tryd.f35 6
end Go.Proofs.YtggogenhakdhiaaDoor.PSnapTexts
end
section
set_option linter.unusedVariables false
set_option linter.unusedSimpArgs false
attribute [local go_sem ↓] Go.wp_at_zero Go.wp_at_succ
namespace Go.Proofs.YtggogenhakdhiaaDoor.PSnapTexts
open Go.RowKit Go.Proofs.YtggogenhakdhiaaDoorW.PrintWords Go.Proofs.YtggogenhakdhiaaDoorW.PrintLast Go.Proofs.YtggogenhakdhiaaDoorW.PrintMore
open Classical

def strs (ws : List (List UInt8)) : List Value := ws.map fun x => .string (B x)
theorem strs_len (ws : List (List UInt8)) : (strs ws).length = ws.length := by simp [strs]
theorem strs_append (a b : List (List UInt8)) : strs (a ++ b) = strs a ++ strs b := by simp [strs]
theorem strs_one (ws : List (List UInt8)) : ∀ u ∈ strs ws, u.oneCell' = true := by
  intro u hu
  obtain ⟨x, _, rfl⟩ := List.mem_map.1 hu
  rfl
theorem info_s : (Tryd.prog.info? 9).map (fun i => (i.zero, i.size, i.bytes)) = some (some (.string ⟨#[]⟩), 1, 16) := by kernel_rfl
/-- words of the call's own lie one behind the other -/
theorem own_words {w : World} {base n : Nat} {v : Value} {ws : List (List UInt8)} (h : w.ownsRow base 9 1 v n (strs ws)) (hn : 0 < n) : ∃ g c, v = .slice (some ⟨g, 0, none⟩) n c ∧ n ≤ c ∧ Words w g ws ∧ n = ws.length ∧ base ≤ g := by
  have hl : n = ws.length := by have := h.1; rw [strs_len] at this; omega
  obtain ⟨g0, c0, e0, hb0, hlt⟩ := h.form hn
  have hcell := h.cells (g := g0) (by rw [e0]; rfl)
  rcases h.2 with ⟨_, h0⟩ | ⟨g, c, cur, e, hb, _, hc, _⟩
  · omega
  · rw [e0] at e
    cases e
    refine ⟨g0, c0, e0, hc, ⟨hlt, fun j x hx => ?_⟩, hl, hb0⟩
    have h1 := hcell j (.string (B x)) (by simp [strs, hx])
    rwa [add_plain, ← Nat.zero_add j] at h1
theorem own_strs (w : World) (cs : Array Value) (ws : List (List UInt8)) (base n : Nat) (h : cs.toList = strs ws) (hb : base ≤ w.heap.size) (hn : n = ws.length) (hm : n ≤ 1000000000) : (w.alloc (.cells cs 9)).ownsRow base 9 1 (.slice (some ⟨w.heap.size, 0, none⟩) n n) n (strs ws) := by
  have h1 := World.ownsRow_lit (base := base) (size := 1) (e := 9) w cs n hb (by simp only [maxLen]; omega) (by rw [← Array.length_toList, h, strs_len]; omega)
  rwa [h] at h1
theorem rd_str (w : World) (x : List UInt8) : Rdv (w.alloc (.cells #[.string (B x)] 9)) (some ⟨w.heap.size, 0, none⟩) 1 (strs [x]) := lit_rd w 9 _ _ rfl
theorem contains_calls (w : World) (A : Option Addr) (c : Nat) (l : List Int) (h : (Kd.int .i64).C w A l.length l) (hn : l.length ≤ 1048576) (x : Int) :
    Calls Tryd.prog 80 #[.slice A l.length c, .int .i64 x] w fun e w' => e = .returned (.bool (l.contains x)) ∧ w' = w := by
  by_cases hp : 0 < l.length
  · obtain ⟨G, O, rfl, hc⟩ := ints_plain h hp
    have h1 := Tryd.slices_Contains_int G O l.length c l x w (Nat.le_refl _) (by omega) (fun j hj => by rw [hc j hj, List.getD_eq_getElem?_getD, List.getElem?_eq_getElem hj]; rfl)
    rwa [List.take_length] at h1
  · have h0 : l = [] := by cases l with | nil => rfl | cons a l => simp at hp
    subst h0
    exact Tryd.slices_Contains_int_empty A c x w
end Go.Proofs.YtggogenhakdhiaaDoor.PSnapTexts
end
