/- Records in memory: slices whose elements are a kind and bytes of their own. (ahead of it: The head of the log, both sides, walked. A record's sectors, both sides, walked. A record's sectors, the document's way, walked. The log's small functions, both sides, walked: halves, first sectors, a record's sectors, a clone of bytes. What lies on a disk, as plain functions; the head that is read, the program's way, walked. The record that begins at a sector, the program's way, walked. The record that begins at a sector, the program's way, walked: the way through.) -/
import Derived.Test.YtggogenhakdhiaaDoorPkA
import Derived.Test.YtggogenhakdhiaaDoorWZeros
import Derived.Lib.SlBytesConst
import Derived.Deep.RegionHeldLaw
import Derived.Deep.DrawnRows
import Derived.Lib.BufferMore
import Derived.Deep.DeepCutAuto
import Derived.Deep.CutBlock
import Derived.Deep.DeepMust
import Derived.Deep.RegionLaw
section
set_option linter.unusedVariables false
set_option linter.unusedSimpArgs false
namespace Go.Proofs.YtggogenhakdhiaaDoor
open Go.RowKit

/-- append(v, make([]byte, m)...) -/
theorem wpList_append_z {P : Program} {w : World} {ops : Array Oper} {rest : List Oper} {o : Oper} {a : Act} {Q : Exit → Act → World → Prop} (w0 : World) (base : Nat) (hgd : o.guard = none) (s x : Operand) (t ti e : TypeId)
    (ho : o.op = .call { callee := .builtin .append, args := #[s, x], argTypes := #[t, ti] })
    (ht : P.underlying t = some (.slice e)) {k : IntKind} (hti : P.underlying ti = some (.int k)) (hinfo : (P.info? e).map (fun i => (i.zero, i.size, i.bytes)) = some (some (.int .u8 0), 1, 1))
    (v : Value) (n : Nat) (xs : List Value) (hs : a.eval s = v) (hown : w.ownsRow base e 1 v n xs) (kx : IntKind) (m : Nat) (hx : a.eval x = .int kx m)
    (HB : Below base w0 w) (hbase : base ≤ w.heap.size) (hbytes : n + m ≤ 140737488355328)
    (h : ∀ v1 w1, w1.ownsRow base e 1 v1 (n + m) (xs ++ bv (List.replicate m 0)) → Below base w0 w1 → base ≤ w1.heap.size → wpList P ops Q rest (a.put o.dst v1) w1) :
    wpList P ops Q (o :: rest) a w := by
  obtain ⟨i0, hi, hzz⟩ := Option.map_eq_some_iff.1 hinfo
  simp only [Prod.mk.injEq] at hzz
  obtain ⟨hz0, hz1, hz2⟩ := hzz
  have hzc : (Builtin.zeroCells (Value.int .u8 0).cells m).toList = bv (List.replicate m 0) := by
    rw [show Builtin.zeroCells (Value.int .u8 0).cells m = madeCells (Value.int .u8 0).cells (m * 1) by unfold Builtin.zeroCells madeCells; rfl, show madeCells (Value.int .u8 0).cells (m * 1) = (bv (List.replicate (m * 1) 0)).toArray from made_zeros _ 1 (m * 1) rfl (by omega), Nat.mul_one]
  obtain ⟨v1, w1, hrun, hown1, hg, hat⟩ := Go.Proofs.YtggogenhakdhiaaDoorW.PrintWords.run_append_zeros (P := P) w base t ti o.type e i0 (.int .u8 0) 1 1 ht hti hi hz0 hz1 hz2 rfl (by omega) (by omega) v n xs hown kx m (by rw [hzc]; exact bv_one _) (by omega) hbase
  rw [hzc] at hown1
  refine wpList_plain hgd fun K hK => ?_
  unfold Oper.wp execOp
  simp only [ho, resolve, invoke, builtin, Sem.run_bind, Sem.run_pure, Result.andThen_ok, List.map_toArray, List.map_cons, List.map_nil, hs, hx, hrun]
  exact hK _ _ (h v1 w1 hown1 (HB.grown hg hbase (own_base hown)) (Nat.le_trans hbase hg.size))
theorem RetBys.len {B : Nat} {E : TypeId} {l : List UInt8} {w : World} {e : Ending} {w' : World} (h : RetBys B E l w e w') {n : Nat} (hl : l.length = n) : ∃ A c, e = .returned (.slice A n c) ∧ w'.ownsRow B E 1 (.slice A n c) n (bv l) ∧ Below B w w' := by
  subst hl; exact h
def magicB : List UInt8 := [98, 117, 114, 115, 97, 114, 45, 49]
def head16 (g : Nat) : List UInt8 := magicB ++ le g 8
/-- the sector 0 of a generation -/
def headB (g : Nat) : List UInt8 := head16 g ++ le (Crc.upd 0#32 (head16 g)).toNat 4 ++ List.replicate 44 0
theorem head16_length (g : Nat) : (head16 g).length = 16 := by unfold head16 magicB; rw [List.length_append, le_length]; rfl
theorem headB_length (g : Nat) : (headB g).length = 64 := by unfold headB; rw [List.length_append, List.length_append, head16_length, le_length, List.length_replicate]
theorem magic_cells : (#[Value.int .u8 98, .int .u8 117, .int .u8 114, .int .u8 115, .int .u8 97, .int .u8 114, .int .u8 45, .int .u8 49] : Array Value).toList = bv magicB := by simp [bv, magicB]
theorem bys_marked' (w : World) (e : TypeId) (cs : Array Value) (fr : Nat × Nat) (l : List UInt8) (hcs : cs.toList = bv l) (hm : l.length ≤ 9223372036854775807) : Bys (w.alloc (.cells cs e fr)) (some ⟨w.heap.size, 0, none⟩) l.length l :=
  ⟨rfl, hm, fun i hi => ⟨_, rfl, by
    have h := World.news_of_block (cs := cs) (t := e) (fr := fr) (heap_alloc_new w (.cells cs e fr)) i (.int .u8 ((l.getD i 0).toNat : Int)) (by
      rw [hcs, bv_getElem?, List.getD_eq_getElem?_getD, List.getElem?_eq_getElem hi]; rfl)
    exact h⟩⟩
def magicC : Array Value := #[.int .u8 98, .int .u8 117, .int .u8 114, .int .u8 115, .int .u8 97, .int .u8 114, .int .u8 45, .int .u8 49]
/-- []byte("bursar-1") -/
theorem magic_or (w : World) (base : Nat) : OwnOr (w.alloc (.cells magicC 5 (8, 9))) base 5 (.slice (some ⟨w.heap.size, 0, none⟩) 8 8) magicB :=
  .inr ⟨_, rfl, bys_marked' w 5 magicC (8, 9) magicB magic_cells (by simp [magicB])⟩
theorem un_u64 (b : BitVec 32) : (un b : Int) = ((b.toNat : Nat) : Int) := rfl
set_option maxHeartbeats 1000000 in
set_option maxRecDepth 20000 in
theorem rhead_walk (w : World) (g : Nat) (hg : g < 9223372036854775808) : Calls Tryd.prog 47 #[.int .i64 g] w (RetBys w.heap.size 5 (headB g) w) := by
  have hw : IntKind.u64.wrap (g : Int) = (g : Int) := by rw [IntKind.wrap_u64]; omega
  have hcv := Lib.run_convert_bytes_const (P := Tryd.prog) w 22 5 #[.int .u8 98, .int .u8 117, .int .u8 114, .int .u8 115, .int .u8 97, .int .u8 114, .int .u8 45, .int .u8 49] 8 8 Tryd.underlying22 Tryd.underlying5
  have hB0 : Below w.heap.size w (w.alloc (.cells magicC 5 (8, 9))) := (Below.refl _ _).alloc (Nat.le_refl _) _
  have H1 := low_walk (w.alloc (.cells magicC 5 (8, 9))) w.heap.size _ 8 magicB g 8 (magic_or w w.heap.size) (by omega) hB0.size (by omega) (by simp [magicB]) (by omega)
  go_enter Tryd.func47, Tryd.ntmps47
  go_upto_region 2 with (go_at_call 95; go_must (refine H1.mono ?_); rintro e w1 ⟨A1, c1, rfl, hown1, hB1⟩)
  have hB01 := hB0.trans hB1
  have hz1 := hB01.size
  have h16 : (magicB ++ le g 8).length = 16 := head16_length g
  rw [h16] at hown1
  have hby1 : Bys w1 A1 16 (head16 g) := Bys.own hown1
  have H2 := rsum_walk w1 A1 16 c1 (head16 g) hby1
  have hcl : (Crc.upd 0#32 (head16 g)).toNat < 18446744073709551616 := by have := (Crc.upd 0#32 (head16 g)).isLt; omega
  have H3 := low_walk w1 w.heap.size A1 c1 (head16 g) (Crc.upd 0#32 (head16 g)).toNat 4 (.inl (by rw [head16_length]; exact hown1)) (by omega) hz1 hcl (by rw [head16_length]; omega) (by omega)
  have h20 : (head16 g ++ le (Crc.upd 0#32 (head16 g)).toNat 4).length = 20 := by rw [List.length_append, head16_length, le_length]
  have hhd : headB g = (head16 g ++ le (Crc.upd 0#32 (head16 g)).toNat 4) ++ List.replicate 44 0 := rfl
  rw [head16_length] at H3
  generalize head16 g ++ le (Crc.upd 0#32 (head16 g)).toNat 4 = l20 at *
  replace h20 := Go.Lib.hid h20
  replace h16 := Go.Lib.hid h16
  clear hcv hB0 hB1 hby1
  go_upto_region 3 with (first
    | (go_at_call 96; go_must (refine H2.mono ?_); rintro e w2 ⟨rfl, rfl⟩; rw [un_u64])
    | (go_at_call 95; go_must (refine H3.mono ?_); intro e w2 hR; obtain ⟨A2, c2, rfl, hown2, hB2⟩ := hR.len (show l20.length = 20 from h20)))
  have hz2 := hB2.size
  have hz02 : w.heap.size ≤ w2.heap.size := by omega
  have hB02 := hB01.trans hB2
  clear H2 H3 hown1 hB2 hB01
  go_wp2_with (at_builtin; refine wpList_append_z (o := ⟨some 18, _, _, _, _, _⟩) w w.heap.size rfl (.tmp 14) (.tmp 17) 22 3 5 rfl Tryd.underlying22 Tryd.underlying3 info_b _ 20 (bv l20) rfl hown2 .i64 44 rfl hB02 hz02 (by omega) ?_; intro v3 w3 hown3 hB3 hs3)
  go_ret
  exact RetBys.of hown3 (by rw [hhd, bv_append]) hB3
/-- sixty-four zeros (under a name) -/
def zb64 : List UInt8 := List.replicate 64 0
theorem zb64_length : zb64.length = 64 := by unfold zb64; rw [List.length_replicate]
theorem madeb64 : madeCells (Value.int .u8 0).cells (64 * 1) = (bv zb64).toArray := made_zeros _ 1 64 rfl (by omega)
theorem zeros_walk (w : World) : Calls Tryd.prog 44 #[] w (RetBys w.heap.size 5 zb64 w) := by
  go_enter Tryd.func44, Tryd.ntmps44
  go_wp2_with (at_make; go_must (refine wpList_make (o := ⟨some 1, _, _, _, _, _⟩) rfl 22 5 (.const (.int .i64 64)) rfl 64 rfl (.int .u8 0) 1 1 Tryd.underlying22 info_b (by omega) (by omega) ?_; rw [madeb64]))
  go_ret
  exact RetBys.of (own_new w _ zb64 64 zb64_length (by omega)) rfl ((Below.refl _ _).alloc (Nat.le_refl _) _)
set_option maxHeartbeats 1000000 in
set_option maxRecDepth 20000 in
theorem head_walk (w : World) (g : Nat) (hg : g < 9223372036854775808) (ht : TabAt w) : Calls Tryd.prog 64 #[.int .i64 g] w (RetBys w.heap.size 5 (headB g) w) := by
  have hw : IntKind.u64.wrap (g : Int) = (g : Int) := by rw [IntKind.wrap_u64]; omega
  have hcv := Lib.run_convert_bytes_const (P := Tryd.prog) w 22 5 #[.int .u8 98, .int .u8 117, .int .u8 114, .int .u8 115, .int .u8 97, .int .u8 114, .int .u8 45, .int .u8 49] 8 8 Tryd.underlying22 Tryd.underlying5
  have hB0 : Below w.heap.size w (w.alloc (.cells magicC 5 (8, 9))) := (Below.refl _ _).alloc (Nat.le_refl _) _
  have H1 := little_walk (w.alloc (.cells magicC 5 (8, 9))) w.heap.size _ 8 magicB g 8 (magic_or w w.heap.size) (by omega) hB0.size (by omega) (by simp [magicB])
  go_enter Tryd.func64, Tryd.ntmps64
  go_upto_region 2 with (go_at_call 98; go_must (refine H1.mono ?_); rintro e w1 ⟨A1, c1, rfl, hown1, hB1⟩)
  have hB01 := hB0.trans hB1
  have hz1 := hB01.size
  have h16 : (magicB ++ le g 8).length = 16 := head16_length g
  rw [h16] at hown1
  have hby1 : Bys w1 A1 16 (head16 g) := Bys.own hown1
  have H2 := sum_walk w1 A1 16 c1 (head16 g) hby1 (ht.below hB01)
  have hcl : (Crc.upd 0#32 (head16 g)).toNat < 18446744073709551616 := by have := (Crc.upd 0#32 (head16 g)).isLt; omega
  have H3 := little_walk w1 w.heap.size A1 c1 (head16 g) (Crc.upd 0#32 (head16 g)).toNat 4 (.inl (by rw [head16_length]; exact hown1)) (by omega) hz1 hcl (by rw [head16_length]; omega)
  have h20 : (head16 g ++ le (Crc.upd 0#32 (head16 g)).toNat 4).length = 20 := by rw [List.length_append, head16_length, le_length]
  have hhd : headB g = (head16 g ++ le (Crc.upd 0#32 (head16 g)).toNat 4) ++ List.replicate 44 0 := rfl
  rw [head16_length] at H3
  generalize head16 g ++ le (Crc.upd 0#32 (head16 g)).toNat 4 = l20 at *
  replace h20 := Go.Lib.hid h20
  replace h16 := Go.Lib.hid h16
  clear hcv hB0 hB1 hby1
  go_upto_region 3 with (first
    | (go_at_call 100; go_must (refine H2.mono ?_); rintro e w2 ⟨rfl, rfl⟩; rw [un_u64])
    | (go_at_call 98; go_must (refine H3.mono ?_); intro e w2 hR; obtain ⟨A2, c2, rfl, hown2, hB2⟩ := hR.len (show l20.length = 20 from h20)))
  have hz2 := hB2.size
  have hz02 : w.heap.size ≤ w2.heap.size := by omega
  have hB02 := hB01.trans hB2
  clear H2 H3 hown1 hB2 hB01
  go_wp2_with (first
    | (go_at_call 44; go_must (refine (zeros_walk w2).mono ?_; intro e w3 hR; obtain ⟨A3, c3, rfl, hown3, hB3⟩ := hR.len zb64_length; obtain ⟨g3, c3', hv3, -, -, hc3, -, hx3⟩ := own_some hown3 (by omega); cases hv3; have hc20 : ¬ c3 = 20 := (by omega); have hci : (64 : Int) ≤ (c3 : Int) := (by omega); have hB03 := hB02.trans (hB3.mono hz02); have hz3 := hB3.size; have hown2' : w3.ownsRow w.heap.size 5 1 (.slice A2 20 c2) 20 (bv l20) := own_at hown2 (fun k hk => hB3.block k (own_lt hown2 k hk)); have hb44 := (Bys.own hown3).drop_plain 20 44 rfl (by omega); rw [show zb64.drop 20 = List.replicate 44 0 by unfold zb64; rw [List.drop_replicate]] at hb44))
    | (at_builtin; refine wpList_append_bys (o := ⟨some 19, _, _, _, _, _⟩) w w.heap.size rfl (.tmp 14) (.tmp 18) 22 5 rfl Tryd.underlying22 info_b _ 20 (bv l20) rfl hown2' _ 44 _ (List.replicate 44 0) rfl hb44 hB03 (by omega) (by omega) ?_; intro v4 w4 hown4 hB4 hg4 hat4 hs4))
  go_ret
  exact RetBys.of hown4 (by rw [hhd, bv_append]) hB4
end Go.Proofs.YtggogenhakdhiaaDoor
end
section
attribute [local go_sem ↓] Go.wp_at_zero Go.wp_at_succ
set_option linter.unusedVariables false
set_option linter.unusedSimpArgs false
namespace Go.Proofs.YtggogenhakdhiaaDoor
open Go.RowKit

theorem crc_append (crc : BitVec 32) (l m : List UInt8) : Crc.upd crc (l ++ m) = Crc.upd (Crc.upd crc l) m := by
  simp [Crc.upd, Crc.raw]

/-- what stands ahead of the sum -/
def pre6 (k n : Nat) : List UInt8 := [82, UInt8.ofNat k] ++ le n 4
def pre10 (k : Nat) (l : List UInt8) : List UInt8 := pre6 k l.length ++ le (Crc.upd 0#32 (pre6 k l.length ++ l)).toNat 4
/-- a record's sectors -/
def packB (k : Nat) (l : List UInt8) : List UInt8 := pre10 k l ++ l ++ List.replicate (64 * secs l.length - (10 + l.length)) 0
theorem pre6_length (k n : Nat) : (pre6 k n).length = 6 := by unfold pre6; rw [List.length_append, le_length]; rfl
theorem pre10_length (k : Nat) (l : List UInt8) : (pre10 k l).length = 10 := by unfold pre10; rw [List.length_append, pre6_length, le_length]
theorem secs_le (n : Nat) : 10 + n ≤ 64 * secs n := by unfold secs; omega
theorem packB_length (k : Nat) (l : List UInt8) : (packB k l).length = 64 * secs l.length := by
  have := secs_le l.length
  unfold packB
  rw [List.length_append, List.length_append, pre10_length, List.length_replicate]
  omega
theorem two_cells (k : Nat) (hk : k < 256) : (#[Value.int .u8 82, .int .u8 (k : Int)] : Array Value).toList = bv [82, UInt8.ofNat k] := by
  simp [bv, Nat.mod_eq_of_lt hk]
set_option maxHeartbeats 300000 in
set_option maxRecDepth 20000 in
theorem pack_walk (w : World) (k : Nat) (A : Option Addr) (c : Nat) (l : List UInt8) (hb : Bys w A l.length l) (hk : k < 256) (hn : l.length ≤ 1000000) (ht : TabAt w) :
    Calls Tryd.prog 61 #[.agg #[.int .i64 k, .slice A l.length c]] w (RetBys w.heap.size 5 (packB k l) w) := by
  have hkw : IntKind.u8.wrap (k : Int) = (k : Int) := by rw [IntKind.wrap_u8]; omega
  have hlw : IntKind.u64.wrap (l.length : Int) = (l.length : Int) := by rw [IntKind.wrap_u64]; omega
  go_enter Tryd.func61, Tryd.ntmps61
  go_upto_region 2 with fail
  have hB0 : Below w.heap.size w ((w.alloc (.cells #[.int .i64 k, .slice A l.length c] 50)).alloc (.cells #[.int .u8 82, .int .u8 k] 5)) := ((Below.refl _ _).alloc (Nat.le_refl _) _).alloc (by simp) _
  have hbx : ((w.alloc (.cells #[.int .i64 k, .slice A l.length c] 50)).alloc (.cells #[.int .u8 82, .int .u8 k] 5)).heap[w.heap.size]? = some (.cells #[.int .i64 k, .slice A l.length c] 50) := by
    rw [← heap_alloc_new w (.cells #[.int .i64 k, .slice A l.length c] 50)]
    exact ((Below.refl (w.alloc (.cells #[.int .i64 k, .slice A l.length c] 50)).heap.size (w.alloc (.cells #[.int .i64 k, .slice A l.length c] 50))).alloc (Nat.le_refl _) (.cells #[.int .u8 82, .int .u8 k] 5)).block w.heap.size (by simp)
  have hO : ((w.alloc (.cells #[.int .i64 k, .slice A l.length c] 50)).alloc (.cells #[.int .u8 82, .int .u8 k] 5)).ownsRow (w.heap.size + 1) 5 1 (.slice (some ⟨(w.alloc (.cells #[.int .i64 k, .slice A l.length c] 50)).heap.size, 0, none⟩) 2 2) 2 (bv [82, UInt8.ofNat k]) := by
    rw [← two_cells k hk]
    exact World.ownsRow_lit (base := w.heap.size + 1) (size := 1) (w.alloc (.cells #[.int .i64 k, .slice A l.length c] 50)) _ 2 (by simp) (by simp only [maxLen]; omega) rfl
  rw [World.heap_alloc_size] at hO
  have hz0 := hB0.size
  have hgl : w.heap.size < ((w.alloc (.cells #[.int .i64 k, .slice A l.length c] 50)).alloc (.cells #[.int .u8 82, .int .u8 k] 5)).heap.size := by simp; omega
  generalize (w.alloc (.cells #[.int .i64 k, .slice A l.length c] 50)).alloc (.cells #[.int .u8 82, .int .u8 k] 5) = W at *
  obtain ⟨g1, hg1⟩ : ∃ x, x = w.heap.size + 1 := ⟨_, rfl⟩
  rw [← hg1] at hO ⊢
  have hg2 : w.heap.size < g1 := by omega
  have hg3 : g1 ≤ W.heap.size := by omega
  clear hg1
  have x1 : W.cell? ⟨w.heap.size, 1, none⟩ = some (.slice A l.length c) := by rw [cell_of_row W w.heap.size 1 _ _ _ hbx]; rfl
  have H1 : Calls Tryd.prog 98 #[.slice (some ⟨g1, 0, none⟩) 2 2, .int .u64 (l.length : Nat), .int .i64 (4 : Nat)] W (RetBys g1 5 (pre6 k l.length) W) := little_walk W g1 _ 2 [82, UInt8.ofNat k] l.length 4 (.inl hO) (by omega) hg3 (by omega) (by simp)
  have h6 := pre6_length k l.length
  have h10 := pre10_length k l
  have hpk : packB k l = pre10 k l ++ l ++ List.replicate (64 * secs l.length - (10 + l.length)) 0 := rfl
  have hp10 : pre10 k l = pre6 k l.length ++ le (Crc.upd 0#32 (pre6 k l.length ++ l)).toNat 4 := rfl
  have hcl : (Crc.upd 0#32 (pre6 k l.length ++ l)).toNat < 18446744073709551616 := by have := (Crc.upd 0#32 (pre6 k l.length ++ l)).isLt; omega
  rw [crc_append] at hp10 hcl
  generalize pre10 k l = p10 at *
  generalize pre6 k l.length = p6 at *
  generalize packB k l = pk at *
  replace hpk := Go.Lib.hid hpk
  replace hp10 := Go.Lib.hid hp10
  replace h10 := Go.Lib.hid h10
  replace h6 := Go.Lib.hid h6
  go_upto_region 3 with (go_at_call 98; go_must (refine H1.mono ?_; intro e w1 hR; obtain ⟨A1, c1, rfl, hown1, hB1⟩ := hR.len (show p6.length = 6 from h6)))
  have hz1 := hB1.size
  have hB01 : Below w.heap.size w w1 := hB0.trans (hB1.mono (Nat.le_of_lt hg2))
  have x2 : w1.cell? ⟨w.heap.size, 1, none⟩ = some (.slice A l.length c) := (hB1.cell hg2).trans x1
  have hby1 : Bys w1 A1 6 p6 := Bys.own hown1
  have hd1 : Below w1.heap.size w1 w1.drew := below_drew (Below.refl _ _)
  have HS := sum_walk w1.drew A1 6 c1 p6 (hby1.below hd1) ((ht.below hB01).below hd1)
  have HU := upd_walk w1.drew (Crc.upd 0#32 p6) A l.length c l ((hb.below hB01).below hd1) ((ht.below hB01).below hd1)
  have HL := little_walk w1.drew g1 A1 c1 p6 (Crc.upd (Crc.upd 0#32 p6) l).toNat 4 (.inl (by rw [show p6.length = 6 from h6]; exact hown1)) (by omega) (by show g1 ≤ w1.heap.size; omega) hcl (by rw [show p6.length = 6 from h6]; omega)
  rw [show p6.length = 6 from h6, ← show p10 = p6 ++ le (Crc.upd (Crc.upd 0#32 p6) l).toNat 4 from hp10] at HL
  generalize Crc.upd (Crc.upd 0#32 p6) l = cr at *
  generalize Crc.upd 0#32 p6 = cr0 at *
  have hcw : IntKind.u64.wrap ((cr.toNat : Nat) : Int) = ((cr.toNat : Nat) : Int) := by rw [IntKind.wrap_u64]; omega
  clear H1 hp10 hO x1 hbx
  go_region_held_law (fun w' => w'.cell? ⟨w.heap.size, 1, none⟩ = some (.slice A l.length c)) (first | go_keep | exact x3) ((first
    | (go_at_call 100; refine HS.mono ?_; rintro e w2 ⟨rfl, rfl⟩)
    | (go_at_call 99; refine HU.mono ?_; rintro e w2 ⟨rfl, rfl⟩; rw [un_u64 cr])
    | (go_at_call 98; refine HL.mono ?_; intro e w2 hR; obtain ⟨A2, c2, rfl, hown2, hB2⟩ := hR.len (show p10.length = 10 from h10); have x3 : w2.cell? ⟨w.heap.size, 1, none⟩ = some (.slice A l.length c) := (hB2.cell hg2).trans x2)))
  have hz2 := hB2.size
  have hz12 : w1.heap.size ≤ w2.heap.size := hz2
  have hB02 : Below w.heap.size w w2 := hB01.trans ((below_drew (Below.refl _ _)).trans (hB2.mono (Nat.le_of_lt hg2)))
  have hbl2 := hb.below hB02
  have hsec := secs_le l.length
  have hsn : secs l.length ≤ 16000 := by unfold secs; omega
  obtain ⟨sn, hsn2⟩ : ∃ x, x = secs l.length := ⟨_, rfl⟩
  have HC := fun W => sectors_walk' W l.length (by omega)
  rw [← hsn2] at hsec hsn HC
  have hpk2 : pk = p10 ++ l ++ List.replicate (64 * sn - (10 + l.length)) 0 := by rw [hsn2]; exact hpk
  replace hpk2 := Go.Lib.hid hpk2
  obtain ⟨zn, hzn⟩ : ∃ x, x = 64 * sn - (10 + l.length) := ⟨_, rfl⟩
  obtain ⟨m64, hm64⟩ : ∃ x, x = 64 * sn := ⟨_, rfl⟩
  obtain ⟨n10, hn10⟩ : ∃ x, x = 10 + l.length := ⟨_, rfl⟩
  have hs1 : IntKind.i64.wrap ((sn : Int) * 64) = (m64 : Int) := by rw [IntKind.wrap_i64]; omega
  have hs2 : IntKind.i64.wrap ((m64 : Int) - (n10 : Int)) = (zn : Int) := by rw [IntKind.wrap_i64]; omega
  have hz3 : zn ≤ 2000000 := by omega
  have hn3 : n10 ≤ 2000000 := by omega
  have hpk3 : pk = (p10 ++ l) ++ List.replicate zn 0 := by rw [hzn]; exact hpk2
  have hg4 : g1 ≤ w2.heap.size := by omega
  clear hsn2 HS HU HL hown1 hm64 hzn hsec hpk hpk2
  replace hpk3 := Go.Lib.hid hpk3
  replace hn10 := Go.Lib.hid hn10
  go_wp2_with (first
    | (at_builtin; refine wpList_append_bys (o := ⟨some 25, _, _, _, _, _⟩) w2 g1 rfl (.tmp 22) (.tmp 24) 22 5 rfl Tryd.underlying22 info_b _ 10 (bv p10) rfl hown2 A l.length c l rfl hbl2 (Below.refl _ _) hg4 (by omega) ?_; intro v3 w3 hown3 hB3 hg33 hat3 hs3; rw [← show n10 = 10 + l.length from hn10] at hown3; obtain ⟨A3, c3, hv3⟩ := own_slice hown3; subst hv3; have x4 := (hB3.cell hg2).trans x3)
    | (go_at_call 59; refine (HC w3).mono ?_; rintro e w4 ⟨rfl, rfl⟩)
    | (at_builtin; refine wpList_append_z (o := ⟨some 35, _, _, _, _, _⟩) w3 g1 rfl (.tmp 26) (.tmp 34) 22 3 5 rfl Tryd.underlying22 Tryd.underlying3 info_b _ n10 (bv p10 ++ bv l) rfl hown3 .i64 zn rfl (Below.refl _ _) hs3 (by omega) ?_; intro v5 w5 hown5 hB5 hs5))
  go_ret
  refine RetBys.of (own_lo hown5 (Nat.le_of_lt hg2)) (by rw [show pk = _ from hpk3, bv_append, bv_append]) ?_
  exact hB02.trans ((hB3.trans hB5).mono (Nat.le_of_lt hg2))
end Go.Proofs.YtggogenhakdhiaaDoor
end
section
attribute [local go_sem ↓] Go.wp_at_zero Go.wp_at_succ
set_option linter.unusedVariables false
set_option linter.unusedSimpArgs false
namespace Go.Proofs.YtggogenhakdhiaaDoor
open Go.RowKit

theorem Bys.rdv {w : World} {A : Option Addr} {n : Nat} {l : List UInt8} (h : Bys w A n l) : Rdv w A n (bv l) :=
  ⟨by rw [bv_length, h.len], fun i u hu => by
    rw [bv_getElem?] at hu
    obtain ⟨b, hb, rfl⟩ := Option.map_eq_some_iff.1 hu
    have hi : i < l.length := (List.getElem?_eq_some_iff.1 hb).1
    have hl := h.len
    obtain ⟨ad, e, hc⟩ := h.cell i (by omega)
    refine ⟨ad, e, ?_⟩
    rw [hc, List.getD_eq_getElem?_getD, hb]
    rfl⟩
/-- how long a slice is -/
def slLen : Value → Nat | .slice _ n _ => n | _ => 0
set_option maxHeartbeats 1000000 in
set_option maxRecDepth 20000 in
theorem bytes_walk (w : World) (k : Nat) (A : Option Addr) (c : Nat) (l : List UInt8) (hb : Bys w A l.length l) (hk : k < 256) (hn : l.length ≤ 1000000) :
    Calls Tryd.prog 97 #[.agg #[.int .i64 k, .slice A l.length c]] w (RetBys w.heap.size 5 (packB k l) w) := by
  have hkw : IntKind.u8.wrap (k : Int) = (k : Int) := by rw [IntKind.wrap_u8]; omega
  have hlw : IntKind.u64.wrap (l.length : Int) = (l.length : Int) := by rw [IntKind.wrap_u64]; omega
  have hB0 : Below w.heap.size w ((w.alloc (.cells #[.int .i64 k, .slice A l.length c] 102)).alloc (.cells #[.int .u8 82, .int .u8 k] 5)) := ((Below.refl _ _).alloc (Nat.le_refl _) _).alloc (by simp) _
  have hbx : ((w.alloc (.cells #[.int .i64 k, .slice A l.length c] 102)).alloc (.cells #[.int .u8 82, .int .u8 k] 5)).heap[w.heap.size]? = some (.cells #[.int .i64 k, .slice A l.length c] 102) := by
    rw [← heap_alloc_new w (.cells #[.int .i64 k, .slice A l.length c] 102)]
    exact ((Below.refl (w.alloc (.cells #[.int .i64 k, .slice A l.length c] 102)).heap.size (w.alloc (.cells #[.int .i64 k, .slice A l.length c] 102))).alloc (Nat.le_refl _) (.cells #[.int .u8 82, .int .u8 k] 5)).block w.heap.size (by simp)
  have hO : ((w.alloc (.cells #[.int .i64 k, .slice A l.length c] 102)).alloc (.cells #[.int .u8 82, .int .u8 k] 5)).ownsRow (w.heap.size + 1) 5 1 (.slice (some ⟨(w.alloc (.cells #[.int .i64 k, .slice A l.length c] 102)).heap.size, 0, none⟩) 2 2) 2 (bv [82, UInt8.ofNat k]) := by
    rw [← two_cells k hk]
    exact World.ownsRow_lit (base := w.heap.size + 1) (size := 1) (w.alloc (.cells #[.int .i64 k, .slice A l.length c] 102)) _ 2 (by simp) (by simp only [maxLen]; omega) rfl
  have hz0 := hB0.size
  have hgl : w.heap.size < ((w.alloc (.cells #[.int .i64 k, .slice A l.length c] 102)).alloc (.cells #[.int .u8 82, .int .u8 k] 5)).heap.size := by simp; omega
  obtain ⟨g1, hg1⟩ : ∃ x, x = w.heap.size + 1 := ⟨_, rfl⟩
  have hg3 : g1 ≤ ((w.alloc (.cells #[.int .i64 k, .slice A l.length c] 102)).alloc (.cells #[.int .u8 82, .int .u8 k] 5)).heap.size := by simp; omega
  rw [← hg1] at hO
  have hg2 : w.heap.size < g1 := by omega
  clear hg1
  have x1 : ((w.alloc (.cells #[.int .i64 k, .slice A l.length c] 102)).alloc (.cells #[.int .u8 82, .int .u8 k] 5)).cell? ⟨w.heap.size, 1, none⟩ = some (.slice A l.length c) := by rw [cell_of_row ((w.alloc (.cells #[.int .i64 k, .slice A l.length c] 102)).alloc (.cells #[.int .u8 82, .int .u8 k] 5)) w.heap.size 1 _ _ _ hbx]; rfl
  have H1 : Calls Tryd.prog 95 #[.slice (some ⟨(w.alloc (.cells #[.int .i64 k, .slice A l.length c] 102)).heap.size, 0, none⟩) 2 2, .int .u64 (l.length : Nat), .int .i64 (4 : Nat)] ((w.alloc (.cells #[.int .i64 k, .slice A l.length c] 102)).alloc (.cells #[.int .u8 82, .int .u8 k] 5)) (RetBys g1 5 (pre6 k l.length) ((w.alloc (.cells #[.int .i64 k, .slice A l.length c] 102)).alloc (.cells #[.int .u8 82, .int .u8 k] 5))) := low_walk ((w.alloc (.cells #[.int .i64 k, .slice A l.length c] 102)).alloc (.cells #[.int .u8 82, .int .u8 k] 5)) g1 _ 2 [82, UInt8.ofNat k] l.length 4 (.inl hO) (by omega) hg3 (by omega) (by simp) (by omega)
  rw [World.heap_alloc_size] at H1
  have h6 := pre6_length k l.length
  have h10 := pre10_length k l
  have hpk : packB k l = pre10 k l ++ l ++ List.replicate (64 * secs l.length - (10 + l.length)) 0 := rfl
  have hp10 : pre10 k l = pre6 k l.length ++ le (Crc.upd 0#32 (pre6 k l.length ++ l)).toNat 4 := rfl
  have hcl : (Crc.upd 0#32 (pre6 k l.length ++ l)).toNat < 18446744073709551616 := by have := (Crc.upd 0#32 (pre6 k l.length ++ l)).isLt; omega
  generalize pre10 k l = p10 at *
  generalize pre6 k l.length = p6 at *
  generalize packB k l = pk at *
  replace hpk := Go.Lib.hid hpk
  replace hp10 := Go.Lib.hid hp10
  replace h10 := Go.Lib.hid h10
  replace h6 := Go.Lib.hid h6
  clear hO hbx
  go_enter Tryd.func97, Tryd.ntmps97
  go_upto_region 2 with (go_at_call 95; go_must (refine H1.mono ?_; intro e w1 hR; obtain ⟨A1, c1, rfl, hown1, hB1⟩ := hR.len (show p6.length = 6 from h6)))
  have hz1 := hB1.size
  have x2 : w1.cell? ⟨w.heap.size, 1, none⟩ = some (.slice A l.length c) := (hB1.cell hg2).trans x1
  have hB01 : Below w.heap.size w w1 := hB0.trans (hB1.mono (Nat.le_of_lt hg2))
  have hg11 : g1 ≤ w1.heap.size := Nat.le_trans hg3 hz1
  have hlt1 : w.heap.size < w1.heap.size := by omega
  have hby1 : Bys w1 A1 6 p6 := Bys.own hown1
  have hbl1 := (hb.below hB01).rdv
  have hr1 := hby1.rdv
  obtain ⟨n6, hn6⟩ : ∃ x, x = 6 + l.length := ⟨_, rfl⟩
  replace hn6 := Go.Lib.hid hn6
  clear H1 hB0 hB1 hz0 hgl hg3 x1 hz1 hR
  go_region_held_law (fun w' => w'.cell? ⟨w.heap.size, 1, none⟩ = some (.slice A l.length c)) (first | go_keep | exact x3 | exact x4) ((first
    | (refine step_append_rd (o := ⟨some 19, _, _, _, _, _⟩) w1 w1.heap.size rfl (.tmp 16) (.tmp 18) 22 5 (.int .u8 0) 1 rfl Tryd.underlying22 info_b rfl _ 6 (bv p6) rfl hown2 A l.length c (bv l) rfl (hbl1.below hB2) (bv_one _) hB2 hs2 (by omega) (by omega) ?_; intro v3 w3 hown3 hB3 hg33 hs3; clear hg33; rw [← show n6 = 6 + l.length from hn6] at hown3; obtain ⟨A3, c3, hv3⟩ := own_slice hown3; subst hv3; have x4 := (hB3.cell hlt1).trans x2)
    | (refine step_append_rd (o := ⟨some 16, _, _, _, _, _⟩) w1 w1.heap.size rfl (.tmp 14) (.tmp 15) 22 5 (.int .u8 0) 1 rfl Tryd.underlying22 info_b rfl _ 0 [] rfl (own_empty _ _ _ _ _ (Nat.le_refl _) (heap_alloc_new _ _)) _ 6 _ _ rfl (hr1.drew.below ((Below.refl _ _).alloc (Nat.le_refl _) _)) (bv_one _) ((Below.refl _ _).drew.alloc (Nat.le_refl _) _) (by simp) (by omega) (by omega) ?_; intro v2 w2 hown2 hB2 hg22 hs2; clear hg22; rw [Nat.zero_add, List.nil_append] at hown2; obtain ⟨A2, c2, hv2⟩ := own_slice hown2; subst hv2; have x3 := (hB2.cell hlt1).trans x2)))
  have hlt3 : g1 ≤ w3.heap.size := Nat.le_trans hg11 hB3.size
  have hall : Bys w3 A3 n6 (p6 ++ l) := Bys.own (c := c3) (base := w1.heap.size) (E := 5) (by rw [bv_append]; exact hown3)
  have hd3 : Below w3.heap.size w3 w3.drew := below_drew (Below.refl _ _)
  have HS := rsum_walk w3.drew A3 n6 c3 (p6 ++ l) (hall.below hd3)
  have hown13 : w3.drew.ownsRow g1 5 1 (.slice A1 6 c1) 6 (bv p6) := own_at hown1 (fun k hk => (below_drew hB3).block k (own_lt hown1 k hk))
  have HL := low_walk w3.drew g1 A1 c1 p6 (Crc.upd 0#32 (p6 ++ l)).toNat 4 (.inl (by rw [show p6.length = 6 from h6]; exact hown13)) (by omega) hlt3 hcl (by rw [show p6.length = 6 from h6]; omega) (by omega)
  rw [show p6.length = 6 from h6, ← show p10 = p6 ++ le (Crc.upd 0#32 (p6 ++ l)).toNat 4 from hp10] at HL
  generalize Crc.upd 0#32 (p6 ++ l) = cr at *
  have hcw : IntKind.u64.wrap ((cr.toNat : Nat) : Int) = ((cr.toNat : Nat) : Int) := by rw [IntKind.wrap_u64]; omega
  have hB03 : Below w.heap.size w w3 := hB01.trans (hB3.mono (Nat.le_of_lt hlt1))
  have hbl3 := (hb.below hB03).rdv
  have y4 := x4
  obtain ⟨n10, hn10⟩ : ∃ x, x = 10 + l.length := ⟨_, rfl⟩
  replace hn10 := Go.Lib.hid hn10
  clear hp10 hown1 hown2 hB2 x2 x3 hbl1 hr1 hby1 hown13 hall hd3
  go_upto_region 3 with fail
  go_cut [3] from 20 to 28 (fun v wx => ∃ A5 c5, v = .slice A5 n10 c5 ∧ wx.ownsRow g1 5 1 (.slice A5 n10 c5) n10 (bv p10 ++ bv l) ∧ Below w.heap.size w wx ∧ g1 ≤ wx.heap.size)
  case first =>
    go_region_held_law (fun w' => w'.cell? ⟨w.heap.size, 1, none⟩ = some (.slice A l.length c)) (first | go_keep | exact x5 | exact x6) ((first
      | (refine step_append_rd (o := ⟨some 27, _, _, _, _, _⟩) w3 g1 rfl (.tmp 24) (.tmp 26) 22 5 (.int .u8 0) 1 rfl Tryd.underlying22 info_b rfl _ 10 (bv p10) rfl hown4 A l.length c (bv l) rfl ((hb.below (hB03.trans (hB4.mono (Nat.le_of_lt hg2)))).rdv) (bv_one _) hB4 hs4 (by omega) (by omega) ?_; intro v5 w5 hown5 hB5 hg55 hs5; clear hg55; rw [← show n10 = 10 + l.length from hn10] at hown5; obtain ⟨A5, c5, hv5⟩ := own_slice hown5; subst hv5; have x6 := (hB5.cell hg2).trans y4)
      | (go_at_call 95; refine HL.mono ?_; intro e w4 hR; obtain ⟨A4, c4, rfl, hown4, hB4'⟩ := hR.len (show p10.length = 10 from h10); clear hR; have hB4 : Below g1 w3 w4 := (below_drew (Below.refl _ _)).trans hB4'; have hs4 := Nat.le_trans hlt3 hB4.size; have x5 := (hB4.cell hg2).trans y4)
      | (go_at_call 96; refine HS.mono ?_; rintro e w4 ⟨rfl, rfl⟩; rw [un_u64 cr])))
    all_goals (go_wp2_with fail; go_meet; exact ⟨_, _, rfl, hown5, hB03.trans (hB5.mono (Nat.le_of_lt hg2)), hs5⟩)
  case rest =>
    obtain ⟨A5, c5, rfl, hown5, hB5, hs5⟩ := hcut
    clear HS HL hbl3 hB3 hown3 x4 y4 hB03 hlt3 hcl hcw
    have hsec := secs_le l.length
    have hsn : 64 * secs l.length < 64 + (10 + l.length) := by unfold secs; omega
    generalize secs l.length = sn at *
    obtain ⟨zn, hzn⟩ : ∃ x, x = 64 * sn - (10 + l.length) := ⟨_, rfl⟩
    have hpk3 : pk = (p10 ++ l) ++ List.replicate zn 0 := by rw [hzn]; exact hpk
    rw [← bv_append] at hown5
    have hn10' : n10 = 10 + l.length := hn10
    have hn11 : n10 + zn = 64 * sn := by omega
    have hzl : zn < 64 := by omega
    have hn12 : n10 ≤ 2000000 := by omega
    replace hpk3 := Go.Lib.hid hpk3
    replace hn11 := Go.Lib.hid hn11
    generalize p10 ++ l = pl at *
    clear hpk hzn hsec hn10' h10 h6 hb hn6 hlw hkw
    go_wp2
    go_loopw [3] (fun v wr => ∃ j : Nat, j ≤ zn ∧ Below w.heap.size w wr ∧ w.heap.size ≤ wr.heap.size ∧ ∃ A' c', v = .slice A' (n10 + j) c' ∧ wr.ownsRow w.heap.size 5 1 (.slice A' (n10 + j) c') (n10 + j) (bv (pl ++ List.replicate j 0))) (fun v _ => zn - (slLen v - n10))
    case atStart => exact ⟨0, by omega, hB5, hB5.size, A5, c5, rfl, own_lo (by simpa using hown5) (Nat.le_of_lt hg2)⟩
    case round => 
      obtain ⟨j, hj, hBr, hbr, A', c', rfl, hown⟩ := hrel
      by_cases hlt : j < zn
      · have hne : (n10 + j) % 64 ≠ 0 := by have : n10 + zn = 64 * sn := hn11; omega
        have hsn2 : pl ++ List.replicate (j + 1) 0 = (pl ++ List.replicate j 0) ++ [0] := by rw [List.replicate_succ', List.append_assoc]
        replace hsn2 := Go.Lib.hid hsn2
        go_wp2_with (at_builtin; go_must (refine wpList_append_bys (o := ⟨some 34, _, _, _, _, _⟩) w w.heap.size rfl (.tmp 32) (.tmp 33) 22 5 rfl Tryd.underlying22 info_b _ (n10 + j) (bv (pl ++ List.replicate j 0)) rfl (hown.alloc _) _ 1 1 [0] rfl (Bys.new wr 5 #[.int .u8 0] [0] rfl (by simp)) (hBr.alloc hbr _) (by simp; omega) (by omega) ?_; intro v6 w6 hown6 hB6 hg66 hat6 hs6; clear hg66 hat6; rw [← bv_append, ← show pl ++ List.replicate (j + 1) 0 = _ from hsn2] at hown6; obtain ⟨A6, c6, hv6⟩ := own_slice hown6; subst hv6))
        go_roundw
        case rel => exact ⟨j + 1, hlt, hB6, hs6, A6, c6, rfl, hown6⟩
        case measure => simp [slLen]; omega
      · have hjk : j = zn := by omega
        subst hjk
        have hne : (n10 + j) % 64 = 0 := by have : n10 + j = 64 * sn := hn11; omega
        go_wp2
        go_ret
        refine RetBys.of hown (by rw [show pk = _ from hpk3]) hBr
end Go.Proofs.YtggogenhakdhiaaDoor
end
section
set_option linter.unusedVariables false
set_option linter.unusedSimpArgs false
namespace Go.Proofs.YtggogenhakdhiaaDoor
open Go.RowKit

/-- how many sectors each half has -/
def halfOf (n : Nat) : Nat := (n - 1) / 2
/-- the first sector of a generation's half -/
def firstOf (n gen : Nat) : Nat := if gen % 2 = 1 then 1 else 1 + halfOf n
theorem half_walk (w : World) (g n : Nat) (sv tv : Value) (d : DS) (h : PDsk w g sv tv n d) : Calls Tryd.prog 41 #[.pointer (some ⟨g, 0, none⟩)] w (Says (.int .i64 (halfOf n : Nat)) w) := by
  have hle := h.le
  have hp := h.pos
  have HS := sectors_walk w g n sv tv d h
  have h1 : IntKind.i64.wrap ((n : Int) - 1) = ((n - 1 : Nat) : Int) := by rw [IntKind.wrap_i64]; omega
  go_enter Tryd.func41, Tryd.ntmps41
  go_wp2_with (go_at_call 93; go_must (refine HS.mono ?_); rintro e w' ⟨rfl, rfl⟩)
  go_ret
  exact ⟨by show Ending.returned (.int .i64 _) = _; first | rfl | (congr 2; unfold halfOf; omega), rfl⟩
theorem rhalf_walk (w : World) (g n : Nat) (sv tv : Value) (d : DS) (h : RDsk w g sv tv n d) : Calls Tryd.prog 49 #[.pointer (some ⟨g, 0, none⟩)] w (Says (.int .i64 (halfOf n : Nat)) w) := by
  have hle := h.le
  have hp : 1 ≤ n := by have := h.pos; omega
  have HS := rsectors_walk w g n sv tv d h
  have h1 : IntKind.i64.wrap ((n : Int) - 1) = ((n - 1 : Nat) : Int) := by rw [IntKind.wrap_i64]; omega
  go_enter Tryd.func49, Tryd.ntmps49
  go_wp2_with (go_at_call 38; go_must (refine HS.mono ?_); rintro e w' ⟨rfl, rfl⟩)
  go_ret
  exact ⟨by show Ending.returned (.int .i64 _) = _; first | rfl | (congr 2; unfold halfOf; omega), rfl⟩
theorem first_walk (w : World) (g n : Nat) (sv tv : Value) (d : DS) (h : PDsk w g sv tv n d) (gen : Nat) (hg : gen < 9223372036854775808) : Calls Tryd.prog 40 #[.pointer (some ⟨g, 0, none⟩), .int .i64 gen] w (Says (.int .i64 (firstOf n gen : Nat)) w) := by
  have hle := h.le
  have HH := half_walk w g n sv tv d h
  have hh : halfOf n ≤ 16384 := by unfold halfOf; omega
  unfold firstOf
  generalize halfOf n = hn at *
  have h1 : IntKind.i64.wrap ((gen : Int) % 2) = ((gen % 2 : Nat) : Int) := by rw [IntKind.wrap_i64]; omega
  by_cases hr : gen % 2 = 1
  · rw [if_pos hr]
    have hr2 : ((gen : Int) % 2 == 1) = true := by simp; omega
    go_enter Tryd.func40, Tryd.ntmps40
    go_wp2_with (go_at_call 41; go_must (refine HH.mono ?_); rintro e w' ⟨rfl, rfl⟩)
    go_ret
    exact ⟨rfl, rfl⟩
  · rw [if_neg hr]
    have hr2 : ((gen : Int) % 2 == 1) = false := by simp; omega
    go_enter Tryd.func40, Tryd.ntmps40
    go_wp2_with (go_at_call 41; go_must (refine HH.mono ?_); rintro e w' ⟨rfl, rfl⟩)
    go_ret
    exact ⟨by show Ending.returned (.int .i64 _) = _; first | rfl | (congr 2; omega), rfl⟩
theorem rfirst_walk (w : World) (g n : Nat) (sv tv : Value) (d : DS) (h : RDsk w g sv tv n d) (gen : Nat) (hg : gen < 9223372036854775808) : Calls Tryd.prog 48 #[.pointer (some ⟨g, 0, none⟩), .int .i64 gen] w (Says (.int .i64 (firstOf n gen : Nat)) w) := by
  have hle := h.le
  have HH := rhalf_walk w g n sv tv d h
  have hh : halfOf n ≤ 16384 := by unfold halfOf; omega
  unfold firstOf
  generalize halfOf n = hn at *
  have h1 : IntKind.i64.wrap ((gen : Int) % 2) = ((gen % 2 : Nat) : Int) := by rw [IntKind.wrap_i64]; omega
  by_cases hr : gen % 2 = 1
  · rw [if_pos hr]
    have hr2 : ((gen : Int) % 2 == 1) = true := by simp; omega
    go_enter Tryd.func48, Tryd.ntmps48
    go_wp2_with (go_at_call 49; go_must (refine HH.mono ?_); rintro e w' ⟨rfl, rfl⟩)
    go_ret
    exact ⟨rfl, rfl⟩
  · rw [if_neg hr]
    have hr2 : ((gen : Int) % 2 == 1) = false := by simp; omega
    go_enter Tryd.func48, Tryd.ntmps48
    go_wp2_with (go_at_call 49; go_must (refine HH.mono ?_); rintro e w' ⟨rfl, rfl⟩)
    go_ret
    exact ⟨by show Ending.returned (.int .i64 _) = _; first | rfl | (congr 2; omega), rfl⟩
theorem rsectors2_walk (w : World) (k : Int) (A : Option Addr) (n c : Nat) (hn : n ≤ 1000000) :
    Calls Tryd.prog 51 #[.agg #[.int .i64 k, .slice A n c]] w (fun e w' => e = .returned (.int .i64 (secs n : Nat)) ∧ Below w.heap.size w w') := by
  have h1 : IntKind.i64.wrap (10 + (n : Int)) = ((n + 10 : Nat) : Int) := by rw [IntKind.wrap_i64]; omega
  have h2 : IntKind.i64.wrap (((n + 10 : Nat) : Int) + 64) = ((n + 74 : Nat) : Int) := by rw [IntKind.wrap_i64]; omega
  have h3 : IntKind.i64.wrap (((n + 74 : Nat) : Int) - 1) = ((n + 73 : Nat) : Int) := by rw [IntKind.wrap_i64]; omega
  have h4 : IntKind.i64.wrap (((n + 73 : Nat) : Int) / 64) = ((secs n : Nat) : Int) := by unfold secs; rw [IntKind.wrap_i64]; omega
  go_enter Tryd.func51, Tryd.ntmps51
  go_wp2
  go_ret
  exact ⟨by show Ending.returned (.int .i64 (((n : Int) + 10 + 64 - 1) / 64)) = _; congr 2; unfold secs; omega, (Below.refl _ _).alloc (Nat.le_refl _) _⟩
set_option maxHeartbeats 1000000 in
set_option maxRecDepth 20000 in
/-- a sector that is read: where it lies -/
theorem read_at (w : World) (g n : Nat) (sv tv : Value) (d : DS) (k : Nat) (h : PDsk w g sv tv n d) (hk : k < n) :
    Calls Tryd.prog 42 #[.pointer (some ⟨g, 0, none⟩), .int .i64 k] w (fun e w' => e = .returned (.tuple #[.slice (some ⟨w.heap.size, 0, none⟩) 64 64, .int .i64 0]) ∧ w.alloc (.cells (bv (secOf d.img k)).toArray 84) = w') := by
  have c0 := h.c0
  have hle := h.le
  obtain ⟨s, c, hv, _, hs, hc1, hc2, _⟩ := own_some h.sec h.pos
  subst hv
  have hcell := sec_cells h.sec h.len hk h.pos
  have hl64 := secOf_length h.len hk
  go_enter Tryd.func42, Tryd.ntmps42
  go_upto_region 3 with fail
  go_wp2_with (first
    | (refine wpList_load_cells (o := ⟨some 24, _, _, _, _, _⟩) rfl 84 (.tmp 23) rfl ⟨s, k * 64, none⟩ rfl (bv (secOf d.img k)) _ (sec_cells2 hcell) Tryd.underlying84 rfl (by rw [infoSec, bv_length, hl64]) ?_)
    | (refine wpList_store_fresh (o := ⟨none, _, _, _, _, _⟩) rfl 84 (.tmp 6) (.tmp 24) rfl (bv (secOf d.img k)).toArray rfl rfl _ _ (by rw [infoSec]; simp [bv_length, hl64]) (by simp [bv_length, hl64]) (bv_all _) ?_))
  go_ret2
  exact ⟨rfl, rfl⟩
set_option maxRecDepth 20000 in
/-- a clone of bytes that are somewhere -/
theorem clone_walk (w : World) (ad : Addr) (n c : Nat) (l : List UInt8) (h : Bys w (some ad) n l) (hn : n ≤ 100000000000000) :
    Calls Tryd.prog 94 #[.slice (some ad) n c] w (RetBys w.heap.size 5 l w) := by
  have hl := h.len
  have hq := Go.Lib.run_eql_slice_some_nil (P := Tryd.prog) w ad n c Tryd.underlying22
  go_enter Tryd.func94, Tryd.ntmps94
  go_wp2_with (at_builtin; go_must (refine wpList_append_bys (o := ⟨some 7, _, _, _, _, _⟩) w w.heap.size rfl (.tmp 5) (.tmp 6) 22 5 rfl Tryd.underlying22 info_b _ 0 [] rfl (own_empty _ _ _ _ _ (Nat.le_refl _) (heap_alloc_new w _)) (some ad) n c l rfl (h.below ((Below.refl _ _).alloc (Nat.le_refl _) _)) ((Below.refl _ _).alloc (Nat.le_refl _) _) (by simp) (by omega) ?_; intro v1 w1 hown1 hB1 _ _ _))
  go_ret
  exact RetBys.of hown1 (by simp) hB1
set_option maxRecDepth 20000 in
theorem clone_nil (w : World) :
    Calls Tryd.prog 94 #[.slice none 0 0] w (fun e w' => e = .returned (.slice none 0 0) ∧ w = w') := by
  have hq := Go.Lib.run_eql_slice_nil_nil (P := Tryd.prog) w 0 0 Tryd.underlying22
  go_enter Tryd.func94, Tryd.ntmps94
  go_wp2
  go_ret
  exact ⟨rfl, rfl⟩
end Go.Proofs.YtggogenhakdhiaaDoor
end
section
set_option linter.unusedVariables false
set_option linter.unusedSimpArgs false
namespace Go.Proofs.YtggogenhakdhiaaDoor
open Go.RowKit

/-- the generation that the head tells -/
def headNum (img : List UInt8) : Nat := num (((secOf img 0).drop 8).take 8)
def genOf (img : List UInt8) (n : Nat) : Option Nat :=
  if halfOf n < 1 then none else if headNum img < 1 ∨ headNum img > 1099511627776 then none else if secOf img 0 = headB (headNum img) then some (headNum img) else none
/-- sectors side by side -/
def secsOf (img : List UInt8) (at_ k : Nat) : List UInt8 := (img.drop (64 * at_)).take (64 * k)
theorem secsOf_one (img : List UInt8) (at_ : Nat) : secsOf img at_ 1 = secOf img at_ := rfl
theorem secsOf_succ (img : List UInt8) (at_ k : Nat) : secsOf img at_ (k + 1) = secsOf img at_ k ++ secOf img (at_ + k) := by
  unfold secsOf secOf
  rw [show 64 * (k + 1) = 64 * k + 64 by omega, List.take_add, List.drop_drop, show 64 * at_ + 64 * k = 64 * (at_ + k) by omega]
theorem secsOf_length {img : List UInt8} {n at_ k : Nat} (h : img.length = 64 * n) (hk : at_ + k ≤ n) : (secsOf img at_ k).length = 64 * k := by
  unfold secsOf
  rw [List.length_take, List.length_drop]
  omega
/-- how long a record's load is -/
def loadLen (img : List UInt8) (at_ : Nat) : Nat := num (((secOf img at_).drop 2).take 4)
/-- the record that begins at a sector, ahead of the end -/
def recOf (img : List UInt8) (at_ end_ : Nat) : Nat × List UInt8 := (((secOf img at_).getD 1 0).toNat, ((secsOf img at_ (secs (loadLen img at_))).drop 10).take (loadLen img at_))
def readP (img : List UInt8) (at_ end_ : Nat) : Option (Int × List UInt8) :=
  if ((secOf img at_).getD 0 0).toNat ≠ 82 ∨ ((secOf img at_).getD 1 0).toNat = 0 ∨ loadLen img at_ > 262144 ∨ at_ + secs (loadLen img at_) > end_ then none
  else if secsOf img at_ (secs (loadLen img at_)) = packB (recOf img at_ end_).1 (recOf img at_ end_).2 then some (((recOf img at_ end_).1 : Int), (recOf img at_ end_).2) else none
theorem secs_pos (n : Nat) : 1 ≤ secs n := by unfold secs; omega
/-- the records from a sector on -/
def scan (img : List UInt8) (end_ at_ : Nat) : Option (List (Int × List UInt8)) :=
  if h : end_ ≤ at_ then some [] else if secOf img at_ = zb64 then some [] else
    match readP img at_ end_ with
    | none => none
    | some r => (scan img end_ (at_ + secs (loadLen img at_))).map (r :: ·)
termination_by end_ - at_
decreasing_by have := secs_pos (loadLen img at_); omega
theorem scan_end {img : List UInt8} {end_ at_ : Nat} (h : end_ ≤ at_) : scan img end_ at_ = some [] := by rw [scan, dif_pos h]
theorem scan_zero {img : List UInt8} {end_ at_ : Nat} (h : secOf img at_ = zb64) : scan img end_ at_ = some [] := by
  rw [scan]
  split
  · rfl
  · simp [h]
theorem scan_none {img : List UInt8} {end_ at_ : Nat} (h : ¬ end_ ≤ at_) (hz : secOf img at_ ≠ zb64) (hr : readP img at_ end_ = none) : scan img end_ at_ = none := by
  rw [scan, dif_neg h, if_neg hz, hr]
theorem scan_some {img : List UInt8} {end_ at_ : Nat} {r : Int × List UInt8} (h : ¬ end_ ≤ at_) (hz : secOf img at_ ≠ zb64) (hr : readP img at_ end_ = some r) : scan img end_ at_ = (scan img end_ (at_ + secs (loadLen img at_))).map (r :: ·) := by
  rw [scan, dif_neg h, if_neg hz, hr]
/-- what Open answers -/
inductive Opened where
  | err (k : Int)
  | log (gen : Nat) (recs : List (Int × List UInt8))
def openOf (d : DS) (n : Nat) : Opened :=
  if d.down = true then .err 50 else
    match genOf d.img n with
    | none => .err 60
    | some g =>
      match scan d.img (firstOf n g + halfOf n) (firstOf n g) with
      | none => .err 61
      | some l => .log g l

theorem Bys.cut {w : World} {g o n : Nat} {l : List UInt8} (h : Bys w (some ⟨g, o, none⟩) n l) (k m : Nat) (hm : k + m ≤ n) : Bys w (some ⟨g, o + k, none⟩) m ((l.drop k).take m) :=
  ⟨by rw [List.length_take, List.length_drop, h.len]; omega, by have := h.max; omega, fun i hi => ⟨_, rfl, by
    obtain ⟨ad, e, hc⟩ := h.cell (k + i) (by omega)
    cases e
    have ha : (⟨g, o + k, none⟩ : Addr).add i = (⟨g, o, none⟩ : Addr).add (k + i) := by unfold Addr.add; split <;> split <;> simp_all <;> omega
    rw [ha, hc, List.getD_eq_getElem?_getD, List.getD_eq_getElem?_getD, List.getElem?_take, if_pos hi, List.getElem?_drop]⟩⟩
theorem bys_sector (w : World) (e : TypeId) (l : List UInt8) (hl : l.length = 64) : Bys (w.alloc (.cells (bv l).toArray e)) (some ⟨w.heap.size, 0, none⟩) 64 l := Bys.own (own_new w e l 64 hl (by omega))

set_option maxHeartbeats 1000000 in
set_option maxRecDepth 20000 in
theorem generation_walk (w : World) (g n : Nat) (sv tv : Value) (d : DS) (h : PDsk w g sv tv n d) (ht : TabAt w) :
    Calls Tryd.prog 39 #[.pointer (some ⟨g, 0, none⟩)] w (fun e w' => ∃ z : Int, e = .returned (.tuple #[.int .i64 z, .bool (genOf d.img n).isSome]) ∧ (∀ q, genOf d.img n = some q → z = (q : Int)) ∧ Below w.heap.size w w') := by
  have hle := h.le
  have hp : 1 ≤ n := by have := h.pos; omega
  have HH := half_walk w g n sv tv d h
  by_cases h1 : halfOf n < 1
  · have hg : genOf d.img n = none := by unfold genOf; rw [if_pos h1]
    rw [hg]
    generalize halfOf n = hn at *
    go_enter Tryd.func39, Tryd.ntmps39
    go_wp2_with (go_at_call 41; go_must (refine HH.mono ?_); rintro e w' ⟨rfl, rfl⟩)
    go_ret2
    exact ⟨0, rfl, (by intro q hq; cases hq), Below.refl _ _⟩
  · have hg : genOf d.img n = if headNum d.img < 1 ∨ headNum d.img > 1099511627776 then none else if secOf d.img 0 = headB (headNum d.img) then some (headNum d.img) else none := by unfold genOf; rw [if_neg h1]
    have HR := read_at w g n sv tv d 0 h (by omega)
    have hl64 := secOf_length h.len (show 0 < n by omega)
    have hb1 := bys_sector w 84 (secOf d.img 0) hl64
    have hB1 : Below w.heap.size w (w.alloc (.cells (bv (secOf d.img 0)).toArray 84)) := (Below.refl _ _).alloc (Nat.le_refl _) _
    have hq8 : headNum d.img = num (((secOf d.img 0).drop 8).take 8) := rfl
    generalize headNum d.img = q at *
    generalize secOf d.img 0 = hd at *
    generalize w.alloc (.cells (bv hd).toArray 84) = w1 at *
    have HN := number_walk w1 _ 8 56 _ (hb1.cut 8 8 (by omega)) (by omega)
    rw [← hq8] at HN
    have hq64 : q < 18446744073709551616 := by rw [hq8]; exact num_lt64 _ (by rw [List.length_take]; omega)
    generalize halfOf n = hn at *
    have ht1 := ht.below hB1
    clear hq8
    have hs1 := hB1.size
    by_cases h2 : q < 1 ∨ q > 1099511627776
    · rw [if_pos h2] at hg
      rw [hg]
      have hcase : q = 0 ∨ 1099511627776 < q := by omega
      rcases hcase with h0 | h0
      · subst h0
        go_enter Tryd.func39, Tryd.ntmps39
        go_wp2_with (first
          | (go_at_call 41; go_must (refine HH.mono ?_); rintro e w' ⟨rfl, rfl⟩)
          | (go_at_call 42; go_must (refine HR.mono ?_); rintro e w' ⟨rfl, rfl⟩)
          | (go_at_call 92; go_must (refine HN.mono ?_); rintro e w' ⟨rfl, rfl⟩))
        go_ret2
        exact ⟨0, rfl, (by intro q hq; cases hq), hB1⟩
      · have h01 : ¬ q < 1 := by omega
        go_enter Tryd.func39, Tryd.ntmps39
        go_wp2_with (first
          | (go_at_call 41; go_must (refine HH.mono ?_); rintro e w' ⟨rfl, rfl⟩)
          | (go_at_call 42; go_must (refine HR.mono ?_); rintro e w' ⟨rfl, rfl⟩)
          | (go_at_call 92; go_must (refine HN.mono ?_); rintro e w' ⟨rfl, rfl⟩))
        go_ret2
        exact ⟨0, rfl, (by intro q hq; cases hq), hB1⟩
    · rw [if_neg h2] at hg
      have hqw : IntKind.i64.wrap (q : Int) = (q : Int) := by rw [IntKind.wrap_i64]; omega
      have h01 : ¬ q < 1 := by omega
      have h02 : ¬ 1099511627776 < q := by omega
      have HD := head_walk w1 q (by omega) ht1
      have hhl := headB_length q
      have hgs : (genOf d.img n).isSome = decide (hd = headB q) := by
        rw [hg]
        by_cases he : hd = headB q
        · rw [if_pos he, decide_eq_true he]; rfl
        · rw [if_neg he, decide_eq_false he]; rfl
      have hgq : ∀ x, genOf d.img n = some x → (q : Int) = (x : Int) := by
        intro x hx
        rw [hg] at hx
        by_cases he : hd = headB q
        · rw [if_pos he] at hx; cases hx; rfl
        · rw [if_neg he] at hx; cases hx
      rw [hgs]
      generalize headB q = hbq at *
      replace hhl := Go.Lib.hid hhl
      clear hg hgs
      go_enter Tryd.func39, Tryd.ntmps39
      go_wp2_with (first
        | (go_at_call 43; go_must (refine (equal_walk w2 _ _ 64 64 _ _ hd hbq (hb1.below hB2') (Bys.own hown2)).mono ?_); rintro e w' ⟨rfl, rfl⟩)
        | (go_at_call 64; go_must (refine HD.mono ?_; intro e w2 hR; obtain ⟨A2, c2, rfl, hown2, hB2⟩ := hR.len (show hbq.length = 64 from hhl); have hB2' : Below w1.heap.size w1 w2 := hB2))
        | (go_at_call 41; go_must (refine HH.mono ?_); rintro e w' ⟨rfl, rfl⟩)
        | (go_at_call 42; go_must (refine HR.mono ?_); rintro e w' ⟨rfl, rfl⟩)
        | (go_at_call 92; go_must (refine HN.mono ?_); rintro e w' ⟨rfl, rfl⟩))
      go_ret2
      exact ⟨q, rfl, hgq, hB1.trans (hB2.mono hs1)⟩
end Go.Proofs.YtggogenhakdhiaaDoor
end
section
attribute [local go_sem ↓] Go.wp_at_zero Go.wp_at_succ
set_option linter.unusedVariables false
set_option linter.unusedSimpArgs false
namespace Go.Proofs.YtggogenhakdhiaaDoor
open Go.RowKit

/-- a record, or none, is returned -/
def RetRec (B : Nat) (z : Nat) (r : Option (Int × List UInt8)) (w : World) (e : Ending) (w' : World) : Prop :=
  ∃ (kz : Int) (A : Option Addr) (m c : Nat) (y : Int), e = .returned (.tuple #[.agg #[.int .i64 kz, .slice A m c], .int .i64 y, .bool r.isSome]) ∧
    (∀ q, r = some q → kz = (q.1 : Int) ∧ m = q.2.length ∧ y = (z : Int) ∧ w'.ownsRow B 5 1 (.slice A m c) m (bv q.2)) ∧ Below B w w'
theorem getD_of_bys (l : List UInt8) (i : Nat) : ((l.getD i 0).toNat : Int) = ((l.getD i 0).toNat : Nat) := rfl
set_option maxHeartbeats 1000000 in
set_option maxRecDepth 20000 in
theorem wread_bad (w : World) (g n : Nat) (sv tv : Value) (d : DS) (h : PDsk w g sv tv n d) (ht : TabAt w) (at_ end_ : Nat) (ha : at_ < end_) (he : end_ ≤ n) (hbad : ((secOf d.img at_).getD 0 0).toNat ≠ 82 ∨ ((secOf d.img at_).getD 1 0).toNat = 0 ∨ loadLen d.img at_ > 262144 ∨ at_ + secs (loadLen d.img at_) > end_) :
    Calls Tryd.prog 45 #[.pointer (some ⟨g, 0, none⟩), .int .i64 at_, .int .i64 end_] w (RetRec w.heap.size (secs (loadLen d.img at_)) (readP d.img at_ end_) w) := by
  have hle := h.le
  have hB0 : Below w.heap.size w (w.alloc (.cells #[.int .i64 0, .slice none 0 0] 50)) := (Below.refl _ _).alloc (Nat.le_refl _) _
  have hbox := heap_alloc_new w (.cells #[.int .i64 0, .slice none 0 0] 50)
  have hz0 : w.heap.size < (w.alloc (.cells #[.int .i64 0, .slice none 0 0] 50)).heap.size := by simp
  obtain ⟨rp, hrp0⟩ : ∃ x, x = readP d.img at_ end_ := ⟨_, rfl⟩
  obtain ⟨ks0, hks0⟩ : ∃ x, x = secs (loadLen d.img at_) := ⟨_, rfl⟩
  rw [← hrp0, ← hks0]
  replace hks0 := Go.Lib.hid hks0
  go_enter Tryd.func45, Tryd.ntmps45
  go_upto_region 1 with fail
  have h0 := h.below hB0
  have ht0 := ht.below hB0
  have hl64 := secOf_length h.len (show at_ < n by omega)
  generalize w.alloc (.cells #[.int .i64 0, .slice none 0 0] 50) = W at *
  have HR := read_at W g n sv tv d at_ h0 (by omega)
  have hb1 := bys_sector W 84 (secOf d.img at_) hl64
  have hB1 : Below W.heap.size W (W.alloc (.cells (bv (secOf d.img at_)).toArray 84)) := (Below.refl _ _).alloc (Nat.le_refl _) _
  have hbox1 := (hB1.block w.heap.size hz0).trans hbox
  have hq4 : loadLen d.img at_ = num (((secOf d.img at_).drop 2).take 4) := rfl
  have hrp : readP d.img at_ end_ = if ((secOf d.img at_).getD 0 0).toNat ≠ 82 ∨ ((secOf d.img at_).getD 1 0).toNat = 0 ∨ loadLen d.img at_ > 262144 ∨ at_ + secs (loadLen d.img at_) > end_ then none
    else if secsOf d.img at_ (secs (loadLen d.img at_)) = packB (recOf d.img at_ end_).1 (recOf d.img at_ end_).2 then some (((recOf d.img at_ end_).1 : Int), (recOf d.img at_ end_).2) else none := rfl
  have hro : recOf d.img at_ end_ = (((secOf d.img at_).getD 1 0).toNat, ((secsOf d.img at_ (secs (loadLen d.img at_))).drop 10).take (loadLen d.img at_)) := rfl
  have hs1 := secsOf_one d.img at_
  obtain ⟨ll, hll⟩ : ∃ x, x = loadLen d.img at_ := ⟨_, rfl⟩
  rw [← hll] at hq4 hrp hro hbad
  obtain ⟨hd, hhd⟩ : ∃ x, x = secOf d.img at_ := ⟨_, rfl⟩
  rw [← hhd] at hq4 hrp hro hs1 hl64 hb1 hB1 HR hbox1 hbad
  generalize hw1 : W.alloc (.cells (bv hd).toArray 84) = w1 at *
  have HN := number_walk w1 _ 4 62 _ (hb1.cut 2 4 (by omega)) (by omega)
  rw [← hq4] at HN
  have hq32 : ll < 4294967296 := by rw [hq4]; have := num_lt ((hd.drop 2).take 4); rw [List.length_take, List.length_drop, hl64] at this; exact this
  obtain ⟨_, e0, x0⟩ := hb1.cell 0 (by omega)
  cases e0
  obtain ⟨_, e0, x1⟩ := hb1.cell 1 (by omega)
  cases e0
  rw [add_plain] at x0 x1
  have y0 : w1.cell? ⟨w.heap.size, 0, none⟩ = some (.int .i64 0) := by rw [cell_of_row w1 w.heap.size 0 _ _ _ hbox1]; rfl
  have y1 : w1.cell? ⟨w.heap.size, 1, none⟩ = some (.slice none 0 0) := by rw [cell_of_row w1 w.heap.size 1 _ _ _ hbox1]; rfl
  have f0 := frozen_of_row w1 w.heap.size 0 _ _ hbox1
  have f1 := frozen_of_row w1 w.heap.size 1 _ _ hbox1
  have hkk : recOf d.img at_ end_ = ((hd.getD 1 0).toNat, ((secsOf d.img at_ (secs ll)).drop 10).take ll) := hro
  have hn0 := (hd.getD 0 0).toNat_lt
  have hn1 := (hd.getD 1 0).toNat_lt
  have hlw : IntKind.i64.wrap (ll : Int) = (ll : Int) := by rw [IntKind.wrap_i64]; omega
  rw [hkk] at hrp
  replace hks0 : ks0 = secs ll := by rw [hll]; exact hks0
  have hss : secs ll ≤ 100000000 := by unfold secs; omega
  have hsl : 10 + ll ≤ 64 * secs ll := secs_le ll
  subst hks0
  generalize hks : secs ll = ks at *
  generalize (hd.getD 0 0).toNat = k0 at *
  generalize (hd.getD 1 0).toNat = k1 at *
  clear hro hkk hq4
  replace hll := Go.Lib.hid hll
  replace hhd := Go.Lib.hid hhd
  replace hw1 := Go.Lib.hid hw1
  replace hs1 := Go.Lib.hid hs1
  have hKS := sectors_walk' w1 ll (by omega)
  rw [hks] at hKS
  replace hks := Go.Lib.hid hks
  have hw3 : IntKind.i64.wrap ((at_ : Int) + (ks : Int)) = ((at_ + ks : Nat) : Int) := by rw [IntKind.wrap_i64]; omega
  have hB01 : Below w.heap.size w w1 := hB0.trans (hB1.mono hB0.size)
  rw [if_pos hbad] at hrp
  rw [hrp] at hrp0
  subst hrp0
  clear hrp
  by_cases a1 : k0 = 82
  · subst a1
    by_cases a2 : k1 = 0
    · subst a2
      go_wp2_with (first
        | (go_at_call 59; go_must (refine hKS.mono ?_); rintro e w' ⟨rfl, rfl⟩)
        | (go_at_call 42; go_must (refine HR.mono ?_); rintro e w' ⟨rfl, rfl⟩)
        | (go_at_call 92; go_must (refine HN.mono ?_); rintro e w' ⟨rfl, rfl⟩))
      try simp only [Exit.inBlock, Exit.then]
      refine bodyPost_ret (Go.Proofs.YtggogenhakdhiaaDoorW.PrintWords.results_ctt rfl _ _ w.heap.size _ _ _ _ rfl (Go.Proofs.YtggogenhakdhiaaDoorW.PrintWords.blk_set (Go.Proofs.YtggogenhakdhiaaDoorW.PrintWords.blk_set hbox1 0 _) 1 _) Tryd.underlying50 rfl (by kernel_rfl)) rfl ?_
      exact ⟨0, none, 0, 0, 0, rfl, (by intro q hq; cases hq), (hB01.setCell (Nat.le_refl _) _).setCell (Nat.le_refl _) _⟩
    · have a2' : ((k1 : Int) == 0) = false := by simp; omega
      by_cases a3 : ll > 262144
      · clear hbad
        go_wp2_with (first
          | (go_at_call 59; go_must (refine hKS.mono ?_); rintro e w' ⟨rfl, rfl⟩)
          | (go_at_call 42; go_must (refine HR.mono ?_); rintro e w' ⟨rfl, rfl⟩)
          | (go_at_call 92; go_must (refine HN.mono ?_); rintro e w' ⟨rfl, rfl⟩))
        try simp only [Exit.inBlock, Exit.then]
        refine bodyPost_ret (Go.Proofs.YtggogenhakdhiaaDoorW.PrintWords.results_ctt rfl _ _ w.heap.size _ _ _ _ rfl (Go.Proofs.YtggogenhakdhiaaDoorW.PrintWords.blk_set (Go.Proofs.YtggogenhakdhiaaDoorW.PrintWords.blk_set hbox1 0 _) 1 _) Tryd.underlying50 rfl (by kernel_rfl)) rfl ?_
        exact ⟨0, none, 0, 0, 0, rfl, (by intro q hq; cases hq), (hB01.setCell (Nat.le_refl _) _).setCell (Nat.le_refl _) _⟩
      · have a4 : at_ + ks > end_ := by omega
        have a3' : ¬ 262144 < ll := by omega
        clear hbad
        go_wp2_with (first
          | (go_at_call 59; go_must (refine hKS.mono ?_); rintro e w' ⟨rfl, rfl⟩)
          | (go_at_call 42; go_must (refine HR.mono ?_); rintro e w' ⟨rfl, rfl⟩)
          | (go_at_call 92; go_must (refine HN.mono ?_); rintro e w' ⟨rfl, rfl⟩))
        try simp only [Exit.inBlock, Exit.then]
        refine bodyPost_ret (Go.Proofs.YtggogenhakdhiaaDoorW.PrintWords.results_ctt rfl _ _ w.heap.size _ _ _ _ rfl (Go.Proofs.YtggogenhakdhiaaDoorW.PrintWords.blk_set (Go.Proofs.YtggogenhakdhiaaDoorW.PrintWords.blk_set hbox1 0 _) 1 _) Tryd.underlying50 rfl (by kernel_rfl)) rfl ?_
        exact ⟨0, none, 0, 0, 0, rfl, (by intro q hq; cases hq), (hB01.setCell (Nat.le_refl _) _).setCell (Nat.le_refl _) _⟩
  · clear hbad
    go_wp2_with (first
      | (go_at_call 59; go_must (refine hKS.mono ?_); rintro e w' ⟨rfl, rfl⟩)
      | (go_at_call 42; go_must (refine HR.mono ?_); rintro e w' ⟨rfl, rfl⟩)
      | (go_at_call 92; go_must (refine HN.mono ?_); rintro e w' ⟨rfl, rfl⟩))
    try simp only [Exit.inBlock, Exit.then]
    refine bodyPost_ret (Go.Proofs.YtggogenhakdhiaaDoorW.PrintWords.results_ctt rfl _ _ w.heap.size _ _ _ _ rfl (Go.Proofs.YtggogenhakdhiaaDoorW.PrintWords.blk_set (Go.Proofs.YtggogenhakdhiaaDoorW.PrintWords.blk_set hbox1 0 _) 1 _) Tryd.underlying50 rfl (by kernel_rfl)) rfl ?_
    exact ⟨0, none, 0, 0, 0, rfl, (by intro q hq; cases hq), (hB01.setCell (Nat.le_refl _) _).setCell (Nat.le_refl _) _⟩
end Go.Proofs.YtggogenhakdhiaaDoor
end
section
set_option linter.unusedVariables false
set_option linter.unusedSimpArgs false
attribute [local go_sem ↓] Go.wp_at_zero Go.wp_at_succ
namespace Go.Proofs.YtggogenhakdhiaaDoor
open Go.RowKit

/-- bytes that grow: of the call's own, or a full row; where they lie -/
def Grow (w : World) (base : Nat) (v : Value) (l : List UInt8) : Prop :=
  OwnOr w base 5 v l ∧ ∃ g c, v = .slice (some ⟨g, 0, none⟩) l.length c ∧ l.length ≤ c ∧ c ≤ 9223372036854775807
/-- a record of the call's own, in a box of its own -/
def RecBox (w0 : World) (base k n : Nat) (l : List UInt8) (v : Value) (w : World) : Prop :=
  ∃ g A c, v = .pointer (some ⟨g, 0, none⟩) ∧ w.heap[g]? = some (.cells #[.int .i64 k, .slice A n c] 50 (0, 0)) ∧ w.ownsRow base 5 1 (.slice A n c) n (bv l) ∧ Below w0.heap.size w0 w ∧ w0.heap.size ≤ g
theorem keep_set2 {w : World} {g g0 i a b : Nat} {x y v : Value} (hne : g0 ≠ g) (h : w.cell? ⟨g0, i, none⟩ = some v) : ((w.setCell ⟨g, a, none⟩ x).setCell ⟨g, b, none⟩ y).cell? ⟨g0, i, none⟩ = some v := by
  have h1 : (⟨g, a, none⟩ : Addr) ≠ ⟨g0, i, none⟩ := fun e => hne (congrArg Addr.block e).symm
  have h2 : (⟨g, b, none⟩ : Addr) ≠ ⟨g0, i, none⟩ := fun e => hne (congrArg Addr.block e).symm
  exact (World.cell?_setCell_other _ _ _ _ h2).trans ((World.cell?_setCell_other _ _ _ _ h1).trans h)
theorem secsOf_head (img : List UInt8) (at_ k i : Nat) (hk : 1 ≤ k) (hi : i < 64) : (secsOf img at_ k).getD i 0 = (secOf img at_).getD i 0 := by
  unfold secsOf secOf
  rw [List.getD_eq_getElem?_getD, List.getD_eq_getElem?_getD, List.getElem?_take, List.getElem?_take, if_pos (by omega), if_pos hi]
theorem Grow.own {w : World} {base : Nat} {v : Value} {l : List UInt8} (h : w.ownsRow base 5 1 v l.length (bv l)) (hl : 0 < l.length) : Grow w base v l := by
  obtain ⟨g, c, hv, _, _, h1, h2, _⟩ := own_some h hl
  exact ⟨.inl h, g, c, hv, h1, h2⟩
set_option maxHeartbeats 4000000 in
set_option maxRecDepth 20000 in
theorem wread_ok (w : World) (g n : Nat) (sv tv : Value) (d : DS) (h : PDsk w g sv tv n d) (ht : TabAt w) (at_ end_ : Nat) (ha : at_ < end_) (he : end_ ≤ n) (hbad : ¬ (((secOf d.img at_).getD 0 0).toNat ≠ 82 ∨ ((secOf d.img at_).getD 1 0).toNat = 0 ∨ loadLen d.img at_ > 262144 ∨ at_ + secs (loadLen d.img at_) > end_)) :
    Calls Tryd.prog 45 #[.pointer (some ⟨g, 0, none⟩), .int .i64 at_, .int .i64 end_] w (RetRec w.heap.size (secs (loadLen d.img at_)) (readP d.img at_ end_) w) := by
  have hle := h.le
  have hB0 : Below w.heap.size w (w.alloc (.cells #[.int .i64 0, .slice none 0 0] 50)) := (Below.refl _ _).alloc (Nat.le_refl _) _
  have hbox := heap_alloc_new w (.cells #[.int .i64 0, .slice none 0 0] 50)
  have hz0 : w.heap.size < (w.alloc (.cells #[.int .i64 0, .slice none 0 0] 50)).heap.size := by simp
  obtain ⟨rp, hrp0⟩ : ∃ x, x = readP d.img at_ end_ := ⟨_, rfl⟩
  obtain ⟨ks0, hks0⟩ : ∃ x, x = secs (loadLen d.img at_) := ⟨_, rfl⟩
  rw [← hrp0, ← hks0]
  replace hks0 := Go.Lib.hid hks0
  go_enter Tryd.func45, Tryd.ntmps45
  go_upto_region 1 with fail
  have h0 := h.below hB0
  have ht0 := ht.below hB0
  have hl64 := secOf_length h.len (show at_ < n by omega)
  generalize w.alloc (.cells #[.int .i64 0, .slice none 0 0] 50) = W at *
  have HR := read_at W g n sv tv d at_ h0 (by omega)
  have hb1 := bys_sector W 84 (secOf d.img at_) hl64
  have hB1 : Below W.heap.size W (W.alloc (.cells (bv (secOf d.img at_)).toArray 84)) := (Below.refl _ _).alloc (Nat.le_refl _) _
  have hbox1 := (hB1.block w.heap.size hz0).trans hbox
  have hq4 : loadLen d.img at_ = num (((secOf d.img at_).drop 2).take 4) := rfl
  have hrp : readP d.img at_ end_ = if ((secOf d.img at_).getD 0 0).toNat ≠ 82 ∨ ((secOf d.img at_).getD 1 0).toNat = 0 ∨ loadLen d.img at_ > 262144 ∨ at_ + secs (loadLen d.img at_) > end_ then none
    else if secsOf d.img at_ (secs (loadLen d.img at_)) = packB (recOf d.img at_ end_).1 (recOf d.img at_ end_).2 then some (((recOf d.img at_ end_).1 : Int), (recOf d.img at_ end_).2) else none := rfl
  have hro : recOf d.img at_ end_ = (((secOf d.img at_).getD 1 0).toNat, ((secsOf d.img at_ (secs (loadLen d.img at_))).drop 10).take (loadLen d.img at_)) := rfl
  have hs1 := secsOf_one d.img at_
  obtain ⟨ll, hll⟩ : ∃ x, x = loadLen d.img at_ := ⟨_, rfl⟩
  rw [← hll] at hq4 hrp hro hbad
  obtain ⟨hd, hhd⟩ : ∃ x, x = secOf d.img at_ := ⟨_, rfl⟩
  rw [← hhd] at hq4 hrp hro hs1 hl64 hb1 hB1 HR hbox1 hbad
  generalize hw1 : W.alloc (.cells (bv hd).toArray 84) = w1 at *
  have HN := number_walk w1 _ 4 62 _ (hb1.cut 2 4 (by omega)) (by omega)
  rw [← hq4] at HN
  have hq32 : ll < 4294967296 := by rw [hq4]; have := num_lt ((hd.drop 2).take 4); rw [List.length_take, List.length_drop, hl64] at this; exact this
  obtain ⟨_, e0, x0⟩ := hb1.cell 0 (by omega)
  cases e0
  obtain ⟨_, e0, x1⟩ := hb1.cell 1 (by omega)
  cases e0
  rw [add_plain] at x0 x1
  have y0 : w1.cell? ⟨w.heap.size, 0, none⟩ = some (.int .i64 0) := by rw [cell_of_row w1 w.heap.size 0 _ _ _ hbox1]; rfl
  have y1 : w1.cell? ⟨w.heap.size, 1, none⟩ = some (.slice none 0 0) := by rw [cell_of_row w1 w.heap.size 1 _ _ _ hbox1]; rfl
  have f0 := frozen_of_row w1 w.heap.size 0 _ _ hbox1
  have f1 := frozen_of_row w1 w.heap.size 1 _ _ hbox1
  have hkk : recOf d.img at_ end_ = ((hd.getD 1 0).toNat, ((secsOf d.img at_ (secs ll)).drop 10).take ll) := hro
  have hn0 := (hd.getD 0 0).toNat_lt
  have hn1 := (hd.getD 1 0).toNat_lt
  have hlw : IntKind.i64.wrap (ll : Int) = (ll : Int) := by rw [IntKind.wrap_i64]; omega
  rw [hkk] at hrp
  replace hks0 : ks0 = secs ll := by rw [hll]; exact hks0
  have hss : secs ll ≤ 100000000 := by unfold secs; omega
  have hsl : 10 + ll ≤ 64 * secs ll := secs_le ll
  subst hks0
  generalize hks : secs ll = ks at *
  generalize (hd.getD 0 0).toNat = k0 at *
  generalize hk1e : (hd.getD 1 0).toNat = k1 at *
  replace hk1e := Go.Lib.hid hk1e
  clear hro hkk hq4
  replace hll := Go.Lib.hid hll
  replace hhd := Go.Lib.hid hhd
  replace hw1 := Go.Lib.hid hw1
  replace hs1 := Go.Lib.hid hs1
  have hKS := sectors_walk' w1 ll (by omega)
  rw [hks] at hKS
  replace hks := Go.Lib.hid hks
  have hw3 : IntKind.i64.wrap ((at_ : Int) + (ks : Int)) = ((at_ + ks : Nat) : Int) := by rw [IntKind.wrap_i64]; omega
  have hB01 : Below w.heap.size w w1 := hB0.trans (hB1.mono hB0.size)
  obtain ⟨b0, b1, b2, b3⟩ : k0 = 82 ∧ 0 < k1 ∧ ll ≤ 262144 ∧ at_ + ks ≤ end_ := by omega
  rw [if_neg hbad] at hrp
  clear hbad
  subst b0
  have a2' : ((k1 : Int) == 0) = false := by simp; omega
  have a3' : ¬ 262144 < ll := by omega
  have a4' : ¬ end_ < at_ + ks := by omega
  go_upto_region 5 with (first
    | (go_at_call 59; go_must (refine hKS.mono ?_); rintro e w' ⟨rfl, rfl⟩)
    | (go_at_call 42; go_must (refine HR.mono ?_); rintro e w' ⟨rfl, rfl⟩)
    | (go_at_call 92; go_must (refine HN.mono ?_); rintro e w' ⟨rfl, rfl⟩))
  have hS : ∀ x, Calls Tryd.prog 59 #[.int .i64 ll] x (fun e w' => e = .returned (.int .i64 (ks : Nat)) ∧ x = w') := by
    intro x
    have := sectors_walk' x ll (by omega)
    rw [show secs ll = ks from hks] at this
    exact this
  have hks1 : 1 ≤ ks := by rw [← show secs ll = ks from hks]; exact secs_pos ll
  have hG1 : Grow w1 W.heap.size (.slice (some ⟨W.heap.size, 0, none⟩) 64 64) (secsOf d.img at_ 1) := by
    rw [show secsOf d.img at_ 1 = hd from hs1]
    rw [← hl64]
    exact ⟨.inr ⟨_, rfl, by rw [hl64]; exact hb1⟩, _, _, rfl, Nat.le_refl _, by omega⟩
  have hsz := hB1.size
  have hW0 := hB0.size
  replace hrp := Go.Lib.hid hrp
  replace hrp0 := Go.Lib.hid hrp0
  clear HR HN hKS
  go_wp2
  go_loopw [9, 12] (fun v i wr => ∃ j : Nat, 1 ≤ j ∧ j ≤ ks ∧ i = .int .i64 j ∧ Grow wr W.heap.size v (secsOf d.img at_ j) ∧ Below W.heap.size W wr) (fun _ i _ => ks - (intOf i).toNat)
  case atStart => exact ⟨1, by omega, hks1, rfl, hG1, hB1⟩
  case round =>
    obtain ⟨j, hj1, hj2, rfl, ⟨hO, g0, c0, hv, hc1, hc2⟩, hBr⟩ := hrel
    subst hv
    have hlj := secsOf_length h.len (show at_ + j ≤ n by omega)
    rw [hlj] at hc1
    have hzr := hBr.size
    by_cases hlt : j < ks
    · have hh := h0.below hBr
      have HRj := read_at wr g n sv tv d (at_ + j) hh (by omega)
      have hls := secOf_length h.len (show at_ + j < n by omega)
      have hbj := bys_sector wr 84 (secOf d.img (at_ + j)) hls
      have hBj : Below wr.heap.size wr (wr.alloc (.cells (bv (secOf d.img (at_ + j))).toArray 84)) := (Below.refl _ _).alloc (Nat.le_refl _) _
      have hOj := hO.alloc (.cells (bv (secOf d.img (at_ + j))).toArray 84)
      have hBW := hBr.trans (hBj.mono hzr)
      have hsx := secsOf_succ d.img at_ j
      have hwj : IntKind.i64.wrap ((at_ : Int) + (j : Int)) = ((at_ + j : Nat) : Int) := by rw [IntKind.wrap_i64]; omega
      have hllj : (secsOf d.img at_ j ++ secOf d.img (at_ + j)).length = 64 * j + 64 := by rw [List.length_append, hlj, hls]
      replace hsx := Go.Lib.hid hsx
      generalize secOf d.img (at_ + j) = sj at *
      rw [hlj]
      replace hllj := Go.Lib.hid hllj
      replace hls := Go.Lib.hid hls
      have hzj := hBj.size
      go_wp2_with (first
        | (at_builtin; refine wpList_append_or (o := ⟨some 65, _, _, _, _, _⟩) W W.heap.size rfl (.tmp 63) (.tmp 64) 22 5 rfl Tryd.underlying22 info_b _ (secsOf d.img at_ j) (by rw [← hlj]; rfl) hOj (some ⟨wr.heap.size, 0, none⟩) 64 64 sj rfl hbj (by omega) hBW (Nat.le_trans hzr hzj) (by rw [hlj]; omega) ?_; intro v2 w2 hown2 hB2 hs2; rw [show (secsOf d.img at_ j).length + 64 = (secsOf d.img at_ j ++ sj).length by rw [show (secsOf d.img at_ j ++ sj).length = _ from hllj, hlj]] at hown2; have hG2 := Grow.own hown2 (by rw [show (secsOf d.img at_ j ++ sj).length = _ from hllj]; omega))
        | (go_at_call 59; go_must (refine (hS wr).mono ?_); rintro e w' ⟨rfl, rfl⟩)
        | (go_at_call 42; go_must (refine HRj.mono ?_); rintro e w' ⟨rfl, rfl⟩))
      go_roundw
      case rel => exact ⟨j + 1, by omega, hlt, by go_num, by rw [show secsOf d.img at_ (j + 1) = _ from hsx]; exact hG2, hB2⟩
      case measure => simp [intOf]; omega
    · have hjk : j = ks := by omega
      subst hjk
      rw [hlj]
      go_upto_region 10 with (go_at_call 59; go_must (refine (hS wr).mono ?_); rintro e w' ⟨rfl, rfl⟩)
      have hby : Bys wr (some ⟨g0, 0, none⟩) (64 * j) (secsOf d.img at_ j) := by
        obtain ⟨A, c, e, hb⟩ := hO.slice
        cases e
        rw [hlj] at hb
        exact hb
      have hk1b : ((secsOf d.img at_ j).getD 1 0).toNat = k1 := by
        rw [secsOf_head d.img at_ j 1 hj1 (by omega), ← show hd = secOf d.img at_ from hhd]
        exact hk1e
      obtain ⟨_, e1, z1⟩ := hby.cell 1 (by omega)
      cases e1
      rw [add_plain, hk1b] at z1
      have hsl2 : 10 + ll ≤ 64 * j := hsl
      generalize secsOf d.img at_ j = bb at *
      have hlw2 : IntKind.i64.wrap (10 + (ll : Int)) = ((10 + ll : Nat) : Int) := by rw [IntKind.wrap_i64]; omega
      have hc3 : (c0 : Int) ≤ 9223372036854775807 := by omega
      have hc4 : 10 + ll ≤ c0 := by omega
      have hlb : ((bb.drop 10).take ll).length = ll := by rw [List.length_take, List.length_drop, hlj]; omega
      have HC : ∀ x, Below wr.heap.size wr x → Calls Tryd.prog 94 #[.slice (some ⟨g0, 10, none⟩) ll (c0 - 10)] x (RetBys x.heap.size 5 ((bb.drop 10).take ll) x) :=
        fun x hx => clone_walk x ⟨g0, 10, none⟩ ll (c0 - 10) _ ((hby.below hx).cut 10 ll (by omega)) (by omega)
      replace hlb := Go.Lib.hid hlb
      replace hlj := Go.Lib.hid hlj
      replace hk1b := Go.Lib.hid hk1b
      generalize hld : (bb.drop 10).take ll = ld at *
      replace hld := Go.Lib.hid hld
      have hg0 : g0 < wr.heap.size := World.block_lt_of_cell? wr _ z1
      go_cut [15] from 66 to 82 (fun v wx => RecBox wr (w.heap.size + 1) k1 ll ld v wx)
      case first =>
        have hX := heap_alloc_new wr (.cells #[.int .i64 0, .slice none 0 0] 50)
        have hxs : (wr.alloc (.cells #[.int .i64 0, .slice none 0 0] 50)).heap.size = wr.heap.size + 1 := by simp
        have hdX : Below wr.heap.size wr (wr.alloc (.cells #[.int .i64 0, .slice none 0 0] 50)).drew := below_drew ((Below.refl _ _).alloc (Nat.le_refl _) _)
        have hgne : g0 ≠ wr.heap.size := Nat.ne_of_lt hg0
        have HC1 := HC wr.drew (below_drew (Below.refl _ _))
        have HC2 := HC _ hdX
        have hk1w : IntKind.i64.wrap (k1 : Int) = (k1 : Int) := by rw [IntKind.wrap_i64]; omega
        have hp1 : (1 : Int) < 64 * (j : Int) := by omega
        have hp2 : (0 : Int) ≤ 10 + (ll : Int) := by omega
        have hp3 : 10 + (ll : Int) ≤ (c0 : Int) := by omega
        have hp4 : (10 : Int) ≤ max (10 + (ll : Int)) 0 := by omega
        have hp5 : ¬ c0 = 10 := by omega
        have hp6 : (10 + (ll : Int)).toNat - 10 = ll := by omega
        clear HC hld hby hss hsl hks hw3 b3 a4' hS hc1 hlj hk1b hrp0 hB1 hb1 f0 f1 hk1e hll hhd hw1 hs1 hB01 h0 ht0 hB0 ht h hlw hl64 hq32 hn1 hO
        go_region_held_law (fun w' => w'.cell? ⟨g0, 1, none⟩ = some (.int .u8 k1)) (first | exact keep_set2 hgne z2 | go_keep | exact z2) ((first
          | (go_at_call 94; (with_reducible refine HC1.mono ?_); intro e w2 hR; obtain ⟨A2, c2, rfl, hown2, hB2⟩ := hR.len (show ld.length = ll from hlb); have z2 : w2.cell? ⟨g0, 1, none⟩ = some (.int .u8 k1) := (hB2.cell hg0).trans z1)
          | (go_at_call 94; (with_reducible refine HC2.mono ?_); intro e w2 hR; obtain ⟨A2, c2, rfl, hown2, hB2⟩ := hR.len (show ld.length = ll from hlb); have hg1 : g0 < (wr.alloc (.cells #[.int .i64 0, .slice none 0 0] 50)).drew.heap.size := (by show g0 < (wr.alloc _).heap.size; omega); have z2 : w2.cell? ⟨g0, 1, none⟩ = some (.int .u8 k1) := (hB2.cell hg1).trans (cell_below hdX z1); have hx2 := (hB2.block wr.heap.size (by show wr.heap.size < (wr.alloc _).heap.size; omega)).trans hX; have q0 := cell_of_row w2 wr.heap.size 0 _ _ _ hx2; have q1 := cell_of_row w2 wr.heap.size 1 _ _ _ hx2; have p0 := frozen_of_row w2 wr.heap.size 0 _ _ hx2; have p1 := frozen_of_row w2 wr.heap.size 1 _ _ hx2)))
        · go_wp2_with fail
          go_meet
          have hB2d : Below wr.heap.size wr w2 := (below_drew (Below.refl _ _)).trans hB2
          exact ⟨_, A2, c2, rfl, heap_alloc_new w2 _, (own_lo hown2 (by show w.heap.size + 1 ≤ wr.heap.size; omega)).alloc _, hB2d.alloc hB2d.size _, hB2d.size⟩
        · go_wp2_with fail
          go_meet
          have hB2d : Below wr.heap.size wr w2 := hdX.trans (hB2.mono (by show wr.heap.size ≤ (wr.alloc _).heap.size; omega))
          refine ⟨_, A2, c2, rfl, Go.Proofs.YtggogenhakdhiaaDoorW.PrintWords.blk_set (Go.Proofs.YtggogenhakdhiaaDoorW.PrintWords.blk_set hx2 0 _) 1 _, ?_, (hB2d.setCell (Nat.le_refl _) _).setCell (Nat.le_refl _) _, Nat.le_refl _⟩
          have hoo : ∀ k, (Value.slice A2 ll c2).ownBlock = some k → k ≠ wr.heap.size := by
            intro k hk
            have h1 := own_base hown2 k hk
            have h2 : (wr.alloc (.cells #[.int .i64 0, .slice none 0 0] 50)).drew.heap.size = wr.heap.size + 1 := hxs
            rw [h2] at h1
            omega
          exact own_at (own_at (own_lo hown2 (by show w.heap.size + 1 ≤ (wr.alloc _).heap.size; omega)) (fun k hk => heap_setCell_other _ _ _ _ (hoo k hk))) (fun k hk => heap_setCell_other _ _ _ _ (hoo k hk))
      case rest =>
        obtain ⟨gx, A2, c2, rfl, hbx, hown2, hB2, hgx⟩ := hcut
        have hBc : Below W.heap.size W wc := hBr.trans (hB2.mono hzr)
        have hB0c : Below w.heap.size w wc := hB0.trans (hBc.mono hW0)
        have hrb := (hBc.block w.heap.size hz0).trans hbox
        have xx0 := cell_of_row wc gx 0 _ _ _ hbx
        have xx1 := cell_of_row wc gx 1 _ _ _ hbx
        have r0 := cell_of_row wc w.heap.size 0 _ _ _ hrb
        have r1 := cell_of_row wc w.heap.size 1 _ _ _ hrb
        have f0' := frozen_of_row wc w.heap.size 0 _ _ hrb
        have f1' := frozen_of_row wc w.heap.size 1 _ _ hrb
        have hgne : gx ≠ w.heap.size := by omega
        have hwc : w.heap.size < wc.heap.size := (Array.getElem?_eq_some_iff.1 hrb).1
        have hlb' : ld.length = ll := hlb
        have hbl : Bys wc A2 ll ld := Bys.own hown2
        have hcd : Below wc.heap.size wc wc.drew := below_drew (Below.refl _ _)
        have hby2 : Bys wc (some ⟨g0, 0, none⟩) (64 * j) bb := hby.below hB2
        have HP : Calls Tryd.prog 61 #[.agg #[.int .i64 k1, .slice A2 ll c2]] wc.drew (RetBys wc.drew.heap.size 5 (packB k1 ld) wc.drew) := by
          have := pack_walk wc.drew k1 A2 c2 ld (by rw [hlb']; exact hbl.below hcd) (by omega) (by omega) ((ht.below hB0c).below hcd)
          rw [hlb'] at this
          exact this
        have hpl := packB_length k1 ld
        have hBcd : Below w.heap.size w wc.drew := hB0c.trans (below_drew (Below.refl _ _))
        have hrp1 : readP d.img at_ end_ = if bb = packB k1 ld then some ((k1 : Int), ld) else none := hrp
        have hrp2 : rp = readP d.img at_ end_ := hrp0
        have hrs : rp.isSome = decide (bb = packB k1 ld) := by
          rw [hrp2, hrp1]
          by_cases he : bb = packB k1 ld
          · rw [if_pos he, decide_eq_true he]; rfl
          · rw [if_neg he, decide_eq_false he]; rfl
        have hrq : ∀ q, rp = some q → q = ((k1 : Int), ld) := by
          intro q hq
          rw [hrp2, hrp1] at hq
          by_cases he : bb = packB k1 ld
          · rw [if_pos he] at hq; exact (Option.some.inj hq).symm
          · rw [if_neg he] at hq; cases hq
        generalize packB k1 ld = pk at *
        generalize 64 * secs ld.length = pn at *
        replace hpl := Go.Lib.hid hpl
        replace hlb' := Go.Lib.hid hlb'
        replace hrs := Go.Lib.hid hrs
        clear hrp hrp1 hrp0 hrp2 HC hby hss hsl hks hw3 b3 a4' hc1 hlj hbox hbox1 y0 y1 x0 x1 z1 hG1 r0 r1
        go_upto_region 11 with fail
        go_region_held_law (fun w' => w'.cell? ⟨gx, 0, none⟩ = some (.int .i64 k1) ∧ w'.cell? ⟨gx, 1, none⟩ = some (.slice A2 ll c2)) (first | go_keep | exact ⟨xx2, xx3⟩ | exact ⟨keep_set2 hgne xx2, keep_set2 hgne xx3⟩) ((first
          | (go_at_call 43; (with_reducible refine (equal_walk w3 _ _ (64 * j) pn _ _ bb pk (hby2.below hB3') hbp).mono ?_); rintro e w' ⟨rfl, rfl⟩)
          | (go_at_call 61; (with_reducible refine HP.mono ?_); intro e w3 hR; obtain ⟨A3, c3, rfl, hown3, hB3⟩ := hR.len (show pk.length = pn from hpl); have hB3' : Below wc.heap.size wc w3 := hcd.trans hB3; have hbp : Bys w3 A3 pn pk := Bys.own hown3; have xx2 := cell_below hB3' xx0; have xx3 := cell_below hB3' xx1; have hrb3 := (hB3'.block w.heap.size hwc).trans hrb; have q0 := cell_of_row w3 w.heap.size 0 _ _ _ hrb3; have q1 := cell_of_row w3 w.heap.size 1 _ _ _ hrb3; have p0 := frozen_of_row w3 w.heap.size 0 _ _ hrb3; have p1 := frozen_of_row w3 w.heap.size 1 _ _ hrb3)
          | (go_at_call 59; (with_reducible refine (hS _).mono ?_); rintro e w' ⟨rfl, rfl⟩)))
        go_wp2_with fail
        try simp only [Exit.inBlock, Exit.then]
        refine bodyPost_ret (Go.Proofs.YtggogenhakdhiaaDoorW.PrintWords.results_ctt rfl _ _ w.heap.size _ _ _ _ rfl (Go.Proofs.YtggogenhakdhiaaDoorW.PrintWords.blk_set (Go.Proofs.YtggogenhakdhiaaDoorW.PrintWords.blk_set hrb3 0 _) 1 _) Tryd.underlying50 rfl (by kernel_rfl)) rfl ?_
        have hB3w : Below w.heap.size w w3 := hB0c.trans (hB3'.mono (Nat.le_of_lt hwc))
        refine ⟨(k1 : Int), A2, ll, c2, (j : Int), by rw [show rp.isSome = _ from hrs]; rfl, fun q hq => ?_, (hB3w.setCell (Nat.le_refl _) _).setCell (Nat.le_refl _) _⟩
        rw [hrq q hq]
        refine ⟨rfl, (show ld.length = ll from hlb').symm, rfl, ?_⟩
        have hoo : ∀ k, (Value.slice A2 ll c2).ownBlock = some k → k ≠ w.heap.size := by
          intro k hk
          have h1 := own_base hown2 k hk
          omega
        exact own_at (own_at (own_lo (own_below hown2 hB3') (Nat.le_succ _)) (fun k hk => heap_setCell_other _ _ _ _ (hoo k hk))) (fun k hk => heap_setCell_other _ _ _ _ (hoo k hk))
set_option maxHeartbeats 400000 in
theorem wread_walk (w : World) (g n : Nat) (sv tv : Value) (d : DS) (h : PDsk w g sv tv n d) (ht : TabAt w) (at_ end_ : Nat) (ha : at_ < end_) (he : end_ ≤ n) :
    Calls Tryd.prog 45 #[.pointer (some ⟨g, 0, none⟩), .int .i64 at_, .int .i64 end_] w (RetRec w.heap.size (secs (loadLen d.img at_)) (readP d.img at_ end_) w) := by
  by_cases hbad : ((secOf d.img at_).getD 0 0).toNat ≠ 82 ∨ ((secOf d.img at_).getD 1 0).toNat = 0 ∨ loadLen d.img at_ > 262144 ∨ at_ + secs (loadLen d.img at_) > end_
  · exact wread_bad w g n sv tv d h ht at_ end_ ha he hbad
  · exact wread_ok w g n sv tv d h ht at_ end_ ha he hbad
end Go.Proofs.YtggogenhakdhiaaDoor
end
section
set_option linter.unusedVariables false
set_option linter.unusedSimpArgs false
namespace Go.Proofs.YtggogenhakdhiaaDoor
open Go.RowKit

/-- bytes of the call's own, in blocks of Z -/
structure OwnB (w : World) (Z : Nat → Prop) (A : Option Addr) (n c : Nat) (l : List UInt8) : Prop where
  own : w.ownsRow 0 5 1 (.slice A n c) n (bv l)
  in_ : ∀ k, (Value.slice A n c).ownBlock = some k → Z k
theorem OwnB.bys {w : World} {Z : Nat → Prop} {A : Option Addr} {n c : Nat} {l : List UInt8} (h : OwnB w Z A n c l) : Bys w A n l := Bys.own h.own
theorem OwnB.mk' {w : World} {base : Nat} {A : Option Addr} {n c : Nat} {l : List UInt8} (h : w.ownsRow base 5 1 (.slice A n c) n (bv l)) : OwnB w (fun k => base ≤ k) A n c l := ⟨own_lo h (Nat.zero_le _), fun k hk => own_base h k hk⟩
theorem OwnB.mono {w : World} {Z Z' : Nat → Prop} {A : Option Addr} {n c : Nat} {l : List UInt8} (h : OwnB w Z A n c l) (hz : ∀ k, k < w.heap.size → Z k → Z' k) : OwnB w Z' A n c l := ⟨h.own, fun k hk => hz k (own_lt h.own k hk) (h.in_ k hk)⟩
theorem OwnB.same {w w' : World} {Z : Nat → Prop} {A : Option Addr} {n c : Nat} {l : List UInt8} (h : OwnB w Z A n c l) (hb : ∀ k, k < w.heap.size → Z k → w'.heap[k]? = w.heap[k]?) : OwnB w' Z A n c l :=
  ⟨own_at h.own (fun j hj => hb j (own_lt h.own j hj) (h.in_ j hj)), h.in_⟩
/-- records of the call's own, in blocks of Z -/
structure RecsAt (T : TypeId) (w : World) (Z : Nat → Prop) (v : Value) (l : List (Int × List UInt8)) : Prop where
  ex : ∃ xs, w.ownsRow 0 T 2 v l.length xs ∧ ∀ i r, l[i]? = some r → ∃ A c, xs[2 * i]? = some (.int .i64 (r.1 : Int)) ∧ xs[2 * i + 1]? = some (.slice A r.2.length c) ∧ OwnB w Z A r.2.length c r.2
  in_ : ∀ k, v.ownBlock = some k → Z k
section
variable {T : TypeId} {w w' : World} {Z Z' : Nat → Prop} {v : Value} {l : List (Int × List UInt8)}
theorem RecsAt.nil (T : TypeId) (w : World) (Z : Nat → Prop) : RecsAt T w Z (.slice none 0 0) [] := ⟨⟨[], World.ownsRow_nil w 0 T 2, fun i r h => by simp at h⟩, fun k hk => by simp [Value.ownBlock] at hk⟩
theorem RecsAt.slice (h : RecsAt T w Z v l) : ∃ A c, v = .slice A l.length c := by
  obtain ⟨xs, ho, _⟩ := h.ex
  exact own_slice ho
theorem RecsAt.lt (h : RecsAt T w Z v l) : ∀ k, v.ownBlock = some k → k < w.heap.size := by
  obtain ⟨xs, ho, _⟩ := h.ex
  exact own_lt ho
theorem RecsAt.mono (h : RecsAt T w Z v l) (hz : ∀ k, k < w.heap.size → Z k → Z' k) : RecsAt T w Z' v l := by
  obtain ⟨xs, ho, hx⟩ := h.ex
  refine ⟨⟨xs, ho, fun i r hr => ?_⟩, fun k hk => hz k (own_lt ho k hk) (h.in_ k hk)⟩
  obtain ⟨A, c, h1, h2, h3⟩ := hx i r hr
  exact ⟨A, c, h1, h2, h3.mono hz⟩
theorem RecsAt.same (h : RecsAt T w Z v l) (hb : ∀ k, k < w.heap.size → Z k → w'.heap[k]? = w.heap[k]?) : RecsAt T w' Z v l := by
  obtain ⟨xs, ho, hx⟩ := h.ex
  refine ⟨⟨xs, own_at ho (fun j hj => hb j (own_lt ho j hj) (h.in_ j hj)), fun i r hr => ?_⟩, h.in_⟩
  obtain ⟨A, c, h1, h2, h3⟩ := hx i r hr
  exact ⟨A, c, h1, h2, h3.same hb⟩
theorem RecsAt.below (h : RecsAt T w Z v l) (hb : Below w.heap.size w w') : RecsAt T w' Z v l := h.same fun k hk _ => hb.block k hk
theorem RecsAt.chg {S : Nat → Prop} (h : RecsAt T w Z v l) (hc : Chg S w w') (hS : ∀ k, Z k → ¬ S k) : RecsAt T w' Z v l := h.same fun k hk hz => hc.block k hk (hS k hz)
/-- a block of another type is none of its blocks -/
theorem OwnB.ne {A : Option Addr} {n c : Nat} {m : List UInt8} (h : OwnB w Z A n c m) {g : Nat} {cs : Array Value} {t : TypeId} (hg : w.heap[g]? = some (.cells cs t (0, 0))) (ht : 5 ≠ t) : OwnB w (fun k => Z k ∧ k ≠ g) A n c m :=
  ⟨h.own, fun k hk => ⟨h.in_ k hk, fun e => own_blk_ne h.own hg ht (by rw [hk, e])⟩⟩
theorem RecsAt.ne (h : RecsAt T w Z v l) {g : Nat} {cs : Array Value} {t : TypeId} (hg : w.heap[g]? = some (.cells cs t (0, 0))) (ht : 5 ≠ t) (hT : T ≠ t) : RecsAt T w (fun k => Z k ∧ k ≠ g) v l := by
  obtain ⟨xs, ho, hx⟩ := h.ex
  refine ⟨⟨xs, ho, fun i r hr => ?_⟩, fun k hk => ⟨h.in_ k hk, fun e => own_blk_ne ho hg hT (by rw [hk, e])⟩⟩
  obtain ⟨A, c, h1, h2, h3⟩ := hx i r hr
  exact ⟨A, c, h1, h2, h3.ne hg ht⟩
theorem RecsAt.set (h : RecsAt T w Z v l) {g : Nat} {cs : Array Value} {t : TypeId} (hg : w.heap[g]? = some (.cells cs t (0, 0))) (ht : 5 ≠ t) (hT : T ≠ t) (i : Nat) (u : Value) : RecsAt T (w.setCell ⟨g, i, none⟩ u) Z v l :=
  ((h.ne hg ht hT).same (fun k _ hz => heap_setCell_other _ _ _ _ hz.2)).mono (fun _ _ hz => hz.1)
/-- the cells of a record -/
theorem RecsAt.cell (h : RecsAt T w Z v l) {i : Nat} {r : Int × List UInt8} (hr : l[i]? = some r) :
    ∃ g cap A c, v = .slice (some ⟨g, 0, none⟩) l.length cap ∧ w.cell? ⟨g, 2 * i, none⟩ = some (.int .i64 (r.1 : Int)) ∧ w.cell? ⟨g, 2 * i + 1, none⟩ = some (.slice A r.2.length c) ∧ OwnB w Z A r.2.length c r.2 := by
  obtain ⟨xs, ho, hx⟩ := h.ex
  obtain ⟨A, c, h1, h2, h3⟩ := hx i r hr
  have hl : i < l.length := (List.getElem?_eq_some_iff.1 hr).1
  obtain ⟨g, cap, hv, _, _⟩ := ho.form (by omega)
  have k1 := ho.cells (g := g) (by rw [hv]; rfl) (2 * i) _ h1
  have k2 := ho.cells (g := g) (by rw [hv]; rfl) (2 * i + 1) _ h2
  rw [add_plain] at k1 k2
  exact ⟨g, cap, A, c, hv, k1, k2, h3⟩
theorem RecsAt.cap (h : RecsAt T w Z v l) : ∃ A c, v = .slice A l.length c ∧ l.length ≤ c ∧ c ≤ 9223372036854775807 := by
  obtain ⟨xs, ho, _⟩ := h.ex
  rcases ho.2 with ⟨rfl, h0⟩ | ⟨g, cap, cur, rfl, _, _, h1, h2, _⟩
  · exact ⟨none, 0, by rw [h0], by omega, by omega⟩
  · exact ⟨_, cap, rfl, h1, by simpa only [maxLen] using h2⟩
/-- one record in a new block -/
theorem RecsAt.one {T : TypeId} {w : World} {Z : Nat → Prop} {k : Int} {A : Option Addr} {c : Nat} {l : List UInt8} (h : OwnB w Z A l.length c l) :
    RecsAt T (w.alloc (.cells #[.int .i64 k, .slice A l.length c] T)) (fun j => Z j ∨ w.heap.size ≤ j) (.slice (some ⟨w.heap.size, 0, none⟩) 1 1) [(k, l)] := by
  refine ⟨⟨[.int .i64 k, .slice A l.length c], ?_, fun i r hr => ?_⟩, fun j hj => ?_⟩
  · have := World.ownsRow_lit (base := 0) (e := T) (size := 2) w #[.int .i64 k, .slice A l.length c] 1 (Nat.zero_le _) (by simp only [maxLen]; omega) rfl
    simpa using this
  · rcases i with _ | i
    · simp only [List.getElem?_cons_zero, Option.some.injEq] at hr
      subst hr
      exact ⟨A, c, rfl, rfl, (h.same (w' := w.alloc _) (fun k hk _ => Below.heap_alloc w _ k hk)).mono (fun j _ hz => .inl hz)⟩
    · simp at hr
  · have : w.heap.size = j := by simpa [Value.ownBlock] using hj
    exact .inr (by omega)
theorem recInfo_parts {P : Program} {T : TypeId} {z : Value} {s b : Nat} (hinfo : (P.info? T).map (fun i => (i.zero, i.size, i.bytes)) = some (some z, s, b)) : ∃ i0, P.info? T = some i0 ∧ i0.zero = some z ∧ i0.size = s ∧ i0.bytes = b := by
  obtain ⟨i0, hi, hzz⟩ := Option.map_eq_some_iff.1 hinfo
  simp only [Prod.mk.injEq] at hzz
  exact ⟨i0, hi, hzz.1, hzz.2.1, hzz.2.2⟩
/-- append(recs, recs...) -/
theorem run_append_recs {P : Program} {t T : TypeId} (hT : T ≠ 5) (ht : P.underlying t = some (.slice T)) (hinfo : (P.info? T).map (fun i => (i.zero, i.size, i.bytes)) = some (some (.agg #[.int .i64 0, .slice none 0 0]), 2, 32)) (ty : TypeId)
    (h : RecsAt T w Z v l) {v2 : Value} {Z2 : Nat → Prop} {l2 : List (Int × List UInt8)} (h2 : RecsAt T w Z2 v2 l2) (hl : l.length + l2.length ≤ 4000000000000) :
    ∃ v' w', (Builtin.append_ #[t, t] ty #[v, v2]).run P w = .ok v' w' ∧ RecsAt T w' (fun k => Z k ∨ Z2 k ∨ w.heap.size ≤ k) v' (l ++ l2) ∧ w.grownBy w' v.ownBlock ∧ (v'.ownBlock = v.ownBlock ∨ v'.ownBlock = some w.heap.size) := by
  obtain ⟨i0, hi, hz0, hz1, hz2⟩ := recInfo_parts hinfo
  obtain ⟨xs, ho, hx⟩ := h.ex
  obtain ⟨ys, ho2, hy⟩ := h2.ex
  have hlx : xs.length = 2 * l.length := by have := ho.1; omega
  have hly : ys.length = 2 * l2.length := by have := ho2.1; omega
  have keep : ∀ {w' : World} {A : Option Addr} {c n : Nat} {m : List UInt8} {Y : Nat → Prop}, w.grownBy w' v.ownBlock → OwnB w Y A n c m → OwnB w' Y A n c m := by
    intro w' A c n m Y hg hb
    refine ⟨hb.own.kept hg ?_, hb.in_⟩
    rcases hb.own.2 with ⟨e, _⟩ | ⟨g, cap, cur, e, _, hh, _⟩
    · left; rw [e]; rfl
    · right
      intro he
      rw [e] at he
      have hv := he.symm
      rw [show (Value.slice (some ⟨g, 0, none⟩) n cap).ownBlock = some g by simp [Value.ownBlock]] at hv
      rcases ho.2 with ⟨e', _⟩ | ⟨g', cap', cur', e', _, hh', _⟩
      · rw [e'] at hv; simp [Value.ownBlock] at hv
      · rw [e'] at hv
        have hgg : g' = g := by simpa [Value.ownBlock] using hv
        subst hgg
        rw [hh] at hh'
        injection hh' with hh'
        injection hh' with _ hq
        exact hT hq.symm
  have both : ∀ {w' : World}, w.grownBy w' v.ownBlock → ∀ i r, (l ++ l2)[i]? = some r → ∃ A c, (xs ++ ys)[2 * i]? = some (.int .i64 (r.1 : Int)) ∧ (xs ++ ys)[2 * i + 1]? = some (.slice A r.2.length c) ∧ OwnB w' (fun k => Z k ∨ Z2 k ∨ w.heap.size ≤ k) A r.2.length c r.2 := by
    intro w' hg i r hr
    by_cases hi : i < l.length
    · rw [List.getElem?_append_left hi] at hr
      obtain ⟨A, c, e1, e2, e3⟩ := hx i r hr
      exact ⟨A, c, by rw [List.getElem?_append_left (by omega)]; exact e1, by rw [List.getElem?_append_left (by omega)]; exact e2, (keep hg e3).mono (fun _ _ hz => .inl hz)⟩
    · rw [List.getElem?_append_right (by omega)] at hr
      obtain ⟨A, c, e1, e2, e3⟩ := hy (i - l.length) r hr
      exact ⟨A, c, by rw [List.getElem?_append_right (by omega), hlx, show 2 * i - 2 * l.length = 2 * (i - l.length) by omega]; exact e1, by rw [List.getElem?_append_right (by omega), hlx, show 2 * i + 1 - 2 * l.length = 2 * (i - l.length) + 1 by omega]; exact e2, (keep hg e3).mono (fun _ _ hz => .inr (.inl hz))⟩
  rcases ho2.2 with ⟨rfl, h0⟩ | ⟨g2, cap2, cur2, rfl, _, hh2, hn2, hm2, _⟩
  · have hl0 : l2 = [] := List.eq_nil_of_length_eq_zero h0
    subst hl0
    have hrun : (Builtin.append_ #[t, t] ty #[v, .slice none 0 0]).run P w = .ok v w := by
      rcases ho.2 with ⟨rfl, _⟩ | ⟨g, cap, cur, rfl, _, _, hnc, _⟩
      · simp [Builtin.append_, run_underlying ht, sizeOf, typeInfo, hi, Builtin.lenOf, Builtin.firstCells]
      · simp [Builtin.append_, run_underlying ht, sizeOf, typeInfo, hi, Builtin.lenOf, Builtin.firstCells, hnc, storeCells]
    refine ⟨v, w, hrun, ?_, World.grownBy.refl w _, .inl rfl⟩
    rw [List.append_nil]
    exact h.mono (fun _ _ hz => .inl hz)
  · have hnews : ∀ j u, ys[j]? = some u → w.cell? ((⟨g2, 0, none⟩ : Addr).add j) = some u := ho2.cells (g := g2) (by simp [Value.ownBlock])
    have h1 : ∀ u ∈ ys, u.oneCell' = true := by
      intro u hu
      obtain ⟨j, hj, rfl⟩ := List.getElem_of_mem hu
      have hj2 : j / 2 < l2.length := by omega
      obtain ⟨A, c, e1, e2, _⟩ := hy (j / 2) _ (List.getElem?_eq_getElem hj2)
      rcases (show j = 2 * (j / 2) ∨ j = 2 * (j / 2) + 1 by omega) with e | e
      · rw [← e] at e1
        rw [List.getElem?_eq_getElem hj] at e1
        rw [Option.some.inj e1]; rfl
      · rw [← e] at e2
        rw [List.getElem?_eq_getElem hj] at e2
        rw [Option.some.inj e2]; rfl
    obtain ⟨v', w', hr, q2, q3, q4, q5⟩ := run_append_own_at (P := P) w 0 t ty T i0 (.agg #[.int .i64 0, .slice none 0 0]) 2 32 ht hi hz0 hz1 hz2 rfl (by omega) v l.length xs ho ⟨g2, 0, none⟩ l2.length cap2 ys (by omega) hnews h1 (by simp only [maxLen]; omega) (by omega) (Nat.zero_le _)
    refine ⟨v', w', hr, ⟨⟨xs ++ ys, by rw [List.length_append]; exact q2, both q3⟩, fun k hk => ?_⟩, q3, q5⟩
    rcases q5 with e | e
    · rw [e] at hk; exact .inl (h.in_ k hk)
    · rw [e] at hk; exact .inr (.inr (by have := Option.some.inj hk; omega))
theorem wpList_append_recs {P : Program} {ops : Array Oper} {rest : List Oper} {o : Oper} {a : Act} {Q : Exit → Act → World → Prop} (hgd : o.guard = none) (s x : Operand) (t T : TypeId)
    (ho : o.op = .call { callee := .builtin .append, args := #[s, x], argTypes := #[t, t] })
    (hT : T ≠ 5) (ht : P.underlying t = some (.slice T)) (hinfo : (P.info? T).map (fun i => (i.zero, i.size, i.bytes)) = some (some (.agg #[.int .i64 0, .slice none 0 0]), 2, 32))
    (hs : a.eval s = v) (h : RecsAt T w Z v l) {v2 : Value} {Z2 : Nat → Prop} {l2 : List (Int × List UInt8)} (hx : a.eval x = v2) (h2 : RecsAt T w Z2 v2 l2) (hl : l.length + l2.length ≤ 4000000000000)
    (hk : ∀ v1 w1, RecsAt T w1 (fun k => Z k ∨ Z2 k ∨ w.heap.size ≤ k) v1 (l ++ l2) → w.grownBy w1 v.ownBlock → wpList P ops Q rest (a.put o.dst v1) w1) :
    wpList P ops Q (o :: rest) a w := by
  obtain ⟨v', w', hr, r1, r2, _⟩ := run_append_recs hT ht hinfo o.type h h2 hl
  refine wpList_plain hgd fun K hK => ?_
  unfold Oper.wp execOp
  simp only [ho, resolve, invoke, builtin, Sem.run_bind, Sem.run_pure, Result.andThen_ok, List.map_toArray, List.map_cons, List.map_nil, hs, hx, hr]
  exact hK _ _ (hk v' w' r1 r2)
theorem step_append_recs {P : Program} {ops : Array Oper} {o : Oper} {a : Act} {K : Act → World → Prop} {Q : Exit → Act → World → Prop} {E : Prop} (hgd : o.guard = none) (s x : Operand) (t T : TypeId)
    (ho : o.op = .call { callee := .builtin .append, args := #[s, x], argTypes := #[t, t] })
    (hT : T ≠ 5) (ht : P.underlying t = some (.slice T)) (hinfo : (P.info? T).map (fun i => (i.zero, i.size, i.bytes)) = some (some (.agg #[.int .i64 0, .slice none 0 0]), 2, 32))
    (hs : a.eval s = v) (h : RecsAt T w Z v l) {v2 : Value} {Z2 : Nat → Prop} {l2 : List (Int × List UInt8)} (hx : a.eval x = v2) (h2 : RecsAt T w Z2 v2 l2) (hl : l.length + l2.length ≤ 4000000000000)
    (hk : ∀ v1 w1, RecsAt T w1 (fun k => Z k ∨ Z2 k ∨ w.heap.size ≤ k) v1 (l ++ l2) → w.grownBy w1 v.ownBlock → K (a.put o.dst v1) w1) :
    if Region.wanted o (yielded ops a.tmps) = true then Oper.wp P o a w K Q else E := by
  have hw : Region.wanted o (yielded ops a.tmps) = true := by simp [Region.wanted, hgd]
  rw [if_pos hw]
  obtain ⟨v', w', hr, r1, r2, _⟩ := run_append_recs hT ht hinfo o.type h h2 hl
  unfold Oper.wp execOp
  simp only [ho, resolve, invoke, builtin, Sem.run_bind, Sem.run_pure, Result.andThen_ok, List.map_toArray, List.map_cons, List.map_nil, hs, hx, hr]
  exact hk v' w' r1 r2
end
theorem info_rec : (Tryd.prog.info? 50).map (fun i => (i.zero, i.size, i.bytes)) = some (some (.agg #[.int .i64 0, .slice none 0 0]), 2, 32) := by kernel_rfl
theorem info_rrec : (Tryd.prog.info? 102).map (fun i => (i.zero, i.size, i.bytes)) = some (some (.agg #[.int .i64 0, .slice none 0 0]), 2, 32) := by kernel_rfl
end Go.Proofs.YtggogenhakdhiaaDoor
end
