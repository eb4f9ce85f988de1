/- The head of the log, both sides, walked. -/
import Derived.Test.YtggogenhakdhiaaDoorWalLit
import Derived.Test.YtggogenhakdhiaaDoorDskNew
import Derived.Test.YtggogenhakdhiaaDoorWZeros
import Derived.Lib.SlBytesConst
set_option linter.unusedVariables false
set_option linter.unusedSimpArgs false
namespace Go.Proofs.YtggogenhakdhiaaDoor
open Go.RowKit

/-- append(v, make([]byte, m)...) -/
theorem wpList_append_z {P : Program} {w : World} {ops : Array Oper} {rest : List Oper} {o : Oper} {a : Act} {Q : Exit → Act → World → Prop} (w0 : World) (base : Nat) (hgd : o.guard = none) (s x : Operand) (t ti e : TypeId)
    (ho : o.op = .call { callee := .builtin .append, args := #[s, x], argTypes := #[t, ti] })
    (ht : P.underlying t = some (.slice e)) {k : IntKind} (hti : P.underlying ti = some (.int k)) (hinfo : (P.info? e).map (fun i => (i.zero, i.size, i.bytes)) = some (some (.int .u8 0), 1, 1))
    (v : Value) (n : Nat) (xs : List Value) (hs : a.eval s = v) (hown : w.ownsRow base e 1 v n xs) (kx : IntKind) (m : Nat) (hx : a.eval x = .int kx m)
    (HB : Below base w0 w) (hbase : base ≤ w.heap.size) (hbytes : n + m ≤ 140737488355328)
    (h : ∀ v1 w1, w1.ownsRow base e 1 v1 (n + m) (xs ++ bv (List.replicate m 0)) → Below base w0 w1 → base ≤ w1.heap.size → wpList P ops Q rest (a.put o.dst v1) w1) :
    wpList P ops Q (o :: rest) a w := by
  obtain ⟨i0, hi, hzz⟩ := Option.map_eq_some_iff.1 hinfo
  simp only [Prod.mk.injEq] at hzz
  obtain ⟨hz0, hz1, hz2⟩ := hzz
  have hzc : (Builtin.zeroCells (Value.int .u8 0).cells m).toList = bv (List.replicate m 0) := by
    rw [show Builtin.zeroCells (Value.int .u8 0).cells m = madeCells (Value.int .u8 0).cells (m * 1) by unfold Builtin.zeroCells madeCells; rfl, show madeCells (Value.int .u8 0).cells (m * 1) = (bv (List.replicate (m * 1) 0)).toArray from made_zeros _ 1 (m * 1) rfl (by omega), Nat.mul_one]
  obtain ⟨v1, w1, hrun, hown1, hg, hat⟩ := Go.Proofs.YtggogenhakdhiaaDoorW.PrintWords.run_append_zeros (P := P) w base t ti o.type e i0 (.int .u8 0) 1 1 ht hti hi hz0 hz1 hz2 rfl (by omega) (by omega) v n xs hown kx m (by rw [hzc]; exact bv_one _) (by omega) hbase
  rw [hzc] at hown1
  refine wpList_plain hgd fun K hK => ?_
  unfold Oper.wp execOp
  simp only [ho, resolve, invoke, builtin, Sem.run_bind, Sem.run_pure, Result.andThen_ok, List.map_toArray, List.map_cons, List.map_nil, hs, hx, hrun]
  exact hK _ _ (h v1 w1 hown1 (HB.grown hg hbase (own_base hown)) (Nat.le_trans hbase hg.size))
theorem RetBys.len {B : Nat} {E : TypeId} {l : List UInt8} {w : World} {e : Ending} {w' : World} (h : RetBys B E l w e w') {n : Nat} (hl : l.length = n) : ∃ A c, e = .returned (.slice A n c) ∧ w'.ownsRow B E 1 (.slice A n c) n (bv l) ∧ Below B w w' := by
  subst hl; exact h
def magicB : List UInt8 := [98, 117, 114, 115, 97, 114, 45, 49]
def head16 (g : Nat) : List UInt8 := magicB ++ le g 8
/-- the sector 0 of a generation -/
def headB (g : Nat) : List UInt8 := head16 g ++ le (Crc.upd 0#32 (head16 g)).toNat 4 ++ List.replicate 44 0
theorem head16_length (g : Nat) : (head16 g).length = 16 := by unfold head16 magicB; rw [List.length_append, le_length]; rfl
theorem headB_length (g : Nat) : (headB g).length = 64 := by unfold headB; rw [List.length_append, List.length_append, head16_length, le_length, List.length_replicate]
theorem magic_cells : (#[Value.int .u8 98, .int .u8 117, .int .u8 114, .int .u8 115, .int .u8 97, .int .u8 114, .int .u8 45, .int .u8 49] : Array Value).toList = bv magicB := by simp [bv, magicB]
theorem bys_marked' (w : World) (e : TypeId) (cs : Array Value) (fr : Nat × Nat) (l : List UInt8) (hcs : cs.toList = bv l) (hm : l.length ≤ 9223372036854775807) : Bys (w.alloc (.cells cs e fr)) (some ⟨w.heap.size, 0, none⟩) l.length l :=
  ⟨rfl, hm, fun i hi => ⟨_, rfl, by
    have h := World.news_of_block (cs := cs) (t := e) (fr := fr) (heap_alloc_new w (.cells cs e fr)) i (.int .u8 ((l.getD i 0).toNat : Int)) (by
      rw [hcs, bv_getElem?, List.getD_eq_getElem?_getD, List.getElem?_eq_getElem hi]; rfl)
    exact h⟩⟩
def magicC : Array Value := #[.int .u8 98, .int .u8 117, .int .u8 114, .int .u8 115, .int .u8 97, .int .u8 114, .int .u8 45, .int .u8 49]
/-- []byte("bursar-1") -/
theorem magic_or (w : World) (base : Nat) : OwnOr (w.alloc (.cells magicC 5 (8, 9))) base 5 (.slice (some ⟨w.heap.size, 0, none⟩) 8 8) magicB :=
  .inr ⟨_, rfl, bys_marked' w 5 magicC (8, 9) magicB magic_cells (by simp [magicB])⟩
theorem un_u64 (b : BitVec 32) : (un b : Int) = ((b.toNat : Nat) : Int) := rfl
set_option maxHeartbeats 1000000 in
set_option maxRecDepth 20000 in
theorem rhead_walk (w : World) (g : Nat) (hg : g < 9223372036854775808) : Calls Tryd.prog 47 #[.int .i64 g] w (RetBys w.heap.size 5 (headB g) w) := by
  have hw : IntKind.u64.wrap (g : Int) = (g : Int) := by rw [IntKind.wrap_u64]; omega
  have hcv := Lib.run_convert_bytes_const (P := Tryd.prog) w 22 5 #[.int .u8 98, .int .u8 117, .int .u8 114, .int .u8 115, .int .u8 97, .int .u8 114, .int .u8 45, .int .u8 49] 8 8 Tryd.underlying22 Tryd.underlying5
  have hB0 : Below w.heap.size w (w.alloc (.cells magicC 5 (8, 9))) := (Below.refl _ _).alloc (Nat.le_refl _) _
  have H1 := low_walk (w.alloc (.cells magicC 5 (8, 9))) w.heap.size _ 8 magicB g 8 (magic_or w w.heap.size) (by omega) hB0.size (by omega) (by simp [magicB]) (by omega)
  go_enter Tryd.func47, Tryd.ntmps47
  go_upto_region 2 with (go_at_call 95; go_must (refine H1.mono ?_); rintro e w1 ⟨A1, c1, rfl, hown1, hB1⟩)
  have hB01 := hB0.trans hB1
  have hz1 := hB01.size
  have h16 : (magicB ++ le g 8).length = 16 := head16_length g
  rw [h16] at hown1
  have hby1 : Bys w1 A1 16 (head16 g) := Bys.own hown1
  have H2 := rsum_walk w1 A1 16 c1 (head16 g) hby1
  have hcl : (Crc.upd 0#32 (head16 g)).toNat < 18446744073709551616 := by have := (Crc.upd 0#32 (head16 g)).isLt; omega
  have H3 := low_walk w1 w.heap.size A1 c1 (head16 g) (Crc.upd 0#32 (head16 g)).toNat 4 (.inl (by rw [head16_length]; exact hown1)) (by omega) hz1 hcl (by rw [head16_length]; omega) (by omega)
  have h20 : (head16 g ++ le (Crc.upd 0#32 (head16 g)).toNat 4).length = 20 := by rw [List.length_append, head16_length, le_length]
  have hhd : headB g = (head16 g ++ le (Crc.upd 0#32 (head16 g)).toNat 4) ++ List.replicate 44 0 := rfl
  rw [head16_length] at H3
  generalize head16 g ++ le (Crc.upd 0#32 (head16 g)).toNat 4 = l20 at *
  replace h20 := Go.Lib.hid h20
  replace h16 := Go.Lib.hid h16
  clear hcv hB0 hB1 hby1
  go_upto_region 3 with (first
    | (go_at_call 96; go_must (refine H2.mono ?_); rintro e w2 ⟨rfl, rfl⟩; rw [un_u64])
    | (go_at_call 95; go_must (refine H3.mono ?_); intro e w2 hR; obtain ⟨A2, c2, rfl, hown2, hB2⟩ := hR.len (show l20.length = 20 from h20)))
  have hz2 := hB2.size
  have hz02 : w.heap.size ≤ w2.heap.size := by omega
  have hB02 := hB01.trans hB2
  clear H2 H3 hown1 hB2 hB01
  go_wp2_with (at_builtin; refine wpList_append_z (o := ⟨some 18, _, _, _, _, _⟩) w w.heap.size rfl (.tmp 14) (.tmp 17) 22 3 5 rfl Tryd.underlying22 Tryd.underlying3 info_b _ 20 (bv l20) rfl hown2 .i64 44 rfl hB02 hz02 (by omega) ?_; intro v3 w3 hown3 hB3 hs3)
  go_ret
  exact RetBys.of hown3 (by rw [hhd, bv_append]) hB3
/-- sixty-four zeros (under a name) -/
def zb64 : List UInt8 := List.replicate 64 0
theorem zb64_length : zb64.length = 64 := by unfold zb64; rw [List.length_replicate]
theorem madeb64 : madeCells (Value.int .u8 0).cells (64 * 1) = (bv zb64).toArray := made_zeros _ 1 64 rfl (by omega)
theorem zeros_walk (w : World) : Calls Tryd.prog 44 #[] w (RetBys w.heap.size 5 zb64 w) := by
  go_enter Tryd.func44, Tryd.ntmps44
  go_wp2_with (at_make; go_must (refine wpList_make (o := ⟨some 1, _, _, _, _, _⟩) rfl 22 5 (.const (.int .i64 64)) rfl 64 rfl (.int .u8 0) 1 1 Tryd.underlying22 info_b (by omega) (by omega) ?_; rw [madeb64]))
  go_ret
  exact RetBys.of (own_new w _ zb64 64 zb64_length (by omega)) rfl ((Below.refl _ _).alloc (Nat.le_refl _) _)
set_option maxHeartbeats 1000000 in
set_option maxRecDepth 20000 in
theorem head_walk (w : World) (g : Nat) (hg : g < 9223372036854775808) (ht : TabAt w) : Calls Tryd.prog 64 #[.int .i64 g] w (RetBys w.heap.size 5 (headB g) w) := by
  have hw : IntKind.u64.wrap (g : Int) = (g : Int) := by rw [IntKind.wrap_u64]; omega
  have hcv := Lib.run_convert_bytes_const (P := Tryd.prog) w 22 5 #[.int .u8 98, .int .u8 117, .int .u8 114, .int .u8 115, .int .u8 97, .int .u8 114, .int .u8 45, .int .u8 49] 8 8 Tryd.underlying22 Tryd.underlying5
  have hB0 : Below w.heap.size w (w.alloc (.cells magicC 5 (8, 9))) := (Below.refl _ _).alloc (Nat.le_refl _) _
  have H1 := little_walk (w.alloc (.cells magicC 5 (8, 9))) w.heap.size _ 8 magicB g 8 (magic_or w w.heap.size) (by omega) hB0.size (by omega) (by simp [magicB])
  go_enter Tryd.func64, Tryd.ntmps64
  go_upto_region 2 with (go_at_call 98; go_must (refine H1.mono ?_); rintro e w1 ⟨A1, c1, rfl, hown1, hB1⟩)
  have hB01 := hB0.trans hB1
  have hz1 := hB01.size
  have h16 : (magicB ++ le g 8).length = 16 := head16_length g
  rw [h16] at hown1
  have hby1 : Bys w1 A1 16 (head16 g) := Bys.own hown1
  have H2 := sum_walk w1 A1 16 c1 (head16 g) hby1 (ht.below hB01)
  have hcl : (Crc.upd 0#32 (head16 g)).toNat < 18446744073709551616 := by have := (Crc.upd 0#32 (head16 g)).isLt; omega
  have H3 := little_walk w1 w.heap.size A1 c1 (head16 g) (Crc.upd 0#32 (head16 g)).toNat 4 (.inl (by rw [head16_length]; exact hown1)) (by omega) hz1 hcl (by rw [head16_length]; omega)
  have h20 : (head16 g ++ le (Crc.upd 0#32 (head16 g)).toNat 4).length = 20 := by rw [List.length_append, head16_length, le_length]
  have hhd : headB g = (head16 g ++ le (Crc.upd 0#32 (head16 g)).toNat 4) ++ List.replicate 44 0 := rfl
  rw [head16_length] at H3
  generalize head16 g ++ le (Crc.upd 0#32 (head16 g)).toNat 4 = l20 at *
  replace h20 := Go.Lib.hid h20
  replace h16 := Go.Lib.hid h16
  clear hcv hB0 hB1 hby1
  go_upto_region 3 with (first
    | (go_at_call 100; go_must (refine H2.mono ?_); rintro e w2 ⟨rfl, rfl⟩; rw [un_u64])
    | (go_at_call 98; go_must (refine H3.mono ?_); intro e w2 hR; obtain ⟨A2, c2, rfl, hown2, hB2⟩ := hR.len (show l20.length = 20 from h20)))
  have hz2 := hB2.size
  have hz02 : w.heap.size ≤ w2.heap.size := by omega
  have hB02 := hB01.trans hB2
  clear H2 H3 hown1 hB2 hB01
  go_wp2_with (first
    | (go_at_call 44; go_must (refine (zeros_walk w2).mono ?_; intro e w3 hR; obtain ⟨A3, c3, rfl, hown3, hB3⟩ := hR.len zb64_length; obtain ⟨g3, c3', hv3, -, -, hc3, -, hx3⟩ := own_some hown3 (by omega); cases hv3; have hc20 : ¬ c3 = 20 := (by omega); have hci : (64 : Int) ≤ (c3 : Int) := (by omega); have hB03 := hB02.trans (hB3.mono hz02); have hz3 := hB3.size; have hown2' : w3.ownsRow w.heap.size 5 1 (.slice A2 20 c2) 20 (bv l20) := own_at hown2 (fun k hk => hB3.block k (own_lt hown2 k hk)); have hb44 := (Bys.own hown3).drop_plain 20 44 rfl (by omega); rw [show zb64.drop 20 = List.replicate 44 0 by unfold zb64; rw [List.drop_replicate]] at hb44))
    | (at_builtin; refine wpList_append_bys (o := ⟨some 19, _, _, _, _, _⟩) w w.heap.size rfl (.tmp 14) (.tmp 18) 22 5 rfl Tryd.underlying22 info_b _ 20 (bv l20) rfl hown2' _ 44 _ (List.replicate 44 0) rfl hb44 hB03 (by omega) (by omega) ?_; intro v4 w4 hown4 hB4 hg4 hat4 hs4))
  go_ret
  exact RetBys.of hown4 (by rw [hhd, bv_append]) hB4
end Go.Proofs.YtggogenhakdhiaaDoor
