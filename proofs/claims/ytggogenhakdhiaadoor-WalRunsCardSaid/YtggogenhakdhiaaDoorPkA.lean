/- New disks, the program's way and the document's. (ahead of it: Words for memory: slices of bytes that read as lists, slices of the call's own, and what a call leaves as it was. A law's row out of its walk: whatever the arguments are, a call that answers true and leaves all that was there as it was meets the row. The plain side of the check sum: half a byte at a time by the table is eight bits at a time; what a burst does. The walks of the check sum: the program's Update by its table and the document's, bit by bit, come to the same function. The table of the check sum in the rows' words; the arguments opened. Numbers in bytes, the lowest first: what the log's little, number and the document's low, high reckon. append onto a row of bytes that is full (a constant's bytes: marked, and not the call's own to grow in): a new row. The sums, called in a region whose order is open. The log's small functions on bytes, both sides, walked. Disks in memory: the words that the walks of the disk's functions use, for the program's disk and the document's alike. The small functions of a disk, the program's and the document's, walked. A sector is read, the program's way and the document's. A sector is written: the plain side and the words for it. A sector is written, the program's way. Slices that read as lists, nil or not; append of one in a region whose order is open; numbers that are returned. What a clone is: A disk's clone, the program's way.) -/
import Derived.WalkKit
import Derived.KernelRfl
import Derived.Lib.Hide
import Derived.Maps.AppendAt
import Derived.Deep.AppendLies
import Derived.Laws.OwnMore
import Derived.Deep.Draws
import Derived.Laws.Rows
import Derived.Laws.BytesArg
import Derived.Laws.IdiomStrings
import Derived.Laws.AppendOwnNone
import Derived.Test.YtggogenhakdhiaaDoorRows
import Derived.ProofKit
import Derived.OpenShut
import Derived.WideKeyArgs
import Derived.Below
import Derived.Test.YtggogenhakdhiaaDoorProg
import Derived.Outline
import Derived.Deep.DeepMust
import Derived.Test.YtggogenhakdhiaaDoorCards
import Derived.Test.YtggogenhakdhiaaDoorTie
import Derived.Deep.DeepHandedRow
import Derived.Lib.LaidTab
import Derived.SizedLaws
import Derived.Laws.Bits64b
import Derived.Deep.QuietTactic
import Derived.BigQuiet
import Derived.Laws.CopyOwn
import Derived.Laws.Tables
import Derived.Deep.DeepCutAuto
import Derived.Deep.CutBlock
import Derived.ArgAppend
import Derived.RegionTactic
section
set_option linter.unusedVariables false
set_option linter.unusedSimpArgs false
namespace Go.Proofs.YtggogenhakdhiaaDoor
open Go.RowKit

/-! ### bytes -/
def bv (l : List UInt8) : List Value := l.map fun b => .int .u8 (b.toNat : Int)
theorem bv_length (l : List UInt8) : (bv l).length = l.length := by simp [bv]
theorem bv_append (l m : List UInt8) : bv (l ++ m) = bv l ++ bv m := by simp [bv]
theorem bv_getElem? (l : List UInt8) (i : Nat) : (bv l)[i]? = l[i]?.map fun b => .int .u8 (b.toNat : Int) := by simp [bv]
theorem bv_one (l : List UInt8) : ∀ u ∈ bv l, u.oneCell' = true := by
  intro u hu
  obtain ⟨b, _, rfl⟩ := List.mem_map.1 hu
  rfl
/-- bytes as a string -/
def str (l : List UInt8) : ByteArray := ⟨l.toArray⟩
theorem str_inj {l m : List UInt8} : str l = str m ↔ l = m := by
  constructor
  · intro h
    have := congrArg (fun b : ByteArray => b.data.toList) h
    simpa [str] using this
  · rintro rfl; rfl

/-- A slice of bytes that reads as a list; nil and empty ones too. -/
structure Bys (w : World) (A : Option Addr) (n : Nat) (l : List UInt8) : Prop where
  len : l.length = n
  max : n ≤ 9223372036854775807
  cell : ∀ i, i < n → ∃ ad, A = some ad ∧ w.cell? (ad.add i) = some (.int .u8 ((l.getD i 0).toNat : Int))
section
variable {w w' : World} {A : Option Addr} {n : Nat} {l : List UInt8}
theorem Bys.at_ (h : Bys w A n l) (k : Nat) (hk : k < n) :
    ∃ ad z, A = some ad ∧ z = ((l.getD k 0).toNat : Int) ∧ w.cell? (ad.add k) = some (.int .u8 z) ∧ 0 ≤ z ∧ z < 256 := by
  obtain ⟨ad, e, hc⟩ := h.cell k hk
  have := (l.getD k 0).toNat_lt
  exact ⟨ad, _, e, rfl, hc, by omega, by omega⟩
theorem Bys.keep (h : Bys w A n l) (hk : ∀ p v, w.cell? p = some v → w'.cell? p = some v) : Bys w' A n l :=
  ⟨h.len, h.max, fun i hi => by
    obtain ⟨ad, e, hc⟩ := h.cell i hi
    exact ⟨ad, e, hk _ _ hc⟩⟩
theorem cell_below {w w' : World} {p : Addr} {v : Value} (hb : Below w.heap.size w w') (h : w.cell? p = some v) : w'.cell? p = some v :=
  (hb.cell (World.block_lt_of_cell? w p h)).trans h
theorem Bys.below (h : Bys w A n l) (hb : Below w.heap.size w w') : Bys w' A n l := h.keep fun _ _ hc => cell_below hb hc
theorem Bys.nil (w : World) : Bys w none 0 [] := ⟨rfl, by omega, fun i hi => by omega⟩
theorem Bys.empty (w : World) (A : Option Addr) : Bys w A 0 [] := ⟨rfl, by omega, fun i hi => by omega⟩
/-- the head of it -/
theorem Bys.take (h : Bys w A n l) (k : Nat) (hk : k ≤ n) : Bys w A k (l.take k) :=
  ⟨by rw [List.length_take, h.len]; omega, by have := h.max; omega, fun i hi => by
    obtain ⟨ad, e, hc⟩ := h.cell i (by omega)
    refine ⟨ad, e, ?_⟩
    rw [hc, List.getD_eq_getElem?_getD, List.getD_eq_getElem?_getD, List.getElem?_take, if_pos hi]⟩
theorem Bys.string {P : Program} (h : Bys w A n l) {src e dst : TypeId} (hs : P.underlying src = some (.slice e)) (he : P.underlying e = some (.int .u8)) (hd : P.underlying dst = some .string) (c : Nat) :
    (convert src dst (.slice A n c)).run P w = .ok (.string (str l)) w := by
  rcases Nat.eq_zero_or_pos n with h0 | h0
  · subst h0
    have : l = [] := List.eq_nil_of_length_eq_zero h.len
    subst this
    cases A with
    | none => exact run_convert_bytes_nil w src e hs he 0 c dst hd
    | some ad => exact run_convert_bytes_back w src dst e ad c [] hs he hd (fun j hj => by simp at hj)
  · obtain ⟨ad, rfl, _⟩ := h.cell 0 h0
    have hl := h.len
    subst hl
    exact run_convert_bytes_back w src dst e ad c l hs he hd (fun j hj => by
      obtain ⟨ad', e', hc⟩ := h.cell j hj
      cases e'
      rw [hc, List.getD_eq_getElem?_getD, List.getElem?_eq_getElem hj]; rfl)
theorem Bys.news {ad : Addr} (h : Bys w (some ad) n l) : ∀ j u, (bv l)[j]? = some u → w.cell? (ad.add j) = some u := by
  intro j u hu
  rw [bv_getElem?] at hu
  obtain ⟨b, hb, rfl⟩ := Option.map_eq_some_iff.1 hu
  have hj : j < l.length := (List.getElem?_eq_some_iff.1 hb).1
  obtain ⟨ad', e', hc⟩ := h.cell j (by rw [← h.len]; exact hj)
  cases e'
  rw [hc, List.getD_eq_getElem?_getD, hb]; rfl
theorem Bys.of_own {base : Nat} {E : TypeId} {v : Value} (h : w.ownsRow base E 1 v n (bv l)) : ∃ A c, v = .slice A n c ∧ Bys w A n l := by
  have hl : l.length = n := by have := h.1; rw [bv_length] at this; omega
  rcases Nat.eq_zero_or_pos n with h0 | h0
  · subst h0
    have : l = [] := List.eq_nil_of_length_eq_zero hl
    subst this
    rcases h.2 with ⟨rfl, _⟩ | ⟨g, cap, cur, rfl, _⟩
    · exact ⟨none, 0, rfl, Bys.empty _ _⟩
    · exact ⟨_, cap, rfl, Bys.empty _ _⟩
  · obtain ⟨g, cap, rfl, _, _⟩ := h.form h0
    have hm : n ≤ 9223372036854775807 := by
      rcases h.2 with ⟨_, h1⟩ | ⟨g', cap', cur, he, _, _, h1, h2, _⟩
      · omega
      · simp only [maxLen] at h2; omega
    refine ⟨_, cap, rfl, hl, hm, fun j hj => ⟨_, rfl, h.cells (g := g) rfl j _ ?_⟩⟩
    rw [bv_getElem?, List.getD_eq_getElem?_getD, List.getElem?_eq_getElem (by omega)]; rfl
end

/-! ### a slice of the call's own -/
theorem own_lt {w : World} {base : Nat} {e : TypeId} {size n : Nat} {v : Value} {xs : List Value} (h : w.ownsRow base e size v n xs) (k : Nat) (hk : v.ownBlock = some k) : k < w.heap.size := by
  rcases h.2 with ⟨rfl, _⟩ | ⟨g, cap, cur, rfl, _, hh, _⟩
  · simp [Value.ownBlock] at hk
  · have : g = k := by simpa [Value.ownBlock] using hk
    subst this
    exact (Array.getElem?_eq_some_iff.1 hh).1
theorem own_base {w : World} {base : Nat} {e : TypeId} {size n : Nat} {v : Value} {xs : List Value} (h : w.ownsRow base e size v n xs) (k : Nat) (hk : v.ownBlock = some k) : base ≤ k := by
  rcases h.2 with ⟨rfl, _⟩ | ⟨g, cap, cur, rfl, hb, _⟩
  · simp [Value.ownBlock] at hk
  · have : g = k := by simpa [Value.ownBlock] using hk
    omega
theorem own_below {w w1 : World} {base : Nat} {e : TypeId} {size n : Nat} {v : Value} {xs : List Value} (h : w.ownsRow base e size v n xs) (hb : Below w.heap.size w w1) : w1.ownsRow base e size v n xs :=
  h.kept (row := none) ⟨hb.os, hb.tape, hb.output, hb.size, fun i hi _ => hb.block i hi⟩ (by cases v.ownBlock <;> simp)
theorem own_mono {w : World} {base base' : Nat} {e : TypeId} {size n : Nat} {v : Value} {xs : List Value} (h : w.ownsRow base e size v n xs) (hb : base' ≤ base) : w.ownsRow base' e size v n xs :=
  ⟨h.1, by
    rcases h.2 with h0 | ⟨g, cap, cur, h1, h2, h3⟩
    · exact .inl h0
    · exact .inr ⟨g, cap, cur, h1, Nat.le_trans hb h2, h3⟩⟩
theorem own_nil (w : World) (base : Nat) (e : TypeId) (size : Nat) : w.ownsRow base e size (.slice none 0 0) 0 [] := ⟨by simp, .inl ⟨rfl, rfl⟩⟩
/-- an empty literal -/
theorem own_empty (w : World) (base : Nat) (e : TypeId) (size g : Nat) (hb : base ≤ g) (hh : w.heap[g]? = some (.cells #[] e (0, 0))) : w.ownsRow base e size (.slice (some ⟨g, 0, none⟩) 0 0) 0 [] :=
  ⟨by simp, .inr ⟨g, 0, #[], rfl, hb, hh, by omega, by simp [maxLen], by simp, by simp⟩⟩

/-- append of a slice that reads as bytes onto one of the call's own: nil or not -/
theorem wpList_append_bys {P : Program} {w : World} {ops : Array Oper} {rest : List Oper} {o : Oper} {a : Act} {Q : Exit → Act → World → Prop} (w0 : World) (base : Nat) (hgd : o.guard = none) (s x : Operand) (t e : TypeId)
    (ho : o.op = .call { callee := .builtin .append, args := #[s, x], argTypes := #[t, t] })
    (ht : P.underlying t = some (.slice e)) (hinfo : (P.info? e).map (fun i => (i.zero, i.size, i.bytes)) = some (some (.int .u8 0), 1, 1))
    (v : Value) (n : Nat) (xs : List Value) (hs : a.eval s = v) (hown : w.ownsRow base e 1 v n xs)
    (A : Option Addr) (m c : Nat) (l : List UInt8) (hx : a.eval x = .slice A m c) (hl : Bys w A m l)
    (HB : Below base w0 w) (hbase : base ≤ w.heap.size) (hbytes : n + m ≤ 140737488355328)
    (h : ∀ v1 w1, w1.ownsRow base e 1 v1 (n + m) (xs ++ bv l) → Below base w0 w1 → w.grownBy w1 v.ownBlock → (v1.ownBlock = v.ownBlock ∨ v1.ownBlock = some w.heap.size) → base ≤ w1.heap.size → wpList P ops Q rest (a.put o.dst v1) w1) :
    wpList P ops Q (o :: rest) a w := by
  obtain ⟨i0, hi, hzz⟩ := Option.map_eq_some_iff.1 hinfo
  simp only [Prod.mk.injEq] at hzz
  obtain ⟨hz0, hz1, hz2⟩ := hzz
  cases A with
  | none =>
    have hm : m = 0 := by
      rcases Nat.eq_zero_or_pos m with h0 | h0
      · exact h0
      · obtain ⟨ad, e', _⟩ := hl.cell 0 h0
        cases e'
    subst hm
    have : l = [] := List.eq_nil_of_length_eq_zero hl.len
    subst this
    refine wpList_plain hgd fun K hK => ?_
    have hrun : (Builtin.append_ #[t, t] o.type #[v, .slice none 0 c]).run P w = .ok v w := by
      rcases hown.2 with ⟨rfl, rfl⟩ | ⟨g, cap, cur, rfl, _, _, hnc, _⟩
      · simp [Builtin.append_, run_underlying ht, sizeOf, typeInfo, hi, Builtin.lenOf, Builtin.firstCells]
      · simp [Builtin.append_, run_underlying ht, sizeOf, typeInfo, hi, Builtin.lenOf, Builtin.firstCells, hnc, storeCells]
    unfold Oper.wp execOp
    simp only [ho, resolve, invoke, builtin, Sem.run_bind, Sem.run_pure, Result.andThen_ok, List.map_toArray, List.map_cons, List.map_nil, hs, hx, hrun]
    exact hK _ _ (h v w (by simpa [bv] using hown) HB (World.grownBy.refl w _) (.inl rfl) hbase)
  | some ad =>
    refine wpList_append_own_at w hgd s x t ho base e i0 (.int .u8 0) 1 1 ht hi hz0 hz1 hz2 rfl (by omega) v n xs hs hown ad m c (bv l) hx (by rw [bv_length, hl.len]; omega) hl.news (bv_one l)
      (by simp only [maxLen]; omega) (by omega) hbase ?_
    intro v1 w1 hown1 hg _ hat
    exact h v1 w1 hown1 (HB.grown hg hbase (own_base hown)) hg hat (Nat.le_trans hbase hg.size)
/-- a new block of bytes -/
theorem Bys.new (w : World) (e : TypeId) (cs : Array Value) (l : List UInt8) (hcs : cs.toList = bv l) (hm : l.length ≤ 9223372036854775807) : Bys (w.alloc (.cells cs e)) (some ⟨w.heap.size, 0, none⟩) l.length l :=
  ⟨rfl, hm, fun i hi => ⟨_, rfl, by
    have h := World.news_of_block (cs := cs) (t := e) (fr := (0, 0)) (heap_alloc_new w (.cells cs e)) i (.int .u8 ((l.getD i 0).toNat : Int)) (by
      rw [hcs, bv_getElem?, List.getD_eq_getElem?_getD, List.getElem?_eq_getElem hi]; rfl)
    exact h⟩⟩
/-- new bytes are returned -/
def RetBys (B : Nat) (E : TypeId) (l : List UInt8) (w : World) (e : Ending) (w' : World) : Prop :=
  ∃ A c, e = .returned (.slice A l.length c) ∧ w'.ownsRow B E 1 (.slice A l.length c) l.length (bv l) ∧ Below B w w'
theorem own_slice {w : World} {base n : Nat} {e : TypeId} {size : Nat} {v : Value} {xs : List Value} (h : w.ownsRow base e size v n xs) : ∃ A c, v = .slice A n c := by
  rcases h.2 with ⟨rfl, rfl⟩ | ⟨g, cap, cur, rfl, _⟩
  · exact ⟨none, 0, rfl⟩
  · exact ⟨_, cap, rfl⟩
theorem RetBys.of {B : Nat} {E : TypeId} {l : List UInt8} {w w' : World} {v : Value} {n : Nat} {xs : List Value} (h : w'.ownsRow B E 1 v n xs) (hx : xs = bv l) (hb : Below B w w') : RetBys B E l w (.returned v) w' := by
  subst hx
  obtain ⟨A, c, rfl⟩ := own_slice h
  have hn : n = l.length := by have := h.1; rw [bv_length] at this; omega
  subst hn
  exact ⟨A, c, rfl, h, hb⟩
/-- the form of a slice of the call's own that is not empty -/
theorem own_some {w : World} {base n : Nat} {e : TypeId} {size : Nat} {v : Value} {xs : List Value} (h : w.ownsRow base e size v n xs) (hn : 0 < n) :
    ∃ g cap, v = .slice (some ⟨g, 0, none⟩) n cap ∧ base ≤ g ∧ g < w.heap.size ∧ n ≤ cap ∧ cap ≤ 9223372036854775807 ∧ ∀ j u, xs[j]? = some u → w.cell? ⟨g, j, none⟩ = some u := by
  obtain ⟨g, cap, hv, _, hlt⟩ := h.form hn
  subst hv
  rcases h.2 with ⟨h0, _⟩ | ⟨g', cap', cur, he, hb, hh, h1, h2, _⟩
  · cases h0
  · cases he
    refine ⟨g, cap, rfl, hb, hlt, h1, by simpa [maxLen] using h2, fun j u hu => ?_⟩
    have := h.cells (g := g) rfl j u hu
    rwa [show (⟨g, 0, none⟩ : Addr).add j = ⟨g, j, none⟩ by unfold Addr.add; split <;> simp_all] at this
theorem add_plain (g j : Nat) : (⟨g, 0, none⟩ : Addr).add j = ⟨g, j, none⟩ := by unfold Addr.add; split <;> simp_all
theorem bys_of_cells {w : World} {g n : Nat} {l : List UInt8} (hl : l.length = n) (hm : n ≤ 9223372036854775807) (h : ∀ j u, (bv l)[j]? = some u → w.cell? ⟨g, j, none⟩ = some u) : Bys w (some ⟨g, 0, none⟩) n l :=
  ⟨hl, hm, fun i hi => ⟨_, rfl, by
    rw [add_plain]
    exact h i _ (by rw [bv_getElem?, List.getD_eq_getElem?_getD, List.getElem?_eq_getElem (by omega)]; rfl)⟩⟩
theorem below_drewN {B : Nat} {a w : World} (h : Below B a w) (n : Nat) : Below B a (w.drewN n) := ⟨h.os, h.tape, h.output, h.size, h.block⟩
theorem Bys.drew {w : World} {A : Option Addr} {n : Nat} {l : List UInt8} (h : Bys w A n l) : Bys w.drew A n l := ⟨h.len, h.max, h.cell⟩
theorem Bys.drewN {w : World} {A : Option Addr} {n : Nat} {l : List UInt8} (h : Bys w A n l) (k : Nat) : Bys (w.drewN k) A n l := ⟨h.len, h.max, h.cell⟩
theorem below_drew {B : Nat} {a w : World} (h : Below B a w) : Below B a w.drew := ⟨h.os, h.tape, h.output, h.size, h.block⟩
theorem below_of_drew {B : Nat} {a w : World} (h : Below B a.drew w) : Below B a w := ⟨h.os, h.tape, h.output, h.size, h.block⟩
theorem Bys.own {w : World} {base n c : Nat} {E : TypeId} {A : Option Addr} {l : List UInt8} (h : w.ownsRow base E 1 (.slice A n c) n (bv l)) : Bys w A n l := by
  obtain ⟨A', c', e, hb⟩ := Bys.of_own h
  cases e
  exact hb
/-- a slice of the call's own whose block lies below C stays as it is where nothing below C turns -/
theorem own_below_lt {w w1 : World} {base C : Nat} {e : TypeId} {size n : Nat} {v : Value} {xs : List Value} (h : w.ownsRow base e size v n xs) (hC : ∀ k, v.ownBlock = some k → k < C) (hb : Below C w w1) : w1.ownsRow base e size v n xs :=
  ⟨h.1, by
    rcases h.2 with h0 | ⟨g, cap, cur, h1, h2, h3, h4⟩
    · exact .inl h0
    · refine .inr ⟨g, cap, cur, h1, h2, (hb.block g (hC g ?_)).trans h3, h4⟩
      rw [h1]; rfl⟩
/-- what lies behind the head of it -/
theorem Bys.drop_plain {w : World} {g n : Nat} {l : List UInt8} (h : Bys w (some ⟨g, 0, none⟩) n l) (k m : Nat) (hm : n = k + m) (hk : 0 < k) : Bys w (some ⟨g, k, none⟩) m (l.drop k) :=
  ⟨by rw [List.length_drop, h.len]; omega, by have := h.max; omega, fun i hi => ⟨_, rfl, by
    obtain ⟨ad, e, hc⟩ := h.cell (k + i) (by omega)
    cases e
    rw [add_plain] at hc
    have ha : (⟨g, k, none⟩ : Addr).add i = ⟨g, k + i, none⟩ := by unfold Addr.add; split <;> simp_all
    rw [ha, hc, List.getD_eq_getElem?_getD, List.getD_eq_getElem?_getD, List.getElem?_drop]⟩⟩
/-- a row of another element type lies in another block -/
theorem own_blk_ne {w : World} {base : Nat} {e t : TypeId} {size n g : Nat} {v : Value} {xs : List Value} {cs : Array Value} (h : w.ownsRow base e size v n xs) (hg : w.heap[g]? = some (.cells cs t (0, 0))) (hne : e ≠ t) : v.ownBlock ≠ some g := by
  rcases h.2 with ⟨rfl, _⟩ | ⟨g', cap, cur, rfl, _, hh, _⟩
  · simp [Value.ownBlock]
  · intro he
    have : g' = g := by simpa [Value.ownBlock] using he
    subst this
    rw [hh] at hg
    injection hg with hg
    injection hg with _ ht
    exact hne ht
theorem add_of_add (a : Addr) (i j : Nat) : (a.add i).add j = a.add (i + j) := by
  unfold Addr.add
  by_cases hi : i = 0 <;> by_cases hj : j = 0 <;> simp [hi, hj, Nat.add_assoc]
end Go.Proofs.YtggogenhakdhiaaDoor
end
section
set_option linter.unusedVariables false
set_option linter.unusedSimpArgs false
namespace Go.Proofs.YtggogenhakdhiaaDoor
open Go.ChangeShapes Go.WideShapes Go.ChangeAt Go.RowKit

/-- the law's answer -/
def LawPost (w : World) (e : Ending) (w' : World) : Prop := e = .returned (.bool true) ∧ Below w.heap.size w w'

theorem laid_out : laidOutB Tryd.prog = true := by kernel_rfl

section
variable {H : Type} {enc : TypeId × Value → H}
theorem trodAll_stays {W W' : World} {sp : Nat → Bool} : ∀ {ts : List TypeId} {vs : List Value} {ds : List (DataW H)} {ps : List MemPlace},
    (∀ t ∈ ts, Tryd.prog.readableRec t = true ∧ t < Tryd.prog.types.size) → DataW.TrodAll enc Tryd.prog W 0 (fun _ => true) true ts vs ds ps →
    (∀ p ∈ ps, W.sameAt W' p) → (∀ p ∈ ps, sp p.block = true) → DataW.TrodAll enc Tryd.prog W' 0 sp true ts vs ds ps
  | [], vs, ds, ps, _, h, _, _ => by
    obtain ⟨rfl, rfl, rfl⟩ := trodAll_nil h
    exact trodAll_mk0
  | t :: ts, vs, ds, ps, hr, h, hs, hp => by
    obtain ⟨v, vs', d, ds', p, q, rfl, rfl, rfl, h0, h1⟩ := trodAll_cons h
    exact trodAll_cons_mk (WideElems.Trod_stays laid_out (hr t (by simp)).1 (hr t (by simp)).2 h0 (fun x hx => hs x (by simp [hx])) (fun x hx => hp x (by simp [hx])))
      (trodAll_stays (fun t' ht' => hr t' (by simp [ht'])) h1 (fun x hx => hs x (by simp [hx])) (fun x hx => hp x (by simp [hx])))

/-- the row's last step -/
theorem law_post {fn : Func} {s : ChangeSpec} {W W' : World} {args : Array Value} {e : Ending} {ds gs : List (DataW H)} {before : List MemPlace}
    (hW : DataW.Whole enc Tryd.prog fn.params.toList s.vars false W args.toList ds gs before)
    (hread : ∀ t ∈ fn.params.toList, Tryd.prog.readableRec t = true ∧ t < Tryd.prog.types.size) (hres : fn.resultTypes = #[4]) (hvars : s.vars = [])
    (hfn : s.fn H (ds ++ gs) = { results := [.lit (.bool true)], args := ds })
    (h : LawPost W e W') : ∃ v, e = .returned v ∧ s.post enc Tryd.prog fn false true false false W args v W' := by
  obtain ⟨rfl, hb⟩ := h
  have hlt : ∀ p ∈ before, p.block < W.heap.size := fun p hp => hW.lt p hp
  have hW' := hW
  obtain ⟨p, q, hA, hV, hpq, hz, hn⟩ := hW
  rw [hvars] at hV
  obtain ⟨hgs, hq⟩ := trodVars_none hV
  subst hgs hq
  refine ⟨_, rfl, ds, [], before, [], before, [], hW', ?_, ?_, ?_, World.keptBut_mono (fun p hp => ⟨hp, Or.inr (Or.inl hp)⟩) (hb.frame (· ∈ before)), fun h => by cases h⟩
  · rw [hfn, hres]
    exact trodAll_cons_mk (shut_bool Tryd.underlying4 _) trodAll_mk0
  · rw [hfn]
    have hpb : before = p := by simpa using hpq
    subst hpb
    exact trodAll_stays hread hA (fun x hx => hb.same (hlt x hx)) (fun x hx => by simpa using hlt x hx)
  · rw [hfn, hvars]
    rfl
end
end Go.Proofs.YtggogenhakdhiaaDoor
end
section
namespace Go.Proofs.YtggogenhakdhiaaDoor.Crc

/-- the polynomial -/
def P32 : BitVec 32 := 0x82F63B78#32
/-- a register goes one place to the right -/
def stp (r : BitVec 32) : BitVec 32 := bif r.getLsbD 0 then (r >>> 1) ^^^ P32 else r >>> 1
def stp4 (r : BitVec 32) : BitVec 32 := stp (stp (stp (stp r)))
def stp8 (r : BitVec 32) : BitVec 32 := stp4 (stp4 r)
/-- a byte -/
def byteStep (r : BitVec 32) (z : Int) : BitVec 32 := stp8 (r ^^^ BitVec.ofInt 32 z)
def raw (r : BitVec 32) (l : List UInt8) : BitVec 32 := l.foldl (fun r b => byteStep r (b.toNat : Int)) r
def upd (crc : BitVec 32) (l : List UInt8) : BitVec 32 := ~~~ (raw (~~~ crc) l)

def tab : List (BitVec 32) := [0x00000000#32, 0x105EC76F#32, 0x20BD8EDE#32, 0x30E349B1#32, 0x417B1DBC#32, 0x5125DAD3#32, 0x61C69362#32, 0x7198540D#32,
  0x82F63B78#32, 0x92A8FC17#32, 0xA24BB5A6#32, 0xB21572C9#32, 0xC38D26C4#32, 0xD3D3E1AB#32, 0xE330A81A#32, 0xF36E6F75#32]
def nib (r x : BitVec 32) : BitVec 32 := (r >>> 4) ^^^ tab.getD ((r ^^^ x) &&& 15#32).toNat 0#32

theorem stp_xor (a b : BitVec 32) : stp (a ^^^ b) = stp a ^^^ stp b := by
  unfold stp
  rw [BitVec.getLsbD_xor, BitVec.ushiftRight_xor_distrib]
  cases a.getLsbD 0 <;> cases b.getLsbD 0 <;> simp only [Bool.false_xor, Bool.true_xor, Bool.not_false, Bool.not_true, cond_true, cond_false]
  · rw [BitVec.xor_assoc]
  · rw [BitVec.xor_assoc, BitVec.xor_assoc, BitVec.xor_comm P32]
  · rw [BitVec.xor_assoc, BitVec.xor_comm P32, BitVec.xor_assoc, BitVec.xor_self, BitVec.xor_zero]

theorem stp4_xor (a b : BitVec 32) : stp4 (a ^^^ b) = stp4 a ^^^ stp4 b := by
  unfold stp4; simp only [stp_xor]
theorem stp8_xor (a b : BitVec 32) : stp8 (a ^^^ b) = stp8 a ^^^ stp8 b := by
  unfold stp8; simp only [stp4_xor]

theorem stp_even (a : BitVec 32) (h : a.getLsbD 0 = false) : stp a = a >>> 1 := by
  unfold stp; rw [h]; rfl

theorem stp4_high (a : BitVec 32) (h : ∀ i, i < 4 → a.getLsbD i = false) : stp4 a = a >>> 4 := by
  unfold stp4
  rw [stp_even a (h 0 (by omega))]
  rw [stp_even (a >>> 1) (by rw [BitVec.getLsbD_ushiftRight]; exact h 1 (by omega))]
  rw [← BitVec.shiftRight_add, stp_even (a >>> (1 + 1)) (by rw [BitVec.getLsbD_ushiftRight]; exact h 2 (by omega))]
  rw [← BitVec.shiftRight_add, stp_even (a >>> (1 + 1 + 1)) (by rw [BitVec.getLsbD_ushiftRight]; exact h 3 (by omega))]
  rw [← BitVec.shiftRight_add]

theorem low_tab : ∀ n : Fin 16, stp4 (BitVec.ofNat 32 n.val) = tab.getD n.val 0#32 := by decide

theorem split15 (x : BitVec 32) : x = (x &&& ~~~15#32) ^^^ (x &&& 15#32) := by
  apply BitVec.eq_of_getLsbD_eq
  intro i hi
  rw [BitVec.getLsbD_xor, BitVec.getLsbD_and, BitVec.getLsbD_and, BitVec.getLsbD_not]
  cases x.getLsbD i <;> cases (15#32).getLsbD i <;> simp [hi]

theorem and15_lt (x : BitVec 32) : (x &&& 15#32).toNat < 16 := by
  rw [BitVec.toNat_and]
  have : x.toNat &&& (15#32).toNat ≤ (15#32).toNat := Nat.and_le_right
  have h15 : (15#32).toNat = 15 := rfl
  omega

theorem stp4_eq (x : BitVec 32) : stp4 x = (x >>> 4) ^^^ tab.getD (x &&& 15#32).toNat 0#32 := by
  conv => lhs; rw [split15 x, stp4_xor]
  have hl : stp4 (x &&& 15#32) = tab.getD (x &&& 15#32).toNat 0#32 := by
    have := low_tab ⟨(x &&& 15#32).toNat, and15_lt x⟩
    simpa using this
  rw [hl, stp4_high (x &&& ~~~15#32)]
  · congr 1
    apply BitVec.eq_of_getLsbD_eq
    intro i hi
    rw [BitVec.getLsbD_ushiftRight, BitVec.getLsbD_ushiftRight, BitVec.getLsbD_and, BitVec.getLsbD_not]
    by_cases h : 4 + i < 32
    · have : (15#32).getLsbD (4 + i) = false := by
        rw [BitVec.getLsbD_ofNat]
        have : Nat.testBit 15 (4 + i) = false := Nat.testBit_lt_two_pow (Nat.lt_of_lt_of_le (by decide : 15 < 2 ^ 4) (Nat.pow_le_pow_right (by omega) (by omega)))
        simp [this]
      rw [this]; cases x.getLsbD (4 + i) <;> simp [h]
    · rw [BitVec.getLsbD_of_ge x (4 + i) (by omega)]; simp
  · intro i hi
    rw [BitVec.getLsbD_and, BitVec.getLsbD_not]
    have : ∀ j : Fin 4, (15#32).getLsbD j.val = true := by decide
    have := this ⟨i, hi⟩
    simp only at this
    simp [this]

/-- half a byte by the table -/
theorem nib_eq (r x : BitVec 32) : nib r x = stp4 (r ^^^ x) ^^^ (x >>> 4) := by
  unfold nib
  rw [stp4_eq, BitVec.ushiftRight_xor_distrib]
  rw [BitVec.xor_assoc, BitVec.xor_assoc, BitVec.xor_comm (x >>> 4), BitVec.xor_assoc, BitVec.xor_self, BitVec.xor_zero]

theorem nib_nib (r x : BitVec 32) (h : x >>> 8 = 0#32) : nib (nib r x) (x >>> 4) = stp8 (r ^^^ x) := by
  rw [nib_eq, nib_eq r x]
  rw [← BitVec.shiftRight_add, h, BitVec.xor_zero, BitVec.xor_assoc, BitVec.xor_self, BitVec.xor_zero]
  rfl


/-- k places -/
def stpN : Nat → BitVec 32 → BitVec 32
  | 0, r => r
  | k + 1, r => stp (stpN k r)
theorem stpN_xor (k : Nat) (a b : BitVec 32) : stpN k (a ^^^ b) = stpN k a ^^^ stpN k b := by
  induction k with
  | zero => rfl
  | succ k ih => simp only [stpN, ih, stp_xor]
/-- the register behind k of a byte's bits -/
def part (x : BitVec 32) (z : Int) (k : Nat) : BitVec 32 := stpN k (x ^^^ BitVec.ofNat 32 (z.toNat % 2 ^ k))
theorem part_zero (x : BitVec 32) (z : Int) : part x z 0 = x := by
  simp [part, stpN, Nat.mod_one]
theorem part_eight (x : BitVec 32) (z : Int) (h0 : 0 ≤ z) (h1 : z < 256) : part x z 8 = byteStep x z := by
  have h : z.toNat % 2 ^ 8 = z.toNat := Nat.mod_eq_of_lt (by omega)
  have h' : BitVec.ofNat 32 z.toNat = BitVec.ofInt 32 z := by
    obtain ⟨n, rfl⟩ := Int.eq_ofNat_of_zero_le h0
    simp
  unfold part byteStep
  rw [h, h']; rfl
theorem bit_up : ∀ (k : Fin 8) (b : Fin 2), stpN k.val (BitVec.ofNat 32 (b.val * 2 ^ k.val)) = BitVec.ofNat 32 b.val := by decide +kernel
theorem low_split : ∀ (z : Fin 256) (k : Fin 8), BitVec.ofNat 32 (z.val % 2 ^ (k.val + 1)) = BitVec.ofNat 32 (z.val % 2 ^ k.val) ^^^ BitVec.ofNat 32 (z.val / 2 ^ k.val % 2 * 2 ^ k.val) := by decide +kernel
theorem part_succ (x : BitVec 32) (z : Int) (k : Nat) (h0 : 0 ≤ z) (h1 : z < 256) (hk : k < 8) : part x z (k + 1) = stp (part x z k ^^^ BitVec.ofNat 32 (z.toNat / 2 ^ k % 2)) := by
  have h := low_split ⟨z.toNat, by omega⟩ ⟨k, hk⟩
  have hb := bit_up ⟨k, hk⟩ ⟨z.toNat / 2 ^ k % 2, by omega⟩
  simp only at h hb
  unfold part
  rw [h, ← BitVec.xor_assoc]
  show stp (stpN k _) = _
  rw [stpN_xor, hb]
theorem stp_bit (r : BitVec 32) (b : Nat) (hb : b < 2) : stp (r ^^^ BitVec.ofNat 32 b) = if (r.toNat % 2 + b) % 2 = 1 then (r >>> 1) ^^^ P32 else r >>> 1 := by
  have hs : (r ^^^ BitVec.ofNat 32 b) >>> 1 = r >>> 1 := by
    rw [BitVec.ushiftRight_xor_distrib]
    have : (BitVec.ofNat 32 b) >>> 1 = 0#32 := by
      have : ∀ b : Fin 2, (BitVec.ofNat 32 b.val) >>> 1 = 0#32 := by decide
      exact this ⟨b, hb⟩
    rw [this, BitVec.xor_zero]
  have hl : (r ^^^ BitVec.ofNat 32 b).getLsbD 0 = decide ((r.toNat % 2 + b) % 2 = 1) := by
    rw [BitVec.getLsbD_xor]
    have h1 : r.getLsbD 0 = decide (r.toNat % 2 = 1) := by
      rw [BitVec.getLsbD]; exact Nat.testBit_zero _
    have h2 : ∀ b : Fin 2, (BitVec.ofNat 32 b.val).getLsbD 0 = decide (b.val = 1) := by decide
    have h2 := h2 ⟨b, hb⟩
    simp only at h2
    rw [h1, h2]
    rcases Nat.mod_two_eq_zero_or_one r.toNat with h | h <;> rcases (show b = 0 ∨ b = 1 by omega) with rfl | rfl <;> simp [h]
  unfold stp
  rw [hs, hl]
  by_cases h : (r.toNat % 2 + b) % 2 = 1 <;> simp [h]
end Go.Proofs.YtggogenhakdhiaaDoor.Crc
end
section
set_option linter.unusedVariables false
set_option linter.unusedSimpArgs false
namespace Go.Proofs.YtggogenhakdhiaaDoor
open Go.RowKit

/-- a register as a number -/
def un (a : BitVec 32) : Int := a.toNat
theorem un_lo (a : BitVec 32) : 0 ≤ un a := by unfold un; omega
theorem un_hi (a : BitVec 32) : un a < 4294967296 := by have := a.isLt; unfold un; omega
theorem ofInt_un (a : BitVec 32) : BitVec.ofInt 32 (un a) = a := by unfold un; simp
theorem wrap_un (a : BitVec 32) : IntKind.u32.wrap (a.toNat : Int) = un a := by
  have := a.isLt
  unfold un
  rw [IntKind.wrap_u32]; omega
theorem bxor (a b : Int) : bits .xor .u32 a b = un (BitVec.ofInt 32 a ^^^ BitVec.ofInt 32 b) := wrap_un _
theorem band (a b : Int) : bits .and .u32 a b = un (BitVec.ofInt 32 a &&& BitVec.ofInt 32 b) := wrap_un _
theorem max_xor (a : BitVec 32) : BitVec.ofInt 32 IntKind.u32.max ^^^ a = ~~~a := by
  have hm : BitVec.ofInt 32 IntKind.u32.max = BitVec.allOnes 32 := by decide
  rw [hm, BitVec.allOnes_xor]
theorem shr4 (a : BitVec 32) : un a / (16 : Int) = un (a >>> 4) := by
  unfold un
  rw [BitVec.toNat_ushiftRight, Nat.shiftRight_eq_div_pow]; omega
theorem idx_lo (a : BitVec 32) : 0 ≤ un (a &&& 15#32) := un_lo _
theorem idx_hi (a : BitVec 32) : un (a &&& 15#32) < 16 := by have := Crc.and15_lt a; unfold un; omega
theorem idx_nat (a : BitVec 32) : (un (a &&& 15#32)).toNat = (a &&& 15#32).toNat := by unfold un; omega

theorem ofInt_shr4 (a : BitVec 32) : BitVec.ofInt 32 (un a / (16 : Int)) = a >>> 4 := by rw [shr4, ofInt_un]
attribute [local go_sem] bxor band ofInt_un ofInt_shr4 max_xor
theorem step_nibs (x : BitVec 32) (z : Int) (h0 : 0 ≤ z) (h1 : z < 256) :
    Crc.byteStep x z = ((x >>> 4) ^^^ Crc.tab.getD ((x ^^^ BitVec.ofInt 32 z) &&& 15#32).toNat 0#32) >>> 4 ^^^
      Crc.tab.getD ((((x >>> 4) ^^^ Crc.tab.getD ((x ^^^ BitVec.ofInt 32 z) &&& 15#32).toNat 0#32) ^^^ BitVec.ofInt 32 (z / 16)) &&& 15#32).toNat 0#32 := by
  have hn : (BitVec.ofInt 32 z).toNat = z.toNat := by
    rw [BitVec.toNat_ofInt]; omega
  have h8 : (BitVec.ofInt 32 z) >>> 8 = 0#32 := by
    apply BitVec.eq_of_toNat_eq
    rw [BitVec.toNat_ushiftRight, hn, Nat.shiftRight_eq_div_pow]
    simp; omega
  have h4 : (BitVec.ofInt 32 z) >>> 4 = BitVec.ofInt 32 (z / 16) := by
    apply BitVec.eq_of_toNat_eq
    rw [BitVec.toNat_ushiftRight, hn, Nat.shiftRight_eq_div_pow, BitVec.toNat_ofInt]
    omega
  have := Crc.nib_nib x (BitVec.ofInt 32 z) h8
  unfold Crc.byteStep
  rw [← this, h4]
  rfl
/-- the table lies in memory -/
def TabAt (w : World) : Prop := ∀ i, i < 16 → w.cell? ⟨0, i, none⟩ = some (.int .u32 (un (Crc.tab.getD i 0#32)))
theorem TabAt.idx {w : World} (h : TabAt w) (a : BitVec 32) : w.cell? ⟨0, (un (a &&& 15#32)).toNat, none⟩ = some (.int .u32 (un (Crc.tab.getD (a &&& 15#32).toNat 0#32))) := by
  rw [idx_nat]; exact h _ (Crc.and15_lt a)

theorem raw_snoc (r : BitVec 32) (l : List UInt8) (k : Nat) (hk : k < l.length) : Crc.raw r (l.take (k + 1)) = Crc.byteStep (Crc.raw r (l.take k)) ((l.getD k 0).toNat : Int) := by
  unfold Crc.raw
  rw [List.take_succ_eq_append_getElem hk, List.foldl_append]
  simp [List.getD_eq_getElem?_getD, List.getElem?_eq_getElem hk]

theorem par_eq (y : BitVec 32) (z : Int) (m : Nat) (h0 : 0 ≤ z) : un (BitVec.ofInt 32 (z / 2 ^ m % 2) ^^^ BitVec.ofInt 32 (un y % 2)) = ((y.toNat % 2 + z.toNat / 2 ^ m % 2) % 2 : Nat) := by
  obtain ⟨n, rfl⟩ := Int.eq_ofNat_of_zero_le h0
  have e1 : ((n : Int) / 2 ^ m % 2) = ((n / 2 ^ m % 2 : Nat) : Int) := by simp
  have e2 : un y % 2 = ((y.toNat % 2 : Nat) : Int) := by unfold un; omega
  rw [e1, e2]
  have hb : n / 2 ^ m % 2 < 2 := Nat.mod_lt _ (by omega)
  have hr : y.toNat % 2 < 2 := Nat.mod_lt _ (by omega)
  have : ∀ a b : Fin 2, un (BitVec.ofInt 32 ((a.val : Nat) : Int) ^^^ BitVec.ofInt 32 ((b.val : Nat) : Int)) = ((b.val + a.val) % 2 : Nat) := by decide
  have := this ⟨_, hb⟩ ⟨_, hr⟩
  simpa using this
theorem half_eq (y : BitVec 32) : un y / (2 : Int) = un (y >>> 1) := by
  unfold un; rw [BitVec.toNat_ushiftRight, Nat.shiftRight_eq_div_pow]; omega
theorem half_t (y : BitVec 32) : (un y).tdiv (2 : Int) % (4294967296 : Int) = un (y >>> 1) := by
  have h0 := un_lo y
  have h1 := un_hi y
  rw [Int.tdiv_eq_ediv_of_nonneg h0, ← half_eq]; omega
theorem bit_yes (y : BitVec 32) (z : Int) (m : Nat) (h0 : 0 ≤ z) (h : (un (BitVec.ofInt 32 (z / 2 ^ m % 2) ^^^ BitVec.ofInt 32 (un y % 2)) == 1) = true) :
    un (Crc.stp (y ^^^ BitVec.ofNat 32 (z.toNat / 2 ^ m % 2))) = un (BitVec.ofInt 32 ((un y).tdiv 2 % 4294967296) ^^^ 2197175160#32) := by
  rw [par_eq y z m h0, beq_iff_eq] at h
  rw [Crc.stp_bit _ _ (Nat.mod_lt _ (by omega)), if_pos (by omega), half_t, ofInt_un]; rfl
theorem bit_no (y : BitVec 32) (z : Int) (m : Nat) (h0 : 0 ≤ z) (h : (un (BitVec.ofInt 32 (z / 2 ^ m % 2) ^^^ BitVec.ofInt 32 (un y % 2)) == 1) = false) :
    un (Crc.stp (y ^^^ BitVec.ofNat 32 (z.toNat / 2 ^ m % 2))) = (un y).tdiv 2 % 4294967296 := by
  rw [par_eq y z m h0] at h
  have h : ¬ (((y.toNat % 2 + z.toNat / 2 ^ m % 2) % 2 : Nat) : Int) = 1 := by simpa using h
  rw [Crc.stp_bit _ _ (Nat.mod_lt _ (by omega)), if_neg (by omega), half_t]
section
attribute [local go_sem] bxor band ofInt_un ofInt_shr4 max_xor

set_option maxHeartbeats 400000 in
theorem upd_walk (w : World) (crc : BitVec 32) (A : Option Addr) (n c : Nat) (zs : List UInt8) (hb : Bys w A n zs) (ht : TabAt w) :
    Calls Tryd.prog 99 #[.int .u32 (un crc), .slice A n c] w fun e w' => e = .returned (.int .u32 (un (Crc.upd crc zs))) ∧ w' = w := by
  have hm := hb.max
  go_enter Tryd.func99, Tryd.ntmps99
  go_wp2
  go_loop [5, 12] (fun r i => ∃ k : Nat, k ≤ n ∧ i = .int .i64 k ∧ r = .int .u32 (un (Crc.raw (~~~crc) (zs.take k)))) (fun _ i => n - (intOf i).toNat)
  case atStart => exact ⟨0, Nat.zero_le _, rfl, rfl⟩
  case round =>
    obtain ⟨k, hk, rfl, rfl⟩ := hrel
    by_cases hlt : k < n
    · obtain ⟨ad, z, rfl, ez, hcell, hz0, hz1⟩ := hb.at_ k hlt
      have HS := raw_snoc (~~~crc) zs k (by rw [hb.len]; exact hlt)
      rw [← ez] at HS
      clear ez hb
      generalize Crc.raw (~~~crc) (zs.take k) = x at HS
      rw [step_nibs x z hz0 hz1] at HS
      have hw : z % 4294967296 = z := by omega
      have hw2 : z / 16 % 4294967296 = z / 16 := by omega
      have j1 := idx_lo (x ^^^ BitVec.ofInt 32 z)
      have j2 := idx_hi (x ^^^ BitVec.ofInt 32 z)
      have j3 := ht.idx (x ^^^ BitVec.ofInt 32 z)
      generalize Crc.tab.getD ((x ^^^ BitVec.ofInt 32 z) &&& 15#32).toNat 0#32 = t1 at j3 HS
      have l1 := idx_lo (((x >>> 4) ^^^ t1) ^^^ BitVec.ofInt 32 (z / 16))
      have l2 := idx_hi (((x >>> 4) ^^^ t1) ^^^ BitVec.ofInt 32 (z / 16))
      have l3 := ht.idx (((x >>> 4) ^^^ t1) ^^^ BitVec.ofInt 32 (z / 16))
      generalize Crc.tab.getD (((x >>> 4) ^^^ t1 ^^^ BitVec.ofInt 32 (z / 16)) &&& 15#32).toNat 0#32 = t2 at l3 HS
      replace HS := Go.Lib.hid HS
      clear ht
      go_wp2
      go_round
      case rel => exact ⟨k + 1, by omega, by go_num, by rw [HS.out]⟩
      case measure => simp [intOf]; omega
    · have hk' : k = zs.length := by rw [hb.len]; omega
      have HT : Hid (zs.take k = zs) := Go.Lib.hid (by rw [hk']; exact List.take_length)
      clear hk' hb
      go_wp2
      go_ret
      refine ⟨?_, rfl⟩
      rw [HT.out]; rfl

set_option maxHeartbeats 800000 in
theorem rupd_walk (w : World) (crc : BitVec 32) (A : Option Addr) (n c : Nat) (zs : List UInt8) (hb : Bys w A n zs) :
    Calls Tryd.prog 110 #[.int .u32 (un crc), .slice A n c] w fun e w' => e = .returned (.int .u32 (un (Crc.upd crc zs))) ∧ w' = w := by
  have hm := hb.max
  go_enter Tryd.func110, Tryd.ntmps110
  go_wp2
  go_loop [5, 6, 7, 8] (fun r i _ _ => ∃ k : Nat, k ≤ n ∧ i = .int .i64 k ∧ r = .int .u32 (un (Crc.raw (~~~crc) (zs.take k)))) (fun _ i _ _ => n - (intOf i).toNat)
  case atStart => exact ⟨0, Nat.zero_le _, rfl, rfl⟩
  case round =>
    obtain ⟨k, hk, rfl, rfl⟩ := hrel
    by_cases hlt : k < n
    · obtain ⟨ad, z, rfl, ez, hcell, hz0, hz1⟩ := hb.at_ k hlt
      have HS := raw_snoc (~~~crc) zs k (by rw [hb.len]; exact hlt)
      rw [← ez] at HS
      clear ez hb
      generalize Crc.raw (~~~crc) (zs.take k) = x at HS
      replace HS := Go.Lib.hid HS
      go_wp2
      go_loop [5, 7, 8] (fun r j _ => ∃ m : Nat, m ≤ 8 ∧ j = .int .i64 m ∧ r = .int .u32 (un (Crc.part x z m))) (fun _ j _ => 8 - (intOf j).toNat)
      case atStart => exact ⟨0, by omega, rfl, by rw [Crc.part_zero]⟩
      case round =>
        obtain ⟨m, hm8, rfl, rfl⟩ := hrel
        by_cases hlt8 : m < 8
        · have HP := Go.Lib.hid (Crc.part_succ x z m hz0 hz1 hlt8)
          generalize Crc.part x z m = y at HP
          have hy := un_lo y
          go_wp2
          · have ht : (un (BitVec.ofInt 32 (z / 2 ^ m % 2) ^^^ BitVec.ofInt 32 (un y % 2)) == 1) = true := by assumption
            go_round
            case rel => exact ⟨m + 1, by omega, by go_num, by rw [HP.out, bit_yes y z m hz0 ht]⟩
            case measure => simp [intOf]; omega
          · have ht : (un (BitVec.ofInt 32 (z / 2 ^ m % 2) ^^^ BitVec.ofInt 32 (un y % 2)) == 1) = false := by assumption
            go_round
            case rel => exact ⟨m + 1, by omega, by go_num, by rw [HP.out, bit_no y z m hz0 ht]⟩
            case measure => simp [intOf]; omega
        · obtain rfl : m = 8 := by omega
          go_wp2
          go_round
          case rel => exact ⟨k + 1, by omega, by go_num, by rw [HS.out, Crc.part_eight x z hz0 hz1]⟩
          case measure => simp [intOf]; omega
    · have hk' : k = zs.length := by rw [hb.len]; omega
      have HT : Hid (zs.take k = zs) := Go.Lib.hid (by rw [hk']; exact List.take_length)
      clear hk' hb
      go_wp2
      go_ret
      refine ⟨?_, rfl⟩
      rw [HT.out]; rfl

theorem un_zero : un 0#32 = 0 := rfl
theorem sum_walk (w : World) (A : Option Addr) (n c : Nat) (zs : List UInt8) (hb : Bys w A n zs) (ht : TabAt w) :
    Calls Tryd.prog 100 #[.slice A n c] w fun e w' => e = .returned (.int .u32 (un (Crc.upd 0#32 zs))) ∧ w = w' := by
  have H := upd_walk w 0#32 A n c zs hb ht
  rw [un_zero] at H
  go_enter Tryd.func100, Tryd.ntmps100
  go_wp2_with (go_at_call 99; refine H.mono ?_; rintro e w' ⟨rfl, rfl⟩)
  go_ret
  exact ⟨rfl, rfl⟩
theorem rsum_walk (w : World) (A : Option Addr) (n c : Nat) (zs : List UInt8) (hb : Bys w A n zs) :
    Calls Tryd.prog 96 #[.slice A n c] w fun e w' => e = .returned (.int .u32 (un (Crc.upd 0#32 zs))) ∧ w = w' := by
  have H := rupd_walk w 0#32 A n c zs hb
  rw [un_zero] at H
  go_enter Tryd.func96, Tryd.ntmps96
  go_wp2_with (go_at_call 110; refine H.mono ?_; rintro e w' ⟨rfl, rfl⟩)
  go_ret
  exact ⟨rfl, rfl⟩
end
end Go.Proofs.YtggogenhakdhiaaDoor
end
section
set_option maxRecDepth 20000
set_option linter.unusedVariables false
set_option linter.unusedSimpArgs false
namespace Go.Proofs.YtggogenhakdhiaaDoor
open Go.ChangeShapes Go.WideShapes Go.ChangeAt Go.RowKit

theorem own_knob : ownKnob Tryd.prog.godebug = none := by kernel_rfl
theorem gTab : Tryd.prog.globalNamed "bursar/sum.nibbles" = some 0 := by kernel_rfl
theorem gTabType : (Tryd.prog.globals[0]?).map (·.type) = some 163 := by kernel_rfl
theorem cellsTab : Tryd.prog.cellsOf 163 = 16 := by kernel_rfl
theorem cellsU32 : Tryd.prog.cellsOf 154 = 1 := by kernel_rfl
theorem cellsU8 : Tryd.prog.cellsOf 5 = 1 := by kernel_rfl
theorem bytesU8 : Tryd.prog.bytesOf 5 = 1 := by kernel_rfl
theorem tab_of_laid {W : World} (h : laidMetH Tryd.prog [("bursar/sum.nibbles", Rows.laid_bursar_sum_nibbles)] W) : TabAt W := by
  have ht : Lib.TabIs Tryd.prog W "bursar/sum.nibbles" .u32 [0, 274646895, 549293790, 820201905, 1098587580, 1361435347, 1640403810, 1905808397, 2197175160, 2460548119, 2722870694, 2987750089, 3280807620, 3553878443, 3811616794, 4084100981] :=
    Lib.tabIs_of_head (rest := []) gTab gTabType Tryd.underlying163 Tryd.underlying154 cellsU32 cellsTab h
  intro i hi
  have := ht.cell gTab i (by simpa using hi)
  rw [this]
  have : ∀ j : Fin 16, ([0, 274646895, 549293790, 820201905, 1098587580, 1361435347, 1640403810, 1905808397, 2197175160, 2460548119, 2722870694, 2987750089, 3280807620, 3553878443, 3811616794, 4084100981] : List Int).getD j.val 0 = un (Crc.tab.getD j.val 0#32) := by decide
  have := this ⟨i, hi⟩
  simp only at this
  rw [← this]

section
variable {H : Type} {enc : TypeId × Value → H} {W : World} {base : Nat} {spare : Nat → Bool} {held : Bool}
/-- an argument []byte -/
theorem open_bytes {v : Value} {d : DataW H} {ps : List MemPlace} (hval : Value.okWide Tryd.prog W .any base 22 v) (h : DataW.Trod enc Tryd.prog W 0 spare held 22 v d ps)
    (hz : ∀ elems sp : List (DataW H), d = .slice elems sp → (elems.length + sp.length) * Tryd.prog.bytesOf 5 ≤ reachBytes) :
    ∃ A n c l, v = .slice A n c ∧ Bys W A n l ∧ n ≤ 140737488351232 ∧ n ≤ c := by
  obtain ⟨fuel, hf⟩ := h
  obtain ⟨A, n, c, rfl⟩ := okWide_slice Tryd.underlying22 hval
  rcases open_ints Tryd.underlying22 Tryd.underlying5 cellsU8 hf with ⟨hc, hx⟩ | ⟨a, len, cap, zs, hc, _, hl, hm, hlen, hx, hcell, hwf⟩
  · cases hc
    exact ⟨none, 0, 0, [], rfl, Bys.nil W, by omega, by omega⟩
  · cases hc
    have hlz : n ≤ zs.length := by split at hlen <;> omega
    have hd : d = .slice (lits .u8 (zs.take n)) (lits .u8 (zs.drop n)) := by cases hx; rfl
    have hsz := hz _ _ hd
    rw [bytesU8] at hsz
    simp only [lits, List.length_map, List.length_take, List.length_drop, reachBytes] at hsz
    refine ⟨some a, n, c, (zs.take n).map (fun z => UInt8.ofNat z.toNat), rfl, ⟨by simp; omega, by omega, fun i hi => ⟨a, rfl, ?_⟩⟩, by omega, by omega⟩
    have hz' : zs.getD i 0 ∈ zs := by
      rw [List.getD_eq_getElem?_getD, List.getElem?_eq_getElem (by omega)]
      exact List.getElem_mem (by omega)
    have hw := hwf _ hz'
    have hw2 : 0 ≤ zs.getD i 0 ∧ zs.getD i 0 < 256 := by
      generalize zs.getD i 0 = z at hw
      have : 0 ≤ z ∧ z ≤ 255 := by simpa [Lit.wf, IntKind.min, IntKind.max, IntKind.signed, IntKind.bits] using hw
      omega
    rw [hcell i (by omega)]
    have he : (((zs.take n).map (fun z => UInt8.ofNat z.toNat)).getD i 0).toNat = (zs.getD i 0).toNat := by
      have h1 : ((zs.take n).map (fun z => UInt8.ofNat z.toNat)).getD i 0 = UInt8.ofNat (zs.getD i 0).toNat := by
        rw [List.getD_eq_getElem?_getD, List.getElem?_map, List.getElem?_take, if_pos hi, List.getD_eq_getElem?_getD, List.getElem?_eq_getElem (show i < zs.length by omega)]
        rfl
      rw [h1, UInt8.toNat_ofNat']
      omega
    rw [he]
    congr 2
    omega
/-- an argument uint32 -/
theorem open_u32 {v : Value} {d : DataW H} {ps : List MemPlace} (hval : Value.okWide Tryd.prog W .any base 154 v) (h : DataW.Trod enc Tryd.prog W 0 spare held 154 v d ps) :
    ∃ a : BitVec 32, v = .int .u32 (un a) := by
  obtain ⟨n, rfl, rfl, _, hw⟩ := open_int Tryd.underlying154 hval h
  refine ⟨BitVec.ofInt 32 n, ?_⟩
  have hw2 : 0 ≤ n ∧ n ≤ 4294967295 := by
    simpa [Lit.wf, IntKind.min, IntKind.max, IntKind.signed, IntKind.bits] using hw
  congr 1
  unfold un
  rw [BitVec.toNat_ofInt]
  omega
end
/-- A world for the witness: the settled one, the table holding what its initialiser lays. -/
noncomputable def laidWorld (os : Os) : World :=
  { World.holding Tryd.prog os ⟨#[], #[], []⟩ with heap := (World.holding Tryd.prog os ⟨#[], #[], []⟩).heap.modify 0 fun
      | .cells _ t frozen => .cells #[.int .u32 0, .int .u32 274646895, .int .u32 549293790, .int .u32 820201905, .int .u32 1098587580, .int .u32 1361435347, .int .u32 1640403810, .int .u32 1905808397, .int .u32 2197175160, .int .u32 2460548119, .int .u32 2722870694, .int .u32 2987750089, .int .u32 3280807620, .int .u32 3553878443, .int .u32 3811616794, .int .u32 4084100981] t frozen
      | o => o }
theorem laid_met (os : Os) (args : Array Value) : laidMet Tryd.prog [("bursar/sum.nibbles", Rows.laid_bursar_sum_nibbles)] ((laidWorld os).forCall (fun _ _ => 0) ⟨#[], args, []⟩).memory :=
  laidMet_of_run' 8 (by kernel_rfl) (by kernel_rfl)
end Go.Proofs.YtggogenhakdhiaaDoor
end
section
set_option linter.unusedVariables false
set_option linter.unusedSimpArgs false
namespace Go.Proofs.YtggogenhakdhiaaDoor
open Go.RowKit

/-- the bytes of a number, the lowest first -/
def le (n : Nat) : Nat → List UInt8
  | 0 => []
  | k + 1 => UInt8.ofNat (n % 256) :: le (n / 256) k
theorem le_length (n k : Nat) : (le n k).length = k := by
  induction k generalizing n with
  | zero => rfl
  | succ k ih => simp [le, ih]
/-- the number of some bytes -/
def num : List UInt8 → Nat
  | [] => 0
  | b :: l => b.toNat + 256 * num l
theorem num_lt (l : List UInt8) : num l < 256 ^ l.length := by
  induction l with
  | nil => simp [num]
  | cons b l ih =>
    have := b.toNat_lt
    simp only [num, List.length_cons, Nat.pow_succ]
    omega
theorem num_lt64 (l : List UInt8) (h : l.length ≤ 8) : num l < 18446744073709551616 := by
  have h1 := num_lt l
  have h2 : 256 ^ l.length ≤ 256 ^ 8 := Nat.pow_le_pow_right (by omega) h
  omega
theorem le_snoc (n k : Nat) : le n (k + 1) = le n k ++ [UInt8.ofNat (n / 256 ^ k % 256)] := by
  induction k generalizing n with
  | zero => simp [le]
  | succ k ih =>
    rw [le, ih (n / 256), le, List.cons_append, Nat.div_div_eq_div_mul, Nat.pow_succ, Nat.mul_comm 256]
theorem num_le (n k : Nat) : num (le n k) = n % 256 ^ k := by
  induction k generalizing n with
  | zero => simp [le, num, Nat.mod_one]
  | succ k ih =>
    simp only [le, num, ih, UInt8.toNat_ofNat', Nat.pow_succ]
    rw [Nat.mod_mod_of_dvd _ (by decide : 256 ∣ 2 ^ 8), Nat.mul_comm (256 ^ k) 256, Nat.mod_mul]
theorem le_num (l : List UInt8) : le (num l) l.length = l := by
  induction l with
  | nil => rfl
  | cons b l ih =>
    have hb := b.toNat_lt
    simp only [num, List.length_cons, le]
    rw [Nat.add_mul_mod_self_left, Nat.mod_eq_of_lt (by omega), Nat.add_mul_div_left _ _ (by omega), Nat.div_eq_of_lt (by omega), Nat.zero_add, ih]
    simp
theorem num_drop (l : List UInt8) (i : Nat) (h : i < l.length) : num (l.drop i) = (l.getD i 0).toNat + 256 * num (l.drop (i + 1)) := by
  rw [List.drop_eq_getElem_cons h, num, List.getD_eq_getElem?_getD, List.getElem?_eq_getElem h]
  rfl
/-- n << 8 | b -/
theorem or_byte (a b : Nat) (ha : a < 72057594037927936) (hb : b < 256) : bits .or .u64 ((a * 256 : Nat) : Int) (b : Int) = ((b + 256 * a : Nat) : Int) := by
  rw [bits_or_u64_nat _ _ (by omega) (by omega)]
  congr 1
  have h := Nat.shiftLeft_add_eq_or_of_lt (i := 8) (b := b) (by omega) a
  rw [Nat.shiftLeft_eq, show (2 : Nat) ^ 8 = 256 from rfl] at h
  omega
end Go.Proofs.YtggogenhakdhiaaDoor
end
section
set_option linter.unusedVariables false
set_option linter.unusedSimpArgs false
namespace Go.Proofs.YtggogenhakdhiaaDoor
open Go.RowKit

/-- bytes of the call's own; or a full row that reads as bytes -/
def OwnOr (w : World) (base : Nat) (e : TypeId) (v : Value) (l : List UInt8) : Prop :=
  w.ownsRow base e 1 v l.length (bv l) ∨ ∃ ad, v = .slice (some ad) l.length l.length ∧ Bys w (some ad) l.length l
theorem OwnOr.slice {w : World} {base : Nat} {e : TypeId} {v : Value} {l : List UInt8} (h : OwnOr w base e v l) : ∃ A c, v = .slice A l.length c ∧ Bys w A l.length l := by
  rcases h with h | ⟨ad, rfl, hb⟩
  · obtain ⟨A, c, rfl, hb⟩ := Bys.of_own h
    exact ⟨A, c, rfl, hb⟩
  · exact ⟨_, _, rfl, hb⟩
theorem OwnOr.alloc {w : World} {base : Nat} {e : TypeId} {v : Value} {l : List UInt8} (h : OwnOr w base e v l) (o : Obj) : OwnOr (w.alloc o) base e v l := by
  rcases h with h | ⟨ad, rfl, hb⟩
  · exact .inl (h.alloc _)
  · exact .inr ⟨ad, rfl, hb.below ((Below.refl _ _).alloc (Nat.le_refl _) _)⟩
theorem wpList_append_or {P : Program} {w : World} {ops : Array Oper} {rest : List Oper} {o : Oper} {a : Act} {Q : Exit → Act → World → Prop} (w0 : World) (base : Nat) (hgd : o.guard = none) (s x : Operand) (t e : TypeId)
    (ho : o.op = .call { callee := .builtin .append, args := #[s, x], argTypes := #[t, t] })
    (ht : P.underlying t = some (.slice e)) (hinfo : (P.info? e).map (fun i => (i.zero, i.size, i.bytes)) = some (some (.int .u8 0), 1, 1))
    (v : Value) (xs : List UInt8) (hs : a.eval s = v) (hown : OwnOr w base e v xs)
    (A : Option Addr) (m c : Nat) (l : List UInt8) (hx : a.eval x = .slice A m c) (hl : Bys w A m l) (hm : 0 < m)
    (HB : Below base w0 w) (hbase : base ≤ w.heap.size) (hbytes : xs.length + m ≤ 140737488355328)
    (h : ∀ v1 w1, w1.ownsRow base e 1 v1 (xs.length + m) (bv (xs ++ l)) → Below base w0 w1 → base ≤ w1.heap.size → wpList P ops Q rest (a.put o.dst v1) w1) :
    wpList P ops Q (o :: rest) a w := by
  rcases hown with hown | ⟨ad, rfl, hb⟩
  · exact wpList_append_bys w0 base hgd s x t e ho ht hinfo v xs.length (bv xs) hs hown A m c l hx hl HB hbase hbytes (fun v1 w1 h1 h2 _ _ h3 => h v1 w1 (by rw [bv_append]; exact h1) h2 h3)
  · obtain ⟨i0, hi, hzz⟩ := Option.map_eq_some_iff.1 hinfo
    simp only [Prod.mk.injEq] at hzz
    obtain ⟨hz0, hz1, hz2⟩ := hzz
    obtain ⟨ad2, rfl, _⟩ := hl.cell 0 hm
    have hll := hl.len
    have hr := run_append_grow (P := P) w t o.type e i0 (.int .u8 0) ht hi hz0 ad xs.length xs.length (bv xs) (by rw [bv_length, hz1, Nat.mul_one]) hb.news ad2 m c (bv l) (by rw [bv_length, hz1, Nat.mul_one, hll]) hl.news (by omega) (by omega) (growslice_fits (by omega) (by rw [hz2]; omega))
    refine wpList_plain hgd fun K hK => ?_
    unfold Oper.wp execOp
    simp only [ho, resolve, invoke, builtin, Sem.run_bind, Sem.run_pure, Result.andThen_ok, List.map_toArray, List.map_cons, List.map_nil, hs, hx, hr]
    have hge := grownCap_ge w (xs.length + m) xs.length e
    have hcm := grownCap_le_maxLen w (xs.length + m) xs.length e (by simp only [maxLen]; omega)
    refine hK _ _ (h _ _ ⟨by rw [bv_length, List.length_append, hll]; omega, .inr ⟨w.heap.size, _, _, rfl, hbase, heap_alloc_new w.drew _, hge, hcm, ?_, ?_⟩⟩ (HB.drew.alloc hbase _) (by simp; omega))
    · simp [bv_length, size_zeroCells, Value.cells, hll]
      omega
    · rw [bv_append]
      simp only [Array.toList_append, List.append_assoc]
      rw [← List.append_assoc, Nat.mul_one, ← show (bv xs ++ bv l).length = xs.length + m by rw [List.length_append, bv_length, bv_length, hll]]
      exact List.take_left
end Go.Proofs.YtggogenhakdhiaaDoor
end
section
set_option linter.unusedVariables false
namespace Go.Proofs.YtggogenhakdhiaaDoor
open Go.RowKit

theorem sum_quiet (w : World) (m : Nat) (A : Option Addr) (n c : Nat) (zs : List UInt8) (hb : Bys w A n zs) (ht : TabAt w) :
    Calls Tryd.prog 100 #[.slice A n c] (w.drewN m) fun e w' => e = .returned (.int .u32 (un (Crc.upd 0#32 zs))) ∧ ∃ k, w' = w.drewN k :=
  (sum_walk (w.drewN m) A n c zs ⟨hb.len, hb.max, hb.cell⟩ ht).mono fun _ _ ⟨he, hw⟩ => ⟨he, m, hw.symm⟩
theorem rsum_quiet (w : World) (m : Nat) (A : Option Addr) (n c : Nat) (zs : List UInt8) (hb : Bys w A n zs) :
    Calls Tryd.prog 96 #[.slice A n c] (w.drewN m) fun e w' => e = .returned (.int .u32 (un (Crc.upd 0#32 zs))) ∧ ∃ k, w' = w.drewN k :=
  (rsum_walk (w.drewN m) A n c zs ⟨hb.len, hb.max, hb.cell⟩).mono fun _ _ ⟨he, hw⟩ => ⟨he, m, hw.symm⟩
theorem upd_quiet (w : World) (m : Nat) (crc : BitVec 32) (A : Option Addr) (n c : Nat) (zs : List UInt8) (hb : Bys w A n zs) (ht : TabAt w) :
    Calls Tryd.prog 99 #[.int .u32 (un crc), .slice A n c] (w.drewN m) fun e w' => e = .returned (.int .u32 (un (Crc.upd crc zs))) ∧ ∃ k, w' = w.drewN k :=
  (upd_walk (w.drewN m) crc A n c zs ⟨hb.len, hb.max, hb.cell⟩ ht).mono fun _ _ ⟨he, hw⟩ => ⟨he, m, hw⟩
theorem rupd_quiet (w : World) (m : Nat) (crc : BitVec 32) (A : Option Addr) (n c : Nat) (zs : List UInt8) (hb : Bys w A n zs) :
    Calls Tryd.prog 110 #[.int .u32 (un crc), .slice A n c] (w.drewN m) fun e w' => e = .returned (.int .u32 (un (Crc.upd crc zs))) ∧ ∃ k, w' = w.drewN k :=
  (rupd_walk (w.drewN m) crc A n c zs ⟨hb.len, hb.max, hb.cell⟩).mono fun _ _ ⟨he, hw⟩ => ⟨he, m, hw⟩

theorem TabAt.below {w w' : World} (h : TabAt w) (hb : Below w.heap.size w w') : TabAt w' := fun i hi => cell_below hb (h i hi)
end Go.Proofs.YtggogenhakdhiaaDoor
end
section
set_option linter.unusedVariables false
set_option linter.unusedSimpArgs false
namespace Go.Proofs.YtggogenhakdhiaaDoor
open Go.RowKit

theorem info_b : (Tryd.prog.info? 5).map (fun i => (i.zero, i.size, i.bytes)) = some (some (.int .u8 0), 1, 1) := by kernel_rfl
theorem bv_byte (q : Nat) : (#[Value.int .u8 ((q : Int) % 256)] : Array Value).toList = bv [UInt8.ofNat (q % 256)] := by
  simp [bv]
theorem bv_byte2 (z j : Nat) : (#[Value.int .u8 ((z : Int) / 2 ^ (8 * j) % 256)] : Array Value).toList = bv [UInt8.ofNat (z / 256 ^ j % 256)] := by
  have h : (2 : Int) ^ (8 * j) = ((256 ^ j : Nat) : Int) := by
    rw [show (256 : Nat) = 2 ^ 8 from rfl, ← Nat.pow_mul]
    simp
  have h2 : (z : Int) / 2 ^ (8 * j) % 256 = ((z / 256 ^ j % 256 : Nat) : Int) := by rw [h]; omega
  rw [h2]
  simp [bv]
theorem RetBys.mk {B : Nat} {E : TypeId} {l : List UInt8} {w w' : World} {A : Option Addr} {c : Nat} (h : w'.ownsRow B E 1 (.slice A l.length c) l.length (bv l)) (hb : Below B w w') : RetBys B E l w (.returned (.slice A l.length c)) w' := ⟨A, c, rfl, h, hb⟩
set_option maxHeartbeats 1000000 in
theorem little_walk (w : World) (base : Nat) (A : Option Addr) (c : Nat) (l : List UInt8) (z k : Nat) (h : OwnOr w base 5 (.slice A l.length c) l) (hk0 : 0 < k) (hb : base ≤ w.heap.size) (hz : z < 18446744073709551616) (hk : l.length + k ≤ 1000000000) :
    Calls Tryd.prog 98 #[.slice A l.length c, .int .u64 z, .int .i64 k] w (RetBys base 5 (l ++ le z k) w) := by
  go_enter Tryd.func98, Tryd.ntmps98
  go_wp2
  go_loopw [0, 1, 8] (fun v n i wr => ∃ j : Nat, j ≤ k ∧ i = .int .i64 j ∧ n = .int .u64 ((z / 256 ^ j : Nat) : Int) ∧ Below base w wr ∧ base ≤ wr.heap.size ∧ ∃ A' c', v = .slice A' (l.length + j) c' ∧ OwnOr wr base 5 (.slice A' (l.length + j) c') (l ++ le z j) ∧ (0 < j → wr.ownsRow base 5 1 (.slice A' (l.length + j) c') (l.length + j) (bv (l ++ le z j)))) (fun _ _ i _ => k - (intOf i).toNat)
  case atStart => exact ⟨0, by omega, rfl, by simp, Below.refl _ _, hb, A, c, rfl, by simpa [le] using h, fun h0 => absurd h0 (by omega)⟩
  case round =>
    obtain ⟨j, hj, rfl, rfl, hBr, hbr, A', c', rfl, hor, hown⟩ := hrel
    have hq : z / 256 ^ j < 18446744073709551616 := Nat.lt_of_le_of_lt (Nat.div_le_self _ _) hz
    have hq2 : z / 256 ^ (j + 1) = z / 256 ^ j / 256 := by rw [Nat.pow_succ, Nat.div_div_eq_div_mul]
    have hs := le_snoc z j
    generalize z / 256 ^ j = q at *
    replace hq2 := Go.Lib.hid hq2
    replace hs := Go.Lib.hid hs
    by_cases hlt : j < k
    · go_wp2_with (at_builtin; refine wpList_append_or (o := ⟨some 14, _, _, _, _, _⟩) w base rfl (.tmp 10) (.tmp 13) 22 5 rfl Tryd.underlying22 info_b _ (l ++ le z j) rfl (hor.alloc _) _ 1 1 [UInt8.ofNat (q % 256)] rfl (Bys.new wr _ _ _ (bv_byte q) (by simp)) (by omega) (hBr.alloc hbr _) (by simp; omega) (by rw [List.length_append, le_length]; omega) ?_; intro v1 w1 hown1 hB1 hs1; rw [List.append_assoc, ← show le z (j + 1) = _ from hs, List.length_append, le_length] at hown1; obtain ⟨A1, c1, hv1⟩ := own_slice hown1; subst hv1)
      go_roundw
      case rel => exact ⟨j + 1, hlt, by go_num, by rw [show z / 256 ^ (j + 1) = q / 256 from hq2]; go_num, hB1, hs1, A1, c1, rfl, .inl (by rw [List.length_append, le_length]; exact hown1), fun _ => hown1⟩
      case measure => simp [intOf]; omega
    · have hjk : j = k := by omega
      subst hjk
      go_wp2
      go_ret
      have hll : (l ++ le z j).length = l.length + j := by rw [List.length_append, le_length]
      exact ⟨A', c', by rw [hll]; rfl, by rw [hll]; exact hown hk0, hBr⟩
set_option maxHeartbeats 1000000 in
theorem low_walk (w : World) (base : Nat) (A : Option Addr) (c : Nat) (l : List UInt8) (z k : Nat) (h : OwnOr w base 5 (.slice A l.length c) l) (hk0 : 0 < k) (hb : base ≤ w.heap.size) (hz : z < 18446744073709551616) (hk : l.length + k ≤ 1000000000) (hk8 : k ≤ 8) :
    Calls Tryd.prog 95 #[.slice A l.length c, .int .u64 z, .int .i64 k] w (RetBys base 5 (l ++ le z k) w) := by
  go_enter Tryd.func95, Tryd.ntmps95
  go_wp2
  go_loopw [0, 7] (fun v i wr => ∃ j : Nat, j ≤ k ∧ i = .int .i64 j ∧ Below base w wr ∧ base ≤ wr.heap.size ∧ ∃ A' c', v = .slice A' (l.length + j) c' ∧ OwnOr wr base 5 (.slice A' (l.length + j) c') (l ++ le z j) ∧ (0 < j → wr.ownsRow base 5 1 (.slice A' (l.length + j) c') (l.length + j) (bv (l ++ le z j)))) (fun _ i _ => k - (intOf i).toNat)
  case atStart => exact ⟨0, by omega, rfl, Below.refl _ _, hb, A, c, rfl, by simpa [le] using h, fun h0 => absurd h0 (by omega)⟩
  case round =>
    obtain ⟨j, hj, rfl, hBr, hbr, A', c', rfl, hor, hown⟩ := hrel
    have hs := le_snoc z j
    replace hs := Go.Lib.hid hs
    by_cases hlt : j < k
    · have hw8 : IntKind.i64.wrap (8 * (j : Int)) = ((8 * j : Nat) : Int) := by rw [IntKind.wrap_i64]; omega
      go_wp2_with (at_builtin; refine wpList_append_or (o := ⟨some 20, _, _, _, _, _⟩) w base rfl (.tmp 13) (.tmp 19) 22 5 rfl Tryd.underlying22 info_b _ (l ++ le z j) rfl (hor.alloc _) _ 1 1 [UInt8.ofNat (z / 256 ^ j % 256)] rfl (Bys.new wr _ _ _ (bv_byte2 z j) (by simp)) (by omega) (hBr.alloc hbr _) (by simp; omega) (by rw [List.length_append, le_length]; omega) ?_; intro v1 w1 hown1 hB1 hs1; rw [List.append_assoc, ← show le z (j + 1) = _ from hs, List.length_append, le_length] at hown1; obtain ⟨A1, c1, hv1⟩ := own_slice hown1; subst hv1)
      go_roundw
      case rel => exact ⟨j + 1, hlt, by go_num, hB1, hs1, A1, c1, rfl, .inl (by rw [List.length_append, le_length]; exact hown1), fun _ => hown1⟩
      case measure => simp [intOf]; omega
    · have hjk : j = k := by omega
      subst hjk
      go_wp2
      go_ret
      have hll : (l ++ le z j).length = l.length + j := by rw [List.length_append, le_length]
      exact ⟨A', c', by rw [hll]; rfl, by rw [hll]; exact hown hk0, hBr⟩
set_option maxHeartbeats 1000000 in
theorem number_walk (w : World) (A : Option Addr) (n c : Nat) (l : List UInt8) (h : Bys w A n l) (hn : n ≤ 8) :
    Calls Tryd.prog 92 #[.slice A n c] w fun e w' => e = .returned (.int .u64 (num l)) ∧ w = w' := by
  have hl := h.len
  go_enter Tryd.func92, Tryd.ntmps92
  go_wp2
  go_loopw [3, 4] (fun v i wr => ∃ j : Nat, j ≤ n ∧ i = .int .i64 ((j : Int) - 1) ∧ v = .int .u64 ((num (l.drop j) : Nat) : Int) ∧ wr = w) (fun _ i _ => (intOf i + 1).toNat)
  case atStart => exact ⟨n, Nat.le_refl _, rfl, by rw [List.drop_eq_nil_of_le (by omega)]; rfl, rfl⟩
  case round =>
    obtain ⟨j, hj, rfl, rfl, rfl⟩ := hrel
    cases j with
    | zero =>
      go_wp2
      go_ret
      exact ⟨by simp, rfl⟩
    | succ i =>
      obtain ⟨ad, rfl, hcell⟩ := h.cell i (by omega)
      have hnd := num_drop l i (by omega)
      have hlt : num (l.drop (i + 1)) < 72057594037927936 := by
        have h1 := num_lt (l.drop (i + 1))
        have h2 : 256 ^ (l.drop (i + 1)).length ≤ 256 ^ 7 := Nat.pow_le_pow_right (by omega) (by rw [List.length_drop]; omega)
        omega
      have hb := (l.getD i 0).toNat_lt
      have hor := or_byte (num (l.drop (i + 1))) (l.getD i 0).toNat hlt hb
      have hwr : IntKind.u64.wrap ((num (l.drop (i + 1)) : Int) * 256) = ((num (l.drop (i + 1)) * 256 : Nat) : Int) := by rw [IntKind.wrap_u64]; omega
      have hj1 : ((i + 1 : Nat) : Int) - 1 = (i : Int) := by omega
      rw [hj1]
      generalize num (l.drop (i + 1)) = a at *
      generalize (l.getD i 0).toNat = b at *
      go_wp2
      go_roundw
      case rel => exact ⟨i, by omega, rfl, by rw [show ((a : Int) * 256) = ((a * 256 : Nat) : Int) by omega, hor, hnd], trivial⟩
      case measure => simp [intOf]
set_option maxHeartbeats 1000000 in
theorem high_walk (w : World) (A : Option Addr) (n c : Nat) (l : List UInt8) (h : Bys w A n l) (hn : n ≤ 8) :
    Calls Tryd.prog 46 #[.slice A n c] w fun e w' => e = .returned (.int .u64 (num l)) ∧ w = w' := by
  have hl := h.len
  go_enter Tryd.func46, Tryd.ntmps46
  go_wp2
  go_loopw [3, 4] (fun v i wr => ∃ j : Nat, j ≤ n ∧ i = .int .i64 ((j : Int) - 1) ∧ v = .int .u64 ((num (l.drop j) : Nat) : Int) ∧ wr = w) (fun _ i _ => (intOf i + 1).toNat)
  case atStart => exact ⟨n, Nat.le_refl _, rfl, by rw [List.drop_eq_nil_of_le (by omega)]; rfl, rfl⟩
  case round =>
    obtain ⟨j, hj, rfl, rfl, rfl⟩ := hrel
    cases j with
    | zero =>
      go_wp2
      go_ret
      exact ⟨by simp, rfl⟩
    | succ i =>
      obtain ⟨ad, rfl, hcell⟩ := h.cell i (by omega)
      have hnd := num_drop l i (by omega)
      have hlt : num (l.drop (i + 1)) < 72057594037927936 := by
        have h1 := num_lt (l.drop (i + 1))
        have h2 : 256 ^ (l.drop (i + 1)).length ≤ 256 ^ 7 := Nat.pow_le_pow_right (by omega) (by rw [List.length_drop]; omega)
        omega
      have hb := (l.getD i 0).toNat_lt
      have hor := or_byte (num (l.drop (i + 1))) (l.getD i 0).toNat hlt hb
      have hwr : IntKind.u64.wrap ((num (l.drop (i + 1)) : Int) * 256) = ((num (l.drop (i + 1)) * 256 : Nat) : Int) := by rw [IntKind.wrap_u64]; omega
      have hj1 : ((i + 1 : Nat) : Int) - 1 = (i : Int) := by omega
      rw [hj1]
      generalize num (l.drop (i + 1)) = a at *
      generalize (l.getD i 0).toNat = b at *
      go_wp2
      go_roundw
      case rel => exact ⟨i, by omega, rfl, by rw [show ((a : Int) * 256) = ((a * 256 : Nat) : Int) by omega, hor, hnd], trivial⟩
      case measure => simp [intOf]
/-- how many sectors a load needs -/
def secs (n : Nat) : Nat := (n + 73) / 64
theorem sectors_walk' (w : World) (n : Nat) (hn : n ≤ 4000000000000000000) : Calls Tryd.prog 59 #[.int .i64 n] w (fun e w' => e = .returned (.int .i64 (secs n : Nat)) ∧ w = w') := by
  have h1 : IntKind.i64.wrap (10 + (n : Int)) = ((n + 10 : Nat) : Int) := by rw [IntKind.wrap_i64]; omega
  have h2 : IntKind.i64.wrap (((n + 10 : Nat) : Int) + 64) = ((n + 74 : Nat) : Int) := by rw [IntKind.wrap_i64]; omega
  have h3 : IntKind.i64.wrap (((n + 74 : Nat) : Int) - 1) = ((n + 73 : Nat) : Int) := by rw [IntKind.wrap_i64]; omega
  have h4 : IntKind.i64.wrap (((n + 73 : Nat) : Int) / 64) = ((secs n : Nat) : Int) := by unfold secs; rw [IntKind.wrap_i64]; omega
  go_enter Tryd.func59, Tryd.ntmps59
  go_wp2
  go_ret
  exact ⟨by show Ending.returned (.int .i64 (((n : Int) + 10 + 64 - 1) / 64)) = _; congr 2; unfold secs; omega, rfl⟩
theorem equal_walk (w : World) (A B : Option Addr) (n m c d : Nat) (l r : List UInt8) (ha : Bys w A n l) (hb : Bys w B m r) : Calls Tryd.prog 43 #[.slice A n c, .slice B m d] w (fun e w' => e = .returned (.bool (decide (l = r))) ∧ w = w') := by
  have s1 := ha.string (P := Tryd.prog) Tryd.underlying22 Tryd.underlying5 Tryd.underlying9 c
  have s2 := hb.string (P := Tryd.prog) Tryd.underlying22 Tryd.underlying5 Tryd.underlying9 d
  by_cases he : l = r
  · subst he
    go_enter Tryd.func43, Tryd.ntmps43
    go_wp2
    go_ret
    exact ⟨by simp, rfl⟩
  · have hbe : ((str l).toList == (str r).toList) = false := by
      unfold str
      rw [ByteArray.toList_mk, ByteArray.toList_mk, beq_eq_false_iff_ne]
      exact he
    have hd : decide (l = r) = false := decide_eq_false he
    rw [hd]
    go_enter Tryd.func43, Tryd.ntmps43
    go_wp2
    go_ret
    exact ⟨by first | rfl | simp, rfl⟩
end Go.Proofs.YtggogenhakdhiaaDoor
end
section
set_option linter.unusedVariables false
set_option linter.unusedSimpArgs false
namespace Go.Proofs.YtggogenhakdhiaaDoor
open Go.RowKit

/-! ### what a call may have turned -/
structure Chg (S : Nat → Prop) (w w' : World) : Prop where
  os : w'.os = w.os
  tape : w'.tape = w.tape
  output : w'.output = w.output
  size : w.heap.size ≤ w'.heap.size
  block : ∀ k, k < w.heap.size → ¬ S k → w'.heap[k]? = w.heap[k]?
section
variable {S T : Nat → Prop} {w w' w'' : World}
theorem Chg.refl (S : Nat → Prop) (w : World) : Chg S w w := ⟨rfl, rfl, rfl, Nat.le_refl _, fun _ _ _ => rfl⟩
theorem Chg.of_below (h : Below w.heap.size w w') : Chg S w w' := ⟨h.os, h.tape, h.output, h.size, fun k hk _ => h.block k hk⟩
theorem Chg.trans (h : Chg S w w') (k : Chg T w' w'') (hT : ∀ j, T j → j < w.heap.size → S j) : Chg S w w'' :=
  ⟨k.os.trans h.os, k.tape.trans h.tape, k.output.trans h.output, Nat.le_trans h.size k.size, fun j hj hs => (k.block j (Nat.lt_of_lt_of_le hj h.size) (fun ht => hs (hT j ht hj))).trans (h.block j hj hs)⟩
theorem Chg.mono (h : Chg S w w') (hS : ∀ j, j < w.heap.size → S j → T j) : Chg T w w' := ⟨h.os, h.tape, h.output, h.size, fun k hk hn => h.block k hk (fun hs => hn (hS k hk hs))⟩
theorem Chg.setCell (h : Chg S w w') {p : Addr} (hp : S p.block) (v : Value) : Chg S w (w'.setCell p v) :=
  ⟨h.os, h.tape, h.output, by simpa [World.setCell] using h.size, fun k hk hn => (Below.heap_setCell w' p v k (fun e => hn (by rw [e]; exact hp))).trans (h.block k hk hn)⟩
theorem Chg.alloc (h : Chg S w w') (o : Obj) : Chg S w (w'.alloc o) :=
  ⟨h.os, h.tape, h.output, Nat.le_trans h.size (by simp), fun k hk hn => (Below.heap_alloc w' o k (Nat.lt_of_lt_of_le hk h.size)).trans (h.block k hk hn)⟩
theorem Chg.drew (h : Chg S w w') : Chg S w w'.drew := ⟨h.os, h.tape, h.output, h.size, h.block⟩
theorem Chg.drewN (h : Chg S w w') (n : Nat) : Chg S w (w'.drewN n) := ⟨h.os, h.tape, h.output, h.size, h.block⟩
theorem Chg.grown {row : Option Nat} (h : Chg S w w') (hg : w'.grownBy w'' row) (hr : ∀ k, row = some k → k < w.heap.size → S k) : Chg S w w'' :=
  ⟨hg.os.trans h.os, hg.tape.trans h.tape, hg.output.trans h.output, Nat.le_trans h.size hg.size, fun k hk hn => (hg.block k (Nat.lt_of_lt_of_le hk h.size) (fun e => hn (hr k e.symm hk))).trans (h.block k hk hn)⟩
theorem Chg.below {B : Nat} (h : Chg S w w') (hB : B ≤ w.heap.size) (hS : ∀ k, k < B → ¬ S k) : Below B w w' := ⟨h.os, h.tape, h.output, h.size, fun k hk => h.block k (Nat.lt_of_lt_of_le hk hB) (hS k hk)⟩
end

/-! ### whole numbers -/
def iv (l : List Int) : List Value := l.map fun z => .int .i64 z
theorem iv_length (l : List Int) : (iv l).length = l.length := by simp [iv]
theorem iv_append (l m : List Int) : iv (l ++ m) = iv l ++ iv m := by simp [iv]
theorem iv_getElem? (l : List Int) (i : Nat) : (iv l)[i]? = l[i]?.map fun z => .int .i64 z := by simp [iv]
theorem iv_one (l : List Int) : ∀ u ∈ iv l, u.oneCell' = true := by
  intro u hu
  obtain ⟨b, _, rfl⟩ := List.mem_map.1 hu
  rfl

/-! ### a disk -/
structure DS where
  img : List UInt8
  trail : List Int
  armed : Int
  down : Bool
/-- A disk of n sectors in memory: its block g (of the type TD), the slice sv of what it holds (m elements of sz cells), the slice tv of its trail. -/
structure Dsk (TD TE sz m : Nat) (w : World) (g : Nat) (sv tv : Value) (n : Nat) (d : DS) : Prop where
  blk : w.heap[g]? = some (.cells #[sv, tv, .int .i64 d.armed, .bool d.down] TD (0, 0))
  sec : w.ownsRow 0 TE sz sv m (bv d.img)
  tr : w.ownsRow 0 3 1 tv d.trail.length (iv d.trail)
  len : d.img.length = 64 * n
  pos : 1 ≤ n
  le : n ≤ 16384
  lo : -1 ≤ d.armed
  hi : d.armed ≤ 9223372036854775807
/-- its blocks -/
def Foot (g : Nat) (sv tv : Value) (k : Nat) : Prop := k = g ∨ sv.ownBlock = some k ∨ tv.ownBlock = some k
section
variable {TD TE sz m g n : Nat} {w w' : World} {sv tv : Value} {d : DS}
theorem Dsk.c0 (h : Dsk TD TE sz m w g sv tv n d) : w.cell? ⟨g, 0, none⟩ = some sv := by rw [cell_of_row w g 0 _ _ _ h.blk]; rfl
theorem Dsk.c1 (h : Dsk TD TE sz m w g sv tv n d) : w.cell? ⟨g, 1, none⟩ = some tv := by rw [cell_of_row w g 1 _ _ _ h.blk]; rfl
theorem Dsk.c2 (h : Dsk TD TE sz m w g sv tv n d) : w.cell? ⟨g, 2, none⟩ = some (.int .i64 d.armed) := by rw [cell_of_row w g 2 _ _ _ h.blk]; rfl
theorem Dsk.c3 (h : Dsk TD TE sz m w g sv tv n d) : w.cell? ⟨g, 3, none⟩ = some (.bool d.down) := by rw [cell_of_row w g 3 _ _ _ h.blk]; rfl
theorem Dsk.fz (h : Dsk TD TE sz m w g sv tv n d) (i : Nat) : w.frozen? ⟨g, i, none⟩ = false := frozen_of_row w g i _ _ h.blk
theorem own_at {base e size k : Nat} {v : Value} {xs : List Value} (h : w.ownsRow base e size v k xs) (hb : ∀ j, v.ownBlock = some j → w'.heap[j]? = w.heap[j]?) : w'.ownsRow base e size v k xs :=
  ⟨h.1, by
    rcases h.2 with h0 | ⟨g, cap, cur, h1, h2, h3, h4⟩
    · exact .inl h0
    · refine .inr ⟨g, cap, cur, h1, h2, (hb g ?_).trans h3, h4⟩
      rw [h1]; rfl⟩
theorem Dsk.lt (h : Dsk TD TE sz m w g sv tv n d) : ∀ k, Foot g sv tv k → k < w.heap.size := by
  intro k hk
  rcases hk with rfl | hk | hk
  · exact (Array.getElem?_eq_some_iff.1 h.blk).1
  · exact own_lt h.sec k hk
  · exact own_lt h.tr k hk
theorem Dsk.same (h : Dsk TD TE sz m w g sv tv n d) (hb : ∀ k, Foot g sv tv k → w'.heap[k]? = w.heap[k]?) : Dsk TD TE sz m w' g sv tv n d :=
  ⟨(hb g (.inl rfl)).trans h.blk, own_at h.sec (fun j hj => hb j (.inr (.inl hj))), own_at h.tr (fun j hj => hb j (.inr (.inr hj))), h.len, h.pos, h.le, h.lo, h.hi⟩
theorem Dsk.chg {S : Nat → Prop} (h : Dsk TD TE sz m w g sv tv n d) (hc : Chg S w w') (hS : ∀ k, Foot g sv tv k → ¬ S k) : Dsk TD TE sz m w' g sv tv n d :=
  h.same fun k hk => hc.block k (h.lt k hk) (hS k hk)
theorem Dsk.below (h : Dsk TD TE sz m w g sv tv n d) (hb : Below w.heap.size w w') : Dsk TD TE sz m w' g sv tv n d := h.same fun k hk => hb.block k (h.lt k hk)
end

/-! ### several cells read at once -/
theorem run_load_cells {P : Program} (w : World) (ad : Addr) (ty : TypeId) (cs : List Value) (d : TypeDesc) (hc : ∀ j v, cs[j]? = some v → w.cell? (ad.add j) = some v)
    (hu : P.underlying ty = some d) (hd : (match d with | .struct _ | .array _ _ => true | _ => false) = true) (hi : (P.info? ty).map (·.size) = some cs.length) :
    (loadVar ty ad).run P w = .ok (.agg cs.toArray) w := by
  have hl : (loadCells ad cs.length).run P w = .ok cs.toArray w := run_loadCells_list (P := P) w ad cs hc
  cases hq : P.info? ty with
  | none => simp [hq] at hi
  | some i =>
    have hs : i.size = cs.length := by simpa [hq] using hi
    have hagg : (isAgg ty).run P w = .ok true w := by
      unfold isAgg
      rw [Sem.run_bind, run_underlying hu w]
      cases d <;> simp_all
    simp [loadVar, Sem.run_bind, hagg, sizeOf, typeInfo, hq, hs, hl]
theorem wpList_load_cells {P : Program} {ops : Array Oper} {rest : List Oper} {o : Oper} {a : Act} {w : World} {Q : Exit → Act → World → Prop} (hgd : o.guard = none) (ty : TypeId) (x : Operand) (ho : o.op = .load ty x)
    (ad : Addr) (hx : a.eval x = .pointer (some ad)) (cs : List Value) (d : TypeDesc) (hc : ∀ j v, cs[j]? = some v → w.cell? (ad.add j) = some v)
    (hu : P.underlying ty = some d) (hd : (match d with | .struct _ | .array _ _ => true | _ => false) = true) (hi : (P.info? ty).map (·.size) = some cs.length)
    (h : wpList P ops Q rest (a.put o.dst (.agg cs.toArray)) w) : wpList P ops Q (o :: rest) a w := by
  refine wpList_plain hgd fun K hK => ?_
  unfold Oper.wp execOp
  simp only [ho, hx, Instr.loadAt, Instr.sureAddr, Sem.run_bind, Sem.run_pure, Result.andThen_ok, run_load_cells w ad ty cs d hc hu hd hi]
  exact hK _ _ h
theorem wpList_store_row {P : Program} {ops : Array Oper} {rest : List Oper} {o : Oper} {a : Act} {w : World} {Q : Exit → Act → World → Prop} (hgd : o.guard = none) (ty : TypeId) (x y : Operand) (ho : o.op = .store ty x y)
    (g : Nat) (cells : Array Value) (hx : a.eval x = .pointer (some ⟨g, 0, none⟩)) (hy : a.eval y = .agg cells)
    (t : TypeId) (old : Array Value) (hg : w.heap[g]? = some (.cells old t (0, 0))) (hi : (P.info? ty).map (·.size) = some cells.size)
    (hold : old.size = cells.size) (h1 : cells.all (·.oneCell') = true)
    (h : wpList P ops Q rest (a.put o.dst undef) (w.setRow g cells)) : wpList P ops Q (o :: rest) a w :=
  wpList_plain hgd fun _ hK => wp_store_row ty x y ho g cells hx hy t old hg hi hold h1 (hK _ _ h)
theorem setRow_alloc (w : World) (cs old : Array Value) (t : TypeId) : (w.alloc (.cells old t)).setRow w.heap.size cs = w.alloc (.cells cs t) := by
  have hm : ∀ (a : Array Obj) (x : Obj) (f : Obj → Obj), (a.push x).modify a.size f = a.push (f x) := by
    intro a x f
    apply Array.ext
    · simp
    · intro i h1 h2
      simp only [Array.getElem_modify, Array.getElem_push]
      by_cases h : a.size = i
      · subst h
        simp
      · have hi : i < a.size := by simp at h1; omega
        simp [h, hi]
  unfold World.setRow
  show ({ w.alloc (.cells old t) with heap := (w.heap.push (.cells old t)).modify w.heap.size _ } : World) = _
  rw [hm]
  rfl
/-- an array is laid into a new variable -/
theorem wpList_store_fresh {P : Program} {ops : Array Oper} {rest : List Oper} {o : Oper} {a : Act} {w : World} {Q : Exit → Act → World → Prop} (hgd : o.guard = none) (ty : TypeId) (x y : Operand) (ho : o.op = .store ty x y)
    (cells : Array Value) (hx : a.eval x = .pointer (some ⟨w.heap.size, 0, none⟩)) (hy : a.eval y = .agg cells)
    (t : TypeId) (old : Array Value) (hi : (P.info? ty).map (·.size) = some cells.size)
    (hold : old.size = cells.size) (h1 : cells.all (·.oneCell') = true)
    (h : wpList P ops Q rest (a.put o.dst undef) (w.alloc (.cells cells t))) : wpList P ops Q (o :: rest) a (w.alloc (.cells old t)) :=
  wpList_store_row hgd ty x y ho w.heap.size cells hx hy t old (heap_alloc_new w _) hi hold h1 (by rw [setRow_alloc]; exact h)
theorem bv_all (l : List UInt8) : (bv l).toArray.all (·.oneCell') = true := by
  rw [Array.all_eq_true_iff_forall_mem]
  intro u hu
  exact bv_one l u (by simpa using hu)
/-- a new row -/
theorem own_new (w : World) (e : TypeId) (l : List UInt8) (n : Nat) (hn : l.length = n) (hm : n ≤ 9223372036854775807) : (w.alloc (.cells (bv l).toArray e)).ownsRow w.heap.size e 1 (.slice (some ⟨w.heap.size, 0, none⟩) n n) n (bv l) := by
  have := World.ownsRow_lit (base := w.heap.size) (e := e) (size := 1) w (bv l).toArray n (Nat.le_refl _) (by simpa [maxLen] using hm) (by simp [bv_length, hn])
  simpa using this
end Go.Proofs.YtggogenhakdhiaaDoor
end
section
set_option linter.unusedVariables false
set_option linter.unusedSimpArgs false
namespace Go.Proofs.YtggogenhakdhiaaDoor
open Go.RowKit

/-- the program's disk, and the document's -/
abbrev PDsk (w : World) (g : Nat) (sv tv : Value) (n : Nat) (d : DS) : Prop := Dsk 82 84 64 n w g sv tv n d
abbrev RDsk (w : World) (g : Nat) (sv tv : Value) (n : Nat) (d : DS) : Prop := Dsk 65 5 1 (64 * n) w g sv tv n d
/-- the call answered so, and turned nothing -/
def Says (v : Value) (w : World) (e : Ending) (w' : World) : Prop := e = .returned v ∧ w = w'
theorem Dsk.sv {TD TE sz m g n : Nat} {w : World} {sv tv : Value} {d : DS} (h : Dsk TD TE sz m w g sv tv n d) : ∃ A c, sv = .slice A m c := own_slice h.sec
theorem Dsk.tv {TD TE sz m g n : Nat} {w : World} {sv tv : Value} {d : DS} (h : Dsk TD TE sz m w g sv tv n d) : ∃ A c, tv = .slice A d.trail.length c := own_slice h.tr

theorem down_walk (w : World) (g n : Nat) (sv tv : Value) (d : DS) (h : PDsk w g sv tv n d) : Calls Tryd.prog 27 #[.pointer (some ⟨g, 0, none⟩)] w (Says (.bool d.down) w) := by
  have c3 := h.c3
  clear h
  go_enter Tryd.func27, Tryd.ntmps27
  go_wp2
  go_ret
  exact ⟨rfl, rfl⟩
theorem writes_walk (w : World) (g n : Nat) (sv tv : Value) (d : DS) (h : PDsk w g sv tv n d) : Calls Tryd.prog 17 #[.pointer (some ⟨g, 0, none⟩)] w (Says (.int .i64 (d.trail.length : Int)) w) := by
  have c1 := h.c1
  obtain ⟨A, c, rfl⟩ := h.tv
  clear h
  go_enter Tryd.func17, Tryd.ntmps17
  go_wp2
  go_ret
  exact ⟨rfl, rfl⟩
theorem sectors_walk (w : World) (g n : Nat) (sv tv : Value) (d : DS) (h : PDsk w g sv tv n d) : Calls Tryd.prog 93 #[.pointer (some ⟨g, 0, none⟩)] w (Says (.int .i64 (n : Int)) w) := by
  have c0 := h.c0
  obtain ⟨A, c, rfl⟩ := h.sv
  clear h
  go_enter Tryd.func93, Tryd.ntmps93
  go_wp2
  go_ret
  exact ⟨rfl, rfl⟩
theorem rsectors_walk (w : World) (g n : Nat) (sv tv : Value) (d : DS) (h : RDsk w g sv tv n d) : Calls Tryd.prog 38 #[.pointer (some ⟨g, 0, none⟩)] w (Says (.int .i64 (n : Int)) w) := by
  have c0 := h.c0
  have hle := h.le
  obtain ⟨A, c, rfl⟩ := h.sv
  clear h
  go_enter Tryd.func38, Tryd.ntmps38
  go_wp2
  go_ret
  refine ⟨?_, rfl⟩
  first | rfl | (simp; done) | (congr 2; omega)

/-- what is behind an act on a disk -/
def Acts (TD TE sz m : Nat) (v : Value) (g n : Nat) (sv tv : Value) (d : DS) (w : World) (e : Ending) (w' : World) : Prop :=
  e = .returned v ∧ ∃ tv', Dsk TD TE sz m w' g sv tv' n d ∧ Chg (Foot g sv tv) w w' ∧ (tv'.ownBlock = tv.ownBlock ∨ ∃ k, tv'.ownBlock = some k ∧ w.heap.size ≤ k)

theorem Dsk.set2 {TD TE sz m g n : Nat} {w : World} {sv tv : Value} {d : DS} (h : Dsk TD TE sz m w g sv tv n d) (ht : TD ≠ TE) (ht2 : TD ≠ 3) (a : Int) (h1 : -1 ≤ a) (h2 : a ≤ 9223372036854775807) :
    Dsk TD TE sz m (w.setCell ⟨g, 2, none⟩ (.int .i64 a)) g sv tv n { d with armed := a } := by
  have hs : sv.ownBlock ≠ some g := own_blk_ne h.sec h.blk (Ne.symm ht)
  have hv : tv.ownBlock ≠ some g := own_blk_ne h.tr h.blk (Ne.symm ht2)
  refine ⟨?_, own_at h.sec (fun j hj => heap_setCell_other _ _ _ _ (fun e => hs (by rw [hj, e]))), own_at h.tr (fun j hj => heap_setCell_other _ _ _ _ (fun e => hv (by rw [hj, e]))), h.len, h.pos, h.le, h1, h2⟩
  rw [heap_setCell_same _ _ _ _ _ _ h.blk]; rfl
theorem Dsk.set3 {TD TE sz m g n : Nat} {w : World} {sv tv : Value} {d : DS} (h : Dsk TD TE sz m w g sv tv n d) (ht : TD ≠ TE) (ht2 : TD ≠ 3) (b : Bool) :
    Dsk TD TE sz m (w.setCell ⟨g, 3, none⟩ (.bool b)) g sv tv n { d with down := b } := by
  have hs : sv.ownBlock ≠ some g := own_blk_ne h.sec h.blk (Ne.symm ht)
  have hv : tv.ownBlock ≠ some g := own_blk_ne h.tr h.blk (Ne.symm ht2)
  refine ⟨?_, own_at h.sec (fun j hj => heap_setCell_other _ _ _ _ (fun e => hs (by rw [hj, e]))), own_at h.tr (fun j hj => heap_setCell_other _ _ _ _ (fun e => hv (by rw [hj, e]))), h.len, h.pos, h.le, h.lo, h.hi⟩
  rw [heap_setCell_same _ _ _ _ _ _ h.blk]; rfl

theorem arm_walk (w : World) (g n : Nat) (sv tv : Value) (d : DS) (k : Int) (hk : k ≤ 9223372036854775807) (hd : PDsk w g sv tv n d) :
    Calls Tryd.prog 23 #[.pointer (some ⟨g, 0, none⟩), .int .i64 k] w (Acts 82 84 64 (n) (.tuple #[]) g n sv tv { d with armed := max (-1) k } w) := by
  have c2 := hd.c2
  have f2 := hd.fz 2
  go_enter Tryd.func23, Tryd.ntmps23
  go_wp2
  · go_end0
    have e : max (-1) k = k := by omega
    rw [e]
    exact ⟨rfl, tv, hd.set2 (by decide) (by decide) k (by omega) hk, (Chg.refl _ _).setCell (.inl rfl) _, .inl rfl⟩
  · go_end0
    have e : max (-1) k = -1 := by omega
    rw [e]
    exact ⟨rfl, tv, hd.set2 (by decide) (by decide) (-1) (by omega) (by omega), (Chg.refl _ _).setCell (.inl rfl) _, .inl rfl⟩
theorem mend_walk (w : World) (g n : Nat) (sv tv : Value) (d : DS) (hd : PDsk w g sv tv n d) :
    Calls Tryd.prog 25 #[.pointer (some ⟨g, 0, none⟩)] w (Acts 82 84 64 (n) (.tuple #[]) g n sv tv { d with armed := -1, down := false } w) := by
  have c2 := hd.c2
  have f2 := hd.fz 2
  have c3 := hd.c3
  have f3 := hd.fz 3
  go_enter Tryd.func25, Tryd.ntmps25
  go_wp2
  go_end0
  exact ⟨rfl, tv, (hd.set3 (by decide) (by decide) false).set2 (by decide) (by decide) (-1) (by omega) (by omega), ((Chg.refl _ _).setCell (.inl rfl) _).setCell (.inl rfl) _, .inl rfl⟩
theorem rarm_walk (w : World) (g n : Nat) (sv tv : Value) (d : DS) (k : Int) (hk : k ≤ 9223372036854775807) (hd : RDsk w g sv tv n d) :
    Calls Tryd.prog 66 #[.pointer (some ⟨g, 0, none⟩), .int .i64 k] w (Acts 65 5 1 (64 * n) (.tuple #[]) g n sv tv { d with armed := max (-1) k } w) := by
  have c2 := hd.c2
  have f2 := hd.fz 2
  go_enter Tryd.func66, Tryd.ntmps66
  go_wp2
  · go_end0
    have e : max (-1) k = k := by omega
    rw [e]
    exact ⟨rfl, tv, hd.set2 (by decide) (by decide) k (by omega) hk, (Chg.refl _ _).setCell (.inl rfl) _, .inl rfl⟩
  · go_end0
    have e : max (-1) k = -1 := by omega
    rw [e]
    exact ⟨rfl, tv, hd.set2 (by decide) (by decide) (-1) (by omega) (by omega), (Chg.refl _ _).setCell (.inl rfl) _, .inl rfl⟩
theorem rmend_walk (w : World) (g n : Nat) (sv tv : Value) (d : DS) (hd : RDsk w g sv tv n d) :
    Calls Tryd.prog 67 #[.pointer (some ⟨g, 0, none⟩)] w (Acts 65 5 1 (64 * n) (.tuple #[]) g n sv tv { d with armed := -1, down := false } w) := by
  have c2 := hd.c2
  have f2 := hd.fz 2
  have c3 := hd.c3
  have f3 := hd.fz 3
  go_enter Tryd.func67, Tryd.ntmps67
  go_wp2
  go_end0
  exact ⟨rfl, tv, (hd.set3 (by decide) (by decide) false).set2 (by decide) (by decide) (-1) (by omega) (by omega), ((Chg.refl _ _).setCell (.inl rfl) _).setCell (.inl rfl) _, .inl rfl⟩
end Go.Proofs.YtggogenhakdhiaaDoor
end
section
set_option linter.unusedVariables false
set_option linter.unusedSimpArgs false
namespace Go.Proofs.YtggogenhakdhiaaDoor
open Go.RowKit

theorem infoSec : (Tryd.prog.info? 84).map (·.size) = some 64 := by kernel_rfl
theorem info_u8 : (Tryd.prog.info? 5).map (fun i => (i.zero, i.size, i.bytes)) = some (some (.int .u8 0), 1, 1) := by kernel_rfl
theorem info_int : (Tryd.prog.info? 3).map (fun i => (i.zero, i.size, i.bytes)) = some (some (.int .i64 0), 1, 8) := by kernel_rfl
/-- a sector -/
def secOf (img : List UInt8) (at_ : Nat) : List UInt8 := (img.drop (64 * at_)).take 64
theorem secOf_length {img : List UInt8} {n at_ : Nat} (h : img.length = 64 * n) (ha : at_ < n) : (secOf img at_).length = 64 := by
  unfold secOf
  rw [List.length_take, List.length_drop]
  omega
/-- bytes and a number are returned -/
def RetOpen (B : Nat) (E : TypeId) (r : List UInt8 × Int) (w : World) (e : Ending) (w' : World) : Prop :=
  ∃ A c, e = .returned (.tuple #[.slice A r.1.length c, .int .i64 r.2]) ∧ w'.ownsRow B E 1 (.slice A r.1.length c) r.1.length (bv r.1) ∧ Below B w w'
theorem RetOpen.nil (B : Nat) (E : TypeId) (k : Int) {w w' : World} (hb : Below B w w') : RetOpen B E ([], k) w (.returned (.tuple #[.slice none 0 0, .int .i64 k])) w' :=
  ⟨none, 0, rfl, own_nil _ _ _ _, hb⟩
theorem RetOpen.of {B : Nat} {E : TypeId} {l : List UInt8} {k : Int} {w w' : World} {v : Value} {n : Nat} {xs : List Value} (h : w'.ownsRow B E 1 v n xs) (hx : xs = bv l) (hb : Below B w w') : RetOpen B E (l, k) w (.returned (.tuple #[v, .int .i64 k])) w' := by
  subst hx
  obtain ⟨A, c, rfl⟩ := own_slice h
  have hn : n = l.length := by have := h.1; rw [bv_length] at this; omega
  subst hn
  exact ⟨A, c, rfl, h, hb⟩
/-- what Read answers -/
def readOf (n : Nat) (d : DS) (at_ : Int) : List UInt8 × Int := if 0 ≤ at_ ∧ at_ < n then (secOf d.img at_.toNat, 0) else ([], 2)
theorem sec_cells {w : World} {E sz m s c : Nat} {img : List UInt8} {n k : Nat} (h : w.ownsRow 0 E sz (.slice (some ⟨s, 0, none⟩) m c) m (bv img)) (hl : img.length = 64 * n) (hk : k < n) (hp : 0 < m) :
    ∀ j v, (bv (secOf img k))[j]? = some v → w.cell? ⟨s, 64 * k + j, none⟩ = some v := by
  intro j v hv
  have hc := h.cells (g := s) rfl (64 * k + j) v (by
    rw [bv_getElem?] at hv ⊢
    unfold secOf at hv
    rw [List.getElem?_take] at hv
    by_cases hj : j < 64
    · rw [if_pos hj, List.getElem?_drop] at hv
      exact hv
    · rw [if_neg hj] at hv; simp at hv)
  rwa [add_plain] at hc

theorem sec_cells2 {w : World} {s k : Nat} {cs : List Value} (h : ∀ j v, cs[j]? = some v → w.cell? ⟨s, 64 * k + j, none⟩ = some v) : ∀ j v, cs[j]? = some v → w.cell? ((⟨s, k * 64, none⟩ : Addr).add j) = some v := by
  intro j v hv
  have ha : (⟨s, k * 64, none⟩ : Addr).add j = ⟨s, 64 * k + j, none⟩ := by
    unfold Addr.add
    split
    · subst_vars; simp; try omega
    · simp; omega
  rw [ha]
  exact h j v hv
theorem bys_at {w : World} {ad : Addr} {n : Nat} {l : List UInt8} (hl : l.length = n) (h : ∀ j v, (bv l)[j]? = some v → w.cell? (ad.add j) = some v) (hm : n ≤ 9223372036854775807 := by omega) : Bys w (some ad) n l :=
  ⟨hl, hm, fun i hi => ⟨_, rfl, h i _ (by rw [bv_getElem?, List.getD_eq_getElem?_getD, List.getElem?_eq_getElem (by omega)]; rfl)⟩⟩
set_option maxHeartbeats 1000000 in
set_option maxRecDepth 20000 in
theorem read_in (w : World) (g n : Nat) (sv tv : Value) (d : DS) (k : Nat) (h : PDsk w g sv tv n d) (hk : k < n) :
    Calls Tryd.prog 42 #[.pointer (some ⟨g, 0, none⟩), .int .i64 k] w (RetOpen w.heap.size 84 (secOf d.img k, 0) w) := by
  have c0 := h.c0
  have hle := h.le
  obtain ⟨s, c, hv, _, hs, hc1, hc2, _⟩ := own_some h.sec h.pos
  subst hv
  have hcell := sec_cells h.sec h.len hk h.pos
  have hl64 := secOf_length h.len hk
  go_enter Tryd.func42, Tryd.ntmps42
  go_upto_region 3 with fail
  go_wp2_with (first
    | (refine wpList_load_cells (o := ⟨some 24, _, _, _, _, _⟩) rfl 84 (.tmp 23) rfl ⟨s, k * 64, none⟩ rfl (bv (secOf d.img k)) _ (sec_cells2 hcell) Tryd.underlying84 rfl (by rw [infoSec, bv_length, hl64]) ?_)
    | (refine wpList_store_fresh (o := ⟨none, _, _, _, _, _⟩) rfl 84 (.tmp 6) (.tmp 24) rfl (bv (secOf d.img k)).toArray rfl rfl _ _ (by rw [infoSec]; simp [bv_length, hl64]) (by simp [bv_length, hl64]) (bv_all _) ?_))
  go_ret2
  exact RetOpen.of (own_new w _ _ 64 hl64 (by omega)) rfl ((Below.refl _ _).alloc (Nat.le_refl _) _)

theorem read_out (w : World) (g n : Nat) (sv tv : Value) (d : DS) (z : Int) (h : PDsk w g sv tv n d) (hz : ¬ (0 ≤ z ∧ z < n)) :
    Calls Tryd.prog 42 #[.pointer (some ⟨g, 0, none⟩), .int .i64 z] w (RetOpen w.heap.size 84 ([], 2) w) := by
  have c0 := h.c0
  obtain ⟨A, c, rfl⟩ := h.sv
  clear h
  by_cases hlo : z < 0
  · go_enter Tryd.func42, Tryd.ntmps42
    go_wp2
    go_ret2
    exact RetOpen.nil _ _ _ (Below.refl _ _)
  · have hlo' : 0 ≤ z := by omega
    have hhi : (n : Int) ≤ z := by omega
    go_enter Tryd.func42, Tryd.ntmps42
    go_wp2
    go_ret2
    exact RetOpen.nil _ _ _ (Below.refl _ _)
theorem read_walk (w : World) (g n : Nat) (sv tv : Value) (d : DS) (z : Int) (h : PDsk w g sv tv n d) :
    Calls Tryd.prog 42 #[.pointer (some ⟨g, 0, none⟩), .int .i64 z] w (RetOpen w.heap.size 84 (readOf n d z) w) := by
  unfold readOf
  by_cases hz : 0 ≤ z ∧ z < n
  · rw [if_pos hz]
    obtain ⟨k, rfl⟩ := Int.eq_ofNat_of_zero_le hz.1
    exact read_in w g n sv tv d k h (by omega)
  · rw [if_neg hz]
    exact read_out w g n sv tv d z h hz

end Go.Proofs.YtggogenhakdhiaaDoor
end
section
set_option linter.unusedVariables false
set_option linter.unusedSimpArgs false
namespace Go.Proofs.YtggogenhakdhiaaDoor
open Go.RowKit

/-- what Write does, and answers -/
def writeOf (n : Nat) (d : DS) (at_ : Int) (b : List UInt8) : DS × Int :=
  if ¬ (0 ≤ at_ ∧ at_ < n) then (d, 2)
  else if b.length ≠ 64 then (d, 9)
  else if d.down = true ∨ d.armed = 0 then ({ d with down := true }, 50)
  else ({ img := splice d.img (64 * at_.toNat) b, trail := d.trail ++ [at_], armed := if 0 < d.armed then d.armed - 1 else d.armed, down := false }, 0)
theorem writeOf_n (n : Nat) (d : DS) (k : Nat) (b : List UInt8) (hk : k < n) (hb : b.length = 64) (hd : d.down = false) (ha : d.armed ≠ 0) :
    writeOf n d k b = ({ img := splice d.img (64 * k) b, trail := d.trail ++ [(k : Int)], armed := if 0 < d.armed then d.armed - 1 else d.armed, down := false }, 0) := by
  unfold writeOf
  rw [if_neg (by omega), if_neg (by omega), if_neg (by simp [hd, ha])]
  simp

theorem bv_splice (l m : List UInt8) (o : Nat) : bv (splice l o m) = splice (bv l) o (bv m) := by
  unfold splice bv
  simp
theorem splice_append {α : Type} (A B X : List α) (o : Nat) (h : o + X.length ≤ A.length) : splice (A ++ B) o X = splice A o X ++ B := by
  unfold splice
  rw [List.take_append_of_le_length (by omega), List.drop_append_of_le_length (by omega)]
  simp
theorem take_splice {α : Type} (L X : List α) (o m : Nat) (h : o + X.length ≤ m) (hL : m ≤ L.length) : (splice L o X).take m = splice (L.take m) o X := by
  have hl : (L.take m).length = m := by simp; omega
  conv => lhs; rw [← List.take_append_drop m L]
  rw [splice_append _ _ _ _ (by rw [hl]; exact h)]
  exact List.take_left' (by rw [length_splice _ _ _ (by rw [hl]; exact h), hl])
/-- bytes do not lie among a disk's own four cells -/
theorem Dsk.bys {TD TE sz m g n i k : Nat} {w : World} {sv tv : Value} {d : DS} {A : Option Addr} {l : List UInt8} (h : Dsk TD TE sz m w g sv tv n d) (hb : Bys w A k l) (v : Value) : Bys (w.setCell ⟨g, i, none⟩ v) A k l := by
  obtain ⟨As, cs, hs⟩ := own_slice h.sec
  obtain ⟨At, ct, ht⟩ := own_slice h.tr
  refine ⟨hb.len, hb.max, fun j hj => ?_⟩
  obtain ⟨ad, e, hc⟩ := hb.cell j hj
  refine ⟨ad, e, ?_⟩
  have hne : (ad.add j).block ≠ g := by
    intro hg
    unfold World.cell? at hc
    rw [hg, h.blk] at hc
    simp only at hc
    split at hc
    · cases hc
    · subst hs ht
      generalize (ad.add j).off = o at hc
      match o, hc with
      | 0, hc => simp at hc
      | 1, hc => simp at hc
      | 2, hc => simp at hc
      | 3, hc => simp at hc
      | o + 4, hc => simp at hc
  rw [← hc]
  exact World.cell?_of_block (heap_setCell_other _ _ _ _ hne)
theorem setRow_other' (w : World) (g j : Nat) (cs : Array Value) (h : j ≠ g) : (w.setRow g cs).heap[j]? = w.heap[j]? := setRow_other w g j cs h
theorem chg_setRow {S : Nat → Prop} {w w' : World} (h : Chg S w w') {s : Nat} (hs : S s) (cs : Array Value) : Chg S w (w'.setRow s cs) :=
  ⟨h.os, h.tape, h.output, by simpa using h.size, fun k hk hn => (setRow_other w' s k cs (fun e => hn (by rw [e]; exact hs))).trans (h.block k hk hn)⟩
/-- the row of what a disk holds, and what it is when bytes are laid over it -/
theorem Dsk.row {TD TE sz m g n s c : Nat} {w : World} {tv : Value} {d : DS} (h : Dsk TD TE sz m w g (.slice (some ⟨s, 0, none⟩) m c) tv n d) (hp : 0 < m) (ht : TD ≠ TE) (ht2 : TE ≠ 3) (hsz : m * sz = 64 * n) :
    ∃ cur : List Value, w.heap[s]? = some (.cells cur.toArray TE (0, 0)) ∧ 64 * n ≤ cur.length ∧ ∀ (k : Nat) (b : List UInt8), k < n → b.length = 64 →
      Dsk TD TE sz m (w.setRow s (cur.take (64 * k) ++ (bv b ++ cur.drop (64 * k + (bv b).length))).toArray) g (.slice (some ⟨s, 0, none⟩) m c) tv n { d with img := splice d.img (64 * k) b } := by
  rcases h.sec.2 with ⟨h0, _⟩ | ⟨s', c', cur, h0, _, hh, hmc, hcm, hcs, htk⟩
  · cases h0
  · cases h0
    rw [hsz] at htk
    have hsz2 : 64 * n ≤ cur.size := by
      rw [hcs, ← hsz]
      exact Nat.mul_le_mul_right _ hmc
    refine ⟨cur.toList, by simpa using hh, by simpa using hsz2, fun k b hk hb => ?_⟩
    have hbl : (bv b).length = 64 := by rw [bv_length, hb]
    have hgs : g ≠ s := by
      intro e
      subst e
      have := h.blk
      rw [hh] at this
      injection this with this
      injection this with _ this
      exact ht this.symm
    have htv : tv.ownBlock ≠ some s := own_blk_ne h.tr hh (Ne.symm ht2)
    refine ⟨(setRow_other w s g _ hgs).trans h.blk, ⟨?_, .inr ⟨s, c, _, rfl, Nat.zero_le _, setRow_heap w s cur _ TE (0, 0) hh, hmc, hcm, ?_, ?_⟩⟩, own_at h.tr (fun j hj => setRow_other w s j _ (fun e => htv (by rw [hj, e]))), ?_, h.pos, h.le, h.lo, h.hi⟩
    · rw [bv_length, hsz]
      rw [length_splice _ _ _ (by rw [hb, h.len]; omega), h.len]
    · rw [← hcs]
      have : (splice cur.toList (64 * k) (bv b)).length = cur.size := by
        rw [length_splice _ _ _ (by rw [hbl]; simp; omega)]; simp
      simpa [splice] using this
    · have e : ((cur.toList.take (64 * k) ++ (bv b ++ cur.toList.drop (64 * k + (bv b).length))).toArray).toList = splice cur.toList (64 * k) (bv b) := by simp [splice]
      rw [e, hsz, take_splice _ _ _ _ (by rw [hbl]; omega) (by simpa using hsz2), htk, bv_splice]
    · rw [length_splice _ _ _ (by rw [hb, h.len]; omega), h.len]
theorem Dsk.blk5 {TD TE sz m g n : Nat} {w w' : World} {sv tv : Value} {d : DS} (h : Dsk TD TE sz m w g sv tv n d) (ht3 : TD ≠ 3) (hg : w.grownBy w' tv.ownBlock) :
    w'.heap[g]? = some (.cells #[sv, tv, .int .i64 d.armed, .bool d.down] TD (0, 0)) := by
  have hv : tv.ownBlock ≠ some g := own_blk_ne h.tr h.blk (Ne.symm ht3)
  exact (hg.block g (h.lt g (.inl rfl)) (fun e => hv e.symm)).trans h.blk
/-- the trail grows -/
theorem Dsk.trl {TD TE sz m g n : Nat} {w w' : World} {sv tv tv' : Value} {d : DS} {z : Int} (h : Dsk TD TE sz m w g sv tv n d) (ht : TD ≠ TE) (ht2 : TE ≠ 3) (ht3 : TD ≠ 3)
    (hg : w.grownBy w' tv.ownBlock) (ho : w'.ownsRow 0 3 1 tv' (d.trail.length + 1) (iv d.trail ++ [.int .i64 z])) :
    Dsk TD TE sz m (w'.setCell ⟨g, 1, none⟩ tv') g sv tv' n { d with trail := d.trail ++ [z] } := by
  have hs : sv.ownBlock ≠ some g := own_blk_ne h.sec h.blk (Ne.symm ht)
  have hv : tv.ownBlock ≠ some g := own_blk_ne h.tr h.blk (Ne.symm ht3)
  have hb' : w'.heap[g]? = some (.cells #[sv, tv, .int .i64 d.armed, .bool d.down] TD (0, 0)) := (hg.block g (h.lt g (.inl rfl)) (fun e => hv e.symm)).trans h.blk
  have hv' : tv'.ownBlock ≠ some g := own_blk_ne ho hb' (Ne.symm ht3)
  have hst : ∀ j, sv.ownBlock = some j → some j ≠ tv.ownBlock := by
    intro j hj he
    rcases h.sec.2 with ⟨h0, _⟩ | ⟨s', c', cur, h0, _, hh, _⟩
    · rw [h0] at hj; simp [Value.ownBlock] at hj
    · have : s' = j := by rw [h0] at hj; simpa [Value.ownBlock] using hj
      subst this
      exact own_blk_ne h.tr hh (Ne.symm ht2) he.symm
  refine ⟨?_, own_at h.sec (fun j hj => (heap_setCell_other _ _ _ _ (fun e => hs (by rw [hj, e]))).trans (hg.block j (h.lt j (.inr (.inl hj))) (hst j hj))), ?_, h.len, h.pos, h.le, h.lo, h.hi⟩
  · rw [heap_setCell_same _ _ _ _ _ _ hb']; rfl
  · have := own_at (w' := w'.setCell ⟨g, 1, none⟩ tv') ho (fun j hj => heap_setCell_other _ _ _ _ (fun e => hv' (by rw [hj, e])))
    simpa [iv_append, iv] using this

theorem infoU8 : (Tryd.prog.info? 5).map (·.size) = some 1 := by kernel_rfl
theorem writeOf_out (n : Nat) (d : DS) (z : Int) (b : List UInt8) (hz : ¬ (0 ≤ z ∧ z < n)) : writeOf n d z b = (d, 2) := by
  unfold writeOf
  rw [if_pos hz]
theorem writeOf_long (n : Nat) (d : DS) (z : Int) (b : List UInt8) (hz : 0 ≤ z ∧ z < n) (hb : b.length ≠ 64) : writeOf n d z b = (d, 9) := by
  unfold writeOf
  rw [if_neg (by omega), if_pos hb]
theorem writeOf_down (n : Nat) (d : DS) (z : Int) (b : List UInt8) (hz : 0 ≤ z ∧ z < n) (hb : b.length = 64) (hd : d.down = true ∨ d.armed = 0) : writeOf n d z b = ({ d with down := true }, 50) := by
  unfold writeOf
  rw [if_neg (by omega), if_neg (by omega), if_pos hd]
end Go.Proofs.YtggogenhakdhiaaDoor
end
section
set_option linter.unusedVariables false
set_option linter.unusedSimpArgs false
namespace Go.Proofs.YtggogenhakdhiaaDoor
open Go.RowKit

set_option maxHeartbeats 1000000 in
theorem write_ok (w : World) (g n : Nat) (sv tv : Value) (d : DS) (k : Nat) (A : Option Addr) (c : Nat) (b : List UInt8) (h : PDsk w g sv tv n d) (hk : k < n) (hb : Bys w A 64 b) (hd : d.down = false) (ha : d.armed ≠ 0) (ht : d.trail.length ≤ 1000000) :
    Calls Tryd.prog 11 #[.pointer (some ⟨g, 0, none⟩), .int .i64 k, .slice A 64 c] w (Acts 82 84 64 n (.int .i64 0) g n sv tv (writeOf n d k b).1 w) := by
  have hblen := hb.len
  obtain ⟨D, hD⟩ : ∃ D, D = (writeOf n d k b).1 := ⟨_, rfl⟩
  rw [← hD]
  rw [writeOf_n n d k b hk hb.len hd ha] at hD
  replace hD := Go.Lib.hid hD
  have c0 := h.c0
  have c1 := h.c1
  have c2 := h.c2
  have c3 := h.c3
  rw [hd] at c3
  have f1 := h.fz 1
  have f2 := h.fz 2
  have f3 := h.fz 3
  have hle := h.le
  have ha' : (d.armed == 0) = false := by simpa using ha
  obtain ⟨s, cs, hv, _, hs, hc1, hc2, _⟩ := own_some h.sec h.pos
  subst hv
  obtain ⟨ad, rfl, _⟩ := hb.cell 0 (by omega)
  go_enter Tryd.func11, Tryd.ntmps11
  go_upto_region 8 with fail
  have h3 := h.set3 (by decide) (by decide) false
  have hC3 : Chg (Foot g (.slice (some ⟨s, 0, none⟩) n cs) tv) w (w.setCell ⟨g, 3, none⟩ (.bool false)) := (Chg.refl _ _).setCell (.inl rfl) _
  have hb3 := h.bys (i := 3) hb (.bool false)
  clear c0 c1 c2 c3 f1 f2 f3 h hb
  generalize w.setCell ⟨g, 3, none⟩ (.bool false) = w3 at h3 hC3 hb3
  have c0 := h3.c0
  have hp := h3.pos
  obtain ⟨cur, hcur, hcl, hset⟩ := h3.row hp (by decide) (by decide) (by omega)
  have h4 := hset k b hk hblen
  rw [Nat.mul_comm 64 k] at h4
  have hbl : (bv b).length = 64 := by rw [bv_length, hblen]
  replace hblen := Go.Lib.hid hblen
  go_upto_region 9 with ((with_reducible show wpList _ _ _ (Oper.mk (some 49) _ _ _ _ _ :: _) _ _); refine wpList_copy_own (o := ⟨some 49, _, _, _, _, _⟩) rfl (.tmp 47) (.tmp 48) 22 22 rfl 5 Tryd.underlying22 infoU8 s (k * 64) 64 64 ad 64 c rfl rfl cur.toArray 84 hcur (bv b) (by rw [hbl]; rfl) hb3.news (by rw [hbl]; simp; omega) (bv_one b) ?_)
  have hC4 := chg_setRow hC3 (s := s) (.inr (.inl rfl)) (cur.take (k * 64) ++ (bv b ++ cur.drop (k * 64 + (bv b).length))).toArray
  clear hcur hset hb3 hcl c0 h3 hC3
  generalize w3.setRow s (cur.take (k * 64) ++ (bv b ++ cur.drop (k * 64 + (bv b).length))).toArray = w4 at h4 hC4
  have c1 := h4.c1
  have hgl := h4.lt g (.inl rfl)
  have htr := h4.tr
  obtain ⟨i0, hi0, hz0, hz1, hz2⟩ := info_parts info_int
  go_upto_region 10 with ((at_builtin; go_must (refine wpList_append_own_at (o := ⟨some 57, _, _, _, _, _⟩) _ rfl (.tmp 54) (.tmp 56) 63 rfl 0 3 i0 (.int .i64 0) 1 8 Tryd.underlying63 hi0 hz0 hz1 hz2 rfl (by omega) tv d.trail.length (iv d.trail) rfl (htr.alloc _) ⟨w4.heap.size, 0, none⟩ 1 1 [.int .i64 (k : Int)] rfl rfl (World.news_of_block (cs := #[.int .i64 (k : Int)]) (t := 3) (fr := (0, 0)) (heap_alloc_new w4 _)) (by intro u hu; simp at hu; subst hu; rfl) (by simp only [maxLen]; omega) (by omega) (Nat.zero_le _) ?_); go_must (intro v5 w5 hown5 hg5 _ hat5; obtain ⟨A5, c5, e5⟩ := own_slice hown5; subst e5; have hg6 := World.grownBy.trans (World.grownBy_alloc w4 _ _) hg5; have hb5 := h4.blk5 (by decide) hg6; have x1 := cell_of_row w5 g 1 _ _ _ hb5; have x2 := cell_of_row w5 g 2 _ _ _ hb5; have y1 := frozen_of_row w5 g 1 _ _ hb5; have y2 := frozen_of_row w5 g 2 _ _ hb5; simp at x1 x2)))
  have h6 := h4.trl (z := (k : Int)) (by decide) (by decide) (by decide) hg6 hown5
  have hC6 : Chg (Foot g (.slice (some ⟨s, 0, none⟩) n cs) tv) w (w5.setCell ⟨g, 1, none⟩ (.slice A5 (d.trail.length + 1) c5)) := (hC4.grown hg6 (fun j hj _ => .inr (.inr hj))).setCell (.inl rfl) _
  have hnew : (Value.slice A5 (d.trail.length + 1) c5).ownBlock = tv.ownBlock ∨ ∃ j, (Value.slice A5 (d.trail.length + 1) c5).ownBlock = some j ∧ w.heap.size ≤ j := by
    rcases hat5 with h0 | h0
    · exact .inl h0
    · exact .inr ⟨_, h0, Nat.le_trans hC4.size (by simp)⟩
  clear x1 x2 y1 y2 hb5 hg5 hg6 hown5 hat5 c1 htr h4 hC4 hgl
  generalize (Value.slice A5 (d.trail.length + 1) c5) = tv5 at h6 hC6 hnew
  generalize w5.setCell ⟨g, 1, none⟩ tv5 = w6 at h6 hC6
  have c2 := h6.c2
  have f2 := h6.fz 2
  have hlo : -1 ≤ d.armed := h6.lo
  have hhi : d.armed ≤ 9223372036854775807 := h6.hi
  simp only at c2 f2
  by_cases hpos : 0 < d.armed
  · go_wp2
    go_ret
    refine ⟨rfl, tv5, ?_, hC6.setCell (.inl rfl) _, hnew⟩
    rw [hD.out, if_pos hpos, Nat.mul_comm 64 k]
    exact h6.set2 (by decide) (by decide) (d.armed - 1) (by omega) (by omega)
  · go_wp2
    go_ret
    refine ⟨rfl, tv5, ?_, hC6, hnew⟩
    rw [hD.out, if_neg (by omega), Nat.mul_comm 64 k]
    exact h6

theorem write_out (w : World) (g n : Nat) (sv tv : Value) (d : DS) (z : Int) (A : Option Addr) (m c : Nat) (b : List UInt8) (h : PDsk w g sv tv n d) (hz : ¬ (0 ≤ z ∧ z < n)) :
    Calls Tryd.prog 11 #[.pointer (some ⟨g, 0, none⟩), .int .i64 z, .slice A m c] w (Acts 82 84 64 n (.int .i64 2) g n sv tv (writeOf n d z b).1 w) := by
  rw [writeOf_out n d z b hz]
  have c0 := h.c0
  obtain ⟨As, cs, hv⟩ := h.sv
  subst hv
  by_cases hlo : z < 0
  · go_enter Tryd.func11, Tryd.ntmps11
    go_wp2
    go_ret
    exact ⟨rfl, tv, h, Chg.refl _ _, .inl rfl⟩
  · have hlo' : 0 ≤ z := by omega
    have hhi : (n : Int) ≤ z := by omega
    go_enter Tryd.func11, Tryd.ntmps11
    go_wp2
    go_ret
    exact ⟨rfl, tv, h, Chg.refl _ _, .inl rfl⟩
theorem write_long (w : World) (g n : Nat) (sv tv : Value) (d : DS) (k : Nat) (A : Option Addr) (m c : Nat) (b : List UInt8) (h : PDsk w g sv tv n d) (hk : k < n) (hb : b.length = m) (hm : m ≠ 64) (hm2 : m ≤ 9223372036854775807) :
    Calls Tryd.prog 11 #[.pointer (some ⟨g, 0, none⟩), .int .i64 k, .slice A m c] w (Acts 82 84 64 n (.int .i64 9) g n sv tv (writeOf n d k b).1 w) := by
  rw [writeOf_long n d k b (by omega) (by omega)]
  have c0 := h.c0
  obtain ⟨As, cs, hv⟩ := h.sv
  subst hv
  have hm3 : ((m : Int) != 64) = true := by simp; omega
  clear hb
  go_enter Tryd.func11, Tryd.ntmps11
  go_wp2
  go_ret
  exact ⟨rfl, tv, h, Chg.refl _ _, .inl rfl⟩
theorem write_down (w : World) (g n : Nat) (sv tv : Value) (d : DS) (k : Nat) (A : Option Addr) (c : Nat) (b : List UInt8) (h : PDsk w g sv tv n d) (hk : k < n) (hb : b.length = 64) (hd : d.down = true ∨ d.armed = 0) :
    Calls Tryd.prog 11 #[.pointer (some ⟨g, 0, none⟩), .int .i64 k, .slice A 64 c] w (Acts 82 84 64 n (.int .i64 50) g n sv tv (writeOf n d k b).1 w) := by
  rw [writeOf_down n d k b (by omega) hb hd]
  have c0 := h.c0
  have c2 := h.c2
  have c3 := h.c3
  have f3 := h.fz 3
  have h3 := h.set3 (by decide) (by decide) true
  obtain ⟨As, cs, hv⟩ := h.sv
  subst hv
  clear hb
  by_cases hdn : d.down = true
  · rw [hdn] at c3
    clear hd
    go_enter Tryd.func11, Tryd.ntmps11
    go_wp2
    go_ret
    exact ⟨rfl, tv, h3, (Chg.refl _ _).setCell (.inl rfl) _, .inl rfl⟩
  · have ha : d.armed = 0 := by rcases hd with hd | hd; exact absurd hd hdn; exact hd
    rw [ha] at c2
    have hdf : d.down = false := by simpa using hdn
    rw [hdf] at c3
    clear hd hdn hdf ha
    go_enter Tryd.func11, Tryd.ntmps11
    go_wp2
    go_ret
    exact ⟨rfl, tv, h3, (Chg.refl _ _).setCell (.inl rfl) _, .inl rfl⟩
/-- ████ every Write ████ -/
theorem write_walk (w : World) (g n : Nat) (sv tv : Value) (d : DS) (z : Int) (A : Option Addr) (m c : Nat) (b : List UInt8) (h : PDsk w g sv tv n d) (hb : Bys w A m b) (ht : d.trail.length ≤ 1000000) :
    Calls Tryd.prog 11 #[.pointer (some ⟨g, 0, none⟩), .int .i64 z, .slice A m c] w (Acts 82 84 64 n (.int .i64 (writeOf n d z b).2) g n sv tv (writeOf n d z b).1 w) := by
  by_cases hz : 0 ≤ z ∧ z < n
  · obtain ⟨k, rfl⟩ := Int.eq_ofNat_of_zero_le hz.1
    by_cases hm : m = 64
    · subst hm
      by_cases hd : d.down = true ∨ d.armed = 0
      · have := write_down w g n sv tv d k A c b h (by omega) hb.len hd
        rwa [show (writeOf n d (k : Int) b).2 = 50 by rw [writeOf_down n d k b hz hb.len hd]]
      · have h1 : d.down = false := by
          cases hq : d.down
          · rfl
          · exact absurd (.inl hq) hd
        have h2 : d.armed ≠ 0 := fun e => hd (.inr e)
        have := write_ok w g n sv tv d k A c b h (by omega) hb h1 h2 ht
        rwa [show (writeOf n d (k : Int) b).2 = 0 by rw [writeOf_n n d k b (by omega) hb.len h1 h2]]
    · have := write_long w g n sv tv d k A m c b h (by omega) hb.len hm hb.max
      rwa [show (writeOf n d (k : Int) b).2 = 9 by rw [writeOf_long n d k b hz (by rw [hb.len]; exact hm)]]
  · have := write_out w g n sv tv d z A m c b h hz
    rwa [show (writeOf n d z b).2 = 2 by rw [writeOf_out n d z b hz]]
end Go.Proofs.YtggogenhakdhiaaDoor
end
section
set_option linter.unusedVariables false
set_option linter.unusedSimpArgs false
namespace Go.Proofs.YtggogenhakdhiaaDoor
open Go.RowKit

/-- A slice of one-cell values that reads as a list; nil and empty ones too. -/
structure Rdv (w : World) (A : Option Addr) (n : Nat) (xs : List Value) : Prop where
  len : xs.length = n
  cell : ∀ i u, xs[i]? = some u → ∃ ad, A = some ad ∧ w.cell? (ad.add i) = some u
section
variable {w w' : World} {A : Option Addr} {n : Nat} {xs : List Value}
theorem Rdv.keep (h : Rdv w A n xs) (hk : ∀ p v, w.cell? p = some v → w'.cell? p = some v) : Rdv w' A n xs :=
  ⟨h.len, fun i u hu => by
    obtain ⟨ad, e, hc⟩ := h.cell i u hu
    exact ⟨ad, e, hk _ _ hc⟩⟩
theorem Rdv.below (h : Rdv w A n xs) (hb : Below w.heap.size w w') : Rdv w' A n xs := h.keep fun _ _ hc => cell_below hb hc
theorem Rdv.drew (h : Rdv w A n xs) : Rdv w.drew A n xs := ⟨h.len, h.cell⟩
theorem Rdv.of_own {base : Nat} {E : TypeId} {c : Nat} (h : w.ownsRow base E 1 (.slice A n c) n xs) : Rdv w A n xs := by
  refine ⟨by simpa using h.1, fun i u hu => ?_⟩
  have hn : 0 < n := by
    have := (List.getElem?_eq_some_iff.1 hu).1
    have := h.1
    omega
  obtain ⟨g, cap, e, _, _⟩ := h.form hn
  cases e
  exact ⟨_, rfl, h.cells (g := g) rfl i u hu⟩
theorem Rdv.drop_if (h : Rdv w A n xs) (k c : Nat) (hk : k ≤ n) (hc : n ≤ c) : Rdv w (if c = k then A else A.map (·.add k)) (n - k) (xs.drop k) := by
  refine ⟨by rw [List.length_drop, h.len], fun i u hu => ?_⟩
  rw [List.getElem?_drop] at hu
  obtain ⟨ad, rfl, hcell⟩ := h.cell (k + i) u hu
  have := (List.getElem?_eq_some_iff.1 hu).1
  rw [h.len] at this
  rw [if_neg (by omega)]
  exact ⟨_, rfl, by rw [add_of_add]; exact hcell⟩
end
/-- append of a slice that reads onto one of the call's own, in a region whose order is open -/
theorem step_append_rd {P : Program} {ops : Array Oper} {o : Oper} {a : Act} {w : World} {K : Act → World → Prop} {Q : Exit → Act → World → Prop} {E : Prop} (w0 : World) (base : Nat) (hgd : o.guard = none) (s x : Operand) (t e : TypeId) (z : Value) (bytes : Nat)
    (ho : o.op = .call { callee := .builtin .append, args := #[s, x], argTypes := #[t, t] })
    (ht : P.underlying t = some (.slice e)) (hinfo : (P.info? e).map (fun i => (i.zero, i.size, i.bytes)) = some (some z, 1, bytes)) (hz : z.cells.size = 1)
    (v : Value) (n : Nat) (xs : List Value) (hs : a.eval s = v) (hown : w.ownsRow base e 1 v n xs)
    (A : Option Addr) (m c : Nat) (l : List Value) (hx : a.eval x = .slice A m c) (hl : Rdv w A m l) (h1 : ∀ u ∈ l, u.oneCell' = true)
    (HB : Below base w0 w) (hbase : base ≤ w.heap.size) (hmax : n + m ≤ 9223372036854775807) (hbytes : (n + m) * bytes ≤ 140737488355328)
    (h : ∀ v1 w1, w1.ownsRow base e 1 v1 (n + m) (xs ++ l) → Below base w0 w1 → w.grownBy w1 v.ownBlock → base ≤ w1.heap.size → K (a.put o.dst v1) w1) :
    if Region.wanted o (yielded ops a.tmps) = true then Oper.wp P o a w K Q else E := by
  have hw : Region.wanted o (yielded ops a.tmps) = true := by simp [Region.wanted, hgd]
  rw [if_pos hw]
  obtain ⟨i0, hi, hzz⟩ := Option.map_eq_some_iff.1 hinfo
  simp only [Prod.mk.injEq] at hzz
  obtain ⟨hz0, hz1, hz2⟩ := hzz
  unfold Oper.wp execOp
  cases A with
  | none =>
    have hm : l = [] := by
      cases l with
      | nil => rfl
      | cons u l => obtain ⟨ad, e', _⟩ := hl.cell 0 u rfl; cases e'
    subst hm
    have hm0 : m = 0 := by have := hl.len; simpa using this.symm
    subst hm0
    have hrun : (Builtin.append_ #[t, t] o.type #[v, .slice none 0 c]).run P w = .ok v w := by
      rcases hown.2 with ⟨rfl, rfl⟩ | ⟨g, cap, cur, rfl, _, _, hnc, _⟩
      · simp [Builtin.append_, run_underlying ht, sizeOf, typeInfo, hi, Builtin.lenOf, Builtin.firstCells]
      · simp [Builtin.append_, run_underlying ht, sizeOf, typeInfo, hi, Builtin.lenOf, Builtin.firstCells, hnc, storeCells]
    simp only [ho, resolve, invoke, builtin, Sem.run_bind, Sem.run_pure, Result.andThen_ok, List.map_toArray, List.map_cons, List.map_nil, hs, hx, hrun]
    exact h v w (by simpa using hown) HB (World.grownBy.refl w _) hbase
  | some ad =>
    obtain ⟨v', w', hr, h2, h3, h4, h5⟩ := run_append_own_at (P := P) w base t o.type e i0 z 1 bytes ht hi hz0 hz1 hz2 hz (by omega) v n xs hown ad m c l (by rw [hl.len]; omega)
      (fun j u hu => by obtain ⟨ad', e', hc⟩ := hl.cell j u hu; cases e'; exact hc) h1 (by simpa only [maxLen] using hmax) hbytes hbase
    simp only [ho, resolve, invoke, builtin, Sem.run_bind, Sem.run_pure, Result.andThen_ok, List.map_toArray, List.map_cons, List.map_nil, hs, hx, hr]
    exact h v' w' h2 (HB.grown h3 hbase (own_base hown)) h3 (Nat.le_trans hbase h3.size)

/-- new numbers are returned -/
def RetInts (B : Nat) (l : List Int) (w : World) (e : Ending) (w' : World) : Prop :=
  ∃ A c, e = .returned (.slice A l.length c) ∧ w'.ownsRow B 3 1 (.slice A l.length c) l.length (iv l) ∧ Below B w w'
theorem RetInts.of {B : Nat} {l : List Int} {w w' : World} {v : Value} {n : Nat} {xs : List Value} (h : w'.ownsRow B 3 1 v n xs) (hx : xs = iv l) (hb : Below B w w') : RetInts B l w (.returned v) w' := by
  subst hx
  obtain ⟨A, c, rfl⟩ := own_slice h
  have hn : n = l.length := by have := h.1; rw [iv_length] at this; omega
  subst hn
  exact ⟨A, c, rfl, h, hb⟩
/-- what Trail answers -/
def trailOf (d : DS) (z : Int) : List Int := d.trail.drop (min (max 0 z).toNat d.trail.length)

/-- the same where the order is settled -/
theorem wpList_append_rd {P : Program} {ops : Array Oper} {rest : List Oper} {o : Oper} {a : Act} {w : World} {Q : Exit → Act → World → Prop} (w0 : World) (base : Nat) (hgd : o.guard = none) (s x : Operand) (t e : TypeId) (z : Value) (bytes : Nat)
    (ho : o.op = .call { callee := .builtin .append, args := #[s, x], argTypes := #[t, t] })
    (ht : P.underlying t = some (.slice e)) (hinfo : (P.info? e).map (fun i => (i.zero, i.size, i.bytes)) = some (some z, 1, bytes)) (hz : z.cells.size = 1)
    (v : Value) (n : Nat) (xs : List Value) (hs : a.eval s = v) (hown : w.ownsRow base e 1 v n xs)
    (A : Option Addr) (m c : Nat) (l : List Value) (hx : a.eval x = .slice A m c) (hl : Rdv w A m l) (h1 : ∀ u ∈ l, u.oneCell' = true)
    (HB : Below base w0 w) (hbase : base ≤ w.heap.size) (hmax : n + m ≤ 9223372036854775807) (hbytes : (n + m) * bytes ≤ 140737488355328)
    (h : ∀ v1 w1, w1.ownsRow base e 1 v1 (n + m) (xs ++ l) → Below base w0 w1 → w.grownBy w1 v.ownBlock → base ≤ w1.heap.size → wpList P ops Q rest (a.put o.dst v1) w1) :
    wpList P ops Q (o :: rest) a w := by
  refine wpList_plain hgd fun K hK => ?_
  have hw : Region.wanted o (yielded ops a.tmps) = true := by simp [Region.wanted, hgd]
  have := step_append_rd (ops := ops) (E := True) (K := K) (Q := Q) w0 base hgd s x t e z bytes ho ht hinfo hz v n xs hs hown A m c l hx hl h1 HB hbase hmax hbytes (fun v1 w1 p1 p2 p3 p4 => hK _ _ (h v1 w1 p1 p2 p3 p4))
  rwa [if_pos hw] at this
end Go.Proofs.YtggogenhakdhiaaDoor
end
section
set_option linter.unusedVariables false
set_option linter.unusedSimpArgs false
namespace Go.Proofs.YtggogenhakdhiaaDoor
open Go.RowKit

/-- a new disk is returned, of memory of its own -/
def RetDsk (TD TE sz m B n : Nat) (d : DS) (w : World) (e : Ending) (w' : World) : Prop :=
  ∃ g sv tv, e = .returned (.pointer (some ⟨g, 0, none⟩)) ∧ Dsk TD TE sz m w' g sv tv n d ∧ (∀ k, Foot g sv tv k → B ≤ k) ∧ Below B w w'
theorem own_lo {a b e size n : Nat} {v : Value} {xs : List Value} {w : World} (h : w.ownsRow b e size v n xs) (hab : a ≤ b) : w.ownsRow a e size v n xs :=
  ⟨h.1, h.2.imp id fun ⟨g, cap, cur, p, q, r⟩ => ⟨g, cap, cur, p, Nat.le_trans hab q, r⟩⟩
theorem info_sec : (Tryd.prog.info? 84).map (fun i => (i.zero, i.size, i.bytes)) = some (some (.agg (Array.replicate 64 (.int .u8 0))), 64, 64) := by kernel_rfl
end Go.Proofs.YtggogenhakdhiaaDoor
end
section
set_option linter.unusedVariables false
set_option linter.unusedSimpArgs false
namespace Go.Proofs.YtggogenhakdhiaaDoor
open Go.RowKit

theorem World.heap_alloc_size (w : World) (o : Obj) : (w.alloc o).heap.size = w.heap.size + 1 := by simp
theorem wpList_make {P : Program} {ops : Array Oper} {rest : List Oper} {o : Oper} {a : Act} {w : World} {Q : Exit → Act → World → Prop} (hgd : o.guard = none) (t e : TypeId) (x : Operand) (ho : o.op = .makeSlice t x x) (n : Nat) (hx : a.eval x = .int .i64 n)
    (z : Value) (size bytes : Nat) (ht : P.underlying t = some (.slice e)) (hinfo : (P.info? e).map (fun i => (i.zero, i.size, i.bytes)) = some (some z, size, bytes)) (hb : bytes * n ≤ 281474976710656) (h63 : n ≤ 9223372036854775807)
    (h : wpList P ops Q rest (a.put o.dst (.slice (some ⟨w.heap.size, 0, none⟩) n n)) (w.alloc (.cells (madeCells z.cells (n * size)) e))) : wpList P ops Q (o :: rest) a w := by
  obtain ⟨i, hi, hz, hs, hy⟩ := info_parts hinfo
  subst hs hy
  have hr := run_make (P := P) w t e i z ht hi hz .i64 .i64 n n (by omega) (Int.le_refl _) (by rw [← Int.natCast_mul]; omega) (by omega)
  refine wpList_plain hgd fun K hK => ?_
  unfold Oper.wp execOp
  simp only [ho, hx, Sem.run_bind, Sem.run_pure, Result.andThen_ok, hr]
  exact hK _ _ h
theorem made_zeros (z : Array Value) (k n : Nat) (hz : z = Array.replicate k (.int .u8 0)) (hk : 0 < k) : madeCells z n = (bv (List.replicate n 0)).toArray := by
  subst hz
  unfold madeCells
  apply Array.ext
  · simp [bv]
  · intro i h1 h2
    simp [bv, Nat.mod_lt _ hk]
/-- a disk of zeros -/
def zeroDS (n : Nat) : DS := ⟨List.replicate (n * 64) 0, [], -1, false⟩
/-- New's answer -/
def RetNew (TD TE sz m B : Nat) (z : Int) (w : World) (e : Ending) (w' : World) : Prop :=
  if 1 ≤ z ∧ z ≤ 16384 then ∃ g sv tv, e = .returned (.tuple #[.pointer (some ⟨g, 0, none⟩), .int .i64 0]) ∧ Dsk TD TE sz m w' g sv tv z.toNat (zeroDS z.toNat) ∧ (∀ k, Foot g sv tv k → B ≤ k) ∧ Below B w w'
  else e = .returned (.tuple #[.pointer none, .int .i64 2]) ∧ w = w'
set_option maxHeartbeats 1000000 in
set_option maxRecDepth 20000 in
theorem new_in (w : World) (n : Nat) (h1 : 1 ≤ n) (h2 : n ≤ 16384) :
    Calls Tryd.prog 8 #[.int .i64 n] w (RetNew 82 84 64 n w.heap.size n w) := by
  go_enter Tryd.func8, Tryd.ntmps8
  go_wp2_with (refine wpList_make (o := ⟨some 11, _, _, _, _, _⟩) rfl 80 84 (.tmp 10) rfl n rfl (.agg (Array.replicate 64 (.int .u8 0))) 64 64 Tryd.underlying80 info_sec (by omega) (by omega) ?_)
  go_ret2
  rw [RetNew, if_pos (by omega)]
  simp only [Int.toNat_natCast]
  rw [made_zeros _ 64 (n * 64) rfl (by omega)]
  refine ⟨w.heap.size + 1, .slice (some ⟨w.heap.size, 0, none⟩) n n, .slice none 0 0, by simp, ⟨?_, ?_, own_nil _ _ _ _, by simp [zeroDS]; omega, h1, h2, by simp [zeroDS], by simp [zeroDS]⟩, ?_, ((Below.refl _ _).alloc (Nat.le_refl _) _).alloc (by simp) _⟩
  · have := heap_alloc_new (w.alloc (.cells (bv (List.replicate (n * 64) 0)).toArray 84)) (.cells #[.slice (some ⟨w.heap.size, 0, none⟩) n n, .slice none 0 0, .int .i64 (-1), .bool false] 82)
    rw [World.heap_alloc_size] at this
    exact this
  · exact (World.ownsRow_lit (base := 0) (size := 64) w (bv (List.replicate (n * 64) 0)).toArray n (Nat.zero_le _) (by simp only [maxLen]; omega) (by simp [bv_length])).alloc _
  · intro k hk
    rcases hk with rfl | hk | hk
    · omega
    · simp [Value.ownBlock] at hk; omega
    · simp [Value.ownBlock] at hk
theorem new_walk (w : World) (z : Int) (hz : -9223372036854775808 ≤ z ∧ z ≤ 9223372036854775807) :
    Calls Tryd.prog 8 #[.int .i64 z] w (RetNew 82 84 64 z.toNat w.heap.size z w) := by
  by_cases h1 : 1 ≤ z
  · by_cases h2 : z ≤ 16384
    · obtain ⟨n, rfl⟩ := Int.eq_ofNat_of_zero_le (show 0 ≤ z by omega)
      exact new_in w n (by omega) (by omega)
    · have h2' : 16384 < z := by omega
      go_enter Tryd.func8, Tryd.ntmps8
      go_wp2
      go_ret2
      rw [RetNew, if_neg (by omega)]
      exact ⟨rfl, rfl⟩
  · have h1' : z < 1 := by omega
    go_enter Tryd.func8, Tryd.ntmps8
    go_wp2
    go_ret2
    rw [RetNew, if_neg (by omega)]
    exact ⟨rfl, rfl⟩
end Go.Proofs.YtggogenhakdhiaaDoor
end
