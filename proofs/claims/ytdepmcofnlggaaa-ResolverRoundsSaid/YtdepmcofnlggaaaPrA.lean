/- Rounds and orders, in plain words. (ahead of it: Words for memory: slices of bytes that read as lists, slices of the call's own, and what a call leaves as it was. Maps in memory as the lists of their entries, in the order in which their keys came; what the operations do to them. A range over a map whose rounds lay new values at keys that are there. Rounds in a graph, in plain Lean: how far each one is from one, over none that is older; the least round. The queue of the walk backwards, in plain Lean: what is known of it at every step. How far each one is, as the document reckons it: round by round, edge by edge. Where no round leads back, somebody waits for one who does not wait.) -/
import Derived.WalkKit
import Derived.KernelRfl
import Derived.Lib.Hide
import Derived.Maps.AppendAt
import Derived.Deep.AppendLies
import Derived.Laws.OwnMore
import Derived.Deep.Draws
import Derived.Laws.Rows
import Derived.Laws.BytesArg
import Derived.Laws.IdiomStrings
import Derived.Laws.AppendOwnNone
import Derived.Maps.Range
import Derived.Maps.OwnOps
import Derived.OwnWalk
section
set_option linter.unusedVariables false
set_option linter.unusedSimpArgs false
namespace Go.Proofs.Ytdepmcofnlggaaa
open Go.RowKit

/-! ### bytes -/
def bv (l : List UInt8) : List Value := l.map fun b => .int .u8 (b.toNat : Int)
theorem bv_length (l : List UInt8) : (bv l).length = l.length := by simp [bv]
theorem bv_append (l m : List UInt8) : bv (l ++ m) = bv l ++ bv m := by simp [bv]
theorem bv_getElem? (l : List UInt8) (i : Nat) : (bv l)[i]? = l[i]?.map fun b => .int .u8 (b.toNat : Int) := by simp [bv]
theorem bv_one (l : List UInt8) : ∀ u ∈ bv l, u.oneCell' = true := by
  intro u hu
  obtain ⟨b, _, rfl⟩ := List.mem_map.1 hu
  rfl
/-- bytes as a string -/
def str (l : List UInt8) : ByteArray := ⟨l.toArray⟩
theorem str_inj {l m : List UInt8} : str l = str m ↔ l = m := by
  constructor
  · intro h
    have := congrArg (fun b : ByteArray => b.data.toList) h
    simpa [str] using this
  · rintro rfl; rfl

/-- A slice of bytes that reads as a list; nil and empty ones too. -/
structure Bys (w : World) (A : Option Addr) (n : Nat) (l : List UInt8) : Prop where
  len : l.length = n
  max : n ≤ 9223372036854775807
  cell : ∀ i, i < n → ∃ ad, A = some ad ∧ w.cell? (ad.add i) = some (.int .u8 ((l.getD i 0).toNat : Int))
section
variable {w w' : World} {A : Option Addr} {n : Nat} {l : List UInt8}
theorem Bys.at_ (h : Bys w A n l) (k : Nat) (hk : k < n) :
    ∃ ad z, A = some ad ∧ z = ((l.getD k 0).toNat : Int) ∧ w.cell? (ad.add k) = some (.int .u8 z) ∧ 0 ≤ z ∧ z < 256 := by
  obtain ⟨ad, e, hc⟩ := h.cell k hk
  have := (l.getD k 0).toNat_lt
  exact ⟨ad, _, e, rfl, hc, by omega, by omega⟩
theorem Bys.keep (h : Bys w A n l) (hk : ∀ p v, w.cell? p = some v → w'.cell? p = some v) : Bys w' A n l :=
  ⟨h.len, h.max, fun i hi => by
    obtain ⟨ad, e, hc⟩ := h.cell i hi
    exact ⟨ad, e, hk _ _ hc⟩⟩
theorem cell_below {w w' : World} {p : Addr} {v : Value} (hb : Below w.heap.size w w') (h : w.cell? p = some v) : w'.cell? p = some v :=
  (hb.cell (World.block_lt_of_cell? w p h)).trans h
theorem Bys.below (h : Bys w A n l) (hb : Below w.heap.size w w') : Bys w' A n l := h.keep fun _ _ hc => cell_below hb hc
theorem Bys.nil (w : World) : Bys w none 0 [] := ⟨rfl, by omega, fun i hi => by omega⟩
theorem Bys.empty (w : World) (A : Option Addr) : Bys w A 0 [] := ⟨rfl, by omega, fun i hi => by omega⟩
/-- the head of it -/
theorem Bys.take (h : Bys w A n l) (k : Nat) (hk : k ≤ n) : Bys w A k (l.take k) :=
  ⟨by rw [List.length_take, h.len]; omega, by have := h.max; omega, fun i hi => by
    obtain ⟨ad, e, hc⟩ := h.cell i (by omega)
    refine ⟨ad, e, ?_⟩
    rw [hc, List.getD_eq_getElem?_getD, List.getD_eq_getElem?_getD, List.getElem?_take, if_pos hi]⟩
theorem Bys.string {P : Program} (h : Bys w A n l) {src e dst : TypeId} (hs : P.underlying src = some (.slice e)) (he : P.underlying e = some (.int .u8)) (hd : P.underlying dst = some .string) (c : Nat) :
    (convert src dst (.slice A n c)).run P w = .ok (.string (str l)) w := by
  rcases Nat.eq_zero_or_pos n with h0 | h0
  · subst h0
    have : l = [] := List.eq_nil_of_length_eq_zero h.len
    subst this
    cases A with
    | none => exact run_convert_bytes_nil w src e hs he 0 c dst hd
    | some ad => exact run_convert_bytes_back w src dst e ad c [] hs he hd (fun j hj => by simp at hj)
  · obtain ⟨ad, rfl, _⟩ := h.cell 0 h0
    have hl := h.len
    subst hl
    exact run_convert_bytes_back w src dst e ad c l hs he hd (fun j hj => by
      obtain ⟨ad', e', hc⟩ := h.cell j hj
      cases e'
      rw [hc, List.getD_eq_getElem?_getD, List.getElem?_eq_getElem hj]; rfl)
theorem Bys.news {ad : Addr} (h : Bys w (some ad) n l) : ∀ j u, (bv l)[j]? = some u → w.cell? (ad.add j) = some u := by
  intro j u hu
  rw [bv_getElem?] at hu
  obtain ⟨b, hb, rfl⟩ := Option.map_eq_some_iff.1 hu
  have hj : j < l.length := (List.getElem?_eq_some_iff.1 hb).1
  obtain ⟨ad', e', hc⟩ := h.cell j (by rw [← h.len]; exact hj)
  cases e'
  rw [hc, List.getD_eq_getElem?_getD, hb]; rfl
theorem Bys.of_own {base : Nat} {E : TypeId} {v : Value} (h : w.ownsRow base E 1 v n (bv l)) : ∃ A c, v = .slice A n c ∧ Bys w A n l := by
  have hl : l.length = n := by have := h.1; rw [bv_length] at this; omega
  rcases Nat.eq_zero_or_pos n with h0 | h0
  · subst h0
    have : l = [] := List.eq_nil_of_length_eq_zero hl
    subst this
    rcases h.2 with ⟨rfl, _⟩ | ⟨g, cap, cur, rfl, _⟩
    · exact ⟨none, 0, rfl, Bys.empty _ _⟩
    · exact ⟨_, cap, rfl, Bys.empty _ _⟩
  · obtain ⟨g, cap, rfl, _, _⟩ := h.form h0
    have hm : n ≤ 9223372036854775807 := by
      rcases h.2 with ⟨_, h1⟩ | ⟨g', cap', cur, he, _, _, h1, h2, _⟩
      · omega
      · simp only [maxLen] at h2; omega
    refine ⟨_, cap, rfl, hl, hm, fun j hj => ⟨_, rfl, h.cells (g := g) rfl j _ ?_⟩⟩
    rw [bv_getElem?, List.getD_eq_getElem?_getD, List.getElem?_eq_getElem (by omega)]; rfl
end

/-! ### a slice of the call's own -/
theorem own_lt {w : World} {base : Nat} {e : TypeId} {size n : Nat} {v : Value} {xs : List Value} (h : w.ownsRow base e size v n xs) (k : Nat) (hk : v.ownBlock = some k) : k < w.heap.size := by
  rcases h.2 with ⟨rfl, _⟩ | ⟨g, cap, cur, rfl, _, hh, _⟩
  · simp [Value.ownBlock] at hk
  · have : g = k := by simpa [Value.ownBlock] using hk
    subst this
    exact (Array.getElem?_eq_some_iff.1 hh).1
theorem own_base {w : World} {base : Nat} {e : TypeId} {size n : Nat} {v : Value} {xs : List Value} (h : w.ownsRow base e size v n xs) (k : Nat) (hk : v.ownBlock = some k) : base ≤ k := by
  rcases h.2 with ⟨rfl, _⟩ | ⟨g, cap, cur, rfl, hb, _⟩
  · simp [Value.ownBlock] at hk
  · have : g = k := by simpa [Value.ownBlock] using hk
    omega
theorem own_below {w w1 : World} {base : Nat} {e : TypeId} {size n : Nat} {v : Value} {xs : List Value} (h : w.ownsRow base e size v n xs) (hb : Below w.heap.size w w1) : w1.ownsRow base e size v n xs :=
  h.kept (row := none) ⟨hb.os, hb.tape, hb.output, hb.size, fun i hi _ => hb.block i hi⟩ (by cases v.ownBlock <;> simp)
theorem own_mono {w : World} {base base' : Nat} {e : TypeId} {size n : Nat} {v : Value} {xs : List Value} (h : w.ownsRow base e size v n xs) (hb : base' ≤ base) : w.ownsRow base' e size v n xs :=
  ⟨h.1, by
    rcases h.2 with h0 | ⟨g, cap, cur, h1, h2, h3⟩
    · exact .inl h0
    · exact .inr ⟨g, cap, cur, h1, Nat.le_trans hb h2, h3⟩⟩
theorem own_nil (w : World) (base : Nat) (e : TypeId) (size : Nat) : w.ownsRow base e size (.slice none 0 0) 0 [] := ⟨by simp, .inl ⟨rfl, rfl⟩⟩
/-- an empty literal -/
theorem own_empty (w : World) (base : Nat) (e : TypeId) (size g : Nat) (hb : base ≤ g) (hh : w.heap[g]? = some (.cells #[] e (0, 0))) : w.ownsRow base e size (.slice (some ⟨g, 0, none⟩) 0 0) 0 [] :=
  ⟨by simp, .inr ⟨g, 0, #[], rfl, hb, hh, by omega, by simp [maxLen], by simp, by simp⟩⟩

/-- append of a slice that reads as bytes onto one of the call's own: nil or not -/
theorem wpList_append_bys {P : Program} {w : World} {ops : Array Oper} {rest : List Oper} {o : Oper} {a : Act} {Q : Exit → Act → World → Prop} (w0 : World) (base : Nat) (hgd : o.guard = none) (s x : Operand) (t e : TypeId)
    (ho : o.op = .call { callee := .builtin .append, args := #[s, x], argTypes := #[t, t] })
    (ht : P.underlying t = some (.slice e)) (hinfo : (P.info? e).map (fun i => (i.zero, i.size, i.bytes)) = some (some (.int .u8 0), 1, 1))
    (v : Value) (n : Nat) (xs : List Value) (hs : a.eval s = v) (hown : w.ownsRow base e 1 v n xs)
    (A : Option Addr) (m c : Nat) (l : List UInt8) (hx : a.eval x = .slice A m c) (hl : Bys w A m l)
    (HB : Below base w0 w) (hbase : base ≤ w.heap.size) (hbytes : n + m ≤ 140737488355328)
    (h : ∀ v1 w1, w1.ownsRow base e 1 v1 (n + m) (xs ++ bv l) → Below base w0 w1 → w.grownBy w1 v.ownBlock → (v1.ownBlock = v.ownBlock ∨ v1.ownBlock = some w.heap.size) → base ≤ w1.heap.size → wpList P ops Q rest (a.put o.dst v1) w1) :
    wpList P ops Q (o :: rest) a w := by
  obtain ⟨i0, hi, hzz⟩ := Option.map_eq_some_iff.1 hinfo
  simp only [Prod.mk.injEq] at hzz
  obtain ⟨hz0, hz1, hz2⟩ := hzz
  cases A with
  | none =>
    have hm : m = 0 := by
      rcases Nat.eq_zero_or_pos m with h0 | h0
      · exact h0
      · obtain ⟨ad, e', _⟩ := hl.cell 0 h0
        cases e'
    subst hm
    have : l = [] := List.eq_nil_of_length_eq_zero hl.len
    subst this
    refine wpList_plain hgd fun K hK => ?_
    have hrun : (Builtin.append_ #[t, t] o.type #[v, .slice none 0 c]).run P w = .ok v w := by
      rcases hown.2 with ⟨rfl, rfl⟩ | ⟨g, cap, cur, rfl, _, _, hnc, _⟩
      · simp [Builtin.append_, run_underlying ht, sizeOf, typeInfo, hi, Builtin.lenOf, Builtin.firstCells]
      · simp [Builtin.append_, run_underlying ht, sizeOf, typeInfo, hi, Builtin.lenOf, Builtin.firstCells, hnc, storeCells]
    unfold Oper.wp execOp
    simp only [ho, resolve, invoke, builtin, Sem.run_bind, Sem.run_pure, Result.andThen_ok, List.map_toArray, List.map_cons, List.map_nil, hs, hx, hrun]
    exact hK _ _ (h v w (by simpa [bv] using hown) HB (World.grownBy.refl w _) (.inl rfl) hbase)
  | some ad =>
    refine wpList_append_own_at w hgd s x t ho base e i0 (.int .u8 0) 1 1 ht hi hz0 hz1 hz2 rfl (by omega) v n xs hs hown ad m c (bv l) hx (by rw [bv_length, hl.len]; omega) hl.news (bv_one l)
      (by simp only [maxLen]; omega) (by omega) hbase ?_
    intro v1 w1 hown1 hg _ hat
    exact h v1 w1 hown1 (HB.grown hg hbase (own_base hown)) hg hat (Nat.le_trans hbase hg.size)
/-- a new block of bytes -/
theorem Bys.new (w : World) (e : TypeId) (cs : Array Value) (l : List UInt8) (hcs : cs.toList = bv l) (hm : l.length ≤ 9223372036854775807) : Bys (w.alloc (.cells cs e)) (some ⟨w.heap.size, 0, none⟩) l.length l :=
  ⟨rfl, hm, fun i hi => ⟨_, rfl, by
    have h := World.news_of_block (cs := cs) (t := e) (fr := (0, 0)) (heap_alloc_new w (.cells cs e)) i (.int .u8 ((l.getD i 0).toNat : Int)) (by
      rw [hcs, bv_getElem?, List.getD_eq_getElem?_getD, List.getElem?_eq_getElem hi]; rfl)
    exact h⟩⟩
/-- new bytes are returned -/
def RetBys (B : Nat) (E : TypeId) (l : List UInt8) (w : World) (e : Ending) (w' : World) : Prop :=
  ∃ A c, e = .returned (.slice A l.length c) ∧ w'.ownsRow B E 1 (.slice A l.length c) l.length (bv l) ∧ Below B w w'
theorem own_slice {w : World} {base n : Nat} {e : TypeId} {size : Nat} {v : Value} {xs : List Value} (h : w.ownsRow base e size v n xs) : ∃ A c, v = .slice A n c := by
  rcases h.2 with ⟨rfl, rfl⟩ | ⟨g, cap, cur, rfl, _⟩
  · exact ⟨none, 0, rfl⟩
  · exact ⟨_, cap, rfl⟩
theorem RetBys.of {B : Nat} {E : TypeId} {l : List UInt8} {w w' : World} {v : Value} {n : Nat} {xs : List Value} (h : w'.ownsRow B E 1 v n xs) (hx : xs = bv l) (hb : Below B w w') : RetBys B E l w (.returned v) w' := by
  subst hx
  obtain ⟨A, c, rfl⟩ := own_slice h
  have hn : n = l.length := by have := h.1; rw [bv_length] at this; omega
  subst hn
  exact ⟨A, c, rfl, h, hb⟩
/-- the form of a slice of the call's own that is not empty -/
theorem own_some {w : World} {base n : Nat} {e : TypeId} {size : Nat} {v : Value} {xs : List Value} (h : w.ownsRow base e size v n xs) (hn : 0 < n) :
    ∃ g cap, v = .slice (some ⟨g, 0, none⟩) n cap ∧ base ≤ g ∧ g < w.heap.size ∧ n ≤ cap ∧ cap ≤ 9223372036854775807 ∧ ∀ j u, xs[j]? = some u → w.cell? ⟨g, j, none⟩ = some u := by
  obtain ⟨g, cap, hv, _, hlt⟩ := h.form hn
  subst hv
  rcases h.2 with ⟨h0, _⟩ | ⟨g', cap', cur, he, hb, hh, h1, h2, _⟩
  · cases h0
  · cases he
    refine ⟨g, cap, rfl, hb, hlt, h1, by simpa [maxLen] using h2, fun j u hu => ?_⟩
    have := h.cells (g := g) rfl j u hu
    rwa [show (⟨g, 0, none⟩ : Addr).add j = ⟨g, j, none⟩ by unfold Addr.add; split <;> simp_all] at this
theorem add_plain (g j : Nat) : (⟨g, 0, none⟩ : Addr).add j = ⟨g, j, none⟩ := by unfold Addr.add; split <;> simp_all
theorem bys_of_cells {w : World} {g n : Nat} {l : List UInt8} (hl : l.length = n) (hm : n ≤ 9223372036854775807) (h : ∀ j u, (bv l)[j]? = some u → w.cell? ⟨g, j, none⟩ = some u) : Bys w (some ⟨g, 0, none⟩) n l :=
  ⟨hl, hm, fun i hi => ⟨_, rfl, by
    rw [add_plain]
    exact h i _ (by rw [bv_getElem?, List.getD_eq_getElem?_getD, List.getElem?_eq_getElem (by omega)]; rfl)⟩⟩
theorem below_drewN {B : Nat} {a w : World} (h : Below B a w) (n : Nat) : Below B a (w.drewN n) := ⟨h.os, h.tape, h.output, h.size, h.block⟩
theorem Bys.drew {w : World} {A : Option Addr} {n : Nat} {l : List UInt8} (h : Bys w A n l) : Bys w.drew A n l := ⟨h.len, h.max, h.cell⟩
theorem Bys.drewN {w : World} {A : Option Addr} {n : Nat} {l : List UInt8} (h : Bys w A n l) (k : Nat) : Bys (w.drewN k) A n l := ⟨h.len, h.max, h.cell⟩
theorem below_drew {B : Nat} {a w : World} (h : Below B a w) : Below B a w.drew := ⟨h.os, h.tape, h.output, h.size, h.block⟩
theorem below_of_drew {B : Nat} {a w : World} (h : Below B a.drew w) : Below B a w := ⟨h.os, h.tape, h.output, h.size, h.block⟩
theorem Bys.own {w : World} {base n c : Nat} {E : TypeId} {A : Option Addr} {l : List UInt8} (h : w.ownsRow base E 1 (.slice A n c) n (bv l)) : Bys w A n l := by
  obtain ⟨A', c', e, hb⟩ := Bys.of_own h
  cases e
  exact hb
/-- a slice of the call's own whose block lies below C stays as it is where nothing below C turns -/
theorem own_below_lt {w w1 : World} {base C : Nat} {e : TypeId} {size n : Nat} {v : Value} {xs : List Value} (h : w.ownsRow base e size v n xs) (hC : ∀ k, v.ownBlock = some k → k < C) (hb : Below C w w1) : w1.ownsRow base e size v n xs :=
  ⟨h.1, by
    rcases h.2 with h0 | ⟨g, cap, cur, h1, h2, h3, h4⟩
    · exact .inl h0
    · refine .inr ⟨g, cap, cur, h1, h2, (hb.block g (hC g ?_)).trans h3, h4⟩
      rw [h1]; rfl⟩
/-- what lies behind the head of it -/
theorem Bys.drop_plain {w : World} {g n : Nat} {l : List UInt8} (h : Bys w (some ⟨g, 0, none⟩) n l) (k m : Nat) (hm : n = k + m) (hk : 0 < k) : Bys w (some ⟨g, k, none⟩) m (l.drop k) :=
  ⟨by rw [List.length_drop, h.len]; omega, by have := h.max; omega, fun i hi => ⟨_, rfl, by
    obtain ⟨ad, e, hc⟩ := h.cell (k + i) (by omega)
    cases e
    rw [add_plain] at hc
    have ha : (⟨g, k, none⟩ : Addr).add i = ⟨g, k + i, none⟩ := by unfold Addr.add; split <;> simp_all
    rw [ha, hc, List.getD_eq_getElem?_getD, List.getD_eq_getElem?_getD, List.getElem?_drop]⟩⟩
/-- a row of another element type lies in another block -/
theorem own_blk_ne {w : World} {base : Nat} {e t : TypeId} {size n g : Nat} {v : Value} {xs : List Value} {cs : Array Value} (h : w.ownsRow base e size v n xs) (hg : w.heap[g]? = some (.cells cs t (0, 0))) (hne : e ≠ t) : v.ownBlock ≠ some g := by
  rcases h.2 with ⟨rfl, _⟩ | ⟨g', cap, cur, rfl, _, hh, _⟩
  · simp [Value.ownBlock]
  · intro he
    have : g' = g := by simpa [Value.ownBlock] using he
    subst this
    rw [hh] at hg
    injection hg with hg
    injection hg with _ ht
    exact hne ht
theorem add_of_add (a : Addr) (i j : Nat) : (a.add i).add j = a.add (i + j) := by
  unfold Addr.add
  by_cases hi : i = 0 <;> by_cases hj : j = 0 <;> simp [hi, hj, Nat.add_assoc]
end Go.Proofs.Ytdepmcofnlggaaa
end
section
set_option linter.unusedVariables false
set_option linter.unusedSimpArgs false
namespace Go.Proofs.Ytdepmcofnlggaaa
open Go.RowKit Go.MapKept Go.ChangeMaps
open Go.Maps (Keyed)
open Classical

abbrev Ents := List (Value × Value)
/-- the value at a key -/
noncomputable def atK : Ents → Value → Option Value
  | [], _ => none
  | p :: l, x => if p.1 = x then some p.2 else atK l x
/-- a value laid at a key -/
noncomputable def putK : Ents → Value → Value → Ents
  | [], x, v => [(x, v)]
  | p :: l, x, v => if p.1 = x then (x, v) :: l else p :: putK l x v
theorem atK_none {x : Value} : ∀ {l : Ents}, (∀ p ∈ l, p.1 ≠ x) → atK l x = none
  | [], _ => rfl
  | p :: l, h => by
    rw [atK, if_neg (h p (by simp))]
    exact atK_none (fun q hq => h q (by simp [hq]))
theorem atK_none_iff {x : Value} : ∀ {l : Ents}, atK l x = none → ∀ p ∈ l, p.1 ≠ x
  | p :: l, h, q, hq => by
    rw [atK] at h
    split at h
    · cases h
    · next hne =>
      rcases List.mem_cons.1 hq with rfl | hq
      · exact hne
      · exact atK_none_iff h q hq
theorem atK_at {x : Value} : ∀ {l : Ents}, (l.map (·.1)).Nodup → ∀ (j : Nat) (p : Value × Value), l[j]? = some p → p.1 = x → atK l x = some p.2
  | q :: l, h, 0, p, hp, hx => by cases hp; rw [atK, if_pos hx]
  | q :: l, h, j + 1, p, hp, hx => by
    have hp' : l[j]? = some p := by simpa using hp
    have hm := List.mem_of_getElem? hp'
    rw [List.map_cons, List.nodup_cons] at h
    rw [atK, if_neg (fun e => h.1 (by rw [e, ← hx]; exact List.mem_map.2 ⟨p, hm, rfl⟩))]
    exact atK_at h.2 j p hp' hx
theorem putK_new {x v : Value} : ∀ {l : Ents}, (∀ p ∈ l, p.1 ≠ x) → putK l x v = l ++ [(x, v)]
  | [], _ => rfl
  | p :: l, h => by
    rw [putK, if_neg (h p (by simp)), putK_new (fun q hq => h q (by simp [hq]))]
    rfl
theorem putK_at {x v : Value} : ∀ {l : Ents}, (l.map (·.1)).Nodup → ∀ (j : Nat) (p : Value × Value), l[j]? = some p → p.1 = x → putK l x v = l.set j (x, v)
  | q :: l, h, 0, p, hp, hx => by cases hp; rw [putK, if_pos hx]; rfl
  | q :: l, h, j + 1, p, hp, hx => by
    have hp' : l[j]? = some p := by simpa using hp
    have hm := List.mem_of_getElem? hp'
    rw [List.map_cons, List.nodup_cons] at h
    rw [putK, if_neg (fun e => h.1 (by rw [e, ← hx]; exact List.mem_map.2 ⟨p, hm, rfl⟩)), putK_at h.2 j p hp' hx]
    rfl
theorem atK_putK {x y v : Value} : ∀ l : Ents, atK (putK l x v) y = if x = y then some v else atK l y
  | [] => by simp [putK, atK]
  | p :: l => by
    rw [putK]
    split
    · next h =>
      rw [atK, atK]
      by_cases hxy : x = y
      · rw [if_pos hxy, if_pos hxy]
      · rw [if_neg hxy, if_neg hxy, if_neg (by rw [h]; exact hxy)]
    · next h =>
      rw [atK, atK, atK_putK l]
      by_cases hpy : p.1 = y
      · rw [if_pos hpy, if_pos hpy, if_neg (by rw [← hpy]; exact fun e => h e.symm)]
      · rw [if_neg hpy, if_neg hpy]
theorem putK_same {x v : Value} : ∀ {l : Ents}, atK l x = some v → putK l x v = l
  | p :: l, h => by
    rw [atK] at h
    rw [putK]
    split at h
    · next e => rw [if_pos e]; cases h; rw [← e]
    · next e => rw [if_neg e, putK_same h]
theorem putK_putK {x v u : Value} : ∀ l : Ents, putK (putK l x v) x u = putK l x u
  | [] => by simp [putK]
  | p :: l => by
    rw [putK, putK]
    split
    · simp [putK]
    · next h => rw [putK, if_neg h, putK_putK l]

theorem keys_putK {x v : Value} {G : Value → Prop} : ∀ {l : Ents}, (∀ p ∈ l, G p.1) → G x → ∀ p ∈ putK l x v, G p.1
  | [], _, hx, p, hp => by rw [putK, List.mem_singleton] at hp; rw [hp]; exact hx
  | q :: l, h, hx, p, hp => by
    rw [putK] at hp
    split at hp
    · rcases List.mem_cons.1 hp with rfl | hp
      · exact hx
      · exact h p (by simp [hp])
    · rcases List.mem_cons.1 hp with rfl | hp
      · exact h p (by simp)
      · exact keys_putK (fun q hq => h q (by simp [hq])) hx p hp

section
variable {P : Program} {k t e : TypeId} {w w' : World} {b : Nat} {l : Ents}
def entOf (x : MapEntry) : Value × Value := (x.key, x.val)
/-- block b of w is a map with these entries -/
def MapAt (P : Program) (k : TypeId) (w : World) (b : Nat) (l : Ents) : Prop :=
  ∃ es clock, w.heap[b]? = some (.map es clock) ∧ es.toList.map entOf = l ∧ Stamped es clock ∧ ∀ p ∈ l, ∃ t, keyOf P k p.1 = some t
/-- .. and the entry at this key bears this stamp -/
def EntAt (P : Program) (k : TypeId) (w : World) (b : Nat) (l : Ents) (x : Value) (born : Nat) : Prop :=
  ∃ es clock, w.heap[b]? = some (.map es clock) ∧ es.toList.map entOf = l ∧ Stamped es clock ∧ (∀ p ∈ l, ∃ t, keyOf P k p.1 = some t) ∧ ∃ (j : Nat) (y : MapEntry), es.toList[j]? = some y ∧ y.key = x ∧ y.born = born
theorem MapAt.made (P : Program) (k : TypeId) (w : World) : MapAt P k (w.alloc (.map #[] 0)) w.heap.size [] :=
  ⟨#[], 0, heap_alloc_new w _, rfl, stamped_empty 0, fun p hp => by cases hp⟩
theorem MapAt.lt (h : MapAt P k w b l) : b < w.heap.size := by
  obtain ⟨es, clock, hb, _⟩ := h
  exact (Array.getElem?_eq_some_iff.1 hb).1
theorem MapAt.kept {row : Option Nat} (h : MapAt P k w b l) (hg : w.grownBy w' row) (hne : some b ≠ row) : MapAt P k w' b l := by
  have hlt := h.lt
  obtain ⟨es, clock, hb, r⟩ := h
  exact ⟨es, clock, (hg.block b hlt hne).trans hb, r⟩
theorem MapAt.block (h : MapAt P k w b l) (hb : w'.heap[b]? = w.heap[b]?) : MapAt P k w' b l := by
  obtain ⟨es, clock, h1, r⟩ := h
  exact ⟨es, clock, hb.trans h1, r⟩
theorem MapAt.below (h : MapAt P k w b l) (hb : Below w.heap.size w w') : MapAt P k w' b l := h.block (hb.block b h.lt)
theorem EntAt.lt {x : Value} {n : Nat} (h : EntAt P k w b l x n) : b < w.heap.size := by
  obtain ⟨es, clock, hb, _⟩ := h
  exact (Array.getElem?_eq_some_iff.1 hb).1
theorem EntAt.block {x : Value} {n : Nat} (h : EntAt P k w b l x n) (hb : w'.heap[b]? = w.heap[b]?) : EntAt P k w' b l x n := by
  obtain ⟨es, clock, h1, r⟩ := h
  exact ⟨es, clock, hb.trans h1, r⟩
theorem EntAt.kept {x : Value} {n : Nat} {row : Option Nat} (h : EntAt P k w b l x n) (hg : w.grownBy w' row) (hne : some b ≠ row) : EntAt P k w' b l x n := h.block (hg.block b h.lt hne)
theorem EntAt.map {x : Value} {n : Nat} (h : EntAt P k w b l x n) : MapAt P k w b l := by
  obtain ⟨es, clock, h1, h2, h3, h4, _⟩ := h
  exact ⟨es, clock, h1, h2, h3, h4⟩
theorem MapAt.nodup (h : MapAt P k w b l) : (l.map (·.1)).Nodup := by
  obtain ⟨es, clock, hb, rfl, hs, hk⟩ := h
  rw [List.map_map]
  exact hs.2.2
theorem MapAt.keys (h : MapAt P k w b l) : ∀ p ∈ l, ∃ t, keyOf P k p.1 = some t := by
  obtain ⟨es, clock, _, _, _, hk⟩ := h
  exact hk
theorem keys_es {es : Array MapEntry} (h : ∀ p ∈ es.toList.map entOf, ∃ t, keyOf P k p.1 = some t) : ∀ x ∈ es.toList, ∃ t, keyOf P k x.key = some t :=
  fun x hx => h (entOf x) (List.mem_map.2 ⟨x, hx, rfl⟩)
/-- 'm[x]' and 'v, ok := m[x]' -/
theorem MapAt.lookup (h : MapAt P k w b l) (K : Keyed P k) (ht : P.underlying t = some (.map k e)) {z : Value} (hz : (zeroValue e).run P w = .ok z w) {x : Value} {kl : Lit} (hx : keyOf P k x = some kl) (c : Bool) :
    (Instr.lookup t (.map (some b)) x c).run P w = .ok (if c then .tuple #[(atK l x).getD z, .bool (atK l x).isSome] else (atK l x).getD z) w := by
  have hnd := h.nodup
  obtain ⟨es, clock, hb, rfl, hs, hk⟩ := h
  rcases K.find w hx es.toList (keys_es hk) with ⟨h1, h2⟩ | ⟨j, e0, h1, h2, h3⟩
  · have h0 : atK (es.toList.map entOf) x = none := atK_none (fun p hp => by obtain ⟨y, hy, rfl⟩ := List.mem_map.1 hp; exact h2 y hy)
    rw [h0]
    simp [Instr.lookup, run_underlying ht, MapKept.run_getObj_map hb, K.check w _ hx, h1, hz, Result.andThen]
  · have h0 : atK (es.toList.map entOf) x = some e0.val := atK_at hnd j (entOf e0) (by rw [List.getElem?_map, h2]; rfl) h3
    rw [h0]
    simp [Instr.lookup, run_underlying ht, MapKept.run_getObj_map hb, K.check w _ hx, h1, Result.andThen]
theorem MapAt.len (h : MapAt P k w b l) (ht : P.underlying t = some (.map k e)) (ty : TypeId) : (Builtin.len_ #[t] ty #[.map (some b)]).run P w = .ok (goInt l.length) w := by
  obtain ⟨es, clock, hb, rfl, hs, hk⟩ := h
  simp [Builtin.len_, run_underlying ht, MapKept.run_getObj_map hb, Result.andThen]
theorem grown_setBlock {o : Obj} : w.grownBy (setBlock w b o) (some b) := ⟨rfl, rfl, rfl, by simp [setBlock], fun i _ hi => by
  unfold setBlock
  simp only [Array.getElem?_setIfInBounds]
  rw [if_neg (fun e => hi (by rw [e]))]⟩
theorem setBlock_size {o : Obj} : (setBlock w b o).heap.size = w.heap.size := by simp [setBlock]
theorem setBlock_at {o o' : Obj} (h : w.heap[b]? = some o') : (setBlock w b o).heap[b]? = some o := by
  have := (Array.getElem?_eq_some_iff.1 h).1
  simp [setBlock, this]
theorem modify_ents (es : Array MapEntry) (j : Nat) (e0 : MapEntry) (f : MapEntry → MapEntry) (h2 : es.toList[j]? = some e0) : (es.modify j f).toList = es.toList.set j (f e0) := by
  rw [Array.toList_modify, modify_eq_set _ _ _ _ h2]
/-- 'm[x] = v' -/
theorem MapAt.update (h : MapAt P k w b l) (K : Keyed P k) (ht : P.underlying t = some (.map k e)) {x v : Value} {kl : Lit} (hx : keyOf P k x = some kl) :
    ∃ w', (Instr.mapUpdate t (.map (some b)) x v).run P w = .ok () w' ∧ MapAt P k w' b (putK l x v) ∧ w.grownBy w' (some b) ∧ w'.heap.size = w.heap.size := by
  have hnd := h.nodup
  obtain ⟨es, clock, hb, rfl, hs, hk⟩ := h
  rcases K.find w hx es.toList (keys_es hk) with ⟨h1, h2⟩ | ⟨j, e0, h1, h2, h3⟩
  · refine ⟨setBlock w b (.map (es.push ⟨x, v, clock⟩) (clock + 1)), ?_, ⟨_, _, setBlock_at hb, ?_, stamped_push hs h2, ?_⟩, grown_setBlock, setBlock_size⟩
    · simp [Instr.mapUpdate, run_underlying ht, MapKept.run_getObj_map hb, K.check w false hx, h1, MapKept.run_setObj_map _ hb, Result.andThen, setBlock]
    · rw [putK_new (fun p hp => by obtain ⟨y, hy, rfl⟩ := List.mem_map.1 hp; exact h2 y hy)]
      simp [entOf]
    · rw [putK_new (fun p hp => by obtain ⟨y, hy, rfl⟩ := List.mem_map.1 hp; exact h2 y hy)]
      intro p hp
      rcases List.mem_append.1 hp with hp | hp
      · exact hk p hp
      · rw [List.mem_singleton.1 hp]; exact ⟨kl, hx⟩
  · have hj : es[j]? = some e0 := by simpa using h2
    have hput : putK (es.toList.map entOf) x v = (es.toList.map entOf).set j (x, v) := putK_at hnd j (entOf e0) (by rw [List.getElem?_map, h2]; rfl) h3
    refine ⟨setBlock w b (.map (es.modify j fun e' => { e' with key := x, val := v }) clock), ?_, ⟨_, _, setBlock_at hb, ?_, stamped_modify hs _ _ (fun _ _ => rfl) (fun e' _ he' => by rw [hj] at he'; cases he'; exact h3.symm), ?_⟩, grown_setBlock, setBlock_size⟩
    · simp [Instr.mapUpdate, run_underlying ht, MapKept.run_getObj_map hb, K.check w false hx, h1, hj, h3, K.stays w hx, MapKept.run_setObj_map _ hb, Result.andThen, setBlock]
    · rw [hput, modify_ents es j e0 _ h2, List.map_set]
      rfl
    · rw [hput]
      intro p hp
      rcases List.mem_or_eq_of_mem_set hp with hp | rfl
      · exact hk p hp
      · exact ⟨kl, hx⟩
/-- 'm[x] = f(m[x])', its first half: the entry, made where there is none -/
theorem MapAt.entry (h : MapAt P k w b l) (K : Keyed P k) (ht : P.underlying t = some (.map k e)) {z : Value} (hz : ∀ w, (zeroValue e).run P w = .ok z w) {x : Value} {kl : Lit} (hx : keyOf P k x = some kl) :
    ∃ w' n, (Instr.mapEntry t (.map (some b)) x).run P w = .ok (.tuple #[(atK l x).getD z, goInt (n : Nat)]) w' ∧ EntAt P k w' b (putK l x ((atK l x).getD z)) x n ∧ w.grownBy w' (some b) ∧ w'.heap.size = w.heap.size := by
  have hnd := h.nodup
  obtain ⟨es, clock, hb, rfl, hs, hk⟩ := h
  rcases K.find w hx es.toList (keys_es hk) with ⟨h1, h2⟩ | ⟨j, e0, h1, h2, h3⟩
  · have hno : ∀ p ∈ es.toList.map entOf, p.1 ≠ x := fun p hp => by obtain ⟨y, hy, rfl⟩ := List.mem_map.1 hp; exact h2 y hy
    rw [atK_none hno, putK_new hno]
    refine ⟨setBlock w b (.map (es.push ⟨x, z, clock⟩) (clock + 1)), clock, ?_, ⟨_, _, setBlock_at hb, ?_, stamped_push hs h2, ?_, es.toList.length, ⟨x, z, clock⟩, by simp, rfl, rfl⟩, grown_setBlock, setBlock_size⟩
    · simp [Instr.mapEntry, run_underlying ht, MapKept.run_getObj_map hb, K.check w false hx, h1, hz, MapKept.run_setObj_map _ hb, Result.andThen, setBlock]
    · simp [entOf]
    · intro p hp
      rcases List.mem_append.1 hp with hp | hp
      · exact hk p hp
      · rw [List.mem_singleton.1 hp]; exact ⟨kl, hx⟩
  · have hj : es[j]? = some e0 := by simpa using h2
    have hat : atK (es.toList.map entOf) x = some e0.val := atK_at hnd j (entOf e0) (by rw [List.getElem?_map, h2]; rfl) h3
    rw [hat, Option.getD_some, putK_same hat]
    have hlist : (es.modify j fun e' => { e' with key := x }).toList = es.toList := by
      rw [modify_ents es j e0 _ h2]
      have : ({ e0 with key := x } : MapEntry) = e0 := by rw [← h3]
      rw [this]
      obtain ⟨hlt, he⟩ := List.getElem?_eq_some_iff.1 h2
      rw [← he]
      exact List.set_getElem_self hlt
    refine ⟨setBlock w b (.map (es.modify j fun e' => { e' with key := x }) clock), e0.born, ?_, ⟨_, _, setBlock_at hb, by rw [hlist], stamped_modify hs _ _ (fun _ _ => rfl) (fun e' _ he' => by rw [hj] at he'; cases he'; exact h3.symm), hk, j, e0, by rw [hlist]; exact h2, h3, rfl⟩, grown_setBlock, setBlock_size⟩
    simp [Instr.mapEntry, run_underlying ht, MapKept.run_getObj_map hb, K.check w false hx, h1, hj, h3, K.stays w hx, MapKept.run_setObj_map _ hb, Result.andThen, setBlock]
theorem idx_of_born {es : List MapEntry} (h1 : (es.map (·.born)).Nodup) (h2 : es.Pairwise (fun x y => x.key ≠ y.key)) {i j : Nat} {x y : MapEntry} (hi : es[i]? = some x) (hj : es[j]? = some y) (h : x.born = y.born) : i = j := by
  obtain rfl := born_inj h1 (List.mem_of_getElem? hi) (List.mem_of_getElem? hj) h
  obtain ⟨l1, e1⟩ := List.getElem?_eq_some_iff.1 hi
  obtain ⟨l2, e2⟩ := List.getElem?_eq_some_iff.1 hj
  rw [List.pairwise_iff_getElem] at h2
  rcases Nat.lt_trichotomy i j with hlt | he | hlt
  · exact absurd (by rw [e1, e2]) (h2 i j l1 l2 hlt)
  · exact he
  · exact absurd (by rw [e1, e2]) (h2 j i l2 l1 hlt)
/-- its second half: the value laid at the entry -/
theorem EntAt.store {x v : Value} {n : Nat} (h : EntAt P k w b l x n) (hv : True) :
    ∃ w', (Instr.entryStore t (.map (some b)) (goInt (n : Nat)) v).run P w = .ok () w' ∧ MapAt P k w' b (putK l x v) ∧ w.grownBy w' (some b) ∧ w'.heap.size = w.heap.size := by
  have hnd := h.map.nodup
  obtain ⟨es, clock, hb, rfl, hs, hk, j, y, hj, rfl, rfl⟩ := h
  have hj' : es[j]? = some y := by simpa using hj
  have hst := (stamped_iff es clock).1 hs
  have hf : es.findIdx? (fun e => (e.born : Int) == (y.born : Int)) = some j := by
    rw [Array.findIdx?_eq_some_iff_getElem]
    obtain ⟨hlt, he⟩ := Array.getElem?_eq_some_iff.1 hj'
    refine ⟨hlt, by rw [he]; simp, fun i hij => ?_⟩
    have hilt : i < es.size := by omega
    intro hc
    have hc' : es[i].born = y.born := by
      have h0 : ((es[i].born : Nat) : Int) = (y.born : Nat) := by simpa using hc
      omega
    have := idx_of_born hst.2.1 hst.2.2 (i := i) (j := j) (x := es[i]) (by rw [Array.getElem?_toList, Array.getElem?_eq_getElem hilt]) hj hc'
    omega
  have hput : putK (es.toList.map entOf) y.key v = (es.toList.map entOf).set j (y.key, v) := putK_at hnd j (entOf y) (by rw [List.getElem?_map, hj]; rfl) rfl
  refine ⟨setBlock w b (.map (es.modify j fun e => { e with val := v }) clock), ?_, ⟨_, _, setBlock_at hb, ?_, stamped_modify hs _ _ (fun _ _ => rfl) (fun _ _ _ => rfl), ?_⟩, grown_setBlock, setBlock_size⟩
  · simp [Instr.entryStore, MapKept.run_getObj_map hb, MapKept.run_setObj_map _ hb, hf, asInt, asIntOf, goInt, Result.andThen, setBlock]
  · rw [hput, modify_ents es j y _ hj, List.map_set]
    rfl
  · rw [hput]
    intro p hp
    rcases List.mem_or_eq_of_mem_set hp with hp | rfl
    · exact hk p hp
    · exact hk (entOf y) (List.mem_map.2 ⟨y, List.mem_of_getElem? hj, rfl⟩)

/-! ### a range over a map, no key laid anew in its rounds -/
/-- block r is an iterator over the map at b; done i: the i-th entry has come -/
def Ranging (P : Program) (k : TypeId) (w : World) (b r : Nat) (l : Ents) (done : Nat → Bool) : Prop :=
  ∃ es clock since seen c0, w.heap[b]? = some (.map es clock) ∧ es.toList.map entOf = l ∧ Stamped es clock ∧ (∀ p ∈ l, ∃ t, keyOf P k p.1 = some t) ∧
    w.heap[r]? = some (.mapIter (some b) since seen c0) ∧ (∀ x ∈ es.toList, x.born < since) ∧ since ≤ c0 ∧ since ≤ clock ∧ ∀ i (x : MapEntry), es.toList[i]? = some x → done i = seen.contains x.born
theorem Ranging.map {r : Nat} {done : Nat → Bool} (h : Ranging P k w b r l done) : MapAt P k w b l := by
  obtain ⟨es, clock, since, seen, c0, h1, h2, h3, h4, _⟩ := h
  exact ⟨es, clock, h1, h2, h3, h4⟩
theorem Ranging.lt {r : Nat} {done : Nat → Bool} (h : Ranging P k w b r l done) : r < w.heap.size := by
  obtain ⟨es, clock, since, seen, c0, h1, h2, h3, h4, hr, _⟩ := h
  exact (Array.getElem?_eq_some_iff.1 hr).1
theorem Ranging.ne {r : Nat} {done : Nat → Bool} (h : Ranging P k w b r l done) : r ≠ b := by
  obtain ⟨es, clock, since, seen, c0, h1, h2, h3, h4, hr, _⟩ := h
  rintro rfl
  rw [h1] at hr
  cases hr
theorem Ranging.blocks {r : Nat} {done : Nat → Bool} (h : Ranging P k w b r l done) (hb : w'.heap[b]? = w.heap[b]?) (hr : w'.heap[r]? = w.heap[r]?) : Ranging P k w' b r l done := by
  obtain ⟨es, clock, since, seen, c0, h1, h2, h3, h4, h5, rest⟩ := h
  exact ⟨es, clock, since, seen, c0, hb.trans h1, h2, h3, h4, hr.trans h5, rest⟩
theorem Ranging.below {r : Nat} {done : Nat → Bool} (h : Ranging P k w b r l done) (hb : Below w.heap.size w w') : Ranging P k w' b r l done := h.blocks (hb.block b h.map.lt) (hb.block r h.lt)
theorem MapAt.range (h : MapAt P k w b l) (ht : P.underlying t = some (.map k e)) :
    (Instr.range t (.map (some b))).run P w = .ok (.pointer (some ⟨w.heap.size, 0, none⟩)) (w.alloc (.mapIter (some b) (match w.heap[b]? with | some (.map _ c) => c | _ => 0) #[] (match w.heap[b]? with | some (.map _ c) => c | _ => 0))) ∧
    Ranging P k (w.alloc (.mapIter (some b) (match w.heap[b]? with | some (.map _ c) => c | _ => 0) #[] (match w.heap[b]? with | some (.map _ c) => c | _ => 0))) b w.heap.size l (fun _ => false) := by
  have hlt := h.lt
  obtain ⟨es, clock, hb, rfl, hs, hk⟩ := h
  simp only [hb]
  refine ⟨run_range_map w t k e b es clock ht hb, es, clock, clock, #[], clock, ?_, rfl, hs, hk, heap_alloc_new w _, hs.1, Nat.le_refl _, Nat.le_refl _, fun i x _ => by simp⟩
  rw [MapKept.heap_alloc w _ |>.2 b hlt]
  exact hb
/-- how many have not come -/
def leftN (n : Nat) (done : Nat → Bool) : Nat := ((List.range n).filter fun i => !done i).length
theorem Ranging.next {r : Nat} {done : Nat → Bool} (h : Ranging P k w b r l done) (ty : TypeId) :
    ((∀ i, i < l.length → done i = true) ∧ (Instr.next (.pointer (some ⟨r, 0, none⟩)) false ty).run P w = .ok (.tuple #[.bool false]) w) ∨
    ∃ i x v w', l[i]? = some (x, v) ∧ done i = false ∧ (Instr.next (.pointer (some ⟨r, 0, none⟩)) false ty).run P w = .ok (.tuple #[.bool true, x, v]) w' ∧ Ranging P k w' b r l (fun j => done j || j == i) ∧ w.grownBy w' (some r) ∧ w'.heap.size = w.heap.size ∧
      (Instr.entry (.pointer (some ⟨r, 0, none⟩))).run P w' = .ok (.tuple #[x, v]) w' := by
  have hne := h.ne
  obtain ⟨es, clock, since, seen, c0, hb, rfl, hs, hk, hr, hold, hsc, hsk, hd⟩ := h
  have hst := (stamped_iff es clock).1 hs
  rcases run_next_at (P := P) w ty r b since c0 seen es clock hr hb hold hsc with ⟨h0, hrun⟩ | ⟨x, hx, w1, hal, hrun⟩
  · refine Or.inl ⟨fun i hi => ?_, hrun⟩
    have hi' : i < es.toList.length := by simpa using hi
    have hx := List.getElem?_eq_getElem hi'
    rw [hd i _ hx, ← Bool.not_eq_false]
    have := all_seen es seen h0 es.toList[i] (List.getElem_mem hi')
    rw [this]; simp
  · obtain ⟨hem, hes⟩ := mem_left hx
    obtain ⟨i, hi⟩ := List.getElem?_of_mem hem
    have hr1 : w1.heap[r]? = some (.mapIter (some b) since seen c0) := by rcases hal with rfl | rfl <;> exact hr
    have hb1 : w1.heap[b]? = some (.map es clock) := by rcases hal with rfl | rfl <;> exact hb
    have hset := heap_set (o' := .mapIter (some b) since (seen.push x.born) clock) hr1
    have hb' : (setBlock w1 r (.mapIter (some b) since (seen.push x.born) clock)).heap[b]? = some (.map es clock) := (hset.2 b (fun e1 => hne e1.symm)).trans hb1
    refine Or.inr ⟨i, x.key, x.val, _, by rw [List.getElem?_map, hi]; rfl, by rw [hd i x hi, hes], hrun,
      ⟨es, clock, since, seen.push x.born, clock, hb', rfl, hs, hk, hset.1, hold, hsk, hsk, fun j y hj => ?_⟩, ?_, ?_, run_entry_at _ r b since seen es clock x hset.1 hb' hem hst.2.1⟩
    · show (done j || j == i) = _
      rw [hd j y hj, contains_push]
      by_cases hji : j = i
      · subst hji
        rw [hi] at hj; cases hj
        simp
      · have : (y.born == x.born) = false := by
          simp only [beq_eq_false_iff_ne]
          intro hc
          exact hji (idx_of_born hst.2.1 hst.2.2 hj hi hc)
        simp [hji, this]
    · rcases hal with rfl | rfl <;> exact ⟨rfl, rfl, rfl, by simp [setBlock], fun i _ hi => hset.2 i (fun e1 => hi (by rw [e1]))⟩
    · rcases hal with rfl | rfl <;> simp [setBlock]
end
end Go.Proofs.Ytdepmcofnlggaaa
end
section
set_option linter.unusedVariables false
set_option linter.unusedSimpArgs false
namespace Go.Proofs.Ytdepmcofnlggaaa
open Go.RowKit Go.MapKept Go.ChangeMaps
open Go.Maps (Keyed)
open Classical
variable {P : Program} {k t e : TypeId} {w w' : World} {b r : Nat} {l : Ents}
theorem atK_some {x u : Value} : ∀ {l : Ents}, atK l x = some u → ∃ p ∈ l, p.1 = x := by
  intro l h
  by_cases hc : ∃ p ∈ l, p.1 = x
  · exact hc
  · rw [atK_none (fun p hp e => hc ⟨p, hp, e⟩)] at h
    cases h
theorem Ranging.update {done : Nat → Bool} (h : Ranging P k w b r l done) (K : Keyed P k) (ht : P.underlying t = some (.map k e)) {x v u : Value} {kl : Lit} (hx : keyOf P k x = some kl) (hat : atK l x = some u) :
    ∃ w', (Instr.mapUpdate t (.map (some b)) x v).run P w = .ok () w' ∧ Ranging P k w' b r (putK l x v) done ∧ w.grownBy w' (some b) ∧ w'.heap.size = w.heap.size := by
  have hnd := h.map.nodup
  have hne := h.ne
  obtain ⟨es, clock, since, seen, c0, hb, rfl, hs, hk, hr, hold, hsc, hsk, hd⟩ := h
  rcases K.find w hx es.toList (keys_es hk) with ⟨h1, h2⟩ | ⟨j, e0, h1, h2, h3⟩
  · obtain ⟨p, hp, hpx⟩ := atK_some hat
    obtain ⟨y, hy, rfl⟩ := List.mem_map.1 hp
    exact absurd hpx (h2 y hy)
  · have hj : es[j]? = some e0 := by simpa using h2
    have hput : putK (es.toList.map entOf) x v = (es.toList.map entOf).set j (x, v) := putK_at hnd j (entOf e0) (by rw [List.getElem?_map, h2]; rfl) h3
    have hlist := modify_ents es j e0 (fun e' => { e' with key := x, val := v }) h2
    have hborn : ∀ (i : Nat) (y : MapEntry), (es.modify j fun e' => { e' with key := x, val := v }).toList[i]? = some y → ∃ y0 : MapEntry, es.toList[i]? = some y0 ∧ y.born = y0.born := by
      intro i y hy
      rw [hlist, List.getElem?_set] at hy
      split at hy
      · next hji =>
        subst hji
        split at hy
        · cases hy
          exact ⟨e0, h2, rfl⟩
        · cases hy
      · exact ⟨y, hy, rfl⟩
    refine ⟨setBlock w b (.map (es.modify j fun e' => { e' with key := x, val := v }) clock), ?_, ⟨_, clock, since, seen, c0, setBlock_at hb, ?_, stamped_modify hs _ _ (fun _ _ => rfl) (fun e' _ he' => by rw [hj] at he'; cases he'; exact h3.symm), ?_, ?_, fun y hy => ?_, hsc, hsk, fun i y hy => ?_⟩, grown_setBlock, setBlock_size⟩
    · simp [Instr.mapUpdate, run_underlying ht, MapKept.run_getObj_map hb, K.check w false hx, h1, hj, h3, K.stays w hx, MapKept.run_setObj_map _ hb, Result.andThen, setBlock]
    · rw [hput, hlist, List.map_set]
      rfl
    · rw [hput]
      intro p hp
      rcases List.mem_or_eq_of_mem_set hp with hp | rfl
      · exact hk p hp
      · exact ⟨kl, hx⟩
    · have hg : w.grownBy (setBlock w b (.map (es.modify j fun e' => { e' with key := x, val := v }) clock)) (some b) := grown_setBlock
      rw [hg.block r (Array.getElem?_eq_some_iff.1 hr).1 (fun e => hne (by cases e; rfl))]
      exact hr
    · obtain ⟨i, hi⟩ := List.getElem?_of_mem hy
      obtain ⟨y0, q1, q2⟩ := hborn i y hi
      rw [q2]
      exact hold y0 (List.mem_of_getElem? q1)
    · obtain ⟨y0, q1, q2⟩ := hborn i y hy
      rw [q2]
      exact hd i y0 q1
end Go.Proofs.Ytdepmcofnlggaaa
end
section
set_option linter.unusedVariables false
set_option linter.unusedSimpArgs false
namespace Go.Proofs.Ytdepmcofnlggaaa.Rc
open Classical
variable {α : Type}

structure Tot (lt : α → α → Prop) : Prop where
  irr : ∀ a, ¬ lt a a
  tr : ∀ {a b c}, lt a b → lt b c → lt a c
  tot : ∀ a b, lt a b ∨ a = b ∨ lt b a

/-- how many steps each one is from 'to', as it is known after n rounds -/
noncomputable def lev (lt : α → α → Prop) (E : List (α × α)) (to : α) : Nat → α → Option Nat
  | 0, x => if x = to then some 0 else none
  | n + 1, x => match lev lt E to n x with
    | some k => some k
    | none => if lt to x ∧ ∃ h, (x, h) ∈ E ∧ lev lt E to n h = some n then some (n + 1) else none

section
variable {lt : α → α → Prop} {E : List (α × α)} {to : α}
theorem lev_succ_some {n k : Nat} {x : α} (h : lev lt E to n x = some k) : lev lt E to (n + 1) x = some k := by rw [lev, h]
theorem lev_mono {n m k : Nat} {x : α} (h : lev lt E to n x = some k) (hm : n ≤ m) : lev lt E to m x = some k := by
  induction m with
  | zero => obtain rfl : n = 0 := by omega
            exact h
  | succ m ih =>
    by_cases e : n = m + 1
    · subst e; exact h
    · exact lev_succ_some (ih (by omega))
theorem lev_le : ∀ {n k : Nat} {x : α}, lev lt E to n x = some k → k ≤ n
  | 0, k, x, h => by
    rw [lev] at h
    split at h
    · cases h; omega
    · cases h
  | n + 1, k, x, h => by
    rw [lev] at h
    split at h
    · next k' h' => cases h; have := lev_le h'; omega
    · split at h
      · cases h; omega
      · cases h
/-- what is known at n was known at its own round -/
theorem lev_own : ∀ {n k : Nat} {x : α}, lev lt E to n x = some k → lev lt E to k x = some k
  | 0, k, x, h => by
    have := lev_le h
    obtain rfl : k = 0 := by omega
    exact h
  | n + 1, k, x, h => by
    by_cases e : k = n + 1
    · subst e; exact h
    · have h0 := h
      rw [lev] at h
      split at h
      · next k' h' => cases h; exact lev_own h'
      · split at h
        · cases h; exact absurd rfl e
        · cases h
theorem lev_zero {n : Nat} {x : α} : lev lt E to n x = some 0 ↔ x = to := by
  constructor
  · intro h
    have := lev_own h
    rw [lev] at this
    split at this
    · assumption
    · cases this
  · rintro rfl
    exact lev_mono (n := 0) (by rw [lev, if_pos rfl]) (Nat.zero_le _)
theorem lev_none_of {n m : Nat} {x : α} (h : lev lt E to m x = none) (hn : n ≤ m) : lev lt E to n x = none := by
  cases hk : lev lt E to n x with
  | none => rfl
  | some k => rw [lev_mono hk hn] at h; cases h
theorem lev_new {n : Nat} {x : α} : lev lt E to (n + 1) x = some (n + 1) ↔ lev lt E to n x = none ∧ lt to x ∧ ∃ h, (x, h) ∈ E ∧ lev lt E to n h = some n := by
  constructor
  · intro h
    rw [lev] at h
    split at h
    · next k' h' => cases h; have := lev_le h'; omega
    · next h' =>
      split at h
      · next hc => exact ⟨h', hc⟩
      · cases h
  · rintro ⟨h1, h2⟩
    rw [lev, h1]
    simp only
    rw [if_pos h2]
theorem lev_gt {n k : Nat} {x : α} (h : lev lt E to n x = some (k + 1)) : lt to x ∧ ∃ h, (x, h) ∈ E ∧ lev lt E to k h = some k :=
  (lev_new.1 (lev_own h)).2
theorem nodup_len : ∀ {c l : List α}, c.Nodup → (∀ y ∈ c, y ∈ l) → c.length ≤ l.length
  | [], _, _, _ => Nat.zero_le _
  | a :: c, l, hn, hs => by
    have ha := hs a (by simp)
    obtain ⟨l1, l2, rfl⟩ := List.append_of_mem ha
    have := nodup_len (c := c) (l := l1 ++ l2) (List.nodup_cons.1 hn).2 (fun y hy => by
      have h1 := hs y (by simp [hy])
      have h2 : y ≠ a := fun e => (List.nodup_cons.1 hn).1 (e ▸ hy)
      simp only [List.mem_append, List.mem_cons] at h1 ⊢
      rcases h1 with h1 | h1 | h1
      · exact .inl h1
      · exact absurd h1 h2
      · exact .inr h1)
    simp only [List.length_append, List.length_cons] at this ⊢
    omega
theorem chain : ∀ {n : Nat} {x : α}, lev lt E to n x = some n → ∃ c : List α, c.length = n ∧ c.Nodup ∧ ∀ y ∈ c, y ∈ E.map (·.1) ∧ lt to y ∧ ∃ k, k ≤ n ∧ lev lt E to n y = some k
  | 0, x, _ => ⟨[], rfl, List.nodup_nil, fun y hy => by cases hy⟩
  | n + 1, x, h => by
    obtain ⟨h0, h1, g, hg, hl⟩ := lev_new.1 h
    obtain ⟨c, hc, hn, hy⟩ := chain hl
    refine ⟨x :: c, by simp [hc], List.nodup_cons.2 ⟨fun hx => ?_, hn⟩, fun y hm => ?_⟩
    · obtain ⟨_, _, k, _, hk⟩ := hy x hx
      rw [h0] at hk; cases hk
    · rcases List.mem_cons.1 hm with rfl | hm
      · exact ⟨List.mem_map.2 ⟨(y, g), hg, rfl⟩, h1, n + 1, Nat.le_refl _, h⟩
      · obtain ⟨a, b, k, hk, hl⟩ := hy y hm
        exact ⟨a, b, k, by omega, lev_succ_some hl⟩
theorem lev_top {n k : Nat} {x : α} (h : lev lt E to n x = some k) : k ≤ E.length := by
  obtain ⟨c, hc, hn, hy⟩ := chain (lev_own h)
  have := nodup_len hn (fun y hm => (hy y hm).1)
  rw [hc, List.length_map] at this
  exact this
/-- how far it is -/
noncomputable def dist (lt : α → α → Prop) (E : List (α × α)) (to x : α) : Option Nat := lev lt E to E.length x
theorem dist_of {n k : Nat} {x : α} (h : lev lt E to n x = some k) : dist lt E to x = some k := by
  have h1 := lev_own h
  exact lev_mono h1 (lev_top h)
theorem dist_own {k : Nat} {x : α} (h : dist lt E to x = some k) : lev lt E to k x = some k := lev_own h
theorem dist_none {n : Nat} {x : α} (h : dist lt E to x = none) : lev lt E to n x = none := by
  cases hk : lev lt E to n x with
  | none => rfl
  | some k => rw [dist_of hk] at h; cases h
theorem dist_zero {x : α} : dist lt E to x = some 0 ↔ x = to := lev_zero
theorem dist_step {k : Nat} {x : α} (h : dist lt E to x = some (k + 1)) : lt to x ∧ ∃ g, (x, g) ∈ E ∧ dist lt E to g = some k := by
  obtain ⟨h1, g, hg, hl⟩ := lev_gt h
  exact ⟨h1, g, hg, dist_of hl⟩
/-- there is a round through 'to', with this many steps ahead of the last one -/
def Back (lt : α → α → Prop) (E : List (α × α)) (to : α) (m : Nat) : Prop := ∃ h, (to, h) ∈ E ∧ dist lt E to h = some m
/-- .. and none with fewer -/
def Shortest (lt : α → α → Prop) (E : List (α × α)) (to : α) (m : Nat) : Prop := Back lt E to m ∧ ∀ k, k < m → ¬ Back lt E to k
theorem shortest_one {m n : Nat} (h1 : Shortest lt E to m) (h2 : Shortest lt E to n) : m = n := by
  rcases Nat.lt_trichotomy m n with e | e | e
  · exact absurd h1.1 (h2.2 m e)
  · exact e
  · exact absurd h2.1 (h1.2 n e)
theorem back_top (T : Tot lt) {m : Nat} (h : Back lt E to m) : m + 1 ≤ E.length := by
  obtain ⟨g, hg, hd⟩ := h
  obtain ⟨c, hc, hn, hy⟩ := chain (dist_own hd)
  have := nodup_len (c := to :: c) (l := E.map (·.1)) (List.nodup_cons.2 ⟨fun hx => T.irr _ (hy to hx).2.1, hn⟩) (fun y hm => by
    rcases List.mem_cons.1 hm with rfl | hm
    · exact List.mem_map.2 ⟨_, hg, rfl⟩
    · exact (hy y hm).1)
  simp only [List.length_cons, List.length_map, hc] at this
  exact this
/-- the one that comes next on the way back: the oldest that is so far -/
def Next (lt : α → α → Prop) (E : List (α × α)) (to at_ : α) (n : Nat) (h : α) : Prop :=
  (at_, h) ∈ E ∧ dist lt E to h = some n ∧ ∀ g, (at_, g) ∈ E → dist lt E to g = some n → ¬ lt g h
theorem next_one (T : Tot lt) {at_ h g : α} {n : Nat} (h1 : Next lt E to at_ n h) (h2 : Next lt E to at_ n g) : h = g := by
  rcases T.tot h g with e | e | e
  · exact absurd e (h2.2.2 h h1.1 h1.2.1)
  · exact e
  · exact absurd e (h1.2.2 g h2.1 h2.2.1)
/-- the way back from one: how far each is: n, n - 1, .., 1 -/
def Way (lt : α → α → Prop) (E : List (α × α)) (to : α) : α → Nat → List α → Prop
  | _, 0, l => l = []
  | at_, n + 1, l => ∃ h r, l = h :: r ∧ Next lt E to at_ (n + 1) h ∧ Way lt E to h n r
theorem way_len : ∀ {n : Nat} {at_ : α} {l : List α}, Way lt E to at_ n l → l.length = n
  | 0, _, _, h => by rw [h]; rfl
  | n + 1, _, _, h => by obtain ⟨g, r, rfl, _, hr⟩ := h; simp [way_len hr]
theorem way_one (T : Tot lt) : ∀ {n : Nat} {at_ : α} {l r : List α}, Way lt E to at_ n l → Way lt E to at_ n r → l = r
  | 0, _, _, _, h1, h2 => by rw [h1, h2]
  | n + 1, _, _, _, h1, h2 => by
    obtain ⟨g, r, rfl, hg, hr⟩ := h1
    obtain ⟨g', r', rfl, hg', hr'⟩ := h2
    obtain rfl := next_one T hg hg'
    rw [way_one T hr hr']
/-- the round from one that is its oldest -/
def Round (lt : α → α → Prop) (E : List (α × α)) (x : α) (r : Option (List α)) : Prop :=
  ((∀ m, ¬ Back lt E x m) ∧ r = none) ∨ ∃ m l, Shortest lt E x m ∧ r = some (x :: l) ∧ Way lt E x x m l
theorem round_one (T : Tot lt) {x : α} {r s : Option (List α)} (h1 : Round lt E x r) (h2 : Round lt E x s) : r = s := by
  rcases h1 with ⟨a, rfl⟩ | ⟨m, l, a, rfl, w⟩
  · rcases h2 with ⟨_, rfl⟩ | ⟨m', l', a', rfl, _⟩
    · rfl
    · exact absurd a'.1 (a _)
  · rcases h2 with ⟨a', rfl⟩ | ⟨m', l', a', rfl, w'⟩
    · exact absurd a.1 (a' _)
    · obtain rfl := shortest_one a a'
      rw [way_one T w w']
/-- the least of the rounds so far and one more -/
noncomputable def better (best r : Option (List α)) : Option (List α) :=
  match r, best with
  | none, b => b
  | some l, none => some l
  | some l, some b => if l.length < b.length then some l else some b
/-- the least round of all from these, one by one -/
def Least (lt : α → α → Prop) (E : List (α × α)) : List α → Option (List α) → Option (List α) → Prop
  | [], best, res => res = best
  | x :: l, best, res => ∃ r, Round lt E x r ∧ Least lt E l (better best r) res
theorem least_one (T : Tot lt) : ∀ {l : List α} {b r s : Option (List α)}, Least lt E l b r → Least lt E l b s → r = s
  | [], _, _, _, h1, h2 => by rw [h1, h2]
  | x :: l, _, _, _, h1, h2 => by
    obtain ⟨r1, a1, b1⟩ := h1
    obtain ⟨r2, a2, b2⟩ := h2
    obtain rfl := round_one T a1 a2
    exact least_one T b1 b2
theorem least_snoc {x : α} {r' : Option (List α)} : ∀ {l : List α} {b r : Option (List α)}, Least lt E l b r → Round lt E x r' → Least lt E (l ++ [x]) b (better r r')
  | [], b, r, h, hr => by rw [h]; exact ⟨r', hr, rfl⟩
  | y :: l, b, r, h, hr => by
    obtain ⟨r1, a1, b1⟩ := h
    exact ⟨r1, a1, least_snoc b1 hr⟩

/-! ### lists in order, each once -/
def SortedOf (lt : α → α → Prop) (l s : List α) : Prop := s.Pairwise lt ∧ ∀ x, x ∈ s ↔ x ∈ l
theorem sorted_one (T : Tot lt) : ∀ {s t : List α}, s.Pairwise lt → t.Pairwise lt → (∀ x, x ∈ s ↔ x ∈ t) → s = t
  | [], t, _, _, h => by
    cases t with
    | nil => rfl
    | cons b t => exact absurd ((h b).2 (by simp)) (by simp)
  | a :: s, [], _, _, h => absurd ((h a).1 (by simp)) (by simp)
  | a :: s, b :: t, h1, h2, h => by
    have h1' := List.pairwise_cons.1 h1
    have h2' := List.pairwise_cons.1 h2
    have hab : a = b := by
      rcases List.mem_cons.1 ((h a).1 (by simp)) with e | e
      · exact e
      · rcases List.mem_cons.1 ((h b).2 (by simp)) with e' | e'
        · exact e'.symm
        · exact absurd (T.tr (h1'.1 b e') (h2'.1 a e)) (T.irr _)
    subst hab
    congr 1
    refine sorted_one T h1'.2 h2'.2 (fun x => ⟨fun hx => ?_, fun hx => ?_⟩)
    · rcases List.mem_cons.1 ((h x).1 (by simp [hx])) with e | e
      · exact absurd (e ▸ h1'.1 x hx) (T.irr _)
      · exact e
    · rcases List.mem_cons.1 ((h x).2 (by simp [hx])) with e | e
      · exact absurd (e ▸ h2'.1 x hx) (T.irr _)
      · exact e
end
end Go.Proofs.Ytdepmcofnlggaaa.Rc
end
section
set_option linter.unusedVariables false
set_option linter.unusedSimpArgs false
namespace Go.Proofs.Ytdepmcofnlggaaa.Rc
open Classical
variable {α : Type} {lt : α → α → Prop} {E : List (α × α)} {to : α}

noncomputable def updF (far : α → Option Nat) (w : α) (n : Nat) : α → Option Nat := fun x => if w = x then some n else far x
/-- k: how far the front of the queue is; q1: those so far; q2: those one further -/
structure Bfs (lt : α → α → Prop) (E : List (α × α)) (to : α) (far : α → Option Nat) (k : Nat) (q1 q2 : List α) : Prop where
  sound : ∀ x j, far x = some j → dist lt E to x = some j
  lev1 : ∀ x ∈ q1, far x = some k
  lev2 : ∀ x ∈ q2, far x = some (k + 1)
  full : ∀ x j, j ≤ k → dist lt E to x = some j → far x = some j
  root : far to = some 0
  preds : ∀ h j, far h = some j → h ∉ q1 → h ∉ q2 → ∀ x, (x, h) ∈ E → lt to x → far x ≠ none
theorem Bfs.step {far : α → Option Nat} {k : Nat} {q1 q2 : List α} (B : Bfs lt E to far k q1 q2) {h w : α} (hh : h ∈ q1) (hw : (w, h) ∈ E) (hn : far w = none) (hlt : lt to w) : Bfs lt E to (updF far w (k + 1)) k q1 (q2 ++ [w]) := by
  have hne : ∀ x j, far x = some j → w ≠ x := fun x j hx e => by rw [e, hx] at hn; cases hn
  have keep : ∀ x j, far x = some j → updF far w (k + 1) x = some j := fun x j hx => by unfold updF; rw [if_neg (hne x j hx)]; exact hx
  refine ⟨fun x j hx => ?_, fun x hx => keep _ _ (B.lev1 x hx), fun x hx => ?_, fun x j hj hd => keep _ _ (B.full x j hj hd), keep _ _ B.root, fun g j hg h1 h2 x hx hlx => ?_⟩
  · unfold updF at hx
    split at hx
    · next e =>
      cases hx
      subst e
      have hd := B.sound h k (B.lev1 h hh)
      have hnone : lev lt E to k w = none := by
        cases hl : lev lt E to k w with
        | none => rfl
        | some j => have := B.full w j (lev_le hl) (dist_of hl); rw [hn] at this; cases this
      exact dist_of (lev_new.2 ⟨hnone, hlt, h, hw, dist_own hd⟩)
    · exact B.sound x j hx
  · rcases List.mem_append.1 hx with hx | hx
    · exact keep _ _ (B.lev2 x hx)
    · obtain rfl := List.mem_singleton.1 hx
      unfold updF
      rw [if_pos rfl]
  · have hgw : w ≠ g := fun e => h2 (by simp [e])
    unfold updF at hg
    rw [if_neg hgw] at hg
    have h3 := B.preds g j hg h1 (fun h => h2 (by simp [h])) x hx hlx
    unfold updF
    split
    · simp
    · exact h3
theorem Bfs.pop {far : α → Option Nat} {k : Nat} {q1 q2 : List α} {h : α} (B : Bfs lt E to far k (h :: q1) q2) (hp : ∀ x, (x, h) ∈ E → lt to x → far x ≠ none) : Bfs lt E to far k q1 q2 :=
  ⟨B.sound, fun x hx => B.lev1 x (by simp [hx]), B.lev2, B.full, B.root, fun g j hg h1 h2 x hx hlx => by
    by_cases e : g = h
    · subst e; exact hp x hx hlx
    · exact B.preds g j hg (by simp [e, h1]) h2 x hx hlx⟩
theorem Bfs.turn {far : α → Option Nat} {k : Nat} {q2 : List α} (B : Bfs lt E to far k [] q2) : Bfs lt E to far (k + 1) q2 [] := by
  refine ⟨B.sound, B.lev2, (fun x hx => by cases hx), fun x j hj hd => ?_, B.root, fun g j hg h1 h2 x hx hlx => B.preds g j hg (by simp) h1 x hx hlx⟩
  by_cases e : j ≤ k
  · exact B.full x j e hd
  · obtain rfl : j = k + 1 := by omega
    obtain ⟨hlt, g, hg, hdg⟩ := dist_step hd
    have hfg := B.full g k (Nat.le_refl _) hdg
    have h2 : g ∉ q2 := fun hm => by have := B.lev2 g hm; rw [hfg] at this; simp at this
    have hne := B.preds g k hfg (by simp) h2 x hg hlt
    cases hx : far x with
    | none => exact absurd hx hne
    | some i => have := B.sound x i hx; rw [hd] at this; exact this.symm
/-- the queue -/
def BfsQ (lt : α → α → Prop) (E : List (α × α)) (to : α) (far : α → Option Nat) (Q : List α) : Prop :=
  ∃ k q1 q2, Q = q1 ++ q2 ∧ Bfs lt E to far k q1 q2 ∧ (q1 = [] → q2 = [])
theorem BfsQ.start (lt : α → α → Prop) (E : List (α × α)) (to : α) : BfsQ lt E to (fun x => if to = x then some 0 else none) [to] := by
  refine ⟨0, [to], [], rfl, ⟨fun x j hx => ?_, fun x hx => ?_, (fun x hx => by cases hx), fun x j hj hd => ?_, by simp, fun g j hg h1 _ x hx hlx => ?_⟩, by simp⟩
  · split at hx
    · next e => cases hx; exact dist_zero.2 e.symm
    · cases hx
  · obtain rfl := List.mem_singleton.1 hx
    simp
  · obtain rfl : j = 0 := by omega
    have := dist_zero.1 hd
    subst this
    simp
  · split at hg
    · next e => exact absurd (by simp [e]) h1
    · cases hg
theorem BfsQ.root {far : α → Option Nat} {Q : List α} (B : BfsQ lt E to far Q) : far to = some 0 := by
  obtain ⟨k, q1, q2, _, B, _⟩ := B
  exact B.root
theorem BfsQ.sound {far : α → Option Nat} {Q : List α} (B : BfsQ lt E to far Q) : ∀ x j, far x = some j → dist lt E to x = some j := by
  obtain ⟨k, q1, q2, _, B, _⟩ := B
  exact B.sound
theorem BfsQ.head {far : α → Option Nat} {Q : List α} {h : α} (B : BfsQ lt E to far (h :: Q)) : ∃ n, far h = some n := by
  obtain ⟨k, q1, q2, e, B, hq⟩ := B
  cases q1 with
  | nil => rw [hq rfl] at e; cases e
  | cons a q1 => cases e; exact ⟨k, B.lev1 _ (by simp)⟩
theorem BfsQ.step {far : α → Option Nat} {Q : List α} {h w : α} {n : Nat} (B : BfsQ lt E to far (h :: Q)) (hw : (w, h) ∈ E) (hh : far h = some n) (hn : far w = none) (hlt : lt to w) : BfsQ lt E to (updF far w (n + 1)) (h :: Q ++ [w]) := by
  obtain ⟨k, q1, q2, e, B, hq⟩ := B
  cases q1 with
  | nil => rw [hq rfl] at e; cases e
  | cons a q1 =>
    cases e
    have hk := B.lev1 h (by simp)
    rw [hh] at hk
    cases hk
    exact ⟨n, h :: q1, q2 ++ [w], by simp, B.step (by simp) hw hn hlt, (fun hc => by cases hc)⟩
theorem BfsQ.pop {far : α → Option Nat} {Q : List α} {h : α} (B : BfsQ lt E to far (h :: Q)) (hp : ∀ x, (x, h) ∈ E → lt to x → far x ≠ none) : BfsQ lt E to far Q := by
  obtain ⟨k, q1, q2, e, B, hq⟩ := B
  cases q1 with
  | nil => rw [hq rfl] at e; cases e
  | cons a q1 =>
    cases e
    have B' := B.pop hp
    cases q1 with
    | nil => exact ⟨k + 1, q2, [], by simp, B'.turn, fun _ => rfl⟩
    | cons b q1 => exact ⟨k, b :: q1, q2, rfl, B', (fun hc => by cases hc)⟩
theorem BfsQ.fin {far : α → Option Nat} (B : BfsQ lt E to far []) (x : α) : far x = dist lt E to x := by
  obtain ⟨k, q1, q2, e, B, hq⟩ := B
  have e1 : q1 = [] := by cases q1 with | nil => rfl | cons a q => cases e
  have e2 := hq e1
  subst e1 e2
  have key : ∀ j x, dist lt E to x = some j → far x = some j := by
    intro j
    induction j with
    | zero => intro x hd; rw [dist_zero.1 hd]; exact B.root
    | succ j ih =>
      intro x hd
      obtain ⟨hlt, g, hg, hdg⟩ := dist_step hd
      have hne := B.preds g j (ih g hdg) (by simp) (by simp) x hg hlt
      cases hx : far x with
      | none => exact absurd hx hne
      | some i => have := B.sound x i hx; rw [hd] at this; exact this.symm
  cases hx : far x with
  | some j => exact (B.sound x j hx).symm
  | none =>
    cases hd : dist lt E to x with
    | none => rfl
    | some j => rw [key j x hd] at hx; cases hx
/-- how many waiters are not yet known -/
noncomputable def unknown (E : List (α × α)) (far : α → Option Nat) : Nat := ((E.map (·.1)).filter fun x => decide (far x = none)).length
theorem filter_less {p q : α → Bool} {w : α} : ∀ {l : List α}, (∀ x, q x = true → p x = true) → w ∈ l → p w = true → q w = false → (l.filter q).length < (l.filter p).length
  | [], _, h, _, _ => by cases h
  | a :: l, hpq, h, hp, hq => by
    have hle : (l.filter q).length ≤ (l.filter p).length := by
      clear h
      induction l with
      | nil => simp
      | cons b l ih =>
        simp only [List.filter_cons]
        have := hpq b
        cases hb : q b <;> cases hb' : p b <;> simp_all
        omega
    rcases List.mem_cons.1 h with e | h
    · subst e
      simp only [List.filter_cons, hp, hq, if_true, List.length_cons]
      simp
      omega
    · have ih := filter_less hpq h hp hq
      simp only [List.filter_cons]
      have := hpq a
      cases hb : q a <;> cases hb' : p a <;> simp_all
      omega
theorem unknown_less {far : α → Option Nat} {w h : α} {n : Nat} (hw : (w, h) ∈ E) (hn : far w = none) : unknown E (updF far w n) + 1 ≤ unknown E far := by
  refine filter_less (p := fun x => decide (far x = none)) (q := fun x => decide (updF far w n x = none)) (w := w) (fun x hx => ?_) (List.mem_map.2 ⟨_, hw, rfl⟩) (by simp [hn]) (by simp [updF])
  have := of_decide_eq_true hx
  unfold updF at this
  split at this
  · cases this
  · exact decide_eq_true this
end Go.Proofs.Ytdepmcofnlggaaa.Rc
end
section
set_option linter.unusedVariables false
set_option linter.unusedSimpArgs false
namespace Go.Proofs.Ytdepmcofnlggaaa.Rc
open Classical
variable {α : Type} {lt : α → α → Prop} {E : List (α × α)} {to : α}

/-- does an edge to h count in round n? -/
def reach (to : α) (prev : α → Option Nat) (n : Nat) (h : α) : Prop := (n = 1 ∧ h = to) ∨ (1 < n ∧ h ≠ to ∧ prev h = some (n - 1))
/-- within round n, these edges having been looked at -/
noncomputable def midR (lt : α → α → Prop) (to : α) (n : Nat) (prev : α → Option Nat) (E' : List (α × α)) (x : α) : Option Nat :=
  match prev x with
  | some k => some k
  | none => if ¬ lt x to ∧ ∃ h, (x, h) ∈ E' ∧ reach to prev n h then some n else none
noncomputable def refR (lt : α → α → Prop) (E : List (α × α)) (to : α) : Nat → α → Option Nat
  | 0 => fun _ => none
  | n + 1 => midR lt to (n + 1) (refR lt E to n) E
theorem midR_nil (n : Nat) (prev : α → Option Nat) : midR lt to n prev [] = prev := by
  funext x
  unfold midR
  cases prev x with
  | some k => rfl
  | none => simp
theorem midR_some {n k : Nat} {prev : α → Option Nat} {E' : List (α × α)} {x : α} (h : prev x = some k) : midR lt to n prev E' x = some k := by unfold midR; rw [h]
theorem midR_old {n k : Nat} {prev : α → Option Nat} {E' : List (α × α)} {x : α} (hk : k ≠ n) : midR lt to n prev E' x = some k ↔ prev x = some k := by
  constructor
  · intro h
    unfold midR at h
    cases hp : prev x with
    | some j => rw [hp] at h; exact h
    | none =>
      rw [hp] at h
      simp only at h
      split at h
      · cases h; exact absurd rfl hk
      · cases h
  · exact midR_some
theorem midR_snoc {n : Nat} {prev : α → Option Nat} {E' : List (α × α)} {w h : α} :
    midR lt to n prev (E' ++ [(w, h)]) = if midR lt to n prev E' w = none ∧ reach to prev n h ∧ ¬ lt w to then updF (midR lt to n prev E') w n else midR lt to n prev E' := by
  funext x
  split
  · next hc =>
    obtain ⟨h1, h2, h3⟩ := hc
    unfold updF
    by_cases e : w = x
    · subst e
      rw [if_pos rfl]
      unfold midR at h1 ⊢
      cases hp : prev w with
      | some k => rw [hp] at h1; cases h1
      | none => simp only; rw [if_pos ⟨h3, h, by simp, h2⟩]
    · rw [if_neg e]
      unfold midR
      cases hp : prev x with
      | some k => rfl
      | none =>
        simp only
        have : (∃ g, (x, g) ∈ E' ++ [(w, h)] ∧ reach to prev n g) ↔ ∃ g, (x, g) ∈ E' ∧ reach to prev n g := by
          constructor
          · rintro ⟨g, hg, hr⟩
            rcases List.mem_append.1 hg with hg | hg
            · exact ⟨g, hg, hr⟩
            · have := List.mem_singleton.1 hg
              simp only [Prod.mk.injEq] at this
              exact absurd this.1.symm e
          · rintro ⟨g, hg, hr⟩
            exact ⟨g, List.mem_append.2 (.inl hg), hr⟩
        rw [this]
  · next hc =>
    unfold midR
    cases hp : prev x with
    | some k => rfl
    | none =>
      simp only
      by_cases hold : ¬ lt x to ∧ ∃ g, (x, g) ∈ E' ∧ reach to prev n g
      · rw [if_pos hold, if_pos ⟨hold.1, by obtain ⟨g, hg, hr⟩ := hold.2; exact ⟨g, List.mem_append.2 (.inl hg), hr⟩⟩]
      · rw [if_neg hold, if_neg]
        rintro ⟨h1, g, hg, hr⟩
        rcases List.mem_append.1 hg with hg | hg
        · exact hold ⟨h1, g, hg, hr⟩
        · have := List.mem_singleton.1 hg
          simp only [Prod.mk.injEq] at this
          obtain ⟨e1, e2⟩ := this
          subst e1 e2
          refine hc ⟨?_, hr, h1⟩
          unfold midR
          rw [hp]
          simp only
          rw [if_neg hold]
theorem refR_le : ∀ {n k : Nat} {x : α}, refR lt E to n x = some k → 1 ≤ k ∧ k ≤ n
  | 0, _, _, h => by cases h
  | n + 1, k, x, h => by
    by_cases e : k = n + 1
    · omega
    · have := refR_le ((midR_old e).1 h)
      omega
/-- a round in which nothing has come is the last -/
theorem refR_still {n : Nat} (h : refR lt E to (n + 1) = refR lt E to n) : ∀ m, n ≤ m → refR lt E to m = refR lt E to n := by
  intro m hm
  induction m with
  | zero => obtain rfl : n = 0 := by omega
            rfl
  | succ m ih =>
    by_cases e : n = m + 1
    · rw [e]
    · by_cases e2 : n = m
      · subst e2; exact h
      · have ih := ih (by omega)
        funext x
        show midR lt to (m + 1) (refR lt E to m) E x = _
        rw [ih]
        unfold midR
        cases hp : refR lt E to n x with
        | some k => rfl
        | none =>
          simp only
          rw [if_neg]
          rintro ⟨_, g, _, hr⟩
          rcases hr with ⟨h1, _⟩ | ⟨_, _, h3⟩
          · omega
          · have := refR_le h3
            omega
/-- against the levels -/
theorem refR_lev (T : Tot lt) : ∀ n x, x ≠ to → refR lt E to n x = lev lt E to n x
  | 0, x, hx => by rw [lev, if_neg hx]; rfl
  | n + 1, x, hx => by
    have ih := refR_lev T n
    show midR lt to (n + 1) (refR lt E to n) E x = _
    unfold midR
    rw [lev, ih x hx]
    cases lev lt E to n x with
    | some k => rfl
    | none =>
      simp only
      have hr : ∀ g, reach to (refR lt E to n) (n + 1) g ↔ lev lt E to n g = some n := fun g => by
        unfold reach
        constructor
        · rintro (⟨h1, rfl⟩ | ⟨h1, h2, h3⟩)
          · obtain rfl : n = 0 := by omega
            exact lev_zero.2 rfl
          · rw [ih g h2] at h3; exact h3
        · intro h
          by_cases h0 : n = 0
          · subst h0; exact .inl ⟨rfl, lev_zero.1 h⟩
          · have hg : g ≠ to := fun e => by
              subst e
              rw [lev_zero (n := n) |>.2 rfl] at h
              cases h
              omega
            exact .inr ⟨by omega, hg, by rw [ih g hg]; exact h⟩
      have hl : ¬ lt x to ↔ lt to x := ⟨fun h => by
        rcases T.tot x to with e | e | e
        · exact absurd e h
        · exact absurd e hx
        · exact e, fun h h2 => T.irr _ (T.tr h h2)⟩
      simp only [hr, hl]
theorem refR_to (T : Tot lt) (n : Nat) : (∀ m, Shortest lt E to m → m + 1 ≤ n → refR lt E to n to = some (m + 1)) ∧ ((∀ m, m + 1 ≤ n → ¬ Back lt E to m) → refR lt E to n to = none) := by
  induction n with
  | zero => exact ⟨fun m _ h => by omega, fun _ => rfl⟩
  | succ n ih =>
    have hr : ∀ g, reach to (refR lt E to n) (n + 1) g ↔ dist lt E to g = some n := fun g => by
      unfold reach
      constructor
      · rintro (⟨h1, rfl⟩ | ⟨h1, h2, h3⟩)
        · obtain rfl : n = 0 := by omega
          exact dist_zero.2 rfl
        · rw [refR_lev T n g h2] at h3; exact dist_of h3
      · intro h
        by_cases h0 : n = 0
        · subst h0; exact .inl ⟨rfl, dist_zero.1 h⟩
        · have hg : g ≠ to := fun e => by
            subst e
            rw [dist_zero.2 rfl] at h
            cases h
            omega
          exact .inr ⟨by omega, hg, by rw [refR_lev T n g hg]; exact dist_own h⟩
    have hstep : refR lt E to (n + 1) to = match refR lt E to n to with | some k => some k | none => if Back lt E to n then some (n + 1) else none := by
      show midR lt to (n + 1) (refR lt E to n) E to = _
      unfold midR
      cases refR lt E to n to with
      | some k => rfl
      | none =>
        simp only [hr]
        have : (¬ lt to to ∧ ∃ h, (to, h) ∈ E ∧ dist lt E to h = some n) ↔ Back lt E to n := ⟨fun h => h.2, fun h => ⟨T.irr _, h⟩⟩
        by_cases hb : Back lt E to n
        · rw [if_pos (this.2 hb), if_pos hb]
        · rw [if_neg (fun h => hb (this.1 h)), if_neg hb]
    rw [hstep]
    constructor
    · intro m hs hm
      by_cases e : m + 1 ≤ n
      · rw [ih.1 m hs e]
      · obtain rfl : m = n := by omega
        rw [ih.2 (fun k hk => hs.2 k (by omega))]
        simp only
        rw [if_pos hs.1]
    · intro h
      rw [ih.2 (fun m hm => h m (by omega))]
      simp only
      rw [if_neg (h n (Nat.le_refl _))]
/-- what the document's far answers -/
noncomputable def farR (lt : α → α → Prop) (E : List (α × α)) (to : α) : α → Option Nat := refR lt E to E.length
theorem farR_dist (T : Tot lt) {x : α} (hx : x ≠ to) : farR lt E to x = dist lt E to x := refR_lev T _ x hx
theorem farR_some (T : Tot lt) {m : Nat} (h : Shortest lt E to m) : farR lt E to to = some (m + 1) := (refR_to T _).1 m h (back_top T h.1)
theorem farR_none (T : Tot lt) (h : ∀ m, ¬ Back lt E to m) : farR lt E to to = none := (refR_to T _).2 (fun m _ => h m)
theorem shortest_or {m : Nat} (h : Back lt E to m) : ∃ k, Shortest lt E to k := by
  induction m using Nat.strongRecOn with
  | _ m ih =>
    by_cases e : ∃ k, k < m ∧ Back lt E to k
    · obtain ⟨k, h1, h2⟩ := e
      exact ih k h1 h2
    · exact ⟨m, h, fun k hk hb => e ⟨k, hk, hb⟩⟩
end Go.Proofs.Ytdepmcofnlggaaa.Rc
end
section
set_option linter.unusedVariables false
set_option linter.unusedSimpArgs false
namespace Go.Proofs.Ytdepmcofnlggaaa.Rc
open Classical

variable {α : Type}
def it (f : α → α) : Nat → α → α
  | 0, v => v
  | n + 1, v => f (it f n v)
theorem it_add (f : α → α) (n : Nat) (v : α) : ∀ m, it f (m + n) v = it f m (it f n v)
  | 0 => by rw [Nat.zero_add]; rfl
  | m + 1 => by
    rw [show m + 1 + n = (m + n) + 1 by omega]
    show f (it f (m + n) v) = f (it f m (it f n v))
    rw [it_add f n v m]
theorem min_in {lt : α → α → Prop} (T : Tot lt) : ∀ l : List α, l ≠ [] → ∃ x ∈ l, ∀ y ∈ l, ¬ lt y x
  | [], h => absurd rfl h
  | [a], _ => ⟨a, by simp, fun y hy => by rw [List.mem_singleton.1 hy]; exact T.irr a⟩
  | a :: b :: r, _ => by
    obtain ⟨x, hx, hm⟩ := min_in T (b :: r) (by simp)
    by_cases h : lt a x
    · refine ⟨a, by simp, fun y hy => ?_⟩
      rcases List.mem_cons.1 hy with rfl | hy
      · exact T.irr _
      · exact fun h2 => hm y hy (T.tr h2 h)
    · refine ⟨x, List.mem_cons_of_mem _ hx, fun y hy => ?_⟩
      rcases List.mem_cons.1 hy with rfl | hy
      · exact h
      · exact hm y hy
theorem dist_back {lt : α → α → Prop} {E : List (α × α)} {x y h : α} {k : Nat} (he : (y, h) ∈ E) (hd : dist lt E x h = some k) (hy : lt x y ∨ y = x) : ∃ k', dist lt E x y = some k' := by
  rcases hy with hy | rfl
  · cases hl : lev lt E x k y with
    | some j => exact ⟨j, dist_of hl⟩
    | none => exact ⟨k + 1, dist_of (lev_new.2 ⟨hl, hy, h, he, dist_own hd⟩)⟩
  · exact ⟨0, dist_zero.2 rfl⟩
/-- a function on a finite set comes round -/
theorem comes_round {f : α → α} {V : List α} (hf : ∀ v ∈ V, f v ∈ V) {v : α} (hv : v ∈ V) : ∃ y ∈ V, ∃ p, 1 ≤ p ∧ it f p y = y := by
  have hin : ∀ n, it f n v ∈ V := fun n => by
    induction n with
    | zero => exact hv
    | succ n ih => exact hf _ ih
  by_cases h : ∃ i j, i < j ∧ it f i v = it f j v
  · obtain ⟨i, j, hij, e⟩ := h
    refine ⟨it f i v, hin i, j - i, by omega, ?_⟩
    rw [← it_add, show j - i + i = j by omega]
    exact e.symm
  · exfalso
    have hn : ((List.range (V.length + 1)).map fun n => it f n v).Nodup := by
      refine List.pairwise_map.2 (List.Pairwise.imp (fun {a b} hab => ?_) List.pairwise_lt_range)
      exact fun e => h ⟨a, b, hab, e⟩
    have := nodup_len hn (fun y hy => by
      obtain ⟨n, _, rfl⟩ := List.mem_map.1 hy
      exact hin n)
    rw [List.length_map, List.length_range] at this
    omega
theorem peel {lt : α → α → Prop} (T : Tot lt) {E L : List (α × α)} (hno : ∀ x ∈ E.map (·.1), ∀ m, ¬ Back lt E x m) (hL : ∀ e ∈ L, e ∈ E) (hne : L ≠ []) : ∃ e ∈ L, ∀ f ∈ L, f.1 ≠ e.2 := by
  refine Classical.byContradiction fun hcon => ?_
  have hall : ∀ e ∈ L, ∃ g ∈ L, g.1 = e.2 := fun e he => Classical.byContradiction fun h => hcon ⟨e, he, fun g hg e' => h ⟨g, hg, e'⟩⟩
  have hstep : ∀ v, v ∈ L.map (·.1) → ∃ h, h ∈ L.map (·.1) ∧ (v, h) ∈ L := fun v hv => by
    obtain ⟨e, he, rfl⟩ := List.mem_map.1 hv
    obtain ⟨g, hg, e'⟩ := hall e he
    exact ⟨e.2, List.mem_map.2 ⟨g, hg, e'⟩, he⟩
  let f : α → α := fun v => if h : v ∈ L.map (·.1) then Classical.choose (hstep v h) else v
  have hf : ∀ v ∈ L.map (·.1), f v ∈ L.map (·.1) ∧ (v, f v) ∈ L := fun v hv => by
    have hs := Classical.choose_spec (hstep v hv)
    have e : f v = Classical.choose (hstep v hv) := dif_pos hv
    rw [e]
    exact hs
  obtain ⟨e0, he0⟩ := List.exists_mem_of_ne_nil _ hne
  obtain ⟨y, hy, p, hp, hr⟩ := comes_round (fun v hv => (hf v hv).1) (List.mem_map.2 ⟨e0, he0, rfl⟩)
  have hinV : ∀ n, it f n y ∈ L.map (·.1) := fun n => by
    induction n with
    | zero => exact hy
    | succ n ih => exact (hf _ ih).1
  have hper : ∀ n, it f n y ∈ (List.range p).map fun n => it f n y := fun n => by
    induction n with
    | zero => exact List.mem_map.2 ⟨0, List.mem_range.2 hp, rfl⟩
    | succ n ih =>
      obtain ⟨a, ha, e⟩ := List.mem_map.1 ih
      have ha := List.mem_range.1 ha
      have e2 : it f (n + 1) y = it f (a + 1) y := congrArg f e.symm
      rw [e2]
      by_cases h : a + 1 < p
      · exact List.mem_map.2 ⟨a + 1, List.mem_range.2 h, rfl⟩
      · rw [show a + 1 = p by omega, hr]
        exact List.mem_map.2 ⟨0, List.mem_range.2 hp, rfl⟩
  obtain ⟨x, hx, hmin⟩ := min_in T ((List.range p).map fun n => it f n y) (by
    intro h
    have := hper 0
    rw [h] at this
    cases this)
  obtain ⟨t, _, rfl⟩ := List.mem_map.1 hx
  have hrx : it f p (it f t y) = it f t y := by rw [← it_add, Nat.add_comm, it_add, hr]
  have hge : ∀ s, lt (it f t y) (it f s (it f t y)) ∨ it f s (it f t y) = it f t y := fun s => by
    have h1 := hmin _ (hper (s + t))
    rw [it_add] at h1
    rcases T.tot (it f s (it f t y)) (it f t y) with q | q | q
    · exact absurd q h1
    · exact .inr q
    · exact .inl q
  have hed : ∀ s, (it f s (it f t y), it f (s + 1) (it f t y)) ∈ E := fun s => by
    rw [← it_add]
    exact hL _ (hf _ (hinV (s + t))).2 |> fun h => by
      show (it f (s + t) y, f (it f s (it f t y))) ∈ E
      rw [← it_add]
      exact h
  have hd : ∀ d, d < p → ∃ k, dist lt E (it f t y) (it f (p - d) (it f t y)) = some k := fun d => by
    induction d with
    | zero => intro _; exact ⟨0, dist_zero.2 (by rw [Nat.sub_zero]; exact hrx)⟩
    | succ d ih =>
      intro hlt
      obtain ⟨k, hk⟩ := ih (by omega)
      have e := hed (p - (d + 1))
      rw [show p - (d + 1) + 1 = p - d by omega] at e
      exact dist_back e hk (hge _)
  obtain ⟨m, hm⟩ := hd (p - 1) (by omega)
  rw [show p - (p - 1) = 1 by omega] at hm
  have h0 := hed 0
  exact hno _ (List.mem_map.2 ⟨_, h0, rfl⟩) m ⟨_, h0, hm⟩
/-- where the answer is none, no round leads back to any of those looked at -/
theorem least_no {lt : α → α → Prop} {E : List (α × α)} : ∀ {l : List α} {b : Option (List α)}, Least lt E l b none → b = none ∧ ∀ x ∈ l, ∀ m, ¬ Back lt E x m
  | [], b, h => ⟨Eq.symm h, fun x hx => by cases hx⟩
  | x :: l, b, h => by
    obtain ⟨r, hr, hl⟩ := h
    obtain ⟨h1, h2⟩ := least_no hl
    rcases hr with ⟨h3, rfl⟩ | ⟨m, l', hs, rfl, _⟩
    · refine ⟨h1, fun y hy => ?_⟩
      rcases List.mem_cons.1 hy with rfl | hy
      · exact h3
      · exact h2 y hy
    · exfalso
      unfold better at h1
      cases b with
      | none => cases h1
      | some b' => simp only at h1; split at h1 <;> cases h1
end Go.Proofs.Ytdepmcofnlggaaa.Rc
end
section
set_option linter.unusedVariables false
set_option linter.unusedSimpArgs false
namespace Go.Proofs.Ytdepmcofnlggaaa.Rc
open Classical

variable {α : Type} {lt : α → α → Prop} {E : List (α × α)}
theorem least_some : ∀ {l : List α} {b : Option (List α)} {L : List α}, Least lt E l b (some L) → b = some L ∨ ∃ x, Round lt E x (some L)
  | [], b, L, h => .inl (Eq.symm h)
  | x :: l, b, L, h => by
    obtain ⟨q, hq, h2⟩ := h
    rcases least_some h2 with h3 | h3
    · cases q with
      | none => exact .inl h3
      | some M =>
        cases b with
        | none => exact .inr ⟨x, by rw [← h3]; exact hq⟩
        | some B =>
          have h4 : (if M.length < B.length then some M else some B) = some L := h3
          split at h4
          · exact .inr ⟨x, by rw [← h4]; exact hq⟩
          · exact .inl h4
    · exact .inr h3
theorem way_chain : ∀ {n : Nat} {x at_ : α} {l : List α}, Way lt E x at_ n l → (n = 0 → (at_, x) ∈ E) →
    (∀ i (h : i < l.length), ((at_ :: l)[i]'(by simp; omega), l[i]) ∈ E) ∧ ((at_ :: l)[l.length]'(by simp), x) ∈ E ∧ ∀ y ∈ l, lt x y
  | 0, x, at_, l, h, h0 => by
    have h : l = [] := h
    subst h
    exact ⟨fun i h => absurd h (Nat.not_lt_zero _), h0 rfl, fun y hy => by cases hy⟩
  | n + 1, x, at_, l, h, _ => by
    obtain ⟨g, r, rfl, ⟨he, hd, _⟩, hr⟩ := h
    obtain ⟨hlt, k, hk, hdk⟩ := dist_step hd
    obtain ⟨h1, h2, h3⟩ := way_chain hr (fun e => by
      subst e
      rw [dist_zero.1 hdk] at hk
      exact hk)
    refine ⟨fun i hi => ?_, h2, fun y hy => ?_⟩
    · match i, hi with
      | 0, _ => exact he
      | i + 1, hi => exact h1 i (by simpa using hi)
    · rcases List.mem_cons.1 hy with rfl | hy
      · exact hlt
      · exact h3 y hy
/-- a round is one: each waits for the next one, the last one for the first; the first is the oldest -/
theorem round_is {x : α} {L : List α} (h : Round lt E x (some L)) :
    0 < L.length ∧ (∀ i (hi : i < L.length), (L[i], L[(i + 1) % L.length]'(Nat.mod_lt _ (by omega))) ∈ E) ∧ ∀ i (hi : i < L.length), 0 < i → lt (L[0]'(by omega)) L[i] := by
  rcases h with ⟨_, h⟩ | ⟨m, l, hs, h, hw⟩
  · cases h
  · injection h with h
    subst h
    obtain ⟨h1, h2, h3⟩ := way_chain hw (fun e => by
      subst e
      obtain ⟨g, hg, hd⟩ := hs.1
      rw [dist_zero.1 hd] at hg
      exact hg)
    refine ⟨by simp, fun i hi => ?_, fun i hi h0 => ?_⟩
    · have hi' : i < l.length + 1 := by simpa using hi
      by_cases e : i = l.length
      · subst e
        have hm : (l.length + 1) % (x :: l).length = 0 := by rw [List.length_cons, Nat.mod_self]
        simp only [hm]
        exact h2
      · have hm : (i + 1) % (x :: l).length = i + 1 := by rw [List.length_cons, Nat.mod_eq_of_lt (by omega)]
        simp only [hm]
        exact h1 i (by omega)
    · match i, h0, hi with
      | i + 1, _, hi => exact h3 _ (List.getElem_mem _)
theorem round_len (T : Tot lt) {x : α} {L : List α} (h : Round lt E x (some L)) : L.length ≤ E.length := by
  rcases h with ⟨_, h⟩ | ⟨m, l, hs, h, hw⟩
  · cases h
  · injection h with h
    subst h
    rw [List.length_cons, way_len hw]
    exact back_top T hs.1
/-- those whose holder still waits -/
noncomputable def restP (L : List (α × α)) : List (α × α) := L.filter fun e => L.any fun f => decide (f.1 = e.2)
theorem rest_less (T : Tot lt) {L : List (α × α)} (hno : ∀ x ∈ E.map (·.1), ∀ m, ¬ Back lt E x m) (hL : ∀ e ∈ L, e ∈ E) (hne : 0 < L.length) : (restP L).length < L.length := by
  obtain ⟨e, he, hf⟩ := peel T hno hL (List.length_pos_iff.1 hne)
  rcases Nat.lt_or_ge (restP L).length L.length with h | h
  · exact h
  · exfalso
    have hle : (restP L).length ≤ L.length := List.length_filter_le _ _
    have h2 := List.length_filter_eq_length_iff.1 (Nat.le_antisymm hle h) e he
    obtain ⟨f, hf1, hf2⟩ := List.any_eq_true.1 h2
    exact hf f hf1 (of_decide_eq_true hf2)
end Go.Proofs.Ytdepmcofnlggaaa.Rc
end
