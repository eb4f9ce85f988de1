/- Slices that read as lists, nil or not; append of one in a region whose order is open (as in DskRdv, without the disk). (ahead of it: Words for memory: slices of bytes that read as lists, slices of the call's own, and what a call leaves as it was.) -/
import Derived.WalkKit
import Derived.KernelRfl
import Derived.Lib.Hide
import Derived.Maps.AppendAt
import Derived.Deep.AppendLies
import Derived.Laws.OwnMore
import Derived.Deep.Draws
import Derived.Laws.Rows
import Derived.Laws.BytesArg
import Derived.Laws.IdiomStrings
import Derived.Laws.AppendOwnNone
import Derived.RegionTactic
section
set_option linter.unusedVariables false
set_option linter.unusedSimpArgs false
namespace Go.Proofs.YtggogenhakdhiaaDoor
open Go.RowKit

/-! ### bytes -/
def bv (l : List UInt8) : List Value := l.map fun b => .int .u8 (b.toNat : Int)
theorem bv_length (l : List UInt8) : (bv l).length = l.length := by simp [bv]
theorem bv_append (l m : List UInt8) : bv (l ++ m) = bv l ++ bv m := by simp [bv]
theorem bv_getElem? (l : List UInt8) (i : Nat) : (bv l)[i]? = l[i]?.map fun b => .int .u8 (b.toNat : Int) := by simp [bv]
theorem bv_one (l : List UInt8) : ∀ u ∈ bv l, u.oneCell' = true := by
  intro u hu
  obtain ⟨b, _, rfl⟩ := List.mem_map.1 hu
  rfl
/-- bytes as a string -/
def str (l : List UInt8) : ByteArray := ⟨l.toArray⟩
theorem str_inj {l m : List UInt8} : str l = str m ↔ l = m := by
  constructor
  · intro h
    have := congrArg (fun b : ByteArray => b.data.toList) h
    simpa [str] using this
  · rintro rfl; rfl

/-- A slice of bytes that reads as a list; nil and empty ones too. -/
structure Bys (w : World) (A : Option Addr) (n : Nat) (l : List UInt8) : Prop where
  len : l.length = n
  max : n ≤ 9223372036854775807
  cell : ∀ i, i < n → ∃ ad, A = some ad ∧ w.cell? (ad.add i) = some (.int .u8 ((l.getD i 0).toNat : Int))
section
variable {w w' : World} {A : Option Addr} {n : Nat} {l : List UInt8}
theorem Bys.at_ (h : Bys w A n l) (k : Nat) (hk : k < n) :
    ∃ ad z, A = some ad ∧ z = ((l.getD k 0).toNat : Int) ∧ w.cell? (ad.add k) = some (.int .u8 z) ∧ 0 ≤ z ∧ z < 256 := by
  obtain ⟨ad, e, hc⟩ := h.cell k hk
  have := (l.getD k 0).toNat_lt
  exact ⟨ad, _, e, rfl, hc, by omega, by omega⟩
theorem Bys.keep (h : Bys w A n l) (hk : ∀ p v, w.cell? p = some v → w'.cell? p = some v) : Bys w' A n l :=
  ⟨h.len, h.max, fun i hi => by
    obtain ⟨ad, e, hc⟩ := h.cell i hi
    exact ⟨ad, e, hk _ _ hc⟩⟩
theorem cell_below {w w' : World} {p : Addr} {v : Value} (hb : Below w.heap.size w w') (h : w.cell? p = some v) : w'.cell? p = some v :=
  (hb.cell (World.block_lt_of_cell? w p h)).trans h
theorem Bys.below (h : Bys w A n l) (hb : Below w.heap.size w w') : Bys w' A n l := h.keep fun _ _ hc => cell_below hb hc
theorem Bys.nil (w : World) : Bys w none 0 [] := ⟨rfl, by omega, fun i hi => by omega⟩
theorem Bys.empty (w : World) (A : Option Addr) : Bys w A 0 [] := ⟨rfl, by omega, fun i hi => by omega⟩
/-- the head of it -/
theorem Bys.take (h : Bys w A n l) (k : Nat) (hk : k ≤ n) : Bys w A k (l.take k) :=
  ⟨by rw [List.length_take, h.len]; omega, by have := h.max; omega, fun i hi => by
    obtain ⟨ad, e, hc⟩ := h.cell i (by omega)
    refine ⟨ad, e, ?_⟩
    rw [hc, List.getD_eq_getElem?_getD, List.getD_eq_getElem?_getD, List.getElem?_take, if_pos hi]⟩
theorem Bys.string {P : Program} (h : Bys w A n l) {src e dst : TypeId} (hs : P.underlying src = some (.slice e)) (he : P.underlying e = some (.int .u8)) (hd : P.underlying dst = some .string) (c : Nat) :
    (convert src dst (.slice A n c)).run P w = .ok (.string (str l)) w := by
  rcases Nat.eq_zero_or_pos n with h0 | h0
  · subst h0
    have : l = [] := List.eq_nil_of_length_eq_zero h.len
    subst this
    cases A with
    | none => exact run_convert_bytes_nil w src e hs he 0 c dst hd
    | some ad => exact run_convert_bytes_back w src dst e ad c [] hs he hd (fun j hj => by simp at hj)
  · obtain ⟨ad, rfl, _⟩ := h.cell 0 h0
    have hl := h.len
    subst hl
    exact run_convert_bytes_back w src dst e ad c l hs he hd (fun j hj => by
      obtain ⟨ad', e', hc⟩ := h.cell j hj
      cases e'
      rw [hc, List.getD_eq_getElem?_getD, List.getElem?_eq_getElem hj]; rfl)
theorem Bys.news {ad : Addr} (h : Bys w (some ad) n l) : ∀ j u, (bv l)[j]? = some u → w.cell? (ad.add j) = some u := by
  intro j u hu
  rw [bv_getElem?] at hu
  obtain ⟨b, hb, rfl⟩ := Option.map_eq_some_iff.1 hu
  have hj : j < l.length := (List.getElem?_eq_some_iff.1 hb).1
  obtain ⟨ad', e', hc⟩ := h.cell j (by rw [← h.len]; exact hj)
  cases e'
  rw [hc, List.getD_eq_getElem?_getD, hb]; rfl
theorem Bys.of_own {base : Nat} {E : TypeId} {v : Value} (h : w.ownsRow base E 1 v n (bv l)) : ∃ A c, v = .slice A n c ∧ Bys w A n l := by
  have hl : l.length = n := by have := h.1; rw [bv_length] at this; omega
  rcases Nat.eq_zero_or_pos n with h0 | h0
  · subst h0
    have : l = [] := List.eq_nil_of_length_eq_zero hl
    subst this
    rcases h.2 with ⟨rfl, _⟩ | ⟨g, cap, cur, rfl, _⟩
    · exact ⟨none, 0, rfl, Bys.empty _ _⟩
    · exact ⟨_, cap, rfl, Bys.empty _ _⟩
  · obtain ⟨g, cap, rfl, _, _⟩ := h.form h0
    have hm : n ≤ 9223372036854775807 := by
      rcases h.2 with ⟨_, h1⟩ | ⟨g', cap', cur, he, _, _, h1, h2, _⟩
      · omega
      · simp only [maxLen] at h2; omega
    refine ⟨_, cap, rfl, hl, hm, fun j hj => ⟨_, rfl, h.cells (g := g) rfl j _ ?_⟩⟩
    rw [bv_getElem?, List.getD_eq_getElem?_getD, List.getElem?_eq_getElem (by omega)]; rfl
end

/-! ### a slice of the call's own -/
theorem own_lt {w : World} {base : Nat} {e : TypeId} {size n : Nat} {v : Value} {xs : List Value} (h : w.ownsRow base e size v n xs) (k : Nat) (hk : v.ownBlock = some k) : k < w.heap.size := by
  rcases h.2 with ⟨rfl, _⟩ | ⟨g, cap, cur, rfl, _, hh, _⟩
  · simp [Value.ownBlock] at hk
  · have : g = k := by simpa [Value.ownBlock] using hk
    subst this
    exact (Array.getElem?_eq_some_iff.1 hh).1
theorem own_base {w : World} {base : Nat} {e : TypeId} {size n : Nat} {v : Value} {xs : List Value} (h : w.ownsRow base e size v n xs) (k : Nat) (hk : v.ownBlock = some k) : base ≤ k := by
  rcases h.2 with ⟨rfl, _⟩ | ⟨g, cap, cur, rfl, hb, _⟩
  · simp [Value.ownBlock] at hk
  · have : g = k := by simpa [Value.ownBlock] using hk
    omega
theorem own_below {w w1 : World} {base : Nat} {e : TypeId} {size n : Nat} {v : Value} {xs : List Value} (h : w.ownsRow base e size v n xs) (hb : Below w.heap.size w w1) : w1.ownsRow base e size v n xs :=
  h.kept (row := none) ⟨hb.os, hb.tape, hb.output, hb.size, fun i hi _ => hb.block i hi⟩ (by cases v.ownBlock <;> simp)
theorem own_mono {w : World} {base base' : Nat} {e : TypeId} {size n : Nat} {v : Value} {xs : List Value} (h : w.ownsRow base e size v n xs) (hb : base' ≤ base) : w.ownsRow base' e size v n xs :=
  ⟨h.1, by
    rcases h.2 with h0 | ⟨g, cap, cur, h1, h2, h3⟩
    · exact .inl h0
    · exact .inr ⟨g, cap, cur, h1, Nat.le_trans hb h2, h3⟩⟩
theorem own_nil (w : World) (base : Nat) (e : TypeId) (size : Nat) : w.ownsRow base e size (.slice none 0 0) 0 [] := ⟨by simp, .inl ⟨rfl, rfl⟩⟩
/-- an empty literal -/
theorem own_empty (w : World) (base : Nat) (e : TypeId) (size g : Nat) (hb : base ≤ g) (hh : w.heap[g]? = some (.cells #[] e (0, 0))) : w.ownsRow base e size (.slice (some ⟨g, 0, none⟩) 0 0) 0 [] :=
  ⟨by simp, .inr ⟨g, 0, #[], rfl, hb, hh, by omega, by simp [maxLen], by simp, by simp⟩⟩

/-- append of a slice that reads as bytes onto one of the call's own: nil or not -/
theorem wpList_append_bys {P : Program} {w : World} {ops : Array Oper} {rest : List Oper} {o : Oper} {a : Act} {Q : Exit → Act → World → Prop} (w0 : World) (base : Nat) (hgd : o.guard = none) (s x : Operand) (t e : TypeId)
    (ho : o.op = .call { callee := .builtin .append, args := #[s, x], argTypes := #[t, t] })
    (ht : P.underlying t = some (.slice e)) (hinfo : (P.info? e).map (fun i => (i.zero, i.size, i.bytes)) = some (some (.int .u8 0), 1, 1))
    (v : Value) (n : Nat) (xs : List Value) (hs : a.eval s = v) (hown : w.ownsRow base e 1 v n xs)
    (A : Option Addr) (m c : Nat) (l : List UInt8) (hx : a.eval x = .slice A m c) (hl : Bys w A m l)
    (HB : Below base w0 w) (hbase : base ≤ w.heap.size) (hbytes : n + m ≤ 140737488355328)
    (h : ∀ v1 w1, w1.ownsRow base e 1 v1 (n + m) (xs ++ bv l) → Below base w0 w1 → w.grownBy w1 v.ownBlock → (v1.ownBlock = v.ownBlock ∨ v1.ownBlock = some w.heap.size) → base ≤ w1.heap.size → wpList P ops Q rest (a.put o.dst v1) w1) :
    wpList P ops Q (o :: rest) a w := by
  obtain ⟨i0, hi, hzz⟩ := Option.map_eq_some_iff.1 hinfo
  simp only [Prod.mk.injEq] at hzz
  obtain ⟨hz0, hz1, hz2⟩ := hzz
  cases A with
  | none =>
    have hm : m = 0 := by
      rcases Nat.eq_zero_or_pos m with h0 | h0
      · exact h0
      · obtain ⟨ad, e', _⟩ := hl.cell 0 h0
        cases e'
    subst hm
    have : l = [] := List.eq_nil_of_length_eq_zero hl.len
    subst this
    refine wpList_plain hgd fun K hK => ?_
    have hrun : (Builtin.append_ #[t, t] o.type #[v, .slice none 0 c]).run P w = .ok v w := by
      rcases hown.2 with ⟨rfl, rfl⟩ | ⟨g, cap, cur, rfl, _, _, hnc, _⟩
      · simp [Builtin.append_, run_underlying ht, sizeOf, typeInfo, hi, Builtin.lenOf, Builtin.firstCells]
      · simp [Builtin.append_, run_underlying ht, sizeOf, typeInfo, hi, Builtin.lenOf, Builtin.firstCells, hnc, storeCells]
    unfold Oper.wp execOp
    simp only [ho, resolve, invoke, builtin, Sem.run_bind, Sem.run_pure, Result.andThen_ok, List.map_toArray, List.map_cons, List.map_nil, hs, hx, hrun]
    exact hK _ _ (h v w (by simpa [bv] using hown) HB (World.grownBy.refl w _) (.inl rfl) hbase)
  | some ad =>
    refine wpList_append_own_at w hgd s x t ho base e i0 (.int .u8 0) 1 1 ht hi hz0 hz1 hz2 rfl (by omega) v n xs hs hown ad m c (bv l) hx (by rw [bv_length, hl.len]; omega) hl.news (bv_one l)
      (by simp only [maxLen]; omega) (by omega) hbase ?_
    intro v1 w1 hown1 hg _ hat
    exact h v1 w1 hown1 (HB.grown hg hbase (own_base hown)) hg hat (Nat.le_trans hbase hg.size)
/-- a new block of bytes -/
theorem Bys.new (w : World) (e : TypeId) (cs : Array Value) (l : List UInt8) (hcs : cs.toList = bv l) (hm : l.length ≤ 9223372036854775807) : Bys (w.alloc (.cells cs e)) (some ⟨w.heap.size, 0, none⟩) l.length l :=
  ⟨rfl, hm, fun i hi => ⟨_, rfl, by
    have h := World.news_of_block (cs := cs) (t := e) (fr := (0, 0)) (heap_alloc_new w (.cells cs e)) i (.int .u8 ((l.getD i 0).toNat : Int)) (by
      rw [hcs, bv_getElem?, List.getD_eq_getElem?_getD, List.getElem?_eq_getElem hi]; rfl)
    exact h⟩⟩
/-- new bytes are returned -/
def RetBys (B : Nat) (E : TypeId) (l : List UInt8) (w : World) (e : Ending) (w' : World) : Prop :=
  ∃ A c, e = .returned (.slice A l.length c) ∧ w'.ownsRow B E 1 (.slice A l.length c) l.length (bv l) ∧ Below B w w'
theorem own_slice {w : World} {base n : Nat} {e : TypeId} {size : Nat} {v : Value} {xs : List Value} (h : w.ownsRow base e size v n xs) : ∃ A c, v = .slice A n c := by
  rcases h.2 with ⟨rfl, rfl⟩ | ⟨g, cap, cur, rfl, _⟩
  · exact ⟨none, 0, rfl⟩
  · exact ⟨_, cap, rfl⟩
theorem RetBys.of {B : Nat} {E : TypeId} {l : List UInt8} {w w' : World} {v : Value} {n : Nat} {xs : List Value} (h : w'.ownsRow B E 1 v n xs) (hx : xs = bv l) (hb : Below B w w') : RetBys B E l w (.returned v) w' := by
  subst hx
  obtain ⟨A, c, rfl⟩ := own_slice h
  have hn : n = l.length := by have := h.1; rw [bv_length] at this; omega
  subst hn
  exact ⟨A, c, rfl, h, hb⟩
/-- the form of a slice of the call's own that is not empty -/
theorem own_some {w : World} {base n : Nat} {e : TypeId} {size : Nat} {v : Value} {xs : List Value} (h : w.ownsRow base e size v n xs) (hn : 0 < n) :
    ∃ g cap, v = .slice (some ⟨g, 0, none⟩) n cap ∧ base ≤ g ∧ g < w.heap.size ∧ n ≤ cap ∧ cap ≤ 9223372036854775807 ∧ ∀ j u, xs[j]? = some u → w.cell? ⟨g, j, none⟩ = some u := by
  obtain ⟨g, cap, hv, _, hlt⟩ := h.form hn
  subst hv
  rcases h.2 with ⟨h0, _⟩ | ⟨g', cap', cur, he, hb, hh, h1, h2, _⟩
  · cases h0
  · cases he
    refine ⟨g, cap, rfl, hb, hlt, h1, by simpa [maxLen] using h2, fun j u hu => ?_⟩
    have := h.cells (g := g) rfl j u hu
    rwa [show (⟨g, 0, none⟩ : Addr).add j = ⟨g, j, none⟩ by unfold Addr.add; split <;> simp_all] at this
theorem add_plain (g j : Nat) : (⟨g, 0, none⟩ : Addr).add j = ⟨g, j, none⟩ := by unfold Addr.add; split <;> simp_all
theorem bys_of_cells {w : World} {g n : Nat} {l : List UInt8} (hl : l.length = n) (hm : n ≤ 9223372036854775807) (h : ∀ j u, (bv l)[j]? = some u → w.cell? ⟨g, j, none⟩ = some u) : Bys w (some ⟨g, 0, none⟩) n l :=
  ⟨hl, hm, fun i hi => ⟨_, rfl, by
    rw [add_plain]
    exact h i _ (by rw [bv_getElem?, List.getD_eq_getElem?_getD, List.getElem?_eq_getElem (by omega)]; rfl)⟩⟩
theorem below_drewN {B : Nat} {a w : World} (h : Below B a w) (n : Nat) : Below B a (w.drewN n) := ⟨h.os, h.tape, h.output, h.size, h.block⟩
theorem Bys.drew {w : World} {A : Option Addr} {n : Nat} {l : List UInt8} (h : Bys w A n l) : Bys w.drew A n l := ⟨h.len, h.max, h.cell⟩
theorem Bys.drewN {w : World} {A : Option Addr} {n : Nat} {l : List UInt8} (h : Bys w A n l) (k : Nat) : Bys (w.drewN k) A n l := ⟨h.len, h.max, h.cell⟩
theorem below_drew {B : Nat} {a w : World} (h : Below B a w) : Below B a w.drew := ⟨h.os, h.tape, h.output, h.size, h.block⟩
theorem below_of_drew {B : Nat} {a w : World} (h : Below B a.drew w) : Below B a w := ⟨h.os, h.tape, h.output, h.size, h.block⟩
theorem Bys.own {w : World} {base n c : Nat} {E : TypeId} {A : Option Addr} {l : List UInt8} (h : w.ownsRow base E 1 (.slice A n c) n (bv l)) : Bys w A n l := by
  obtain ⟨A', c', e, hb⟩ := Bys.of_own h
  cases e
  exact hb
/-- a slice of the call's own whose block lies below C stays as it is where nothing below C turns -/
theorem own_below_lt {w w1 : World} {base C : Nat} {e : TypeId} {size n : Nat} {v : Value} {xs : List Value} (h : w.ownsRow base e size v n xs) (hC : ∀ k, v.ownBlock = some k → k < C) (hb : Below C w w1) : w1.ownsRow base e size v n xs :=
  ⟨h.1, by
    rcases h.2 with h0 | ⟨g, cap, cur, h1, h2, h3, h4⟩
    · exact .inl h0
    · refine .inr ⟨g, cap, cur, h1, h2, (hb.block g (hC g ?_)).trans h3, h4⟩
      rw [h1]; rfl⟩
/-- what lies behind the head of it -/
theorem Bys.drop_plain {w : World} {g n : Nat} {l : List UInt8} (h : Bys w (some ⟨g, 0, none⟩) n l) (k m : Nat) (hm : n = k + m) (hk : 0 < k) : Bys w (some ⟨g, k, none⟩) m (l.drop k) :=
  ⟨by rw [List.length_drop, h.len]; omega, by have := h.max; omega, fun i hi => ⟨_, rfl, by
    obtain ⟨ad, e, hc⟩ := h.cell (k + i) (by omega)
    cases e
    rw [add_plain] at hc
    have ha : (⟨g, k, none⟩ : Addr).add i = ⟨g, k + i, none⟩ := by unfold Addr.add; split <;> simp_all
    rw [ha, hc, List.getD_eq_getElem?_getD, List.getD_eq_getElem?_getD, List.getElem?_drop]⟩⟩
/-- a row of another element type lies in another block -/
theorem own_blk_ne {w : World} {base : Nat} {e t : TypeId} {size n g : Nat} {v : Value} {xs : List Value} {cs : Array Value} (h : w.ownsRow base e size v n xs) (hg : w.heap[g]? = some (.cells cs t (0, 0))) (hne : e ≠ t) : v.ownBlock ≠ some g := by
  rcases h.2 with ⟨rfl, _⟩ | ⟨g', cap, cur, rfl, _, hh, _⟩
  · simp [Value.ownBlock]
  · intro he
    have : g' = g := by simpa [Value.ownBlock] using he
    subst this
    rw [hh] at hg
    injection hg with hg
    injection hg with _ ht
    exact hne ht
theorem add_of_add (a : Addr) (i j : Nat) : (a.add i).add j = a.add (i + j) := by
  unfold Addr.add
  by_cases hi : i = 0 <;> by_cases hj : j = 0 <;> simp [hi, hj, Nat.add_assoc]
end Go.Proofs.YtggogenhakdhiaaDoor
end
section
set_option linter.unusedVariables false
set_option linter.unusedSimpArgs false
namespace Go.Proofs.YtggogenhakdhiaaDoor.PSnapTexts
open Go.RowKit

/-- A slice of one-cell values that reads as a list; nil and empty ones too. -/
structure Rdv (w : World) (A : Option Addr) (n : Nat) (xs : List Value) : Prop where
  len : xs.length = n
  cell : ∀ i u, xs[i]? = some u → ∃ ad, A = some ad ∧ w.cell? (ad.add i) = some u
section
variable {w w' : World} {A : Option Addr} {n : Nat} {xs : List Value}
theorem Rdv.keep (h : Rdv w A n xs) (hk : ∀ p v, w.cell? p = some v → w'.cell? p = some v) : Rdv w' A n xs :=
  ⟨h.len, fun i u hu => by
    obtain ⟨ad, e, hc⟩ := h.cell i u hu
    exact ⟨ad, e, hk _ _ hc⟩⟩
theorem Rdv.below (h : Rdv w A n xs) (hb : Below w.heap.size w w') : Rdv w' A n xs := h.keep fun _ _ hc => cell_below hb hc
theorem Rdv.drew (h : Rdv w A n xs) : Rdv w.drew A n xs := ⟨h.len, h.cell⟩
theorem Rdv.of_own {base : Nat} {E : TypeId} {c : Nat} (h : w.ownsRow base E 1 (.slice A n c) n xs) : Rdv w A n xs := by
  refine ⟨by simpa using h.1, fun i u hu => ?_⟩
  have hn : 0 < n := by
    have := (List.getElem?_eq_some_iff.1 hu).1
    have := h.1
    omega
  obtain ⟨g, cap, e, _, _⟩ := h.form hn
  cases e
  exact ⟨_, rfl, h.cells (g := g) rfl i u hu⟩
theorem Rdv.drop_if (h : Rdv w A n xs) (k c : Nat) (hk : k ≤ n) (hc : n ≤ c) : Rdv w (if c = k then A else A.map (·.add k)) (n - k) (xs.drop k) := by
  refine ⟨by rw [List.length_drop, h.len], fun i u hu => ?_⟩
  rw [List.getElem?_drop] at hu
  obtain ⟨ad, rfl, hcell⟩ := h.cell (k + i) u hu
  have := (List.getElem?_eq_some_iff.1 hu).1
  rw [h.len] at this
  rw [if_neg (by omega)]
  exact ⟨_, rfl, by rw [add_of_add]; exact hcell⟩
end
/-- append of a slice that reads onto one of the call's own, in a region whose order is open -/
theorem step_append_rd {P : Program} {ops : Array Oper} {o : Oper} {a : Act} {w : World} {K : Act → World → Prop} {Q : Exit → Act → World → Prop} {E : Prop} (w0 : World) (base : Nat) (hgd : o.guard = none) (s x : Operand) (t e : TypeId) (z : Value) (bytes : Nat)
    (ho : o.op = .call { callee := .builtin .append, args := #[s, x], argTypes := #[t, t] })
    (ht : P.underlying t = some (.slice e)) (hinfo : (P.info? e).map (fun i => (i.zero, i.size, i.bytes)) = some (some z, 1, bytes)) (hz : z.cells.size = 1)
    (v : Value) (n : Nat) (xs : List Value) (hs : a.eval s = v) (hown : w.ownsRow base e 1 v n xs)
    (A : Option Addr) (m c : Nat) (l : List Value) (hx : a.eval x = .slice A m c) (hl : Rdv w A m l) (h1 : ∀ u ∈ l, u.oneCell' = true)
    (HB : Below base w0 w) (hbase : base ≤ w.heap.size) (hmax : n + m ≤ 9223372036854775807) (hbytes : (n + m) * bytes ≤ 140737488355328)
    (h : ∀ v1 w1, w1.ownsRow base e 1 v1 (n + m) (xs ++ l) → Below base w0 w1 → w.grownBy w1 v.ownBlock → base ≤ w1.heap.size → K (a.put o.dst v1) w1) :
    if Region.wanted o (yielded ops a.tmps) = true then Oper.wp P o a w K Q else E := by
  have hw : Region.wanted o (yielded ops a.tmps) = true := by simp [Region.wanted, hgd]
  rw [if_pos hw]
  obtain ⟨i0, hi, hzz⟩ := Option.map_eq_some_iff.1 hinfo
  simp only [Prod.mk.injEq] at hzz
  obtain ⟨hz0, hz1, hz2⟩ := hzz
  unfold Oper.wp execOp
  cases A with
  | none =>
    have hm : l = [] := by
      cases l with
      | nil => rfl
      | cons u l => obtain ⟨ad, e', _⟩ := hl.cell 0 u rfl; cases e'
    subst hm
    have hm0 : m = 0 := by have := hl.len; simpa using this.symm
    subst hm0
    have hrun : (Builtin.append_ #[t, t] o.type #[v, .slice none 0 c]).run P w = .ok v w := by
      rcases hown.2 with ⟨rfl, rfl⟩ | ⟨g, cap, cur, rfl, _, _, hnc, _⟩
      · simp [Builtin.append_, run_underlying ht, sizeOf, typeInfo, hi, Builtin.lenOf, Builtin.firstCells]
      · simp [Builtin.append_, run_underlying ht, sizeOf, typeInfo, hi, Builtin.lenOf, Builtin.firstCells, hnc, storeCells]
    simp only [ho, resolve, invoke, builtin, Sem.run_bind, Sem.run_pure, Result.andThen_ok, List.map_toArray, List.map_cons, List.map_nil, hs, hx, hrun]
    exact h v w (by simpa using hown) HB (World.grownBy.refl w _) hbase
  | some ad =>
    obtain ⟨v', w', hr, h2, h3, h4, h5⟩ := run_append_own_at (P := P) w base t o.type e i0 z 1 bytes ht hi hz0 hz1 hz2 hz (by omega) v n xs hown ad m c l (by rw [hl.len]; omega)
      (fun j u hu => by obtain ⟨ad', e', hc⟩ := hl.cell j u hu; cases e'; exact hc) h1 (by simpa only [maxLen] using hmax) hbytes hbase
    simp only [ho, resolve, invoke, builtin, Sem.run_bind, Sem.run_pure, Result.andThen_ok, List.map_toArray, List.map_cons, List.map_nil, hs, hx, hr]
    exact h v' w' h2 (HB.grown h3 hbase (own_base hown)) h3 (Nat.le_trans hbase h3.size)

theorem wpList_append_rd {P : Program} {ops : Array Oper} {rest : List Oper} {o : Oper} {a : Act} {w : World} {Q : Exit → Act → World → Prop} (w0 : World) (base : Nat) (hgd : o.guard = none) (s x : Operand) (t e : TypeId) (z : Value) (bytes : Nat)
    (ho : o.op = .call { callee := .builtin .append, args := #[s, x], argTypes := #[t, t] })
    (ht : P.underlying t = some (.slice e)) (hinfo : (P.info? e).map (fun i => (i.zero, i.size, i.bytes)) = some (some z, 1, bytes)) (hz : z.cells.size = 1)
    (v : Value) (n : Nat) (xs : List Value) (hs : a.eval s = v) (hown : w.ownsRow base e 1 v n xs)
    (A : Option Addr) (m c : Nat) (l : List Value) (hx : a.eval x = .slice A m c) (hl : Rdv w A m l) (h1 : ∀ u ∈ l, u.oneCell' = true)
    (HB : Below base w0 w) (hbase : base ≤ w.heap.size) (hmax : n + m ≤ 9223372036854775807) (hbytes : (n + m) * bytes ≤ 140737488355328)
    (h : ∀ v1 w1, w1.ownsRow base e 1 v1 (n + m) (xs ++ l) → Below base w0 w1 → w.grownBy w1 v.ownBlock → base ≤ w1.heap.size → wpList P ops Q rest (a.put o.dst v1) w1) :
    wpList P ops Q (o :: rest) a w := by
  refine wpList_plain hgd fun K hK => ?_
  have hw : Region.wanted o (yielded ops a.tmps) = true := by simp [Region.wanted, hgd]
  have := step_append_rd (ops := ops) (E := True) (K := K) (Q := Q) w0 base hgd s x t e z bytes ho ht hinfo hz v n xs hs hown A m c l hx hl h1 HB hbase hmax hbytes (fun v1 w1 p1 p2 p3 p4 => hK _ _ (h v1 w1 p1 p2 p3 p4))
  rwa [if_pos hw] at this
end Go.Proofs.YtggogenhakdhiaaDoor.PSnapTexts
end
