/- The lines of a state as plain lists of bytes, how long they are, and where the lists' members lie. -/
import Derived.Test.YtggogenhakdhiaaDoorStPure
import Derived.Test.YtggogenhakdhiaaDoorStSame
import Derived.Lib.Hide
set_option linter.unusedVariables false
set_option linter.unusedSimpArgs false
namespace Go.Proofs.YtggogenhakdhiaaDoor.PSnapTexts
open Go.RowKit Go.Proofs.YtggogenhakdhiaaDoorW.PrintWords Go.Proofs.YtggogenhakdhiaaDoorW.PrintLast Go.Proofs.YtggogenhakdhiaaDoorW.PrintMore
open Classical

def wLock : List UInt8 := [108, 111, 99, 107]
def wWait : List UInt8 := [119, 97, 105, 116]
def wClock : List UInt8 := [99, 108, 111, 99, 107]
def wVersion : List UInt8 := [118, 101, 114, 115, 105, 111, 110]
def wIntent : List UInt8 := [105, 110, 116, 101, 110, 116]
def wTx : List UInt8 := [116, 120]
def wWounded : List UInt8 := [119, 111, 117, 110, 100, 101, 100]
def wRecord : List UInt8 := [114, 101, 99, 111, 114, 100]
def versionWords (x : S138) : List (List UInt8) := [wVersion, quoteL x.f0.data.toList, Lib.itoa x.f3, idL x.f4, valueL x.f1 x.f2]
def intentWords (x : S140) : List (List UInt8) := [wIntent, quoteL x.f0.data.toList, idL x.f3, valueL x.f1 x.f2]
def txWords (x : S142) : List (List UInt8) := [wTx, idL x.f0, Lib.itoa x.f1, Lib.itoa x.f2, Lib.itoa x.f4] ++ if x.f3 = true then [wWounded] else []
def groupWord (acks : List Int) (g : Int) : List UInt8 := Lib.itoa g ++ if acks.contains g = true then [43] else []
def recHead (x : S118) : List (List UInt8) := [wRecord, idL x.f0, Lib.itoa x.f3, Lib.itoa x.f4, Lib.itoa x.f5]
def recWords (x : S118) : List (List UInt8) := recHead x ++ x.f1.map (groupWord x.f6)
def lockLine (word : List UInt8) (x : S135) : List UInt8 := lineL (lockWords word x)
def versionLine (x : S138) : List UInt8 := lineL (versionWords x)
def intentLine (x : S140) : List UInt8 := lineL (intentWords x)
def txLine (x : S142) : List UInt8 := lineL (txWords x)
def recLine (x : S118) : List UInt8 := lineL (recWords x)
def clockLine (c : Int) : List UInt8 := lineL [wClock, Lib.itoa c]
def head3 (f : FoldV) : List UInt8 := clockLine f.c ++ f.l1.flatMap (lockLine wLock) ++ f.l2.flatMap (lockLine wWait)
def textL (f : FoldV) : List UInt8 := head3 f ++ f.l3.flatMap versionLine ++ f.l4.flatMap intentLine ++ f.l5.flatMap txLine ++ f.l6.flatMap recLine
structure VersionOk (M : Nat) (x : S138) : Prop where
  s : x.f0.size ≤ M
  v : x.f1.size ≤ M
  n : InR x.f3
  i : InId x.f4
structure IntentOk (M : Nat) (x : S140) : Prop where
  s : x.f0.size ≤ M
  v : x.f1.size ≤ M
  i : InId x.f3
structure TxOk (x : S142) : Prop where
  i : InId x.f0
  a : InR x.f1
  b : InR x.f2
  n : InR x.f4
structure RecOk (M : Nat) (x : S118) : Prop where
  i : InId x.f0
  a : InR x.f3
  b : InR x.f4
  c : InR x.f5
  g : x.f1.length ≤ M
  w : x.f2.length ≤ M
  k : x.f6.length ≤ M
  r : ∀ n ∈ x.f1, InR n
structure FoldOk (M : Nat) (f : FoldV) : Prop where
  c : InR f.c
  n1 : f.l1.length ≤ M
  n2 : f.l2.length ≤ M
  n3 : f.l3.length ≤ M
  n4 : f.l4.length ≤ M
  n5 : f.l5.length ≤ M
  n6 : f.l6.length ≤ M
  o1 : ∀ x ∈ f.l1, LockOk M x
  o2 : ∀ x ∈ f.l2, LockOk M x
  o3 : ∀ x ∈ f.l3, VersionOk M x
  o4 : ∀ x ∈ f.l4, IntentOk M x
  o5 : ∀ x ∈ f.l5, TxOk x
  o6 : ∀ x ∈ f.l6, RecOk M x
  m : M ≤ 1048576
theorem FoldOk.fits {M : Nat} {f : FoldV} (h : FoldOk M f) : FoldFits M f := by
  have := h.n1; have := h.n2; have := h.n3; have := h.n4; have := h.n5; have := h.n6; have := h.m
  exact ⟨by omega, by omega, by omega, by omega, by omega, by omega, h.n1, h.n2, h.n3, h.n4, h.n5, h.n6, by omega,
    fun x hx => ⟨(h.o6 x hx).g, (h.o6 x hx).w, (h.o6 x hx).k, by have := (h.o6 x hx).g; omega, by have := (h.o6 x hx).w; omega, by have := (h.o6 x hx).k; omega⟩⟩
theorem version_len {M : Nat} {x : S138} (h : VersionOk M x) : (versionLine x).length ≤ 6 * M + 200 := by
  have h1 := quoteL_length x.f0.data.toList
  have h2 := idL_len h.i
  have h3 := itoa_len h.n
  have h4 := h.s
  have h5 := toList_len x.f0
  have h6 := valueL_len x.f1 x.f2
  have h7 := h.v
  simp only [versionLine, versionWords, wVersion, lineL_cons, List.flatMap_cons, List.flatMap_nil, List.length_append, List.length_cons, List.length_nil]
  omega
theorem intent_len {M : Nat} {x : S140} (h : IntentOk M x) : (intentLine x).length ≤ 6 * M + 200 := by
  have h1 := quoteL_length x.f0.data.toList
  have h2 := idL_len h.i
  have h4 := h.s
  have h5 := toList_len x.f0
  have h6 := valueL_len x.f1 x.f2
  have h7 := h.v
  simp only [intentLine, intentWords, wIntent, lineL_cons, List.flatMap_cons, List.flatMap_nil, List.length_append, List.length_cons, List.length_nil]
  omega
theorem tx_len {x : S142} (h : TxOk x) : (txLine x).length ≤ 200 := by
  have h1 := idL_len h.i
  have h2 := itoa_len h.a
  have h3 := itoa_len h.b
  have h4 := itoa_len h.n
  by_cases h5 : x.f3 = true
  all_goals
    simp only [txLine, txWords, h5, if_true, if_false, wTx, wWounded, List.append_nil, List.cons_append, List.nil_append, lineL_cons, List.flatMap_cons, List.flatMap_nil, List.length_append, List.length_cons, List.length_nil, Bool.false_eq_true]
    omega
theorem group_len {acks : List Int} {g : Int} (h : InR g) : (groupWord acks g).length ≤ 22 := by
  have h1 := itoa_len h
  unfold groupWord
  rw [List.length_append]
  split <;> simp <;> omega
theorem rec_lineL (x : S118) : recLine x = (wRecord ++ 32 :: idL x.f0 ++ 32 :: Lib.itoa x.f3 ++ 32 :: Lib.itoa x.f4 ++ 32 :: Lib.itoa x.f5 ++ x.f1.flatMap fun g => 32 :: groupWord x.f6 g) ++ [10] := by
  simp only [recLine, recWords, recHead, List.cons_append, List.nil_append, lineL_cons, List.flatMap_cons, List.flatMap_map, List.append_assoc, List.cons_append]
theorem rec_part {M : Nat} {x : S118} (h : RecOk M x) (j : Nat) : (wRecord ++ 32 :: idL x.f0 ++ 32 :: Lib.itoa x.f3 ++ 32 :: Lib.itoa x.f4 ++ 32 :: Lib.itoa x.f5 ++ (x.f1.take j).flatMap fun g => 32 :: groupWord x.f6 g).length ≤ 23 * M + 200 := by
  have h1 := idL_len h.i
  have h2 := itoa_len h.a
  have h3 := itoa_len h.b
  have h4 := itoa_len h.c
  have h5 := h.g
  have h6 := flat_length (fun g => 32 :: groupWord x.f6 g) 23 (x.f1.take j) (fun g hg => by have := group_len (acks := x.f6) (h.r g (List.mem_of_mem_take hg)); simp only [List.length_cons]; omega)
  have h7 : (x.f1.take j).length ≤ x.f1.length := by rw [List.length_take]; omega
  simp only [wRecord, List.length_append, List.length_cons, List.length_nil]
  omega
theorem rec_len {M : Nat} {x : S118} (h : RecOk M x) : (recLine x).length ≤ 23 * M + 300 := by
  have h1 := rec_part h x.f1.length
  rw [List.take_length] at h1
  rw [rec_lineL, List.length_append]
  simp only [List.length_cons, List.length_nil]
  omega
theorem clock_len {c : Int} (h : InR c) : (clockLine c).length ≤ 100 := by
  have h1 := itoa_len h
  simp only [clockLine, wClock, lineL_cons, List.flatMap_cons, List.flatMap_nil, List.length_append, List.length_cons, List.length_nil]
  omega
theorem part_len {α : Type} (g : α → List UInt8) (C : Nat) (l : List α) (h : ∀ x ∈ l, (g x).length ≤ C) (j : Nat) : ((l.take j).flatMap g).length ≤ C * l.length := by
  refine Nat.le_trans (flat_length g C _ (fun x hx => h x (List.mem_of_mem_take hx))) (Nat.mul_le_mul_left C ?_)
  rw [List.length_take]; omega
theorem mul_le {C n M K : Nat} (h1 : C ≤ K) (h2 : n ≤ M) : C * n ≤ K * M := Nat.mul_le_mul h1 h2
/-- each list's lines, up to any place -/
theorem lock_part {M : Nat} (hM : M ≤ 1048576) {l : List S135} (h : ∀ x ∈ l, LockOk M x) (hl : l.length ≤ M) (w : List UInt8) (hw : w.length ≤ 10) (j : Nat) : ((l.take j).flatMap (lockLine w)).length ≤ 4000000000000 := by
  have h1 := part_len (lockLine w) (3 * M + 100) l (fun x hx => lock_len (h x hx) w hw) j
  have h2 := mul_le (C := 3 * M + 100) (n := l.length) (M := 1048576) (K := 3145828) (by omega) (by omega)
  omega
theorem version_part {M : Nat} (hM : M ≤ 1048576) {l : List S138} (h : ∀ x ∈ l, VersionOk M x) (hl : l.length ≤ M) (j : Nat) : ((l.take j).flatMap versionLine).length ≤ 8000000000000 := by
  have h1 := part_len versionLine (6 * M + 200) l (fun x hx => version_len (h x hx)) j
  have h2 := mul_le (C := 6 * M + 200) (n := l.length) (M := 1048576) (K := 6291656) (by omega) (by omega)
  omega
theorem intent_part {M : Nat} (hM : M ≤ 1048576) {l : List S140} (h : ∀ x ∈ l, IntentOk M x) (hl : l.length ≤ M) (j : Nat) : ((l.take j).flatMap intentLine).length ≤ 8000000000000 := by
  have h1 := part_len intentLine (6 * M + 200) l (fun x hx => intent_len (h x hx)) j
  have h2 := mul_le (C := 6 * M + 200) (n := l.length) (M := 1048576) (K := 6291656) (by omega) (by omega)
  omega
theorem tx_part {M : Nat} (hM : M ≤ 1048576) {l : List S142} (h : ∀ x ∈ l, TxOk x) (hl : l.length ≤ M) (j : Nat) : ((l.take j).flatMap txLine).length ≤ 1000000000 := by
  have h1 := part_len txLine 200 l (fun x hx => tx_len (h x hx)) j
  omega
theorem rec_part6 {M : Nat} (hM : M ≤ 1048576) {l : List S118} (h : ∀ x ∈ l, RecOk M x) (hl : l.length ≤ M) (j : Nat) : ((l.take j).flatMap recLine).length ≤ 30000000000000 := by
  have h1 := part_len recLine (23 * M + 300) l (fun x hx => rec_len (h x hx)) j
  have h2 := mul_le (C := 23 * M + 300) (n := l.length) (M := 1048576) (K := 24117548) (by omega) (by omega)
  omega
theorem take_flat {α : Type} (g : α → List UInt8) (l : List α) (j : Nat) (h : j < l.length) : (l.take (j + 1)).flatMap g = (l.take j).flatMap g ++ g l[j] := by
  rw [List.take_succ_eq_append_getElem h, List.flatMap_append]
  simp
theorem spot_plain {W : World} {a : Addr} {v : Value} (h : W.cell? a = some v) : a = ⟨a.block, a.off, none⟩ := by
  obtain ⟨b, o, s⟩ := a
  unfold World.cell? at h
  cases s with
  | none => rfl
  | some s => split at h <;> simp at h
theorem add_at (G O k : Nat) : (⟨G, O, none⟩ : Addr).add k = ⟨G, O + k, none⟩ := by
  unfold Addr.add
  split
  · next h => subst h; rfl
  · rfl
theorem lock_plain {w : World} {A : Option Addr} {l : List S135} (h : Kd.C k135 w A l.length l) (hp : 0 < l.length) : ∃ G O, A = some ⟨G, O, none⟩ ∧ ∀ i (hi : i < l.length), w.cell? ⟨G, O + i * 4, none⟩ = some (.string l[i].f0) ∧ w.cell? ⟨G, O + i * 4 + 1, none⟩ = some (.int .i64 l[i].f1.f0) ∧ w.cell? ⟨G, O + i * 4 + 2, none⟩ = some (.int .i64 l[i].f1.f1) ∧ w.cell? ⟨G, O + i * 4 + 3, none⟩ = some (.int .i64 l[i].f2) := by
  obtain ⟨ad, e, hz, _⟩ := at_T135 h 0 (by omega) (by omega)
  have hpl : ad = ⟨ad.block, ad.off, none⟩ := spot_plain (a := ad) (by simpa [Addr.add] using hz)
  clear hz
  refine ⟨ad.block, ad.off, by rw [e, ← hpl], fun i hi => ?_⟩
  obtain ⟨ad', e', h0, h1, h2, h3⟩ := at_T135 h (i : Int) (by omega) (by omega)
  obtain rfl : ad = ad' := by rw [e] at e'; exact Option.some.inj e'
  have hrd : rd_T135 l (i : Int) = l[i] := getD_at l z135 i hi
  rw [hpl, Int.toNat_natCast, add_at] at h0 h1 h2 h3
  rw [hrd] at h0 h1 h2 h3
  exact ⟨h0, h1, h2, h3⟩
theorem version_plain {w : World} {A : Option Addr} {l : List S138} (h : Kd.C k138 w A l.length l) (hp : 0 < l.length) : ∃ G O, A = some ⟨G, O, none⟩ ∧ ∀ i (hi : i < l.length), w.cell? ⟨G, O + i * 6, none⟩ = some (.string l[i].f0) ∧ w.cell? ⟨G, O + i * 6 + 1, none⟩ = some (.string l[i].f1) ∧ w.cell? ⟨G, O + i * 6 + 2, none⟩ = some (.bool l[i].f2) ∧ w.cell? ⟨G, O + i * 6 + 3, none⟩ = some (.int .i64 l[i].f3) ∧ w.cell? ⟨G, O + i * 6 + 4, none⟩ = some (.int .i64 l[i].f4.f0) ∧ w.cell? ⟨G, O + i * 6 + 5, none⟩ = some (.int .i64 l[i].f4.f1) := by
  obtain ⟨ad, e, hz, _⟩ := at_T138 h 0 (by omega) (by omega)
  have hpl : ad = ⟨ad.block, ad.off, none⟩ := spot_plain (a := ad) (by simpa [Addr.add] using hz)
  clear hz
  refine ⟨ad.block, ad.off, by rw [e, ← hpl], fun i hi => ?_⟩
  obtain ⟨ad', e', h0, h1, h2, h3, h4, h5⟩ := at_T138 h (i : Int) (by omega) (by omega)
  obtain rfl : ad = ad' := by rw [e] at e'; exact Option.some.inj e'
  have hrd : rd_T138 l (i : Int) = l[i] := getD_at l z138 i hi
  rw [hpl, Int.toNat_natCast, add_at] at h0 h1 h2 h3 h4 h5
  rw [hrd] at h0 h1 h2 h3 h4 h5
  exact ⟨h0, h1, h2, h3, h4, h5⟩
theorem intent_plain {w : World} {A : Option Addr} {l : List S140} (h : Kd.C k140 w A l.length l) (hp : 0 < l.length) : ∃ G O, A = some ⟨G, O, none⟩ ∧ ∀ i (hi : i < l.length), w.cell? ⟨G, O + i * 5, none⟩ = some (.string l[i].f0) ∧ w.cell? ⟨G, O + i * 5 + 1, none⟩ = some (.string l[i].f1) ∧ w.cell? ⟨G, O + i * 5 + 2, none⟩ = some (.bool l[i].f2) ∧ w.cell? ⟨G, O + i * 5 + 3, none⟩ = some (.int .i64 l[i].f3.f0) ∧ w.cell? ⟨G, O + i * 5 + 4, none⟩ = some (.int .i64 l[i].f3.f1) := by
  obtain ⟨ad, e, hz, _⟩ := at_T140 h 0 (by omega) (by omega)
  have hpl : ad = ⟨ad.block, ad.off, none⟩ := spot_plain (a := ad) (by simpa [Addr.add] using hz)
  clear hz
  refine ⟨ad.block, ad.off, by rw [e, ← hpl], fun i hi => ?_⟩
  obtain ⟨ad', e', h0, h1, h2, h3, h4⟩ := at_T140 h (i : Int) (by omega) (by omega)
  obtain rfl : ad = ad' := by rw [e] at e'; exact Option.some.inj e'
  have hrd : rd_T140 l (i : Int) = l[i] := getD_at l z140 i hi
  rw [hpl, Int.toNat_natCast, add_at] at h0 h1 h2 h3 h4
  rw [hrd] at h0 h1 h2 h3 h4
  exact ⟨h0, h1, h2, h3, h4⟩
theorem tx_plain {w : World} {A : Option Addr} {l : List S142} (h : Kd.C k142 w A l.length l) (hp : 0 < l.length) : ∃ G O, A = some ⟨G, O, none⟩ ∧ ∀ i (hi : i < l.length), w.cell? ⟨G, O + i * 6, none⟩ = some (.int .i64 l[i].f0.f0) ∧ w.cell? ⟨G, O + i * 6 + 1, none⟩ = some (.int .i64 l[i].f0.f1) ∧ w.cell? ⟨G, O + i * 6 + 2, none⟩ = some (.int .i64 l[i].f1) ∧ w.cell? ⟨G, O + i * 6 + 3, none⟩ = some (.int .i64 l[i].f2) ∧ w.cell? ⟨G, O + i * 6 + 4, none⟩ = some (.bool l[i].f3) ∧ w.cell? ⟨G, O + i * 6 + 5, none⟩ = some (.int .i64 l[i].f4) := by
  obtain ⟨ad, e, hz, _⟩ := at_T142 h 0 (by omega) (by omega)
  have hpl : ad = ⟨ad.block, ad.off, none⟩ := spot_plain (a := ad) (by simpa [Addr.add] using hz)
  clear hz
  refine ⟨ad.block, ad.off, by rw [e, ← hpl], fun i hi => ?_⟩
  obtain ⟨ad', e', h0, h1, h2, h3, h4, h5⟩ := at_T142 h (i : Int) (by omega) (by omega)
  obtain rfl : ad = ad' := by rw [e] at e'; exact Option.some.inj e'
  have hrd : rd_T142 l (i : Int) = l[i] := getD_at l z142 i hi
  rw [hpl, Int.toNat_natCast, add_at] at h0 h1 h2 h3 h4 h5
  rw [hrd] at h0 h1 h2 h3 h4 h5
  exact ⟨h0, h1, h2, h3, h4, h5⟩
theorem rec_plain {w : World} {A : Option Addr} {l : List S118} (h : Kd.C k118 w A l.length l) (hp : 0 < l.length) : ∃ G O, A = some ⟨G, O, none⟩ ∧ ∀ i (hi : i < l.length), ∃ A2 c2 A3 c3 A7 c7,
    w.cell? ⟨G, O + i * 8, none⟩ = some (.int .i64 l[i].f0.f0) ∧ w.cell? ⟨G, O + i * 8 + 1, none⟩ = some (.int .i64 l[i].f0.f1) ∧ w.cell? ⟨G, O + i * 8 + 2, none⟩ = some (.slice A2 l[i].f1.length c2) ∧
    w.cell? ⟨G, O + i * 8 + 3, none⟩ = some (.slice A3 l[i].f2.length c3) ∧ w.cell? ⟨G, O + i * 8 + 4, none⟩ = some (.int .i64 l[i].f3) ∧ w.cell? ⟨G, O + i * 8 + 5, none⟩ = some (.int .i64 l[i].f4) ∧
    w.cell? ⟨G, O + i * 8 + 6, none⟩ = some (.int .i64 l[i].f5) ∧ w.cell? ⟨G, O + i * 8 + 7, none⟩ = some (.slice A7 l[i].f6.length c7) ∧
    l[i].f1.length ≤ c2 ∧ (Kd.int .i64).C w A2 l[i].f1.length l[i].f1 ∧ l[i].f2.length ≤ c3 ∧ k168.C w A3 l[i].f2.length l[i].f2 ∧ l[i].f6.length ≤ c7 ∧ (Kd.int .i64).C w A7 l[i].f6.length l[i].f6 := by
  obtain ⟨ad, _, _, _, _, _, _, e, hz, _⟩ := at_T118 h 0 (by omega) (by omega)
  have hpl : ad = ⟨ad.block, ad.off, none⟩ := spot_plain (a := ad) (by simpa [Addr.add] using hz)
  clear hz
  refine ⟨ad.block, ad.off, by rw [e, ← hpl], fun i hi => ?_⟩
  obtain ⟨ad', A2, c2, A3, c3, A7, c7, e', h0, h1, h2, h3, h4, h5, h6, h7, r⟩ := at_T118 h (i : Int) (by omega) (by omega)
  obtain rfl : ad = ad' := by rw [e] at e'; exact Option.some.inj e'
  have hrd : rd_T118 l (i : Int) = l[i] := getD_at l z118 i hi
  rw [hpl, Int.toNat_natCast, add_at] at h0 h1 h2 h3 h4 h5 h6 h7
  rw [hrd] at h0 h1 h2 h3 h4 h5 h6 h7 r
  exact ⟨A2, c2, A3, c3, A7, c7, h0, h1, h2, h3, h4, h5, h6, h7, r⟩
theorem ints_plain {w : World} {A : Option Addr} {l : List Int} (h : (Kd.int .i64).C w A l.length l) (hp : 0 < l.length) : ∃ G O, A = some ⟨G, O, none⟩ ∧ ∀ i (hi : i < l.length), w.cell? ⟨G, O + i, none⟩ = some (.int .i64 l[i]) := by
  obtain ⟨_, _, h3⟩ := h
  obtain ⟨ad, e, hc⟩ := h3 hp
  have hz := hc 0 l[0] (List.getElem?_eq_getElem hp)
  obtain ⟨cs0, l0, k0, z0⟩ := hz
  have k0' : cs0 = [.int .i64 l[0]] := k0
  subst k0'
  have z00 := z0 0 _ rfl
  have hpl : ad = ⟨ad.block, ad.off, none⟩ := spot_plain (a := ad) (by simpa [Addr.add] using z00)
  refine ⟨ad.block, ad.off, by rw [e, ← hpl], fun i hi => ?_⟩
  obtain ⟨cs, l1, k1, z1⟩ := hc i l[i] (List.getElem?_eq_getElem hi)
  have k1' : cs = [.int .i64 l[i]] := k1
  subst k1'
  have z11 := z1 0 _ rfl
  rw [hpl, add_at] at z11
  have z12 : w.cell? ⟨ad.block, ad.off + (i * 1 + 0), none⟩ = some (.int .i64 l[i]) := z11
  simpa using z12
end Go.Proofs.YtggogenhakdhiaaDoor.PSnapTexts
