/- The texts of a state as plain lists of bytes, and that the document's printed functions give them. -/
import Derived.Test.YtggogenhakdhiaaDoorStX10
import Derived.Lib.ItoaLen
import Derived.Lib.EndianBits
import Derived.Lib.Join
set_option linter.unusedVariables false
set_option linter.unusedSimpArgs false
namespace Go.Proofs.YtggogenhakdhiaaDoor.PSnapTexts
open Go.RowKit Go.Proofs.YtggogenhakdhiaaDoorW.PrintWords Go.Proofs.YtggogenhakdhiaaDoorW.PrintLast Go.Proofs.YtggogenhakdhiaaDoorW.PrintMore

/-- a string of these bytes -/
def B (l : List UInt8) : ByteArray := ⟨l.toArray⟩
theorem B_append (a b : List UInt8) : B a ++ B b = B (a ++ b) := by
  apply ByteArray.ext
  simp [B]
theorem B_size (l : List UInt8) : (B l).size = l.length := by simp [B, ByteArray.size]
theorem B_data (s : ByteArray) : B s.data.toList = s := by cases s; simp [B]
theorem B_toList (l : List UInt8) : (B l).data.toList = l := by simp [B]
theorem toList_len (s : ByteArray) : s.data.toList.length = s.size := by rw [Array.length_toList]; rfl
theorem tdiv_nat (a b : Nat) : Int.tdiv (a : Int) (b : Int) = ((a / b : Nat) : Int) := by rw [Int.tdiv_eq_ediv_of_nonneg (by omega)]; omega
theorem tmod_nat (a b : Nat) : Int.tmod (a : Int) (b : Int) = ((a % b : Nat) : Int) := by rw [Int.tmod_eq_emod_of_nonneg (by omega)]; omega
theorem B_inj {a b : List UInt8} : B a = B b ↔ a = b := ⟨fun h => by rw [← B_toList a, ← B_toList b, h], fun h => by rw [h]⟩

def hexd (n : Nat) : UInt8 := [48, 49, 50, 51, 52, 53, 54, 55, 56, 57, 97, 98, 99, 100, 101, 102].getD n 0
/-- one byte within quotation marks -/
def qc (c : UInt8) : List UInt8 := if c.toNat < 32 ∨ c.toNat > 126 ∨ c.toNat = 34 ∨ c.toNat = 92 then [92, hexd (c.toNat / 16), hexd (c.toNat % 16)] else [c]
def quoteL (s : List UInt8) : List UInt8 := 34 :: s.flatMap qc ++ [34]
theorem qc_length (c : UInt8) : (qc c).length ≤ 3 := by unfold qc; split <;> simp
theorem flat_length {α : Type} (g : α → List UInt8) (C : Nat) : ∀ l : List α, (∀ x ∈ l, (g x).length ≤ C) → (l.flatMap g).length ≤ C * l.length
  | [], _ => by simp
  | x :: l, h => by
    have h1 := flat_length g C l (fun y hy => h y (List.mem_cons_of_mem _ hy))
    have h2 := h x List.mem_cons_self
    rw [List.flatMap_cons, List.length_append, List.length_cons, Nat.mul_succ]
    omega
theorem quoteL_length (s : List UInt8) : (quoteL s).length ≤ 3 * s.length + 2 := by
  have := flat_length qc 3 s (fun c _ => qc_length c)
  simp only [quoteL, List.cons_append, List.length_cons, List.length_append, List.length_nil]
  omega
def un (l : List Int) : List UInt8 := l.map fun n => UInt8.ofNat n.toNat
theorem strOfNums_B (l : List Int) : strOfNums l = B (un l) := rfl
theorem un_append (a b : List Int) : un (a ++ b) = un a ++ un b := by simp [un]
theorem un_length (a : List Int) : (un a).length = a.length := by simp [un]
def hexB : ByteArray := ⟨#[48, 49, 50, 51, 52, 53, 54, 55, 56, 57, 97, 98, 99, 100, 101, 102]⟩
theorem bt_hex : ∀ n : Nat, n < 16 → bt hexB (n : Int) = ((hexd n).toNat : Int) := by
  intro n hn
  have h : ∀ m : Fin 16, bt hexB ((m.val : Nat) : Int) = ((hexd m.val).toNat : Int) := by decide +kernel
  exact h ⟨n, hn⟩
theorem un_byte (c : UInt8) : UInt8.ofNat ((c.toNat : Int)).toNat = c := by simp
theorem bt_byte (s : ByteArray) (i : Nat) (h : i < s.data.toList.length) : bt s (i : Int) = ((s.data.toList[i]).toNat : Int) := by
  unfold bt
  rw [dif_pos (by rw [toList_len] at h; simpa using h)]
  simp only [Int.toNat_natCast]
  rfl
theorem Quote.l0_is (s : ByteArray) (hs : s.size ≤ 46000000000000) : ∀ (d k i : Nat) (x : List Int), i + d = s.size → d < k → x.length + 3 * d < 140000000000000 → bursarref08_Quote.l0 k s x hexB (i : Int) = some (B (un x ++ ((s.data.toList.drop i).flatMap qc ++ [34]))) := by
  intro d
  induction d with
  | zero =>
    intro k i x hi hk hx
    obtain ⟨m, rfl⟩ : ∃ m, k = m + 1 := ⟨k - 1, by omega⟩
    have h0 : s.data.toList.drop i = [] := List.drop_eq_nil_of_le (by rw [toList_len]; omega)
    simp only [bursarref08_Quote.l0]
    rw [if_neg (by omega), if_pos (by omega), h0, strOfNums_B, un_append]
    rfl
  | succ d ih =>
    intro k i x hi hk hx
    obtain ⟨m, rfl⟩ : ∃ m, k = m + 1 := ⟨k - 1, by omega⟩
    have hil : i < s.data.toList.length := by rw [toList_len]; omega
    have hb := bt_byte s i hil
    generalize hc : s.data.toList[i] = c at hb
    have hw : wrap64 ((i : Int) + 1) = ((i + 1 : Nat) : Int) := by unfold wrap64; omega
    have hdrop : s.data.toList.drop i = c :: s.data.toList.drop (i + 1) := by rw [List.drop_eq_getElem_cons hil, hc]
    have hc256 : c.toNat < 256 := c.toNat_lt
    have hA : (Int.tdiv ((c.toNat : Nat) : Int) 16) % 256 = ((c.toNat / 16 : Nat) : Int) := by
      rw [show (16 : Int) = ((16 : Nat) : Int) from rfl, tdiv_nat]
      omega
    have hB : Int.tmod ((c.toNat : Nat) : Int) 16 = ((c.toNat % 16 : Nat) : Int) := by
      rw [show (16 : Int) = ((16 : Nat) : Int) from rfl, tmod_nat]
    have hx1 : bt hexB ((c.toNat / 16 : Nat) : Int) = ((hexd (c.toNat / 16)).toNat : Int) := bt_hex _ (by omega)
    have hx2 : bt hexB ((c.toNat % 16 : Nat) : Int) = ((hexd (c.toNat % 16)).toNat : Int) := bt_hex _ (by omega)
    have hsz : hexB.size = 16 := rfl
    have i1 := ih m (i + 1) (x ++ [92, ((hexd (c.toNat / 16)).toNat : Int), ((hexd (c.toNat % 16)).toNat : Int)]) (by omega) (by omega) (by simp; omega)
    have i2 := ih m (i + 1) (x ++ [((c.toNat : Nat) : Int)]) (by omega) (by omega) (by simp; omega)
    have u1 : un [92, ((hexd (c.toNat / 16)).toNat : Int), ((hexd (c.toNat % 16)).toNat : Int)] = [92, hexd (c.toNat / 16), hexd (c.toNat % 16)] := by simp [un]
    have u2 : un [((c.toNat : Nat) : Int)] = [c] := by simp [un]
    rw [un_append, u1] at i1
    rw [un_append, u2] at i2
    simp only [bursarref08_Quote.l0]
    rw [if_pos (by omega), if_pos (by omega), hb, hA, hB, hx1, hx2, hsz, hw]
    simp only [Option.bind_some]
    rw [i1, i2, hdrop, List.flatMap_cons]
    simp only [List.length_cons, List.length_nil]
    have hq : ∀ (p : Prop) [Decidable p] (a b : Option ByteArray), p → a = b → (if p then a else none) = b := fun p _ a b hp h => by rw [if_pos hp, h]
    by_cases h1 : c.toNat < 32
    · rw [if_pos (by omega)]
      refine hq _ _ _ (by omega) (hq _ _ _ (by omega) (hq _ _ _ (by omega) (hq _ _ _ (by omega) (hq _ _ _ (by omega) ?_))))
      simp [qc, h1]
    rw [if_neg (by omega)]
    by_cases h2 : c.toNat > 126
    · rw [if_pos (by omega)]
      refine hq _ _ _ (by omega) (hq _ _ _ (by omega) (hq _ _ _ (by omega) (hq _ _ _ (by omega) (hq _ _ _ (by omega) ?_))))
      simp [qc, h2]
    rw [if_neg (by omega)]
    by_cases h3 : c.toNat = 34
    · rw [if_pos (by omega)]
      refine hq _ _ _ (by omega) (hq _ _ _ (by omega) (hq _ _ _ (by omega) (hq _ _ _ (by omega) (hq _ _ _ (by omega) ?_))))
      simp [qc, h3]
    rw [if_neg (by omega)]
    by_cases h4 : c.toNat = 92
    · rw [if_pos (by omega)]
      refine hq _ _ _ (by omega) (hq _ _ _ (by omega) (hq _ _ _ (by omega) (hq _ _ _ (by omega) (hq _ _ _ (by omega) ?_))))
      simp [qc, h4]
    rw [if_neg (by omega)]
    refine hq _ _ _ (by omega) ?_
    have hqc : qc c = [c] := by unfold qc; rw [if_neg (by omega)]
    rw [hqc]
    simp
theorem Quote.is (k : Nat) (s : ByteArray) (hs : s.size ≤ 46000000000000) (hk : s.size < k) : bursarref08_Quote.f k s = some (B (quoteL s.data.toList)) := by
  have h := Quote.l0_is s hs s.size k 0 [34] (by omega) hk (by simp; omega)
  exact h

theorem dec_small {u : Nat} (h : u < 10) : Lib.decDigits u = [UInt8.ofNat (48 + u)] := by rw [Lib.decDigits, dif_pos h]
theorem dec_big {u : Nat} (h : ¬ u < 10) : Lib.decDigits u = Lib.decDigits (u / 10) ++ [UInt8.ofNat (48 + u % 10)] := by rw [Lib.decDigits, dif_neg h]
theorem Digits.l0_is : ∀ (m k u : Nat) (x : List UInt8), u < 10 ^ m → m < k → u < 18446744073709551616 → x.length + m ≤ 1000 →
    bursarref02_Digits.l0 k (u : Int) (B x) = some (B ((if u = 0 then [] else Lib.decDigits u) ++ x)) := by
  intro m
  induction m with
  | zero =>
    intro k u x hu hk hb hx
    obtain ⟨n, rfl⟩ : ∃ n, k = n + 1 := ⟨k - 1, by omega⟩
    obtain rfl : u = 0 := by simpa using hu
    simp only [bursarref02_Digits.l0]
    rw [if_neg (by omega)]
    simp
  | succ m ih =>
    intro k u x hu hk hb hx
    obtain ⟨n, rfl⟩ : ∃ n, k = n + 1 := ⟨k - 1, by omega⟩
    by_cases h0 : u = 0
    · subst h0
      simp only [bursarref02_Digits.l0]
      rw [if_neg (by omega)]
      simp
    · have hd : (IntKind.u64.wrap (48 + (Int.tmod (u : Int) 10))) % 256 = ((48 + u % 10 : Nat) : Int) := by
        rw [show (10 : Int) = ((10 : Nat) : Int) from rfl, tmod_nat]
        simp only [IntKind.wrap_u64]
        omega
      have hq : IntKind.u64.wrap (Int.tdiv (u : Int) 10) = ((u / 10 : Nat) : Int) := by
        rw [show (10 : Int) = ((10 : Nat) : Int) from rfl, tdiv_nat]
        simp only [IntKind.wrap_u64]
        omega
      have hun : strOfNums [((48 + u % 10 : Nat) : Int)] = B [UInt8.ofNat (48 + u % 10)] := by
        rw [strOfNums_B]; rfl
      have i1 := ih n (u / 10) (UInt8.ofNat (48 + u % 10) :: x) (by rw [Nat.pow_succ] at hu; omega) (by omega) (by omega) (by simp; omega)
      simp only [bursarref02_Digits.l0]
      rw [if_pos (by omega), hd, hq]
      simp only [Option.bind_some]
      rw [hun, B_append, B_size, B_size, if_pos (by simp; omega)]
      rw [show [UInt8.ofNat (48 + u % 10)] ++ x = UInt8.ofNat (48 + u % 10) :: x from rfl, i1, if_neg h0]
      congr 2
      by_cases h9 : u < 10
      · rw [if_pos (by omega), dec_small h9, Nat.mod_eq_of_lt h9]; rfl
      · rw [if_neg (by omega), dec_big h9]; simp
theorem Digits.is (k u : Nat) (hk : 20 < k) (hu : u < 18446744073709551616) : bursarref02_Digits.f k (u : Int) = some (B (Lib.decDigits u)) := by
  unfold bursarref02_Digits.f
  have hd : (IntKind.u64.wrap (48 + (Int.tmod (u : Int) 10))) % 256 = ((48 + u % 10 : Nat) : Int) := by
    rw [show (10 : Int) = ((10 : Nat) : Int) from rfl, tmod_nat]
    simp only [IntKind.wrap_u64]
    omega
  have hq : IntKind.u64.wrap (Int.tdiv (u : Int) 10) = ((u / 10 : Nat) : Int) := by
    rw [show (10 : Int) = ((10 : Nat) : Int) from rfl, tdiv_nat]
    simp only [IntKind.wrap_u64]
    omega
  have hun : strOfNums [((48 + u % 10 : Nat) : Int)] = B [UInt8.ofNat (48 + u % 10)] := by
    rw [strOfNums_B]; rfl
  rw [hd, hq, hun, Digits.l0_is 20 k (u / 10) _ (by omega) hk (by omega) (by simp)]
  congr 2
  by_cases h9 : u < 10
  · rw [if_pos (by omega), dec_small h9, Nat.mod_eq_of_lt h9]; rfl
  · rw [if_neg (by omega), dec_big h9]
/-- an int -/
def InR (n : Int) : Prop := -9223372036854775808 ≤ n ∧ n ≤ 9223372036854775807
theorem itoa_len {n : Int} (h : InR n) : (Lib.itoa n).length ≤ 21 := Lib.itoa_length_le n h.1 h.2
theorem Whole.is (k : Nat) (n : Int) (hk : 20 < k) (h : InR n) : bursarref02_Whole.f k n = some (B (Lib.itoa n)) := by
  obtain ⟨h0, h1⟩ := h
  have hl := Lib.itoa_length_le n h0 h1
  unfold bursarref02_Whole.f
  by_cases hn : n < 0
  · have hw : IntKind.u64.wrap (-(IntKind.u64.wrap n)) = ((n.natAbs : Nat) : Int) := by simp only [IntKind.wrap_u64]; omega
    rw [if_neg (by omega), hw, Digits.is k n.natAbs hk (by omega)]
    simp only [Option.bind_some]
    have e : Lib.itoa n = 45 :: Lib.decDigits n.natAbs := by rw [Lib.itoa, if_pos hn]
    rw [e] at hl ⊢
    simp only [List.length_cons] at hl
    rw [B_size, if_pos (by omega), show (⟨#[45]⟩ : ByteArray) = B [45] from rfl, B_append]
    rfl
  · have hw : IntKind.u64.wrap n = ((n.toNat : Nat) : Int) := by simp only [IntKind.wrap_u64]; omega
    rw [if_pos (by omega), hw, Digits.is k n.toNat hk (by omega)]
    rw [Lib.itoa, if_neg hn]
    rfl
/-- an identity in words -/
def idL (a : S115) : List UInt8 := Lib.itoa a.f0 ++ 46 :: Lib.itoa a.f1
def InId (a : S115) : Prop := InR a.f0 ∧ InR a.f1
theorem idL_len {a : S115} (h : InId a) : (idL a).length ≤ 43 := by
  have h1 := itoa_len h.1
  have h2 := itoa_len h.2
  simp only [idL, List.length_append, List.length_cons]
  omega
theorem Text2.is (k : Nat) (a : S115) (hk : 20 < k) (h : InId a) : bursarref02_Text.f k a.f0 a.f1 = some (B (idL a)) := by
  unfold bursarref02_Text.f
  have h1 := itoa_len h.1
  have h2 := itoa_len h.2
  rw [Whole.is k a.f0 hk h.1, Whole.is k a.f1 hk h.2]
  simp only [Option.bind_some]
  rw [show (⟨#[46]⟩ : ByteArray) = B [46] from rfl, B_append, B_append, B_size, B_size, B_size, if_pos (by omega), if_pos (by simp; omega)]
  simp [idL]
def valueL (v : ByteArray) (del : Bool) : List UInt8 := if del = true then [45] else quoteL v.data.toList
theorem valueL_len (v : ByteArray) (del : Bool) : (valueL v del).length ≤ 3 * v.size + 2 := by
  unfold valueL
  split
  · simp
  · have := quoteL_length v.data.toList
    rwa [toList_len] at this
theorem value.is (k : Nat) (v : ByteArray) (del : Bool) (hs : v.size ≤ 46000000000000) (hk : v.size < k) : bursarref19_value.f k v del = some (B (valueL v del)) := by
  unfold bursarref19_value.f valueL
  by_cases h : del = true
  · rw [if_pos h, if_pos h]; rfl
  · rw [if_neg h, if_neg h, Quote.is k v hs hk]; rfl
/-- a line of words -/
def lineL (ws : List (List UInt8)) : List UInt8 := Lib.join ws [32] ++ [10]
theorem lineL_cons (a : List UInt8) (ws : List (List UInt8)) : lineL (a :: ws) = a ++ ws.flatMap (fun x => 32 :: x) ++ [10] := by
  unfold lineL
  rw [Lib.join_cons, Lib.joinTail]
  congr 2
def lockWords (word : List UInt8) (l : S135) : List (List UInt8) := [word, quoteL l.f0.data.toList, idL l.f1, Lib.itoa l.f2]
structure LockOk (M : Nat) (l : S135) : Prop where
  s : l.f0.size ≤ M
  i : InId l.f1
  m : InR l.f2
theorem lock_len {M : Nat} {l : S135} (h : LockOk M l) (word : List UInt8) (hw : word.length ≤ 10) : (lineL (lockWords word l)).length ≤ 3 * M + 100 := by
  have h1 := quoteL_length l.f0.data.toList
  have h2 := idL_len h.i
  have h3 := itoa_len h.m
  have h4 := h.s
  have h5 : l.f0.data.toList.length = l.f0.size := toList_len _
  simp only [lockWords, lineL_cons, List.flatMap_cons, List.flatMap_nil, List.length_append, List.length_cons, List.length_nil]
  omega
theorem locksText.l0_is {M : Nat} (hM : M ≤ 1048576) (word : List UInt8) (hw : word.length ≤ 10) (l : List S135) (hl : ∀ x ∈ l, LockOk M x) (hll : l.length ≤ 1048576) :
    ∀ (d k i : Nat) (s : List UInt8), i + d = l.length → d + M + 30 < k → s.length + 4000000 * d ≤ 140000000000000 →
      bursarref19_locksText.l0 k (B word) l (B s) (i : Int) = some (B (s ++ (l.drop i).flatMap fun x => lineL (lockWords word x))) := by
  intro d
  induction d with
  | zero =>
    intro k i s hi hk hs
    obtain ⟨m, rfl⟩ : ∃ m, k = m + 1 := ⟨k - 1, by omega⟩
    simp only [bursarref19_locksText.l0]
    rw [if_neg (by omega), List.drop_eq_nil_of_le (by omega)]
    simp
  | succ d ih =>
    intro k i s hi hk hs
    obtain ⟨m, rfl⟩ : ∃ m, k = m + 1 := ⟨k - 1, by omega⟩
    have h1 : i < l.length := by omega
    have e1 : rd_T135 l (i : Int) = l[i] := by
      unfold rd_T135
      rw [Int.toNat_natCast, List.getD_eq_getElem?_getD, List.getElem?_eq_getElem h1]; rfl
    have hx := hl _ (List.getElem_mem h1)
    generalize l[i] = x at e1 hx
    have hlen := lock_len hx word hw
    have hdrop : l.drop i = x :: l.drop (i + 1) := by
      rw [List.drop_eq_getElem_cons h1]
      congr 1
      unfold rd_T135 at e1
      rw [Int.toNat_natCast, List.getD_eq_getElem?_getD, List.getElem?_eq_getElem h1] at e1
      exact e1
    have hwr : wrap64 ((i : Int) + 1) = ((i + 1 : Nat) : Int) := by unfold wrap64; omega
    have hsz := hx.s
    have q1 := quoteL_length x.f0.data.toList
    have q2 := idL_len hx.i
    have q3 := itoa_len hx.m
    have q5 : x.f0.data.toList.length = x.f0.size := toList_len _
    simp only [bursarref19_locksText.l0]
    rw [e1, Quote.is m x.f0 (by omega) (by omega), Text2.is m x.f1 (by omega) hx.i, Whole.is m x.f2 (by omega) hx.m]
    rw [show (⟨#[32]⟩ : ByteArray) = B [32] from rfl, show (⟨#[10]⟩ : ByteArray) = B [10] from rfl]
    simp only [Option.bind_some, B_append, B_size, List.length_append, List.length_cons, List.length_nil]
    rw [if_pos (by omega), if_pos (by omega), if_pos (by omega), if_pos (by omega), if_pos (by omega), if_pos (by omega), if_pos (by omega), if_pos (by omega), if_pos (by omega), if_pos (by omega), hwr]
    have i1 := ih m (i + 1) (s ++ lineL (lockWords word x)) (by omega) (by omega) (by rw [List.length_append]; omega)
    have e2 : (((((((s ++ word) ++ [32]) ++ quoteL x.f0.data.toList) ++ [32]) ++ idL x.f1) ++ [32]) ++ Lib.itoa x.f2) ++ [10] = s ++ lineL (lockWords word x) := by
      simp [lockWords, lineL_cons]
    rw [e2, i1, hdrop, List.flatMap_cons, List.append_assoc]
theorem locksText.is {M : Nat} (hM : M ≤ 1048576) (word : List UInt8) (hw : word.length ≤ 10) (l : List S135) (hl : ∀ x ∈ l, LockOk M x) (hll : l.length ≤ 1048576) :
    bursarref19_locksText.f 3000000 (B word) l = some (B (l.flatMap fun x => lineL (lockWords word x))) := by
  have h := locksText.l0_is hM word hw l hl hll l.length 3000000 0 [] (by omega) (by omega) (by simp; omega)
  exact h
end Go.Proofs.YtggogenhakdhiaaDoor.PSnapTexts
