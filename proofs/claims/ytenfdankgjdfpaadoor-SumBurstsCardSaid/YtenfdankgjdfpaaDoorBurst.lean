/- The plain side of what a burst does to the check sum. -/
import Derived.Test.YtenfdankgjdfpaaDoorOpen
set_option linter.unusedVariables false
set_option linter.unusedSimpArgs false
namespace Go.Proofs.YtenfdankgjdfpaaDoor.Crc

theorem stpN_add (a b : Nat) (x : BitVec 32) : stpN (a + b) x = stpN a (stpN b x) := by
  induction a with
  | zero => simp [stpN]
  | succ a ih => rw [Nat.succ_add]; simp only [stpN, ih]
theorem stp8_stpN (x : BitVec 32) : stp8 x = stpN 8 x := rfl
theorem stp_zero_iff (a : BitVec 32) (h : stp a = 0#32) : a = 0#32 := by
  unfold stp at h
  cases h0 : a.getLsbD 0 with
  | false =>
    rw [h0] at h
    simp only [cond_false] at h
    apply BitVec.eq_of_getLsbD_eq
    intro i hi
    cases i with
    | zero => rw [h0]; rfl
    | succ i =>
      have := congrArg (fun x : BitVec 32 => x.getLsbD i) h
      simp only [BitVec.getLsbD_ushiftRight] at this
      rw [Nat.add_comm 1 i] at this
      rw [this]; simp
  | true =>
    rw [h0] at h
    simp only [cond_true] at h
    have := congrArg (fun x : BitVec 32 => x.getLsbD 31) h
    simp only [BitVec.getLsbD_xor, BitVec.getLsbD_ushiftRight] at this
    rw [BitVec.getLsbD_of_ge a (1 + 31) (by omega)] at this
    exact absurd this (by decide)
theorem stpN_zero_iff (n : Nat) (a : BitVec 32) (h : stpN n a = 0#32) : a = 0#32 := by
  induction n with
  | zero => exact h
  | succ n ih => exact ih (stp_zero_iff _ h)
theorem stpN_high (k : Nat) : ∀ (a : BitVec 32), (∀ i, i < k → a.getLsbD i = false) → stpN k a = a >>> k := by
  induction k with
  | zero => intro a _; simp [stpN]
  | succ k ih =>
    intro a h
    simp only [stpN]
    rw [ih a (fun i hi => h i (by omega)), stp_even _ (by rw [BitVec.getLsbD_ushiftRight]; exact h (k + 0) (by omega)), ← BitVec.shiftRight_add]
theorem two_pow_low (j i : Nat) (h : i < j) : (BitVec.ofNat 32 (2 ^ j)).getLsbD i = false := by
  rw [BitVec.getLsbD_ofNat]
  have : Nat.testBit (2 ^ j) i = false := by rw [Nat.testBit_two_pow]; simp; omega
  simp [this]
theorem stpN_pow (j : Nat) (hj : j < 32) : stpN j (BitVec.ofNat 32 (2 ^ j)) = 1#32 := by
  rw [stpN_high j _ (fun i hi => two_pow_low j i hi)]
  apply BitVec.eq_of_toNat_eq
  rw [BitVec.toNat_ushiftRight, BitVec.toNat_ofNat, Nat.mod_eq_of_lt (Nat.pow_lt_pow_right (by omega) hj), Nat.shiftRight_eq_div_pow, Nat.div_self (Nat.pow_pos (by omega))]
  rfl

theorem raw_xor (l : List UInt8) : ∀ (r d : BitVec 32), raw (r ^^^ d) l = raw r l ^^^ stpN (8 * l.length) d := by
  induction l with
  | nil => intro r d; rfl
  | cons b l ih =>
    intro r d
    have h : byteStep (r ^^^ d) (b.toNat : Int) = byteStep r (b.toNat : Int) ^^^ stpN 8 d := by
      unfold byteStep
      rw [BitVec.xor_assoc, BitVec.xor_comm d, ← BitVec.xor_assoc, stp8_xor, stp8_stpN d]
    show raw (byteStep (r ^^^ d) _) l = raw (byteStep r _) l ^^^ _
    rw [h, ih, List.length_cons, show 8 * (l.length + 1) = 8 * l.length + 8 by omega, stpN_add]

/-- a bit is turned -/
def flip (l : List UInt8) (p : Nat) : List UInt8 := l.set (p / 8) ((l.getD (p / 8) 0) ^^^ UInt8.ofNat (2 ^ (p % 8)))
theorem flip_length (l : List UInt8) (p : Nat) : (flip l p).length = l.length := by simp [flip]
theorem u8_xor_bv (b c : UInt8) : BitVec.ofInt 32 ((b ^^^ c).toNat : Int) = BitVec.ofInt 32 (b.toNat : Int) ^^^ BitVec.ofInt 32 (c.toNat : Int) := by
  apply BitVec.eq_of_toNat_eq
  have hb := b.toNat_lt
  have hc := c.toNat_lt
  have hx := (b ^^^ c).toNat_lt
  rw [BitVec.toNat_xor]
  simp only [BitVec.toNat_ofInt]
  have e : (b ^^^ c).toNat = b.toNat ^^^ c.toNat := UInt8.toNat_xor b c
  rw [show (((b ^^^ c).toNat : Int) % ((2 ^ 32 : Nat) : Int)).toNat = (b ^^^ c).toNat by omega, show ((b.toNat : Int) % ((2 ^ 32 : Nat) : Int)).toNat = b.toNat by omega, show ((c.toNat : Int) % ((2 ^ 32 : Nat) : Int)).toNat = c.toNat by omega, e]
theorem raw_append (r : BitVec 32) (l m : List UInt8) : raw r (l ++ m) = raw (raw r l) m := by simp [raw]
theorem raw_flip (r : BitVec 32) (l : List UInt8) (p : Nat) (hp : p < 8 * l.length) : raw r (flip l p) = raw r l ^^^ stpN (8 * l.length - p) 1#32 := by
  have hi : p / 8 < l.length := by omega
  have h1 : flip l p = l.take (p / 8) ++ (((l[p / 8]) ^^^ UInt8.ofNat (2 ^ (p % 8))) :: l.drop (p / 8 + 1)) := by
    unfold flip
    rw [List.set_eq_take_append_cons_drop, if_pos hi, List.getD_eq_getElem?_getD, List.getElem?_eq_getElem hi]; rfl
  have h2 : l = l.take (p / 8) ++ (l[p / 8] :: l.drop (p / 8 + 1)) := by
    rw [← List.drop_eq_getElem_cons hi, List.take_append_drop]
  have hj : p % 8 < 8 := Nat.mod_lt _ (by omega)
  have hpow : (UInt8.ofNat (2 ^ (p % 8))).toNat = 2 ^ (p % 8) := by
    rw [UInt8.toNat_ofNat']
    exact Nat.mod_eq_of_lt (Nat.lt_of_lt_of_le (Nat.pow_lt_pow_right (by omega) hj) (by omega))
  have hstep : ∀ (x : BitVec 32) (b : UInt8), byteStep x ((b ^^^ UInt8.ofNat (2 ^ (p % 8))).toNat : Int) = byteStep x (b.toNat : Int) ^^^ stpN (8 - p % 8) 1#32 := by
    intro x b
    unfold byteStep
    rw [u8_xor_bv, ← BitVec.xor_assoc, stp8_xor, hpow]
    congr 1
    generalize p % 8 = j at hj
    have e8 : (8 : Nat) = (8 - j) + j := by omega
    have : BitVec.ofInt 32 ((2 ^ j : Nat) : Int) = BitVec.ofNat 32 (2 ^ j) := BitVec.ofInt_natCast 32 (2 ^ j)
    rw [stp8_stpN, this]
    conv => lhs; rw [e8, stpN_add, stpN_pow j (by omega)]
  rw [h1]
  conv => rhs; rw [h2]
  rw [raw_append, raw_append]
  show raw (byteStep _ _) _ = raw (byteStep _ _) _ ^^^ _
  rw [hstep, raw_xor, ← stpN_add]
  congr 2
  simp only [List.length_append, List.length_cons, List.length_drop, List.length_take]
  omega

/-- the bits of a number, from one place on -/
def turned (l : List UInt8) (from_ turn : Nat) : Nat → List UInt8
  | 0 => l
  | k + 1 => if turn / 2 ^ k % 2 = 1 then flip (turned l from_ turn k) (from_ + k) else turned l from_ turn k
theorem turned_succ (l : List UInt8) (from_ turn k : Nat) : turned l from_ turn (k + 1) = if turn / 2 ^ k % 2 = 1 then flip (turned l from_ turn k) (from_ + k) else turned l from_ turn k := rfl
theorem turned_length (l : List UInt8) (from_ turn k : Nat) : (turned l from_ turn k).length = l.length := by
  induction k with
  | zero => rfl
  | succ k ih => unfold turned; split <;> simp [flip_length, ih]
theorem mod_succ_bv (turn k : Nat) (hk : k < 32) : BitVec.ofNat 32 (turn % 2 ^ (k + 1)) = BitVec.ofNat 32 (turn % 2 ^ k) ^^^ (if turn / 2 ^ k % 2 = 1 then BitVec.ofNat 32 (2 ^ k) else 0#32) := by
  have hb : turn.testBit k = decide (turn / 2 ^ k % 2 = 1) := Nat.testBit_eq_decide_div_mod_eq
  apply BitVec.eq_of_getLsbD_eq
  intro i hi
  rw [BitVec.getLsbD_xor, BitVec.getLsbD_ofNat, BitVec.getLsbD_ofNat, Nat.testBit_mod_two_pow, Nat.testBit_mod_two_pow]
  by_cases h : turn / 2 ^ k % 2 = 1
  · rw [if_pos h, BitVec.getLsbD_ofNat, Nat.testBit_two_pow]
    by_cases hik : i = k
    · subst hik
      simp [hb, h, hi]
    · have : (k = i) = False := by simp; omega
      have h2 : decide (i < k + 1) = decide (i < k) := by
        rw [decide_eq_decide]; omega
      simp [this, h2, hi]
  · rw [if_neg h]
    by_cases hik : i = k
    · subst hik
      simp [hb, h, hi]
    · have h2 : decide (i < k + 1) = decide (i < k) := by
        rw [decide_eq_decide]; omega
      simp [h2, hi]
theorem raw_turned (r : BitVec 32) (l : List UInt8) (from_ turn : Nat) : ∀ k, k ≤ 32 → from_ + k ≤ 8 * l.length →
    raw r (turned l from_ turn k) = raw r l ^^^ stpN (8 * l.length - from_) (BitVec.ofNat 32 (turn % 2 ^ k)) := by
  intro k
  induction k with
  | zero =>
    intro _ _
    have : BitVec.ofNat 32 (turn % 2 ^ 0) = 0#32 := by rw [Nat.pow_zero, Nat.mod_one]
    have h0 : ∀ n, stpN n 0#32 = 0#32 := by
      intro n
      induction n with
      | zero => rfl
      | succ n ih => simp only [stpN, ih]; decide
    rw [this, h0, BitVec.xor_zero]; rfl
  | succ k ih =>
    intro hk hf
    have ih := ih (by omega) (by omega)
    rw [mod_succ_bv turn k (by omega), stpN_xor, ← BitVec.xor_assoc, ← ih, turned_succ]
    by_cases h : turn / 2 ^ k % 2 = 1
    · rw [if_pos h, if_pos h, raw_flip _ _ _ (by rw [turned_length]; omega), turned_length]
      congr 1
      rw [show 8 * l.length - from_ = (8 * l.length - (from_ + k)) + k by omega, stpN_add, stpN_pow k (by omega)]
    · rw [if_neg h, if_neg h]
      have h0 : ∀ n, stpN n 0#32 = 0#32 := by
        intro n
        induction n with
        | zero => rfl
        | succ n ih => simp only [stpN, ih]; decide
      rw [h0, BitVec.xor_zero]
theorem turned_none (l : List UInt8) (from_ turn : Nat) : ∀ k, k ≤ 32 → turn % 2 ^ k = 0 → turned l from_ turn k = l := by
  intro k
  induction k with
  | zero => intro _ _; rfl
  | succ k ih =>
    intro hk h
    have hm : turn % 2 ^ (k + 1) = turn % 2 ^ k + 2 ^ k * (turn / 2 ^ k % 2) := by rw [Nat.pow_succ, Nat.mod_mul]
    have h2 : 0 < 2 ^ k := Nat.pow_pos (by omega)
    have hz : turn / 2 ^ k % 2 = 0 := by
      rcases Nat.mod_two_eq_zero_or_one (turn / 2 ^ k) with h0 | h0
      · exact h0
      · rw [h0] at hm; omega
    rw [turned_succ, if_neg (by omega)]
    exact ih (by omega) (by omega)
theorem mod_succ_zero (turn k : Nat) : turn % 2 ^ (k + 1) = 0 ↔ turn % 2 ^ k = 0 ∧ turn / 2 ^ k % 2 = 0 := by
  have hm : turn % 2 ^ (k + 1) = turn % 2 ^ k + 2 ^ k * (turn / 2 ^ k % 2) := by rw [Nat.pow_succ, Nat.mod_mul]
  have h2 : 0 < 2 ^ k := Nat.pow_pos (by omega)
  constructor
  · intro h
    have h1 : turn % 2 ^ k = 0 := by omega
    have h3 : 2 ^ k * (turn / 2 ^ k % 2) = 0 := by omega
    rcases Nat.mul_eq_zero.1 h3 with h4 | h4
    · omega
    · exact ⟨h1, h4⟩
  · rintro ⟨h1, h3⟩
    rw [hm, h1, h3]; simp
end Go.Proofs.YtenfdankgjdfpaaDoor.Crc
namespace Go.Proofs.YtenfdankgjdfpaaDoor
open Crc

theorem shift_down (b m : Nat) (hb : b < 256) (hm : m ≤ 16) : stpN 8 (BitVec.ofNat 32 (b * 2 ^ (8 + m))) = BitVec.ofNat 32 (b * 2 ^ m) := by
  have hlt : b * 2 ^ (8 + m) < 2 ^ 32 := by
    have h1 : 2 ^ (8 + m) ≤ 2 ^ 24 := Nat.pow_le_pow_right (by omega) (by omega)
    have h2 : b * 2 ^ (8 + m) ≤ 255 * 2 ^ 24 := Nat.mul_le_mul (by omega) h1
    omega
  have hp : 2 ^ (8 + m) = 256 * 2 ^ m := by rw [Nat.pow_add]
  rw [stpN_high]
  · apply BitVec.eq_of_toNat_eq
    rw [BitVec.toNat_ushiftRight, BitVec.toNat_ofNat, BitVec.toNat_ofNat, Nat.mod_eq_of_lt hlt, Nat.shiftRight_eq_div_pow]
    rw [hp] at hlt ⊢
    rw [show b * (256 * 2 ^ m) = (b * 2 ^ m) * 2 ^ 8 by rw [← Nat.mul_assoc, Nat.mul_comm b 256, Nat.mul_assoc, Nat.mul_comm]] at hlt ⊢
    rw [Nat.mul_div_cancel _ (by omega), Nat.mod_eq_of_lt (by omega)]
  · intro i hi
    rw [BitVec.getLsbD_ofNat, Nat.testBit_mul_two_pow]
    simp; omega
theorem stpN8_byte (x : BitVec 32) (z : Nat) : byteStep x (z : Int) = stpN 8 (x ^^^ BitVec.ofNat 32 z) := by
  unfold byteStep
  rw [BitVec.ofInt_natCast]; rfl
theorem split_four (y : BitVec 32) : y = BitVec.ofNat 32 (y.toNat % 256) ^^^ BitVec.ofNat 32 (y.toNat / 256 % 256 * 2 ^ 8) ^^^ BitVec.ofNat 32 (y.toNat / 65536 % 256 * 2 ^ 16) ^^^ BitVec.ofNat 32 (y.toNat / 16777216 % 256 * 2 ^ 24) := by
  apply BitVec.eq_of_getLsbD_eq
  intro i hi
  simp only [BitVec.getLsbD_xor, BitVec.getLsbD_ofNat, Nat.testBit_mul_two_pow]
  have e0 : (y.toNat % 256).testBit i = (decide (i < 8) && y.toNat.testBit i) := by
    rw [show (256 : Nat) = 2 ^ 8 by rfl, Nat.testBit_mod_two_pow]
  have e1 : ∀ k, (y.toNat / 2 ^ k % 256).testBit (i - k) = (decide (i - k < 8) && y.toNat.testBit (i - k + k)) := by
    intro k
    rw [show (256 : Nat) = 2 ^ 8 by rfl, Nat.testBit_mod_two_pow, Nat.testBit_div_two_pow]
  have e8 := e1 8
  have e16 := e1 16
  have e24 := e1 24
  rw [show (2 : Nat) ^ 8 = 256 by rfl] at e8
  rw [show (2 : Nat) ^ 16 = 65536 by rfl] at e16
  rw [show (2 : Nat) ^ 24 = 16777216 by rfl] at e24
  rw [e0, e8, e16, e24]
  have hy : y.getLsbD i = y.toNat.testBit i := rfl
  rw [hy]
  by_cases h1 : i < 8
  · have : ¬ 8 ≤ i := by omega
    have h2 : ¬ 16 ≤ i := by omega
    have h3 : ¬ 24 ≤ i := by omega
    simp [h1, this, h2, h3, hi]
  · by_cases h2 : i < 16
    · have a1 : 8 ≤ i := by omega
      have a2 : ¬ 16 ≤ i := by omega
      have a3 : ¬ 24 ≤ i := by omega
      have a4 : i - 8 < 8 := by omega
      have a5 : i - 8 + 8 = i := by omega
      simp [h1, a1, a2, a3, a4, a5, hi]
    · by_cases h3 : i < 24
      · have a1 : 8 ≤ i := by omega
        have a2 : 16 ≤ i := by omega
        have a3 : ¬ 24 ≤ i := by omega
        have a4 : i - 16 < 8 := by omega
        have a5 : i - 16 + 16 = i := by omega
        have a6 : ¬ i - 8 < 8 := by omega
        simp [h1, a1, a2, a3, a4, a5, a6, hi]
      · have a1 : 8 ≤ i := by omega
        have a2 : 16 ≤ i := by omega
        have a3 : 24 ≤ i := by omega
        have a4 : i - 24 < 8 := by omega
        have a5 : i - 24 + 24 = i := by omega
        have a6 : ¬ i - 8 < 8 := by omega
        have a7 : ¬ i - 16 < 8 := by omega
        simp [h1, a1, a2, a3, a4, a5, a6, a7, hi]
theorem raw_four (x y : BitVec 32) : raw x (four y) = stpN 32 (x ^^^ y) := by
  have hb : ∀ n : Nat, (UInt8.ofNat (n % 256)).toNat = n % 256 := by
    intro n
    rw [UInt8.toNat_ofNat']
    omega
  have h0 : y.toNat % 256 < 256 := Nat.mod_lt _ (by omega)
  have h1 : y.toNat / 256 % 256 < 256 := Nat.mod_lt _ (by omega)
  have h2 : y.toNat / 65536 % 256 < 256 := Nat.mod_lt _ (by omega)
  have h3 : y.toNat / 16777216 % 256 < 256 := Nat.mod_lt _ (by omega)
  have hl : raw x (four y) = byteStep (byteStep (byteStep (byteStep x ((y.toNat % 256 : Nat) : Int)) ((y.toNat / 256 % 256 : Nat) : Int)) ((y.toNat / 65536 % 256 : Nat) : Int)) ((y.toNat / 16777216 % 256 : Nat) : Int) := by
    simp only [raw, four, List.foldl_cons, List.foldl_nil, hb]
  rw [hl]
  simp only [stpN8_byte]
  conv => rhs; rw [split_four y]
  generalize y.toNat % 256 = b0 at h0
  generalize y.toNat / 256 % 256 = b1 at h1
  generalize y.toNat / 65536 % 256 = b2 at h2
  generalize y.toNat / 16777216 % 256 = b3 at h3
  have h32 : ∀ z, stpN 32 z = stpN 8 (stpN 8 (stpN 8 (stpN 8 z))) := by
    intro z
    rw [← stpN_add, ← stpN_add, ← stpN_add]
  rw [h32]
  congr 1
  have s1 := shift_down b1 0 h1 (by omega)
  have s2 := shift_down b2 8 h2 (by omega)
  have s2' := shift_down b2 0 h2 (by omega)
  have s3 := shift_down b3 16 h3 (by omega)
  have s3' := shift_down b3 8 h3 (by omega)
  have s3'' := shift_down b3 0 h3 (by omega)
  simp only [Nat.add_zero, Nat.pow_zero, Nat.mul_one, show 8 + 8 = 16 from rfl, show 8 + 16 = 24 from rfl] at s1 s2 s2' s3 s3' s3''
  simp only [stpN_xor, s1, s2, s2', s3, s3', s3'']
  simp only [BitVec.xor_assoc]
/-- what is sealed comes to one number -/
theorem raw_sld (l : List UInt8) : raw (~~~ 0#32) (sld l) = stpN 32 (BitVec.allOnes 32) := by
  unfold sld
  rw [raw_append, raw_four]
  congr 1
  unfold upd
  generalize raw (~~~ 0#32) l = r
  apply BitVec.eq_of_getLsbD_eq
  intro i hi
  rw [BitVec.getLsbD_xor, BitVec.getLsbD_not, BitVec.getLsbD_allOnes]
  simp [hi]
/-- ████ a burst is told ████ -/
theorem burst_told (b c : List UInt8) (from_ turn k : Nat) (hk : k ≤ 32) (hf : from_ + k ≤ 8 * (sld b).length) (hne : turn % 2 ^ k ≠ 0) : turned (sld b) from_ turn k ≠ sld c := by
  intro h
  have h1 := raw_turned (~~~ 0#32) (sld b) from_ turn k hk hf
  rw [h, raw_sld, raw_sld] at h1
  have h2 : stpN (8 * (sld b).length - from_) (BitVec.ofNat 32 (turn % 2 ^ k)) = 0#32 := by
    have := congrArg (fun x => stpN 32 (BitVec.allOnes 32) ^^^ x) h1
    simp only [BitVec.xor_self, ← BitVec.xor_assoc, BitVec.zero_xor] at this
    exact this.symm
  have h3 := stpN_zero_iff _ _ h2
  have h4 := congrArg BitVec.toNat h3
  have hlt : turn % 2 ^ k < 2 ^ k := Nat.mod_lt _ (Nat.pow_pos (by omega))
  have hle : 2 ^ k ≤ 2 ^ 32 := Nat.pow_le_pow_right (by omega) hk
  rw [BitVec.toNat_ofNat, Nat.mod_eq_of_lt (by omega)] at h4
  exact hne (by simpa using h4)
end Go.Proofs.YtenfdankgjdfpaaDoor
