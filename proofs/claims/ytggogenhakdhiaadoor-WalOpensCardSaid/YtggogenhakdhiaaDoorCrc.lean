/- The plain side of the check sum: half a byte at a time by the table is eight bits at a time; what a burst does. -/
namespace Go.Proofs.YtggogenhakdhiaaDoor.Crc

/-- the polynomial -/
def P32 : BitVec 32 := 0x82F63B78#32
/-- a register goes one place to the right -/
def stp (r : BitVec 32) : BitVec 32 := bif r.getLsbD 0 then (r >>> 1) ^^^ P32 else r >>> 1
def stp4 (r : BitVec 32) : BitVec 32 := stp (stp (stp (stp r)))
def stp8 (r : BitVec 32) : BitVec 32 := stp4 (stp4 r)
/-- a byte -/
def byteStep (r : BitVec 32) (z : Int) : BitVec 32 := stp8 (r ^^^ BitVec.ofInt 32 z)
def raw (r : BitVec 32) (l : List UInt8) : BitVec 32 := l.foldl (fun r b => byteStep r (b.toNat : Int)) r
def upd (crc : BitVec 32) (l : List UInt8) : BitVec 32 := ~~~ (raw (~~~ crc) l)

def tab : List (BitVec 32) := [0x00000000#32, 0x105EC76F#32, 0x20BD8EDE#32, 0x30E349B1#32, 0x417B1DBC#32, 0x5125DAD3#32, 0x61C69362#32, 0x7198540D#32,
  0x82F63B78#32, 0x92A8FC17#32, 0xA24BB5A6#32, 0xB21572C9#32, 0xC38D26C4#32, 0xD3D3E1AB#32, 0xE330A81A#32, 0xF36E6F75#32]
def nib (r x : BitVec 32) : BitVec 32 := (r >>> 4) ^^^ tab.getD ((r ^^^ x) &&& 15#32).toNat 0#32

theorem stp_xor (a b : BitVec 32) : stp (a ^^^ b) = stp a ^^^ stp b := by
  unfold stp
  rw [BitVec.getLsbD_xor, BitVec.ushiftRight_xor_distrib]
  cases a.getLsbD 0 <;> cases b.getLsbD 0 <;> simp only [Bool.false_xor, Bool.true_xor, Bool.not_false, Bool.not_true, cond_true, cond_false]
  · rw [BitVec.xor_assoc]
  · rw [BitVec.xor_assoc, BitVec.xor_assoc, BitVec.xor_comm P32]
  · rw [BitVec.xor_assoc, BitVec.xor_comm P32, BitVec.xor_assoc, BitVec.xor_self, BitVec.xor_zero]

theorem stp4_xor (a b : BitVec 32) : stp4 (a ^^^ b) = stp4 a ^^^ stp4 b := by
  unfold stp4; simp only [stp_xor]
theorem stp8_xor (a b : BitVec 32) : stp8 (a ^^^ b) = stp8 a ^^^ stp8 b := by
  unfold stp8; simp only [stp4_xor]

theorem stp_even (a : BitVec 32) (h : a.getLsbD 0 = false) : stp a = a >>> 1 := by
  unfold stp; rw [h]; rfl

theorem stp4_high (a : BitVec 32) (h : ∀ i, i < 4 → a.getLsbD i = false) : stp4 a = a >>> 4 := by
  unfold stp4
  rw [stp_even a (h 0 (by omega))]
  rw [stp_even (a >>> 1) (by rw [BitVec.getLsbD_ushiftRight]; exact h 1 (by omega))]
  rw [← BitVec.shiftRight_add, stp_even (a >>> (1 + 1)) (by rw [BitVec.getLsbD_ushiftRight]; exact h 2 (by omega))]
  rw [← BitVec.shiftRight_add, stp_even (a >>> (1 + 1 + 1)) (by rw [BitVec.getLsbD_ushiftRight]; exact h 3 (by omega))]
  rw [← BitVec.shiftRight_add]

theorem low_tab : ∀ n : Fin 16, stp4 (BitVec.ofNat 32 n.val) = tab.getD n.val 0#32 := by decide

theorem split15 (x : BitVec 32) : x = (x &&& ~~~15#32) ^^^ (x &&& 15#32) := by
  apply BitVec.eq_of_getLsbD_eq
  intro i hi
  rw [BitVec.getLsbD_xor, BitVec.getLsbD_and, BitVec.getLsbD_and, BitVec.getLsbD_not]
  cases x.getLsbD i <;> cases (15#32).getLsbD i <;> simp [hi]

theorem and15_lt (x : BitVec 32) : (x &&& 15#32).toNat < 16 := by
  rw [BitVec.toNat_and]
  have : x.toNat &&& (15#32).toNat ≤ (15#32).toNat := Nat.and_le_right
  have h15 : (15#32).toNat = 15 := rfl
  omega

theorem stp4_eq (x : BitVec 32) : stp4 x = (x >>> 4) ^^^ tab.getD (x &&& 15#32).toNat 0#32 := by
  conv => lhs; rw [split15 x, stp4_xor]
  have hl : stp4 (x &&& 15#32) = tab.getD (x &&& 15#32).toNat 0#32 := by
    have := low_tab ⟨(x &&& 15#32).toNat, and15_lt x⟩
    simpa using this
  rw [hl, stp4_high (x &&& ~~~15#32)]
  · congr 1
    apply BitVec.eq_of_getLsbD_eq
    intro i hi
    rw [BitVec.getLsbD_ushiftRight, BitVec.getLsbD_ushiftRight, BitVec.getLsbD_and, BitVec.getLsbD_not]
    by_cases h : 4 + i < 32
    · have : (15#32).getLsbD (4 + i) = false := by
        rw [BitVec.getLsbD_ofNat]
        have : Nat.testBit 15 (4 + i) = false := Nat.testBit_lt_two_pow (Nat.lt_of_lt_of_le (by decide : 15 < 2 ^ 4) (Nat.pow_le_pow_right (by omega) (by omega)))
        simp [this]
      rw [this]; cases x.getLsbD (4 + i) <;> simp [h]
    · rw [BitVec.getLsbD_of_ge x (4 + i) (by omega)]; simp
  · intro i hi
    rw [BitVec.getLsbD_and, BitVec.getLsbD_not]
    have : ∀ j : Fin 4, (15#32).getLsbD j.val = true := by decide
    have := this ⟨i, hi⟩
    simp only at this
    simp [this]

/-- half a byte by the table -/
theorem nib_eq (r x : BitVec 32) : nib r x = stp4 (r ^^^ x) ^^^ (x >>> 4) := by
  unfold nib
  rw [stp4_eq, BitVec.ushiftRight_xor_distrib]
  rw [BitVec.xor_assoc, BitVec.xor_assoc, BitVec.xor_comm (x >>> 4), BitVec.xor_assoc, BitVec.xor_self, BitVec.xor_zero]

theorem nib_nib (r x : BitVec 32) (h : x >>> 8 = 0#32) : nib (nib r x) (x >>> 4) = stp8 (r ^^^ x) := by
  rw [nib_eq, nib_eq r x]
  rw [← BitVec.shiftRight_add, h, BitVec.xor_zero, BitVec.xor_assoc, BitVec.xor_self, BitVec.xor_zero]
  rfl


/-- k places -/
def stpN : Nat → BitVec 32 → BitVec 32
  | 0, r => r
  | k + 1, r => stp (stpN k r)
theorem stpN_xor (k : Nat) (a b : BitVec 32) : stpN k (a ^^^ b) = stpN k a ^^^ stpN k b := by
  induction k with
  | zero => rfl
  | succ k ih => simp only [stpN, ih, stp_xor]
/-- the register behind k of a byte's bits -/
def part (x : BitVec 32) (z : Int) (k : Nat) : BitVec 32 := stpN k (x ^^^ BitVec.ofNat 32 (z.toNat % 2 ^ k))
theorem part_zero (x : BitVec 32) (z : Int) : part x z 0 = x := by
  simp [part, stpN, Nat.mod_one]
theorem part_eight (x : BitVec 32) (z : Int) (h0 : 0 ≤ z) (h1 : z < 256) : part x z 8 = byteStep x z := by
  have h : z.toNat % 2 ^ 8 = z.toNat := Nat.mod_eq_of_lt (by omega)
  have h' : BitVec.ofNat 32 z.toNat = BitVec.ofInt 32 z := by
    obtain ⟨n, rfl⟩ := Int.eq_ofNat_of_zero_le h0
    simp
  unfold part byteStep
  rw [h, h']; rfl
theorem bit_up : ∀ (k : Fin 8) (b : Fin 2), stpN k.val (BitVec.ofNat 32 (b.val * 2 ^ k.val)) = BitVec.ofNat 32 b.val := by decide +kernel
theorem low_split : ∀ (z : Fin 256) (k : Fin 8), BitVec.ofNat 32 (z.val % 2 ^ (k.val + 1)) = BitVec.ofNat 32 (z.val % 2 ^ k.val) ^^^ BitVec.ofNat 32 (z.val / 2 ^ k.val % 2 * 2 ^ k.val) := by decide +kernel
theorem part_succ (x : BitVec 32) (z : Int) (k : Nat) (h0 : 0 ≤ z) (h1 : z < 256) (hk : k < 8) : part x z (k + 1) = stp (part x z k ^^^ BitVec.ofNat 32 (z.toNat / 2 ^ k % 2)) := by
  have h := low_split ⟨z.toNat, by omega⟩ ⟨k, hk⟩
  have hb := bit_up ⟨k, hk⟩ ⟨z.toNat / 2 ^ k % 2, by omega⟩
  simp only at h hb
  unfold part
  rw [h, ← BitVec.xor_assoc]
  show stp (stpN k _) = _
  rw [stpN_xor, hb]
theorem stp_bit (r : BitVec 32) (b : Nat) (hb : b < 2) : stp (r ^^^ BitVec.ofNat 32 b) = if (r.toNat % 2 + b) % 2 = 1 then (r >>> 1) ^^^ P32 else r >>> 1 := by
  have hs : (r ^^^ BitVec.ofNat 32 b) >>> 1 = r >>> 1 := by
    rw [BitVec.ushiftRight_xor_distrib]
    have : (BitVec.ofNat 32 b) >>> 1 = 0#32 := by
      have : ∀ b : Fin 2, (BitVec.ofNat 32 b.val) >>> 1 = 0#32 := by decide
      exact this ⟨b, hb⟩
    rw [this, BitVec.xor_zero]
  have hl : (r ^^^ BitVec.ofNat 32 b).getLsbD 0 = decide ((r.toNat % 2 + b) % 2 = 1) := by
    rw [BitVec.getLsbD_xor]
    have h1 : r.getLsbD 0 = decide (r.toNat % 2 = 1) := by
      rw [BitVec.getLsbD]; exact Nat.testBit_zero _
    have h2 : ∀ b : Fin 2, (BitVec.ofNat 32 b.val).getLsbD 0 = decide (b.val = 1) := by decide
    have h2 := h2 ⟨b, hb⟩
    simp only at h2
    rw [h1, h2]
    rcases Nat.mod_two_eq_zero_or_one r.toNat with h | h <;> rcases (show b = 0 ∨ b = 1 by omega) with rfl | rfl <;> simp [h]
  unfold stp
  rw [hs, hl]
  by_cases h : (r.toNat % 2 + b) % 2 = 1 <;> simp [h]
end Go.Proofs.YtggogenhakdhiaaDoor.Crc
