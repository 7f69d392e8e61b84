/- CRC-32, bit by bit and half a byte at a time, over numbers. No conditions beside those in each theorem. -/
import Derived.Laws.Entries
namespace Go.Proofs.Ytaonaifnaecpiaa.Own
/-- One bit's step. -/
def cstep (n : Nat) : Nat := if n % 2 = 1 then (n / 2) ^^^ 3988292384 else n / 2
def cstep4 (n : Nat) : Nat := cstep (cstep (cstep (cstep n)))
theorem cstep_xor (a b : Nat) : cstep (a ^^^ b) = cstep a ^^^ cstep b := by
  unfold cstep
  rw [Nat.xor_div_two]
  have h := Nat.xor_mod_two_eq_one (a := a) (b := b)
  by_cases ha : a % 2 = 1 <;> by_cases hb : b % 2 = 1
  · rw [if_neg (by rw [h]; simp [ha, hb]), if_pos ha, if_pos hb]
    rw [Nat.xor_assoc, Nat.xor_comm 3988292384 (b / 2 ^^^ 3988292384), Nat.xor_assoc (b / 2), Nat.xor_self, Nat.xor_zero]
  · rw [if_pos (by rw [h]; simp [ha, hb]), if_pos ha, if_neg hb]
    rw [Nat.xor_assoc, Nat.xor_comm (b / 2), ← Nat.xor_assoc]
  · rw [if_pos (by rw [h]; simp [ha, hb]), if_neg ha, if_pos hb]
    rw [Nat.xor_assoc]
  · rw [if_neg (by rw [h]; simp [ha, hb]), if_neg ha, if_neg hb]
theorem cstep4_xor (a b : Nat) : cstep4 (a ^^^ b) = cstep4 a ^^^ cstep4 b := by
  unfold cstep4
  simp only [cstep_xor]
theorem cstep_even (h : Nat) : cstep (2 * h) = h := by unfold cstep; rw [if_neg (by omega)]; omega
theorem cstep4_high (h : Nat) : cstep4 (16 * h) = h := by
  unfold cstep4
  rw [show 16 * h = 2 * (2 * (2 * (2 * h))) from by omega, cstep_even, cstep_even, cstep_even, cstep_even]
theorem split16 (s : Nat) : s = (16 * (s / 16)) ^^^ (s % 16) := by
  apply Nat.eq_of_testBit_eq
  intro i
  rw [Nat.testBit_xor]
  have h1 := Nat.testBit_two_pow_mul_add (i := 4) (s / 16) (b := s % 16) (by have := Nat.mod_lt s (by omega : 16 > 0); simpa using this) i
  have h2 := Nat.testBit_two_pow_mul_add (i := 4) (s / 16) (b := 0) (by simp) i
  rw [show 2 ^ 4 * (s / 16) + s % 16 = s from by have := Nat.div_add_mod s 16; omega] at h1
  rw [show 2 ^ 4 * (s / 16) + 0 = 16 * (s / 16) from by omega] at h2
  rw [h1, h2]
  by_cases hi : i < 4
  · simp [hi]
  · simp only [hi, if_false]
    have h3 : (s % 16).testBit i = false := by
      apply Nat.testBit_lt_two_pow
      have := Nat.mod_lt s (by omega : 16 > 0)
      have h4 : 2 ^ 4 ≤ 2 ^ i := Nat.pow_le_pow_right (by omega) (by omega)
      omega
    rw [h3]
    simp
theorem cstep4_table (s : Nat) : cstep4 s = (s / 16) ^^^ cstep4 (s % 16) := by
  conv => lhs; rw [split16 s]
  rw [cstep4_xor, cstep4_high]
theorem cstep_lt (n : Nat) (h : n < 4294967296) : cstep n < 4294967296 := by
  unfold cstep
  split
  · exact Nat.xor_lt_two_pow (n := 32) (by omega) (by omega)
  · omega
theorem cstep4_lt (n : Nat) (h : n < 4294967296) : cstep4 n < 4294967296 := cstep_lt _ (cstep_lt _ (cstep_lt _ (cstep_lt _ h)))
/-- A byte's step, of numbers below 256. -/
def cbyte (s c : Nat) : Nat := cstep4 (cstep4 (s ^^^ c))
def crcF (s : Nat) (cs : List Nat) : Nat := cs.foldl cbyte s
def crc (cs : List Nat) : Nat := crcF 4294967295 cs ^^^ 4294967295
theorem cbyte_lt (s c : Nat) (h : s < 4294967296) (hc : c < 256) : cbyte s c < 4294967296 := cstep4_lt _ (cstep4_lt _ (Nat.xor_lt_two_pow (n := 32) h (by omega)))
theorem crcF_lt (cs : List Nat) (hc : ∀ c ∈ cs, c < 256) : ∀ s, s < 4294967296 → crcF s cs < 4294967296 := by
  induction cs with
  | nil => exact fun s h => h
  | cons c cs ih => exact fun s h => ih (fun x hx => hc x (List.mem_cons_of_mem _ hx)) _ (cbyte_lt s c h (hc c List.mem_cons_self))
theorem crc_lt (cs : List Nat) (hc : ∀ c ∈ cs, c < 256) : crc cs < 4294967296 := Nat.xor_lt_two_pow (n := 32) (crcF_lt cs hc _ (by omega)) (by omega)
end Go.Proofs.Ytaonaifnaecpiaa.Own
