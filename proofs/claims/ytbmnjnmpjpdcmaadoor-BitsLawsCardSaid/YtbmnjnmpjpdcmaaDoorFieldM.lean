/- Plain mathematics: fields of sets. Conditions: none. -/
import Derived.Test.YtbmnjnmpjpdcmaaDoorSetM
namespace Go.Eg

/-- The worth of a field. -/
def fieldV (p : Nat → Bool) (a n : Nat) : Nat := ofB (fun k => p (a + k)) n
theorem mask_eq {n : Nat} (h1 : 1 ≤ n) (h : n ≤ 64) : 18446744073709551615 / 2 ^ (64 - n) = 2 ^ n - 1 := by
  have h2 : 2 ^ (64 - n) * 2 ^ n = 18446744073709551616 := by rw [← Nat.pow_add, show 64 - n + n = 64 by omega]
  have hp : 0 < 2 ^ (64 - n) := Nat.two_pow_pos _
  have hq : 0 < 2 ^ n := Nat.two_pow_pos _
  have hle : 2 ^ (64 - n) ≤ 2 ^ (64 - n) * 2 ^ n := Nat.le_mul_of_pos_right _ hq
  have e : (18446744073709551615 : Nat) = 2 ^ (64 - n) * (2 ^ n - 1) + (2 ^ (64 - n) - 1) := by
    rw [Nat.mul_sub, Nat.mul_one]
    rw [h2] at hle ⊢
    generalize 2 ^ (64 - n) = a at *
    omega
  rw [e]
  rw [Nat.mul_add_div hp, Nat.div_eq_of_lt (by omega), Nat.add_zero]
theorem field_one (p : Nat → Bool) (j b n : Nat) (h : b + n ≤ 64) : (wd p j / 2 ^ b) &&& (2 ^ n - 1) = fieldV p (64 * j + b) n := by
  apply Nat.eq_of_testBit_eq
  intro k
  rw [Nat.testBit_and, Nat.testBit_two_pow_sub_one, Nat.testBit_div_two_pow, wd_bit, fieldV, ofB_bit]
  by_cases hk : k < n
  · simp [hk, show k + b < 64 by omega, show 64 * j + (k + b) = 64 * j + b + k by omega]
  · simp [hk]
theorem field_two (p : Nat → Bool) (j b n : Nat) (hb : b < 64) (h : 64 < b + n) (hn : n ≤ 64) : (wd p j / 2 ^ b ||| wd p (j + 1) * 2 ^ (64 - b) % 2 ^ 64) &&& (2 ^ n - 1) = fieldV p (64 * j + b) n := by
  apply Nat.eq_of_testBit_eq
  intro k
  rw [Nat.testBit_and, Nat.testBit_or, Nat.testBit_two_pow_sub_one, Nat.testBit_div_two_pow, wd_bit, fieldV, ofB_bit, Nat.testBit_mod_two_pow, Nat.testBit_mul_two_pow, wd_bit]
  by_cases hk : k < n
  · by_cases hkb : k + b < 64
    · simp [hk, hkb, show ¬ (64 - b ≤ k) by omega, show 64 * j + (k + b) = 64 * j + b + k by omega]
    · simp [hk, hkb, show 64 - b ≤ k by omega, show k < 64 by omega, show k - (64 - b) < 64 by omega, show 64 * (j + 1) + (k - (64 - b)) = 64 * j + b + k by omega]
  · simp [hk]
theorem ofB_cons (q : Nat → Bool) (n : Nat) : ofB q (n + 1) = 2 * ofB (fun k => q (k + 1)) n + (if q 0 then 1 else 0) := by
  apply Nat.eq_of_testBit_eq
  intro b
  rw [ofB_bit]
  cases b with
  | zero =>
    rw [Nat.testBit_zero]
    cases h : q 0 <;> simp [h] <;> omega
  | succ b =>
    rw [Nat.testBit_succ, show (2 * ofB (fun k => q (k + 1)) n + (if q 0 then 1 else 0)) / 2 = ofB (fun k => q (k + 1)) n by split <;> omega, ofB_bit]
    simp
end Go.Eg
