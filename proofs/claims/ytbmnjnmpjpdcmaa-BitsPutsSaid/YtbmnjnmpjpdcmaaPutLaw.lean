/- Plain mathematics: the laws of a field that is put. Conditions: none. -/
import Derived.Test.YtbmnjnmpjpdcmaaPutM
namespace Go.Eg

theorem put_field (p : Nat → Bool) (a : Nat) {n v : Nat} (hv : v < 2 ^ n) : fieldV (putS p a n v) a n = v := by
  apply Nat.eq_of_testBit_eq
  intro k
  rw [fieldV, ofB_bit]
  by_cases hk : k < n
  · unfold putS
    rw [if_pos (by omega), show a + k - a = k by omega]
    simp [hk]
  · have : v.testBit k = false := Nat.testBit_lt_two_pow (Nat.lt_of_lt_of_le hv (Nat.pow_le_pow_right (by omega) (by omega)))
    simp [hk, this]
theorem field_lt (p : Nat → Bool) (a n : Nat) : fieldV p a n < 2 ^ n := ofB_lt _ _
theorem put_back (p : Nat → Bool) (a n v : Nat) : putS (putS p a n v) a n (fieldV p a n) = p := by
  funext i
  unfold putS
  by_cases h : a ≤ i ∧ i < a + n
  · rw [if_pos h, fieldV, ofB_bit, show a + (i - a) = i by omega]
    rw [decide_eq_true (by omega)]; rfl
  · rw [if_neg h, if_neg h]
theorem put_comm (p : Nat → Bool) {a n b m : Nat} (v u : Nat) (h : a + n ≤ b ∨ b + m ≤ a) : putS (putS p a n v) b m u = putS (putS p b m u) a n v := by
  funext i
  unfold putS
  by_cases h1 : a ≤ i ∧ i < a + n
  · rw [if_neg (by omega), if_pos h1, if_pos h1]
  · by_cases h2 : b ≤ i ∧ i < b + m
    · rw [if_pos h2, if_neg h1, if_pos h2]
    · rw [if_neg h2, if_neg h1, if_neg h1, if_neg h2]
theorem field_bit (p : Nat → Bool) (a : Nat) : fieldV p a 1 = if p a then 1 else 0 := by
  unfold fieldV
  simp [ofB]
end Go.Eg
