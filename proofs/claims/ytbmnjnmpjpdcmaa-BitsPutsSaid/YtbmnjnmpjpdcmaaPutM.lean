/- Plain mathematics: a field is put. Conditions: none. -/
import Derived.Test.YtbmnjnmpjpdcmaaFieldM
namespace Go.Eg

/-- The set with a field of that worth. -/
def putS (p : Nat → Bool) (a n v : Nat) (i : Nat) : Bool := if a ≤ i ∧ i < a + n then v.testBit (i - a) else p i
theorem put_other (p : Nat → Bool) (a n v j : Nat) (h : 64 * j + 64 ≤ a ∨ a + n ≤ 64 * j) : wd (putS p a n v) j = wd p j :=
  wd_congr fun b hb => by unfold putS; rw [if_neg (by omega)]
theorem andNot_bit (x y k : Nat) (hy : y < 2 ^ 64) (hk : k < 64) : (x &&& (18446744073709551615 - y)).testBit k = (x.testBit k && !y.testBit k) := by
  rw [Nat.testBit_and, not_bit hy hk]
/-- The first word of a field. -/
theorem put_first (p : Nat → Bool) (j b n v : Nat) (hb : b < 64) (hn : n ≤ 64) (hv : v < 2 ^ n) :
    (wd p j &&& (18446744073709551615 - (2 ^ n - 1) * 2 ^ b % 2 ^ 64)) ||| v * 2 ^ b % 2 ^ 64 = wd (putS p (64 * j + b) n v) j := by
  have hm : (2 ^ n - 1) * 2 ^ b % 2 ^ 64 < 2 ^ 64 := Nat.mod_lt _ (by decide)
  refine word_ext (Nat.or_lt_two_pow (Nat.and_lt_two_pow _ (by omega)) (Nat.mod_lt _ (by decide))) (wd_lt _ _) fun k hk => ?_
  rw [Nat.testBit_or, andNot_bit _ _ _ hm hk, wd_bit, wd_bit, Nat.testBit_mod_two_pow, Nat.testBit_mul_two_pow, Nat.testBit_two_pow_sub_one, Nat.testBit_mod_two_pow, Nat.testBit_mul_two_pow, putS]
  by_cases h1 : b ≤ k
  · by_cases h2 : k - b < n
    · rw [if_pos (by omega), show 64 * j + k - (64 * j + b) = k - b by omega]
      simp [hk, h1, h2]
    · rw [if_neg (by omega)]
      have hvz : v.testBit (k - b) = false := Nat.testBit_lt_two_pow (Nat.lt_of_lt_of_le hv (Nat.pow_le_pow_right (by omega) (by omega)))
      simp [hk, h1, h2, hvz]
  · rw [if_neg (by omega)]
    simp [hk, h1]
/-- The second word of a field. -/
theorem put_second (p : Nat → Bool) (j b n v : Nat) (hb : b < 64) (hn : n ≤ 64) (h : 64 < b + n) (hv : v < 2 ^ n) :
    (wd p (j + 1) &&& (18446744073709551615 - (2 ^ n - 1) / 2 ^ (64 - b))) ||| v / 2 ^ (64 - b) = wd (putS p (64 * j + b) n v) (j + 1) := by
  have hp : 2 ^ n ≤ 2 ^ 64 := Nat.pow_le_pow_right (by omega) hn
  have hq : 0 < 2 ^ n := Nat.two_pow_pos _
  have hm : (2 ^ n - 1) / 2 ^ (64 - b) < 2 ^ 64 := Nat.lt_of_le_of_lt (Nat.div_le_self _ _) (by omega)
  have hv2 : v / 2 ^ (64 - b) < 2 ^ 64 := Nat.lt_of_le_of_lt (Nat.div_le_self _ _) (by omega)
  refine word_ext (Nat.or_lt_two_pow (Nat.and_lt_two_pow _ (Nat.lt_of_le_of_lt (Nat.sub_le _ _) (by decide))) hv2) (wd_lt _ _) fun k hk => ?_
  rw [Nat.testBit_or, andNot_bit _ _ _ hm hk, wd_bit, wd_bit, Nat.testBit_div_two_pow, Nat.testBit_two_pow_sub_one, Nat.testBit_div_two_pow, putS]
  by_cases h2 : k + (64 - b) < n
  · rw [if_pos (by omega), show 64 * (j + 1) + k - (64 * j + b) = k + (64 - b) by omega]
    simp [hk, h2]
  · rw [if_neg (by omega)]
    have hvz : v.testBit (k + (64 - b)) = false := Nat.testBit_lt_two_pow (Nat.lt_of_lt_of_le hv (Nat.pow_le_pow_right (by omega) (by omega)))
    simp [hk, h2, hvz]
end Go.Eg
