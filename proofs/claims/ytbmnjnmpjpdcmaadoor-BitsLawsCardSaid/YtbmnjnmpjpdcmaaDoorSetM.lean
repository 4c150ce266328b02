/- Plain mathematics of sets of numbers from 0 to 511, as eight words. Conditions: none. -/
import Derived.Lib.Hide
namespace Go.Eg

/-- The number whose bits below n are q. -/
def ofB (q : Nat → Bool) : Nat → Nat
  | 0 => 0
  | n + 1 => ofB q n ||| (if q n then 2 ^ n else 0)
theorem ofB_lt (q : Nat → Bool) : ∀ n, ofB q n < 2 ^ n
  | 0 => by simp [ofB]
  | n + 1 => by
    unfold ofB
    refine Nat.or_lt_two_pow (Nat.lt_trans (ofB_lt q n) (Nat.pow_lt_pow_right (by omega) (by omega))) ?_
    split
    · exact Nat.pow_lt_pow_right (by omega) (by omega)
    · exact Nat.two_pow_pos _
theorem ofB_bit (q : Nat → Bool) : ∀ n b, (ofB q n).testBit b = (decide (b < n) && q b)
  | 0, b => by simp [ofB]
  | n + 1, b => by
    unfold ofB
    rw [Nat.testBit_or, ofB_bit q n b]
    by_cases h : b = n
    · subst h
      cases hq : q b <;> simp [hq, Nat.testBit_two_pow_self]
    · have h1 : (if q n then 2 ^ n else 0).testBit b = false := by
        split
        · exact Nat.testBit_two_pow_of_ne (Ne.symm h)
        · simp
      rw [h1, Bool.or_false]
      congr 1
      by_cases hb : b < n
      · simp [hb]; omega
      · simp [hb]; omega
/-- The j-th word of a set. -/
def wd (p : Nat → Bool) (j : Nat) : Nat := ofB (fun b => p (64 * j + b)) 64
theorem wd_lt (p : Nat → Bool) (j : Nat) : wd p j < 2 ^ 64 := ofB_lt _ _
theorem wd_lt' (p : Nat → Bool) (j : Nat) : wd p j < 18446744073709551616 := ofB_lt _ _
theorem wd_bit (p : Nat → Bool) (j b : Nat) : (wd p j).testBit b = (decide (b < 64) && p (64 * j + b)) := ofB_bit _ _ _
/-- A word is known by its 64 bits. -/
theorem word_ext {x y : Nat} (hx : x < 2 ^ 64) (hy : y < 2 ^ 64) (h : ∀ b, b < 64 → x.testBit b = y.testBit b) : x = y := by
  apply Nat.eq_of_testBit_eq
  intro b
  by_cases hb : b < 64
  · exact h b hb
  · rw [Nat.testBit_lt_two_pow (Nat.lt_of_lt_of_le hx (Nat.pow_le_pow_right (by omega) (by omega))), Nat.testBit_lt_two_pow (Nat.lt_of_lt_of_le hy (Nat.pow_le_pow_right (by omega) (by omega)))]
theorem wd_congr {p q : Nat → Bool} {j : Nat} (h : ∀ b, b < 64 → p (64 * j + b) = q (64 * j + b)) : wd p j = wd q j :=
  word_ext (wd_lt _ _) (wd_lt _ _) fun b hb => by rw [wd_bit, wd_bit, h b hb]
/-- Any eight words are those of a set. -/
def bitsOf (f : Nat → Nat) (i : Nat) : Bool := (f (i / 64)).testBit (i % 64)
theorem wd_bitsOf {f : Nat → Nat} {j : Nat} (h : f j < 2 ^ 64) : wd (bitsOf f) j = f j :=
  word_ext (wd_lt _ _) h fun b hb => by
    rw [wd_bit, bitsOf, show (64 * j + b) / 64 = j by omega, show (64 * j + b) % 64 = b by omega]
    simp [hb]
theorem wd_or (p q : Nat → Bool) (j : Nat) : wd p j ||| wd q j = wd (fun i => p i || q i) j :=
  word_ext (Nat.or_lt_two_pow (wd_lt _ _) (wd_lt _ _)) (wd_lt _ _) fun b hb => by
    rw [Nat.testBit_or, wd_bit, wd_bit, wd_bit]; simp [hb]
theorem wd_and (p q : Nat → Bool) (j : Nat) : wd p j &&& wd q j = wd (fun i => p i && q i) j :=
  word_ext (Nat.and_lt_two_pow _ (wd_lt _ _)) (wd_lt _ _) fun b hb => by
    rw [Nat.testBit_and, wd_bit, wd_bit, wd_bit]; simp [hb]
theorem not_bit {x : Nat} (hx : x < 2 ^ 64) {b : Nat} (hb : b < 64) : (18446744073709551615 - x).testBit b = !x.testBit b := by
  have := Nat.testBit_two_pow_sub_succ (n := 64) (x := x) hx b
  rw [show (18446744073709551615 - x : Nat) = 2 ^ 64 - (x + 1) by omega, this]
  simp [hb]
theorem wd_andNot (p q : Nat → Bool) (j : Nat) : wd p j &&& (18446744073709551615 - wd q j) = wd (fun i => p i && !q i) j :=
  word_ext (Nat.and_lt_two_pow _ (by omega)) (wd_lt _ _) fun b hb => by
    rw [Nat.testBit_and, not_bit (wd_lt _ _) hb, wd_bit, wd_bit, wd_bit]; simp [hb]
/-- One number of a set. -/
theorem wd_test (p : Nat → Bool) (j b : Nat) (hb : b < 64) : wd p j / 2 ^ b % 2 = if p (64 * j + b) then 1 else 0 := by
  have h := wd_bit p j b
  rw [Nat.testBit_eq_decide_div_mod_eq] at h
  simp only [hb, decide_true, Bool.true_and] at h
  have : wd p j / 2 ^ b % 2 < 2 := Nat.mod_lt _ (by omega)
  cases hp : p (64 * j + b) <;> rw [hp] at h <;> simp at h <;> simp <;> omega
/-- Sets are the same when their words are. -/
theorem wd_inj {p q : Nat → Bool} (h : ∀ j, j < 8 → wd p j = wd q j) {i : Nat} (hi : i < 512) : p i = q i := by
  have := congrArg (fun x => x.testBit (i % 64)) (h (i / 64) (by omega))
  simp only [wd_bit] at this
  rw [show 64 * (i / 64) + i % 64 = i by omega] at this
  simpa [Nat.mod_lt] using this
end Go.Eg
