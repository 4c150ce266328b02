/- Plain mathematics: the lowest number of a word's rest. Conditions: none. -/
import Derived.Test.YtbmnjnmpjpdcmaaDoorSetM
import Derived.Lib.TrailingZeros
namespace Go.Eg

/-- The numbers from i on. -/
def fromS (p : Nat → Bool) (i n : Nat) : Bool := p n && decide (i ≤ n)
theorem ctz_bits {x : Nat} (h0 : x ≠ 0) (h : x < 2 ^ 64) : Lib.ctz 64 x < 64 ∧ x.testBit (Lib.ctz 64 x) = true ∧ (∀ b, b < Lib.ctz 64 x → x.testBit b = false) ∧ (x &&& (x - 1)) < x ∧ ∀ b, (x &&& (x - 1)).testBit b = (x.testBit b && decide (b ≠ Lib.ctz 64 x)) := by
  obtain ⟨m, hm, hk⟩ := Lib.ctzFrom_spec 64 x (by omega) h
  have e : Lib.ctz 64 x = Lib.ctzFrom 64 x := by simp [Lib.ctz, h0]
  rw [e]
  generalize Lib.ctzFrom 64 x = k at *
  have hp : 0 < 2 ^ k := Nat.two_pow_pos _
  have bit : ∀ b, x.testBit b = (decide (k ≤ b) && (2 * m + 1).testBit (b - k)) := fun b => by rw [hm, Nat.mul_comm, Nat.testBit_mul_two_pow]
  have e1 : x - 1 = 2 ^ k * (2 * m) + (2 ^ k - 1) := by
    rw [hm, Nat.mul_add, Nat.mul_one]; omega
  have bit1 : ∀ b, (x - 1).testBit b = if b < k then true else (2 * m).testBit (b - k) := fun b => by
    rw [e1, Nat.testBit_two_pow_mul_add _ (by omega)]
    split
    · rename_i hb; rw [Nat.testBit_two_pow_sub_one, decide_eq_true hb]
    · rfl
  have all : ∀ b, (x &&& (x - 1)).testBit b = (x.testBit b && decide (b ≠ k)) := fun b => by
    rw [Nat.testBit_and, bit, bit1]
    by_cases h1 : b < k
    · rw [if_pos h1, decide_eq_false (by omega)]; simp
    · rw [if_neg h1, decide_eq_true (by omega)]
      by_cases h2 : b = k
      · subst h2
        simp [Nat.testBit_zero]
      · obtain ⟨d, hd⟩ : ∃ d, b - k = d + 1 := ⟨b - k - 1, by omega⟩
        rw [hd, Nat.testBit_succ, Nat.testBit_succ, show (2 * m + 1) / 2 = m by omega, show 2 * m / 2 = m by omega]
        simp [h2]
  refine ⟨hk, ?_, ?_, ?_, all⟩
  · rw [bit]; simp [Nat.testBit_zero]
  · intro b hb
    rw [bit, decide_eq_false (by omega)]; rfl
  · have : x &&& (x - 1) ≤ x - 1 := Nat.and_le_right
    omega
theorem rest_start (p : Nat → Bool) (j : Nat) : wd p j = wd (fromS p (64 * j)) j := wd_congr fun b hb => by unfold fromS; rw [decide_eq_true (by omega), Bool.and_true]
theorem rest_zero {p : Nat → Bool} {i j : Nat} (h : wd (fromS p i) j = 0) {n : Nat} (h1 : i ≤ n) (h2 : 64 * j ≤ n) (h3 : n < 64 * (j + 1)) : p n = false := by
  have := wd_bit (fromS p i) j (n - 64 * j)
  rw [h, Nat.zero_testBit, decide_eq_true (by omega), Bool.true_and, show 64 * j + (n - 64 * j) = n by omega, fromS, decide_eq_true h1, Bool.and_true] at this
  exact this.symm
theorem rest_low {p : Nat → Bool} {i j : Nat} (h : wd (fromS p i) j ≠ 0) : ∃ n, n = 64 * j + Lib.ctz 64 (wd (fromS p i) j) ∧ i ≤ n ∧ n < 64 * (j + 1) ∧ p n = true ∧ (∀ m, i ≤ m → 64 * j ≤ m → m < n → p m = false) ∧
    (wd (fromS p i) j &&& (wd (fromS p i) j - 1)) < wd (fromS p i) j ∧ (wd (fromS p i) j &&& (wd (fromS p i) j - 1)) = wd (fromS p (n + 1)) j := by
  obtain ⟨h1, h2, h3, h4, h5⟩ := ctz_bits h (wd_lt _ _)
  have hlt := wd_lt (fromS p i) j
  have bits := wd_bit (fromS p i) j
  generalize hk : Lib.ctz 64 (wd (fromS p i) j) = k at *
  have hb := bits k
  rw [h2, decide_eq_true h1, Bool.true_and, fromS] at hb
  have hb' := hb.symm
  rw [Bool.and_eq_true, decide_eq_true_iff] at hb'
  refine ⟨64 * j + k, rfl, hb'.2, by omega, hb'.1, ?_, h4, ?_⟩
  · intro m m1 m2 m3
    have := bits (m - 64 * j)
    rw [h3 _ (by omega), decide_eq_true (by omega), Bool.true_and, show 64 * j + (m - 64 * j) = m by omega, fromS, decide_eq_true m1, Bool.and_true] at this
    exact this.symm
  · refine word_ext (Nat.lt_trans h4 hlt) (wd_lt _ _) fun b hb64 => ?_
    rw [h5, bits, wd_bit, decide_eq_true hb64, Bool.true_and, Bool.true_and, fromS, fromS]
    by_cases hbk : b = k
    · subst hbk
      rw [decide_eq_false (show ¬ (64 * j + b + 1 ≤ 64 * j + b) by omega)]; simp
    · by_cases hbl : b < k
      · have := h3 b hbl
        rw [bits, decide_eq_true hb64, Bool.true_and, fromS] at this
        rw [this, decide_eq_false (show ¬ (64 * j + k + 1 ≤ 64 * j + b) by omega)]; simp
      · rw [decide_eq_true (show i ≤ 64 * j + b by omega), decide_eq_true (show 64 * j + k + 1 ≤ 64 * j + b by omega)]; simp [hbk]
end Go.Eg
