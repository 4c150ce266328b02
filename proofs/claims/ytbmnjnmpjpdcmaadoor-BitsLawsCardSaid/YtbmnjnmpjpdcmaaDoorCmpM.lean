/- Plain mathematics: sets compared. Conditions: none. -/
import Derived.Test.YtbmnjnmpjpdcmaaDoorFieldM
namespace Go.Eg

/-- The highest number below n that stands in one only decides. -/
def cmpN (p q : Nat → Bool) : Nat → Int
  | 0 => 0
  | n + 1 => if p n = q n then cmpN p q n else if p n = true then 1 else -1
theorem ofB_add (q : Nat → Bool) (n : Nat) : ofB q (n + 1) = ofB q n + (if q n then 2 ^ n else 0) := by
  have h := ofB_lt q n
  show ofB q n ||| (if q n then 2 ^ n else 0) = _
  cases q n
  · simp
  · rw [if_pos rfl, Nat.or_comm]
    have := Nat.two_pow_add_eq_or_of_lt h 1
    rw [Nat.mul_one] at this
    rw [← this, Nat.add_comm]
theorem cmp_ofB (p q : Nat → Bool) : ∀ n, cmpN p q n = if ofB p n < ofB q n then -1 else if ofB q n < ofB p n then 1 else 0
  | 0 => rfl
  | n + 1 => by
    have hp := ofB_lt p n
    have hq := ofB_lt q n
    unfold cmpN
    rw [ofB_add, ofB_add, cmp_ofB p q n]
    cases p n <;> cases q n
    · simp
    · simp; omega
    · simp; omega
    · simp
theorem cmp_add (p q : Nat → Bool) (m : Nat) : ∀ n, cmpN p q (m + n) = if cmpN (fun k => p (m + k)) (fun k => q (m + k)) n = 0 then cmpN p q m else cmpN (fun k => p (m + k)) (fun k => q (m + k)) n
  | 0 => by simp [cmpN]
  | n + 1 => by
    have e1 : cmpN p q (m + (n + 1)) = if p (m + n) = q (m + n) then cmpN p q (m + n) else if p (m + n) = true then 1 else -1 := rfl
    have e2 : cmpN (fun k => p (m + k)) (fun k => q (m + k)) (n + 1) = if p (m + n) = q (m + n) then cmpN (fun k => p (m + k)) (fun k => q (m + k)) n else if p (m + n) = true then 1 else -1 := rfl
    rw [e1, e2, cmp_add p q m n]
    by_cases h : p (m + n) = q (m + n)
    · rw [if_pos h, if_pos h]
    · rw [if_neg h, if_neg h]
      by_cases h2 : p (m + n) = true
      · rw [if_pos h2, if_neg (by decide)]
      · rw [if_neg h2, if_neg (by decide)]
theorem cmp_word (p q : Nat → Bool) (j : Nat) : cmpN p q (64 * (j + 1)) = if wd p j < wd q j then -1 else if wd q j < wd p j then 1 else cmpN p q (64 * j) := by
  rw [Nat.mul_add, Nat.mul_one, cmp_add, cmp_ofB]
  unfold wd
  split
  · rw [if_neg (by decide)]
  · split
    · rw [if_neg (by decide)]
    · rw [if_pos rfl]
theorem cmp_self (p : Nat → Bool) : ∀ n, cmpN p p n = 0
  | 0 => rfl
  | n + 1 => by unfold cmpN; rw [if_pos rfl]; exact cmp_self p n
end Go.Eg
