/- Numbers looked for and counted. Conditions: none. -/
import Derived.Test.YtbmnjnmpjpdcmaaDoorBitsI
import Derived.Test.YtbmnjnmpjpdcmaaDoorBitsM
namespace Go.Proofs.YtbmnjnmpjpdcmaaDoor
open Go.RowKit Go.Eg

def nextO (p : Nat → Bool) (x : Int) : Option Int := (numsB p 512).find? fun y => decide (x ≤ y)
def nextN (p : Nat → Bool) (x : Int) : Int := (nextO p x).getD 0
def nextB (p : Nat → Bool) (x : Int) : Bool := (nextO p x).isSome
theorem find_nums_none {p : Nat → Bool} {x : Int} : ∀ {n : Nat}, (∀ m : Nat, m < n → x ≤ m → p m = false) → (numsB p n).find? (fun y => decide (x ≤ y)) = none
  | 0, _ => rfl
  | n + 1, h => by
    have ih := find_nums_none (p := p) (x := x) (n := n) (fun m hm => h m (by omega))
    cases hp : p n
    · rw [numsB_neg hp]; exact ih
    · rw [numsB_pos hp, List.find?_append, ih]
      have : ¬ (x ≤ (n : Int)) := fun hx => by rw [h n (by omega) hx] at hp; cases hp
      simp [this]
theorem find_nums_some {p : Nat → Bool} {x : Int} {k : Nat} (hp : p k = true) (hx : x ≤ k) (h : ∀ m : Nat, m < k → x ≤ m → p m = false) : ∀ n, k < n → (numsB p n).find? (fun y => decide (x ≤ y)) = some (k : Int)
  | n + 1, hn => by
    by_cases e : k = n
    · subst e
      rw [numsB_pos hp, List.find?_append, find_nums_none h]
      simp [hx]
    · have ih := find_nums_some hp hx h n (by omega)
      cases hpn : p n
      · rw [numsB_neg hpn]; exact ih
      · rw [numsB_pos hpn, List.find?_append, ih]; rfl
theorem find_at {f : Int → Bool} {L : List Int} {i : Nat} {y : Int} (h : (L.take i).find? f = none) (hy : L[i]? = some y) (hf : f y = true) : L.find? f = some y := by
  have e : L.drop i = y :: L.drop (i + 1) := by
    obtain ⟨hl, he⟩ := List.getElem?_eq_some_iff.1 hy
    rw [List.drop_eq_getElem_cons hl, he]
  rw [← List.take_append_drop i L, List.find?_append, h, e]
  simp [hf]
theorem find_step {f : Int → Bool} {L : List Int} {i : Nat} {y : Int} (h : (L.take i).find? f = none) (hy : L[i]? = some y) (hf : f y = false) : (L.take (i + 1)).find? f = none := by
  rw [List.take_add_one, hy, List.find?_append, h]
  simp [hf]
/-- x, brought into 0 .. 512. -/
def clampN (x : Int) : Nat := if x ≤ 0 then 0 else if 512 ≤ x then 512 else x.toNat
theorem clamp_le (x : Int) : clampN x ≤ 512 := by unfold clampN; split <;> (try split) <;> omega
theorem cnt_below (p : Nat → Bool) {n : Nat} (h : n ≤ 512) : cnt (andS p (loS n)) 512 = cnt p n := by
  have e : 512 = n + (512 - n) := by omega
  rw [e, cnt_add]
  have h1 : cnt (andS p (loS n)) n = cnt p n := cnt_congr fun k hk => by unfold andS loS; rw [decide_eq_true hk, Bool.and_true]
  have h2 : cnt (fun k => andS p (loS n) (n + k)) (512 - n) = cnt (fun _ => false) (512 - n) := cnt_congr fun k hk => by unfold andS loS; rw [decide_eq_false (by omega), Bool.and_false]
  have h3 : ∀ m, cnt (fun _ => false) m = 0 := fun m => by
    induction m with
    | zero => rfl
    | succ m ih => unfold cnt; rw [ih]; rfl
  rw [h1, h2, h3, Nat.add_zero]
theorem count_nums (p : Nat → Bool) (x : Int) : ∀ n, n ≤ 512 → (numsB p n).countP (fun y => decide (y < x)) = cnt p (min n (clampN x))
  | 0, _ => by rw [Nat.zero_min]; rfl
  | n + 1, h => by
    have ih := count_nums p x n (by omega)
    have hc : ((n : Int) < x) ↔ n < clampN x := by unfold clampN; split <;> (try split) <;> omega
    cases hp : p n
    · rw [numsB_neg hp, ih]
      by_cases hl : n < clampN x
      · rw [Nat.min_eq_left (by omega), Nat.min_eq_left (by omega)]
        show _ = cnt p n + _
        rw [hp]; rfl
      · rw [Nat.min_eq_right (by omega), Nat.min_eq_right (by omega)]
    · rw [numsB_pos hp, List.countP_append, ih]
      by_cases hl : n < clampN x
      · rw [Nat.min_eq_left (by omega), Nat.min_eq_left (by omega)]
        show _ = cnt p n + _
        rw [hp]; simp [hc.2 hl]
      · rw [Nat.min_eq_right (by omega), Nat.min_eq_right (by omega)]
        have : ¬ ((n : Int) < x) := fun e => hl (hc.1 e)
        simp [this]
theorem rank_at (p : Nat → Bool) : ∀ (n r : Nat) (y : Int), (numsB p n)[r]? = some y → ∃ k : Nat, y = k ∧ k < n ∧ p k = true ∧ cnt p k = r
  | 0, r, y, h => by simp [numsB] at h
  | n + 1, r, y, h => by
    cases hp : p n
    · rw [numsB_neg hp] at h
      obtain ⟨k, h1, h2, h3⟩ := rank_at p n r y h
      exact ⟨k, h1, by omega, h3⟩
    · rw [numsB_pos hp, List.getElem?_append] at h
      split at h
      · obtain ⟨k, h1, h2, h3⟩ := rank_at p n r y h
        exact ⟨k, h1, by omega, h3⟩
      · rename_i hr
        rw [nums_len] at h hr
        have h0 : r - cnt p n = 0 := by
          have := (List.getElem?_eq_some_iff.1 h).1
          simp at this
          omega
        rw [h0] at h
        cases h
        exact ⟨n, rfl, by omega, hp, by omega⟩
end Go.Proofs.YtbmnjnmpjpdcmaaDoor
