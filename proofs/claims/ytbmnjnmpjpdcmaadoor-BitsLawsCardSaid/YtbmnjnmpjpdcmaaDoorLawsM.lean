/- Sets, by one another. Conditions: none. -/
import Derived.Test.YtbmnjnmpjpdcmaaDoorLookM
import Derived.Test.YtbmnjnmpjpdcmaaDoorSetEq
namespace Go.Proofs.YtbmnjnmpjpdcmaaDoor
open Go.RowKit Go.Eg

theorem cnt_or_and (p q : Nat → Bool) : ∀ n, cnt (orS p q) n + cnt (andS p q) n = cnt p n + cnt q n
  | 0 => rfl
  | n + 1 => by
    have ih := cnt_or_and p q n
    show cnt (orS p q) n + _ + (cnt (andS p q) n + _) = cnt p n + _ + (cnt q n + _)
    unfold orS andS at *
    cases p n <;> cases q n <;> simp <;> omega
theorem cnt_sub_and (p q : Nat → Bool) : ∀ n, cnt (subS p q) n + cnt (andS p q) n = cnt p n
  | 0 => rfl
  | n + 1 => by
    have ih := cnt_sub_and p q n
    show cnt (subS p q) n + _ + (cnt (andS p q) n + _) = cnt p n + _
    unfold subS andS at *
    cases p n <;> cases q n <;> simp <;> omega
theorem or_sub_and (p q : Nat → Bool) : orS (subS p q) (andS p q) = p := by
  funext i; unfold orS subS andS; cases p i <;> cases q i <;> rfl
theorem cmp_bd (p q : Nat → Bool) : ∀ n, -1 ≤ cmpN p q n ∧ cmpN p q n ≤ 1
  | 0 => by unfold cmpN; decide
  | n + 1 => by
    have ih := cmp_bd p q n
    unfold cmpN
    split
    · exact ih
    · split <;> decide
theorem cmp_neg (p q : Nat → Bool) : ∀ n, cmpN q p n = -cmpN p q n
  | 0 => rfl
  | n + 1 => by
    have ih := cmp_neg p q n
    unfold cmpN
    cases p n <;> cases q n <;> simp [ih]
theorem cmp_zero (p q : Nat → Bool) : ∀ n, cmpN p q n = 0 ↔ ∀ i, i < n → p i = q i
  | 0 => by simp [cmpN]
  | n + 1 => by
    have ih := cmp_zero p q n
    unfold cmpN
    by_cases h : p n = q n
    · rw [if_pos h, ih]
      constructor
      · intro k i hi
        by_cases e : i = n
        · rw [e]; exact h
        · exact k i (by omega)
      · intro k i hi; exact k i (by omega)
    · rw [if_neg h]
      constructor
      · intro k; split at k <;> cases k
      · intro k; exact absurd (k n (by omega)) h
theorem cmp_sub (p q : Nat → Bool) : ∀ n, subB p q n = true → cmpN p q n ≤ 0
  | 0, _ => by unfold cmpN; decide
  | n + 1, h => by
    unfold subB at h
    rw [Bool.and_eq_true] at h
    have ih := cmp_sub p q n h.1
    unfold cmpN
    have h2 := h.2
    revert h2
    cases p n <;> cases q n <;> simp [ih]
theorem cnt_mono (p : Nat → Bool) {a b : Nat} (h : a ≤ b) : cnt p a ≤ cnt p b := by
  obtain ⟨d, rfl⟩ : ∃ d, b = a + d := ⟨b - a, by omega⟩
  rw [cnt_add]; omega
theorem cnt_succ {p : Nat → Bool} {a : Nat} (h : p a = true) : cnt p (a + 1) = cnt p a + 1 := by
  show cnt p a + _ = _; rw [h]; rfl
/-- The next number from N on is that one of the list which stands where as many are ahead. -/
theorem next_list (p : Nat → Bool) (N : Nat) : nextO p (N : Int) = (numsB p 512)[cnt p N]? := by
  cases h : (numsB p 512)[cnt p N]? with
  | some y =>
    obtain ⟨m, rfl, hm, hp, hc⟩ := rank_at p 512 _ y h
    have h1 : N ≤ m := by
      rcases Nat.lt_or_ge m N with hl | hl
      · have := cnt_mono p (show m + 1 ≤ N by omega)
        rw [cnt_succ hp] at this; omega
      · exact hl
    refine find_nums_some hp (by omega) (fun m' hm' hN => ?_) 512 hm
    cases hp' : p m' with
    | false => rfl
    | true =>
      have := cnt_mono p (show m' + 1 ≤ m by omega)
      have h2 := cnt_mono p (show N ≤ m' by omega)
      rw [cnt_succ hp'] at this; omega
  | none =>
    have hl := List.getElem?_eq_none_iff.1 h
    rw [nums_len] at hl
    refine find_nums_none fun m hm hN => ?_
    cases hp : p m with
    | false => rfl
    | true =>
      have := cnt_mono p (show m + 1 ≤ 512 by omega)
      have h2 := cnt_mono p (show N ≤ m by omega)
      rw [cnt_succ hp] at this; omega
/-- Two sets are compared. -/
theorem equal_sv (f g : Nat → Bool) (B : Bool) (h : B = true ↔ ∀ i, i < 512 → f i = g i) (w : World) : (Op.equalIn 10000 24 (Value.agg #[.int .u64 (wd (f) 0 : Nat), .int .u64 (wd (f) 1 : Nat), .int .u64 (wd (f) 2 : Nat), .int .u64 (wd (f) 3 : Nat), .int .u64 (wd (f) 4 : Nat), .int .u64 (wd (f) 5 : Nat), .int .u64 (wd (f) 6 : Nat), .int .u64 (wd (f) 7 : Nat)]) (Value.agg #[.int .u64 (wd (g) 0 : Nat), .int .u64 (wd (g) 1 : Nat), .int .u64 (wd (g) 2 : Nat), .int .u64 (wd (g) 3 : Nat), .int .u64 (wd (g) 4 : Nat), .int .u64 (wd (g) 5 : Nat), .int .u64 (wd (g) 6 : Nat), .int .u64 (wd (g) 7 : Nat)])).run Tryd.prog w = .ok B w := by
  rw [eq_set]
  congr 1
  rw [Bool.eq_iff_iff, h]
  simp only [Bool.and_eq_true, beq_iff_eq]
  constructor
  · rintro ⟨h0, h1, h2, h3, h4, h5, h6, h7⟩ i hi
    refine wd_inj (fun j hj => ?_) hi
    match j, hj with
    | 0, _ => omega
    | 1, _ => omega
    | 2, _ => omega
    | 3, _ => omega
    | 4, _ => omega
    | 5, _ => omega
    | 6, _ => omega
    | 7, _ => omega
  · intro k
    have e : ∀ j, j < 8 → wd f j = wd g j := fun j hj => wd_congr fun b hb => k _ (by omega)
    rw [e 0 (by omega), e 1 (by omega), e 2 (by omega), e 3 (by omega), e 4 (by omega), e 5 (by omega), e 6 (by omega), e 7 (by omega)]
    exact ⟨rfl, rfl, rfl, rfl, rfl, rfl, rfl, rfl⟩
theorem sub_or (p q : Nat → Bool) : subB p q 512 = true ↔ ∀ i, i < 512 → orS p q i = q i := by
  rw [subB_iff]
  constructor
  · intro h i hi
    have := h i hi
    unfold subS at this; unfold orS
    revert this; cases p i <;> cases q i <;> decide
  · intro h i hi
    have := h i hi
    unfold orS at this; unfold subS
    revert this; cases p i <;> cases q i <;> decide
end Go.Proofs.YtbmnjnmpjpdcmaaDoor
