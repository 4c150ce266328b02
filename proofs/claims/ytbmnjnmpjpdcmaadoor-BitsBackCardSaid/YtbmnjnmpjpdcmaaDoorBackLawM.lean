/- Shifts, one behind the other. Conditions: none. -/
import Derived.Test.YtbmnjnmpjpdcmaaDoorShiftM
import Derived.Test.YtbmnjnmpjpdcmaaDoorBitsM
import Derived.Test.YtbmnjnmpjpdcmaaDoorOnesM
namespace Go.Proofs.YtbmnjnmpjpdcmaaDoor
open Go.RowKit Go.Eg

theorem shift_at (p : Nat → Bool) (x : Int) {k : Nat} (hk : k < 512) : shiftS p x k = (inR ((k : Int) - x) && p ((k : Int) - x).toNat) := by
  unfold shiftS
  by_cases h : shOk x = true
  · rw [if_pos h]; rfl
  · rw [if_neg h]
    have : inR ((k : Int) - x) = false := by simp [shOk, inR] at h ⊢; omega
    rw [this]; rfl
theorem shift_comp (p : Nat → Bool) {x m : Int} (h : 0 ≤ x ∧ 0 ≤ m ∨ x ≤ 0 ∧ m ≤ 0) {k : Nat} (hk : k < 512) : shiftS (shiftS p x) m k = shiftS p (x + m) k := by
  rw [shift_at _ _ hk, shift_at _ _ hk]
  by_cases h1 : inR ((k : Int) - (x + m)) = true
  · have h2 : inR ((k : Int) - m) = true := by simp [inR] at h1 ⊢; omega
    have h2' := h2
    simp only [inR, Bool.and_eq_true, decide_eq_true_eq] at h2'
    rw [h2, Bool.true_and, shift_at _ _ (by omega), show (((k : Int) - m).toNat : Int) - x = (k : Int) - (x + m) by omega]
  · have h1' : inR ((k : Int) - (x + m)) = false := by simpa using h1
    rw [h1', Bool.false_and]
    by_cases h2 : inR ((k : Int) - m) = true
    · have h2' := h2
      simp only [inR, Bool.and_eq_true, decide_eq_true_eq] at h2'
      rw [h2, Bool.true_and, shift_at _ _ (by omega), show (((k : Int) - m).toNat : Int) - x = (k : Int) - (x + m) by omega, h1', Bool.false_and]
    · have h2' : inR ((k : Int) - m) = false := by simpa using h2
      rw [h2', Bool.false_and]
theorem shift_back (p : Nat → Bool) (x : Int) {k : Nat} (hk : k < 512) : shiftS (shiftS p x) (-x) k = (inR ((k : Int) + x) && p k) := by
  rw [shift_at _ _ hk, show (k : Int) - -x = (k : Int) + x by omega]
  by_cases h : inR ((k : Int) + x) = true
  · have h' := h
    simp only [inR, Bool.and_eq_true, decide_eq_true_eq] at h'
    rw [h, Bool.true_and, Bool.true_and, shift_at _ _ (by omega), show (((k : Int) + x).toNat : Int) - x = (k : Int) by omega, Int.toNat_natCast]
    have : inR (k : Int) = true := by simp [inR]; omega
    rw [this, Bool.true_and]
  · have h' : inR ((k : Int) + x) = false := by simpa using h
    rw [h', Bool.false_and, Bool.false_and]
theorem cnt_none : ∀ n, cnt (fun _ => false) n = 0
  | 0 => rfl
  | n + 1 => by unfold cnt; rw [cnt_none n]; rfl
theorem cnt_zero {q : Nat → Bool} {n : Nat} (h : ∀ k, k < n → q k = false) : cnt q n = 0 := (cnt_congr h).trans (cnt_none n)
/-- What did not fall out comes back. -/
theorem size_back (p : Nat → Bool) (x : Int) : cnt (shiftS (shiftS p x) (-x)) 512 = cnt (shiftS p x) 512 := by
  rw [cnt_congr (fun k hk => shift_back p x hk), cnt_congr (fun k hk => shift_at p x hk)]
  by_cases hx : shOk x = true
  · simp only [shOk, Bool.and_eq_true, decide_eq_true_eq] at hx
    rcases Int.le_total 0 x with h0 | h0
    · obtain ⟨d, rfl⟩ : ∃ d : Nat, x = d := ⟨x.toNat, by omega⟩
      have e : 512 = (512 - d) + d := by omega
      have e2 : 512 = d + (512 - d) := by omega
      have h1 : cnt (fun k => inR ((k : Int) + d) && p k) 512 = cnt p (512 - d) := by
        conv => lhs; rw [e]
        rw [cnt_add, cnt_zero (n := d) (fun k hk => by rw [show inR ((((512 - d) + k : Nat) : Int) + d) = false by simp [inR]; omega]; rfl), Nat.add_zero]
        exact cnt_congr fun k hk => by rw [show inR ((k : Int) + d) = true by simp [inR]; omega]; rfl
      have h2 : cnt (fun k => inR ((k : Int) - d) && p ((k : Int) - d).toNat) 512 = cnt p (512 - d) := by
        conv => lhs; rw [e2]
        rw [cnt_add, cnt_zero (n := d) (fun k hk => by rw [show inR ((k : Int) - d) = false by simp [inR]; omega]; rfl), Nat.zero_add]
        exact cnt_congr fun k hk => by rw [show (((d + k : Nat) : Int) - d) = (k : Int) by omega, show inR (k : Int) = true by simp [inR]; omega]; rfl
      rw [h1, h2]
    · obtain ⟨d, hd⟩ : ∃ d : Nat, x = -(d : Int) := ⟨(-x).toNat, by omega⟩
      subst hd
      have e : 512 = (512 - d) + d := by omega
      have e2 : 512 = d + (512 - d) := by omega
      have h1 : cnt (fun k => inR ((k : Int) + -(d : Int)) && p k) 512 = cnt (fun k => p (d + k)) (512 - d) := by
        conv => lhs; rw [e2]
        rw [cnt_add, cnt_zero (n := d) (fun k hk => by rw [show inR ((k : Int) + -(d : Int)) = false by simp [inR]; omega]; rfl), Nat.zero_add]
        exact cnt_congr fun k hk => by rw [show inR (((d + k : Nat) : Int) + -(d : Int)) = true by simp [inR]; omega]; rfl
      have h2 : cnt (fun k => inR ((k : Int) - -(d : Int)) && p ((k : Int) - -(d : Int)).toNat) 512 = cnt (fun k => p (d + k)) (512 - d) := by
        conv => lhs; rw [e]
        rw [cnt_add, cnt_zero (n := d) (fun k hk => by rw [show inR ((((512 - d) + k : Nat) : Int) - -(d : Int)) = false by simp [inR]; omega]; rfl), Nat.add_zero]
        exact cnt_congr fun k hk => by rw [show inR ((k : Int) - -(d : Int)) = true by simp [inR]; omega, show ((k : Int) - -(d : Int)).toNat = d + k by omega]; rfl
      rw [h1, h2]
  · rw [cnt_zero (fun k hk => by rw [show inR ((k : Int) + x) = false by simp [shOk, inR] at hx ⊢; omega]; rfl), cnt_zero (fun k hk => by rw [show inR ((k : Int) - x) = false by simp [shOk, inR] at hx ⊢; omega]; rfl)]
theorem sub_back (p : Nat → Bool) (x : Int) : subB (shiftS (shiftS p x) (-x)) p 512 = true :=
  (subB_iff _ _ _).2 fun i hi => by
    unfold subS; rw [shift_back p x hi]; cases p i <;> simp
theorem sv_shift (p : Nat → Bool) {x m : Int} (h : 0 ≤ x ∧ 0 ≤ m ∨ x ≤ 0 ∧ m ≤ 0) : Value.agg #[.int .u64 (wd (shiftS (shiftS p x) m) 0 : Nat), .int .u64 (wd (shiftS (shiftS p x) m) 1 : Nat), .int .u64 (wd (shiftS (shiftS p x) m) 2 : Nat), .int .u64 (wd (shiftS (shiftS p x) m) 3 : Nat), .int .u64 (wd (shiftS (shiftS p x) m) 4 : Nat), .int .u64 (wd (shiftS (shiftS p x) m) 5 : Nat), .int .u64 (wd (shiftS (shiftS p x) m) 6 : Nat), .int .u64 (wd (shiftS (shiftS p x) m) 7 : Nat)] = Value.agg #[.int .u64 (wd (shiftS p (x + m)) 0 : Nat), .int .u64 (wd (shiftS p (x + m)) 1 : Nat), .int .u64 (wd (shiftS p (x + m)) 2 : Nat), .int .u64 (wd (shiftS p (x + m)) 3 : Nat), .int .u64 (wd (shiftS p (x + m)) 4 : Nat), .int .u64 (wd (shiftS p (x + m)) 5 : Nat), .int .u64 (wd (shiftS p (x + m)) 6 : Nat), .int .u64 (wd (shiftS p (x + m)) 7 : Nat)] :=
  sv_congr fun j hj => wd_congr fun b hb => shift_comp p h (by omega)
end Go.Proofs.YtbmnjnmpjpdcmaaDoor
