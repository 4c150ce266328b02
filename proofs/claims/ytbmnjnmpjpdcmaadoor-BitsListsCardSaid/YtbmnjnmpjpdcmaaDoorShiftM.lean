/- Sets and lists that are moved. Conditions: none. -/
import Derived.Test.YtbmnjnmpjpdcmaaDoorListB
namespace Go.Proofs.YtbmnjnmpjpdcmaaDoor
open Go.RowKit Go.Eg

/-- The set of the numbers below i of p, each moved by x. -/
def shS (p : Nat → Bool) (x : Int) (i m : Nat) : Bool := decide (0 ≤ (m : Int) - x) && decide ((m : Int) - x < i) && p ((m : Int) - x).toNat
def shOk (x : Int) : Bool := decide (-512 < x) && decide (x < 512)
def shiftS (p : Nat → Bool) (x : Int) : Nat → Bool := if shOk x then shS p x 512 else fun _ => false
theorem sh_zero (p : Nat → Bool) (x : Int) : shS p x 0 = fun _ => false := by
  funext m; unfold shS
  by_cases h : 0 ≤ (m : Int) - x
  · rw [decide_eq_false (show ¬ ((m : Int) - x < ((0 : Nat) : Int)) by omega)]; simp
  · rw [decide_eq_false h]; simp
theorem sh_skip {p : Nat → Bool} {x : Int} {i : Nat} (h : p i = false) : shS p x (i + 1) = shS p x i := by
  funext m; unfold shS
  by_cases e : (m : Int) - x = i
  · rw [e, Int.toNat_natCast, h]; simp
  · congr 2; exact decide_eq_decide.2 ⟨fun _ => by omega, fun _ => by omega⟩
theorem sh_add {p : Nat → Bool} {x : Int} {i : Nat} (h : p i = true) : shS p x (i + 1) = addSet (shS p x i) ((i : Int) + x) := by
  funext m; unfold addSet
  by_cases e : (m : Int) - x = i
  · have e2 : ((i : Int) + x == (m : Int)) = true := beq_iff_eq.2 (by omega)
    rw [e2]; unfold shS; rw [e, Int.toNat_natCast, h]; simp; omega
  · have e2 : ((i : Int) + x == (m : Int)) = false := beq_eq_false_iff_ne.2 (by omega)
    rw [e2, Bool.or_false]; unfold shS
    congr 2; exact decide_eq_decide.2 ⟨fun _ => by omega, fun _ => by omega⟩
theorem add_out {q : Nat → Bool} {y : Int} (h : inR y = false) (j : Nat) (hj : j < 8) : wd (addSet q y) j = wd q j :=
  wd_congr fun b hb => by
    unfold addSet
    have e : (y == ((64 * j + b : Nat) : Int)) = false := beq_eq_false_iff_ne.2 fun e => by subst e; simp [inR] at h; omega
    rw [e, Bool.or_false]
/-- The reference's list. -/
def shL (x : Int) (L : List Int) : List Int := (L.filter fun y => inR (y + x)).map (· + x)
theorem shL_len (x : Int) (L : List Int) : (shL x L).length ≤ L.length := by unfold shL; rw [List.length_map]; exact List.length_filter_le _ _
theorem shL_in {x : Int} {L : List Int} {i : Nat} {y : Int} (hy : L[i]? = some y) (h : inR (y + x) = true) : shL x (L.take (i + 1)) = shL x (L.take i) ++ [y + x] := by
  rw [List.take_add_one, hy]; unfold shL; simp [h]
theorem shL_out {x : Int} {L : List Int} {i : Nat} {y : Int} (hy : L[i]? = some y) (h : inR (y + x) = false) : shL x (L.take (i + 1)) = shL x (L.take i) := by
  rw [List.take_add_one, hy]; unfold shL; simp [h]
theorem wd_shL (p : Nat → Bool) (x : Int) (j : Nat) (hj : j < 8) : wd (ofS (shL x (numsB p 512))) j = wd (shS p x 512) j := by
  have hok : okL (shL x (numsB p 512)) = true := by
    unfold okL
    refine List.all_eq_true.2 fun y hy => ?_
    unfold shL at hy
    obtain ⟨z, hz, rfl⟩ := List.mem_map.1 hy
    exact (List.mem_filter.1 hz).2
  unfold ofS
  rw [if_pos hok]
  refine wd_congr fun b hb => ?_
  rw [Bool.eq_iff_iff, listSet, List.any_eq_true]
  constructor
  · rintro ⟨y, hy, hyb⟩
    have hyb := eq_of_beq hyb
    unfold shL at hy
    obtain ⟨z, hz, rfl⟩ := List.mem_map.1 hy
    obtain ⟨i, hi, hp, rfl⟩ := numsB_mem.1 (List.mem_filter.1 hz).1
    unfold shS
    rw [show ((64 * j + b : Nat) : Int) - x = i by omega, Int.toNat_natCast, hp]
    simp; omega
  · intro h
    unfold shS at h
    simp only [Bool.and_eq_true, decide_eq_true_eq] at h
    obtain ⟨⟨h1, h2⟩, h3⟩ := h
    refine ⟨((64 * j + b : Nat) : Int), ?_, by simp⟩
    unfold shL
    refine List.mem_map.2 ⟨((64 * j + b : Nat) : Int) - x, List.mem_filter.2 ⟨numsB_mem.2 ⟨_, by omega, h3, by omega⟩, ?_⟩, by omega⟩
    simp [inR]; omega
theorem wd_of_nil (j : Nat) : wd (ofS []) j = 0 := by
  have : ofS [] = fun _ => false := by funext i; rfl
  rw [this, wd_none]
end Go.Proofs.YtbmnjnmpjpdcmaaDoor
