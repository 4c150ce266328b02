/- A number more, a number less. Conditions: none. -/
import Derived.Test.YtbmnjnmpjpdcmaaDoorShiftM
namespace Go.Proofs.YtbmnjnmpjpdcmaaDoor
open Go.RowKit Go.Eg

def delSet (p : Nat → Bool) (x : Int) (i : Nat) : Bool := p i && !(x == (i : Int))
def withS (p : Nat → Bool) (x : Int) : Nat → Bool := if inR x then addSet p x else fun _ => false
def dropS (p : Nat → Bool) (x : Int) : Nat → Bool := if inR x then delSet p x else fun _ => false
def errI (x : Int) : Int := if inR x then 0 else 11
theorem del_word (p : Nat → Bool) (x : Int) (h0 : 0 ≤ x) : bits .andNot .u64 ((wd p (x / 64).toNat : Nat) : Int) (2 ^ (x % 64).toNat) = ((wd (delSet p x) (x / 64).toNat : Nat) : Int) := by
  have hb : (x % 64).toNat < 64 := by omega
  have hlt : 2 ^ (x % 64).toNat < 2 ^ 64 := Nat.pow_lt_pow_right (by omega) hb
  have e : ((2 : Int) ^ (x % 64).toNat) = ((2 ^ (x % 64).toNat : Nat) : Int) := by simp
  rw [e, u64_andNot_nat _ _ (wd_lt' _ _) hlt]
  congr 1
  refine word_ext (Nat.and_lt_two_pow _ (Nat.lt_of_le_of_lt (Nat.sub_le _ _) (by decide))) (wd_lt _ _) fun b hb' => ?_
  rw [Nat.testBit_and, not_bit hlt hb', wd_bit, wd_bit, Nat.testBit_two_pow, delSet]
  simp only [hb', decide_true, Bool.true_and]
  congr 2
  by_cases e : (x % 64).toNat = b
  · have : x = ((64 * (x / 64).toNat + b : Nat) : Int) := by omega
    rw [decide_eq_true e]
    exact (beq_iff_eq.2 this).symm
  · have : ¬ x = ((64 * (x / 64).toNat + b : Nat) : Int) := by omega
    rw [decide_eq_false e]
    exact (beq_eq_false_iff_ne.2 this).symm
theorem del_other (p : Nat → Bool) (x : Int) (h0 : 0 ≤ x) (k : Nat) (hk : k ≠ (x / 64).toNat) : wd (delSet p x) k = wd p k :=
  wd_congr fun b hb => by
    unfold delSet
    have : ¬ x = ((64 * k + b : Nat) : Int) := by omega
    rw [beq_eq_false_iff_ne.2 this]; simp
theorem okL_snoc (L : List Int) (x : Int) : okL (L ++ [x]) = (okL L && inR x) := by unfold okL; rw [List.all_append]; simp
theorem wd_with (p : Nat → Bool) (x : Int) (j : Nat) (hj : j < 8) : wd (ofS (numsB p 512 ++ [x])) j = wd (withS p x) j := by
  unfold ofS withS
  rw [okL_snoc, numsB_ok (Nat.le_refl _), Bool.true_and]
  by_cases h : inR x = true
  · rw [if_pos h, if_pos h, listSet_snoc]
    refine wd_congr fun b hb => ?_
    unfold addSet
    rw [listSet_nums, decide_eq_true (by omega), Bool.true_and]
  · rw [if_neg h, if_neg h]
theorem err_with (p : Nat → Bool) (x : Int) : ofE (numsB p 512 ++ [x]) = errI x := by
  unfold ofE errI; rw [okL_snoc, numsB_ok (Nat.le_refl _), Bool.true_and]
def delL (x : Int) (L : List Int) : List Int := L.filter fun y => y != x
theorem delL_len (x : Int) (L : List Int) : (delL x L).length ≤ L.length := List.length_filter_le _ _
theorem delL_in {x : Int} {L : List Int} {i : Nat} {y : Int} (hy : L[i]? = some y) (h : (y != x) = true) : delL x (L.take (i + 1)) = delL x (L.take i) ++ [y] := by
  rw [List.take_add_one, hy]; unfold delL; rw [List.filter_append]; simp only [Option.toList_some, List.filter_cons, h, if_true, List.filter_nil]
theorem delL_out {x : Int} {L : List Int} {i : Nat} {y : Int} (hy : L[i]? = some y) (h : (y != x) = false) : delL x (L.take (i + 1)) = delL x (L.take i) := by
  rw [List.take_add_one, hy]; unfold delL; rw [List.filter_append]; simp only [Option.toList_some, List.filter_cons, h, List.filter_nil]; simp
theorem okL_del (p : Nat → Bool) (x : Int) : okL (delL x (numsB p 512)) = true := by
  unfold okL delL
  refine List.all_eq_true.2 fun y hy => ?_
  have := List.all_eq_true.1 (numsB_ok (p := p) (Nat.le_refl 512)) y (List.mem_filter.1 hy).1
  exact this
theorem err_del (p : Nat → Bool) (x : Int) : ofE (delL x (numsB p 512)) = 0 := by unfold ofE; rw [if_pos (okL_del p x)]
theorem wd_del (p : Nat → Bool) (x : Int) (j : Nat) (hj : j < 8) : wd (ofS (delL x (numsB p 512))) j = wd (delSet p x) j := by
  unfold ofS
  rw [if_pos (okL_del p x)]
  refine wd_congr fun b hb => ?_
  rw [Bool.eq_iff_iff, listSet, List.any_eq_true]
  constructor
  · rintro ⟨y, hy, hyb⟩
    have hyb := eq_of_beq hyb
    unfold delL at hy
    obtain ⟨h1, h2⟩ := List.mem_filter.1 hy
    obtain ⟨i, hi, hp, rfl⟩ := numsB_mem.1 h1
    have : i = 64 * j + b := by omega
    subst this
    unfold delSet
    rw [hp]
    have h3 : (x == ((64 * j + b : Nat) : Int)) = false := beq_eq_false_iff_ne.2 fun e => by rw [e] at h2; simp at h2
    rw [h3]; rfl
  · intro h
    unfold delSet at h
    rw [Bool.and_eq_true] at h
    obtain ⟨h1, h2⟩ := h
    refine ⟨((64 * j + b : Nat) : Int), ?_, by simp⟩
    unfold delL
    refine List.mem_filter.2 ⟨numsB_mem.2 ⟨_, by omega, h1, rfl⟩, ?_⟩
    refine bne_iff_ne.2 fun e => ?_
    rw [← e] at h2
    simp at h2
end Go.Proofs.YtbmnjnmpjpdcmaaDoor
