/- Lists of a set's numbers. Conditions: none. -/
import Derived.Test.YtbmnjnmpjpdcmaaDoorBitsC
namespace Go.Proofs.YtbmnjnmpjpdcmaaDoor
open Go.RowKit Go.Eg

/-- The numbers of a set below n, rising. -/
def numsB (p : Nat → Bool) (n : Nat) : List Int := ((List.range n).filter p).map fun (i : Nat) => (i : Int)
theorem numsB_pos {p : Nat → Bool} {n : Nat} (h : p n = true) : numsB p (n + 1) = numsB p n ++ [(n : Int)] := by
  unfold numsB; rw [List.range_succ, List.filter_append, List.map_append]; simp [h]
theorem numsB_neg {p : Nat → Bool} {n : Nat} (h : p n = false) : numsB p (n + 1) = numsB p n := by
  unfold numsB; rw [List.range_succ, List.filter_append, List.map_append]; simp [h]
theorem numsB_len (p : Nat → Bool) (n : Nat) : (numsB p n).length ≤ n := by
  unfold numsB; rw [List.length_map]; exact Nat.le_trans (List.length_filter_le _ _) (by simp)
theorem numsB_mem {p : Nat → Bool} {n : Nat} {x : Int} : x ∈ numsB p n ↔ ∃ i : Nat, i < n ∧ p i = true ∧ (i : Int) = x := by
  unfold numsB
  simp only [List.mem_map, List.mem_filter, List.mem_range]
  exact ⟨fun ⟨i, ⟨h1, h2⟩, h3⟩ => ⟨i, h1, h2, h3⟩, fun ⟨i, h1, h2, h3⟩ => ⟨i, ⟨h1, h2⟩, h3⟩⟩
theorem numsB_ok {p : Nat → Bool} {n : Nat} (h : n ≤ 512) : okL (numsB p n) = true := by
  unfold okL
  refine List.all_eq_true.2 fun x hx => ?_
  obtain ⟨i, hi, _, rfl⟩ := numsB_mem.1 hx
  simp [inR]; omega
theorem listSet_nums (p : Nat → Bool) (n i : Nat) : listSet (numsB p n) i = (decide (i < n) && p i) := by
  rw [Bool.eq_iff_iff, listSet, List.any_eq_true, Bool.and_eq_true, decide_eq_true_iff]
  constructor
  · rintro ⟨x, hx, hxi⟩
    obtain ⟨k, hk, hp, rfl⟩ := numsB_mem.1 hx
    have : k = i := by have := eq_of_beq hxi; omega
    subst this
    exact ⟨hk, hp⟩
  · rintro ⟨h1, h2⟩
    exact ⟨_, numsB_mem.2 ⟨i, h1, h2, rfl⟩, by simp⟩
theorem ofE_nums {p : Nat → Bool} {n : Nat} (h : n ≤ 512) : ofE (numsB p n) = 0 := by unfold ofE; rw [numsB_ok h]; rfl
theorem ofS_nums {p : Nat → Bool} {n : Nat} (h : n ≤ 512) : ofS (numsB p n) = fun i => decide (i < n) && p i := by
  unfold ofS; rw [numsB_ok h]; exact funext fun i => listSet_nums p n i
theorem wd_nums {p : Nat → Bool} (j : Nat) (h : j < 8) : wd (ofS (numsB p 512)) j = wd p j := by
  rw [ofS_nums (Nat.le_refl _)]
  refine wd_congr fun b hb => ?_
  rw [decide_eq_true (by omega), Bool.true_and]
/-- Two sets, word by word. -/
theorem sv_congr {p q : Nat → Bool} (h : ∀ j, j < 8 → wd p j = wd q j) : Value.agg #[.int .u64 (wd (p) 0 : Nat), .int .u64 (wd (p) 1 : Nat), .int .u64 (wd (p) 2 : Nat), .int .u64 (wd (p) 3 : Nat), .int .u64 (wd (p) 4 : Nat), .int .u64 (wd (p) 5 : Nat), .int .u64 (wd (p) 6 : Nat), .int .u64 (wd (p) 7 : Nat)] = Value.agg #[.int .u64 (wd (q) 0 : Nat), .int .u64 (wd (q) 1 : Nat), .int .u64 (wd (q) 2 : Nat), .int .u64 (wd (q) 3 : Nat), .int .u64 (wd (q) 4 : Nat), .int .u64 (wd (q) 5 : Nat), .int .u64 (wd (q) 6 : Nat), .int .u64 (wd (q) 7 : Nat)] := by
  rw [h 0 (by omega), h 1 (by omega), h 2 (by omega), h 3 (by omega), h 4 (by omega), h 5 (by omega), h 6 (by omega), h 7 (by omega)]
theorem elInt : Elem Tryd.prog 31 3 1 8 := Elem.mk (z := .int .i64 0) Tryd.underlying31 (by kernel_rfl) rfl (by decide)
theorem Arr.ext {w w' : World} {b : Nat} {p : Nat → Bool} (h : Arr w b p) (he : Ext w w') (hb : b < w.heap.size) : Arr w' b p :=
  fun j hj => ⟨(he.cell _ _ hb).trans (h j hj).1, (he.frozens _ _ hb).trans (h j hj).2⟩
theorem Arr.made {W : World} {b : Nat} (p : Nat → Bool) {e : TypeId} (hb : b = W.heap.size) : Arr (W.alloc (.cells #[Value.int .u64 (wd (p) 0 : Nat), .int .u64 (wd (p) 1 : Nat), .int .u64 (wd (p) 2 : Nat), .int .u64 (wd (p) 3 : Nat), .int .u64 (wd (p) 4 : Nat), .int .u64 (wd (p) 5 : Nat), .int .u64 (wd (p) 6 : Nat), .int .u64 (wd (p) 7 : Nat)] e)) b p := by
  subst hb
  intro j hj
  match j, hj with
  | 0, _ => simp
  | 1, _ => simp
  | 2, _ => simp
  | 3, _ => simp
  | 4, _ => simp
  | 5, _ => simp
  | 6, _ => simp
  | 7, _ => simp
theorem Arr.zero {W : World} {b : Nat} {e : TypeId} (hb : b = W.heap.size) : Arr (W.alloc (.cells #[Value.int .u64 0, .int .u64 0, .int .u64 0, .int .u64 0, .int .u64 0, .int .u64 0, .int .u64 0, .int .u64 0] e)) b (fun _ => false) := by
  have h := Arr.made (W := W) (fun _ => false) (e := e) hb
  simp only [wd_none] at h
  exact h
theorem Arr.old {W : World} {b : Nat} {p : Nat → Bool} {o : Obj} (h : Arr W b p) (hb : b < W.heap.size) : Arr (W.alloc o) b p := h.ext ((Ext.refl _).alloc o) hb
end Go.Proofs.YtbmnjnmpjpdcmaaDoor
