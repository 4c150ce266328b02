/- Plain mathematics: reversing twice, renaming twice. Conditions: none. -/
import Derived.Test.YtkjedeofjkdlaaaBackM
namespace Go.Eg

theorem rev_facts {x : T} (hx : x.wf) (hl : x.flat.length ≤ 4000) : errW x.rev.flat = 0 ∧ revF x.flat = x.rev.flat ∧ revF x.rev.flat = x.flat ∧ (∀ c, depF c x.rev.flat = x.dep c) ∧ ∀ c, depF c x.flat = x.dep c := by
  have hw := T.rev_wf hx
  have hl' : x.rev.flat.length ≤ 4000 := by rw [T.rev_len]; exact hl
  refine ⟨errW_flat hw hl', ?_, ?_, fun c => ?_, fun c => depF_flat hx hl c⟩
  · unfold revF; rw [if_pos (errW_flat hx hl), tr_flat hx]
  · unfold revF; rw [if_pos (errW_flat hw hl'), tr_flat hw, T.rev_rev]
  · rw [depF_flat hw hl', T.rev_dep]
theorem stars_lt : ∀ {x : T}, x.wf → x.dep starK + 1 ≤ x.dep everyK
  | .leaf n, h => by
    have h8 : (n.k == 8) = false := by
      have := h.2
      cases h0 : n.k == 8 with
      | false => rfl
      | true => rw [eq_of_beq h0] at this; exact absurd this (by decide)
    simp [T.dep, starK, everyK, h8]
  | .un n a, h => by
    have := stars_lt (x := a) h.2.2
    simp only [T.dep, everyK]
    split <;> simp <;> omega
  | .bin n a b, h => by
    have := stars_lt (x := a) h.2.2.1
    have := stars_lt (x := b) h.2.2.2
    simp only [T.dep, everyK]
    have h8 : starK n.k = false := by
      unfold starK
      cases h0 : n.k == 8 with
      | false => rfl
      | true => have := h.2.1; rw [eq_of_beq h0] at this; exact absurd this (by decide)
    rw [h8]
    simp
    omega
theorem renE_zero {t : List Nd} {f : Nat → Int} {n : Nat} (h : renE t f n = 0) : errW t = 0 ∧ n = 8 ∧ allAH f n = true := by
  unfold renE at h
  split at h
  · rename_i h0; exact absurd h h0
  · rename_i h0
    split at h
    · simp at h
    · rename_i h1
      split at h
      · rename_i h2; exact ⟨by simpa using h0, by simpa using h1, h2⟩
      · simp at h
theorem renL_nil {t : List Nd} {f : Nat → Int} {n : Nat} (h : renE t f n ≠ 0) : renL t f n = [] := if_neg h
theorem renL_map {t : List Nd} {f : Nat → Int} {n : Nat} (h : renE t f n = 0) : renL t f n = t.map (renN f) := if_pos h
theorem ren_ren {t : List Nd} {f g h : Nat → Int} (ht : errW t = 0) (hh : ∀ i, i < 8 → h i = g (f i - 97).toNat) : (t.map (renN f)).map (renN g) = t.map (renN h) := by
  rw [List.map_map]
  apply List.map_congr_left
  intro n hn
  have hg := ok_good (errW_ok ht).2 n hn
  show renN g (renN f n) = renN h n
  by_cases h3 : n.k = 3
  · have := good_letter hg h3
    have e1 : renN f n = ⟨3, f (n.s - 97).toNat⟩ := if_pos h3
    have e2 : renN h n = ⟨3, h (n.s - 97).toNat⟩ := if_pos h3
    rw [e1, e2, hh _ (by omega)]
    rfl
  · have e1 : renN f n = n := if_neg h3
    have e2 : renN h n = n := if_neg h3
    have e3 : renN g n = n := if_neg h3
    rw [e1, e2, e3]
theorem renE_both {t : List Nd} {f g h : Nat → Int} {n m : Nat} (hf : renE t f n = 0) (hg : allAH g 8 = true) (hm : m = 8) (hh : ∀ i, i < 8 → h i = g (f i - 97).toNat) : renE t h m = 0 := by
  obtain ⟨h1, h2, h3⟩ := renE_zero hf
  unfold renE
  rw [if_neg (by simp [h1]), if_neg (by simp [hm]), if_pos]
  unfold allAH
  rw [List.all_eq_true]
  intro i hi
  have hi8 : i < 8 := by have := List.mem_range.1 hi; omega
  rw [hh i hi8]
  have := allAH_of h3 (show i < n by omega)
  simp [isAH] at this
  exact allAH_of hg (by omega)
end Go.Eg
