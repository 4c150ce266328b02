/- Plain mathematics: what the grammar's rules answer are trees. Conditions: none. -/
import Derived.Test.YtaijjnndnoicpaaSynM
namespace Go.Eg

/-- A rule's answer, from place i on: places rise and stay in the text; nodes are a tree's. -/
def Gd (n i : Nat) : PR → Prop
  | .error p => i ≤ p ∧ p ≤ n
  | .ok (m, t) => i < m ∧ m ≤ n ∧ (∃ x : T, x.wf ∧ x.flat = t) ∧ t.length + 1 ≤ 2 * (m - i)
theorem pk_lt {c : Nat → Int} {n i : Nat} (h : pk c n i ≠ 0) : skipB c n i < n := by
  unfold pk at h
  by_cases hl : skipB c n i < n
  · exact hl
  · rw [if_neg hl] at h; exact absurd rfl h
theorem let_range {k x : Int} (hk : k ≤ 8) (h : isLet k x = true) : 97 ≤ x ∧ x ≤ 104 := by
  simp [isLet] at h; omega
section
variable {k : Int} {c : Nat → Int} {n : Nat} (hk : k ≤ 8)
include hk
theorem atomP_gd {un : Nat → PR} (hu : ∀ j, j ≤ n → Gd n j (un j)) {i : Nat} (hi : i ≤ n) : Gd n i (atomP k c n un i) := by
  have h1 := skip_ge c n i
  have h2 := skip_le (c := c) hi
  unfold atomP
  have leaf : ∀ nd : Nd, good nd = true → ar nd.k = 0 → pk c n i ≠ 0 → Gd n i (.ok (skipB c n i + 1, [nd])) := fun nd g a hp => by
    have := pk_lt hp
    exact ⟨by omega, by omega, ⟨.leaf nd, ⟨g, a⟩, rfl⟩, by simp; omega⟩
  by_cases e1 : isLet k (pk c n i) = true
  · rw [if_pos e1]
    obtain ⟨l1, l2⟩ := let_range hk e1
    exact leaf _ (by simp [good]; omega) (by show ar 3 = 0; decide) (by omega)
  rw [if_neg e1]
  by_cases e2 : pk c n i = 48
  · rw [if_pos e2]; exact leaf _ (by decide) (by decide) (by omega)
  rw [if_neg e2]
  by_cases e3 : pk c n i = 49
  · rw [if_pos e3]; exact leaf _ (by decide) (by decide) (by omega)
  rw [if_neg e3]
  by_cases e4 : pk c n i = 46
  · rw [if_pos e4]; exact leaf _ (by decide) (by decide) (by omega)
  rw [if_neg e4]
  by_cases e5 : pk c n i = 40
  · rw [if_pos e5]
    have hl := pk_lt (c := c) (n := n) (i := i) (by omega)
    have h3 := hu (skipB c n i + 1) (by omega)
    cases hr : un (skipB c n i + 1) with
    | error p =>
      rw [hr] at h3
      exact ⟨by have := h3.1; omega, h3.2⟩
    | ok r =>
      obtain ⟨m, t⟩ := r
      rw [hr] at h3
      obtain ⟨g1, g2, g3, g4⟩ := h3
      have h4 := skip_ge c n m
      have h5 := skip_le (c := c) g2
      by_cases e6 : pk c n m = 41
      · simp only [if_pos e6]
        have := pk_lt (c := c) (n := n) (i := m) (by omega)
        exact ⟨by omega, by omega, g3, by omega⟩
      · simp only [if_neg e6]
        exact ⟨by omega, h5⟩
  · rw [if_neg e5]
    exact ⟨h1, h2⟩
omit hk in
theorem postL_gd : ∀ (g i0 i : Nat) (t : List Nd), i0 < i → i ≤ n → (∃ x : T, x.wf ∧ x.flat = t) → t.length + 1 ≤ 2 * (i - i0) → Gd n i0 (postL c n g i t)
  | 0, i0, i, t, h1, h2, h3, h4 => ⟨h1, h2, h3, h4⟩
  | g + 1, i0, i, t, h1, h2, h3, h4 => by
    have s1 := skip_ge c n i
    have s2 := skip_le (c := c) h2
    obtain ⟨x, hx, hf⟩ := h3
    unfold postL
    by_cases e1 : pk c n i = 42
    · rw [if_pos e1]
      have := pk_lt (c := c) (n := n) (i := i) (by omega)
      exact postL_gd g i0 _ _ (by omega) (by omega) ⟨.un ⟨8, 0⟩ x, ⟨by decide, by decide, hx⟩, by simp [T.flat, hf]⟩ (by simp; omega)
    rw [if_neg e1]
    by_cases e2 : pk c n i = 63
    · rw [if_pos e2]
      have := pk_lt (c := c) (n := n) (i := i) (by omega)
      exact postL_gd g i0 _ _ (by omega) (by omega) ⟨.bin ⟨5, 0⟩ x (.leaf ⟨2, 0⟩), ⟨by decide, by decide, hx, by decide, by decide⟩, by simp [T.flat, hf]⟩ (by simp; omega)
    rw [if_neg e2]
    exact ⟨by omega, s2, ⟨x, hx, hf⟩, by omega⟩
theorem postP_gd {un : Nat → PR} (hu : ∀ j, j ≤ n → Gd n j (un j)) {i : Nat} (hi : i ≤ n) : Gd n i (postP k c n un i) := by
  have h := atomP_gd (c := c) hk hu hi
  unfold postP
  cases hr : atomP k c n un i with
  | error p => rw [hr] at h; exact h
  | ok r =>
    obtain ⟨m, t⟩ := r
    rw [hr] at h
    obtain ⟨g1, g2, g3, g4⟩ := h
    exact postL_gd _ _ _ _ g1 g2 g3 g4
omit hk in
theorem notsL_gd : ∀ (g i m : Nat), i ≤ n → i ≤ (notsL c n g i m).1 ∧ (notsL c n g i m).1 ≤ n ∧ (notsL c n g i m).2 + i ≤ m + (notsL c n g i m).1
  | 0, i, m, h => ⟨Nat.le_refl _, h, Nat.le_refl _⟩
  | g + 1, i, m, h => by
    have s1 := skip_ge c n i
    have s2 := skip_le (c := c) h
    unfold notsL
    by_cases e1 : pk c n i = 33
    · rw [if_pos e1]
      have := pk_lt (c := c) (n := n) (i := i) (by omega)
      obtain ⟨a, b, d⟩ := notsL_gd g (skipB c n i + 1) (m + 1) (by omega)
      exact ⟨by omega, b, by omega⟩
    · rw [if_neg e1]
      exact ⟨s1, s2, by show m + i ≤ m + skipB c n i; omega⟩
omit hk in
theorem nots_tree {x : T} (hx : x.wf) : ∀ m, ∃ y : T, y.wf ∧ y.flat = x.flat ++ List.replicate m ⟨9, 0⟩
  | 0 => ⟨x, hx, by simp⟩
  | m + 1 => by
    obtain ⟨y, hy, hf⟩ := nots_tree hx m
    exact ⟨.un ⟨9, 0⟩ y, ⟨by decide, by decide, hy⟩, by simp [T.flat, hf, List.replicate_succ']⟩
theorem prefP_gd {un : Nat → PR} (hu : ∀ j, j ≤ n → Gd n j (un j)) {i : Nat} (hi : i ≤ n) : Gd n i (prefP k c n un i) := by
  obtain ⟨a, b, d⟩ := notsL_gd (c := c) (n + 1) i 0 hi
  have h := postP_gd (c := c) hk hu b
  unfold prefP
  generalize notsL c n (n + 1) i 0 = q at *
  cases hr : postP k c n un q.1 with
  | error p => rw [hr] at h; exact ⟨by have := h.1; omega, h.2⟩
  | ok r =>
    obtain ⟨m, t⟩ := r
    rw [hr] at h
    obtain ⟨g1, g2, ⟨x, hx, hf⟩, g4⟩ := h
    obtain ⟨y, hy, hyf⟩ := nots_tree hx q.2
    exact ⟨by omega, g2, ⟨y, hy, by rw [hyf, hf]⟩, by simp; omega⟩
theorem conL_gd {un : Nat → PR} (hu : ∀ j, j ≤ n → Gd n j (un j)) : ∀ (g i0 i : Nat) (t : List Nd), i0 < i → i ≤ n → (∃ x : T, x.wf ∧ x.flat = t) → t.length + 1 ≤ 2 * (i - i0) → Gd n i0 (conL k c n un g i t)
  | 0, i0, i, t, h1, h2, h3, h4 => ⟨h1, h2, h3, h4⟩
  | g + 1, i0, i, t, h1, h2, h3, h4 => by
    have s1 := skip_ge c n i
    have s2 := skip_le (c := c) h2
    unfold conL
    by_cases e1 : begs k (pk c n i) = true
    · rw [if_pos e1]
      have h := prefP_gd (c := c) hk hu s2
      cases hr : prefP k c n un (skipB c n i) with
      | error p => rw [hr] at h; exact ⟨by have := h.1; omega, h.2⟩
      | ok r =>
        obtain ⟨m, u⟩ := r
        rw [hr] at h
        obtain ⟨g1, g2, ⟨y, hy, hyf⟩, g4⟩ := h
        obtain ⟨x, hx, hf⟩ := h3
        exact conL_gd hu g i0 m _ (by omega) g2 ⟨.bin ⟨7, 0⟩ x y, ⟨by decide, by decide, hx, hy⟩, by simp [T.flat, hf, hyf]⟩ (by simp; omega)
    · rw [if_neg e1]
      exact ⟨by omega, s2, h3, by omega⟩
theorem conP_gd {un : Nat → PR} (hu : ∀ j, j ≤ n → Gd n j (un j)) {i : Nat} (hi : i ≤ n) : Gd n i (conP k c n un i) := by
  have h := prefP_gd (c := c) hk hu hi
  unfold conP
  cases hr : prefP k c n un i with
  | error p => rw [hr] at h; exact h
  | ok r =>
    obtain ⟨m, t⟩ := r
    rw [hr] at h
    obtain ⟨g1, g2, g3, g4⟩ := h
    exact conL_gd hk hu _ _ _ _ g1 g2 g3 g4
theorem intL_gd {un : Nat → PR} (hu : ∀ j, j ≤ n → Gd n j (un j)) : ∀ (g i0 i : Nat) (t : List Nd), i0 < i → i ≤ n → (∃ x : T, x.wf ∧ x.flat = t) → t.length + 1 ≤ 2 * (i - i0) → Gd n i0 (intL k c n un g i t)
  | 0, i0, i, t, h1, h2, h3, h4 => ⟨h1, h2, h3, h4⟩
  | g + 1, i0, i, t, h1, h2, h3, h4 => by
    have s1 := skip_ge c n i
    have s2 := skip_le (c := c) h2
    unfold intL
    by_cases e1 : pk c n i = 38 ∨ pk c n i = 45
    · rw [if_pos e1]
      have hl := pk_lt (c := c) (n := n) (i := i) (by omega)
      have h := conP_gd (c := c) hk hu (i := skipB c n i + 1) (by omega)
      cases hr : conP k c n un (skipB c n i + 1) with
      | error p => rw [hr] at h; exact ⟨by have := h.1; omega, h.2⟩
      | ok r =>
        obtain ⟨m, u⟩ := r
        rw [hr] at h
        obtain ⟨g1, g2, ⟨y, hy, hyf⟩, g4⟩ := h
        obtain ⟨x, hx, hf⟩ := h3
        by_cases e2 : pk c n i = 45
        · simp only [if_pos e2]
          exact intL_gd hu g i0 m _ (by omega) g2 ⟨.bin ⟨6, 0⟩ x (.un ⟨9, 0⟩ y), ⟨by decide, by decide, hx, by decide, by decide, hy⟩, by simp [T.flat, hf, hyf]⟩ (by simp; omega)
        · simp only [if_neg e2]
          exact intL_gd hu g i0 m _ (by omega) g2 ⟨.bin ⟨6, 0⟩ x y, ⟨by decide, by decide, hx, hy⟩, by simp [T.flat, hf, hyf]⟩ (by simp; omega)
    · rw [if_neg e1]
      exact ⟨by omega, s2, h3, by omega⟩
theorem intP_gd {un : Nat → PR} (hu : ∀ j, j ≤ n → Gd n j (un j)) {i : Nat} (hi : i ≤ n) : Gd n i (intP k c n un i) := by
  have h := conP_gd (c := c) hk hu hi
  unfold intP
  cases hr : conP k c n un i with
  | error p => rw [hr] at h; exact h
  | ok r =>
    obtain ⟨m, t⟩ := r
    rw [hr] at h
    obtain ⟨g1, g2, g3, g4⟩ := h
    exact intL_gd hk hu _ _ _ _ g1 g2 g3 g4
theorem uniL_gd {un : Nat → PR} (hu : ∀ j, j ≤ n → Gd n j (un j)) : ∀ (g i0 i : Nat) (t : List Nd), i0 < i → i ≤ n → (∃ x : T, x.wf ∧ x.flat = t) → t.length + 1 ≤ 2 * (i - i0) → Gd n i0 (uniL k c n un g i t)
  | 0, i0, i, t, h1, h2, h3, h4 => ⟨h1, h2, h3, h4⟩
  | g + 1, i0, i, t, h1, h2, h3, h4 => by
    have s1 := skip_ge c n i
    have s2 := skip_le (c := c) h2
    unfold uniL
    by_cases e1 : pk c n i = 124
    · rw [if_pos e1]
      have hl := pk_lt (c := c) (n := n) (i := i) (by omega)
      have h := intP_gd (c := c) hk hu (i := skipB c n i + 1) (by omega)
      cases hr : intP k c n un (skipB c n i + 1) with
      | error p => rw [hr] at h; exact ⟨by have := h.1; omega, h.2⟩
      | ok r =>
        obtain ⟨m, u⟩ := r
        rw [hr] at h
        obtain ⟨g1, g2, ⟨y, hy, hyf⟩, g4⟩ := h
        obtain ⟨x, hx, hf⟩ := h3
        exact uniL_gd hu g i0 m _ (by omega) g2 ⟨.bin ⟨5, 0⟩ x y, ⟨by decide, by decide, hx, hy⟩, by simp [T.flat, hf, hyf]⟩ (by simp; omega)
    · rw [if_neg e1]
      exact ⟨by omega, s2, h3, by omega⟩
/-- The whole grammar. -/
theorem unionP_gd : ∀ (f i : Nat), i ≤ n → Gd n i (unionP k c n f i)
  | 0, i, hi => ⟨Nat.le_refl _, hi⟩
  | f + 1, i, hi => by
    have hu : ∀ j, j ≤ n → Gd n j (unionP k c n f j) := fun j hj => unionP_gd f j hj
    have h := intP_gd (c := c) hk hu hi
    unfold unionP
    cases hr : intP k c n (unionP k c n f) i with
    | error p => rw [hr] at h; exact h
    | ok r =>
      obtain ⟨m, t⟩ := r
      rw [hr] at h
      obtain ⟨g1, g2, g3, g4⟩ := h
      exact uniL_gd hk hu _ _ _ _ g1 g2 g3 g4
end
end Go.Eg
