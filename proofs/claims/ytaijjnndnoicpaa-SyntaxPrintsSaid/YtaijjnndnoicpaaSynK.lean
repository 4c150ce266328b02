/- Plain mathematics: with more letters the same tree is read. Conditions: none. -/
import Derived.Test.YtaijjnndnoicpaaSynG
namespace Go.Eg

theorem let_more {k x : Int} (h : isLet k x = true) : isLet (k + 1) x = true := by simp [isLet] at h ⊢; omega
theorem begs_more {k x : Int} (h : begs k x = true) : begs (k + 1) x = true := by
  unfold begs at h ⊢
  cases h1 : isLet k x with
  | true => rw [let_more h1]; rfl
  | false =>
    rw [h1] at h
    cases isLet (k + 1) x
    · exact h
    · simp
theorem begs_new {k x : Int} (hk : 1 ≤ k) (h : x ≠ 97 + k) : begs (k + 1) x = begs k x := by
  have : isLet (k + 1) x = isLet k x := by rw [Bool.eq_iff_iff]; simp [isLet]; omega
  unfold begs; rw [this]
theorem let_new {k x : Int} (h : x ≠ 97 + k) : isLet (k + 1) x = isLet k x := by rw [Bool.eq_iff_iff]; simp [isLet]; omega
theorem new_no {k x : Int} (hk : 1 ≤ k) (h : x = 97 + k) : begs k x = false := by
  subst h
  have h1 : isLet k (97 + k) = false := by simp [isLet]; omega
  unfold begs; rw [h1]
  have : ∀ y : Int, y ≤ 96 → ((97 + k : Int) == y) = false := fun y hy => beq_eq_false_iff_ne.2 (by omega)
  rw [this 48 (by omega), this 49 (by omega), this 46 (by omega), this 40 (by omega), this 33 (by omega)]; rfl

section
variable {k : Int} {c : Nat → Int} {n : Nat} (hk : 1 ≤ k)
/-- What k letters read well is read by one letter more, unless it stands at that letter. -/
def PM (k : Int) (c : Nat → Int) (n : Nat) (r r' : PR) : Prop := ∀ m t, r = .ok (m, t) → pk c n m ≠ 97 + k → r' = .ok (m, t)
include hk
theorem atomP_pm {un un' : Nat → PR} (hu : ∀ j, PM k c n (un j) (un' j)) (i : Nat) : PM k c n (atomP k c n un i) (atomP (k + 1) c n un' i) := by
  intro m t hr hm
  unfold atomP at hr ⊢
  by_cases e1 : isLet k (pk c n i) = true
  · rw [if_pos e1] at hr; rw [if_pos (let_more e1)]; exact hr
  rw [if_neg e1] at hr
  have low : ∀ y : Int, y ≤ 96 → pk c n i = y → ¬ isLet (k + 1) (pk c n i) = true := fun y hy h => by rw [h]; simp [isLet]; omega
  by_cases e2 : pk c n i = 48
  · rw [if_pos e2] at hr; rw [if_neg (low 48 (by omega) e2), if_pos e2]; exact hr
  rw [if_neg e2] at hr
  by_cases e3 : pk c n i = 49
  · rw [if_pos e3] at hr; rw [if_neg (low 49 (by omega) e3), if_neg e2, if_pos e3]; exact hr
  rw [if_neg e3] at hr
  by_cases e4 : pk c n i = 46
  · rw [if_pos e4] at hr; rw [if_neg (low 46 (by omega) e4), if_neg e2, if_neg e3, if_pos e4]; exact hr
  rw [if_neg e4] at hr
  by_cases e5 : pk c n i = 40
  · rw [if_pos e5] at hr; rw [if_neg (low 40 (by omega) e5), if_neg e2, if_neg e3, if_neg e4, if_pos e5]
    cases hq : un (skipB c n i + 1) with
    | error p => rw [hq] at hr; cases hr
    | ok q =>
      obtain ⟨m', t'⟩ := q
      rw [hq] at hr
      by_cases e6 : pk c n m' = 41
      · rw [hu _ m' t' hq (by omega)]; exact hr
      · simp only [if_neg e6] at hr; cases hr
  · rw [if_neg e5] at hr; cases hr
omit hk in
theorem postL_pk : ∀ (g i : Nat) (t : List Nd), pk c n i = 97 + k → 1 ≤ k → ∃ m', postL c n g i t = .ok (m', t) ∧ pk c n m' = 97 + k
  | 0, i, t, h, _ => ⟨i, rfl, h⟩
  | g + 1, i, t, h, h1 => by
    unfold postL
    rw [if_neg (by omega), if_neg (by omega)]
    exact ⟨_, rfl, by rw [pk_skip]; exact h⟩
theorem postP_pm {un un' : Nat → PR} (hu : ∀ j, PM k c n (un j) (un' j)) (i : Nat) : PM k c n (postP k c n un i) (postP (k + 1) c n un' i) := by
  intro m t hr hm
  unfold postP at hr ⊢
  cases hq : atomP k c n un i with
  | error p => rw [hq] at hr; cases hr
  | ok q =>
    obtain ⟨m', t'⟩ := q
    rw [hq] at hr
    have : pk c n m' ≠ 97 + k := fun e => by
      obtain ⟨m2, h1, h2⟩ := postL_pk (n + 1) m' t' e hk
      rw [show postL c n (n + 1) m' t' = .ok (m, t) from hr] at h1
      cases h1
      exact hm h2
    rw [atomP_pm hk hu i m' t' hq this]; exact hr
theorem prefP_pm {un un' : Nat → PR} (hu : ∀ j, PM k c n (un j) (un' j)) (i : Nat) : PM k c n (prefP k c n un i) (prefP (k + 1) c n un' i) := by
  intro m t hr hm
  unfold prefP at hr ⊢
  cases hq : postP k c n un (notsL c n (n + 1) i 0).1 with
  | error p => rw [hq] at hr; cases hr
  | ok q =>
    obtain ⟨m', t'⟩ := q
    rw [hq] at hr
    have e : m' = m := by injection hr with h; exact (Prod.mk.inj h).1
    rw [postP_pm hk hu _ m' t' hq (by rw [e]; exact hm)]; exact hr
theorem conL_pk {un : Nat → PR} : ∀ (g i : Nat) (t : List Nd), pk c n i = 97 + k → ∃ m', conL k c n un g i t = .ok (m', t) ∧ pk c n m' = 97 + k
  | 0, i, t, h => ⟨i, rfl, h⟩
  | g + 1, i, t, h => by
    unfold conL
    rw [if_neg (by rw [new_no hk h]; decide)]
    exact ⟨_, rfl, by rw [pk_skip]; exact h⟩
theorem conL_pm {un un' : Nat → PR} (hu : ∀ j, PM k c n (un j) (un' j)) : ∀ (g i : Nat) (t : List Nd), PM k c n (conL k c n un g i t) (conL (k + 1) c n un' g i t)
  | 0, i, t => fun m t' h _ => h
  | g + 1, i, t => by
    intro m t' hr hm
    unfold conL at hr ⊢
    by_cases e1 : begs k (pk c n i) = true
    · rw [if_pos e1] at hr
      rw [if_pos (begs_more e1)]
      cases hq : prefP k c n un (skipB c n i) with
      | error p => rw [hq] at hr; cases hr
      | ok q =>
        obtain ⟨m', u⟩ := q
        rw [hq] at hr
        have : pk c n m' ≠ 97 + k := fun e => by
          obtain ⟨m2, h1, h2⟩ := conL_pk hk (un := un) g m' (t ++ u ++ [⟨7, 0⟩]) e
          rw [show conL k c n un g m' (t ++ u ++ [⟨7, 0⟩]) = .ok (m, t') from hr] at h1
          cases h1
          exact hm h2
        rw [prefP_pm hk hu _ m' u hq this]
        exact conL_pm hu g m' _ m t' hr hm
    · rw [if_neg e1] at hr
      have hx : pk c n i ≠ 97 + k := fun e => by
        cases hr
        exact hm (by rw [pk_skip]; exact e)
      rw [begs_new hk hx, if_neg e1]
      exact hr
theorem conP_pm {un un' : Nat → PR} (hu : ∀ j, PM k c n (un j) (un' j)) (i : Nat) : PM k c n (conP k c n un i) (conP (k + 1) c n un' i) := by
  intro m t hr hm
  unfold conP at hr ⊢
  cases hq : prefP k c n un i with
  | error p => rw [hq] at hr; cases hr
  | ok q =>
    obtain ⟨m', t'⟩ := q
    rw [hq] at hr
    have : pk c n m' ≠ 97 + k := fun e => by
      obtain ⟨m2, h1, h2⟩ := conL_pk hk (un := un) (n + 1) m' t' e
      rw [show conL k c n un (n + 1) m' t' = .ok (m, t) from hr] at h1
      cases h1
      exact hm h2
    rw [prefP_pm hk hu i m' t' hq this]
    exact conL_pm hk hu _ _ _ m t hr hm
theorem intL_pk {un : Nat → PR} : ∀ (g i : Nat) (t : List Nd), pk c n i = 97 + k → ∃ m', intL k c n un g i t = .ok (m', t) ∧ pk c n m' = 97 + k
  | 0, i, t, h => ⟨i, rfl, h⟩
  | g + 1, i, t, h => by
    unfold intL
    rw [if_neg (by omega)]
    exact ⟨_, rfl, by rw [pk_skip]; exact h⟩
theorem intL_pm {un un' : Nat → PR} (hu : ∀ j, PM k c n (un j) (un' j)) : ∀ (g i : Nat) (t : List Nd), PM k c n (intL k c n un g i t) (intL (k + 1) c n un' g i t)
  | 0, i, t => fun m t' h _ => h
  | g + 1, i, t => by
    intro m t' hr hm
    unfold intL at hr ⊢
    by_cases e1 : pk c n i = 38 ∨ pk c n i = 45
    · rw [if_pos e1] at hr
      rw [if_pos e1]
      cases hq : conP k c n un (skipB c n i + 1) with
      | error p => rw [hq] at hr; cases hr
      | ok q =>
        obtain ⟨m', u⟩ := q
        rw [hq] at hr
        have : pk c n m' ≠ 97 + k := fun e => by
          obtain ⟨m2, h1, h2⟩ := intL_pk hk (un := un) g m' _ e
          rw [show intL k c n un g m' _ = .ok (m, t') from hr] at h1
          cases h1
          exact hm h2
        rw [conP_pm hk hu _ m' u hq this]
        exact intL_pm hu g m' _ m t' hr hm
    · rw [if_neg e1] at hr ⊢
      exact hr
theorem intP_pm {un un' : Nat → PR} (hu : ∀ j, PM k c n (un j) (un' j)) (i : Nat) : PM k c n (intP k c n un i) (intP (k + 1) c n un' i) := by
  intro m t hr hm
  unfold intP at hr ⊢
  cases hq : conP k c n un i with
  | error p => rw [hq] at hr; cases hr
  | ok q =>
    obtain ⟨m', t'⟩ := q
    rw [hq] at hr
    have : pk c n m' ≠ 97 + k := fun e => by
      obtain ⟨m2, h1, h2⟩ := intL_pk hk (un := un) (n + 1) m' t' e
      rw [show intL k c n un (n + 1) m' t' = .ok (m, t) from hr] at h1
      cases h1
      exact hm h2
    rw [conP_pm hk hu i m' t' hq this]
    exact intL_pm hk hu _ _ _ m t hr hm
theorem uniL_pk {un : Nat → PR} : ∀ (g i : Nat) (t : List Nd), pk c n i = 97 + k → k ≤ 8 → ∃ m', uniL k c n un g i t = .ok (m', t) ∧ pk c n m' = 97 + k
  | 0, i, t, h, _ => ⟨i, rfl, h⟩
  | g + 1, i, t, h, h8 => by
    unfold uniL
    rw [if_neg (by omega)]
    exact ⟨_, rfl, by rw [pk_skip]; exact h⟩
theorem uniL_pm (h8 : k ≤ 8) {un un' : Nat → PR} (hu : ∀ j, PM k c n (un j) (un' j)) : ∀ (g i : Nat) (t : List Nd), PM k c n (uniL k c n un g i t) (uniL (k + 1) c n un' g i t)
  | 0, i, t => fun m t' h _ => h
  | g + 1, i, t => by
    intro m t' hr hm
    unfold uniL at hr ⊢
    by_cases e1 : pk c n i = 124
    · rw [if_pos e1] at hr
      rw [if_pos e1]
      cases hq : intP k c n un (skipB c n i + 1) with
      | error p => rw [hq] at hr; cases hr
      | ok q =>
        obtain ⟨m', u⟩ := q
        rw [hq] at hr
        have : pk c n m' ≠ 97 + k := fun e => by
          obtain ⟨m2, h1, h2⟩ := uniL_pk hk (un := un) g m' (t ++ u ++ [⟨5, 0⟩]) e h8
          rw [show uniL k c n un g m' (t ++ u ++ [⟨5, 0⟩]) = .ok (m, t') from hr] at h1
          cases h1
          exact hm h2
        rw [intP_pm hk hu _ m' u hq this]
        exact uniL_pm h8 hu g m' _ m t' hr hm
    · rw [if_neg e1] at hr ⊢
      exact hr
theorem unionP_pm (h8 : k ≤ 8) : ∀ (f i : Nat), PM k c n (unionP k c n f i) (unionP (k + 1) c n f i)
  | 0, i => fun m t h _ => by cases h
  | f + 1, i => by
    have hu : ∀ j, PM k c n (unionP k c n f j) (unionP (k + 1) c n f j) := fun j => unionP_pm h8 f j
    intro m t hr hm
    unfold unionP at hr ⊢
    cases hq : intP k c n (unionP k c n f) i with
    | error p => rw [hq] at hr; cases hr
    | ok q =>
      obtain ⟨m', t'⟩ := q
      rw [hq] at hr
      have : pk c n m' ≠ 97 + k := fun e => by
        obtain ⟨m2, h1, h2⟩ := uniL_pk hk (un := unionP k c n f) (n + 1) m' t' e h8
        rw [show uniL k c n (unionP k c n f) (n + 1) m' t' = .ok (m, t) from hr] at h1
        cases h1
        exact hm h2
      rw [intP_pm hk hu i m' t' hq this]
      exact uniL_pm hk h8 hu _ _ _ m t hr hm
/-- With more letters the same tree is read. -/
theorem parse_more (h8 : k < 8) {t : List Nd} (h : (parseP k c n).1 = 0) : parseP (k + 1) c n = parseP k c n := by
  unfold parseP at h ⊢
  rw [if_neg (by omega)] at h ⊢
  rw [if_neg (show ¬ (k < 1 ∨ 8 < k) by omega)]
  by_cases hn : 1000 < n
  · rw [if_pos hn, if_pos hn]
  rw [if_neg hn] at h ⊢
  rw [if_neg hn]
  cases hq : unionP k c n (n + 1) 0 with
  | error p => rw [hq] at h; cases h
  | ok q =>
    obtain ⟨m, t⟩ := q
    rw [hq] at h
    by_cases hl : skipB c n m < n
    · simp only [if_pos hl] at h; cases h
    · have hp : pk c n m ≠ 97 + k := by unfold pk; rw [if_neg hl]; omega
      rw [unionP_pm hk (by omega) (n + 1) 0 m t hq hp]
end
end Go.Eg
