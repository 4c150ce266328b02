/- Plain mathematics: texts that differ in blanks are read alike. Conditions: none. -/
import Derived.Test.YtaijjnndnoicpaaSynG
namespace Go.Eg

/-- Two texts whose places correspond. -/
structure Sim (c : Nat → Int) (n : Nat) (c' : Nat → Int) (n' : Nat) (R : Nat → Nat → Prop) : Prop where
  pk : ∀ {i i'}, i ≤ n → R i i' → pk c' n' i' = pk c n i
  skip : ∀ {i i'}, i ≤ n → R i i' → R (skipB c n i) (skipB c' n' i')
  next : ∀ {i i'}, i ≤ n → R i i' → skipB c n i < n → R (skipB c n i + 1) (skipB c' n' i' + 1)
  mono : ∀ {i i' m m'}, R i i' → R m m' → i < m → m ≤ n → i' < m'
def Rel (R : Nat → Nat → Prop) : PR → PR → Prop
  | .error p, .error p' => R p p'
  | .ok (m, t), .ok (m', t') => R m m' ∧ t' = t
  | _, _ => False
theorem Rel.err {R : Nat → Nat → Prop} {r : PR} {p : Nat} (h : Rel R (.error p) r) : ∃ p', r = .error p' ∧ R p p' := by
  cases r with
  | error p' => exact ⟨p', rfl, h⟩
  | ok q => exact h.elim
theorem Rel.good {R : Nat → Nat → Prop} {r : PR} {m : Nat} {t : List Nd} (h : Rel R (.ok (m, t)) r) : ∃ m', r = .ok (m', t) ∧ R m m' := by
  cases r with
  | error p' => exact h.elim
  | ok q => obtain ⟨m', t'⟩ := q; obtain ⟨h1, rfl⟩ := h; exact ⟨m', rfl, h1⟩

theorem begs_zero (k : Int) : ¬ begs k 0 = true := by simp [begs, isLet]
section
variable {k : Int} {c c' : Nat → Int} {n n' : Nat} {R : Nat → Nat → Prop} (hk : k ≤ 8) (S : Sim c n c' n' R)
/-- What brackets hold is read alike, for so many signs. -/
def Un (n n' : Nat) (R : Nat → Nat → Prop) (un un' : Nat → PR) (f f' : Nat) : Prop := (∀ j, j ≤ n → Gd n j (un j)) ∧ ∀ j j', j ≤ n → R j j' → n - j < f → n' - j' < f' → Rel R (un j) (un' j')
include S
theorem postL_sim : ∀ (g g' i i' : Nat) (t : List Nd), i ≤ n → R i i' → n - i < g → n' - i' < g' → Rel R (postL c n g i t) (postL c' n' g' i' t)
  | 0, _, i, i', t, _, _, h, _ => by omega
  | g + 1, 0, i, i', t, _, _, _, h => by omega
  | g + 1, g' + 1, i, i', t, hi, hr, h1, h2 => by
    have e := S.pk hi hr
    have s1 := skip_ge c n i
    have s2 := skip_ge c' n' i'
    unfold postL
    rw [e]
    by_cases e1 : pk c n i = 42
    · rw [if_pos e1, if_pos e1]
      have l1 := pk_lt (c := c) (n := n) (i := i) (by omega)
      have l2 := pk_lt (c := c') (n := n') (i := i') (by omega)
      exact postL_sim g g' _ _ _ (by omega) (S.next hi hr l1) (by omega) (by omega)
    rw [if_neg e1, if_neg e1]
    by_cases e2 : pk c n i = 63
    · rw [if_pos e2, if_pos e2]
      have l1 := pk_lt (c := c) (n := n) (i := i) (by omega)
      have l2 := pk_lt (c := c') (n := n') (i := i') (by omega)
      exact postL_sim g g' _ _ _ (by omega) (S.next hi hr l1) (by omega) (by omega)
    rw [if_neg e2, if_neg e2]
    exact ⟨S.skip hi hr, rfl⟩
theorem notsL_sim : ∀ (g g' i i' m : Nat), i ≤ n → R i i' → n - i < g → n' - i' < g' → R (notsL c n g i m).1 (notsL c' n' g' i' m).1 ∧ (notsL c' n' g' i' m).2 = (notsL c n g i m).2 ∧ i' ≤ (notsL c' n' g' i' m).1
  | 0, _, i, i', m, _, _, h, _ => by omega
  | g + 1, 0, i, i', m, _, _, _, h => by omega
  | g + 1, g' + 1, i, i', m, hi, hr, h1, h2 => by
    have e := S.pk hi hr
    have s1 := skip_ge c n i
    have s2 := skip_ge c' n' i'
    unfold notsL
    rw [e]
    by_cases e1 : pk c n i = 33
    · rw [if_pos e1, if_pos e1]
      have l1 := pk_lt (c := c) (n := n) (i := i) (by omega)
      have l2 := pk_lt (c := c') (n := n') (i := i') (by omega)
      obtain ⟨a, b, d⟩ := notsL_sim g g' _ _ (m + 1) (by omega) (S.next hi hr l1) (by omega) (by omega)
      exact ⟨a, b, by omega⟩
    · rw [if_neg e1, if_neg e1]
      exact ⟨S.skip hi hr, rfl, s2⟩
include hk
theorem atomP_sim {un un' : Nat → PR} {f f' : Nat} (hu : Un n n' R un un' f f') {i i' : Nat} (hi : i ≤ n) (hr : R i i') (b : n - i ≤ f) (b' : n' - i' ≤ f') : Rel R (atomP k c n un i) (atomP k c' n' un' i') := by
  have e := S.pk hi hr
  have s1 := skip_ge c n i
  have s2 := skip_ge c' n' i'
  unfold atomP
  rw [e]
  have nx : pk c n i ≠ 0 → R (skipB c n i + 1) (skipB c' n' i' + 1) := fun h => S.next hi hr (pk_lt h)
  by_cases e1 : isLet k (pk c n i) = true
  · rw [if_pos e1, if_pos e1]; exact ⟨nx (by have := let_range hk e1; omega), rfl⟩
  rw [if_neg e1, if_neg e1]
  by_cases e2 : pk c n i = 48
  · rw [if_pos e2, if_pos e2]; exact ⟨nx (by omega), rfl⟩
  rw [if_neg e2, if_neg e2]
  by_cases e3 : pk c n i = 49
  · rw [if_pos e3, if_pos e3]; exact ⟨nx (by omega), rfl⟩
  rw [if_neg e3, if_neg e3]
  by_cases e4 : pk c n i = 46
  · rw [if_pos e4, if_pos e4]; exact ⟨nx (by omega), rfl⟩
  rw [if_neg e4, if_neg e4]
  by_cases e5 : pk c n i = 40
  · rw [if_pos e5, if_pos e5]
    have l1 := pk_lt (c := c) (n := n) (i := i) (by omega)
    have l2 := pk_lt (c := c') (n := n') (i := i') (by omega)
    have h := hu.2 _ _ (by omega) (nx (by omega)) (by omega) (by omega)
    have hg := hu.1 (skipB c n i + 1) (by omega)
    cases hq : un (skipB c n i + 1) with
    | error p =>
      rw [hq] at h
      obtain ⟨p', h1, h2⟩ := h.err
      rw [h1]
      exact h2
    | ok q =>
      obtain ⟨m, t⟩ := q
      rw [hq] at h hg
      obtain ⟨m', h1, h2⟩ := h.good
      rw [h1]
      have hm : m ≤ n := hg.2.1
      have e' := S.pk hm h2
      simp only [e']
      by_cases e6 : pk c n m = 41
      · rw [if_pos e6, if_pos e6]
        exact ⟨S.next hm h2 (pk_lt (by omega)), rfl⟩
      · rw [if_neg e6, if_neg e6]
        exact S.skip hm h2
  · rw [if_neg e5, if_neg e5]
    exact S.skip hi hr
theorem postP_sim {un un' : Nat → PR} {f f' : Nat} (hu : Un n n' R un un' f f') {i i' : Nat} (hi : i ≤ n) (hr : R i i') (b : n - i ≤ f) (b' : n' - i' ≤ f') : Rel R (postP k c n un i) (postP k c' n' un' i') := by
  have h := atomP_sim hk S hu hi hr b b'
  have hg := atomP_gd (c := c) hk hu.1 hi
  unfold postP
  cases hq : atomP k c n un i with
  | error p =>
    rw [hq] at h
    obtain ⟨p', h1, h2⟩ := h.err
    rw [h1]; exact h2
  | ok q =>
    obtain ⟨m, t⟩ := q
    rw [hq] at h hg
    obtain ⟨m', h1, h2⟩ := h.good
    rw [h1]
    exact postL_sim S _ _ _ _ _ hg.2.1 h2 (by omega) (by omega)
theorem prefP_sim {un un' : Nat → PR} {f f' : Nat} (hu : Un n n' R un un' f f') {i i' : Nat} (hi : i ≤ n) (hr : R i i') (b : n - i ≤ f) (b' : n' - i' ≤ f') : Rel R (prefP k c n un i) (prefP k c' n' un' i') := by
  obtain ⟨a1, a2, a3⟩ := notsL_gd (c := c) (n + 1) i 0 hi
  obtain ⟨d1, d2, d3⟩ := notsL_sim S (n + 1) (n' + 1) i i' 0 hi hr (by omega) (by omega)
  have h := postP_sim hk S hu a2 d1 (by omega) (by omega)
  unfold prefP
  rw [d2]
  cases hq : postP k c n un (notsL c n (n + 1) i 0).1 with
  | error p =>
    rw [hq] at h
    obtain ⟨p', h1, h2⟩ := h.err
    rw [h1]; exact h2
  | ok q =>
    obtain ⟨m, t⟩ := q
    rw [hq] at h
    obtain ⟨m', h1, h2⟩ := h.good
    rw [h1]
    exact ⟨h2, rfl⟩
theorem conL_sim {un un' : Nat → PR} {f f' : Nat} (hu : Un n n' R un un' f f') : ∀ (g g' i i' : Nat) (t : List Nd), i ≤ n → R i i' → n - i ≤ f → n' - i' ≤ f' → n - i < g → n' - i' < g' → Rel R (conL k c n un g i t) (conL k c' n' un' g' i' t)
  | 0, _, i, i', t, _, _, _, _, h, _ => by omega
  | g + 1, 0, i, i', t, _, _, _, _, _, h => by omega
  | g + 1, g' + 1, i, i', t, hi, hr, b, b', h1, h2 => by
    have e := S.pk hi hr
    have s1 := skip_ge c n i
    have s2 := skip_ge c' n' i'
    have s3 := skip_le (c := c) hi
    unfold conL
    rw [e]
    by_cases e1 : begs k (pk c n i) = true
    · rw [if_pos e1, if_pos e1]
      have hp : pk c n i ≠ 0 := fun e0 => by rw [e0] at e1; exact absurd e1 (begs_zero k)
      have l1 := pk_lt (c := c) (n := n) (i := i) hp
      have l2 := pk_lt (c := c') (n := n') (i := i') (by rw [e]; exact hp)
      have hR := S.skip hi hr
      have h := prefP_sim hk S hu (i := skipB c n i) (i' := skipB c' n' i') (by omega) hR (by omega) (by omega)
      have hg := prefP_gd (c := c) hk hu.1 (i := skipB c n i) (by omega)
      cases hq : prefP k c n un (skipB c n i) with
      | error p =>
        rw [hq] at h
        obtain ⟨p', k1, k2⟩ := h.err
        rw [k1]; exact k2
      | ok q =>
        obtain ⟨m, u⟩ := q
        rw [hq] at h hg
        obtain ⟨m', k1, k2⟩ := h.good
        rw [k1]
        have hm := S.mono hR k2 hg.1 hg.2.1
        have hm0 := hg.1
        exact conL_sim hu g g' _ _ _ hg.2.1 k2 (by omega) (by omega) (by omega) (by omega)
    · rw [if_neg e1, if_neg e1]
      exact ⟨S.skip hi hr, rfl⟩
theorem conP_sim {un un' : Nat → PR} {f f' : Nat} (hu : Un n n' R un un' f f') {i i' : Nat} (hi : i ≤ n) (hr : R i i') (b : n - i ≤ f) (b' : n' - i' ≤ f') : Rel R (conP k c n un i) (conP k c' n' un' i') := by
  have h := prefP_sim hk S hu hi hr b b'
  have hg := prefP_gd (c := c) hk hu.1 hi
  unfold conP
  cases hq : prefP k c n un i with
  | error p =>
    rw [hq] at h
    obtain ⟨p', h1, h2⟩ := h.err
    rw [h1]; exact h2
  | ok q =>
    obtain ⟨m, t⟩ := q
    rw [hq] at h hg
    obtain ⟨m', h1, h2⟩ := h.good
    rw [h1]
    have hm := S.mono hr h2 hg.1 hg.2.1
    have hm0 := hg.1
    exact conL_sim hk S hu _ _ _ _ _ hg.2.1 h2 (by omega) (by omega) (by omega) (by omega)
theorem intL_sim {un un' : Nat → PR} {f f' : Nat} (hu : Un n n' R un un' f f') : ∀ (g g' i i' : Nat) (t : List Nd), i ≤ n → R i i' → n - i ≤ f → n' - i' ≤ f' → n - i < g → n' - i' < g' → Rel R (intL k c n un g i t) (intL k c' n' un' g' i' t)
  | 0, _, i, i', t, _, _, _, _, h, _ => by omega
  | g + 1, 0, i, i', t, _, _, _, _, _, h => by omega
  | g + 1, g' + 1, i, i', t, hi, hr, b, b', h1, h2 => by
    have e := S.pk hi hr
    have s1 := skip_ge c n i
    have s2 := skip_ge c' n' i'
    have s3 := skip_le (c := c) hi
    unfold intL
    rw [e]
    by_cases e1 : pk c n i = 38 ∨ pk c n i = 45
    · rw [if_pos e1, if_pos e1]
      have hp : pk c n i ≠ 0 := by omega
      have l1 := pk_lt (c := c) (n := n) (i := i) hp
      have l2 := pk_lt (c := c') (n := n') (i := i') (by rw [e]; exact hp)
      have hR := S.next hi hr l1
      have h := conP_sim hk S hu (i := skipB c n i + 1) (i' := skipB c' n' i' + 1) (by omega) hR (by omega) (by omega)
      have hg := conP_gd (c := c) hk hu.1 (i := skipB c n i + 1) (by omega)
      cases hq : conP k c n un (skipB c n i + 1) with
      | error p =>
        rw [hq] at h
        obtain ⟨p', k1, k2⟩ := h.err
        rw [k1]; exact k2
      | ok q =>
        obtain ⟨m, u⟩ := q
        rw [hq] at h hg
        obtain ⟨m', k1, k2⟩ := h.good
        rw [k1]
        have hm := S.mono hR k2 hg.1 hg.2.1
        have hm0 := hg.1
        exact intL_sim hu g g' _ _ _ hg.2.1 k2 (by omega) (by omega) (by omega) (by omega)
    · rw [if_neg e1, if_neg e1]
      exact ⟨S.skip hi hr, rfl⟩
theorem intP_sim {un un' : Nat → PR} {f f' : Nat} (hu : Un n n' R un un' f f') {i i' : Nat} (hi : i ≤ n) (hr : R i i') (b : n - i ≤ f) (b' : n' - i' ≤ f') : Rel R (intP k c n un i) (intP k c' n' un' i') := by
  have h := conP_sim hk S hu hi hr b b'
  have hg := conP_gd (c := c) hk hu.1 hi
  unfold intP
  cases hq : conP k c n un i with
  | error p =>
    rw [hq] at h
    obtain ⟨p', h1, h2⟩ := h.err
    rw [h1]; exact h2
  | ok q =>
    obtain ⟨m, t⟩ := q
    rw [hq] at h hg
    obtain ⟨m', h1, h2⟩ := h.good
    rw [h1]
    have hm := S.mono hr h2 hg.1 hg.2.1
    have hm0 := hg.1
    exact intL_sim hk S hu _ _ _ _ _ hg.2.1 h2 (by omega) (by omega) (by omega) (by omega)
theorem uniL_sim {un un' : Nat → PR} {f f' : Nat} (hu : Un n n' R un un' f f') : ∀ (g g' i i' : Nat) (t : List Nd), i ≤ n → R i i' → n - i ≤ f → n' - i' ≤ f' → n - i < g → n' - i' < g' → Rel R (uniL k c n un g i t) (uniL k c' n' un' g' i' t)
  | 0, _, i, i', t, _, _, _, _, h, _ => by omega
  | g + 1, 0, i, i', t, _, _, _, _, _, h => by omega
  | g + 1, g' + 1, i, i', t, hi, hr, b, b', h1, h2 => by
    have e := S.pk hi hr
    have s1 := skip_ge c n i
    have s2 := skip_ge c' n' i'
    have s3 := skip_le (c := c) hi
    unfold uniL
    rw [e]
    by_cases e1 : pk c n i = 124
    · rw [if_pos e1, if_pos e1]
      have hp : pk c n i ≠ 0 := by omega
      have l1 := pk_lt (c := c) (n := n) (i := i) hp
      have l2 := pk_lt (c := c') (n := n') (i := i') (by rw [e]; exact hp)
      have hR := S.next hi hr l1
      have h := intP_sim hk S hu (i := skipB c n i + 1) (i' := skipB c' n' i' + 1) (by omega) hR (by omega) (by omega)
      have hg := intP_gd (c := c) hk hu.1 (i := skipB c n i + 1) (by omega)
      cases hq : intP k c n un (skipB c n i + 1) with
      | error p =>
        rw [hq] at h
        obtain ⟨p', k1, k2⟩ := h.err
        rw [k1]; exact k2
      | ok q =>
        obtain ⟨m, u⟩ := q
        rw [hq] at h hg
        obtain ⟨m', k1, k2⟩ := h.good
        rw [k1]
        have hm := S.mono hR k2 hg.1 hg.2.1
        have hm0 := hg.1
        exact uniL_sim hu g g' _ _ _ hg.2.1 k2 (by omega) (by omega) (by omega) (by omega)
    · rw [if_neg e1, if_neg e1]
      exact ⟨S.skip hi hr, rfl⟩
theorem unionP_sim : ∀ (f f' i i' : Nat), i ≤ n → R i i' → n - i < f → n' - i' < f' → Rel R (unionP k c n f i) (unionP k c' n' f' i')
  | 0, _, i, i', _, _, h, _ => by omega
  | f + 1, 0, i, i', _, _, _, h => by omega
  | f + 1, f' + 1, i, i', hi, hr, h1, h2 => by
    have hu : Un n n' R (unionP k c n f) (unionP k c' n' f') f f' := ⟨fun j hj => unionP_gd hk f j hj, fun j j' a b d e => unionP_sim f f' j j' a b d e⟩
    have h := intP_sim hk S hu hi hr (by omega) (by omega)
    have hg := intP_gd (c := c) hk hu.1 hi
    unfold unionP
    cases hq : intP k c n (unionP k c n f) i with
    | error p =>
      rw [hq] at h
      obtain ⟨p', k1, k2⟩ := h.err
      rw [k1]; exact k2
    | ok q =>
      obtain ⟨m, t⟩ := q
      rw [hq] at h hg
      obtain ⟨m', k1, k2⟩ := h.good
      rw [k1]
      have hm := S.mono hr k2 hg.1 hg.2.1
      have hm0 := hg.1
      exact uniL_sim hk S hu _ _ _ _ _ hg.2.1 k2 (by omega) (by omega) (by omega) (by omega)
end
end Go.Eg
