/- Plain mathematics: what was read has letters of the alphabet; its print is no longer than the text. Conditions: none. -/
import Derived.Test.YtaijjnndnoicpaaSynR
namespace Go.Eg

/-- No ? and no - in the text. -/
def Plain (c : Nat → Int) (n : Nat) : Prop := ∀ j, j < n → c j ≠ 63 ∧ c j ≠ 45
def Gw (k : Int) (c : Nat → Int) (n L i : Nat) : PR → Prop
  | .error _ => True
  | .ok (m, t) => i < m ∧ m ≤ n ∧ ∃ x : T, x.wf ∧ x.flat = t ∧ x.lets k ∧ (Plain c n → (wrapP x.bd x.pr L).length ≤ m - i)
theorem wrap_len (b : Nat) (l : List Int) (L : Nat) : (wrapP b l L).length = if b < L then l.length + 2 else l.length := by
  unfold wrapP; split <;> simp
theorem wrap_mono (b : Nat) (l : List Int) {L L' : Nat} (h : L ≤ L') : (wrapP b l L).length ≤ (wrapP b l L').length := by
  rw [wrap_len, wrap_len]; split <;> split <;> omega
theorem Gw.low {k : Int} {c : Nat → Int} {n L L' i i' : Nat} {r : PR} (h : Gw k c n L' i r) (hL : L ≤ L') (hi : i' ≤ i) : Gw k c n L i' r := by
  cases r with
  | error p => trivial
  | ok q =>
    obtain ⟨m, t⟩ := q
    obtain ⟨h1, h2, x, h3, h4, h5, h6⟩ := h
    exact ⟨by omega, h2, x, h3, h4, h5, fun hp => by have := h6 hp; have := wrap_mono x.bd x.pr hL; omega⟩
section
variable {k : Int} {c : Nat → Int} {n : Nat} (hk : k ≤ 8)
theorem pk_plain (hp : Plain c n) (i : Nat) : pk c n i ≠ 63 ∧ pk c n i ≠ 45 := by
  unfold pk
  by_cases h : skipB c n i < n
  · rw [if_pos h]; exact hp _ h
  · rw [if_neg h]; omega
include hk
theorem atomP_gw {un : Nat → PR} (hu : ∀ j, j ≤ n → Gw k c n 1 j (un j)) {i : Nat} (hi : i ≤ n) : Gw k c n 6 i (atomP k c n un i) := by
  have h1 := skip_ge c n i
  have leaf : ∀ nd : Nd, good nd = true → ar nd.k = 0 → (nd.k = 3 → isLet k nd.s = true) → pk c n i ≠ 0 → Gw k c n 6 i (.ok (skipB c n i + 1, [nd])) := fun nd g a hl hp => by
    have := pk_lt hp
    refine ⟨by omega, by omega, .leaf nd, ⟨g, a⟩, rfl, hl, fun _ => ?_⟩
    have hb : (T.leaf nd).bd = 6 := by
      have := good_kind g
      have h4 : nd.k ≤ 4 := by unfold ar at a; split at a <;> (try split at a) <;> (try split at a) <;> omega
      show bnd nd.k = 6
      unfold bnd
      rw [if_neg (by omega), if_neg (by omega), if_neg (by omega), if_neg (by omega), if_neg (by omega)]
    rw [wrap_len, if_neg (by omega)]
    show 1 ≤ _
    omega
  unfold atomP
  by_cases e1 : isLet k (pk c n i) = true
  · rw [if_pos e1]
    obtain ⟨l1, l2⟩ := let_range hk e1
    exact leaf _ (by simp [good]; omega) (by show ar 3 = 0; decide) (fun _ => e1) (by omega)
  rw [if_neg e1]
  by_cases e2 : pk c n i = 48
  · rw [if_pos e2]; exact leaf _ (by decide) (by decide) (fun h => by cases h) (by omega)
  rw [if_neg e2]
  by_cases e3 : pk c n i = 49
  · rw [if_pos e3]; exact leaf _ (by decide) (by decide) (fun h => by cases h) (by omega)
  rw [if_neg e3]
  by_cases e4 : pk c n i = 46
  · rw [if_pos e4]; exact leaf _ (by decide) (by decide) (fun h => by cases h) (by omega)
  rw [if_neg e4]
  by_cases e5 : pk c n i = 40
  · rw [if_pos e5]
    have hl := pk_lt (c := c) (n := n) (i := i) (by omega)
    have h3 := hu (skipB c n i + 1) (by omega)
    cases hr : un (skipB c n i + 1) with
    | error p => trivial
    | ok r =>
      obtain ⟨m, t⟩ := r
      rw [hr] at h3
      obtain ⟨g1, g2, x, g3, g4, g5, g6⟩ := h3
      have h4 := skip_ge c n m
      by_cases e6 : pk c n m = 41
      · simp only [if_pos e6]
        have := pk_lt (c := c) (n := n) (i := m) (by omega)
        refine ⟨by omega, by omega, x, g3, g4, g5, fun hp => ?_⟩
        have h6 := g6 hp
        rw [wrap_len] at h6 ⊢
        split at h6 <;> split <;> omega
      · simp only [if_neg e6]; trivial
  · rw [if_neg e5]; trivial
omit hk in
theorem postL_gw : ∀ (g i0 i : Nat) (t : List Nd), i ≤ n → Gw k c n 5 i0 (.ok (i, t)) → Gw k c n 5 i0 (postL c n g i t)
  | 0, i0, i, t, _, h => h
  | g + 1, i0, i, t, hi, h => by
    have s1 := skip_ge c n i
    have s2 := skip_le (c := c) hi
    obtain ⟨h1, h2, x, hx, hf, hl, hp⟩ := h
    unfold postL
    by_cases e1 : pk c n i = 42
    · rw [if_pos e1]
      have := pk_lt (c := c) (n := n) (i := i) (by omega)
      refine postL_gw g i0 _ _ (by omega) ⟨by omega, by omega, .un ⟨8, 0⟩ x, ⟨by decide, by decide, hx⟩, by simp [T.flat, hf], hl, fun hq => ?_⟩
      have h6 := hp hq
      have e : (T.un ⟨8, 0⟩ x).pr = wrapP x.bd x.pr 5 ++ [42] := rfl
      have hb : (T.un ⟨8, 0⟩ x).bd = 5 := rfl
      rw [wrap_len, if_neg (by omega), e, List.length_append, List.length_singleton]
      omega
    rw [if_neg e1]
    by_cases e2 : pk c n i = 63
    · rw [if_pos e2]
      have := pk_lt (c := c) (n := n) (i := i) (by omega)
      exact postL_gw g i0 _ _ (by omega) ⟨by omega, by omega, .bin ⟨5, 0⟩ x (.leaf ⟨2, 0⟩), ⟨by decide, by decide, hx, by decide, by decide⟩, by simp [T.flat, hf], ⟨hl, fun h => by cases h⟩, fun hq => absurd e2 (pk_plain hq i).1⟩
    rw [if_neg e2]
    exact ⟨by omega, s2, x, hx, hf, hl, fun hq => by have := hp hq; omega⟩
theorem postP_gw {un : Nat → PR} (hu : ∀ j, j ≤ n → Gw k c n 1 j (un j)) {i : Nat} (hi : i ≤ n) : Gw k c n 5 i (postP k c n un i) := by
  have h := (atomP_gw (c := c) hk hu hi).low (L := 5) (by omega) (Nat.le_refl _)
  unfold postP
  cases hr : atomP k c n un i with
  | error p => trivial
  | ok r =>
    obtain ⟨m, t⟩ := r
    rw [hr] at h
    exact postL_gw _ _ _ _ h.2.1 h
omit hk in
theorem nots_gw {x : T} {L0 : Nat} (hx : x.wf) (hl : x.lets k) (hp : Plain c n → (wrapP x.bd x.pr 4).length ≤ L0) : ∀ m, ∃ y : T, y.wf ∧ y.flat = x.flat ++ List.replicate m ⟨9, 0⟩ ∧ y.lets k ∧ (Plain c n → (wrapP y.bd y.pr 4).length ≤ L0 + m)
  | 0 => ⟨x, hx, by simp, hl, hp⟩
  | m + 1 => by
    obtain ⟨y, hy, hf, hly, hpy⟩ := nots_gw hx hl hp m
    refine ⟨.un ⟨9, 0⟩ y, ⟨by decide, by decide, hy⟩, by simp [T.flat, hf, List.replicate_succ'], hly, fun hq => ?_⟩
    have h6 := hpy hq
    have e : (T.un ⟨9, 0⟩ y).pr = 33 :: wrapP y.bd y.pr 4 := rfl
    have hb : (T.un ⟨9, 0⟩ y).bd = 4 := rfl
    rw [wrap_len, if_neg (by omega), e, List.length_cons]
    omega
theorem prefP_gw {un : Nat → PR} (hu : ∀ j, j ≤ n → Gw k c n 1 j (un j)) {i : Nat} (hi : i ≤ n) : Gw k c n 4 i (prefP k c n un i) := by
  obtain ⟨a, b, d⟩ := notsL_gd (c := c) (n + 1) i 0 hi
  have h := (postP_gw (c := c) hk hu b).low (L := 4) (by omega) (Nat.le_refl _)
  unfold prefP
  generalize notsL c n (n + 1) i 0 = q at *
  cases hr : postP k c n un q.1 with
  | error p => trivial
  | ok r =>
    obtain ⟨m, t⟩ := r
    rw [hr] at h
    obtain ⟨g1, g2, x, hx, hf, hl, hp⟩ := h
    obtain ⟨y, hy, hyf, hly, hpy⟩ := nots_gw hx hl hp q.2
    exact ⟨by omega, g2, y, hy, by rw [hyf, hf], hly, fun hq => by have := hpy hq; omega⟩
theorem conL_gw {un : Nat → PR} (hu : ∀ j, j ≤ n → Gw k c n 1 j (un j)) : ∀ (g i0 i : Nat) (t : List Nd), i ≤ n → Gw k c n 3 i0 (.ok (i, t)) → Gw k c n 3 i0 (conL k c n un g i t)
  | 0, i0, i, t, _, h => h
  | g + 1, i0, i, t, hi, h => by
    have s1 := skip_ge c n i
    have s2 := skip_le (c := c) hi
    obtain ⟨h1, h2, x, hx, hf, hl, hp⟩ := h
    unfold conL
    by_cases e1 : begs k (pk c n i) = true
    · rw [if_pos e1]
      have h := prefP_gw (c := c) hk hu s2
      cases hr : prefP k c n un (skipB c n i) with
      | error p => trivial
      | ok r =>
        obtain ⟨m, u⟩ := r
        rw [hr] at h
        obtain ⟨g1, g2, y, hy, hyf, hly, hpy⟩ := h
        refine conL_gw hu g i0 m _ g2 ⟨by omega, g2, .bin ⟨7, 0⟩ x y, ⟨by decide, by decide, hx, hy⟩, by simp [T.flat, hf, hyf], ⟨hl, hly⟩, fun hq => ?_⟩
        have h6 := hp hq
        have h7 := hpy hq
        have e : (T.bin ⟨7, 0⟩ x y).pr = wrapP x.bd x.pr 3 ++ [] ++ wrapP y.bd y.pr 4 := rfl
        have hb : (T.bin ⟨7, 0⟩ x y).bd = 3 := rfl
        rw [wrap_len, if_neg (by omega), e, List.length_append, List.length_append, List.length_nil]
        omega
    · rw [if_neg e1]
      exact ⟨by omega, s2, x, hx, hf, hl, fun hq => by have := hp hq; omega⟩
theorem conP_gw {un : Nat → PR} (hu : ∀ j, j ≤ n → Gw k c n 1 j (un j)) {i : Nat} (hi : i ≤ n) : Gw k c n 3 i (conP k c n un i) := by
  have h := (prefP_gw (c := c) hk hu hi).low (L := 3) (by omega) (Nat.le_refl _)
  unfold conP
  cases hr : prefP k c n un i with
  | error p => trivial
  | ok r =>
    obtain ⟨m, t⟩ := r
    rw [hr] at h
    exact conL_gw hk hu _ _ _ _ h.2.1 h
theorem intL_gw {un : Nat → PR} (hu : ∀ j, j ≤ n → Gw k c n 1 j (un j)) : ∀ (g i0 i : Nat) (t : List Nd), i ≤ n → Gw k c n 2 i0 (.ok (i, t)) → Gw k c n 2 i0 (intL k c n un g i t)
  | 0, i0, i, t, _, h => h
  | g + 1, i0, i, t, hi, h => by
    have s1 := skip_ge c n i
    have s2 := skip_le (c := c) hi
    obtain ⟨h1, h2, x, hx, hf, hl, hp⟩ := h
    unfold intL
    by_cases e1 : pk c n i = 38 ∨ pk c n i = 45
    · rw [if_pos e1]
      have hlt := pk_lt (c := c) (n := n) (i := i) (by omega)
      have h := conP_gw (c := c) hk hu (i := skipB c n i + 1) (by omega)
      cases hr : conP k c n un (skipB c n i + 1) with
      | error p => trivial
      | ok r =>
        obtain ⟨m, u⟩ := r
        rw [hr] at h
        obtain ⟨g1, g2, y, hy, hyf, hly, hpy⟩ := h
        by_cases e2 : pk c n i = 45
        · simp only [if_pos e2]
          exact intL_gw hu g i0 m _ g2 ⟨by omega, g2, .bin ⟨6, 0⟩ x (.un ⟨9, 0⟩ y), ⟨by decide, by decide, hx, by decide, by decide, hy⟩, by simp [T.flat, hf, hyf], ⟨hl, hly⟩, fun hq => absurd e2 (pk_plain hq i).2⟩
        · simp only [if_neg e2]
          refine intL_gw hu g i0 m _ g2 ⟨by omega, g2, .bin ⟨6, 0⟩ x y, ⟨by decide, by decide, hx, hy⟩, by simp [T.flat, hf, hyf], ⟨hl, hly⟩, fun hq => ?_⟩
          have h6 := hp hq
          have h7 := hpy hq
          have e : (T.bin ⟨6, 0⟩ x y).pr = wrapP x.bd x.pr 2 ++ [38] ++ wrapP y.bd y.pr 3 := rfl
          have hb : (T.bin ⟨6, 0⟩ x y).bd = 2 := rfl
          rw [wrap_len, if_neg (by omega), e, List.length_append, List.length_append, List.length_singleton]
          omega
    · rw [if_neg e1]
      exact ⟨by omega, s2, x, hx, hf, hl, fun hq => by have := hp hq; omega⟩
theorem intP_gw {un : Nat → PR} (hu : ∀ j, j ≤ n → Gw k c n 1 j (un j)) {i : Nat} (hi : i ≤ n) : Gw k c n 2 i (intP k c n un i) := by
  have h := (conP_gw (c := c) hk hu hi).low (L := 2) (by omega) (Nat.le_refl _)
  unfold intP
  cases hr : conP k c n un i with
  | error p => trivial
  | ok r =>
    obtain ⟨m, t⟩ := r
    rw [hr] at h
    exact intL_gw hk hu _ _ _ _ h.2.1 h
theorem uniL_gw {un : Nat → PR} (hu : ∀ j, j ≤ n → Gw k c n 1 j (un j)) : ∀ (g i0 i : Nat) (t : List Nd), i ≤ n → Gw k c n 1 i0 (.ok (i, t)) → Gw k c n 1 i0 (uniL k c n un g i t)
  | 0, i0, i, t, _, h => h
  | g + 1, i0, i, t, hi, h => by
    have s1 := skip_ge c n i
    have s2 := skip_le (c := c) hi
    obtain ⟨h1, h2, x, hx, hf, hl, hp⟩ := h
    unfold uniL
    by_cases e1 : pk c n i = 124
    · rw [if_pos e1]
      have hlt := pk_lt (c := c) (n := n) (i := i) (by omega)
      have h := intP_gw (c := c) hk hu (i := skipB c n i + 1) (by omega)
      cases hr : intP k c n un (skipB c n i + 1) with
      | error p => trivial
      | ok r =>
        obtain ⟨m, u⟩ := r
        rw [hr] at h
        obtain ⟨g1, g2, y, hy, hyf, hly, hpy⟩ := h
        refine uniL_gw hu g i0 m _ g2 ⟨by omega, g2, .bin ⟨5, 0⟩ x y, ⟨by decide, by decide, hx, hy⟩, by simp [T.flat, hf, hyf], ⟨hl, hly⟩, fun hq => ?_⟩
        have h6 := hp hq
        have h7 := hpy hq
        have e : (T.bin ⟨5, 0⟩ x y).pr = wrapP x.bd x.pr 1 ++ [124] ++ wrapP y.bd y.pr 2 := rfl
        have hb : (T.bin ⟨5, 0⟩ x y).bd = 1 := rfl
        rw [wrap_len, if_neg (by omega), e, List.length_append, List.length_append, List.length_singleton]
        omega
    · rw [if_neg e1]
      exact ⟨by omega, s2, x, hx, hf, hl, fun hq => by have := hp hq; omega⟩
theorem unionP_gw : ∀ (f i : Nat), i ≤ n → Gw k c n 1 i (unionP k c n f i)
  | 0, i, hi => trivial
  | f + 1, i, hi => by
    have hu : ∀ j, j ≤ n → Gw k c n 1 j (unionP k c n f j) := fun j hj => unionP_gw f j hj
    have h := (intP_gw (c := c) hk hu hi).low (L := 1) (by omega) (Nat.le_refl _)
    unfold unionP
    cases hr : intP k c n (unionP k c n f) i with
    | error p => trivial
    | ok r =>
      obtain ⟨m, t⟩ := r
      rw [hr] at h
      exact uniL_gw hk hu _ _ _ _ h.2.1 h
end
/-- What was read: a tree of the alphabet, not too deep; without ? and - its print is no longer than the text. -/
theorem parse_tree {k : Int} {c : Nat → Int} {n : Nat} (h : (parseP k c n).1 = 0) : 1 ≤ k ∧ k ≤ 8 ∧ n ≤ 1000 ∧ (parseP k c n).2.1 = 0 ∧ ∃ x : T, x.wf ∧ x.flat = (parseP k c n).2.2 ∧ x.lets k ∧ x.dep everyK ≤ 128 ∧ x.flat.length ≤ 4000 ∧ (Plain c n → x.pr.length ≤ n) := by
  unfold parseP at h ⊢
  by_cases h8 : k < 1 ∨ 8 < k
  · rw [if_pos h8] at h; cases h
  rw [if_neg h8] at h ⊢
  by_cases hn : 1000 < n
  · rw [if_pos hn] at h; cases h
  rw [if_neg hn] at h ⊢
  have hg := unionP_gw (k := k) (c := c) (n := n) (by omega) (n + 1) 0 (by omega)
  have hd := unionP_gd (k := k) (c := c) (n := n) (by omega) (n + 1) 0 (by omega)
  cases hq : unionP k c n (n + 1) 0 with
  | error p => rw [hq] at h; cases h
  | ok q =>
    obtain ⟨m, t⟩ := q
    rw [hq] at h hg hd
    obtain ⟨g1, g2, x, hx, hf, hl, hp⟩ := hg
    by_cases e1 : skipB c n m < n
    · simp only [if_pos e1] at h; cases h
    simp only [if_neg e1] at h ⊢
    by_cases e2 : 128 < (tr t).dep everyK
    · simp only [if_pos e2] at h; cases h
    simp only [if_neg e2]
    refine ⟨by omega, by omega, by omega, trivial, x, hx, hf, hl, by rw [← tr_flat hx, hf]; omega, by rw [hf]; have := hd.2.2.2; omega, fun hq => ?_⟩
    have h6 := hp hq
    rw [wrap_len] at h6
    split at h6 <;> omega
end Go.Eg
