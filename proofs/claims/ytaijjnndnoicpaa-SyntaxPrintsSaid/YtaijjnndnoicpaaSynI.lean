/- Plain mathematics: a blank more. Conditions: none. -/
import Derived.Test.YtaijjnndnoicpaaSynB
namespace Go.Eg

/-- The text with a blank at a. -/
def insB (c : Nat → Int) (a i : Nat) : Int := if i < a then c i else if i = a then 32 else c (i - 1)
def Rb (a i i' : Nat) : Prop := (i ≤ a ∧ i' = i) ∨ (a ≤ i ∧ i' = i + 1)
section
variable {c : Nat → Int} {n a : Nat}
theorem ins_past : ∀ (d i : Nat), n - i = d → a ≤ i → skipB (insB c a) (n + 1) (i + 1) = skipB c n i + 1
  | 0, i, hd, h => by
    rw [skip_here (by omega), skip_here (by omega)]
  | d + 1, i, hd, h => by
    have e : insB c a (i + 1) = c i := by unfold insB; rw [if_neg (by omega), if_neg (by omega)]; rfl
    by_cases hc : c i = 32
    · rw [skip_blank (by omega) (e.trans hc), skip_blank (by omega) hc]
      exact ins_past d (i + 1) (by omega) (by omega)
    · rw [skip_here (fun h => hc (e ▸ h.2)), skip_here (fun h => hc h.2)]
theorem ins_at (ha : a ≤ n) : skipB (insB c a) (n + 1) a = skipB c n a + 1 := by
  rw [skip_blank (by omega) (by unfold insB; rw [if_neg (by omega), if_pos rfl])]
  exact ins_past _ _ rfl (Nat.le_refl _)
theorem ins_before (ha : a ≤ n) : ∀ (d i : Nat), a - i = d → i ≤ a → (skipB c n i < a ∧ skipB (insB c a) (n + 1) i = skipB c n i) ∨ (a ≤ skipB c n i ∧ skipB (insB c a) (n + 1) i = skipB c n i + 1)
  | 0, i, hd, h => by
    have : i = a := by omega
    subst this
    exact .inr ⟨skip_ge _ _ _, ins_at ha⟩
  | d + 1, i, hd, h => by
    have e : insB c a i = c i := by unfold insB; rw [if_pos (by omega)]
    by_cases hc : c i = 32
    · rw [skip_blank (c := insB c a) (by omega) (e.trans hc), skip_blank (c := c) (by omega) hc]
      exact ins_before ha d (i + 1) (by omega) (by omega)
    · rw [skip_here (c := insB c a) (fun h => hc (e ▸ h.2)), skip_here (c := c) (fun h => hc h.2)]
      exact .inl ⟨by omega, rfl⟩
theorem ins_skip (ha : a ≤ n) {i i' : Nat} (hr : Rb a i i') : (skipB c n i < a ∧ skipB (insB c a) (n + 1) i' = skipB c n i) ∨ (a ≤ skipB c n i ∧ skipB (insB c a) (n + 1) i' = skipB c n i + 1) := by
  rcases hr with ⟨h1, rfl⟩ | ⟨h1, rfl⟩
  · exact ins_before ha _ _ rfl h1
  · have := skip_ge c n i
    exact .inr ⟨by omega, ins_past _ _ rfl h1⟩
theorem sim_ins (ha : a ≤ n) : Sim c n (insB c a) (n + 1) (Rb a) where
  pk := by
    intro i i' hi hr
    unfold pk
    rcases ins_skip (c := c) ha hr with ⟨h1, h2⟩ | ⟨h1, h2⟩
    · rw [h2, if_pos (by omega), if_pos (by omega)]; unfold insB; rw [if_pos h1]
    · rw [h2]
      by_cases h : skipB c n i < n
      · rw [if_pos (by omega), if_pos h]; unfold insB; rw [if_neg (by omega), if_neg (by omega)]; rfl
      · rw [if_neg (by omega), if_neg h]
  skip := by
    intro i i' hi hr
    rcases ins_skip (c := c) ha hr with ⟨h1, h2⟩ | ⟨h1, h2⟩
    · exact .inl ⟨by omega, h2⟩
    · exact .inr ⟨h1, h2⟩
  next := by
    intro i i' hi hr hl
    rcases ins_skip (c := c) ha hr with ⟨h1, h2⟩ | ⟨h1, h2⟩
    · exact .inl ⟨by omega, by omega⟩
    · exact .inr ⟨by omega, by omega⟩
  mono := by
    intro i i' m m' h1 h2 h3 _
    rcases h1 with ⟨_, rfl⟩ | ⟨_, rfl⟩ <;> rcases h2 with ⟨_, rfl⟩ | ⟨_, rfl⟩ <;> omega
/-- A blank more changes neither tree nor error, and the place by at most 1. -/
theorem parse_blank (k : Int) (ha : a ≤ n) (hn : n < 1000) : (parseP k (insB c a) (n + 1)).1 = (parseP k c n).1 ∧ (parseP k (insB c a) (n + 1)).2.2 = (parseP k c n).2.2 ∧ ((parseP k (insB c a) (n + 1)).2.1 = (parseP k c n).2.1 ∨ (parseP k (insB c a) (n + 1)).2.1 = (parseP k c n).2.1 + 1) := by
  unfold parseP
  by_cases h8 : k < 1 ∨ 8 < k
  · simp only [if_pos h8]; exact ⟨trivial, trivial, .inl trivial⟩
  simp only [if_neg h8]
  rw [if_neg (show ¬ 1000 < n + 1 by omega), if_neg (show ¬ 1000 < n by omega)]
  have hs := unionP_sim (k := k) (by omega) (sim_ins (c := c) ha) (n + 1) (n + 1 + 1) 0 0 (by omega) (.inl ⟨by omega, rfl⟩) (by omega) (by omega)
  have hg := unionP_gd (k := k) (c := c) (n := n) (by omega) (n + 1) 0 (by omega)
  cases hq : unionP k c n (n + 1) 0 with
  | error p =>
    rw [hq] at hs
    obtain ⟨p', h1, h2⟩ := hs.err
    rw [h1]
    refine ⟨rfl, rfl, ?_⟩
    rcases h2 with ⟨_, rfl⟩ | ⟨_, rfl⟩
    · exact .inl rfl
    · exact .inr rfl
  | ok q =>
    obtain ⟨m, t⟩ := q
    rw [hq] at hs hg
    obtain ⟨m', h1, h2⟩ := hs.good
    rw [h1]
    have h3 := ins_skip (c := c) ha h2
    by_cases hl : skipB c n m < n
    · have hl' : skipB (insB c a) (n + 1) m' < n + 1 := by omega
      simp only [if_pos hl, if_pos hl']
      refine ⟨trivial, trivial, ?_⟩
      omega
    · have hl' : ¬ skipB (insB c a) (n + 1) m' < n + 1 := by omega
      simp only [if_neg hl, if_neg hl']
      refine ⟨trivial, trivial, .inl trivial⟩
end
end Go.Eg
