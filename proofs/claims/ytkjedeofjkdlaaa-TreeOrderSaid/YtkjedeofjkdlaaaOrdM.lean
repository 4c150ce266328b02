/- Plain mathematics: Compare is an order. Conditions: none. -/
import Derived.Test.YtkjedeofjkdlaaaTreeM
namespace Go.Eg

theorem ordF_range (x y : Int) : -1 ≤ ordF x y ∧ ordF x y ≤ 1 := by unfold ordF; (repeat' split) <;> omega
theorem ordF_neg (x y : Int) : ordF y x = - ordF x y := by unfold ordF; (repeat' split) <;> omega
theorem ordF_zero {x y : Int} : ordF x y = 0 ↔ x = y := by unfold ordF; (repeat' split) <;> omega
theorem ordF_le {x y : Int} : ordF x y ≤ 0 ↔ x ≤ y := by unfold ordF; (repeat' split) <;> omega
theorem cmpN_range (n m : Nd) : -1 ≤ cmpN n m ∧ cmpN n m ≤ 1 := by unfold cmpN; split <;> exact ordF_range _ _
theorem cmpN_neg (n m : Nd) : cmpN m n = - cmpN n m := by
  unfold cmpN
  rw [ordF_neg n.k m.k, ordF_neg n.s m.s]
  split <;> split <;> omega
theorem cmpN_zero {n m : Nd} : cmpN n m = 0 ↔ n = m := by
  unfold cmpN
  obtain ⟨k, s⟩ := n
  obtain ⟨k', s'⟩ := m
  simp only [Nd.mk.injEq]
  split
  · rename_i h; rw [Ne, ordF_zero] at h; simp only [ordF_zero, h, false_and]
  · rename_i h; rw [Classical.not_not, ordF_zero] at h; simp only [ordF_zero, h, true_and]
theorem cmpN_le {n m : Nd} : cmpN n m ≤ 0 ↔ n.k < m.k ∨ n.k = m.k ∧ n.s ≤ m.s := by
  unfold cmpN
  split
  · rename_i h; rw [Ne, ordF_zero] at h; rw [ordF_le]; omega
  · rename_i h; rw [Classical.not_not, ordF_zero] at h; rw [ordF_le]; omega
theorem cmpN_trans {n m p : Nd} (h : cmpN n m ≤ 0) (h' : cmpN m p ≤ 0) : cmpN n p ≤ 0 := by rw [cmpN_le] at *; omega
theorem cmpN_anti {n m : Nd} (h : cmpN n m ≤ 0) (h' : cmpN m n ≤ 0) : n = m := by
  rw [cmpN_neg] at h'
  exact cmpN_zero.1 (by omega)
theorem cmpL_range : ∀ a b : List Nd, -1 ≤ cmpL a b ∧ cmpL a b ≤ 1
  | n :: a, m :: b => by
    unfold cmpL
    split
    · exact cmpN_range _ _
    · exact cmpL_range a b
  | [], _ => by simp [cmpL]
  | _ :: _, [] => by simp [cmpL]
theorem cmpL_neg : ∀ a b : List Nd, cmpL b a = - cmpL a b
  | n :: a, m :: b => by
    simp only [cmpL, cmpN_neg n m, cmpL_neg a b]
    split <;> split <;> omega
  | [], [] => rfl
  | [], _ :: _ => rfl
  | _ :: _, [] => rfl
theorem cmpL_zero : ∀ {a b : List Nd}, a.length = b.length → (cmpL a b = 0 ↔ a = b)
  | n :: a, m :: b, h => by
    have ih := cmpL_zero (a := a) (b := b) (by simpa using h)
    simp only [cmpL, List.cons.injEq]
    split
    · rename_i h0; rw [Ne, cmpN_zero] at h0; simp only [cmpN_zero, h0, false_and]
    · rename_i h0; rw [Classical.not_not, cmpN_zero] at h0; simp only [ih, h0, true_and]
  | [], [], _ => by simp [cmpL]
theorem cmpL_trans : ∀ {a b c : List Nd}, a.length = b.length → b.length = c.length → cmpL a b ≤ 0 → cmpL b c ≤ 0 → cmpL a c ≤ 0
  | n :: a, m :: b, p :: c, h, h', hx, hy => by
    have ih := cmpL_trans (a := a) (b := b) (c := c) (by simpa using h) (by simpa using h')
    simp only [cmpL] at *
    by_cases e1 : cmpN n m = 0
    · have := cmpN_zero.1 e1
      subst this
      rw [if_neg (by simp [e1])] at hx
      by_cases e2 : cmpN n p = 0
      · rw [if_neg (by simp [e2])] at hy ⊢
        exact ih hx hy
      · rw [if_pos e2] at hy ⊢
        exact hy
    · rw [if_pos e1] at hx
      by_cases e2 : cmpN m p = 0
      · have := cmpN_zero.1 e2
        subst this
        rw [if_pos e1]
        exact hx
      · rw [if_pos e2] at hy
        have ht := cmpN_trans hx hy
        by_cases e3 : cmpN n p = 0
        · have := cmpN_zero.1 e3
          subst this
          exact absurd (cmpN_zero.2 (cmpN_anti hx hy)) e1
        · rw [if_pos e3]
          exact ht
  | [], [], [], _, _, _, _ => by simp [cmpL]
theorem cmpF_range (a b : List Nd) : -1 ≤ cmpF a b ∧ cmpF a b ≤ 1 := by
  unfold cmpF
  split
  · exact ordF_range _ _
  · exact cmpL_range _ _
theorem cmpF_neg (a b : List Nd) : cmpF b a = - cmpF a b := by
  unfold cmpF
  rw [ordF_neg a.length b.length, cmpL_neg a b]
  split <;> split <;> omega
theorem cmpF_zero (a b : List Nd) : cmpF a b = 0 ↔ a = b := by
  unfold cmpF
  split
  · rename_i h
    constructor
    · exact fun e => absurd e h
    · rintro rfl; exact ordF_zero.2 rfl
  · rename_i h
    rw [Classical.not_not, ordF_zero] at h
    exact cmpL_zero (by omega)
theorem cmpF_self (a : List Nd) : cmpF a a = 0 := (cmpF_zero a a).2 rfl
theorem cmpF_trans {a b c : List Nd} (h : cmpF a b ≤ 0) (h' : cmpF b c ≤ 0) : cmpF a c ≤ 0 := by
  have key : ∀ x y : List Nd, cmpF x y ≤ 0 ↔ x.length < y.length ∨ x.length = y.length ∧ cmpL x y ≤ 0 := fun x y => by
    unfold cmpF
    split
    · rename_i h; rw [Ne, ordF_zero] at h; rw [ordF_le]; omega
    · rename_i h; rw [Classical.not_not, ordF_zero] at h
      constructor
      · exact fun e => .inr ⟨by omega, e⟩
      · rintro (e | e)
        · omega
        · exact e.2
  rw [key] at *
  rcases h with h | ⟨h, h1⟩ <;> rcases h' with h' | ⟨h', h2⟩
  · exact .inl (by omega)
  · exact .inl (by omega)
  · exact .inl (by omega)
  · exact .inr ⟨by omega, cmpL_trans h h' h1 h2⟩
end Go.Eg
