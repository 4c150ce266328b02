/- Plain mathematics: what is printed is read as it was. Conditions: none. -/
import Derived.Test.YtaijjnndnoicpaaSynP
namespace Go.Eg

section
variable {k : Int} {c : Nat → Int} {n : Nat}
theorem nots_acc : ∀ (g i m : Nat), notsL c n g i (m + 1) = ((notsL c n g i m).1, (notsL c n g i m).2 + 1)
  | 0, i, m => rfl
  | g + 1, i, m => by
    unfold notsL
    by_cases e : pk c n i = 33
    · rw [if_pos e, if_pos e]; exact nots_acc g _ _
    · rw [if_neg e, if_neg e]
theorem nots_fuel : ∀ (g g' i m : Nat), n - i < g → n - i < g' → notsL c n g i m = notsL c n g' i m
  | 0, _, i, m, h, _ => by omega
  | g + 1, 0, i, m, _, h => by omega
  | g + 1, g' + 1, i, m, h, h' => by
    have s1 := skip_ge c n i
    unfold notsL
    by_cases e : pk c n i = 33
    · have := pk_lt (c := c) (n := n) (i := i) (by omega)
      rw [if_pos e, if_pos e]; exact nots_fuel g g' _ _ (by omega) (by omega)
    · rw [if_neg e, if_neg e]
theorem not4 {un : Nat → PR} {i e : Nat} {t : List Nd} (hi : i < n) (h33 : c i = 33) (h : Lv4 k c n un (i + 1) e t) : Lv4 k c n un i e (t ++ [⟨9, 0⟩]) := fun st => by
  have h4 := h st
  obtain ⟨p1, p2⟩ := pk_at (c := c) hi (by omega)
  have hn : notsL c n (n + 1) i 0 = ((notsL c n (n + 1) (i + 1) 0).1, (notsL c n (n + 1) (i + 1) 0).2 + 1) := by
    conv => lhs; unfold notsL
    rw [if_pos (by rw [p1]; exact h33), p2, nots_acc, nots_fuel n (n + 1) (i + 1) 0 (by omega) (by omega)]
  unfold prefP at h4 ⊢
  rw [hn]
  generalize notsL c n (n + 1) (i + 1) 0 = q at *
  cases hq : postP k c n un q.1 with
  | error p => rw [hq] at h4; cases h4
  | ok r =>
    obtain ⟨m, t0⟩ := r
    rw [hq] at h4
    injection h4 with h4
    obtain ⟨h5, h6⟩ := Prod.mk.inj h4
    subst h5 h6
    simp [List.replicate_succ']
theorem first {x : T} (hk : 1 ≤ k) (hw : x.wf) (hl : x.lets k) : ∃ ch l, x.pr = ch :: l ∧ ch ≠ 32 ∧ (4 ≤ x.bd → begs k ch = true) ∧ (5 ≤ x.bd → ch ≠ 33) := by
  have par : ∀ (b : Nat) (l : List Int) (L : Nat), (∃ ch l', l = ch :: l' ∧ ch ≠ 32) → ∃ ch l', wrapP b l L = ch :: l' ∧ ch ≠ 32 := fun b l L ⟨ch, l', h1, h2⟩ => by
    unfold wrapP
    split
    · exact ⟨40, _, rfl, by decide⟩
    · exact ⟨ch, l', h1, h2⟩
  induction x with
  | leaf nd =>
    obtain ⟨hg, ha⟩ := hw
    refine ⟨leafC nd, [], rfl, ?_⟩
    have hk9 := good_kind hg
    have h14 : nd.k = 1 ∨ nd.k = 2 ∨ nd.k = 3 ∨ nd.k = 4 := by unfold ar at ha; split at ha <;> (try split at ha) <;> (try split at ha) <;> omega
    rcases h14 with h | h | h | h
    · have : leafC nd = 48 := by unfold leafC; rw [if_pos h]
      rw [this]; exact ⟨by decide, fun _ => by simp [begs], fun _ => by decide⟩
    · have : leafC nd = 49 := by unfold leafC; rw [if_neg (by omega), if_pos h]
      rw [this]; exact ⟨by decide, fun _ => by simp [begs], fun _ => by decide⟩
    · have h1 : leafC nd = nd.s := by unfold leafC; rw [if_neg (by omega), if_neg (by omega), if_neg (by omega)]
      have h2 := hl h
      rw [h1]
      have h3 : 97 ≤ nd.s := by simp [isLet] at h2; omega
      exact ⟨by omega, fun _ => by unfold begs; rw [h2]; rfl, fun _ => by omega⟩
    · have : leafC nd = 46 := by unfold leafC; rw [if_neg (by omega), if_neg (by omega), if_pos h]
      rw [this]; exact ⟨by decide, fun _ => by simp [begs], fun _ => by decide⟩
  | un nd a ih =>
    obtain ⟨hg, ha, hwa⟩ := hw
    obtain ⟨ch, l, h1, h2, h3, h4⟩ := ih hwa hl
    have hk9 := good_kind hg
    have h89 : nd.k = 8 ∨ nd.k = 9 := by unfold ar at ha; split at ha <;> (try split at ha) <;> (try split at ha) <;> omega
    rcases h89 with h | h
    · have e : (T.un nd a).pr = wrapP a.bd a.pr 5 ++ [42] := by rw [T.pr_un, if_pos h]
      rw [e]
      by_cases hb : a.bd < 5
      · have : wrapP a.bd a.pr 5 = 40 :: (a.pr ++ [41]) := by unfold wrapP; rw [if_pos hb]; rfl
        rw [this]
        exact ⟨40, _, rfl, by decide, fun _ => by simp [begs], fun _ => by decide⟩
      · have : wrapP a.bd a.pr 5 = a.pr := by unfold wrapP; rw [if_neg hb]
        rw [this, h1]
        exact ⟨ch, _, rfl, h2, fun _ => h3 (by omega), fun _ => h4 (by omega)⟩
    · have e : (T.un nd a).pr = 33 :: wrapP a.bd a.pr 4 := by rw [T.pr_un, if_neg (by omega)]
      rw [e]
      have hb : (T.un nd a).bd = 4 := by unfold T.bd T.root bnd; rw [h]; rfl
      exact ⟨33, _, rfl, by decide, fun _ => by simp [begs], fun h => by omega⟩
  | bin nd a b iha ihb =>
    obtain ⟨hg, ha, hwa, hwb⟩ := hw
    obtain ⟨ch, l, h1, h2, h3, h4⟩ := iha hwa hl.1
    obtain ⟨ch', l', e1, e2⟩ := par a.bd a.pr (bnd nd.k) ⟨ch, l, h1, h2⟩
    have h567 : nd.k = 5 ∨ nd.k = 6 ∨ nd.k = 7 := by unfold ar at ha; split at ha <;> (try split at ha) <;> (try split at ha) <;> omega
    have hb : (T.bin nd a b).bd < 4 := by
      unfold T.bd T.root bnd
      rcases h567 with h | h | h <;> rw [h] <;> decide
    refine ⟨ch', l' ++ signC nd.k ++ wrapP b.bd b.pr (bnd nd.k + 1), by rw [T.pr_bin, e1]; simp, e2, fun h => by omega, fun h => by omega⟩
/-- What each rule reads, at a place where a tree's text stands. -/
def Reads (k : Int) (c : Nat → Int) (n : Nat) (un : Nat → PR) (L i e : Nat) (t : List Nd) : Prop :=
  (5 ≤ L → Lv5 k c n un i e t) ∧ (4 ≤ L → Lv4 k c n un i e t) ∧ (3 ≤ L → Lv3 k c n un i e t) ∧ (2 ≤ L → Lv2 k c n un i e t) ∧ Lv1 k c n un i e t
theorem Reads.of4 {un : Nat → PR} {i e : Nat} {t : List Nd} (h : Lv4 k c n un i e t) : Reads k c n un 4 i e t := ⟨fun h => by omega, fun _ => h, fun _ => lift3 h, fun _ => lift2 (lift3 h), lift1 (lift2 (lift3 h))⟩
theorem Reads.of5 {un : Nat → PR} {i e : Nat} {t : List Nd} (L : Nat) (h : Lv5 k c n un i e t) (hs : skipB c n i = i) (h33 : pk c n i ≠ 33) : Reads k c n un L i e t :=
  have h4 := lift4 h hs h33
  ⟨fun _ => h, fun _ => h4, fun _ => lift3 h4, fun _ => lift2 (lift3 h4), lift1 (lift2 (lift3 h4))⟩
theorem Reads.of3 {un : Nat → PR} {i e : Nat} {t : List Nd} (h : Lv3 k c n un i e t) : Reads k c n un 3 i e t := ⟨fun h => by omega, fun h => by omega, fun _ => h, fun _ => lift2 h, lift1 (lift2 h)⟩
theorem Reads.of2 {un : Nat → PR} {i e : Nat} {t : List Nd} (h : Lv2 k c n un i e t) : Reads k c n un 2 i e t := ⟨fun h => by omega, fun h => by omega, fun h => by omega, fun _ => h, lift1 h⟩
theorem Reads.of1 {un : Nat → PR} {i e : Nat} {t : List Nd} (h : Lv1 k c n un i e t) : Reads k c n un 1 i e t := ⟨fun h => by omega, fun h => by omega, fun h => by omega, fun h => by omega, h⟩
def AllR (k : Int) (c : Nat → Int) (n : Nat) (x : T) : Prop := ∀ i f, Seg c i x.pr → i + x.pr.length ≤ n → n - i ≤ f → Reads k c n (unionP k c n f) x.bd i (i + x.pr.length) x.flat
theorem begs_41 (hk : k ≤ 8) : begs k 41 = false := by
  have : isLet k 41 = false := by simp [isLet]
  unfold begs; rw [this]; decide
theorem begs_124 (hk : k ≤ 8) : begs k 124 = false := by
  have : isLet k 124 = false := by simp [isLet]; omega
  unfold begs; rw [this]; decide
theorem begs_38 (hk : k ≤ 8) : begs k 38 = false := by
  have : isLet k 38 = false := by simp [isLet]
  unfold begs; rw [this]; decide
theorem begs_not {ch : Int} (h : begs k ch = true) : ch ≠ 42 ∧ ch ≠ 63 := by
  constructor <;> (rintro rfl; simp [begs, isLet] at h)
/-- A part, in brackets or not. -/
theorem part (h8 : k ≤ 8) {y : T} (hy : AllR k c n y) (L : Nat) (i f : Nat) (hs : Seg c i (wrapP y.bd y.pr L)) (hn : i + (wrapP y.bd y.pr L).length ≤ n) (hf : n - i ≤ f) : Reads k c n (unionP k c n f) L i (i + (wrapP y.bd y.pr L).length) y.flat := by
  by_cases hb : y.bd < L
  · have e : wrapP y.bd y.pr L = 40 :: (y.pr ++ [41]) := by unfold wrapP; rw [if_pos hb]; rfl
    rw [e] at hs hn ⊢
    have hlen : (40 :: (y.pr ++ [41]) : List Int).length = y.pr.length + 2 := by simp
    rw [hlen] at hn ⊢
    have c0 := hs.head
    have hs1 := hs.tail
    have c1 : c (i + 1 + y.pr.length) = 41 := hs1.right.head
    obtain ⟨p1, p2⟩ := pk_at (c := c) (n := n) (i := i) (by omega) (by omega)
    obtain ⟨q1, q2⟩ := pk_at (c := c) (n := n) (i := i + 1 + y.pr.length) (by omega) (by omega)
    obtain ⟨f', rfl⟩ : ∃ f', f = f' + 1 := ⟨f - 1, by omega⟩
    have hy1 := (hy (i + 1) f' hs1.left (by omega) (by omega)).2.2.2.2
    obtain ⟨g, _, hg⟩ := hy1 ⟨q2, by omega, by omega⟩ (by rw [q1, c1]; exact begs_41 h8) (by omega) (by omega)
    have hu : unionP k c n (f' + 1) (i + 1) = .ok (i + 1 + y.pr.length, y.flat) := by
      rw [unionP_uni, hg]
      exact uniL_stop ⟨q2, by omega, by omega⟩ (by omega)
    have ha : atomP k c n (unionP k c n (f' + 1)) i = .ok (i + (y.pr.length + 2), y.flat) := by
      have hl : ¬ isLet k 40 = true := by simp [isLet]
      unfold atomP
      rw [p1, c0, if_neg hl, if_neg (by decide), if_neg (by decide), if_neg (by decide), if_pos rfl, p2, hu]
      simp only [q1, c1, if_true, q2]
      rw [show i + 1 + y.pr.length + 1 = i + (y.pr.length + 2) by omega]
    exact Reads.of5 L (lift5 ha) p2 (by omega)
  · have e : wrapP y.bd y.pr L = y.pr := by unfold wrapP; rw [if_neg hb]
    rw [e] at hs hn ⊢
    obtain ⟨a1, a2, a3, a4, a5⟩ := hy i f hs hn hf
    exact ⟨fun h => a1 (by omega), fun h => a2 (by omega), fun h => a3 (by omega), fun h => a4 (by omega), a5⟩
end
end Go.Eg
