/- Plain mathematics: the print of a tree, and that it is read as it was. Conditions: none. -/
import Derived.Test.YtaijjnndnoicpaaSynG
namespace Go.Eg

/-- How strongly a kind binds. -/
def bnd (k : Int) : Nat := if k = 5 then 1 else if k = 6 then 2 else if k = 7 then 3 else if k = 9 then 4 else if k = 8 then 5 else 6
def wrapP (b : Nat) (l : List Int) (least : Nat) : List Int := if b < least then 40 :: l ++ [41] else l
def leafC (n : Nd) : Int := if n.k = 1 then 48 else if n.k = 2 then 49 else if n.k = 4 then 46 else n.s
def signC (k : Int) : List Int := if k = 5 then [124] else if k = 6 then [38] else []
def T.bd (x : T) : Nat := bnd x.root.k
/-- The text of a tree. -/
def T.pr : T → List Int
  | leaf n => [leafC n]
  | un n a => if n.k = 8 then wrapP a.bd a.pr 5 ++ [42] else 33 :: wrapP a.bd a.pr 4
  | bin n a b => wrapP a.bd a.pr (bnd n.k) ++ signC n.k ++ wrapP b.bd b.pr (bnd n.k + 1)
theorem T.pr_un (n : Nd) (a : T) : (T.un n a).pr = if n.k = 8 then wrapP a.bd a.pr 5 ++ [42] else 33 :: wrapP a.bd a.pr 4 := rfl
theorem T.pr_bin (n : Nd) (a b : T) : (T.bin n a b).pr = wrapP a.bd a.pr (bnd n.k) ++ signC n.k ++ wrapP b.bd b.pr (bnd n.k + 1) := rfl
/-- Its letters are among the first k. -/
def T.lets (k : Int) : T → Prop
  | leaf n => n.k = 3 → isLet k n.s = true
  | un _ a => a.lets k
  | bin _ a b => a.lets k ∧ b.lets k
/-- A piece of a text. -/
def Seg (c : Nat → Int) (i : Nat) (l : List Int) : Prop := ∀ j x, l[j]? = some x → c (i + j) = x
theorem Seg.left {c : Nat → Int} {i : Nat} {l m : List Int} (h : Seg c i (l ++ m)) : Seg c i l := fun j x hx => h j x (by rw [List.getElem?_append_left (List.getElem?_eq_some_iff.1 hx).1]; exact hx)
theorem Seg.right {c : Nat → Int} {i : Nat} {l m : List Int} (h : Seg c i (l ++ m)) : Seg c (i + l.length) m := fun j x hx => by
  have := h (l.length + j) x (by rw [List.getElem?_append_right (by omega), show l.length + j - l.length = j by omega]; exact hx)
  rw [Nat.add_assoc]; exact this
theorem Seg.head {c : Nat → Int} {i : Nat} {x : Int} {l : List Int} (h : Seg c i (x :: l)) : c i = x := h 0 x rfl
theorem Seg.tail {c : Nat → Int} {i : Nat} {x : Int} {l : List Int} (h : Seg c i (x :: l)) : Seg c (i + 1) l := fun j y hy => by
  have := h (j + 1) y hy
  rwa [show i + 1 + j = i + (j + 1) by omega]
theorem pk_at {c : Nat → Int} {n i : Nat} (hi : i < n) (h : c i ≠ 32) : pk c n i = c i ∧ skipB c n i = i := by
  have : skipB c n i = i := skip_here (fun e => h e.2)
  exact ⟨by unfold pk; rw [this, if_pos hi], this⟩

section
variable {k : Int} {c : Nat → Int} {n : Nat}
def Lv5 (k : Int) (c : Nat → Int) (n : Nat) (un : Nat → PR) (i e : Nat) (t : List Nd) : Prop := ∃ g, n - e < g ∧ postP k c n un i = postL c n g e t
def St5 (c : Nat → Int) (n e : Nat) : Prop := skipB c n e = e ∧ pk c n e ≠ 42 ∧ pk c n e ≠ 63
def Lv4 (k : Int) (c : Nat → Int) (n : Nat) (un : Nat → PR) (i e : Nat) (t : List Nd) : Prop := St5 c n e → prefP k c n un i = .ok (e, t)
def Lv3 (k : Int) (c : Nat → Int) (n : Nat) (un : Nat → PR) (i e : Nat) (t : List Nd) : Prop := St5 c n e → ∃ g, n - e < g ∧ conP k c n un i = conL k c n un g e t
def Lv2 (k : Int) (c : Nat → Int) (n : Nat) (un : Nat → PR) (i e : Nat) (t : List Nd) : Prop := St5 c n e → begs k (pk c n e) = false → ∃ g, n - e < g ∧ intP k c n un i = intL k c n un g e t
/-- What the rule of unions does behind its first part. -/
def uniP (k : Int) (c : Nat → Int) (n : Nat) (un : Nat → PR) (i : Nat) : PR :=
  match intP k c n un i with
  | .error p => .error p
  | .ok (m, t) => uniL k c n un (n + 1) m t
def Lv1 (k : Int) (c : Nat → Int) (n : Nat) (un : Nat → PR) (i e : Nat) (t : List Nd) : Prop := St5 c n e → begs k (pk c n e) = false → pk c n e ≠ 38 → pk c n e ≠ 45 → ∃ g, n - e < g ∧ uniP k c n un i = uniL k c n un g e t
theorem postL_stop {g e : Nat} {t : List Nd} (h : St5 c n e) : postL c n g e t = .ok (e, t) := by
  cases g with
  | zero => rfl
  | succ g => unfold postL; rw [if_neg h.2.1, if_neg h.2.2, h.1]
theorem conL_stop {un : Nat → PR} {g e : Nat} {t : List Nd} (h : St5 c n e) (hb : begs k (pk c n e) = false) : conL k c n un g e t = .ok (e, t) := by
  cases g with
  | zero => rfl
  | succ g => unfold conL; rw [if_neg (by rw [hb]; decide), h.1]
theorem intL_stop {un : Nat → PR} {g e : Nat} {t : List Nd} (h : St5 c n e) (h1 : pk c n e ≠ 38) (h2 : pk c n e ≠ 45) : intL k c n un g e t = .ok (e, t) := by
  cases g with
  | zero => rfl
  | succ g => unfold intL; rw [if_neg (by omega), h.1]
theorem uniL_stop {un : Nat → PR} {g e : Nat} {t : List Nd} (h : St5 c n e) (h1 : pk c n e ≠ 124) : uniL k c n un g e t = .ok (e, t) := by
  cases g with
  | zero => rfl
  | succ g => unfold uniL; rw [if_neg h1, h.1]
theorem lift5 {un : Nat → PR} {i e : Nat} {t : List Nd} (h : atomP k c n un i = .ok (e, t)) : Lv5 k c n un i e t := ⟨n + 1, by omega, by unfold postP; rw [h]⟩
theorem lift4 {un : Nat → PR} {i e : Nat} {t : List Nd} (h : Lv5 k c n un i e t) (hs : skipB c n i = i) (h33 : pk c n i ≠ 33) : Lv4 k c n un i e t := fun st => by
  obtain ⟨g, _, hg⟩ := h
  have hn : notsL c n (n + 1) i 0 = (i, 0) := by unfold notsL; rw [if_neg h33, hs]
  unfold prefP
  rw [hn]
  simp only [hg, postL_stop st, List.replicate_zero, List.append_nil]
theorem lift3 {un : Nat → PR} {i e : Nat} {t : List Nd} (h : Lv4 k c n un i e t) : Lv3 k c n un i e t := fun st => ⟨n + 1, by omega, by unfold conP; rw [h st]⟩
theorem lift2 {un : Nat → PR} {i e : Nat} {t : List Nd} (h : Lv3 k c n un i e t) : Lv2 k c n un i e t := fun st hb => by
  obtain ⟨g, _, hg⟩ := h st
  exact ⟨n + 1, by omega, by unfold intP; rw [hg, conL_stop st hb]⟩
theorem lift1 {un : Nat → PR} {i e : Nat} {t : List Nd} (h : Lv2 k c n un i e t) : Lv1 k c n un i e t := fun st hb h1 h2 => by
  obtain ⟨g, _, hg⟩ := h st hb
  exact ⟨n + 1, by omega, by unfold uniP; rw [hg, intL_stop st h1 h2]⟩
theorem unionP_uni (f i : Nat) : unionP k c n (f + 1) i = uniP k c n (unionP k c n f) i := by rw [unionP]; rfl
end
end Go.Eg
