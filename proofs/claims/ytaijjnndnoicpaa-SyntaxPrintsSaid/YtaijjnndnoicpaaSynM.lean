/- Plain mathematics: the grammar, rule by rule, over bytes c 0 .. c (n - 1). Conditions: none. -/
import Derived.Test.YtaijjnndnoicpaaTreeM
namespace Go.Eg

/-- What a rule answers: where it broke; or how far it was read, and the nodes. -/
abbrev PR := Except Nat (Nat × List Nd)
/-- Blanks are passed over. -/
def skipB (c : Nat → Int) (n i : Nat) : Nat := if i < n ∧ c i = 32 then skipB c n (i + 1) else i
termination_by n - i
/-- The next sign; 0: there is none. -/
def pk (c : Nat → Int) (n i : Nat) : Int := if skipB c n i < n then c (skipB c n i) else 0
theorem skip_ge (c : Nat → Int) (n i : Nat) : i ≤ skipB c n i := by
  fun_induction skipB c n i with
  | case1 i h ih => omega
  | case2 i h => exact Nat.le_refl _
theorem skip_le {c : Nat → Int} {n i : Nat} (h : i ≤ n) : skipB c n i ≤ n := by
  fun_induction skipB c n i with
  | case1 i h' ih => exact ih (by omega)
  | case2 i h' => exact h
theorem skip_blank {c : Nat → Int} {n i : Nat} (h : i < n) (hc : c i = 32) : skipB c n i = skipB c n (i + 1) := by
  conv => lhs; unfold skipB
  rw [if_pos ⟨h, hc⟩]
theorem skip_here {c : Nat → Int} {n i : Nat} (h : ¬ (i < n ∧ c i = 32)) : skipB c n i = i := by
  unfold skipB; rw [if_neg h]
theorem skip_stop (c : Nat → Int) (n i : Nat) : ¬ (skipB c n i < n ∧ c (skipB c n i) = 32) := by
  fun_induction skipB c n i with
  | case1 i h ih => exact ih
  | case2 i h => exact h
theorem skip_skip (c : Nat → Int) (n i : Nat) : skipB c n (skipB c n i) = skipB c n i := skip_here (skip_stop c n i)
theorem pk_skip (c : Nat → Int) (n i : Nat) : pk c n (skipB c n i) = pk c n i := by unfold pk; rw [skip_skip]
/-- Is it one of the first k letters? -/
def isLet (k x : Int) : Bool := decide (97 ≤ x) && decide (x - 97 < k)
/-- May a prefix begin with it? -/
def begs (k x : Int) : Bool := isLet k x || x == 48 || x == 49 || x == 46 || x == 40 || x == 33

section
variable (k : Int) (c : Nat → Int) (n : Nat)
def atomP (un : Nat → PR) (i : Nat) : PR :=
  if isLet k (pk c n i) then .ok (skipB c n i + 1, [⟨3, pk c n i⟩])
  else if pk c n i = 48 then .ok (skipB c n i + 1, [⟨1, 0⟩])
  else if pk c n i = 49 then .ok (skipB c n i + 1, [⟨2, 0⟩])
  else if pk c n i = 46 then .ok (skipB c n i + 1, [⟨4, 0⟩])
  else if pk c n i = 40 then
    match un (skipB c n i + 1) with
    | .error p => .error p
    | .ok (m, t) => if pk c n m = 41 then .ok (skipB c n m + 1, t) else .error (skipB c n m)
  else .error (skipB c n i)
def postL : Nat → Nat → List Nd → PR
  | 0, i, t => .ok (i, t)
  | g + 1, i, t =>
    if pk c n i = 42 then postL g (skipB c n i + 1) (t ++ [⟨8, 0⟩])
    else if pk c n i = 63 then postL g (skipB c n i + 1) (t ++ [⟨2, 0⟩, ⟨5, 0⟩])
    else .ok (skipB c n i, t)
def postP (un : Nat → PR) (i : Nat) : PR :=
  match atomP k c n un i with
  | .error p => .error p
  | .ok (m, t) => postL c n (n + 1) m t
/-- The place behind the signs !, and how many they are. -/
def notsL : Nat → Nat → Nat → Nat × Nat
  | 0, i, m => (i, m)
  | g + 1, i, m => if pk c n i = 33 then notsL g (skipB c n i + 1) (m + 1) else (skipB c n i, m)
def prefP (un : Nat → PR) (i : Nat) : PR :=
  match postP k c n un (notsL c n (n + 1) i 0).1 with
  | .error p => .error p
  | .ok (m, t) => .ok (m, t ++ List.replicate (notsL c n (n + 1) i 0).2 ⟨9, 0⟩)
def conL (un : Nat → PR) : Nat → Nat → List Nd → PR
  | 0, i, t => .ok (i, t)
  | g + 1, i, t =>
    if begs k (pk c n i) then
      match prefP k c n un (skipB c n i) with
      | .error p => .error p
      | .ok (m, u) => conL un g m (t ++ u ++ [⟨7, 0⟩])
    else .ok (skipB c n i, t)
def conP (un : Nat → PR) (i : Nat) : PR :=
  match prefP k c n un i with
  | .error p => .error p
  | .ok (m, t) => conL k c n un (n + 1) m t
def intL (un : Nat → PR) : Nat → Nat → List Nd → PR
  | 0, i, t => .ok (i, t)
  | g + 1, i, t =>
    if pk c n i = 38 ∨ pk c n i = 45 then
      match conP k c n un (skipB c n i + 1) with
      | .error p => .error p
      | .ok (m, u) => intL un g m (t ++ u ++ (if pk c n i = 45 then [⟨9, 0⟩] else []) ++ [⟨6, 0⟩])
    else .ok (skipB c n i, t)
def intP (un : Nat → PR) (i : Nat) : PR :=
  match conP k c n un i with
  | .error p => .error p
  | .ok (m, t) => intL k c n un (n + 1) m t
def uniL (un : Nat → PR) : Nat → Nat → List Nd → PR
  | 0, i, t => .ok (i, t)
  | g + 1, i, t =>
    if pk c n i = 124 then
      match intP k c n un (skipB c n i + 1) with
      | .error p => .error p
      | .ok (m, u) => uniL un g m (t ++ u ++ [⟨5, 0⟩])
    else .ok (skipB c n i, t)
/-- The rule of unions; f: how many signs are left, at most, and one more. -/
def unionP : Nat → Nat → PR
  | 0, i => .error i
  | f + 1, i =>
    match intP k c n (unionP f) i with
    | .error p => .error p
    | .ok (m, t) => uniL k c n (unionP f) (n + 1) m t
/-- Error, place, tree. -/
def parseP : Int × Nat × List Nd :=
  if k < 1 ∨ 8 < k then (20, 0, [])
  else if 1000 < n then (40, 0, [])
  else match unionP k c n (n + 1) 0 with
    | .error p => (41, p, [])
    | .ok (m, t) => if skipB c n m < n then (41, skipB c n m, []) else if 128 < (tr t).dep everyK then (31, 0, []) else (0, 0, t)
end
end Go.Eg
