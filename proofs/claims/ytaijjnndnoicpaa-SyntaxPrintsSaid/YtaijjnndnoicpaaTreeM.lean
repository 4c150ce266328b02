/- Plain mathematics of expression trees as lists: no Go and no program in it. Conditions: none. -/
import Derived.Lib.Hide
namespace Go.Eg

structure Nd where
  k : Int
  s : Int
  deriving DecidableEq
def nth (t : List Nd) (i : Nat) : Nd := t.getD i ⟨0, 0⟩
theorem nth_get {t : List Nd} {i : Nat} (h : i < t.length) : t[i]? = some (nth t i) := by simp [nth, List.getD_eq_getElem?_getD, List.getElem?_eq_getElem h]

/-- the number of parts of a kind; -1: no kind -/
def ar (k : Int) : Int := if 5 ≤ k ∧ k ≤ 7 then 2 else if k = 8 ∨ k = 9 then 1 else if 1 ≤ k ∧ k ≤ 4 then 0 else -1
theorem ar_le (k : Int) : -1 ≤ ar k ∧ ar k ≤ 2 := by unfold ar; split <;> (try split) <;> (try split) <;> omega
def good (n : Nd) : Bool := if n.k = 3 then decide (97 ≤ n.s ∧ n.s ≤ 104) else decide (n.s = 0 ∧ 0 ≤ ar n.k)
theorem good_ar {n : Nd} (h : good n = true) : 0 ≤ ar n.k := by
  unfold good at h
  split at h
  · rename_i h3; rw [h3]; decide
  · simp at h; exact h.2
theorem good_kind {n : Nd} (h : good n = true) : 1 ≤ n.k ∧ n.k ≤ 9 := by
  have := good_ar h
  unfold ar at this
  split at this
  · omega
  · split at this
    · omega
    · split at this
      · omega
      · omega
/-- from a stack of h trees on -/
def ok : Int → List Nd → Bool
  | h, [] => h == 1
  | h, n :: t => good n && decide (ar n.k ≤ h) && ok (h + (1 - ar n.k)) t
/-- the error of a list that must be a tree -/
def errW (t : List Nd) : Int := if 4000 < t.length then 6 else if ok 0 t then 0 else 30
theorem errW_ok {t : List Nd} (h : errW t = 0) : t.length ≤ 4000 ∧ ok 0 t = true := by
  unfold errW at h
  split at h
  · cases h
  · split at h
    · exact ⟨by omega, by assumption⟩
    · cases h
theorem ok_take {t : List Nd} : ∀ {i : Nat} {h : Int}, i < t.length → ok h (t.drop i) = (good (nth t i) && decide (ar (nth t i).k ≤ h) && ok (h + (1 - ar (nth t i).k)) (t.drop (i + 1))) := by
  intro i h hi
  rw [List.drop_eq_getElem_cons hi, ok]
  simp [nth, List.getD_eq_getElem?_getD, List.getElem?_eq_getElem hi]

/-- An expression. -/
inductive T where
  | leaf (n : Nd)
  | un (n : Nd) (a : T)
  | bin (n : Nd) (a b : T)
def T.flat : T → List Nd
  | leaf n => [n]
  | un n a => a.flat ++ [n]
  | bin n a b => a.flat ++ b.flat ++ [n]
def T.wf : T → Prop
  | leaf n => good n = true ∧ ar n.k = 0
  | un n a => good n = true ∧ ar n.k = 1 ∧ a.wf
  | bin n a b => good n = true ∧ ar n.k = 2 ∧ a.wf ∧ b.wf
def T.root : T → Nd
  | leaf n => n
  | un n _ => n
  | bin n _ _ => n
def T.kids : T → List T
  | leaf _ => []
  | un _ a => [a]
  | bin _ a b => [a, b]
theorem T.flat_ne (x : T) : x.flat ≠ [] := by cases x <;> simp [T.flat]
theorem T.flat_pos (x : T) : 0 < x.flat.length := List.length_pos_iff.2 x.flat_ne
theorem T.flat_root (x : T) : x.flat = x.kids.flatMap T.flat ++ [x.root] := by cases x <;> simp [T.flat, T.kids, T.root]
theorem T.wf_root {x : T} (h : x.wf) : good x.root = true ∧ ar x.root.k = x.kids.length := by
  cases x with
  | leaf n => exact ⟨h.1, h.2⟩
  | un n a => exact ⟨h.1, h.2.1⟩
  | bin n a b => exact ⟨h.1, h.2.1⟩
theorem T.wf_kids {x : T} (h : x.wf) : ∀ y ∈ x.kids, y.wf := by
  cases x with
  | leaf n => intro y hy; cases hy
  | un n a => intro y hy; simp [T.kids] at hy; subst hy; exact h.2.2
  | bin n a b =>
    intro y hy
    simp [T.kids] at hy
    rcases hy with rfl | rfl
    · exact h.2.2.1
    · exact h.2.2.2
theorem T.nth_root (x : T) : nth x.flat (x.flat.length - 1) = x.root := by
  rw [T.flat_root, List.length_append]
  simp [nth, List.getD_eq_getElem?_getD]

/-- One node behind a stack of trees (its top is the list's head). -/
def push (n : Nd) (S : List T) : List T :=
  if ar n.k = 2 then (match S with | b :: a :: S => .bin n a b :: S | S => .leaf n :: S)
  else if ar n.k = 1 then (match S with | a :: S => .un n a :: S | S => .leaf n :: S)
  else .leaf n :: S
def stk (t : List Nd) : List T := t.foldl (fun S n => push n S) []
theorem stk_snoc (t : List Nd) (n : Nd) : stk (t ++ [n]) = push n (stk t) := by simp [stk]
/-- the list of a stack of trees -/
def fl (S : List T) : List Nd := S.reverse.flatMap T.flat
theorem fl_cons (x : T) (S : List T) : fl (x :: S) = fl S ++ x.flat := by simp [fl]

/-- What the three cases of a push are. -/
inductive Pushed (n : Nd) : List T → List T → Prop where
  | leaf (S : List T) (h : ar n.k = 0) : Pushed n S (.leaf n :: S)
  | un (a : T) (S : List T) (h : ar n.k = 1) : Pushed n (a :: S) (.un n a :: S)
  | bin (a b : T) (S : List T) (h : ar n.k = 2) : Pushed n (b :: a :: S) (.bin n a b :: S)
theorem Pushed.eq {n : Nd} {S S' : List T} (h : Pushed n S S') : S' = push n S := by
  cases h with
  | leaf S h => simp [push, h]
  | un a S h => simp [push, h]
  | bin a b S h => simp [push, h]
theorem pushed {n : Nd} {S : List T} (hg : good n = true) (h : ar n.k ≤ S.length) : Pushed n S (push n S) := by
  have h0 := good_ar hg
  have h2 := (ar_le n.k).2
  unfold push
  split
  · rename_i h2
    match S, h with
    | b :: a :: S, _ => exact .bin a b S h2
    | [], h => simp at h; omega
    | [a], h => simp at h; omega
  · split
    · rename_i h1
      match S, h with
      | a :: S, _ => exact .un a S h1
      | [], h => simp at h; omega
    · exact .leaf S (by omega)
theorem Pushed.wf {n : Nd} {S S' : List T} (h : Pushed n S S') (hg : good n = true) (hw : ∀ x ∈ S, x.wf) : ∀ x ∈ S', x.wf := by
  cases h with
  | leaf S h => intro x hx; rcases List.mem_cons.1 hx with rfl | hx; exact ⟨hg, h⟩; exact hw x hx
  | un a S h => intro x hx; rcases List.mem_cons.1 hx with rfl | hx; exact ⟨hg, h, hw a (by simp)⟩; exact hw x (by simp [hx])
  | bin a b S h => intro x hx; rcases List.mem_cons.1 hx with rfl | hx; exact ⟨hg, h, hw a (by simp), hw b (by simp)⟩; exact hw x (by simp [hx])
theorem Pushed.fl {n : Nd} {S S' : List T} (h : Pushed n S S') : fl S' = fl S ++ [n] := by
  cases h <;> simp [Eg.fl, T.flat]
theorem Pushed.len {n : Nd} {S S' : List T} (h : Pushed n S S') : (S'.length : Int) = S.length + (1 - ar n.k) := by
  cases h <;> rename_i h <;> simp [h] <;> omega

/-- Behind the first i nodes of t stands the stack S. -/
structure St (t : List Nd) (i : Nat) (S : List T) : Prop where
  eq : S = stk (t.take i)
  wf : ∀ x ∈ S, x.wf
  ok : Eg.ok S.length (t.drop i) = true
  flat : Eg.fl S = t.take i
theorem St.start {t : List Nd} (h : Eg.ok 0 t = true) : St t 0 [] := ⟨rfl, by simp, by simpa using h, by simp [fl]⟩
theorem St.next {t : List Nd} {i : Nat} {S : List T} (h : St t i S) (hi : i < t.length) :
    good (nth t i) = true ∧ ar (nth t i).k ≤ S.length ∧ Pushed (nth t i) S (push (nth t i) S) ∧ St t (i + 1) (push (nth t i) S) := by
  have ho := h.ok
  rw [ok_take hi] at ho
  simp only [Bool.and_eq_true, decide_eq_true_eq] at ho
  obtain ⟨⟨hg, hle⟩, hr⟩ := ho
  have hp := pushed hg hle
  have ht : t.take (i + 1) = t.take i ++ [nth t i] := by
    rw [List.take_add_one, nth_get hi]; rfl
  refine ⟨hg, hle, hp, ?_, hp.wf hg h.wf, ?_, ?_⟩
  · rw [ht, stk_snoc, ← h.eq]
  · rw [hp.len]; exact hr
  · rw [hp.fl, h.flat, ht]
theorem St.done {t : List Nd} {S : List T} (h : St t t.length S) : ∃ x, S = [x] ∧ x.wf ∧ x.flat = t := by
  have ho := h.ok
  rw [List.drop_length, Eg.ok] at ho
  have hl : S.length = 1 := by have := beq_iff_eq.1 ho; omega
  match S, hl with
  | [x], _ =>
    refine ⟨x, rfl, h.wf x (by simp), ?_⟩
    have := h.flat
    rw [List.take_length] at this
    simpa [fl] using this
theorem St.len {t : List Nd} {i : Nat} {S : List T} (h : St t i S) : S.length ≤ i := by
  have h1 : S.length ≤ (fl S).length := by
    have : ∀ S : List T, S.length ≤ (fl S).length := by
      intro S
      induction S with
      | nil => simp
      | cons x S ih => rw [fl_cons, List.length_append, List.length_cons]; have := x.flat_pos; omega
    exact this S
  rw [h.flat, List.length_take] at h1
  omega

theorem stk_flat {x : T} (hw : x.wf) : ∀ S : List T, x.flat.foldl (fun S n => push n S) S = x :: S := by
  induction x with
  | leaf n => intro S; simp [T.flat, push, hw.2]
  | un n a ih => intro S; rw [T.flat, List.foldl_append, ih hw.2.2]; simp [push, hw.2.1]
  | bin n a b iha ihb => intro S; rw [T.flat, List.foldl_append, List.foldl_append, iha hw.2.2.1, ihb hw.2.2.2]; simp [push, hw.2.1]
theorem ok_flat {x : T} (hw : x.wf) : ∀ (h : Int) (t : List Nd), 0 ≤ h → ok h (x.flat ++ t) = ok (h + 1) t := by
  induction x with
  | leaf n => intro h t h0; simp only [T.flat, List.singleton_append, ok, hw.1, hw.2]; simp [h0]
  | un n a ih =>
    intro h t h0
    simp only [T.flat, List.append_assoc, List.singleton_append]
    rw [ih hw.2.2 h _ h0, ok, hw.1, hw.2.1]
    have : (1 : Int) ≤ h + 1 := by omega
    simp [this]
  | bin n a b iha ihb =>
    intro h t h0
    simp only [T.flat, List.append_assoc, List.singleton_append]
    rw [iha hw.2.2.1 h _ h0, ihb hw.2.2.2 _ _ (by omega), ok, hw.1, hw.2.1]
    have : (2 : Int) ≤ h + 1 + 1 := by omega
    simp only [this, decide_true, Bool.and_true, Bool.true_and]
    congr 1
    omega
theorem ok_tree {x : T} (hw : x.wf) : ok 0 x.flat = true := by
  have := ok_flat hw 0 [] (by omega)
  rw [List.append_nil] at this
  rw [this]
  rfl
/-- A list that is no tree's has an error. -/
theorem ok_iff (t : List Nd) : ok 0 t = true ↔ ∃ x : T, x.wf ∧ x.flat = t := by
  constructor
  · intro h
    have key : ∀ i, i ≤ t.length → ∃ S, St t i S := by
      intro i
      induction i with
      | zero => intro _; exact ⟨[], St.start h⟩
      | succ i ih => intro hi; obtain ⟨S, hS⟩ := ih (by omega); exact ⟨_, (hS.next (by omega)).2.2.2⟩
    obtain ⟨S, hS⟩ := key t.length (Nat.le_refl _)
    obtain ⟨x, _, hw, hf⟩ := hS.done
    exact ⟨x, hw, hf⟩
  · rintro ⟨x, hw, rfl⟩; exact ok_tree hw
theorem flat_inj {x y : T} (hx : x.wf) (hy : y.wf) (h : x.flat = y.flat) : x = y := by
  have h1 := stk_flat hx []
  have h2 := stk_flat hy []
  rw [h, h2] at h1
  exact (List.cons.inj h1).1.symm
/-- the tree of a list -/
def tr (t : List Nd) : T := (stk t).headD (.leaf ⟨1, 0⟩)
theorem tr_flat {x : T} (hw : x.wf) : tr x.flat = x := by
  have h1 := stk_flat hw []
  unfold tr stk
  rw [h1]; rfl
theorem tr_of {t : List Nd} (h : ok 0 t = true) : (tr t).wf ∧ (tr t).flat = t := by
  obtain ⟨x, hw, rfl⟩ := (ok_iff t).1 h
  rw [tr_flat hw]
  exact ⟨hw, rfl⟩
theorem errW_flat {x : T} (hw : x.wf) (hl : x.flat.length ≤ 4000) : errW x.flat = 0 := by
  unfold errW
  rw [if_neg (by omega), ok_tree hw]; rfl

/-- how deep, where some kinds count -/
def T.dep (c : Int → Bool) : T → Int
  | leaf n => if c n.k then 1 else 0
  | un n a => a.dep c + if c n.k then 1 else 0
  | bin n a b => max (a.dep c) (b.dep c) + if c n.k then 1 else 0
theorem T.dep_bd (c : Int → Bool) (x : T) : 0 ≤ x.dep c ∧ x.dep c ≤ x.flat.length := by
  induction x with
  | leaf n => simp only [T.dep, T.flat, List.length_singleton]; split <;> omega
  | un n a ih => simp only [T.dep, T.flat, List.length_append, List.length_singleton]; split <;> omega
  | bin n a b iha ihb => simp only [T.dep, T.flat, List.length_append, List.length_singleton]; split <;> omega
def everyK (_ : Int) : Bool := true
def starK (k : Int) : Bool := k == 8

/-- From a place on back to where its tree begins: Ys: the trees that are still wanted. -/
structure Bk (t pre : List Nd) (at_ : Nat) (Ys : List T) : Prop where
  ne : Ys ≠ []
  wf : ∀ y ∈ Ys, y.wf
  flat : t.take (at_ + 1) = pre ++ Ys.flatMap T.flat
  lt : at_ < t.length
theorem Bk.next {t pre : List Nd} {at_ : Nat} {Ys : List T} (h : Bk t pre at_ Ys) :
    0 ≤ ar (nth t at_).k ∧ ((Ys.length : Int) + (ar (nth t at_).k - 1) = 0 ∧ at_ = pre.length ∨
      (Ys.length : Int) + (ar (nth t at_).k - 1) ≠ 0 ∧ 0 < at_ ∧ ∃ Zs, Bk t pre (at_ - 1) Zs ∧ (Zs.length : Int) = Ys.length + (ar (nth t at_).k - 1)) := by
  obtain ⟨Xs, y, rfl⟩ : ∃ Xs y, Ys = Xs ++ [y] := ⟨Ys.dropLast, Ys.getLast h.ne, (List.dropLast_concat_getLast h.ne).symm⟩
  have hy := h.wf y (by simp)
  have hf := h.flat
  rw [List.flatMap_append, List.flatMap_cons, List.flatMap_nil, List.append_nil, T.flat_root y, ← List.append_assoc, ← List.append_assoc] at hf
  have hn : nth t at_ = y.root := by
    have h1 := nth_get h.lt
    have h2 : (t.take (at_ + 1))[at_]? = t[at_]? := by rw [List.getElem?_take]; simp
    rw [hf] at h2
    have hl : (pre ++ Xs.flatMap T.flat ++ y.kids.flatMap T.flat).length = at_ := by
      have := congrArg List.length hf
      rw [List.length_take, List.length_append, List.length_singleton] at this
      have := h.lt
      omega
    rw [List.getElem?_append_right (by omega), hl, Nat.sub_self, List.getElem?_cons_zero] at h2
    rw [← h2] at h1
    exact (Option.some.inj h1).symm
  have har := (T.wf_root hy).2
  rw [hn, har]
  have hf' : t.take at_ = pre ++ (Xs ++ y.kids).flatMap T.flat := by
    have h1 : t.take at_ = (t.take (at_ + 1)).take at_ := by rw [List.take_take, Nat.min_eq_left (by omega)]
    have hl : (pre ++ Xs.flatMap T.flat ++ y.kids.flatMap T.flat).length = at_ := by
      have := congrArg List.length hf
      rw [List.length_take, List.length_append, List.length_singleton] at this
      have := h.lt
      omega
    rw [h1, hf, List.take_left' hl, List.flatMap_append, List.append_assoc]
  refine ⟨by omega, ?_⟩
  by_cases hz : Xs ++ y.kids = []
  · left
    rw [hz] at hf'
    have h1 : Xs = [] := (List.append_eq_nil_iff.1 hz).1
    have h2 : y.kids = [] := (List.append_eq_nil_iff.1 hz).2
    refine ⟨by simp [h1, h2], ?_⟩
    have := congrArg List.length hf'
    rw [List.length_take, List.flatMap_nil, List.append_nil] at this
    have := h.lt
    omega
  · right
    have hpos : 0 < (Xs ++ y.kids).length := List.length_pos_iff.2 hz
    have hlen : ((Xs ++ y.kids).length : Int) = (Xs ++ [y]).length + ((y.kids.length : Int) - 1) := by simp; omega
    have hat : 0 < at_ := by
      rcases Nat.eq_zero_or_pos at_ with h0 | h0
      · rw [h0, List.take_zero] at hf'
        have h3 := (List.append_eq_nil_iff.1 hf'.symm).2
        obtain ⟨z, zs, e⟩ := List.exists_cons_of_ne_nil hz
        rw [e, List.flatMap_cons] at h3
        exact absurd (List.append_eq_nil_iff.1 h3).1 z.flat_ne
      · exact h0
    refine ⟨by omega, hat, _, ⟨hz, fun z hz => ?_, by rw [Nat.sub_add_cancel hat]; exact hf', by have := h.lt; omega⟩, hlen⟩
    rcases List.mem_append.1 hz with hz | hz
    · exact h.wf z (by simp [hz])
    · exact T.wf_kids hy z hz
theorem flats_len (S : List T) : S.length ≤ (S.flatMap T.flat).length := by
  induction S with
  | nil => simp
  | cons x S ih => rw [List.flatMap_cons, List.length_append, List.length_cons]; have := x.flat_pos; omega
theorem Bk.len {t pre : List Nd} {at_ : Nat} {Ys : List T} (h : Bk t pre at_ Ys) : Ys.length ≤ t.length := by
  have h1 := congrArg List.length h.flat
  rw [List.length_take, List.length_append] at h1
  have := flats_len Ys
  omega
theorem Bk.start {pre post : List Nd} {x : T} (hw : x.wf) : Bk (pre ++ x.flat ++ post) pre (pre.length + x.flat.length - 1) [x] := by
  have := x.flat_pos
  refine ⟨by simp, by simpa using hw, ?_, by simp; omega⟩
  rw [Nat.sub_add_cancel (by omega), List.take_left' (by simp)]
  simp

/-- A stack of trees, as a slice holds it: its top is at the end. -/
def sv {β : Type} (f : T → β) (S : List T) : List β := (S.map f).reverse
theorem sv_len {β : Type} (f : T → β) (S : List T) : (sv f S).length = S.length := by simp [sv]
theorem sv_push {β : Type} (f : T → β) (x : T) (S : List T) : sv f (x :: S) = sv f S ++ [f x] := by simp [sv]
theorem sv_pop {β : Type} (f : T → β) (x : T) (S : List T) : (sv f (x :: S)).take S.length = sv f S := by
  rw [sv_push, List.take_left' (sv_len f S)]
theorem sv_top {β : Type} (f : T → β) (x : T) (S : List T) : (sv f (x :: S))[S.length]? = some (f x) := by
  rw [sv_push, List.getElem?_append_right (by rw [sv_len]; exact Nat.le_refl _), sv_len, Nat.sub_self]; rfl
/-- the greatest of the first j, and 0 -/
def maxd (f : T → Int) : Nat → List T → Int
  | j + 1, x :: S => max (f x) (maxd f j S)
  | _, _ => 0
theorem maxd_zero (f : T → Int) (S : List T) : maxd f 0 S = 0 := by cases S <;> rfl
theorem maxd_bd (f : T → Int) (B : Int) (hB : 0 ≤ B) : ∀ (j : Nat) (S : List T), (∀ x ∈ S, f x ≤ B) → 0 ≤ maxd f j S ∧ maxd f j S ≤ B
  | 0, S, _ => by cases S <;> simp [maxd, hB]
  | j + 1, [], _ => by simp [maxd, hB]
  | j + 1, x :: S, h => by
    have := maxd_bd f B hB j S (fun y hy => h y (by simp [hy]))
    have := h x (by simp)
    simp only [maxd]
    omega
theorem maxd_succ (f : T → Int) (x : T) : ∀ (j : Nat) (S : List T), (∀ y ∈ S, 0 ≤ f y) → S[j]? = some x → maxd f (j + 1) S = max (maxd f j S) (f x)
  | 0, y :: S, h, hx => by
    simp at hx; subst hx
    have := h y (by simp)
    have h0 : maxd f 0 S = 0 := by cases S <;> rfl
    show max (f y) (maxd f 0 S) = max 0 (f y)
    rw [h0]
    omega
  | j + 1, y :: S, h, hx => by
    have ih := maxd_succ f x j S (fun z hz => h z (by simp [hz])) (by simpa using hx)
    show max (f y) (maxd f (j + 1) S) = max (max (f y) (maxd f j S)) (f x)
    rw [ih]
    omega
theorem dep_push (c : Int → Bool) {n : Nd} {S S' : List T} (h : Pushed n S S') : ∃ x R, S' = x :: R ∧ R = S.drop (ar n.k).toNat ∧ x.dep c = maxd (T.dep c) (ar n.k).toNat S + if c n.k then 1 else 0 := by
  cases h with
  | leaf S h => exact ⟨_, _, rfl, by simp [h], by cases S <;> simp [h, maxd, T.dep]⟩
  | un a S h =>
    refine ⟨_, _, rfl, by simp [h], ?_⟩
    have := (T.dep_bd c a).1
    rw [h]
    show a.dep c + _ = max (a.dep c) (maxd (T.dep c) 0 S) + _
    rw [maxd_zero]
    omega
  | bin a b S h =>
    refine ⟨_, _, rfl, by simp [h], ?_⟩
    have := (T.dep_bd c a).1
    have := (T.dep_bd c b).1
    rw [h]
    show max (a.dep c) (b.dep c) + _ = max (b.dep c) (max (a.dep c) (maxd (T.dep c) 0 S)) + _
    rw [maxd_zero]
    omega

theorem ok_good : ∀ {t : List Nd} {h : Int}, ok h t = true → ∀ n ∈ t, good n = true
  | n :: t, h, ho, m, hm => by
    rw [ok] at ho
    simp only [Bool.and_eq_true] at ho
    rcases List.mem_cons.1 hm with rfl | hm
    · exact ho.1.1
    · exact ok_good ho.2 m hm
theorem nth_mem {t : List Nd} {i : Nat} (h : i < t.length) : nth t i ∈ t := List.mem_of_getElem? (nth_get h)
theorem good_letter {n : Nd} (h : good n = true) (h3 : n.k = 3) : 97 ≤ n.s ∧ n.s ≤ 104 := by
  unfold good at h
  rw [if_pos h3] at h
  exact of_decide_eq_true h
/-- how deep; 0 beside an error -/
def depF (c : Int → Bool) (t : List Nd) : Int := if errW t = 0 then (tr t).dep c else 0
/-- is it a letter from the k-th on? -/
def far (k : Int) (n : Nd) : Bool := n.k == 3 && decide (k ≤ n.s - 97)
def chkF (k : Int) (t : List Nd) : Int :=
  if k < 1 ∨ 8 < k then 20 else if errW t ≠ 0 then errW t else if 128 < (tr t).dep everyK then 31 else if t.any (far k) then 21 else 0
/-- -1, 0 or 1 -/
def ordF (x y : Int) : Int := if x < y then -1 else if y < x then 1 else 0
def cmpN (n m : Nd) : Int := if ordF n.k m.k ≠ 0 then ordF n.k m.k else ordF n.s m.s
def cmpL : List Nd → List Nd → Int
  | n :: a, m :: b => if cmpN n m ≠ 0 then cmpN n m else cmpL a b
  | _, _ => 0
def cmpF (a b : List Nd) : Int := if ordF a.length b.length ≠ 0 then ordF a.length b.length else cmpL a b
theorem cmpL_drop {a b : List Nd} {i : Nat} (ha : i < a.length) (hb : i < b.length) : cmpL (a.drop i) (b.drop i) = if cmpN (nth a i) (nth b i) ≠ 0 then cmpN (nth a i) (nth b i) else cmpL (a.drop (i + 1)) (b.drop (i + 1)) := by
  rw [List.drop_eq_getElem_cons ha, List.drop_eq_getElem_cons hb, cmpL]
  simp [nth, List.getD_eq_getElem?_getD, List.getElem?_eq_getElem ha, List.getElem?_eq_getElem hb]
theorem any_take {t : List Nd} {p : Nd → Bool} {i : Nat} (hi : i < t.length) : (t.take (i + 1)).any p = ((t.take i).any p || p (nth t i)) := by
  rw [List.take_add_one, nth_get hi]; simp
theorem any_of_take {t : List Nd} {p : Nd → Bool} {i : Nat} (h : (t.take i).any p = true) : t.any p = true := by
  rw [List.any_eq_true] at *
  obtain ⟨x, hx, hp⟩ := h
  exact ⟨x, List.mem_of_mem_take hx, hp⟩

def firstErr : List (List Nd) → Int
  | [] => 0
  | t :: ts => if errW t ≠ 0 then errW t else firstErr ts
/-- the error of a tree joined of parts -/
def joinE (n : Nd) (ps : List (List Nd)) : Int :=
  if good n = false then 30 else if (ps.length : Int) ≠ ar n.k then 1 else if firstErr ps ≠ 0 then firstErr ps else if 4000 ≤ ps.flatten.length then 6 else 0
def joinL (n : Nd) (ps : List (List Nd)) : List Nd := if joinE n ps = 0 then ps.flatten ++ [n] else []
theorem good_byte {n : Nd} (h : good n = true) : 0 ≤ n.s ∧ n.s ≤ 255 := by
  unfold good at h
  split at h
  · have := of_decide_eq_true h; omega
  · have := of_decide_eq_true h; omega
theorem firstErr_drop {ps : List (List Nd)} {i : Nat} {x : List Nd} (hx : ps[i]? = some x) : firstErr (ps.drop i) = if errW x ≠ 0 then errW x else firstErr (ps.drop (i + 1)) := by
  obtain ⟨hi, hv⟩ := List.getElem?_eq_some_iff.1 hx
  rw [List.drop_eq_getElem_cons hi, firstErr, hv]
theorem flatten_take {ps : List (List Nd)} {i : Nat} {x : List Nd} (hx : ps[i]? = some x) : (ps.take (i + 1)).flatten = (ps.take i).flatten ++ x := by
  rw [List.take_add_one, hx]; simp

/-- its concatenations changed about -/
def T.rev : T → T
  | leaf n => leaf n
  | un n a => un n a.rev
  | bin n a b => if n.k = 7 then bin n b.rev a.rev else bin n a.rev b.rev
theorem T.rev_len (x : T) : x.rev.flat.length = x.flat.length := by
  induction x with
  | leaf n => rfl
  | un n a ih => simp [T.rev, T.flat, ih]
  | bin n a b iha ihb => unfold T.rev; split <;> simp [T.flat, iha, ihb] <;> omega
theorem T.rev_wf {x : T} (h : x.wf) : x.rev.wf := by
  induction x with
  | leaf n => exact h
  | un n a ih => exact ⟨h.1, h.2.1, ih h.2.2⟩
  | bin n a b iha ihb =>
    unfold T.rev
    split
    · exact ⟨h.1, h.2.1, ihb h.2.2.2, iha h.2.2.1⟩
    · exact ⟨h.1, h.2.1, iha h.2.2.1, ihb h.2.2.2⟩
theorem T.rev_rev (x : T) : x.rev.rev = x := by
  induction x with
  | leaf n => rfl
  | un n a ih => simp [T.rev, ih]
  | bin n a b iha ihb => by_cases h : n.k = 7 <;> simp [T.rev, h, iha, ihb]
theorem T.rev_dep (c : Int → Bool) (x : T) : x.rev.dep c = x.dep c := by
  induction x with
  | leaf n => rfl
  | un n a ih => simp [T.rev, T.dep, ih]
  | bin n a b iha ihb => by_cases h : n.k = 7 <;> simp [T.rev, h, T.dep, iha, ihb] <;> omega
def revF (t : List Nd) : List Nd := if errW t = 0 then (tr t).rev.flat else []
/-- the parts of a node that comes, in the order in which Reverse takes them -/
def kidsR (n : Nd) (S : List T) : List T := if n.k = 7 then S.take (ar n.k).toNat else (S.take (ar n.k).toNat).reverse
def revs (l : List T) : List Nd := (l.map fun x => x.rev.flat).flatten
theorem rev_push {n : Nd} {S S' : List T} (h : Pushed n S S') : ∃ X R, S' = X :: R ∧ R = S.drop (ar n.k).toNat ∧ (kidsR n S).length = (ar n.k).toNat ∧ X.rev.flat = revs (kidsR n S) ++ [n] := by
  cases h with
  | leaf S h =>
    have h7 : n.k ≠ 7 := by intro h7; rw [h7] at h; exact absurd h (by decide)
    exact ⟨_, _, rfl, by simp [h], by simp [kidsR, h], by simp [kidsR, h, revs, T.rev, T.flat]⟩
  | un a S h =>
    have h7 : n.k ≠ 7 := by intro h7; rw [h7] at h; exact absurd h (by decide)
    exact ⟨_, _, rfl, by simp [h], by simp [kidsR, h, h7], by simp [kidsR, h, h7, revs, T.rev, T.flat]⟩
  | bin a b S h =>
    have hm : (ar n.k).toNat = 2 := by rw [h]; rfl
    unfold kidsR
    rw [hm]
    by_cases h7 : n.k = 7
    · rw [if_pos h7]
      exact ⟨_, _, rfl, rfl, rfl, by simp [h7, revs, T.rev, T.flat]⟩
    · rw [if_neg h7]
      exact ⟨_, _, rfl, rfl, rfl, by simp [h7, revs, T.rev, T.flat]⟩
theorem sv_at {β : Type} (f : T → β) (S : List T) {d : Nat} {x : T} (h : S[d]? = some x) : (sv f S)[S.length - 1 - d]? = some (f x) := by
  have hd := (List.getElem?_eq_some_iff.1 h).1
  unfold sv
  rw [List.getElem?_reverse (by rw [List.length_map]; omega), List.length_map, show S.length - 1 - (S.length - 1 - d) = d by omega, List.getElem?_map, h]
  rfl
theorem kidsR_at {n : Nd} {S : List T} {m j : Nat} (hm : (ar n.k).toNat = m) (hS : m ≤ S.length) (hj : j < m) {β : Type} (f : T → β) :
    ∃ x, (kidsR n S)[j]? = some x ∧ (sv f S)[if n.k = 7 then S.length - 1 - j else S.length - m + j]? = some (f x) := by
  unfold kidsR
  split
  · obtain ⟨x, hx⟩ : ∃ x, S[j]? = some x := ⟨_, List.getElem?_eq_getElem (by omega)⟩
    exact ⟨x, by rw [List.getElem?_take, if_pos (by omega)]; exact hx, sv_at f S hx⟩
  · obtain ⟨x, hx⟩ : ∃ x, S[m - 1 - j]? = some x := ⟨_, List.getElem?_eq_getElem (by omega)⟩
    have hl : (S.take (ar n.k).toNat).length = m := by rw [List.length_take, hm]; omega
    refine ⟨x, ?_, ?_⟩
    · rw [List.getElem?_reverse (by omega), hl, List.getElem?_take, if_pos (by omega)]
      exact hx
    · have := sv_at f S hx
      rwa [show S.length - 1 - (m - 1 - j) = S.length - m + j by omega] at this
theorem revs_succ {l : List T} {j : Nat} {x : T} (h : l[j]? = some x) : revs (l.take (j + 1)) = revs (l.take j) ++ x.rev.flat := by
  unfold revs
  rw [List.take_add_one, h]; simp
theorem revs_le (l : List T) (j : Nat) : (revs (l.take j)).length ≤ (revs l).length := by
  have : revs l = revs (l.take j) ++ revs (l.drop j) := by
    unfold revs
    rw [← List.flatten_append, ← List.map_append, List.take_append_drop]
  rw [this, List.length_append]; omega
theorem St.sub {t : List Nd} {i : Nat} {S : List T} (h : St t i S) : ∀ x ∈ S, x.flat.length ≤ i := by
  intro x hx
  have h2 : x.flat.length ≤ (fl S).length := by
    obtain ⟨s1, s2, rfl⟩ := List.append_of_mem hx
    simp [fl]; omega
  rw [h.flat, List.length_take] at h2
  omega

/-- is it a letter from a to h? -/
def isAH (c : Int) : Bool := decide (97 ≤ c) && decide (c ≤ 104)
def allAH (f : Nat → Int) (n : Nat) : Bool := (List.range n).all fun i => isAH (f i)
theorem allAH_succ (f : Nat → Int) (n : Nat) : allAH f (n + 1) = (allAH f n && isAH (f n)) := by simp [allAH, List.range_succ]
theorem allAH_of {f : Nat → Int} {n : Nat} (h : allAH f n = true) {i : Nat} (hi : i < n) : isAH (f i) = true := by
  unfold allAH at h
  rw [List.all_eq_true] at h
  exact h i (List.mem_range.2 hi)
theorem allAH_not {f : Nat → Int} {n i : Nat} (hi : i < n) (h : isAH (f i) = false) : allAH f n = false := by
  cases hh : allAH f n with
  | false => rfl
  | true => rw [allAH_of hh hi] at h; cases h
/-- the error of a renaming; f: the bytes, n: how many -/
def renE (t : List Nd) (f : Nat → Int) (n : Nat) : Int := if errW t ≠ 0 then errW t else if n ≠ 8 then 1 else if allAH f n then 0 else 21
def renN (f : Nat → Int) (n : Nd) : Nd := if n.k = 3 then ⟨3, f (n.s - 97).toNat⟩ else n
def renL (t : List Nd) (f : Nat → Int) (n : Nat) : List Nd := if renE t f n = 0 then t.map (renN f) else []
theorem ren_set {t : List Nd} (f : Nat → Int) {i : Nat} (hi : i < t.length) : ((t.take i).map (renN f) ++ t.drop i).set i (renN f (nth t i)) = (t.take (i + 1)).map (renN f) ++ t.drop (i + 1) := by
  rw [List.drop_eq_getElem_cons hi, List.set_append_right _ _ (by simp; omega)]
  have hl : i - ((t.take i).map (renN f)).length = 0 := by simp; omega
  rw [hl, List.set_cons_zero, List.take_add_one, nth_get hi]
  simp
theorem ren_keep {t : List Nd} (f : Nat → Int) {i : Nat} (hi : i < t.length) (h : renN f (nth t i) = nth t i) : (t.take (i + 1)).map (renN f) ++ t.drop (i + 1) = (t.take i).map (renN f) ++ t.drop i := by
  rw [← ren_set f hi, h]
  apply List.ext_getElem?
  intro j
  rw [List.getElem?_set]
  split
  · rename_i hj
    subst hj
    rw [if_pos (by simp; omega), List.getElem?_append_right (by simp; omega)]
    have hl : i - ((t.take i).map (renN f)).length = 0 := by simp; omega
    rw [hl, List.getElem?_drop, Nat.add_zero, nth_get hi]
  · rfl
theorem ren_at {t : List Nd} (f : Nat → Int) {i : Nat} (hi : i < t.length) : ((t.take i).map (renN f) ++ t.drop i)[i]? = some (nth t i) := by
  rw [List.getElem?_append_right (by simp; omega)]
  have hl : i - ((t.take i).map (renN f)).length = 0 := by simp; omega
  rw [hl, List.getElem?_drop, Nat.add_zero, nth_get hi]
end Go.Eg
