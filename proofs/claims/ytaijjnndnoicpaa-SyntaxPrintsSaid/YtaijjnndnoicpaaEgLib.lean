/- The words that all proofs of this seat share: what a slice reads as, what a call owns, how the world grows. Conditions: none; plain theorems over any program. -/
import Derived.WalkKit
import Derived.WalkSpells
import Derived.Deep.Draws
import Derived.Maps.AppendAt
import Derived.Laws.AppendOwnNone
namespace Go.Eg
open Go.RowKit

/-! ### The world grows -/
/-- All that was there stays as it was. -/
def Ext (w w' : World) : Prop := Below w.heap.size w w'
theorem Ext.refl (w : World) : Ext w w := Below.refl _ _
theorem Ext.trans {a b c : World} (h : Ext a b) (k : Ext b c) : Ext a c := Below.trans h (Below.mono k h.size)
theorem Ext.alloc {w W : World} (h : Ext w W) (o : Obj) : Ext w (W.alloc o) := Below.alloc h h.size o
theorem Ext.drew {w W : World} (h : Ext w W) : Ext w W.drew := Below.drew h
theorem Ext.drewN {w W : World} (h : Ext w W) (n : Nat) : Ext w (W.drewN n) := ⟨h.os, h.tape, h.output, h.size, h.block⟩
theorem Ext.undrew {w W : World} (h : Ext w.drew W) : Ext w W := ⟨h.os, h.tape, h.output, h.size, h.block⟩
theorem Ext.set {w W : World} (h : Ext w W) {p : Addr} (hp : w.heap.size ≤ p.block) (u : Value) : Ext w (W.setCell p u) := Below.setCell h hp u
theorem Ext.grown {w W W' : World} {row : Option Nat} (h : Ext w W) (hg : W.grownBy W' row) (hr : ∀ k, row = some k → w.heap.size ≤ k) : Ext w W' := Below.grown h hg h.size hr
theorem Ext.cell {w w' : World} (h : Ext w w') (b o : Nat) (hb : b < w.heap.size) : w'.cell? ⟨b, o, none⟩ = w.cell? ⟨b, o, none⟩ := Below.cell (p := ⟨b, o, none⟩) h hb
theorem Ext.cells {w w' : World} (h : Ext w w') : ∀ b o, b < w.heap.size → w'.cell? ⟨b, o, none⟩ = w.cell? ⟨b, o, none⟩ := fun b o hb => h.cell b o hb
theorem Ext.frozens {w w' : World} (h : Ext w w') : ∀ b o, b < w.heap.size → w'.frozen? ⟨b, o, none⟩ = w.frozen? ⟨b, o, none⟩ := fun b o hb => Below.frozen (p := ⟨b, o, none⟩) h hb
theorem Ext.le {w w' : World} (h : Ext w w') : w.heap.size ≤ w'.heap.size := h.size
theorem Ext.of {w w' : World} (h : Below w.heap.size w w') : Ext w w' := h
theorem Ext.below {w w' : World} (h : Ext w w') : Below w.heap.size w w' := h
theorem Ext.grownBy {w w' : World} (h : Ext w w') (row : Option Nat) : w.grownBy w' row := ⟨h.os, h.tape, h.output, h.size, fun k hk _ => h.block k hk⟩

/-! ### Values -/
theorem ret_int {k : IntKind} {a b : Int} (h : a = b) : Ending.returned (.int k a) = .returned (.int k b) := by rw [h]
theorem ret_bool {a b : Bool} (h : a = b) : Ending.returned (.bool a) = .returned (.bool b) := by rw [h]

theorem ret_ii {k l : IntKind} {a b c d : Int} (h : a = b) (h' : c = d) : Ending.returned (.tuple #[.int k a, .int l c]) = .returned (.tuple #[.int k b, .int l d]) := by rw [h, h']
theorem val_int {k : IntKind} {a b : Int} (h : a = b) : Value.int k a = .int k b := by rw [h]

/-- Cells that lie one behind the other. -/
def At (w : World) (b off : Nat) (cs : List Value) : Prop := ∀ j u, cs[j]? = some u → w.cell? ⟨b, off + j, none⟩ = some u
theorem At.keep {w w' : World} {b off : Nat} {cs : List Value} (h : At w b off cs) (hb : w'.heap[b]? = w.heap[b]?) : At w' b off cs :=
  fun j u hu => (World.cell?_of_block (w := w) (a := ⟨b, off + j, none⟩) hb).trans (h j u hu)
theorem At.lt {w : World} {b off : Nat} {cs : List Value} (h : At w b off cs) (hn : cs ≠ []) : b < w.heap.size := by
  cases cs with
  | nil => exact absurd rfl hn
  | cons c cs => exact World.block_lt_of_cell? w _ (h 0 c rfl)

/-- A Go type, as Lean reads it: how many cells a value has, and which; B: the blocks in which what it points to may lie. -/
structure Ty (α : Type) where
  sz : Nat
  rel : (Nat → Prop) → World → α → List Value → Prop
  len : ∀ {B w x cs}, rel B w x cs → cs.length = sz
  mono : ∀ {B B' w x cs}, (∀ b, B b → B' b) → rel B w x cs → rel B' w x cs
  keep : ∀ {B w w' x cs}, (∀ b, B b → w'.heap[b]? = w.heap[b]?) → rel B w x cs → rel B w' x cs
  low : ∀ {B w x cs}, rel B w x cs → rel (fun b => B b ∧ b < w.heap.size) w x cs
  one : ∀ {B w x cs}, rel B w x cs → ∀ u ∈ cs, u.oneCell' = true

/-- A type without pointers. -/
def Ty.flat {α : Type} (n : Nat) (enc : α → List Value) (h : ∀ x, (enc x).length = n) (h1 : ∀ x, ∀ u ∈ enc x, u.oneCell' = true) : Ty α where
  sz := n
  rel _ _ x cs := cs = enc x
  len := by rintro B w x cs rfl; exact h x
  one := by rintro B w x cs rfl; exact h1 x
  mono := fun _ h => h
  keep := fun _ h => h
  low := fun h => h
/-- The same, of values of which something is known. -/
def Ty.flatP {α : Type} (n : Nat) (enc : α → List Value) (p : α → Prop) (h : ∀ x, (enc x).length = n) (h1 : ∀ x, ∀ u ∈ enc x, u.oneCell' = true) : Ty α where
  sz := n
  rel _ _ x cs := cs = enc x ∧ p x
  len := by rintro B w x cs ⟨rfl, _⟩; exact h x
  one := by rintro B w x cs ⟨rfl, _⟩; exact h1 x
  mono := fun _ h => h
  keep := fun _ h => h
  low := fun h => h
def Ty.int (k : IntKind) : Ty Int := .flat 1 (fun x => [.int k x]) (fun _ => rfl) (by simp [Value.oneCell'])
def Ty.bool : Ty Bool := .flat 1 (fun x => [.bool x]) (fun _ => rfl) (by simp [Value.oneCell'])
def Ty.str : Ty ByteArray := .flat 1 (fun x => [.string x]) (fun _ => rfl) (by simp [Value.oneCell'])

/-- The elements of a list, one behind the other. -/
def Row {α : Type} (t : Ty α) (B : Nat → Prop) (w : World) (b off : Nat) (xs : List α) : Prop :=
  ∀ i x, xs[i]? = some x → ∃ cs, t.rel B w x cs ∧ At w b (off + i * t.sz) cs
theorem Row.nil {α : Type} (t : Ty α) (B : Nat → Prop) (w : World) (b off : Nat) : Row t B w b off [] := fun i x h => by simp at h
theorem Row.mono {α : Type} {t : Ty α} {B B' : Nat → Prop} {w : World} {b off : Nat} {xs : List α} (hB : ∀ b, B b → B' b) (h : Row t B w b off xs) : Row t B' w b off xs :=
  fun i x hx => let ⟨cs, hr, ha⟩ := h i x hx; ⟨cs, t.mono hB hr, ha⟩
theorem Row.keep {α : Type} {t : Ty α} {B : Nat → Prop} {w w' : World} {b off : Nat} {xs : List α} (hb : w'.heap[b]? = w.heap[b]?) (hB : ∀ b, B b → w'.heap[b]? = w.heap[b]?) (h : Row t B w b off xs) : Row t B w' b off xs :=
  fun i x hx => let ⟨cs, hr, ha⟩ := h i x hx; ⟨cs, t.keep hB hr, ha.keep hb⟩
theorem Row.low {α : Type} {t : Ty α} {B : Nat → Prop} {w : World} {b off : Nat} {xs : List α} (h : Row t B w b off xs) : Row t (fun b => B b ∧ b < w.heap.size) w b off xs :=
  fun i x hx => let ⟨cs, hr, ha⟩ := h i x hx; ⟨cs, t.low hr, ha⟩
theorem Row.drop {α : Type} {t : Ty α} {B : Nat → Prop} {w : World} {b off : Nat} {xs : List α} (h : Row t B w b off xs) (n : Nat) : Row t B w b (off + n * t.sz) (xs.drop n) := by
  intro i x hx
  rw [List.getElem?_drop] at hx
  obtain ⟨cs, hr, ha⟩ := h _ x hx
  refine ⟨cs, hr, ?_⟩
  rw [Nat.add_mul] at ha
  rwa [Nat.add_assoc]
theorem Row.take {α : Type} {t : Ty α} {B : Nat → Prop} {w : World} {b off : Nat} {xs : List α} (h : Row t B w b off xs) (n : Nat) : Row t B w b off (xs.take n) := by
  intro i x hx
  rw [List.getElem?_take] at hx
  split at hx
  · exact h i x hx
  · cases hx

/-- A slice that reads as a list. -/
def SlP {α : Type} (t : Ty α) (B : Nat → Prop) (w : World) (xs : List α) (v : Value) : Prop :=
  ∃ A c, v = .slice A xs.length c ∧ xs.length ≤ c ∧ c ≤ maxLen ∧ (xs ≠ [] → ∃ b off, A = some ⟨b, off, none⟩ ∧ B b ∧ b < w.heap.size ∧ Row t B w b off xs)
def Ty.slice {α : Type} (t : Ty α) : Ty (List α) where
  sz := 1
  rel B w xs cs := ∃ v, cs = [v] ∧ SlP t B w xs v
  len := by rintro B w x cs ⟨v, rfl, _⟩; rfl
  mono := by
    rintro B B' w xs cs hB ⟨v, rfl, A, c, rfl, hl, hm, h⟩
    exact ⟨_, rfl, A, c, rfl, hl, hm, fun hx => let ⟨b, off, e, hb, hlt, hr⟩ := h hx; ⟨b, off, e, hB b hb, hlt, hr.mono hB⟩⟩
  keep := by
    rintro B w w' xs cs hB ⟨v, rfl, A, c, rfl, hl, hm, h⟩
    refine ⟨_, rfl, A, c, rfl, hl, hm, fun hx => ?_⟩
    obtain ⟨b, off, e, hb, hlt, hr⟩ := h hx
    have hs := hB b hb
    refine ⟨b, off, e, hb, ?_, hr.keep hs hB⟩
    rcases Nat.lt_or_ge b w'.heap.size with h1 | h1
    · exact h1
    · rw [Array.getElem?_eq_none h1, Array.getElem?_eq_getElem hlt] at hs
      cases hs
  low := by
    rintro B w xs cs ⟨v, rfl, A, c, rfl, hl, hm, h⟩
    exact ⟨_, rfl, A, c, rfl, hl, hm, fun hx => let ⟨b, off, e, hb, hlt, hr⟩ := h hx; ⟨b, off, e, ⟨hb, hlt⟩, hlt, hr.low⟩⟩
  one := by rintro B w xs cs ⟨v, rfl, A, c, rfl, _⟩; simp [Value.oneCell']

/-- Nowhere. -/
def No : Nat → Prop := fun _ => False
/-- What may lie anywhere. -/
def Any : Nat → Prop := fun _ => True
/-- The slice v reads as xs in the world w. -/
def Rd {α : Type} (t : Ty α) (w : World) (xs : List α) (v : Value) : Prop := SlP t Any w xs v

theorem Ty.ext {α : Type} (t : Ty α) {w w' : World} {x : α} {cs : List Value} (he : Ext w w') (h : t.rel Any w x cs) : t.rel Any w' x cs :=
  t.mono (fun _ _ => trivial) (t.keep (fun b hb => he.block b hb.2) (t.low h))
theorem SlP.ext {α : Type} {t : Ty α} {w w' : World} {xs : List α} {v : Value} (h : SlP t Any w xs v) (he : Ext w w') : SlP t Any w' xs v := by
  obtain ⟨v', e, h'⟩ := (Ty.slice t).ext (x := xs) (cs := [v]) he ⟨v, rfl, h⟩
  cases e
  exact h'
theorem SlP.drew {α : Type} {t : Ty α} {B : Nat → Prop} {w : World} {xs : List α} {v : Value} (h : SlP t B w xs v) : SlP t B w.drew xs v := by
  obtain ⟨v', e, h'⟩ := (Ty.slice t).keep (B := B) (w := w) (w' := w.drew) (x := xs) (cs := [v]) (fun _ _ => rfl) ⟨v, rfl, h⟩
  cases e
  exact h'
theorem Rd.sl {α : Type} {t : Ty α} {w : World} {xs : List α} {v : Value} (h : Rd t w xs v) : SlP t Any w xs v := h
theorem Rd.ext {α : Type} {t : Ty α} {w w' : World} {xs : List α} {v : Value} (h : Rd t w xs v) (he : Ext w w') : Rd t w' xs v := SlP.ext h he
theorem Rd.shape {α : Type} {t : Ty α} {w : World} {xs : List α} {v : Value} (h : Rd t w xs v) : ∃ A c, v = .slice A xs.length c ∧ xs.length ≤ c ∧ c ≤ maxLen := by
  obtain ⟨A, c, e, hl, hm, _⟩ := h
  exact ⟨A, c, e, hl, hm⟩
theorem Rd.nil {α : Type} (t : Ty α) (w : World) : Rd t w [] (.slice none 0 0) := ⟨none, 0, rfl, Nat.le_refl _, Nat.zero_le _, fun h => absurd rfl h⟩
/-- Element i: its cells. -/
theorem Rd.at {α : Type} {t : Ty α} {w : World} {xs : List α} {A : Option Addr} {n c : Nat} (h : Rd t w xs (.slice A n c)) {i : Nat} {x : α} (hx : xs[i]? = some x) :
    ∃ b off cs, A = some ⟨b, off, none⟩ ∧ b < w.heap.size ∧ t.rel Any w x cs ∧ At w b (off + i * t.sz) cs := by
  obtain ⟨A', c', e, hl, hm, hr⟩ := h
  cases e
  obtain ⟨b, off, e, _, hlt, hrow⟩ := hr (by rintro rfl; simp at hx)
  obtain ⟨cs, h1, h2⟩ := hrow i x hx
  exact ⟨b, off, cs, e, hlt, h1, h2⟩
theorem Rd.int {w : World} {k : IntKind} {xs : List Int} {A : Option Addr} {n c : Nat} (h : Rd (Ty.int k) w xs (.slice A n c)) {i : Nat} {x : Int} (hx : xs[i]? = some x) :
    ∃ b off, A = some ⟨b, off, none⟩ ∧ b < w.heap.size ∧ w.cell? ⟨b, off + i, none⟩ = some (.int k x) := by
  obtain ⟨b, off, cs, e, hb, rfl, ha⟩ := h.at hx
  have := ha 0 _ rfl
  exact ⟨b, off, e, hb, by simpa [Ty.int, Ty.flat] using this⟩
theorem Rd.slices {α : Type} {t : Ty α} {w : World} {xss : List (List α)} {A : Option Addr} {n c : Nat} (h : Rd (Ty.slice t) w xss (.slice A n c)) {i : Nat} {x : List α} (hx : xss[i]? = some x) :
    ∃ b off u, A = some ⟨b, off, none⟩ ∧ b < w.heap.size ∧ w.cell? ⟨b, off + i, none⟩ = some u ∧ Rd t w x u := by
  obtain ⟨b, off, cs, e, hb, ⟨u, rfl, hu⟩, ha⟩ := h.at hx
  have := ha 0 _ rfl
  exact ⟨b, off, u, e, hb, by simpa [Ty.slice] using this, hu⟩
theorem SlP.mono {α : Type} {t : Ty α} {B B' : Nat → Prop} {w : World} {xs : List α} {v : Value} (hB : ∀ b, B b → B' b) (h : SlP t B w xs v) : SlP t B' w xs v := by
  obtain ⟨v', e, h'⟩ := (Ty.slice t).mono (x := xs) (cs := [v]) hB ⟨v, rfl, h⟩
  cases e
  exact h'
theorem SlP.any {α : Type} {t : Ty α} {B : Nat → Prop} {w : World} {xs : List α} {v : Value} (h : SlP t B w xs v) : Rd t w xs v := h.mono (fun _ _ => trivial)
theorem SlP.keep {α : Type} {t : Ty α} {B : Nat → Prop} {w w' : World} {xs : List α} {v : Value} (h : SlP t B w xs v) (hB : ∀ b, B b → w'.heap[b]? = w.heap[b]?) : SlP t B w' xs v := by
  obtain ⟨v', e, h'⟩ := (Ty.slice t).keep (x := xs) (cs := [v]) hB ⟨v, rfl, h⟩
  cases e
  exact h'
theorem SlP.low {α : Type} {t : Ty α} {B : Nat → Prop} {w : World} {xs : List α} {v : Value} (h : SlP t B w xs v) : SlP t (fun b => B b ∧ b < w.heap.size) w xs v := by
  obtain ⟨v', e, h'⟩ := (Ty.slice t).low (x := xs) (cs := [v]) ⟨v, rfl, h⟩
  cases e
  exact h'
/-- What is written lies in another block, or is new. -/
theorem SlP.other {α : Type} {t : Ty α} {B : Nat → Prop} {w w' : World} {xs : List α} {v : Value} {row : Option Nat} (h : SlP t B w xs v) (hg : w.grownBy w' row) (hr : ∀ b, B b → b < w.heap.size → row ≠ some b) : SlP t B w' xs v :=
  (h.low.keep (fun b hb => hg.block b hb.2 (fun e => hr b hb.1 hb.2 e.symm))).mono (fun _ hb => hb.1)
theorem SlP.extB {α : Type} {t : Ty α} {B : Nat → Prop} {w w' : World} {xs : List α} {v : Value} (h : SlP t B w xs v) (he : Ext w w') : SlP t B w' xs v := h.other (he.grownBy none) (by simp)
/-- A piece of a slice. -/
theorem SlP.sub {α : Type} {t : Ty α} {B : Nat → Prop} {w : World} {xs : List α} {b off n c : Nat} (h : SlP t B w xs (.slice (some ⟨b, off, none⟩) n c)) (i m : Nat) (ys : List α) (hy : ys = (xs.drop i).take m) (him : i + m ≤ xs.length)
    (off' l' c' : Nat) (hoff : off' = off + i * t.sz) (hl : l' = m) (hc : m ≤ c') (hc' : c' ≤ maxLen) : SlP t B w ys (.slice (some ⟨b, off', none⟩) l' c') := by
  subst hy hoff hl
  obtain ⟨A, c0, e, h1, h2, hr⟩ := h
  cases e
  have hl : ((xs.drop i).take l').length = l' := by rw [List.length_take, List.length_drop]; omega
  refine ⟨_, c', by rw [hl], by omega, hc', fun hne => ?_⟩
  have hx : xs ≠ [] := by rintro rfl; simp at hne
  obtain ⟨b', o', e, hB, hlt, hrow⟩ := hr hx
  cases e
  exact ⟨b, _, rfl, hB, hlt, (hrow.drop i).take l'⟩
/-- A piece from the beginning on, nil or not. -/
theorem SlP.pre {α : Type} {t : Ty α} {B : Nat → Prop} {w : World} {xs : List α} {A : Option Addr} {n c : Nat} (h : SlP t B w xs (.slice A n c)) (m : Nat) (ys : List α) (hy : ys = xs.take m) (hm : m ≤ xs.length)
    (l' c' : Nat) (hl : l' = m) (hc : m ≤ c') (hc' : c' ≤ maxLen) : SlP t B w ys (.slice A l' c') := by
  subst hy hl
  obtain ⟨A, c0, e, h1, h2, hr⟩ := h
  cases e
  have hl : (xs.take l').length = l' := by rw [List.length_take]; omega
  refine ⟨_, c', by rw [hl], by omega, hc', fun hne => ?_⟩
  have hx : xs ≠ [] := by rintro rfl; simp at hne
  obtain ⟨b', o', e, hB, hlt, hrow⟩ := hr hx
  exact ⟨b', o', e, hB, hlt, hrow.take l'⟩
theorem Rd.sub {α : Type} {t : Ty α} {w : World} {xs : List α} {b off n c : Nat} (h : Rd t w xs (.slice (some ⟨b, off, none⟩) n c)) (i m : Nat) (ys : List α) (hy : ys = (xs.drop i).take m) (him : i + m ≤ xs.length)
    (off' l' c' : Nat) (hoff : off' = off + i * t.sz) (hl : l' = m) (hc : m ≤ c') (hc' : c' ≤ maxLen) : Rd t w ys (.slice (some ⟨b, off', none⟩) l' c') := SlP.sub h i m ys hy him off' l' c' hoff hl hc hc'
theorem Rd.pre {α : Type} {t : Ty α} {w : World} {xs : List α} {A : Option Addr} {n c : Nat} (h : Rd t w xs (.slice A n c)) (m : Nat) (ys : List α) (hy : ys = xs.take m) (hm : m ≤ xs.length)
    (l' c' : Nat) (hl : l' = m) (hc : m ≤ c') (hc' : c' ≤ maxLen) : Rd t w ys (.slice A l' c') := SlP.pre h m ys hy hm l' c' hl hc hc'

/-! ### A row of the call's own -/
/-- v is a slice at the beginning of a block of one's own (a block from base on), or nil; it reads as xs; what its elements point to lies in blocks of B, and not in that block. -/
def Own {α : Type} (t : Ty α) (e base : Nat) (B : Nat → Prop) (w : World) (xs : List α) (v : Value) : Prop :=
  ∃ cells, w.ownsRow base e t.sz v xs.length cells ∧ ∀ i x, xs[i]? = some x → ∃ cs, t.rel (fun b => B b ∧ v.ownBlock ≠ some b) w x cs ∧ ∀ j u, cs[j]? = some u → cells[i * t.sz + j]? = some u
section
variable {α : Type} {t : Ty α} {e base : Nat} {B : Nat → Prop} {w w' : World} {xs : List α} {v : Value}
theorem Own.nil (t : Ty α) (e base : Nat) (B : Nat → Prop) (w : World) : Own t e base B w [] (.slice none 0 0) :=
  ⟨[], World.ownsRow_nil w base e t.sz, fun i x h => by simp at h⟩
theorem Own.shape (h : Own t e base B w xs v) : ∃ A c, v = .slice A xs.length c ∧ xs.length ≤ c ∧ c ≤ maxLen := by
  obtain ⟨cells, ⟨_, h2⟩, _⟩ := h
  rcases h2 with ⟨rfl, h0⟩ | ⟨g, cap, cur, rfl, _, _, h1, h2, _⟩
  · rw [h0]; exact ⟨none, 0, rfl, Nat.le_refl _, Nat.zero_le _⟩
  · exact ⟨_, cap, rfl, h1, h2⟩
theorem Own.block (h : Own t e base B w xs v) : ∀ k, v.ownBlock = some k → base ≤ k ∧ k < w.heap.size := fun k hk => let ⟨_, h1, _⟩ := h; h1.lt k hk
theorem Own.lo (h : Own t e base B w xs v) : ∀ k, v.ownBlock = some k → base ≤ k := fun k hk => (h.block k hk).1
theorem Own.sl (h : Own t e base B w xs v) : SlP t (fun b => B b ∨ v.ownBlock = some b) w xs v := by
  obtain ⟨cells, ho, hel⟩ := h
  have hlen := ho.1
  rcases hc : ho.2 with ⟨rfl, h0⟩ | ⟨g, cap, cur, rfl, hb, hh, h1, h2, h3, h4⟩
  · obtain rfl := List.eq_nil_of_length_eq_zero h0
    exact ⟨none, 0, rfl, Nat.le_refl _, Nat.zero_le _, fun h => absurd rfl h⟩
  · refine ⟨_, cap, rfl, h1, h2, fun _ => ⟨g, 0, rfl, .inr rfl, (ho.lt g rfl).2, fun i x hx => ?_⟩⟩
    obtain ⟨cs, hr, hcs⟩ := hel i x hx
    refine ⟨cs, t.mono (fun b hb => .inl hb.1) hr, fun j u hu => ?_⟩
    have := ho.cells (g := g) rfl _ u (hcs j u hu)
    have hadd : (⟨g, 0, none⟩ : Addr).add (i * t.sz + j) = ⟨g, 0 + i * t.sz + j, none⟩ := by
      unfold Addr.add
      split
      · rename_i h; rw [Nat.zero_add, h]
      · simp
    rwa [hadd] at this
theorem Own.rd (h : Own t e base B w xs v) : Rd t w xs v := by
  obtain ⟨A, c, e, hl, hm, hr⟩ := h.sl
  exact ⟨A, c, e, hl, hm, fun hx => let ⟨b, off, e, _, hlt, hr⟩ := hr hx; ⟨b, off, e, trivial, hlt, hr.mono (fun _ _ => trivial)⟩⟩
theorem Own.mono {B' : Nat → Prop} (hB : ∀ b, B b → B' b) (h : Own t e base B w xs v) : Own t e base B' w xs v :=
  let ⟨cells, ho, hel⟩ := h; ⟨cells, ho, fun i x hx => let ⟨cs, hr, hc⟩ := hel i x hx; ⟨cs, t.mono (fun b hb => ⟨hB b hb.1, hb.2⟩) hr, hc⟩⟩
theorem ownsRow_base {w : World} {base base' e sz n : Nat} {v : Value} {cells : List Value} (h : w.ownsRow base e sz v n cells) (hb : ∀ k, v.ownBlock = some k → base' ≤ k) : w.ownsRow base' e sz v n cells := by
  refine ⟨h.1, ?_⟩
  rcases h.2 with h2 | ⟨g, cap, cur, rfl, _, r⟩
  · exact .inl h2
  · exact .inr ⟨g, cap, cur, rfl, hb g rfl, r⟩
theorem Own.rebase {base' : Nat} (h : Own t e base B w xs v) (hb : ∀ k, v.ownBlock = some k → base' ≤ k) : Own t e base' B w xs v :=
  let ⟨cells, ho, hel⟩ := h; ⟨cells, ownsRow_base ho hb, hel⟩
/-- What is written lies in another block, or is new: the row lives on. -/
theorem Own.other {row : Option Nat} (h : Own t e base B w xs v) (hg : w.grownBy w' row) (hv : ∀ k, v.ownBlock = some k → row ≠ some k) (hB : ∀ b, B b → b < w.heap.size → row ≠ some b) : Own t e base B w' xs v := by
  obtain ⟨cells, ho, hel⟩ := h
  refine ⟨cells, ho.kept hg ?_, fun i x hx => ?_⟩
  · cases hk : v.ownBlock with
    | none => exact .inl rfl
    | some k => exact .inr fun he => hv k hk he.symm
  · obtain ⟨cs, hr, hc⟩ := hel i x hx
    exact ⟨cs, t.mono (fun b hb => hb.1) (t.keep (fun b hb => hg.block b hb.2 (fun he => hB b hb.1.1 hb.2 he.symm)) (t.low hr)), hc⟩
theorem Own.ext (h : Own t e base B w xs v) (he : Ext w w') : Own t e base B w' xs v := h.other (he.grownBy none) (by simp) (by simp)
theorem Own.take (h : Own t e base B w xs v) {A : Option Addr} {n c : Nat} (hv : v = .slice A n c) (m : Nat) (hm : m ≤ xs.length) : Own t e base B w (xs.take m) (.slice A m c) := by
  subst hv
  obtain ⟨cells, ho, hel⟩ := h
  have hl : (xs.take m).length = m := by rw [List.length_take]; omega
  refine ⟨cells.take (m * t.sz), ?_, fun i x hx => ?_⟩
  · rw [hl]
    refine ⟨?_, ?_⟩
    · rw [List.length_take, ho.1]
      exact Nat.min_eq_left (Nat.mul_le_mul_right _ hm)
    · rcases ho.2 with ⟨e1, h0⟩ | ⟨g, cap, cur, e1, hb, hh, h1, h2, h3, h4⟩
      · cases e1
        have : m = 0 := by omega
        subst this
        exact .inl ⟨rfl, rfl⟩
      · cases e1
        refine .inr ⟨g, c, cur, rfl, hb, hh, by omega, h2, h3, ?_⟩
        rw [← h4, List.take_take, Nat.min_eq_left (Nat.mul_le_mul_right _ hm)]
  · rw [List.getElem?_take] at hx
    split at hx
    · rename_i hi
      obtain ⟨cs, hr, hc⟩ := hel i x hx
      refine ⟨cs, t.mono (fun b hb => ⟨hb.1, by cases A <;> exact hb.2⟩) hr, fun j u hu => ?_⟩
      have hj : j < t.sz := by rw [← t.len hr]; exact (List.getElem?_eq_some_iff.1 hu).1
      rw [List.getElem?_take, if_pos]
      · exact hc j u hu
      · calc i * t.sz + j < i * t.sz + t.sz := by omega
          _ = (i + 1) * t.sz := by rw [Nat.add_mul, Nat.one_mul]
          _ ≤ m * t.sz := Nat.mul_le_mul_right _ hi
    · cases hx
end

/-- The one new cell group behind 'append(s, x)'. -/
theorem SlP.one {α : Type} {t : Ty α} {w : World} {e : TypeId} (x : α) (cs : Array Value) (h : ∀ B w, t.rel B w x cs.toList) : SlP t Any (w.alloc (.cells cs e)) [x] (.slice (some ⟨w.heap.size, 0, none⟩) 1 1) := by
  refine ⟨_, 1, rfl, Nat.le_refl _, by decide, fun _ => ⟨w.heap.size, 0, rfl, trivial, by simp, fun i y hy => ?_⟩⟩
  match i, hy with
  | 0, hy =>
    cases hy
    refine ⟨cs.toList, h _ _, fun j u hu => ?_⟩
    rw [show 0 + 0 * t.sz + j = j by omega, World.cell?_alloc_new, ← Array.getElem?_toList]
    exact hu
  | i + 1, hy => simp at hy

theorem SlP.one2 {α : Type} {t : Ty α} {B : Nat → Prop} {w : World} {e : TypeId} (x : α) (cs : Array Value) (hB : B w.heap.size) (h : t.rel B (w.alloc (.cells cs e)) x cs.toList) : SlP t B (w.alloc (.cells cs e)) [x] (.slice (some ⟨w.heap.size, 0, none⟩) 1 1) := by
  refine ⟨_, 1, rfl, Nat.le_refl _, by decide, fun _ => ⟨w.heap.size, 0, rfl, hB, by simp, fun i y hy => ?_⟩⟩
  match i, hy with
  | 0, hy =>
    cases hy
    refine ⟨cs.toList, h, fun j u hu => ?_⟩
    rw [show 0 + 0 * t.sz + j = j by omega, World.cell?_alloc_new, ← Array.getElem?_toList]
    exact hu
  | i + 1, hy => simp at hy
/-- Slices behind one another in a new block. -/
theorem SlP.lit1 {α : Type} {t : Ty α} {B : Nat → Prop} {w : World} {e : TypeId} {x : List α} {u : Value} (hB : B w.heap.size) (h : SlP t B w x u) : SlP (Ty.slice t) B (w.alloc (.cells #[u] e)) [x] (.slice (some ⟨w.heap.size, 0, none⟩) 1 1) :=
  SlP.one2 x #[u] hB ⟨u, rfl, h.extB ((Ext.refl _).alloc _)⟩
theorem SlP.lit2 {α : Type} {t : Ty α} {B : Nat → Prop} {w : World} {e : TypeId} {x y : List α} {u u' : Value} (hB : B w.heap.size) (h : SlP t B w x u) (h' : SlP t B w y u') : SlP (Ty.slice t) B (w.alloc (.cells #[u, u'] e)) [x, y] (.slice (some ⟨w.heap.size, 0, none⟩) 2 2) := by
  refine ⟨_, 2, rfl, Nat.le_refl _, by decide, fun _ => ⟨w.heap.size, 0, rfl, hB, by simp, fun i z hz => ?_⟩⟩
  match i, hz with
  | 0, hz =>
    cases hz
    refine ⟨[u], ⟨u, rfl, h.extB ((Ext.refl _).alloc _)⟩, fun j q hq => ?_⟩
    match j, hq with
    | 0, hq => cases hq; simp
    | j + 1, hq => simp at hq
  | 1, hz =>
    cases hz
    refine ⟨[u'], ⟨u', rfl, h'.extB ((Ext.refl _).alloc _)⟩, fun j q hq => ?_⟩
    match j, hq with
    | 0, hq => cases hq; simp [Ty.slice]
    | j + 1, hq => simp at hq
  | i + 2, hz => simp at hz
/-- One's own row, as an element of a row. -/
theorem Own.rel {α : Type} {t : Ty α} {e base : Nat} {w : World} {xs : List α} {v : Value} (h : Own t e base No w xs v) : (Ty.slice t).rel (fun b => base ≤ b) w xs [v] := by
  obtain ⟨A, c, rfl, h1, h2, h3⟩ := h.sl
  refine ⟨_, rfl, A, c, rfl, h1, h2, fun hx => ?_⟩
  obtain ⟨b, off, e, hb, hlt, hr⟩ := h3 hx
  have hlow := h.lo
  subst e
  have hmono : ∀ b', (No b' ∨ (Value.slice (some ⟨b, off, none⟩) xs.length c).ownBlock = some b') → base ≤ b' := fun b' hb' => by
    rcases hb' with hb' | hb'
    · exact hb'.elim
    · exact hlow b' hb'
  exact ⟨b, off, rfl, hmono b hb, hlt, hr.mono hmono⟩

/-- The closed facts on a slice type T with elements e of sz cells and so many bytes. -/
def Elem (P : Program) (T e sz bytes : Nat) : Prop :=
  ∃ i z, P.underlying T = some (.slice e) ∧ P.info? e = some i ∧ i.zero = some z ∧ i.size = sz ∧ i.bytes = bytes ∧ z.cells.size = sz ∧ 0 < sz
theorem Elem.mk {P : Program} {T e sz bytes : Nat} {z : Value} (hu : P.underlying T = some (.slice e)) (hi : (P.info? e).map (fun i => (i.zero, i.size, i.bytes)) = some (some z, sz, bytes)) (hz : z.cells.size = sz) (h0 : 0 < sz) : Elem P T e sz bytes := by
  obtain ⟨i, h1, h2⟩ := Option.map_eq_some_iff.1 hi
  simp only [Prod.mk.injEq] at h2
  exact ⟨i, z, hu, h1, h2.1, h2.2.1, h2.2.2, hz, h0⟩

section
variable {P : Program} {ops : Array Oper} {rest : List Oper} {a : Act} {Q : Exit → Act → World → Prop} {α : Type} {t : Ty α}

theorem Row.news {B : Nat → Prop} {w : World} {b off : Nat} : ∀ {ys : List α}, Row t B w b off ys → ∃ news : List Value, news.length = ys.length * t.sz ∧ At w b off news ∧ (∀ u ∈ news, u.oneCell' = true) ∧
    ∀ i x, ys[i]? = some x → ∃ cs, t.rel B w x cs ∧ ∀ j u, cs[j]? = some u → news[i * t.sz + j]? = some u := by
  intro ys
  induction ys generalizing off with
  | nil => intro _; exact ⟨[], by simp, fun j u h => by simp at h, by simp, fun i x h => by simp at h⟩
  | cons y ys ih =>
    intro h
    obtain ⟨cs, hr, ha⟩ := h 0 y rfl
    obtain ⟨news, h1, h2, h3, h4⟩ := ih (h.drop 1)
    have hl := t.len hr
    refine ⟨cs ++ news, by rw [List.length_append, h1, hl, List.length_cons, Nat.add_mul, Nat.one_mul, Nat.add_comm], fun j u hu => ?_, fun u hu => ?_, fun i x hx => ?_⟩
    · rw [List.getElem?_append] at hu
      split at hu
      · rename_i hj
        have := ha j u hu
        rwa [Nat.zero_mul, Nat.add_zero] at this
      · rename_i hj
        have := h2 _ u hu
        rw [Nat.one_mul] at this
        rwa [show off + t.sz + (j - cs.length) = off + j by omega] at this
    · rcases List.mem_append.1 hu with hu | hu
      · exact t.one hr u hu
      · exact h3 u hu
    · cases i with
      | zero =>
        cases hx
        refine ⟨cs, hr, fun j u hu => ?_⟩
        rw [Nat.zero_mul, Nat.zero_add, List.getElem?_append_left (List.getElem?_eq_some_iff.1 hu).1]
        exact hu
      | succ i =>
        obtain ⟨cs', hr', hc'⟩ := h4 i x hx
        refine ⟨cs', hr', fun j u hu => ?_⟩
        rw [List.getElem?_append_right (by rw [hl, Nat.add_mul, Nat.one_mul]; omega), hl, show (i + 1) * t.sz + j - t.sz = i * t.sz + j by rw [Nat.add_mul, Nat.one_mul]; omega]
        exact hc' j u hu

/-- append(v, src...): v is one's own. -/
theorem op_append {w : World} {K : Act → World → Prop} {dst : Option Tmp} {s x : Operand} {T ty : TypeId} {pos : String} {after : Array Edge} {gd : Option (Nat × Bool)} (e base bytes : Nat) (he : Elem P T e t.sz bytes) (B : Nat → Prop)
    (v : Value) (xs : List α) (hs : a.eval s = v) (hown : Own t e base B w xs v) (src : Value) (ys : List α) (hx : a.eval x = src) (B1 : Nat → Prop) (hsrc : SlP t B1 w ys src)
    (hel : ∀ y cs, t.rel B1 w y cs → t.rel (fun b => B b ∧ v.ownBlock ≠ some b) w y cs)
    (hlen : (xs.length + ys.length) * bytes ≤ 140737488355328) (h0 : 0 < bytes) (hbase : base ≤ w.heap.size)
    (h : ∀ v' w', Own t e base B w' (xs ++ ys) v' → w.grownBy w' v.ownBlock → (v'.ownBlock = v.ownBlock ∨ v'.ownBlock = some w.heap.size) → K (a.put dst v') w') :
    Oper.wp P ⟨dst, .call { callee := .builtin .append, args := #[s, x], argTypes := #[T, T] }, ty, pos, after, gd⟩ a w K Q := by
  obtain ⟨i, z, hu, hi, hz, hsz, hby, hzs, hsz0⟩ := he
  have hm : xs.length + ys.length ≤ maxLen := by
    have := Nat.le_trans (Nat.le_mul_of_pos_right _ h0) hlen
    simp only [maxLen]; omega
  obtain ⟨A, c, rfl, hl, hcm, hrow⟩ := hsrc
  obtain ⟨cells, ho, hels⟩ := hown
  have fin : ∀ (news : List Value), news.length = ys.length * t.sz → (∀ i x, ys[i]? = some x → ∃ cs, t.rel (fun b => B b ∧ v.ownBlock ≠ some b) w x cs ∧ ∀ j u, cs[j]? = some u → news[i * t.sz + j]? = some u) →
      ∀ v' w', w'.ownsRow base e t.sz v' (xs.length + ys.length) (cells ++ news) → w.grownBy w' v.ownBlock → (v'.ownBlock = v.ownBlock ∨ v'.ownBlock = some w.heap.size) → Own t e base B w' (xs ++ ys) v' := by
    intro news hnl hn v' w' ho' hg hat
    refine ⟨cells ++ news, by rw [List.length_append]; exact ho', fun i x hx => ?_⟩
    have up : ∀ {x cs}, t.rel (fun b => B b ∧ v.ownBlock ≠ some b) w x cs → t.rel (fun b => B b ∧ v'.ownBlock ≠ some b) w' x cs := fun hr =>
      t.mono (fun b hb => ⟨hb.1.1, by rcases hat with hat | hat <;> rw [hat]; exact hb.1.2; exact fun h => by have := Option.some.inj h; omega⟩) (t.keep (fun b hb => hg.block b hb.2 (fun h => hb.1.2 h.symm)) (t.low hr))
    rw [List.getElem?_append] at hx
    split at hx
    · obtain ⟨cs, hr, hc⟩ := hels i x hx
      refine ⟨cs, up hr, fun j u hu => ?_⟩
      have := hc j u hu
      rw [List.getElem?_append_left (List.getElem?_eq_some_iff.1 this).1]
      exact this
    · rename_i hi
      obtain ⟨cs, hr, hc⟩ := hn _ x hx
      refine ⟨cs, up hr, fun j u hu => ?_⟩
      have hle : xs.length * t.sz ≤ i * t.sz := Nat.mul_le_mul_right _ (by omega)
      rw [List.getElem?_append_right (by rw [ho.1]; omega), ho.1, show i * t.sz + j - xs.length * t.sz = (i - xs.length) * t.sz + j by rw [Nat.sub_mul]; omega]
      exact hc j u hu
  cases A with
  | none =>
    have hy : ys = [] := by
      cases ys with
      | nil => rfl
      | cons y ys => obtain ⟨b, off, e, _⟩ := hrow (by simp); cases e
    subst hy
    have hcap : ∃ v' w', (Builtin.append_ #[T, T] ty #[v, .slice none 0 c]).run P w = .ok v' w' ∧ v' = v ∧ w' = w := by
      rcases ho.2 with ⟨rfl, h0⟩ | ⟨g, cap, cur, rfl, _, _, hnc, _⟩
      · exact ⟨_, _, by simp [Builtin.append_, run_underlying hu, sizeOf, typeInfo, hi, Builtin.lenOf, Builtin.firstCells], rfl, rfl⟩
      · refine ⟨_, _, ?_, rfl, rfl⟩
        simp [Builtin.append_, run_underlying hu, sizeOf, typeInfo, hi, Builtin.lenOf, Builtin.firstCells, hnc, storeCells]
    obtain ⟨v', w', hr, rfl, rfl⟩ := hcap
    unfold Oper.wp execOp
    simp only [resolve, invoke, builtin, Sem.run_bind, Sem.run_pure, Result.andThen_ok, List.map_toArray, List.map_cons, List.map_nil, hs, hx, List.length_nil, hr]
    refine h v' w' ?_ ⟨rfl, rfl, rfl, Nat.le_refl _, fun _ _ _ => rfl⟩ (.inl rfl)
    rw [List.append_nil]
    exact ⟨cells, ho, hels⟩
  | some ad =>
    have hnews : ∃ news : List Value, news.length = ys.length * t.sz ∧ (∀ j u, news[j]? = some u → w.cell? (ad.add j) = some u) ∧ (∀ u ∈ news, u.oneCell' = true) ∧
        ∀ i x, ys[i]? = some x → ∃ cs, t.rel (fun b => B b ∧ v.ownBlock ≠ some b) w x cs ∧ ∀ j u, cs[j]? = some u → news[i * t.sz + j]? = some u := by
      by_cases hy : ys = []
      · subst hy
        exact ⟨[], by simp, fun j u h => by simp at h, by simp, fun i x h => by simp at h⟩
      · obtain ⟨b, off, e1, _, hlt, hr⟩ := hrow hy
        cases e1
        obtain ⟨news, h1, h2, h3, h4⟩ := hr.news
        refine ⟨news, h1, fun j u hu => ?_, h3, fun i x hx => ?_⟩
        · have := h2 j u hu
          unfold Addr.add
          split
          · rename_i hj; subst hj; exact this
          · exact this
        · obtain ⟨cs, hr, hc⟩ := h4 i x hx
          exact ⟨cs, hel x cs hr, hc⟩
    obtain ⟨news, h1, h2, h3, h4⟩ := hnews
    obtain ⟨v', w', hr, ho', hg, _, hat⟩ := run_append_own_at (P := P) w base T ty e i z t.sz bytes hu hi hz hsz hby hzs hsz0 v xs.length cells ho ad ys.length c news h1 h2 h3 hm hlen hbase
    unfold Oper.wp execOp
    simp only [resolve, invoke, builtin, Sem.run_bind, Sem.run_pure, Result.andThen_ok, List.map_toArray, List.map_cons, List.map_nil, hs, hx, hr]
    exact h v' w' (fin news h1 h4 v' w' ho' hg hat) hg hat
theorem wp_append {w : World} {dst : Option Tmp} {s x : Operand} {T ty : TypeId} {pos : String} {after : Array Edge} (e base bytes : Nat) (he : Elem P T e t.sz bytes) (B : Nat → Prop)
    (v : Value) (xs : List α) (hs : a.eval s = v) (hown : Own t e base B w xs v) (src : Value) (ys : List α) (hx : a.eval x = src) (B1 : Nat → Prop) (hsrc : SlP t B1 w ys src)
    (hel : ∀ y cs, t.rel B1 w y cs → t.rel (fun b => B b ∧ v.ownBlock ≠ some b) w y cs)
    (hlen : (xs.length + ys.length) * bytes ≤ 140737488355328) (h0 : 0 < bytes) (hbase : base ≤ w.heap.size)
    (h : ∀ v' w', Own t e base B w' (xs ++ ys) v' → w.grownBy w' v.ownBlock → (v'.ownBlock = v.ownBlock ∨ v'.ownBlock = some w.heap.size) → wpList P ops Q rest (a.put dst v') w') :
    wpList P ops Q (⟨dst, .call { callee := .builtin .append, args := #[s, x], argTypes := #[T, T] }, ty, pos, after, none⟩ :: rest) a w :=
  wpList_plain rfl fun K hK => op_append (K := K) e base bytes he B v xs hs hown src ys hx B1 hsrc hel hlen h0 hbase fun v' w' h1 h2 h3 => hK _ _ (h v' w' h1 h2 h3)
/-- The same as one step of a region that draws its order. -/
theorem st_append {E : Prop} {w : World} {K : Act → World → Prop} {dst : Option Tmp} {s x : Operand} {T ty : TypeId} {pos : String} {after : Array Edge} (e base bytes : Nat) (he : Elem P T e t.sz bytes) (B : Nat → Prop)
    (v : Value) (xs : List α) (hs : a.eval s = v) (hown : Own t e base B w xs v) (src : Value) (ys : List α) (hx : a.eval x = src) (B1 : Nat → Prop) (hsrc : SlP t B1 w ys src)
    (hel : ∀ y cs, t.rel B1 w y cs → t.rel (fun b => B b ∧ v.ownBlock ≠ some b) w y cs)
    (hlen : (xs.length + ys.length) * bytes ≤ 140737488355328) (h0 : 0 < bytes) (hbase : base ≤ w.heap.size)
    (h : ∀ v' w', Own t e base B w' (xs ++ ys) v' → w.grownBy w' v.ownBlock → (v'.ownBlock = v.ownBlock ∨ v'.ownBlock = some w.heap.size) → K (a.put dst v') w') :
    if Region.wanted ⟨dst, .call { callee := .builtin .append, args := #[s, x], argTypes := #[T, T] }, ty, pos, after, none⟩ (yielded ops a.tmps) = true then Oper.wp P ⟨dst, .call { callee := .builtin .append, args := #[s, x], argTypes := #[T, T] }, ty, pos, after, none⟩ a w K Q else E := by
  rw [if_pos (by simp [Region.wanted])]
  exact op_append e base bytes he B v xs hs hown src ys hx B1 hsrc hel hlen h0 hbase h
end

/-- For a quiet region behind another one: a callee that leaves the world alone. -/
theorem quiet_more {P : Program} {f : FuncId} {args : Array Value} {v : Value} (h : ∀ W : World, Calls P f args W fun e w' => e = .returned v ∧ w' = W) {w : World} {a n : Nat} :
    Calls P f args (w.drewN (a + n)) fun e w' => e = .returned v ∧ ∃ m, w' = w.drewN (a + m) :=
  (h _).mono fun _ _ ⟨he, hw⟩ => ⟨he, n, hw⟩

/-! ### make, copy -/
/-- What make gives: for the walk, as a rule. -/
theorem run_mk {P : Program} {T e sz bytes : Nat} (he : Elem P T e sz bytes) : ∃ z : Value, (∃ i, P.info? e = some i ∧ i.zero = some z) ∧ z.cells.size = sz ∧ ∀ (m : Nat) (W : World), bytes * m ≤ 281474976710656 → m ≤ 9223372036854775807 →
    (Instr.makeSlice T (.int .i64 (m : Int)) (.int .i64 (m : Int))).run P W = .ok (.slice (some ⟨W.heap.size, 0, none⟩) m m) (W.alloc (.cells (madeCells z.cells (m * sz)) e)) := by
  obtain ⟨i, z, hu, hi, hz, hsz, hby, hzs, hsz0⟩ := he
  refine ⟨z, ⟨i, hi, hz⟩, hzs, fun m W hb h63 => ?_⟩
  have := run_make (P := P) W T e i z hu hi hz .i64 .i64 (m : Int) (m : Int) (by omega) (Int.le_refl _) (by rw [hby]; omega) (by omega)
  rw [Int.toNat_natCast, hsz] at this
  exact this
section
variable {P : Program} {ops : Array Oper} {rest : List Oper} {a : Act} {Q : Exit → Act → World → Prop} {α : Type} {t : Ty α}
theorem madeCells_get (z : Array Value) (m j : Nat) (hj : j < m * z.size) : (madeCells z (m * z.size))[j]? = z[j % z.size]? := by
  have hz : 0 < z.size := by
    rcases Nat.eq_zero_or_pos z.size with h | h
    · rw [h, Nat.mul_zero] at hj; omega
    · exact h
  have hm : j % z.size < z.size := Nat.mod_lt _ hz
  simp [madeCells, hj, hm]
/-- A slice that make made: its elements are z0, the zero value. -/
theorem Own.made {w : World} {e base m : Nat} {B : Nat → Prop} (z : Array Value) (z0 : α) (hz : z.size = t.sz) (hrel : ∀ B w, t.rel B w z0 z.toList) (hb : base ≤ w.heap.size) (hm : m ≤ maxLen) :
    Own t e base B (w.alloc (.cells (madeCells z (m * t.sz)) e)) (List.replicate m z0) (.slice (some ⟨w.heap.size, 0, none⟩) m m) := by
  refine ⟨(madeCells z (m * t.sz)).toList, ?_, fun i x hx => ?_⟩
  · rw [List.length_replicate]
    refine ⟨by rw [Array.length_toList, size_madeCells], .inr ⟨w.heap.size, m, _, rfl, hb, heap_alloc_new w _, Nat.le_refl _, hm, by rw [size_madeCells], ?_⟩⟩
    rw [List.take_of_length_le (by rw [Array.length_toList, size_madeCells]; exact Nat.le_refl _)]
  · rw [List.getElem?_replicate] at hx
    split at hx
    · rename_i hi
      cases hx
      refine ⟨z.toList, hrel _ _, fun j u hu => ?_⟩
      have hj : j < z.size := by have := (List.getElem?_eq_some_iff.1 hu).1; rwa [Array.length_toList] at this
      have hlt : i * z.size + j < m * z.size := by
        calc i * z.size + j < i * z.size + z.size := by omega
          _ = (i + 1) * z.size := by rw [Nat.add_mul, Nat.one_mul]
          _ ≤ m * z.size := Nat.mul_le_mul_right _ hi
      rw [Array.getElem?_toList, ← hz, madeCells_get z m _ hlt, Nat.mul_comm, Nat.mul_add_mod, Nat.mod_eq_of_lt hj, ← Array.getElem?_toList]
      exact hu
    · cases hx

/-- copy(v, src): v is one's own, and at least as long. -/
theorem wp_copy {w : World} {dst : Option Tmp} {s x : Operand} {T ty : TypeId} {pos : String} {after : Array Edge} (T' e base bytes : Nat) (he : Elem P T e t.sz bytes) (B : Nat → Prop)
    (v : Value) (xs : List α) (hs : a.eval s = v) (hown : Own t e base B w xs v) (src : Value) (ys : List α) (hx : a.eval x = src) (B1 : Nat → Prop) (hsrc : SlP t B1 w ys src)
    (hel : ∀ y cs, t.rel B1 w y cs → t.rel (fun b => B b ∧ v.ownBlock ≠ some b) w y cs) (hlen : ys.length ≤ xs.length)
    (h : ∀ w', Own t e base B w' (ys ++ xs.drop ys.length) v → w.grownBy w' v.ownBlock → w'.heap.size = w.heap.size → wpList P ops Q rest (a.put dst (.int .i64 (ys.length : Int))) w') :
    wpList P ops Q (⟨dst, .call { callee := .builtin .copy, args := #[s, x], argTypes := #[T, T'] }, ty, pos, after, none⟩ :: rest) a w := by
  obtain ⟨i, z, hu, hi, hz, hsz, hby, hzs, hsz0⟩ := he
  obtain ⟨A, c, rfl, hl, hcm, hrow⟩ := hsrc
  obtain ⟨cells, ho, hels⟩ := hown
  -- the source's cells
  have hnews : ∃ news : List Value, news.length = ys.length * t.sz ∧ (∀ u ∈ news, u.oneCell' = true) ∧ (Builtin.firstCells i.size ys.length (.slice A ys.length c)).run P w = .ok news.toArray w ∧
      ∀ i x, ys[i]? = some x → ∃ cs, t.rel (fun b => B b ∧ v.ownBlock ≠ some b) w x cs ∧ ∀ j u, cs[j]? = some u → news[i * t.sz + j]? = some u := by
    by_cases hy : ys = []
    · subst hy
      refine ⟨[], by simp, by simp, ?_, fun i x h => by simp at h⟩
      cases A with
      | none => simp [Builtin.firstCells]
      | some ad => simp [Builtin.firstCells, loadCells, loadCellsFrom]
    · obtain ⟨b, off, e1, _, hlt, hr⟩ := hrow hy
      cases e1
      obtain ⟨news, h1, h2, h3, h4⟩ := hr.news
      refine ⟨news, h1, h3, ?_, fun i x hx => ?_⟩
      · have hc : ∀ j u, news[j]? = some u → w.cell? ((⟨b, off, none⟩ : Addr).add j) = some u := fun j u hu => by
          have := h2 j u hu
          unfold Addr.add
          split
          · rename_i hj; subst hj; exact this
          · exact this
        have := run_firstCells_some (P := P) w i.size ys.length ⟨b, off, none⟩ ys.length c news (by rw [h1, hsz]) hc
        exact this
      · obtain ⟨cs, hr, hc⟩ := h4 i x hx
        exact ⟨cs, hel x cs hr, hc⟩
  obtain ⟨news, hnl, hn1, hrun, hnel⟩ := hnews
  have hmin : Nat.min ys.length xs.length = ys.length := Nat.min_eq_left hlen
  rcases ho.2 with ⟨rfl, h0⟩ | ⟨g, cap, cur, rfl, hb, hh, hc1, hc2, hc3, hc4⟩
  · obtain rfl := List.eq_nil_of_length_eq_zero h0
    obtain rfl : ys = [] := List.eq_nil_of_length_eq_zero (by simpa using hlen)
    refine wpList_plain rfl fun K hK => ?_
    have hr : (Builtin.copy_ #[T, T'] ty #[.slice none 0 0, .slice A 0 c]).run P w = .ok (.int .i64 0) w := by
      have h2 := hrun
      simp only [List.length_nil] at h2
      simp [Builtin.copy_, run_underlying hu, sizeOf, typeInfo, hi, Builtin.lenOf, h2, goInt]
    unfold Oper.wp execOp
    simp only [resolve, invoke, builtin, Sem.run_bind, Sem.run_pure, Result.andThen_ok, List.map_toArray, List.map_cons, List.map_nil, hs, hx, List.length_nil, hr]
    refine hK _ _ (h w ?_ ⟨rfl, rfl, rfl, Nat.le_refl _, fun _ _ _ => rfl⟩ rfl)
    exact ⟨cells, ho, hels⟩
  · have hcl : cells.length = xs.length * t.sz := ho.1
    have hfit : news.length ≤ cur.size := by rw [hnl, hc3]; exact Nat.mul_le_mul_right _ (by omega)
    have hst := run_storeCells_at P g 0 e news 0 cur w hh (by simpa using hfit) hn1
    simp only [Nat.zero_add, Nat.add_zero, List.take_zero, List.nil_append] at hst
    have hr : (Builtin.copy_ #[T, T'] ty #[.slice (some ⟨g, 0, none⟩) xs.length cap, .slice A ys.length c]).run P w = .ok (.int .i64 (ys.length : Int)) (w.setRow g (news ++ cur.toList.drop news.length).toArray) := by
      have h2 := hrun
      simp [Builtin.copy_, run_underlying hu, sizeOf, typeInfo, hi, Builtin.lenOf, hmin, h2, goInt, hst]
    refine wpList_plain rfl fun K hK => ?_
    unfold Oper.wp execOp
    simp only [resolve, invoke, builtin, Sem.run_bind, Sem.run_pure, Result.andThen_ok, List.map_toArray, List.map_cons, List.map_nil, hs, hx, hr]
    have hg : w.grownBy (w.setRow g (news ++ cur.toList.drop news.length).toArray) (some g) := ⟨rfl, rfl, rfl, by simp [World.setRow], fun k _ hk => setRow_other w g k _ (fun e => hk (by rw [e]))⟩
    have hll : (ys ++ xs.drop ys.length).length = xs.length := by rw [List.length_append, List.length_drop]; omega
    refine hK _ _ (h _ ?_ hg (by simp [World.setRow]))
    have hle : ys.length * t.sz ≤ xs.length * t.sz := Nat.mul_le_mul_right _ hlen
    refine ⟨news ++ cells.drop news.length, ?_, fun i x hx => ?_⟩
    · rw [hll]
      refine ⟨by rw [List.length_append, List.length_drop, hcl, hnl]; omega, .inr ⟨g, cap, _, rfl, hb, setRow_heap w g cur _ e _ hh, hc1, hc2, ?_, ?_⟩⟩
      · simp only [List.size_toArray, List.length_append, List.length_drop, Array.length_toList]; omega
      · rw [List.take_append, List.take_of_length_le (by omega), ← hc4]
        congr 1
        rw [List.drop_take]
    · have up : ∀ {x cs}, t.rel (fun b => B b ∧ (Value.slice (some ⟨g, 0, none⟩) xs.length cap).ownBlock ≠ some b) w x cs → t.rel (fun b => B b ∧ (Value.slice (some ⟨g, 0, none⟩) xs.length cap).ownBlock ≠ some b) (w.setRow g (news ++ cur.toList.drop news.length).toArray) x cs := fun hr =>
        t.mono (fun b hb => hb.1) (t.keep (fun b hb => hg.block b hb.2 (fun h => hb.1.2 (show some g = some b from h.symm))) (t.low hr))
      rw [List.getElem?_append] at hx
      split at hx
      · obtain ⟨cs, hr, hc⟩ := hnel i x hx
        refine ⟨cs, up hr, fun j u hu => ?_⟩
        have := hc j u hu
        rw [List.getElem?_append_left (List.getElem?_eq_some_iff.1 this).1]
        exact this
      · rename_i hi
        rw [List.getElem?_drop] at hx
        obtain ⟨cs, hr, hc⟩ := hels _ x hx
        refine ⟨cs, up hr, fun j u hu => ?_⟩
        have := hc j u hu
        have h3 : ys.length * t.sz ≤ i * t.sz := Nat.mul_le_mul_right _ (by omega)
        rw [List.getElem?_append_right (by omega), List.getElem?_drop, hnl]
        rw [show ys.length + (i - ys.length) = i by omega] at this
        rwa [show ys.length * t.sz + (i * t.sz + j - ys.length * t.sz) = i * t.sz + j by omega]
end

section
variable {P : Program} {ops : Array Oper} {rest : List Oper} {a : Act} {Q : Exit → Act → World → Prop} {w : World}
/-- The same in a region that draws its order. -/
theorem gate_st {K : Act → World → Prop} {E : Prop} {dst : Option Tmp} {ats : Array TypeId} {ty : TypeId} {pos : String} {after : Array Edge} {gd : Option (Nat × Bool)} (b : Builtin) (args : Array Operand)
    (h : if Region.wanted ⟨dst, .call { callee := .builtin b, args := args, argTypes := ats }, ty, pos, after, gd⟩ (yielded ops a.tmps) = true then Oper.wp P ⟨dst, .call { callee := .builtin b, args := args, argTypes := ats }, ty, pos, after, gd⟩ a w K Q else E) :
    if Region.wanted ⟨dst, .call { callee := .builtin b, args := args, argTypes := ats }, ty, pos, after, gd⟩ (yielded ops a.tmps) = true then Oper.wp P ⟨dst, .call { callee := .builtin b, args := args, argTypes := ats }, ty, pos, after, gd⟩ a w K Q else E := h
/-- For the walk: is the next operation this builtin, of these operands? -/
theorem gate_bi {dst : Option Tmp} {ats : Array TypeId} {ty : TypeId} {pos : String} {after : Array Edge} {gd : Option (Nat × Bool)} (b : Builtin) (args : Array Operand)
    (h : wpList P ops Q (⟨dst, .call { callee := .builtin b, args := args, argTypes := ats }, ty, pos, after, gd⟩ :: rest) a w) : wpList P ops Q (⟨dst, .call { callee := .builtin b, args := args, argTypes := ats }, ty, pos, after, gd⟩ :: rest) a w := h
end

/-! ### A row of rows, all of them one's own, no two in one block -/
theorem grownBy_set (w : World) (a : Addr) (u : Value) : w.grownBy (w.setCell a u) (some a.block) :=
  ⟨rfl, rfl, rfl, by simp [World.setCell], fun k _ hk => Below.heap_setCell w a u k (fun h => hk (by rw [h]))⟩
theorem Own.set {α : Type} {t : Ty α} {e base : Nat} {B : Nat → Prop} {w : World} {xs : List α} {v : Value} (h : Own t e base B w xs v) (a : Addr) (u : Value) (ha : a.block < base) (hB : ∀ b, B b → a.block ≠ b) : Own t e base B (w.setCell a u) xs v :=
  h.other (grownBy_set w a u) (fun k hk hc => by have := h.lo k hk; have := Option.some.inj hc; omega) (fun b hb _ hc => hB b hb (Option.some.inj hc))
def Own2 {α : Type} (t : Ty α) (e1 e base : Nat) (w : World) (xss : List (List α)) (v : Value) : Prop :=
  ∃ vs : List Value, w.ownsRow base e1 1 v xss.length vs ∧
    (∀ (i : Nat) (x : List α), xss[i]? = some x → ∃ u : Value, vs[i]? = some u ∧ Own t e base (No) w x u ∧ ∀ k, u.ownBlock = some k → v.ownBlock ≠ some k) ∧
    (∀ (i j : Nat) (u u' : Value), i ≠ j → vs[i]? = some u → vs[j]? = some u' → ∀ k, u.ownBlock = some k → u'.ownBlock ≠ some k)
section
variable {α : Type} {t : Ty α} {e1 e base : Nat} {w w' : World} {xss : List (List α)} {v : Value}
theorem Own2.nil (t : Ty α) (e1 e base : Nat) (w : World) : Own2 t e1 e base w [] (.slice none 0 0) := ⟨[], World.ownsRow_nil w base e1 1, by simp, by simp⟩
theorem Own2.block (h : Own2 t e1 e base w xss v) : ∀ k, v.ownBlock = some k → base ≤ k ∧ k < w.heap.size := fun k hk => let ⟨_, h1, _⟩ := h; h1.lt k hk
theorem Own2.own (h : Own2 t e1 e base w xss v) : Own (Ty.slice t) e1 base (fun b => base ≤ b) w xss v := by
  obtain ⟨vs, ho, hel, _⟩ := h
  refine ⟨vs, ho, fun i x hx => ?_⟩
  obtain ⟨u, hu, hou, hne⟩ := hel i x hx
  have hs := hou.sl
  obtain ⟨A, c, rfl, h1, h2, h3⟩ := hs
  refine ⟨[.slice A x.length c], ⟨_, rfl, A, c, rfl, h1, h2, fun hx => ?_⟩, fun j u' hu' => ?_⟩
  · obtain ⟨b, off, e, hb, hlt, hr⟩ := h3 hx
    have hlow := hou.lo
    subst e
    refine ⟨b, off, rfl, ⟨hlow b rfl, hne b rfl⟩, hlt, hr.mono (fun b' hb' => ?_)⟩
    rcases hb' with hf | hb'
    · exact hf.elim
    · cases hb'; exact ⟨hlow b rfl, hne b rfl⟩
  · cases j with
    | zero => cases hu'; show vs[i * 1 + 0]? = _; simpa using hu
    | succ j => simp at hu'
theorem Own2.rd (h : Own2 t e1 e base w xss v) : Rd (Ty.slice t) w xss v := h.own.rd
theorem Own2.other {row : Option Nat} (h : Own2 t e1 e base w xss v) (hg : w.grownBy w' row) (hr : ∀ k, row = some k → k < base ∨ w.heap.size ≤ k) : Own2 t e1 e base w' xss v := by
  obtain ⟨vs, ho, hel, hd⟩ := h
  refine ⟨vs, ho.kept hg ?_, fun i x hx => ?_, hd⟩
  · cases hk : v.ownBlock with
    | none => exact .inl rfl
    | some k => refine .inr fun he => ?_; have h1 := ho.lt k hk; have h2 := hr k he.symm; omega
  · obtain ⟨u, hu, hou, hne⟩ := hel i x hx
    refine ⟨u, hu, hou.other hg (fun k hk he => ?_) (fun b hb => hb.elim), hne⟩
    have h1 := hou.block k hk
    have h2 := hr k he
    omega
theorem Own2.ext (h : Own2 t e1 e base w xss v) (he : Ext w w') : Own2 t e1 e base w' xss v := h.other (he.grownBy none) (by simp)
theorem Own2.rebase {base' : Nat} (h : Own2 t e1 e base w xss v) (hb : base' ≤ base) : Own2 t e1 e base' w xss v := by
  obtain ⟨vs, ho, hel, hd⟩ := h
  exact ⟨vs, ownsRow_base ho (fun k hk => Nat.le_trans hb (ho.lt k hk).1), fun i x hx => let ⟨u, hu, hou, hne⟩ := hel i x hx; ⟨u, hu, hou.rebase (fun k hk => Nat.le_trans hb (hou.lo k hk)), hne⟩, hd⟩
theorem Own2.one {x : List α} {u : Value} (hu : Own t e base (No) w x u) (hb : base ≤ w.heap.size) : Own2 t e1 e base (w.alloc (.cells #[u] e1)) [x] (.slice (some ⟨w.heap.size, 0, none⟩) 1 1) := by
  refine ⟨[u], World.ownsRow_lit w #[u] 1 hb (by decide) rfl, fun i y hy => ?_, fun i j a b hij ha hb => ?_⟩
  · match i, hy with
    | 0, hy =>
      cases hy
      refine ⟨u, rfl, hu.ext ((Ext.refl _).alloc _), fun k hk h => ?_⟩
      have := (hu.block k hk).2
      simp [Value.ownBlock] at h
      omega
    | i + 1, hy => simp at hy
  · have h1 := (List.getElem?_eq_some_iff.1 ha).1
    have h2 := (List.getElem?_eq_some_iff.1 hb).1
    simp at h1 h2
    omega
theorem Own2.two {x y : List α} {u u' : Value} (hu : Own t e base (No) w x u) (hu' : Own t e base (No) w y u') (hd : ∀ k, u.ownBlock = some k → u'.ownBlock ≠ some k) (hb : base ≤ w.heap.size) :
    Own2 t e1 e base (w.alloc (.cells #[u, u'] e1)) [x, y] (.slice (some ⟨w.heap.size, 0, none⟩) 2 2) := by
  refine ⟨[u, u'], World.ownsRow_lit w #[u, u'] 2 hb (by decide) rfl, fun i z hz => ?_, fun i j a b hij ha hb => ?_⟩
  · match i, hz with
    | 0, hz =>
      cases hz
      refine ⟨u, rfl, hu.ext ((Ext.refl _).alloc _), fun k hk h => ?_⟩
      have := (hu.block k hk).2
      simp [Value.ownBlock] at h
      omega
    | 1, hz =>
      cases hz
      refine ⟨u', rfl, hu'.ext ((Ext.refl _).alloc _), fun k hk h => ?_⟩
      have := (hu'.block k hk).2
      simp [Value.ownBlock] at h
      omega
    | i + 2, hz => simp at hz
  · match i, j, ha, hb with
    | 0, 0, _, _ => exact absurd rfl hij
    | 0, 1, ha, hb => cases ha; cases hb; exact hd
    | 1, 0, ha, hb => cases ha; cases hb; exact fun k hk h => hd k h hk
    | 1, 1, _, _ => exact absurd rfl hij
    | i + 2, _, ha, _ => simp at ha
    | 0, j + 2, _, hb => simp at hb
    | 1, j + 2, _, hb => simp at hb
end

section
variable {α : Type} {t : Ty α} {e1 e base : Nat} {w w' : World} {xss : List (List α)} {v : Value}
theorem Own2.shape (h : Own2 t e1 e base w xss v) : ∃ A c, v = .slice A xss.length c ∧ xss.length ≤ c ∧ c ≤ maxLen := h.own.shape
theorem Own2.take (h : Own2 t e1 e base w xss v) {A : Option Addr} {n c : Nat} (hv : v = .slice A n c) (m : Nat) (hm : m ≤ xss.length) : Own2 t e1 e base w (xss.take m) (.slice A m c) := by
  subst hv
  obtain ⟨vs, ho, hel, hd⟩ := h
  have hl : (xss.take m).length = m := by rw [List.length_take]; omega
  refine ⟨vs.take m, ?_, fun i x hx => ?_, fun i j u u' hij hu hu' => ?_⟩
  · rw [hl]
    refine ⟨?_, ?_⟩
    · rw [List.length_take, ho.1]; omega
    · rcases ho.2 with ⟨e1, h0⟩ | ⟨g, cap, cur, e1, hb, hh, h1, h2, h3, h4⟩
      · cases e1
        have : m = 0 := by omega
        subst this
        exact .inl ⟨rfl, rfl⟩
      · cases e1
        refine .inr ⟨g, c, cur, rfl, hb, hh, by omega, h2, h3, ?_⟩
        rw [← h4, List.take_take]
        congr 1
        omega
  · rw [List.getElem?_take] at hx
    split at hx
    · rename_i hi
      obtain ⟨u, hu, hou, hne⟩ := hel i x hx
      exact ⟨u, by rw [List.getElem?_take, if_pos hi]; exact hu, hou, fun k hk => by cases A <;> exact hne k hk⟩
    · cases hx
  · have get : ∀ {i : Nat} {u : Value}, (vs.take m)[i]? = some u → vs[i]? = some u := fun {i u} h => by
      rw [List.getElem?_take] at h
      split at h
      · exact h
      · cases h
    exact hd i j u u' hij (get hu) (get hu')
/-- An element of a row of rows: where it lies, and that it is one's own. -/
theorem Own2.get {A : Option Addr} {n c : Nat} (h : Own2 t e1 e base w xss (.slice A n c)) {i : Nat} {x : List α} (hx : xss[i]? = some x) :
    ∃ g u, A = some ⟨g, 0, none⟩ ∧ base ≤ g ∧ g < w.heap.size ∧ w.cell? ⟨g, i, none⟩ = some u ∧ w.frozen? ⟨g, i, none⟩ = false ∧ Own t e base No w x u ∧ u.ownBlock ≠ some g := by
  obtain ⟨vs, ho, hel, hd⟩ := h
  obtain ⟨u, hu, hou, hne⟩ := hel i x hx
  rcases ho.2 with ⟨e1, h0⟩ | ⟨g, cap, cur, e1, hb, hh, h1, h2, h3, h4⟩
  · have := (List.getElem?_eq_some_iff.1 hx).1
    omega
  · cases e1
    have hc := ho.cells (g := g) rfl i u hu
    have hadd : (⟨g, 0, none⟩ : Addr).add i = ⟨g, i, none⟩ := by
      unfold Addr.add
      split
      · rename_i h; rw [h]
      · simp
    rw [hadd] at hc
    exact ⟨g, u, rfl, hb, (ho.lt g rfl).2, hc, by simp [World.frozen?, hh], hou, fun h => hne g h rfl⟩
end
section
variable {P : Program} {ops : Array Oper} {rest : List Oper} {a : Act} {Q : Exit → Act → World → Prop} {α : Type} {t : Ty α}
/-- append(v, u): v is a row of rows of one's own, u a row of one's own that is younger than they. -/
theorem op_append2 {w : World} {K : Act → World → Prop} {dst : Option Tmp} {s x : Operand} {T ty : TypeId} {pos : String} {after : Array Edge} {gd : Option (Nat × Bool)} (e1 e base bytes : Nat) (he : Elem P T e1 1 bytes)
    (v : Value) (xss : List (List α)) (hs : a.eval s = v) (wo : World) (hown : Own2 t e1 e base wo xss v) (hext : Ext wo w) (x' : List α) (u : Value) (hu : Own t e base No w x' u) (hub : ∀ k, u.ownBlock = some k → wo.heap.size ≤ k)
    (ad : Addr) (c : Nat) (hx : a.eval x = .slice (some ad) 1 c) (hcell : w.cell? ad = some u)
    (hlen : (xss.length + 1) * bytes ≤ 140737488355328) (h0 : 0 < bytes) (hbase : base ≤ w.heap.size)
    (h : ∀ v' w', Own2 t e1 e base w' (xss ++ [x']) v' → w.grownBy w' v.ownBlock → (v'.ownBlock = v.ownBlock ∨ v'.ownBlock = some w.heap.size) → K (a.put dst v') w') :
    Oper.wp P ⟨dst, .call { callee := .builtin .append, args := #[s, x], argTypes := #[T, T] }, ty, pos, after, gd⟩ a w K Q := by
  obtain ⟨i, z, hu', hi, hz, hsz, hby, hzs, hsz0⟩ := he
  obtain ⟨vs, ho, hel, hd⟩ := hown.ext hext
  obtain ⟨vs0, ho0, hel0, _⟩ := hown
  have hb0 : ∀ k, v.ownBlock = some k → k < wo.heap.size := fun k hk => (ho0.lt k hk).2
  have hm : xss.length + 1 ≤ maxLen := by
    have := Nat.le_trans (Nat.le_mul_of_pos_right _ h0) hlen
    simp only [maxLen]; omega
  have hone : u.oneCell' = true := by obtain ⟨A, c, rfl, _⟩ := hu.shape; rfl
  obtain ⟨v', w', hr, ho', hg, _, hat⟩ := run_append_own_at (P := P) w base T ty e1 i z 1 bytes hu' hi hz hsz hby hzs hsz0 v xss.length vs ho ad 1 c [u] rfl
    (fun j y hy => by
      match j, hy with
      | 0, hy => cases hy; show w.cell? (ad.add 0) = _; simpa [Addr.add] using hcell
      | j + 1, hy => simp at hy) (by simpa using hone) hm hlen hbase
  unfold Oper.wp execOp
  simp only [resolve, invoke, builtin, Sem.run_bind, Sem.run_pure, Result.andThen_ok, List.map_toArray, List.map_cons, List.map_nil, hs, hx, hr]
  refine h v' w' ⟨vs ++ [u], by rw [List.length_append]; exact ho', fun i y hy => ?_, fun i j p q hij hp hq k hk hk' => ?_⟩ hg hat
  · have hvl : vs.length = xss.length := by rw [ho.1, Nat.mul_one]
    have fin : ∀ {y q}, Own t e base No w y q → (∀ k, q.ownBlock = some k → v.ownBlock ≠ some k) → Own t e base No w' y q ∧ ∀ k, q.ownBlock = some k → v'.ownBlock ≠ some k := fun {y q} hq hne =>
      ⟨hq.other hg (fun k hk hv => hne k hk hv) (fun _ h => h.elim), fun k hk hv => by
        have hkl := (hq.block k hk).2
        rcases hat with hat | hat
        · exact hne k hk (by rw [← hat]; exact hv)
        · rw [hat] at hv; have := Option.some.inj hv; omega⟩
    rw [List.getElem?_append] at hy
    split at hy
    · rename_i hlt
      obtain ⟨q, hq, hoq, hne⟩ := hel i y hy
      exact ⟨q, by rw [List.getElem?_append_left (by omega)]; exact hq, fin hoq hne⟩
    · rename_i hge
      have hi0 : i - xss.length = 0 := by have := (List.getElem?_eq_some_iff.1 hy).1; simp at this; omega
      rw [hi0] at hy
      cases hy
      exact ⟨u, by rw [List.getElem?_append_right (by omega), show i - vs.length = 0 by omega]; rfl, fin hu (fun k hk hv => by have := hub k hk; have := hb0 k hv; omega)⟩
  · have hvl : vs.length = xss.length := by rw [ho.1, Nat.mul_one]
    have old : ∀ {i : Nat} {p : Value}, i < vs.length → (vs ++ [u])[i]? = some p → vs[i]? = some p ∧ ∀ k, p.ownBlock = some k → k < wo.heap.size := fun {i p} hi hp => by
      rw [List.getElem?_append_left hi] at hp
      refine ⟨hp, fun k hk => ?_⟩
      have hx : i < xss.length := by omega
      obtain ⟨q, hq, hoq, _⟩ := hel0 i xss[i] (List.getElem?_eq_getElem hx)
      obtain ⟨q', hq', _⟩ := hel i xss[i] (List.getElem?_eq_getElem hx)
      have : q = p := by
        cases hv : v.ownBlock with
        | none =>
          rcases ho.2 with ⟨_, h0⟩ | ⟨g, cap, cur, rfl, _⟩
          · omega
          · simp [Value.ownBlock] at hv
        | some g =>
          have c1 := ho.cells hv i p hp
          have c2 := ho0.cells hv i q hq
          have hg0 := hb0 g hv
          have hsame := hext.cell g i hg0
          have hadd : (⟨g, 0, none⟩ : Addr).add i = ⟨g, i, none⟩ := by
            unfold Addr.add
            split
            · rename_i h; rw [h]
            · simp
          rw [hadd] at c1 c2
          rw [hsame, c2] at c1
          exact Option.some.inj c1
      subst this
      exact (hoq.block k hk).2
    have isu : ∀ {i : Nat} {p : Value}, ¬ i < vs.length → (vs ++ [u])[i]? = some p → i = vs.length ∧ p = u := fun {i p} hi hp => by
      have hl := (List.getElem?_eq_some_iff.1 hp).1
      rw [List.length_append, List.length_singleton] at hl
      have : i = vs.length := by omega
      subst this
      rw [List.getElem?_append_right (Nat.le_refl _), Nat.sub_self] at hp
      cases hp
      exact ⟨rfl, rfl⟩
    by_cases h1 : i < vs.length <;> by_cases h2 : j < vs.length
    · exact hd i j p q hij (old h1 hp).1 (old h2 hq).1 k hk hk'
    · obtain ⟨_, rfl⟩ := isu h2 hq
      have := (old h1 hp).2 k hk
      have := hub k hk'
      omega
    · obtain ⟨_, rfl⟩ := isu h1 hp
      have := (old h2 hq).2 k hk'
      have := hub k hk
      omega
    · exact hij ((isu h1 hp).1.trans (isu h2 hq).1.symm)
theorem wp_append2 {w : World} {dst : Option Tmp} {s x : Operand} {T ty : TypeId} {pos : String} {after : Array Edge} (e1 e base bytes : Nat) (he : Elem P T e1 1 bytes)
    (v : Value) (xss : List (List α)) (hs : a.eval s = v) (wo : World) (hown : Own2 t e1 e base wo xss v) (hext : Ext wo w) (x' : List α) (u : Value) (hu : Own t e base No w x' u) (hub : ∀ k, u.ownBlock = some k → wo.heap.size ≤ k)
    (ad : Addr) (c : Nat) (hx : a.eval x = .slice (some ad) 1 c) (hcell : w.cell? ad = some u)
    (hlen : (xss.length + 1) * bytes ≤ 140737488355328) (h0 : 0 < bytes) (hbase : base ≤ w.heap.size)
    (h : ∀ v' w', Own2 t e1 e base w' (xss ++ [x']) v' → w.grownBy w' v.ownBlock → (v'.ownBlock = v.ownBlock ∨ v'.ownBlock = some w.heap.size) → wpList P ops Q rest (a.put dst v') w') :
    wpList P ops Q (⟨dst, .call { callee := .builtin .append, args := #[s, x], argTypes := #[T, T] }, ty, pos, after, none⟩ :: rest) a w :=
  wpList_plain rfl fun K hK => op_append2 (K := K) e1 e base bytes he v xss hs wo hown hext x' u hu hub ad c hx hcell hlen h0 hbase fun v' w' h1 h2 h3 => hK _ _ (h v' w' h1 h2 h3)
theorem st_append2 {E : Prop} {w : World} {K : Act → World → Prop} {dst : Option Tmp} {s x : Operand} {T ty : TypeId} {pos : String} {after : Array Edge} (e1 e base bytes : Nat) (he : Elem P T e1 1 bytes)
    (v : Value) (xss : List (List α)) (hs : a.eval s = v) (wo : World) (hown : Own2 t e1 e base wo xss v) (hext : Ext wo w) (x' : List α) (u : Value) (hu : Own t e base No w x' u) (hub : ∀ k, u.ownBlock = some k → wo.heap.size ≤ k)
    (ad : Addr) (c : Nat) (hx : a.eval x = .slice (some ad) 1 c) (hcell : w.cell? ad = some u)
    (hlen : (xss.length + 1) * bytes ≤ 140737488355328) (h0 : 0 < bytes) (hbase : base ≤ w.heap.size)
    (h : ∀ v' w', Own2 t e1 e base w' (xss ++ [x']) v' → w.grownBy w' v.ownBlock → (v'.ownBlock = v.ownBlock ∨ v'.ownBlock = some w.heap.size) → K (a.put dst v') w') :
    if Region.wanted ⟨dst, .call { callee := .builtin .append, args := #[s, x], argTypes := #[T, T] }, ty, pos, after, none⟩ (yielded ops a.tmps) = true then Oper.wp P ⟨dst, .call { callee := .builtin .append, args := #[s, x], argTypes := #[T, T] }, ty, pos, after, none⟩ a w K Q else E := by
  rw [if_pos (by simp [Region.wanted])]
  exact op_append2 e1 e base bytes he v xss hs wo hown hext x' u hu hub ad c hx hcell hlen h0 hbase h
end

/-- A store into one's own row. -/
theorem Own.store {α : Type} {t : Ty α} {e base : Nat} {B : Nat → Prop} {w : World} {xs : List α} {g n c : Nat} (h : Own t e base B w xs (.slice (some ⟨g, 0, none⟩) n c)) {i j : Nat} {x : α} (hi : xs[i]? = some x) (hj : j < t.sz) (u : Value) (x' : α)
    (hx' : ∀ cs, t.rel (fun b => B b ∧ g ≠ b) w x cs → t.rel (fun b => B b ∧ g ≠ b) w x' (cs.set j u)) :
    Own t e base B (w.setCell ⟨g, i * t.sz + j, none⟩ u) (xs.set i x') (.slice (some ⟨g, 0, none⟩) n c) ∧ w.grownBy (w.setCell ⟨g, i * t.sz + j, none⟩ u) (some g) := by
  obtain ⟨cells, ho, hel⟩ := h
  have hn : n = xs.length := by
    rcases ho.2 with ⟨h', _⟩ | ⟨g', cap', cur, h', _⟩
    · cases h'
    · cases h'; rfl
  subst hn
  obtain ⟨hs, hg⟩ := ho.stored (i * t.sz + j) u
  have hil := (List.getElem?_eq_some_iff.1 hi).1
  have conv : ∀ {y cs}, t.rel (fun b => B b ∧ (Value.slice (some ⟨g, 0, none⟩) xs.length c).ownBlock ≠ some b) w y cs → t.rel (fun b => B b ∧ g ≠ b) w y cs := fun h => t.mono (fun b hb => ⟨hb.1, fun e => hb.2 (by rw [← e]; rfl)⟩) h
  have back : ∀ {y cs}, t.rel (fun b => B b ∧ g ≠ b) w y cs → t.rel (fun b => B b ∧ (Value.slice (some ⟨g, 0, none⟩) xs.length c).ownBlock ≠ some b) (w.setCell ⟨g, i * t.sz + j, none⟩ u) y cs := fun h =>
    t.mono (fun b hb => ⟨hb.1.1, fun e => hb.1.2 (Option.some.inj e)⟩) (t.keep (fun b hb => hg.block b hb.2 (fun e => hb.1.2 (Option.some.inj e).symm)) (t.low h))
  refine ⟨⟨cells.set (i * t.sz + j) u, by rw [List.length_set]; exact hs, fun k y hy => ?_⟩, hg⟩
  rw [List.getElem?_set] at hy
  split at hy
  · rename_i hik
    subst hik
    try rw [if_pos hil] at hy
    cases hy
    obtain ⟨cs, hr, hc⟩ := hel i x hi
    refine ⟨cs.set j u, back (hx' cs (conv hr)), fun l y hl => ?_⟩
    have hcl := t.len hr
    rw [List.getElem?_set] at hl ⊢
    have hlen : i * t.sz + j < cells.length := by
      rw [ho.1]
      calc i * t.sz + j < i * t.sz + t.sz := by omega
        _ = (i + 1) * t.sz := by rw [Nat.add_mul, Nat.one_mul]
        _ ≤ xs.length * t.sz := Nat.mul_le_mul_right _ hil
    by_cases hjl : j = l
    · subst hjl
      rw [if_pos rfl, if_pos (by omega)] at hl
      rw [if_pos rfl, if_pos hlen]
      exact hl
    · rw [if_neg hjl] at hl
      rw [if_neg (by omega)]
      exact hc l y hl
  · rename_i hik
    obtain ⟨cs, hr, hc⟩ := hel k y hy
    refine ⟨cs, back (conv hr), fun l z hl => ?_⟩
    have hll : l < t.sz := by rw [← t.len hr]; exact (List.getElem?_eq_some_iff.1 hl).1
    rw [List.getElem?_set, if_neg]
    · exact hc l z hl
    · intro he
      rcases Nat.lt_or_gt_of_ne hik with h1 | h1
      · have : (i + 1) * t.sz ≤ k * t.sz := Nat.mul_le_mul_right _ h1
        rw [Nat.add_mul, Nat.one_mul] at this
        omega
      · have : (k + 1) * t.sz ≤ i * t.sz := Nat.mul_le_mul_right _ h1
        rw [Nat.add_mul, Nat.one_mul] at this
        omega
/-- A cell of one's own row: it may be written. -/
theorem Own.free {α : Type} {t : Ty α} {e base : Nat} {B : Nat → Prop} {w : World} {xs : List α} {g n c : Nat} (h : Own t e base B w xs (.slice (some ⟨g, 0, none⟩) n c)) (o : Nat) : w.frozen? ⟨g, o, none⟩ = false := by
  obtain ⟨cells, ho, _⟩ := h
  rcases ho.2 with ⟨h', _⟩ | ⟨g', cap', cur, h', _, hh, _⟩
  · cases h'
  · cases h'; simp [World.frozen?, hh]
theorem Own.zero {α : Type} {t : Ty α} {e base : Nat} {B : Nat → Prop} {w : World} {xs : List α} {A : Option Addr} {n c : Nat} (h : Own t e base B w xs (.slice A n c)) : (A = none ∧ n = 0 ∧ c = 0 ∧ xs = []) ∨ ∃ g, A = some ⟨g, 0, none⟩ ∧ base ≤ g ∧ g < w.heap.size ∧ n = xs.length := by
  obtain ⟨cells, ho, _⟩ := h
  rcases ho.2 with ⟨h', h0⟩ | ⟨g', cap', cur, h', hb, hh, _⟩
  · cases h'; exact .inl ⟨rfl, rfl, rfl, List.eq_nil_of_length_eq_zero h0⟩
  · cases h'; exact .inr ⟨g', rfl, hb, (Array.getElem?_eq_some_iff.1 hh).1, rfl⟩

/-! ### Strings -/
/-- the i-th byte -/
def bt (s : ByteArray) (i : Nat) : Int := ((s.data.toList.getD i 0).toNat : Int)
theorem bt_at (s : ByteArray) (i : Nat) : ∀ h : i < s.size, ((s[i]'h).toNat : Int) = bt s i := fun h => by
  unfold bt
  rw [List.getD_eq_getElem?_getD, List.getElem?_eq_getElem (by simpa using h)]
  rfl
theorem bt_range (s : ByteArray) (i : Nat) : 0 ≤ bt s i ∧ bt s i ≤ 255 := by
  unfold bt
  have := (s.data.toList.getD i 0).toNat_lt
  omega
end Go.Eg
