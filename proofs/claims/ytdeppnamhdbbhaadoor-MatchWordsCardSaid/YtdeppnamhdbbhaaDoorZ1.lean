/- Part 1 of what the proofs of this seat share: EgLib, TreeM, TreeA, TreeB, TreeD, TreeE, MatM, MatR, MatA, MatB, EgMore, SetM, BitsA, BitsB, BitsC, ListB, ShiftM, WithM, EachG, BitsK, FieldM, BitsE, OnesM, BitsI, CmpM, BitsLa, SetEq. Conditions: none beyond those that each theorem names. -/
import Derived.WalkKit
import Derived.WalkSpells
import Derived.Deep.Draws
import Derived.Maps.AppendAt
import Derived.Laws.AppendOwnNone
import Derived.Lib.Hide
import Derived.Deep.QuietTactic
import Derived.BigQuiet
import Derived.Test.YtdeppnamhdbbhaaDoorProg
import Derived.LoopTactic
import Derived.Laws.BitsAllLaws
import Derived.Deep.RegionHeld3
import Derived.Deep.DeepMust
import Derived.Deep.RegionWith
import Derived.Laws.Bits128
import Derived.ChangeKeysEq
import Derived.Laws.StructEq
namespace Go.Eg
open Go.RowKit

/-! ### The world grows -/
/-- All that was there stays as it was. -/
def Ext (w w' : World) : Prop := Below w.heap.size w w'
theorem Ext.refl (w : World) : Ext w w := Below.refl _ _
theorem Ext.trans {a b c : World} (h : Ext a b) (k : Ext b c) : Ext a c := Below.trans h (Below.mono k h.size)
theorem Ext.alloc {w W : World} (h : Ext w W) (o : Obj) : Ext w (W.alloc o) := Below.alloc h h.size o
theorem Ext.drew {w W : World} (h : Ext w W) : Ext w W.drew := Below.drew h
theorem Ext.drewN {w W : World} (h : Ext w W) (n : Nat) : Ext w (W.drewN n) := ⟨h.os, h.tape, h.output, h.size, h.block⟩
theorem Ext.undrew {w W : World} (h : Ext w.drew W) : Ext w W := ⟨h.os, h.tape, h.output, h.size, h.block⟩
theorem Ext.set {w W : World} (h : Ext w W) {p : Addr} (hp : w.heap.size ≤ p.block) (u : Value) : Ext w (W.setCell p u) := Below.setCell h hp u
theorem Ext.grown {w W W' : World} {row : Option Nat} (h : Ext w W) (hg : W.grownBy W' row) (hr : ∀ k, row = some k → w.heap.size ≤ k) : Ext w W' := Below.grown h hg h.size hr
theorem Ext.cell {w w' : World} (h : Ext w w') (b o : Nat) (hb : b < w.heap.size) : w'.cell? ⟨b, o, none⟩ = w.cell? ⟨b, o, none⟩ := Below.cell (p := ⟨b, o, none⟩) h hb
theorem Ext.cells {w w' : World} (h : Ext w w') : ∀ b o, b < w.heap.size → w'.cell? ⟨b, o, none⟩ = w.cell? ⟨b, o, none⟩ := fun b o hb => h.cell b o hb
theorem Ext.frozens {w w' : World} (h : Ext w w') : ∀ b o, b < w.heap.size → w'.frozen? ⟨b, o, none⟩ = w.frozen? ⟨b, o, none⟩ := fun b o hb => Below.frozen (p := ⟨b, o, none⟩) h hb
theorem Ext.le {w w' : World} (h : Ext w w') : w.heap.size ≤ w'.heap.size := h.size
theorem Ext.of {w w' : World} (h : Below w.heap.size w w') : Ext w w' := h
theorem Ext.below {w w' : World} (h : Ext w w') : Below w.heap.size w w' := h
theorem Ext.grownBy {w w' : World} (h : Ext w w') (row : Option Nat) : w.grownBy w' row := ⟨h.os, h.tape, h.output, h.size, fun k hk _ => h.block k hk⟩

/-! ### Values -/
theorem ret_int {k : IntKind} {a b : Int} (h : a = b) : Ending.returned (.int k a) = .returned (.int k b) := by rw [h]
theorem ret_bool {a b : Bool} (h : a = b) : Ending.returned (.bool a) = .returned (.bool b) := by rw [h]

theorem ret_ii {k l : IntKind} {a b c d : Int} (h : a = b) (h' : c = d) : Ending.returned (.tuple #[.int k a, .int l c]) = .returned (.tuple #[.int k b, .int l d]) := by rw [h, h']
theorem val_int {k : IntKind} {a b : Int} (h : a = b) : Value.int k a = .int k b := by rw [h]

/-- Cells that lie one behind the other. -/
def At (w : World) (b off : Nat) (cs : List Value) : Prop := ∀ j u, cs[j]? = some u → w.cell? ⟨b, off + j, none⟩ = some u
theorem At.keep {w w' : World} {b off : Nat} {cs : List Value} (h : At w b off cs) (hb : w'.heap[b]? = w.heap[b]?) : At w' b off cs :=
  fun j u hu => (World.cell?_of_block (w := w) (a := ⟨b, off + j, none⟩) hb).trans (h j u hu)
theorem At.lt {w : World} {b off : Nat} {cs : List Value} (h : At w b off cs) (hn : cs ≠ []) : b < w.heap.size := by
  cases cs with
  | nil => exact absurd rfl hn
  | cons c cs => exact World.block_lt_of_cell? w _ (h 0 c rfl)

/-- A Go type, as Lean reads it: how many cells a value has, and which; B: the blocks in which what it points to may lie. -/
structure Ty (α : Type) where
  sz : Nat
  rel : (Nat → Prop) → World → α → List Value → Prop
  len : ∀ {B w x cs}, rel B w x cs → cs.length = sz
  mono : ∀ {B B' w x cs}, (∀ b, B b → B' b) → rel B w x cs → rel B' w x cs
  keep : ∀ {B w w' x cs}, (∀ b, B b → w'.heap[b]? = w.heap[b]?) → rel B w x cs → rel B w' x cs
  low : ∀ {B w x cs}, rel B w x cs → rel (fun b => B b ∧ b < w.heap.size) w x cs
  one : ∀ {B w x cs}, rel B w x cs → ∀ u ∈ cs, u.oneCell' = true

/-- A type without pointers. -/
def Ty.flat {α : Type} (n : Nat) (enc : α → List Value) (h : ∀ x, (enc x).length = n) (h1 : ∀ x, ∀ u ∈ enc x, u.oneCell' = true) : Ty α where
  sz := n
  rel _ _ x cs := cs = enc x
  len := by rintro B w x cs rfl; exact h x
  one := by rintro B w x cs rfl; exact h1 x
  mono := fun _ h => h
  keep := fun _ h => h
  low := fun h => h
/-- The same, of values of which something is known. -/
def Ty.flatP {α : Type} (n : Nat) (enc : α → List Value) (p : α → Prop) (h : ∀ x, (enc x).length = n) (h1 : ∀ x, ∀ u ∈ enc x, u.oneCell' = true) : Ty α where
  sz := n
  rel _ _ x cs := cs = enc x ∧ p x
  len := by rintro B w x cs ⟨rfl, _⟩; exact h x
  one := by rintro B w x cs ⟨rfl, _⟩; exact h1 x
  mono := fun _ h => h
  keep := fun _ h => h
  low := fun h => h
def Ty.int (k : IntKind) : Ty Int := .flat 1 (fun x => [.int k x]) (fun _ => rfl) (by simp [Value.oneCell'])
def Ty.bool : Ty Bool := .flat 1 (fun x => [.bool x]) (fun _ => rfl) (by simp [Value.oneCell'])
def Ty.str : Ty ByteArray := .flat 1 (fun x => [.string x]) (fun _ => rfl) (by simp [Value.oneCell'])

/-- The elements of a list, one behind the other. -/
def Row {α : Type} (t : Ty α) (B : Nat → Prop) (w : World) (b off : Nat) (xs : List α) : Prop :=
  ∀ i x, xs[i]? = some x → ∃ cs, t.rel B w x cs ∧ At w b (off + i * t.sz) cs
theorem Row.nil {α : Type} (t : Ty α) (B : Nat → Prop) (w : World) (b off : Nat) : Row t B w b off [] := fun i x h => by simp at h
theorem Row.mono {α : Type} {t : Ty α} {B B' : Nat → Prop} {w : World} {b off : Nat} {xs : List α} (hB : ∀ b, B b → B' b) (h : Row t B w b off xs) : Row t B' w b off xs :=
  fun i x hx => let ⟨cs, hr, ha⟩ := h i x hx; ⟨cs, t.mono hB hr, ha⟩
theorem Row.keep {α : Type} {t : Ty α} {B : Nat → Prop} {w w' : World} {b off : Nat} {xs : List α} (hb : w'.heap[b]? = w.heap[b]?) (hB : ∀ b, B b → w'.heap[b]? = w.heap[b]?) (h : Row t B w b off xs) : Row t B w' b off xs :=
  fun i x hx => let ⟨cs, hr, ha⟩ := h i x hx; ⟨cs, t.keep hB hr, ha.keep hb⟩
theorem Row.low {α : Type} {t : Ty α} {B : Nat → Prop} {w : World} {b off : Nat} {xs : List α} (h : Row t B w b off xs) : Row t (fun b => B b ∧ b < w.heap.size) w b off xs :=
  fun i x hx => let ⟨cs, hr, ha⟩ := h i x hx; ⟨cs, t.low hr, ha⟩
theorem Row.drop {α : Type} {t : Ty α} {B : Nat → Prop} {w : World} {b off : Nat} {xs : List α} (h : Row t B w b off xs) (n : Nat) : Row t B w b (off + n * t.sz) (xs.drop n) := by
  intro i x hx
  rw [List.getElem?_drop] at hx
  obtain ⟨cs, hr, ha⟩ := h _ x hx
  refine ⟨cs, hr, ?_⟩
  rw [Nat.add_mul] at ha
  rwa [Nat.add_assoc]
theorem Row.take {α : Type} {t : Ty α} {B : Nat → Prop} {w : World} {b off : Nat} {xs : List α} (h : Row t B w b off xs) (n : Nat) : Row t B w b off (xs.take n) := by
  intro i x hx
  rw [List.getElem?_take] at hx
  split at hx
  · exact h i x hx
  · cases hx

/-- A slice that reads as a list. -/
def SlP {α : Type} (t : Ty α) (B : Nat → Prop) (w : World) (xs : List α) (v : Value) : Prop :=
  ∃ A c, v = .slice A xs.length c ∧ xs.length ≤ c ∧ c ≤ maxLen ∧ (xs ≠ [] → ∃ b off, A = some ⟨b, off, none⟩ ∧ B b ∧ b < w.heap.size ∧ Row t B w b off xs)
def Ty.slice {α : Type} (t : Ty α) : Ty (List α) where
  sz := 1
  rel B w xs cs := ∃ v, cs = [v] ∧ SlP t B w xs v
  len := by rintro B w x cs ⟨v, rfl, _⟩; rfl
  mono := by
    rintro B B' w xs cs hB ⟨v, rfl, A, c, rfl, hl, hm, h⟩
    exact ⟨_, rfl, A, c, rfl, hl, hm, fun hx => let ⟨b, off, e, hb, hlt, hr⟩ := h hx; ⟨b, off, e, hB b hb, hlt, hr.mono hB⟩⟩
  keep := by
    rintro B w w' xs cs hB ⟨v, rfl, A, c, rfl, hl, hm, h⟩
    refine ⟨_, rfl, A, c, rfl, hl, hm, fun hx => ?_⟩
    obtain ⟨b, off, e, hb, hlt, hr⟩ := h hx
    have hs := hB b hb
    refine ⟨b, off, e, hb, ?_, hr.keep hs hB⟩
    rcases Nat.lt_or_ge b w'.heap.size with h1 | h1
    · exact h1
    · rw [Array.getElem?_eq_none h1, Array.getElem?_eq_getElem hlt] at hs
      cases hs
  low := by
    rintro B w xs cs ⟨v, rfl, A, c, rfl, hl, hm, h⟩
    exact ⟨_, rfl, A, c, rfl, hl, hm, fun hx => let ⟨b, off, e, hb, hlt, hr⟩ := h hx; ⟨b, off, e, ⟨hb, hlt⟩, hlt, hr.low⟩⟩
  one := by rintro B w xs cs ⟨v, rfl, A, c, rfl, _⟩; simp [Value.oneCell']

/-- Nowhere. -/
def No : Nat → Prop := fun _ => False
/-- What may lie anywhere. -/
def Any : Nat → Prop := fun _ => True
/-- The slice v reads as xs in the world w. -/
def Rd {α : Type} (t : Ty α) (w : World) (xs : List α) (v : Value) : Prop := SlP t Any w xs v

theorem Ty.ext {α : Type} (t : Ty α) {w w' : World} {x : α} {cs : List Value} (he : Ext w w') (h : t.rel Any w x cs) : t.rel Any w' x cs :=
  t.mono (fun _ _ => trivial) (t.keep (fun b hb => he.block b hb.2) (t.low h))
theorem SlP.ext {α : Type} {t : Ty α} {w w' : World} {xs : List α} {v : Value} (h : SlP t Any w xs v) (he : Ext w w') : SlP t Any w' xs v := by
  obtain ⟨v', e, h'⟩ := (Ty.slice t).ext (x := xs) (cs := [v]) he ⟨v, rfl, h⟩
  cases e
  exact h'
theorem SlP.drew {α : Type} {t : Ty α} {B : Nat → Prop} {w : World} {xs : List α} {v : Value} (h : SlP t B w xs v) : SlP t B w.drew xs v := by
  obtain ⟨v', e, h'⟩ := (Ty.slice t).keep (B := B) (w := w) (w' := w.drew) (x := xs) (cs := [v]) (fun _ _ => rfl) ⟨v, rfl, h⟩
  cases e
  exact h'
theorem Rd.sl {α : Type} {t : Ty α} {w : World} {xs : List α} {v : Value} (h : Rd t w xs v) : SlP t Any w xs v := h
theorem Rd.ext {α : Type} {t : Ty α} {w w' : World} {xs : List α} {v : Value} (h : Rd t w xs v) (he : Ext w w') : Rd t w' xs v := SlP.ext h he
theorem Rd.shape {α : Type} {t : Ty α} {w : World} {xs : List α} {v : Value} (h : Rd t w xs v) : ∃ A c, v = .slice A xs.length c ∧ xs.length ≤ c ∧ c ≤ maxLen := by
  obtain ⟨A, c, e, hl, hm, _⟩ := h
  exact ⟨A, c, e, hl, hm⟩
theorem Rd.nil {α : Type} (t : Ty α) (w : World) : Rd t w [] (.slice none 0 0) := ⟨none, 0, rfl, Nat.le_refl _, Nat.zero_le _, fun h => absurd rfl h⟩
/-- Element i: its cells. -/
theorem Rd.at {α : Type} {t : Ty α} {w : World} {xs : List α} {A : Option Addr} {n c : Nat} (h : Rd t w xs (.slice A n c)) {i : Nat} {x : α} (hx : xs[i]? = some x) :
    ∃ b off cs, A = some ⟨b, off, none⟩ ∧ b < w.heap.size ∧ t.rel Any w x cs ∧ At w b (off + i * t.sz) cs := by
  obtain ⟨A', c', e, hl, hm, hr⟩ := h
  cases e
  obtain ⟨b, off, e, _, hlt, hrow⟩ := hr (by rintro rfl; simp at hx)
  obtain ⟨cs, h1, h2⟩ := hrow i x hx
  exact ⟨b, off, cs, e, hlt, h1, h2⟩
theorem Rd.int {w : World} {k : IntKind} {xs : List Int} {A : Option Addr} {n c : Nat} (h : Rd (Ty.int k) w xs (.slice A n c)) {i : Nat} {x : Int} (hx : xs[i]? = some x) :
    ∃ b off, A = some ⟨b, off, none⟩ ∧ b < w.heap.size ∧ w.cell? ⟨b, off + i, none⟩ = some (.int k x) := by
  obtain ⟨b, off, cs, e, hb, rfl, ha⟩ := h.at hx
  have := ha 0 _ rfl
  exact ⟨b, off, e, hb, by simpa [Ty.int, Ty.flat] using this⟩
theorem Rd.slices {α : Type} {t : Ty α} {w : World} {xss : List (List α)} {A : Option Addr} {n c : Nat} (h : Rd (Ty.slice t) w xss (.slice A n c)) {i : Nat} {x : List α} (hx : xss[i]? = some x) :
    ∃ b off u, A = some ⟨b, off, none⟩ ∧ b < w.heap.size ∧ w.cell? ⟨b, off + i, none⟩ = some u ∧ Rd t w x u := by
  obtain ⟨b, off, cs, e, hb, ⟨u, rfl, hu⟩, ha⟩ := h.at hx
  have := ha 0 _ rfl
  exact ⟨b, off, u, e, hb, by simpa [Ty.slice] using this, hu⟩
theorem SlP.mono {α : Type} {t : Ty α} {B B' : Nat → Prop} {w : World} {xs : List α} {v : Value} (hB : ∀ b, B b → B' b) (h : SlP t B w xs v) : SlP t B' w xs v := by
  obtain ⟨v', e, h'⟩ := (Ty.slice t).mono (x := xs) (cs := [v]) hB ⟨v, rfl, h⟩
  cases e
  exact h'
theorem SlP.any {α : Type} {t : Ty α} {B : Nat → Prop} {w : World} {xs : List α} {v : Value} (h : SlP t B w xs v) : Rd t w xs v := h.mono (fun _ _ => trivial)
theorem SlP.keep {α : Type} {t : Ty α} {B : Nat → Prop} {w w' : World} {xs : List α} {v : Value} (h : SlP t B w xs v) (hB : ∀ b, B b → w'.heap[b]? = w.heap[b]?) : SlP t B w' xs v := by
  obtain ⟨v', e, h'⟩ := (Ty.slice t).keep (x := xs) (cs := [v]) hB ⟨v, rfl, h⟩
  cases e
  exact h'
theorem SlP.low {α : Type} {t : Ty α} {B : Nat → Prop} {w : World} {xs : List α} {v : Value} (h : SlP t B w xs v) : SlP t (fun b => B b ∧ b < w.heap.size) w xs v := by
  obtain ⟨v', e, h'⟩ := (Ty.slice t).low (x := xs) (cs := [v]) ⟨v, rfl, h⟩
  cases e
  exact h'
/-- What is written lies in another block, or is new. -/
theorem SlP.other {α : Type} {t : Ty α} {B : Nat → Prop} {w w' : World} {xs : List α} {v : Value} {row : Option Nat} (h : SlP t B w xs v) (hg : w.grownBy w' row) (hr : ∀ b, B b → b < w.heap.size → row ≠ some b) : SlP t B w' xs v :=
  (h.low.keep (fun b hb => hg.block b hb.2 (fun e => hr b hb.1 hb.2 e.symm))).mono (fun _ hb => hb.1)
theorem SlP.extB {α : Type} {t : Ty α} {B : Nat → Prop} {w w' : World} {xs : List α} {v : Value} (h : SlP t B w xs v) (he : Ext w w') : SlP t B w' xs v := h.other (he.grownBy none) (by simp)
/-- A piece of a slice. -/
theorem SlP.sub {α : Type} {t : Ty α} {B : Nat → Prop} {w : World} {xs : List α} {b off n c : Nat} (h : SlP t B w xs (.slice (some ⟨b, off, none⟩) n c)) (i m : Nat) (ys : List α) (hy : ys = (xs.drop i).take m) (him : i + m ≤ xs.length)
    (off' l' c' : Nat) (hoff : off' = off + i * t.sz) (hl : l' = m) (hc : m ≤ c') (hc' : c' ≤ maxLen) : SlP t B w ys (.slice (some ⟨b, off', none⟩) l' c') := by
  subst hy hoff hl
  obtain ⟨A, c0, e, h1, h2, hr⟩ := h
  cases e
  have hl : ((xs.drop i).take l').length = l' := by rw [List.length_take, List.length_drop]; omega
  refine ⟨_, c', by rw [hl], by omega, hc', fun hne => ?_⟩
  have hx : xs ≠ [] := by rintro rfl; simp at hne
  obtain ⟨b', o', e, hB, hlt, hrow⟩ := hr hx
  cases e
  exact ⟨b, _, rfl, hB, hlt, (hrow.drop i).take l'⟩
/-- A piece from the beginning on, nil or not. -/
theorem SlP.pre {α : Type} {t : Ty α} {B : Nat → Prop} {w : World} {xs : List α} {A : Option Addr} {n c : Nat} (h : SlP t B w xs (.slice A n c)) (m : Nat) (ys : List α) (hy : ys = xs.take m) (hm : m ≤ xs.length)
    (l' c' : Nat) (hl : l' = m) (hc : m ≤ c') (hc' : c' ≤ maxLen) : SlP t B w ys (.slice A l' c') := by
  subst hy hl
  obtain ⟨A, c0, e, h1, h2, hr⟩ := h
  cases e
  have hl : (xs.take l').length = l' := by rw [List.length_take]; omega
  refine ⟨_, c', by rw [hl], by omega, hc', fun hne => ?_⟩
  have hx : xs ≠ [] := by rintro rfl; simp at hne
  obtain ⟨b', o', e, hB, hlt, hrow⟩ := hr hx
  exact ⟨b', o', e, hB, hlt, hrow.take l'⟩
theorem Rd.sub {α : Type} {t : Ty α} {w : World} {xs : List α} {b off n c : Nat} (h : Rd t w xs (.slice (some ⟨b, off, none⟩) n c)) (i m : Nat) (ys : List α) (hy : ys = (xs.drop i).take m) (him : i + m ≤ xs.length)
    (off' l' c' : Nat) (hoff : off' = off + i * t.sz) (hl : l' = m) (hc : m ≤ c') (hc' : c' ≤ maxLen) : Rd t w ys (.slice (some ⟨b, off', none⟩) l' c') := SlP.sub h i m ys hy him off' l' c' hoff hl hc hc'
theorem Rd.pre {α : Type} {t : Ty α} {w : World} {xs : List α} {A : Option Addr} {n c : Nat} (h : Rd t w xs (.slice A n c)) (m : Nat) (ys : List α) (hy : ys = xs.take m) (hm : m ≤ xs.length)
    (l' c' : Nat) (hl : l' = m) (hc : m ≤ c') (hc' : c' ≤ maxLen) : Rd t w ys (.slice A l' c') := SlP.pre h m ys hy hm l' c' hl hc hc'

/-! ### A row of the call's own -/
/-- v is a slice at the beginning of a block of one's own (a block from base on), or nil; it reads as xs; what its elements point to lies in blocks of B, and not in that block. -/
def Own {α : Type} (t : Ty α) (e base : Nat) (B : Nat → Prop) (w : World) (xs : List α) (v : Value) : Prop :=
  ∃ cells, w.ownsRow base e t.sz v xs.length cells ∧ ∀ i x, xs[i]? = some x → ∃ cs, t.rel (fun b => B b ∧ v.ownBlock ≠ some b) w x cs ∧ ∀ j u, cs[j]? = some u → cells[i * t.sz + j]? = some u
section
variable {α : Type} {t : Ty α} {e base : Nat} {B : Nat → Prop} {w w' : World} {xs : List α} {v : Value}
theorem Own.nil (t : Ty α) (e base : Nat) (B : Nat → Prop) (w : World) : Own t e base B w [] (.slice none 0 0) :=
  ⟨[], World.ownsRow_nil w base e t.sz, fun i x h => by simp at h⟩
theorem Own.shape (h : Own t e base B w xs v) : ∃ A c, v = .slice A xs.length c ∧ xs.length ≤ c ∧ c ≤ maxLen := by
  obtain ⟨cells, ⟨_, h2⟩, _⟩ := h
  rcases h2 with ⟨rfl, h0⟩ | ⟨g, cap, cur, rfl, _, _, h1, h2, _⟩
  · rw [h0]; exact ⟨none, 0, rfl, Nat.le_refl _, Nat.zero_le _⟩
  · exact ⟨_, cap, rfl, h1, h2⟩
theorem Own.block (h : Own t e base B w xs v) : ∀ k, v.ownBlock = some k → base ≤ k ∧ k < w.heap.size := fun k hk => let ⟨_, h1, _⟩ := h; h1.lt k hk
theorem Own.lo (h : Own t e base B w xs v) : ∀ k, v.ownBlock = some k → base ≤ k := fun k hk => (h.block k hk).1
theorem Own.sl (h : Own t e base B w xs v) : SlP t (fun b => B b ∨ v.ownBlock = some b) w xs v := by
  obtain ⟨cells, ho, hel⟩ := h
  have hlen := ho.1
  rcases hc : ho.2 with ⟨rfl, h0⟩ | ⟨g, cap, cur, rfl, hb, hh, h1, h2, h3, h4⟩
  · obtain rfl := List.eq_nil_of_length_eq_zero h0
    exact ⟨none, 0, rfl, Nat.le_refl _, Nat.zero_le _, fun h => absurd rfl h⟩
  · refine ⟨_, cap, rfl, h1, h2, fun _ => ⟨g, 0, rfl, .inr rfl, (ho.lt g rfl).2, fun i x hx => ?_⟩⟩
    obtain ⟨cs, hr, hcs⟩ := hel i x hx
    refine ⟨cs, t.mono (fun b hb => .inl hb.1) hr, fun j u hu => ?_⟩
    have := ho.cells (g := g) rfl _ u (hcs j u hu)
    have hadd : (⟨g, 0, none⟩ : Addr).add (i * t.sz + j) = ⟨g, 0 + i * t.sz + j, none⟩ := by
      unfold Addr.add
      split
      · rename_i h; rw [Nat.zero_add, h]
      · simp
    rwa [hadd] at this
theorem Own.rd (h : Own t e base B w xs v) : Rd t w xs v := by
  obtain ⟨A, c, e, hl, hm, hr⟩ := h.sl
  exact ⟨A, c, e, hl, hm, fun hx => let ⟨b, off, e, _, hlt, hr⟩ := hr hx; ⟨b, off, e, trivial, hlt, hr.mono (fun _ _ => trivial)⟩⟩
theorem Own.mono {B' : Nat → Prop} (hB : ∀ b, B b → B' b) (h : Own t e base B w xs v) : Own t e base B' w xs v :=
  let ⟨cells, ho, hel⟩ := h; ⟨cells, ho, fun i x hx => let ⟨cs, hr, hc⟩ := hel i x hx; ⟨cs, t.mono (fun b hb => ⟨hB b hb.1, hb.2⟩) hr, hc⟩⟩
theorem ownsRow_base {w : World} {base base' e sz n : Nat} {v : Value} {cells : List Value} (h : w.ownsRow base e sz v n cells) (hb : ∀ k, v.ownBlock = some k → base' ≤ k) : w.ownsRow base' e sz v n cells := by
  refine ⟨h.1, ?_⟩
  rcases h.2 with h2 | ⟨g, cap, cur, rfl, _, r⟩
  · exact .inl h2
  · exact .inr ⟨g, cap, cur, rfl, hb g rfl, r⟩
theorem Own.rebase {base' : Nat} (h : Own t e base B w xs v) (hb : ∀ k, v.ownBlock = some k → base' ≤ k) : Own t e base' B w xs v :=
  let ⟨cells, ho, hel⟩ := h; ⟨cells, ownsRow_base ho hb, hel⟩
/-- What is written lies in another block, or is new: the row lives on. -/
theorem Own.other {row : Option Nat} (h : Own t e base B w xs v) (hg : w.grownBy w' row) (hv : ∀ k, v.ownBlock = some k → row ≠ some k) (hB : ∀ b, B b → b < w.heap.size → row ≠ some b) : Own t e base B w' xs v := by
  obtain ⟨cells, ho, hel⟩ := h
  refine ⟨cells, ho.kept hg ?_, fun i x hx => ?_⟩
  · cases hk : v.ownBlock with
    | none => exact .inl rfl
    | some k => exact .inr fun he => hv k hk he.symm
  · obtain ⟨cs, hr, hc⟩ := hel i x hx
    exact ⟨cs, t.mono (fun b hb => hb.1) (t.keep (fun b hb => hg.block b hb.2 (fun he => hB b hb.1.1 hb.2 he.symm)) (t.low hr)), hc⟩
theorem Own.ext (h : Own t e base B w xs v) (he : Ext w w') : Own t e base B w' xs v := h.other (he.grownBy none) (by simp) (by simp)
theorem Own.take (h : Own t e base B w xs v) {A : Option Addr} {n c : Nat} (hv : v = .slice A n c) (m : Nat) (hm : m ≤ xs.length) : Own t e base B w (xs.take m) (.slice A m c) := by
  subst hv
  obtain ⟨cells, ho, hel⟩ := h
  have hl : (xs.take m).length = m := by rw [List.length_take]; omega
  refine ⟨cells.take (m * t.sz), ?_, fun i x hx => ?_⟩
  · rw [hl]
    refine ⟨?_, ?_⟩
    · rw [List.length_take, ho.1]
      exact Nat.min_eq_left (Nat.mul_le_mul_right _ hm)
    · rcases ho.2 with ⟨e1, h0⟩ | ⟨g, cap, cur, e1, hb, hh, h1, h2, h3, h4⟩
      · cases e1
        have : m = 0 := by omega
        subst this
        exact .inl ⟨rfl, rfl⟩
      · cases e1
        refine .inr ⟨g, c, cur, rfl, hb, hh, by omega, h2, h3, ?_⟩
        rw [← h4, List.take_take, Nat.min_eq_left (Nat.mul_le_mul_right _ hm)]
  · rw [List.getElem?_take] at hx
    split at hx
    · rename_i hi
      obtain ⟨cs, hr, hc⟩ := hel i x hx
      refine ⟨cs, t.mono (fun b hb => ⟨hb.1, by cases A <;> exact hb.2⟩) hr, fun j u hu => ?_⟩
      have hj : j < t.sz := by rw [← t.len hr]; exact (List.getElem?_eq_some_iff.1 hu).1
      rw [List.getElem?_take, if_pos]
      · exact hc j u hu
      · calc i * t.sz + j < i * t.sz + t.sz := by omega
          _ = (i + 1) * t.sz := by rw [Nat.add_mul, Nat.one_mul]
          _ ≤ m * t.sz := Nat.mul_le_mul_right _ hi
    · cases hx
end

/-- The one new cell group behind 'append(s, x)'. -/
theorem SlP.one {α : Type} {t : Ty α} {w : World} {e : TypeId} (x : α) (cs : Array Value) (h : ∀ B w, t.rel B w x cs.toList) : SlP t Any (w.alloc (.cells cs e)) [x] (.slice (some ⟨w.heap.size, 0, none⟩) 1 1) := by
  refine ⟨_, 1, rfl, Nat.le_refl _, by decide, fun _ => ⟨w.heap.size, 0, rfl, trivial, by simp, fun i y hy => ?_⟩⟩
  match i, hy with
  | 0, hy =>
    cases hy
    refine ⟨cs.toList, h _ _, fun j u hu => ?_⟩
    rw [show 0 + 0 * t.sz + j = j by omega, World.cell?_alloc_new, ← Array.getElem?_toList]
    exact hu
  | i + 1, hy => simp at hy

theorem SlP.one2 {α : Type} {t : Ty α} {B : Nat → Prop} {w : World} {e : TypeId} (x : α) (cs : Array Value) (hB : B w.heap.size) (h : t.rel B (w.alloc (.cells cs e)) x cs.toList) : SlP t B (w.alloc (.cells cs e)) [x] (.slice (some ⟨w.heap.size, 0, none⟩) 1 1) := by
  refine ⟨_, 1, rfl, Nat.le_refl _, by decide, fun _ => ⟨w.heap.size, 0, rfl, hB, by simp, fun i y hy => ?_⟩⟩
  match i, hy with
  | 0, hy =>
    cases hy
    refine ⟨cs.toList, h, fun j u hu => ?_⟩
    rw [show 0 + 0 * t.sz + j = j by omega, World.cell?_alloc_new, ← Array.getElem?_toList]
    exact hu
  | i + 1, hy => simp at hy
/-- Slices behind one another in a new block. -/
theorem SlP.lit1 {α : Type} {t : Ty α} {B : Nat → Prop} {w : World} {e : TypeId} {x : List α} {u : Value} (hB : B w.heap.size) (h : SlP t B w x u) : SlP (Ty.slice t) B (w.alloc (.cells #[u] e)) [x] (.slice (some ⟨w.heap.size, 0, none⟩) 1 1) :=
  SlP.one2 x #[u] hB ⟨u, rfl, h.extB ((Ext.refl _).alloc _)⟩
theorem SlP.lit2 {α : Type} {t : Ty α} {B : Nat → Prop} {w : World} {e : TypeId} {x y : List α} {u u' : Value} (hB : B w.heap.size) (h : SlP t B w x u) (h' : SlP t B w y u') : SlP (Ty.slice t) B (w.alloc (.cells #[u, u'] e)) [x, y] (.slice (some ⟨w.heap.size, 0, none⟩) 2 2) := by
  refine ⟨_, 2, rfl, Nat.le_refl _, by decide, fun _ => ⟨w.heap.size, 0, rfl, hB, by simp, fun i z hz => ?_⟩⟩
  match i, hz with
  | 0, hz =>
    cases hz
    refine ⟨[u], ⟨u, rfl, h.extB ((Ext.refl _).alloc _)⟩, fun j q hq => ?_⟩
    match j, hq with
    | 0, hq => cases hq; simp
    | j + 1, hq => simp at hq
  | 1, hz =>
    cases hz
    refine ⟨[u'], ⟨u', rfl, h'.extB ((Ext.refl _).alloc _)⟩, fun j q hq => ?_⟩
    match j, hq with
    | 0, hq => cases hq; simp [Ty.slice]
    | j + 1, hq => simp at hq
  | i + 2, hz => simp at hz
/-- One's own row, as an element of a row. -/
theorem Own.rel {α : Type} {t : Ty α} {e base : Nat} {w : World} {xs : List α} {v : Value} (h : Own t e base No w xs v) : (Ty.slice t).rel (fun b => base ≤ b) w xs [v] := by
  obtain ⟨A, c, rfl, h1, h2, h3⟩ := h.sl
  refine ⟨_, rfl, A, c, rfl, h1, h2, fun hx => ?_⟩
  obtain ⟨b, off, e, hb, hlt, hr⟩ := h3 hx
  have hlow := h.lo
  subst e
  have hmono : ∀ b', (No b' ∨ (Value.slice (some ⟨b, off, none⟩) xs.length c).ownBlock = some b') → base ≤ b' := fun b' hb' => by
    rcases hb' with hb' | hb'
    · exact hb'.elim
    · exact hlow b' hb'
  exact ⟨b, off, rfl, hmono b hb, hlt, hr.mono hmono⟩

/-- The closed facts on a slice type T with elements e of sz cells and so many bytes. -/
def Elem (P : Program) (T e sz bytes : Nat) : Prop :=
  ∃ i z, P.underlying T = some (.slice e) ∧ P.info? e = some i ∧ i.zero = some z ∧ i.size = sz ∧ i.bytes = bytes ∧ z.cells.size = sz ∧ 0 < sz
theorem Elem.mk {P : Program} {T e sz bytes : Nat} {z : Value} (hu : P.underlying T = some (.slice e)) (hi : (P.info? e).map (fun i => (i.zero, i.size, i.bytes)) = some (some z, sz, bytes)) (hz : z.cells.size = sz) (h0 : 0 < sz) : Elem P T e sz bytes := by
  obtain ⟨i, h1, h2⟩ := Option.map_eq_some_iff.1 hi
  simp only [Prod.mk.injEq] at h2
  exact ⟨i, z, hu, h1, h2.1, h2.2.1, h2.2.2, hz, h0⟩

section
variable {P : Program} {ops : Array Oper} {rest : List Oper} {a : Act} {Q : Exit → Act → World → Prop} {α : Type} {t : Ty α}

theorem Row.news {B : Nat → Prop} {w : World} {b off : Nat} : ∀ {ys : List α}, Row t B w b off ys → ∃ news : List Value, news.length = ys.length * t.sz ∧ At w b off news ∧ (∀ u ∈ news, u.oneCell' = true) ∧
    ∀ i x, ys[i]? = some x → ∃ cs, t.rel B w x cs ∧ ∀ j u, cs[j]? = some u → news[i * t.sz + j]? = some u := by
  intro ys
  induction ys generalizing off with
  | nil => intro _; exact ⟨[], by simp, fun j u h => by simp at h, by simp, fun i x h => by simp at h⟩
  | cons y ys ih =>
    intro h
    obtain ⟨cs, hr, ha⟩ := h 0 y rfl
    obtain ⟨news, h1, h2, h3, h4⟩ := ih (h.drop 1)
    have hl := t.len hr
    refine ⟨cs ++ news, by rw [List.length_append, h1, hl, List.length_cons, Nat.add_mul, Nat.one_mul, Nat.add_comm], fun j u hu => ?_, fun u hu => ?_, fun i x hx => ?_⟩
    · rw [List.getElem?_append] at hu
      split at hu
      · rename_i hj
        have := ha j u hu
        rwa [Nat.zero_mul, Nat.add_zero] at this
      · rename_i hj
        have := h2 _ u hu
        rw [Nat.one_mul] at this
        rwa [show off + t.sz + (j - cs.length) = off + j by omega] at this
    · rcases List.mem_append.1 hu with hu | hu
      · exact t.one hr u hu
      · exact h3 u hu
    · cases i with
      | zero =>
        cases hx
        refine ⟨cs, hr, fun j u hu => ?_⟩
        rw [Nat.zero_mul, Nat.zero_add, List.getElem?_append_left (List.getElem?_eq_some_iff.1 hu).1]
        exact hu
      | succ i =>
        obtain ⟨cs', hr', hc'⟩ := h4 i x hx
        refine ⟨cs', hr', fun j u hu => ?_⟩
        rw [List.getElem?_append_right (by rw [hl, Nat.add_mul, Nat.one_mul]; omega), hl, show (i + 1) * t.sz + j - t.sz = i * t.sz + j by rw [Nat.add_mul, Nat.one_mul]; omega]
        exact hc' j u hu

/-- append(v, src...): v is one's own. -/
theorem op_append {w : World} {K : Act → World → Prop} {dst : Option Tmp} {s x : Operand} {T ty : TypeId} {pos : String} {after : Array Edge} {gd : Option (Nat × Bool)} (e base bytes : Nat) (he : Elem P T e t.sz bytes) (B : Nat → Prop)
    (v : Value) (xs : List α) (hs : a.eval s = v) (hown : Own t e base B w xs v) (src : Value) (ys : List α) (hx : a.eval x = src) (B1 : Nat → Prop) (hsrc : SlP t B1 w ys src)
    (hel : ∀ y cs, t.rel B1 w y cs → t.rel (fun b => B b ∧ v.ownBlock ≠ some b) w y cs)
    (hlen : (xs.length + ys.length) * bytes ≤ 140737488355328) (h0 : 0 < bytes) (hbase : base ≤ w.heap.size)
    (h : ∀ v' w', Own t e base B w' (xs ++ ys) v' → w.grownBy w' v.ownBlock → (v'.ownBlock = v.ownBlock ∨ v'.ownBlock = some w.heap.size) → K (a.put dst v') w') :
    Oper.wp P ⟨dst, .call { callee := .builtin .append, args := #[s, x], argTypes := #[T, T] }, ty, pos, after, gd⟩ a w K Q := by
  obtain ⟨i, z, hu, hi, hz, hsz, hby, hzs, hsz0⟩ := he
  have hm : xs.length + ys.length ≤ maxLen := by
    have := Nat.le_trans (Nat.le_mul_of_pos_right _ h0) hlen
    simp only [maxLen]; omega
  obtain ⟨A, c, rfl, hl, hcm, hrow⟩ := hsrc
  obtain ⟨cells, ho, hels⟩ := hown
  have fin : ∀ (news : List Value), news.length = ys.length * t.sz → (∀ i x, ys[i]? = some x → ∃ cs, t.rel (fun b => B b ∧ v.ownBlock ≠ some b) w x cs ∧ ∀ j u, cs[j]? = some u → news[i * t.sz + j]? = some u) →
      ∀ v' w', w'.ownsRow base e t.sz v' (xs.length + ys.length) (cells ++ news) → w.grownBy w' v.ownBlock → (v'.ownBlock = v.ownBlock ∨ v'.ownBlock = some w.heap.size) → Own t e base B w' (xs ++ ys) v' := by
    intro news hnl hn v' w' ho' hg hat
    refine ⟨cells ++ news, by rw [List.length_append]; exact ho', fun i x hx => ?_⟩
    have up : ∀ {x cs}, t.rel (fun b => B b ∧ v.ownBlock ≠ some b) w x cs → t.rel (fun b => B b ∧ v'.ownBlock ≠ some b) w' x cs := fun hr =>
      t.mono (fun b hb => ⟨hb.1.1, by rcases hat with hat | hat <;> rw [hat]; exact hb.1.2; exact fun h => by have := Option.some.inj h; omega⟩) (t.keep (fun b hb => hg.block b hb.2 (fun h => hb.1.2 h.symm)) (t.low hr))
    rw [List.getElem?_append] at hx
    split at hx
    · obtain ⟨cs, hr, hc⟩ := hels i x hx
      refine ⟨cs, up hr, fun j u hu => ?_⟩
      have := hc j u hu
      rw [List.getElem?_append_left (List.getElem?_eq_some_iff.1 this).1]
      exact this
    · rename_i hi
      obtain ⟨cs, hr, hc⟩ := hn _ x hx
      refine ⟨cs, up hr, fun j u hu => ?_⟩
      have hle : xs.length * t.sz ≤ i * t.sz := Nat.mul_le_mul_right _ (by omega)
      rw [List.getElem?_append_right (by rw [ho.1]; omega), ho.1, show i * t.sz + j - xs.length * t.sz = (i - xs.length) * t.sz + j by rw [Nat.sub_mul]; omega]
      exact hc j u hu
  cases A with
  | none =>
    have hy : ys = [] := by
      cases ys with
      | nil => rfl
      | cons y ys => obtain ⟨b, off, e, _⟩ := hrow (by simp); cases e
    subst hy
    have hcap : ∃ v' w', (Builtin.append_ #[T, T] ty #[v, .slice none 0 c]).run P w = .ok v' w' ∧ v' = v ∧ w' = w := by
      rcases ho.2 with ⟨rfl, h0⟩ | ⟨g, cap, cur, rfl, _, _, hnc, _⟩
      · exact ⟨_, _, by simp [Builtin.append_, run_underlying hu, sizeOf, typeInfo, hi, Builtin.lenOf, Builtin.firstCells], rfl, rfl⟩
      · refine ⟨_, _, ?_, rfl, rfl⟩
        simp [Builtin.append_, run_underlying hu, sizeOf, typeInfo, hi, Builtin.lenOf, Builtin.firstCells, hnc, storeCells]
    obtain ⟨v', w', hr, rfl, rfl⟩ := hcap
    unfold Oper.wp execOp
    simp only [resolve, invoke, builtin, Sem.run_bind, Sem.run_pure, Result.andThen_ok, List.map_toArray, List.map_cons, List.map_nil, hs, hx, List.length_nil, hr]
    refine h v' w' ?_ ⟨rfl, rfl, rfl, Nat.le_refl _, fun _ _ _ => rfl⟩ (.inl rfl)
    rw [List.append_nil]
    exact ⟨cells, ho, hels⟩
  | some ad =>
    have hnews : ∃ news : List Value, news.length = ys.length * t.sz ∧ (∀ j u, news[j]? = some u → w.cell? (ad.add j) = some u) ∧ (∀ u ∈ news, u.oneCell' = true) ∧
        ∀ i x, ys[i]? = some x → ∃ cs, t.rel (fun b => B b ∧ v.ownBlock ≠ some b) w x cs ∧ ∀ j u, cs[j]? = some u → news[i * t.sz + j]? = some u := by
      by_cases hy : ys = []
      · subst hy
        exact ⟨[], by simp, fun j u h => by simp at h, by simp, fun i x h => by simp at h⟩
      · obtain ⟨b, off, e1, _, hlt, hr⟩ := hrow hy
        cases e1
        obtain ⟨news, h1, h2, h3, h4⟩ := hr.news
        refine ⟨news, h1, fun j u hu => ?_, h3, fun i x hx => ?_⟩
        · have := h2 j u hu
          unfold Addr.add
          split
          · rename_i hj; subst hj; exact this
          · exact this
        · obtain ⟨cs, hr, hc⟩ := h4 i x hx
          exact ⟨cs, hel x cs hr, hc⟩
    obtain ⟨news, h1, h2, h3, h4⟩ := hnews
    obtain ⟨v', w', hr, ho', hg, _, hat⟩ := run_append_own_at (P := P) w base T ty e i z t.sz bytes hu hi hz hsz hby hzs hsz0 v xs.length cells ho ad ys.length c news h1 h2 h3 hm hlen hbase
    unfold Oper.wp execOp
    simp only [resolve, invoke, builtin, Sem.run_bind, Sem.run_pure, Result.andThen_ok, List.map_toArray, List.map_cons, List.map_nil, hs, hx, hr]
    exact h v' w' (fin news h1 h4 v' w' ho' hg hat) hg hat
theorem wp_append {w : World} {dst : Option Tmp} {s x : Operand} {T ty : TypeId} {pos : String} {after : Array Edge} (e base bytes : Nat) (he : Elem P T e t.sz bytes) (B : Nat → Prop)
    (v : Value) (xs : List α) (hs : a.eval s = v) (hown : Own t e base B w xs v) (src : Value) (ys : List α) (hx : a.eval x = src) (B1 : Nat → Prop) (hsrc : SlP t B1 w ys src)
    (hel : ∀ y cs, t.rel B1 w y cs → t.rel (fun b => B b ∧ v.ownBlock ≠ some b) w y cs)
    (hlen : (xs.length + ys.length) * bytes ≤ 140737488355328) (h0 : 0 < bytes) (hbase : base ≤ w.heap.size)
    (h : ∀ v' w', Own t e base B w' (xs ++ ys) v' → w.grownBy w' v.ownBlock → (v'.ownBlock = v.ownBlock ∨ v'.ownBlock = some w.heap.size) → wpList P ops Q rest (a.put dst v') w') :
    wpList P ops Q (⟨dst, .call { callee := .builtin .append, args := #[s, x], argTypes := #[T, T] }, ty, pos, after, none⟩ :: rest) a w :=
  wpList_plain rfl fun K hK => op_append (K := K) e base bytes he B v xs hs hown src ys hx B1 hsrc hel hlen h0 hbase fun v' w' h1 h2 h3 => hK _ _ (h v' w' h1 h2 h3)
/-- The same as one step of a region that draws its order. -/
theorem st_append {E : Prop} {w : World} {K : Act → World → Prop} {dst : Option Tmp} {s x : Operand} {T ty : TypeId} {pos : String} {after : Array Edge} (e base bytes : Nat) (he : Elem P T e t.sz bytes) (B : Nat → Prop)
    (v : Value) (xs : List α) (hs : a.eval s = v) (hown : Own t e base B w xs v) (src : Value) (ys : List α) (hx : a.eval x = src) (B1 : Nat → Prop) (hsrc : SlP t B1 w ys src)
    (hel : ∀ y cs, t.rel B1 w y cs → t.rel (fun b => B b ∧ v.ownBlock ≠ some b) w y cs)
    (hlen : (xs.length + ys.length) * bytes ≤ 140737488355328) (h0 : 0 < bytes) (hbase : base ≤ w.heap.size)
    (h : ∀ v' w', Own t e base B w' (xs ++ ys) v' → w.grownBy w' v.ownBlock → (v'.ownBlock = v.ownBlock ∨ v'.ownBlock = some w.heap.size) → K (a.put dst v') w') :
    if Region.wanted ⟨dst, .call { callee := .builtin .append, args := #[s, x], argTypes := #[T, T] }, ty, pos, after, none⟩ (yielded ops a.tmps) = true then Oper.wp P ⟨dst, .call { callee := .builtin .append, args := #[s, x], argTypes := #[T, T] }, ty, pos, after, none⟩ a w K Q else E := by
  rw [if_pos (by simp [Region.wanted])]
  exact op_append e base bytes he B v xs hs hown src ys hx B1 hsrc hel hlen h0 hbase h
end

/-- For a quiet region behind another one: a callee that leaves the world alone. -/
theorem quiet_more {P : Program} {f : FuncId} {args : Array Value} {v : Value} (h : ∀ W : World, Calls P f args W fun e w' => e = .returned v ∧ w' = W) {w : World} {a n : Nat} :
    Calls P f args (w.drewN (a + n)) fun e w' => e = .returned v ∧ ∃ m, w' = w.drewN (a + m) :=
  (h _).mono fun _ _ ⟨he, hw⟩ => ⟨he, n, hw⟩

/-! ### make, copy -/
/-- What make gives: for the walk, as a rule. -/
theorem run_mk {P : Program} {T e sz bytes : Nat} (he : Elem P T e sz bytes) : ∃ z : Value, (∃ i, P.info? e = some i ∧ i.zero = some z) ∧ z.cells.size = sz ∧ ∀ (m : Nat) (W : World), bytes * m ≤ 281474976710656 → m ≤ 9223372036854775807 →
    (Instr.makeSlice T (.int .i64 (m : Int)) (.int .i64 (m : Int))).run P W = .ok (.slice (some ⟨W.heap.size, 0, none⟩) m m) (W.alloc (.cells (madeCells z.cells (m * sz)) e)) := by
  obtain ⟨i, z, hu, hi, hz, hsz, hby, hzs, hsz0⟩ := he
  refine ⟨z, ⟨i, hi, hz⟩, hzs, fun m W hb h63 => ?_⟩
  have := run_make (P := P) W T e i z hu hi hz .i64 .i64 (m : Int) (m : Int) (by omega) (Int.le_refl _) (by rw [hby]; omega) (by omega)
  rw [Int.toNat_natCast, hsz] at this
  exact this
section
variable {P : Program} {ops : Array Oper} {rest : List Oper} {a : Act} {Q : Exit → Act → World → Prop} {α : Type} {t : Ty α}
theorem madeCells_get (z : Array Value) (m j : Nat) (hj : j < m * z.size) : (madeCells z (m * z.size))[j]? = z[j % z.size]? := by
  have hz : 0 < z.size := by
    rcases Nat.eq_zero_or_pos z.size with h | h
    · rw [h, Nat.mul_zero] at hj; omega
    · exact h
  have hm : j % z.size < z.size := Nat.mod_lt _ hz
  simp [madeCells, hj, hm]
/-- A slice that make made: its elements are z0, the zero value. -/
theorem Own.made {w : World} {e base m : Nat} {B : Nat → Prop} (z : Array Value) (z0 : α) (hz : z.size = t.sz) (hrel : ∀ B w, t.rel B w z0 z.toList) (hb : base ≤ w.heap.size) (hm : m ≤ maxLen) :
    Own t e base B (w.alloc (.cells (madeCells z (m * t.sz)) e)) (List.replicate m z0) (.slice (some ⟨w.heap.size, 0, none⟩) m m) := by
  refine ⟨(madeCells z (m * t.sz)).toList, ?_, fun i x hx => ?_⟩
  · rw [List.length_replicate]
    refine ⟨by rw [Array.length_toList, size_madeCells], .inr ⟨w.heap.size, m, _, rfl, hb, heap_alloc_new w _, Nat.le_refl _, hm, by rw [size_madeCells], ?_⟩⟩
    rw [List.take_of_length_le (by rw [Array.length_toList, size_madeCells]; exact Nat.le_refl _)]
  · rw [List.getElem?_replicate] at hx
    split at hx
    · rename_i hi
      cases hx
      refine ⟨z.toList, hrel _ _, fun j u hu => ?_⟩
      have hj : j < z.size := by have := (List.getElem?_eq_some_iff.1 hu).1; rwa [Array.length_toList] at this
      have hlt : i * z.size + j < m * z.size := by
        calc i * z.size + j < i * z.size + z.size := by omega
          _ = (i + 1) * z.size := by rw [Nat.add_mul, Nat.one_mul]
          _ ≤ m * z.size := Nat.mul_le_mul_right _ hi
      rw [Array.getElem?_toList, ← hz, madeCells_get z m _ hlt, Nat.mul_comm, Nat.mul_add_mod, Nat.mod_eq_of_lt hj, ← Array.getElem?_toList]
      exact hu
    · cases hx

/-- copy(v, src): v is one's own, and at least as long. -/
theorem wp_copy {w : World} {dst : Option Tmp} {s x : Operand} {T ty : TypeId} {pos : String} {after : Array Edge} (T' e base bytes : Nat) (he : Elem P T e t.sz bytes) (B : Nat → Prop)
    (v : Value) (xs : List α) (hs : a.eval s = v) (hown : Own t e base B w xs v) (src : Value) (ys : List α) (hx : a.eval x = src) (B1 : Nat → Prop) (hsrc : SlP t B1 w ys src)
    (hel : ∀ y cs, t.rel B1 w y cs → t.rel (fun b => B b ∧ v.ownBlock ≠ some b) w y cs) (hlen : ys.length ≤ xs.length)
    (h : ∀ w', Own t e base B w' (ys ++ xs.drop ys.length) v → w.grownBy w' v.ownBlock → w'.heap.size = w.heap.size → wpList P ops Q rest (a.put dst (.int .i64 (ys.length : Int))) w') :
    wpList P ops Q (⟨dst, .call { callee := .builtin .copy, args := #[s, x], argTypes := #[T, T'] }, ty, pos, after, none⟩ :: rest) a w := by
  obtain ⟨i, z, hu, hi, hz, hsz, hby, hzs, hsz0⟩ := he
  obtain ⟨A, c, rfl, hl, hcm, hrow⟩ := hsrc
  obtain ⟨cells, ho, hels⟩ := hown
  -- the source's cells
  have hnews : ∃ news : List Value, news.length = ys.length * t.sz ∧ (∀ u ∈ news, u.oneCell' = true) ∧ (Builtin.firstCells i.size ys.length (.slice A ys.length c)).run P w = .ok news.toArray w ∧
      ∀ i x, ys[i]? = some x → ∃ cs, t.rel (fun b => B b ∧ v.ownBlock ≠ some b) w x cs ∧ ∀ j u, cs[j]? = some u → news[i * t.sz + j]? = some u := by
    by_cases hy : ys = []
    · subst hy
      refine ⟨[], by simp, by simp, ?_, fun i x h => by simp at h⟩
      cases A with
      | none => simp [Builtin.firstCells]
      | some ad => simp [Builtin.firstCells, loadCells, loadCellsFrom]
    · obtain ⟨b, off, e1, _, hlt, hr⟩ := hrow hy
      cases e1
      obtain ⟨news, h1, h2, h3, h4⟩ := hr.news
      refine ⟨news, h1, h3, ?_, fun i x hx => ?_⟩
      · have hc : ∀ j u, news[j]? = some u → w.cell? ((⟨b, off, none⟩ : Addr).add j) = some u := fun j u hu => by
          have := h2 j u hu
          unfold Addr.add
          split
          · rename_i hj; subst hj; exact this
          · exact this
        have := run_firstCells_some (P := P) w i.size ys.length ⟨b, off, none⟩ ys.length c news (by rw [h1, hsz]) hc
        exact this
      · obtain ⟨cs, hr, hc⟩ := h4 i x hx
        exact ⟨cs, hel x cs hr, hc⟩
  obtain ⟨news, hnl, hn1, hrun, hnel⟩ := hnews
  have hmin : Nat.min ys.length xs.length = ys.length := Nat.min_eq_left hlen
  rcases ho.2 with ⟨rfl, h0⟩ | ⟨g, cap, cur, rfl, hb, hh, hc1, hc2, hc3, hc4⟩
  · obtain rfl := List.eq_nil_of_length_eq_zero h0
    obtain rfl : ys = [] := List.eq_nil_of_length_eq_zero (by simpa using hlen)
    refine wpList_plain rfl fun K hK => ?_
    have hr : (Builtin.copy_ #[T, T'] ty #[.slice none 0 0, .slice A 0 c]).run P w = .ok (.int .i64 0) w := by
      have h2 := hrun
      simp only [List.length_nil] at h2
      simp [Builtin.copy_, run_underlying hu, sizeOf, typeInfo, hi, Builtin.lenOf, h2, goInt]
    unfold Oper.wp execOp
    simp only [resolve, invoke, builtin, Sem.run_bind, Sem.run_pure, Result.andThen_ok, List.map_toArray, List.map_cons, List.map_nil, hs, hx, List.length_nil, hr]
    refine hK _ _ (h w ?_ ⟨rfl, rfl, rfl, Nat.le_refl _, fun _ _ _ => rfl⟩ rfl)
    exact ⟨cells, ho, hels⟩
  · have hcl : cells.length = xs.length * t.sz := ho.1
    have hfit : news.length ≤ cur.size := by rw [hnl, hc3]; exact Nat.mul_le_mul_right _ (by omega)
    have hst := run_storeCells_at P g 0 e news 0 cur w hh (by simpa using hfit) hn1
    simp only [Nat.zero_add, Nat.add_zero, List.take_zero, List.nil_append] at hst
    have hr : (Builtin.copy_ #[T, T'] ty #[.slice (some ⟨g, 0, none⟩) xs.length cap, .slice A ys.length c]).run P w = .ok (.int .i64 (ys.length : Int)) (w.setRow g (news ++ cur.toList.drop news.length).toArray) := by
      have h2 := hrun
      simp [Builtin.copy_, run_underlying hu, sizeOf, typeInfo, hi, Builtin.lenOf, hmin, h2, goInt, hst]
    refine wpList_plain rfl fun K hK => ?_
    unfold Oper.wp execOp
    simp only [resolve, invoke, builtin, Sem.run_bind, Sem.run_pure, Result.andThen_ok, List.map_toArray, List.map_cons, List.map_nil, hs, hx, hr]
    have hg : w.grownBy (w.setRow g (news ++ cur.toList.drop news.length).toArray) (some g) := ⟨rfl, rfl, rfl, by simp [World.setRow], fun k _ hk => setRow_other w g k _ (fun e => hk (by rw [e]))⟩
    have hll : (ys ++ xs.drop ys.length).length = xs.length := by rw [List.length_append, List.length_drop]; omega
    refine hK _ _ (h _ ?_ hg (by simp [World.setRow]))
    have hle : ys.length * t.sz ≤ xs.length * t.sz := Nat.mul_le_mul_right _ hlen
    refine ⟨news ++ cells.drop news.length, ?_, fun i x hx => ?_⟩
    · rw [hll]
      refine ⟨by rw [List.length_append, List.length_drop, hcl, hnl]; omega, .inr ⟨g, cap, _, rfl, hb, setRow_heap w g cur _ e _ hh, hc1, hc2, ?_, ?_⟩⟩
      · simp only [List.size_toArray, List.length_append, List.length_drop, Array.length_toList]; omega
      · rw [List.take_append, List.take_of_length_le (by omega), ← hc4]
        congr 1
        rw [List.drop_take]
    · have up : ∀ {x cs}, t.rel (fun b => B b ∧ (Value.slice (some ⟨g, 0, none⟩) xs.length cap).ownBlock ≠ some b) w x cs → t.rel (fun b => B b ∧ (Value.slice (some ⟨g, 0, none⟩) xs.length cap).ownBlock ≠ some b) (w.setRow g (news ++ cur.toList.drop news.length).toArray) x cs := fun hr =>
        t.mono (fun b hb => hb.1) (t.keep (fun b hb => hg.block b hb.2 (fun h => hb.1.2 (show some g = some b from h.symm))) (t.low hr))
      rw [List.getElem?_append] at hx
      split at hx
      · obtain ⟨cs, hr, hc⟩ := hnel i x hx
        refine ⟨cs, up hr, fun j u hu => ?_⟩
        have := hc j u hu
        rw [List.getElem?_append_left (List.getElem?_eq_some_iff.1 this).1]
        exact this
      · rename_i hi
        rw [List.getElem?_drop] at hx
        obtain ⟨cs, hr, hc⟩ := hels _ x hx
        refine ⟨cs, up hr, fun j u hu => ?_⟩
        have := hc j u hu
        have h3 : ys.length * t.sz ≤ i * t.sz := Nat.mul_le_mul_right _ (by omega)
        rw [List.getElem?_append_right (by omega), List.getElem?_drop, hnl]
        rw [show ys.length + (i - ys.length) = i by omega] at this
        rwa [show ys.length * t.sz + (i * t.sz + j - ys.length * t.sz) = i * t.sz + j by omega]
end

section
variable {P : Program} {ops : Array Oper} {rest : List Oper} {a : Act} {Q : Exit → Act → World → Prop} {w : World}
/-- The same in a region that draws its order. -/
theorem gate_st {K : Act → World → Prop} {E : Prop} {dst : Option Tmp} {ats : Array TypeId} {ty : TypeId} {pos : String} {after : Array Edge} {gd : Option (Nat × Bool)} (b : Builtin) (args : Array Operand)
    (h : if Region.wanted ⟨dst, .call { callee := .builtin b, args := args, argTypes := ats }, ty, pos, after, gd⟩ (yielded ops a.tmps) = true then Oper.wp P ⟨dst, .call { callee := .builtin b, args := args, argTypes := ats }, ty, pos, after, gd⟩ a w K Q else E) :
    if Region.wanted ⟨dst, .call { callee := .builtin b, args := args, argTypes := ats }, ty, pos, after, gd⟩ (yielded ops a.tmps) = true then Oper.wp P ⟨dst, .call { callee := .builtin b, args := args, argTypes := ats }, ty, pos, after, gd⟩ a w K Q else E := h
/-- For the walk: is the next operation this builtin, of these operands? -/
theorem gate_bi {dst : Option Tmp} {ats : Array TypeId} {ty : TypeId} {pos : String} {after : Array Edge} {gd : Option (Nat × Bool)} (b : Builtin) (args : Array Operand)
    (h : wpList P ops Q (⟨dst, .call { callee := .builtin b, args := args, argTypes := ats }, ty, pos, after, gd⟩ :: rest) a w) : wpList P ops Q (⟨dst, .call { callee := .builtin b, args := args, argTypes := ats }, ty, pos, after, gd⟩ :: rest) a w := h
end

/-! ### A row of rows, all of them one's own, no two in one block -/
theorem grownBy_set (w : World) (a : Addr) (u : Value) : w.grownBy (w.setCell a u) (some a.block) :=
  ⟨rfl, rfl, rfl, by simp [World.setCell], fun k _ hk => Below.heap_setCell w a u k (fun h => hk (by rw [h]))⟩
theorem Own.set {α : Type} {t : Ty α} {e base : Nat} {B : Nat → Prop} {w : World} {xs : List α} {v : Value} (h : Own t e base B w xs v) (a : Addr) (u : Value) (ha : a.block < base) (hB : ∀ b, B b → a.block ≠ b) : Own t e base B (w.setCell a u) xs v :=
  h.other (grownBy_set w a u) (fun k hk hc => by have := h.lo k hk; have := Option.some.inj hc; omega) (fun b hb _ hc => hB b hb (Option.some.inj hc))
def Own2 {α : Type} (t : Ty α) (e1 e base : Nat) (w : World) (xss : List (List α)) (v : Value) : Prop :=
  ∃ vs : List Value, w.ownsRow base e1 1 v xss.length vs ∧
    (∀ (i : Nat) (x : List α), xss[i]? = some x → ∃ u : Value, vs[i]? = some u ∧ Own t e base (No) w x u ∧ ∀ k, u.ownBlock = some k → v.ownBlock ≠ some k) ∧
    (∀ (i j : Nat) (u u' : Value), i ≠ j → vs[i]? = some u → vs[j]? = some u' → ∀ k, u.ownBlock = some k → u'.ownBlock ≠ some k)
section
variable {α : Type} {t : Ty α} {e1 e base : Nat} {w w' : World} {xss : List (List α)} {v : Value}
theorem Own2.nil (t : Ty α) (e1 e base : Nat) (w : World) : Own2 t e1 e base w [] (.slice none 0 0) := ⟨[], World.ownsRow_nil w base e1 1, by simp, by simp⟩
theorem Own2.block (h : Own2 t e1 e base w xss v) : ∀ k, v.ownBlock = some k → base ≤ k ∧ k < w.heap.size := fun k hk => let ⟨_, h1, _⟩ := h; h1.lt k hk
theorem Own2.own (h : Own2 t e1 e base w xss v) : Own (Ty.slice t) e1 base (fun b => base ≤ b) w xss v := by
  obtain ⟨vs, ho, hel, _⟩ := h
  refine ⟨vs, ho, fun i x hx => ?_⟩
  obtain ⟨u, hu, hou, hne⟩ := hel i x hx
  have hs := hou.sl
  obtain ⟨A, c, rfl, h1, h2, h3⟩ := hs
  refine ⟨[.slice A x.length c], ⟨_, rfl, A, c, rfl, h1, h2, fun hx => ?_⟩, fun j u' hu' => ?_⟩
  · obtain ⟨b, off, e, hb, hlt, hr⟩ := h3 hx
    have hlow := hou.lo
    subst e
    refine ⟨b, off, rfl, ⟨hlow b rfl, hne b rfl⟩, hlt, hr.mono (fun b' hb' => ?_)⟩
    rcases hb' with hf | hb'
    · exact hf.elim
    · cases hb'; exact ⟨hlow b rfl, hne b rfl⟩
  · cases j with
    | zero => cases hu'; show vs[i * 1 + 0]? = _; simpa using hu
    | succ j => simp at hu'
theorem Own2.rd (h : Own2 t e1 e base w xss v) : Rd (Ty.slice t) w xss v := h.own.rd
theorem Own2.other {row : Option Nat} (h : Own2 t e1 e base w xss v) (hg : w.grownBy w' row) (hr : ∀ k, row = some k → k < base ∨ w.heap.size ≤ k) : Own2 t e1 e base w' xss v := by
  obtain ⟨vs, ho, hel, hd⟩ := h
  refine ⟨vs, ho.kept hg ?_, fun i x hx => ?_, hd⟩
  · cases hk : v.ownBlock with
    | none => exact .inl rfl
    | some k => refine .inr fun he => ?_; have h1 := ho.lt k hk; have h2 := hr k he.symm; omega
  · obtain ⟨u, hu, hou, hne⟩ := hel i x hx
    refine ⟨u, hu, hou.other hg (fun k hk he => ?_) (fun b hb => hb.elim), hne⟩
    have h1 := hou.block k hk
    have h2 := hr k he
    omega
theorem Own2.ext (h : Own2 t e1 e base w xss v) (he : Ext w w') : Own2 t e1 e base w' xss v := h.other (he.grownBy none) (by simp)
theorem Own2.rebase {base' : Nat} (h : Own2 t e1 e base w xss v) (hb : base' ≤ base) : Own2 t e1 e base' w xss v := by
  obtain ⟨vs, ho, hel, hd⟩ := h
  exact ⟨vs, ownsRow_base ho (fun k hk => Nat.le_trans hb (ho.lt k hk).1), fun i x hx => let ⟨u, hu, hou, hne⟩ := hel i x hx; ⟨u, hu, hou.rebase (fun k hk => Nat.le_trans hb (hou.lo k hk)), hne⟩, hd⟩
theorem Own2.one {x : List α} {u : Value} (hu : Own t e base (No) w x u) (hb : base ≤ w.heap.size) : Own2 t e1 e base (w.alloc (.cells #[u] e1)) [x] (.slice (some ⟨w.heap.size, 0, none⟩) 1 1) := by
  refine ⟨[u], World.ownsRow_lit w #[u] 1 hb (by decide) rfl, fun i y hy => ?_, fun i j a b hij ha hb => ?_⟩
  · match i, hy with
    | 0, hy =>
      cases hy
      refine ⟨u, rfl, hu.ext ((Ext.refl _).alloc _), fun k hk h => ?_⟩
      have := (hu.block k hk).2
      simp [Value.ownBlock] at h
      omega
    | i + 1, hy => simp at hy
  · have h1 := (List.getElem?_eq_some_iff.1 ha).1
    have h2 := (List.getElem?_eq_some_iff.1 hb).1
    simp at h1 h2
    omega
theorem Own2.two {x y : List α} {u u' : Value} (hu : Own t e base (No) w x u) (hu' : Own t e base (No) w y u') (hd : ∀ k, u.ownBlock = some k → u'.ownBlock ≠ some k) (hb : base ≤ w.heap.size) :
    Own2 t e1 e base (w.alloc (.cells #[u, u'] e1)) [x, y] (.slice (some ⟨w.heap.size, 0, none⟩) 2 2) := by
  refine ⟨[u, u'], World.ownsRow_lit w #[u, u'] 2 hb (by decide) rfl, fun i z hz => ?_, fun i j a b hij ha hb => ?_⟩
  · match i, hz with
    | 0, hz =>
      cases hz
      refine ⟨u, rfl, hu.ext ((Ext.refl _).alloc _), fun k hk h => ?_⟩
      have := (hu.block k hk).2
      simp [Value.ownBlock] at h
      omega
    | 1, hz =>
      cases hz
      refine ⟨u', rfl, hu'.ext ((Ext.refl _).alloc _), fun k hk h => ?_⟩
      have := (hu'.block k hk).2
      simp [Value.ownBlock] at h
      omega
    | i + 2, hz => simp at hz
  · match i, j, ha, hb with
    | 0, 0, _, _ => exact absurd rfl hij
    | 0, 1, ha, hb => cases ha; cases hb; exact hd
    | 1, 0, ha, hb => cases ha; cases hb; exact fun k hk h => hd k h hk
    | 1, 1, _, _ => exact absurd rfl hij
    | i + 2, _, ha, _ => simp at ha
    | 0, j + 2, _, hb => simp at hb
    | 1, j + 2, _, hb => simp at hb
end

section
variable {α : Type} {t : Ty α} {e1 e base : Nat} {w w' : World} {xss : List (List α)} {v : Value}
theorem Own2.shape (h : Own2 t e1 e base w xss v) : ∃ A c, v = .slice A xss.length c ∧ xss.length ≤ c ∧ c ≤ maxLen := h.own.shape
theorem Own2.take (h : Own2 t e1 e base w xss v) {A : Option Addr} {n c : Nat} (hv : v = .slice A n c) (m : Nat) (hm : m ≤ xss.length) : Own2 t e1 e base w (xss.take m) (.slice A m c) := by
  subst hv
  obtain ⟨vs, ho, hel, hd⟩ := h
  have hl : (xss.take m).length = m := by rw [List.length_take]; omega
  refine ⟨vs.take m, ?_, fun i x hx => ?_, fun i j u u' hij hu hu' => ?_⟩
  · rw [hl]
    refine ⟨?_, ?_⟩
    · rw [List.length_take, ho.1]; omega
    · rcases ho.2 with ⟨e1, h0⟩ | ⟨g, cap, cur, e1, hb, hh, h1, h2, h3, h4⟩
      · cases e1
        have : m = 0 := by omega
        subst this
        exact .inl ⟨rfl, rfl⟩
      · cases e1
        refine .inr ⟨g, c, cur, rfl, hb, hh, by omega, h2, h3, ?_⟩
        rw [← h4, List.take_take]
        congr 1
        omega
  · rw [List.getElem?_take] at hx
    split at hx
    · rename_i hi
      obtain ⟨u, hu, hou, hne⟩ := hel i x hx
      exact ⟨u, by rw [List.getElem?_take, if_pos hi]; exact hu, hou, fun k hk => by cases A <;> exact hne k hk⟩
    · cases hx
  · have get : ∀ {i : Nat} {u : Value}, (vs.take m)[i]? = some u → vs[i]? = some u := fun {i u} h => by
      rw [List.getElem?_take] at h
      split at h
      · exact h
      · cases h
    exact hd i j u u' hij (get hu) (get hu')
/-- An element of a row of rows: where it lies, and that it is one's own. -/
theorem Own2.get {A : Option Addr} {n c : Nat} (h : Own2 t e1 e base w xss (.slice A n c)) {i : Nat} {x : List α} (hx : xss[i]? = some x) :
    ∃ g u, A = some ⟨g, 0, none⟩ ∧ base ≤ g ∧ g < w.heap.size ∧ w.cell? ⟨g, i, none⟩ = some u ∧ w.frozen? ⟨g, i, none⟩ = false ∧ Own t e base No w x u ∧ u.ownBlock ≠ some g := by
  obtain ⟨vs, ho, hel, hd⟩ := h
  obtain ⟨u, hu, hou, hne⟩ := hel i x hx
  rcases ho.2 with ⟨e1, h0⟩ | ⟨g, cap, cur, e1, hb, hh, h1, h2, h3, h4⟩
  · have := (List.getElem?_eq_some_iff.1 hx).1
    omega
  · cases e1
    have hc := ho.cells (g := g) rfl i u hu
    have hadd : (⟨g, 0, none⟩ : Addr).add i = ⟨g, i, none⟩ := by
      unfold Addr.add
      split
      · rename_i h; rw [h]
      · simp
    rw [hadd] at hc
    exact ⟨g, u, rfl, hb, (ho.lt g rfl).2, hc, by simp [World.frozen?, hh], hou, fun h => hne g h rfl⟩
end
section
variable {P : Program} {ops : Array Oper} {rest : List Oper} {a : Act} {Q : Exit → Act → World → Prop} {α : Type} {t : Ty α}
/-- append(v, u): v is a row of rows of one's own, u a row of one's own that is younger than they. -/
theorem op_append2 {w : World} {K : Act → World → Prop} {dst : Option Tmp} {s x : Operand} {T ty : TypeId} {pos : String} {after : Array Edge} {gd : Option (Nat × Bool)} (e1 e base bytes : Nat) (he : Elem P T e1 1 bytes)
    (v : Value) (xss : List (List α)) (hs : a.eval s = v) (wo : World) (hown : Own2 t e1 e base wo xss v) (hext : Ext wo w) (x' : List α) (u : Value) (hu : Own t e base No w x' u) (hub : ∀ k, u.ownBlock = some k → wo.heap.size ≤ k)
    (ad : Addr) (c : Nat) (hx : a.eval x = .slice (some ad) 1 c) (hcell : w.cell? ad = some u)
    (hlen : (xss.length + 1) * bytes ≤ 140737488355328) (h0 : 0 < bytes) (hbase : base ≤ w.heap.size)
    (h : ∀ v' w', Own2 t e1 e base w' (xss ++ [x']) v' → w.grownBy w' v.ownBlock → (v'.ownBlock = v.ownBlock ∨ v'.ownBlock = some w.heap.size) → K (a.put dst v') w') :
    Oper.wp P ⟨dst, .call { callee := .builtin .append, args := #[s, x], argTypes := #[T, T] }, ty, pos, after, gd⟩ a w K Q := by
  obtain ⟨i, z, hu', hi, hz, hsz, hby, hzs, hsz0⟩ := he
  obtain ⟨vs, ho, hel, hd⟩ := hown.ext hext
  obtain ⟨vs0, ho0, hel0, _⟩ := hown
  have hb0 : ∀ k, v.ownBlock = some k → k < wo.heap.size := fun k hk => (ho0.lt k hk).2
  have hm : xss.length + 1 ≤ maxLen := by
    have := Nat.le_trans (Nat.le_mul_of_pos_right _ h0) hlen
    simp only [maxLen]; omega
  have hone : u.oneCell' = true := by obtain ⟨A, c, rfl, _⟩ := hu.shape; rfl
  obtain ⟨v', w', hr, ho', hg, _, hat⟩ := run_append_own_at (P := P) w base T ty e1 i z 1 bytes hu' hi hz hsz hby hzs hsz0 v xss.length vs ho ad 1 c [u] rfl
    (fun j y hy => by
      match j, hy with
      | 0, hy => cases hy; show w.cell? (ad.add 0) = _; simpa [Addr.add] using hcell
      | j + 1, hy => simp at hy) (by simpa using hone) hm hlen hbase
  unfold Oper.wp execOp
  simp only [resolve, invoke, builtin, Sem.run_bind, Sem.run_pure, Result.andThen_ok, List.map_toArray, List.map_cons, List.map_nil, hs, hx, hr]
  refine h v' w' ⟨vs ++ [u], by rw [List.length_append]; exact ho', fun i y hy => ?_, fun i j p q hij hp hq k hk hk' => ?_⟩ hg hat
  · have hvl : vs.length = xss.length := by rw [ho.1, Nat.mul_one]
    have fin : ∀ {y q}, Own t e base No w y q → (∀ k, q.ownBlock = some k → v.ownBlock ≠ some k) → Own t e base No w' y q ∧ ∀ k, q.ownBlock = some k → v'.ownBlock ≠ some k := fun {y q} hq hne =>
      ⟨hq.other hg (fun k hk hv => hne k hk hv) (fun _ h => h.elim), fun k hk hv => by
        have hkl := (hq.block k hk).2
        rcases hat with hat | hat
        · exact hne k hk (by rw [← hat]; exact hv)
        · rw [hat] at hv; have := Option.some.inj hv; omega⟩
    rw [List.getElem?_append] at hy
    split at hy
    · rename_i hlt
      obtain ⟨q, hq, hoq, hne⟩ := hel i y hy
      exact ⟨q, by rw [List.getElem?_append_left (by omega)]; exact hq, fin hoq hne⟩
    · rename_i hge
      have hi0 : i - xss.length = 0 := by have := (List.getElem?_eq_some_iff.1 hy).1; simp at this; omega
      rw [hi0] at hy
      cases hy
      exact ⟨u, by rw [List.getElem?_append_right (by omega), show i - vs.length = 0 by omega]; rfl, fin hu (fun k hk hv => by have := hub k hk; have := hb0 k hv; omega)⟩
  · have hvl : vs.length = xss.length := by rw [ho.1, Nat.mul_one]
    have old : ∀ {i : Nat} {p : Value}, i < vs.length → (vs ++ [u])[i]? = some p → vs[i]? = some p ∧ ∀ k, p.ownBlock = some k → k < wo.heap.size := fun {i p} hi hp => by
      rw [List.getElem?_append_left hi] at hp
      refine ⟨hp, fun k hk => ?_⟩
      have hx : i < xss.length := by omega
      obtain ⟨q, hq, hoq, _⟩ := hel0 i xss[i] (List.getElem?_eq_getElem hx)
      obtain ⟨q', hq', _⟩ := hel i xss[i] (List.getElem?_eq_getElem hx)
      have : q = p := by
        cases hv : v.ownBlock with
        | none =>
          rcases ho.2 with ⟨_, h0⟩ | ⟨g, cap, cur, rfl, _⟩
          · omega
          · simp [Value.ownBlock] at hv
        | some g =>
          have c1 := ho.cells hv i p hp
          have c2 := ho0.cells hv i q hq
          have hg0 := hb0 g hv
          have hsame := hext.cell g i hg0
          have hadd : (⟨g, 0, none⟩ : Addr).add i = ⟨g, i, none⟩ := by
            unfold Addr.add
            split
            · rename_i h; rw [h]
            · simp
          rw [hadd] at c1 c2
          rw [hsame, c2] at c1
          exact Option.some.inj c1
      subst this
      exact (hoq.block k hk).2
    have isu : ∀ {i : Nat} {p : Value}, ¬ i < vs.length → (vs ++ [u])[i]? = some p → i = vs.length ∧ p = u := fun {i p} hi hp => by
      have hl := (List.getElem?_eq_some_iff.1 hp).1
      rw [List.length_append, List.length_singleton] at hl
      have : i = vs.length := by omega
      subst this
      rw [List.getElem?_append_right (Nat.le_refl _), Nat.sub_self] at hp
      cases hp
      exact ⟨rfl, rfl⟩
    by_cases h1 : i < vs.length <;> by_cases h2 : j < vs.length
    · exact hd i j p q hij (old h1 hp).1 (old h2 hq).1 k hk hk'
    · obtain ⟨_, rfl⟩ := isu h2 hq
      have := (old h1 hp).2 k hk
      have := hub k hk'
      omega
    · obtain ⟨_, rfl⟩ := isu h1 hp
      have := (old h2 hq).2 k hk'
      have := hub k hk
      omega
    · exact hij ((isu h1 hp).1.trans (isu h2 hq).1.symm)
theorem wp_append2 {w : World} {dst : Option Tmp} {s x : Operand} {T ty : TypeId} {pos : String} {after : Array Edge} (e1 e base bytes : Nat) (he : Elem P T e1 1 bytes)
    (v : Value) (xss : List (List α)) (hs : a.eval s = v) (wo : World) (hown : Own2 t e1 e base wo xss v) (hext : Ext wo w) (x' : List α) (u : Value) (hu : Own t e base No w x' u) (hub : ∀ k, u.ownBlock = some k → wo.heap.size ≤ k)
    (ad : Addr) (c : Nat) (hx : a.eval x = .slice (some ad) 1 c) (hcell : w.cell? ad = some u)
    (hlen : (xss.length + 1) * bytes ≤ 140737488355328) (h0 : 0 < bytes) (hbase : base ≤ w.heap.size)
    (h : ∀ v' w', Own2 t e1 e base w' (xss ++ [x']) v' → w.grownBy w' v.ownBlock → (v'.ownBlock = v.ownBlock ∨ v'.ownBlock = some w.heap.size) → wpList P ops Q rest (a.put dst v') w') :
    wpList P ops Q (⟨dst, .call { callee := .builtin .append, args := #[s, x], argTypes := #[T, T] }, ty, pos, after, none⟩ :: rest) a w :=
  wpList_plain rfl fun K hK => op_append2 (K := K) e1 e base bytes he v xss hs wo hown hext x' u hu hub ad c hx hcell hlen h0 hbase fun v' w' h1 h2 h3 => hK _ _ (h v' w' h1 h2 h3)
theorem st_append2 {E : Prop} {w : World} {K : Act → World → Prop} {dst : Option Tmp} {s x : Operand} {T ty : TypeId} {pos : String} {after : Array Edge} (e1 e base bytes : Nat) (he : Elem P T e1 1 bytes)
    (v : Value) (xss : List (List α)) (hs : a.eval s = v) (wo : World) (hown : Own2 t e1 e base wo xss v) (hext : Ext wo w) (x' : List α) (u : Value) (hu : Own t e base No w x' u) (hub : ∀ k, u.ownBlock = some k → wo.heap.size ≤ k)
    (ad : Addr) (c : Nat) (hx : a.eval x = .slice (some ad) 1 c) (hcell : w.cell? ad = some u)
    (hlen : (xss.length + 1) * bytes ≤ 140737488355328) (h0 : 0 < bytes) (hbase : base ≤ w.heap.size)
    (h : ∀ v' w', Own2 t e1 e base w' (xss ++ [x']) v' → w.grownBy w' v.ownBlock → (v'.ownBlock = v.ownBlock ∨ v'.ownBlock = some w.heap.size) → K (a.put dst v') w') :
    if Region.wanted ⟨dst, .call { callee := .builtin .append, args := #[s, x], argTypes := #[T, T] }, ty, pos, after, none⟩ (yielded ops a.tmps) = true then Oper.wp P ⟨dst, .call { callee := .builtin .append, args := #[s, x], argTypes := #[T, T] }, ty, pos, after, none⟩ a w K Q else E := by
  rw [if_pos (by simp [Region.wanted])]
  exact op_append2 e1 e base bytes he v xss hs wo hown hext x' u hu hub ad c hx hcell hlen h0 hbase h
end

/-- A store into one's own row. -/
theorem Own.store {α : Type} {t : Ty α} {e base : Nat} {B : Nat → Prop} {w : World} {xs : List α} {g n c : Nat} (h : Own t e base B w xs (.slice (some ⟨g, 0, none⟩) n c)) {i j : Nat} {x : α} (hi : xs[i]? = some x) (hj : j < t.sz) (u : Value) (x' : α)
    (hx' : ∀ cs, t.rel (fun b => B b ∧ g ≠ b) w x cs → t.rel (fun b => B b ∧ g ≠ b) w x' (cs.set j u)) :
    Own t e base B (w.setCell ⟨g, i * t.sz + j, none⟩ u) (xs.set i x') (.slice (some ⟨g, 0, none⟩) n c) ∧ w.grownBy (w.setCell ⟨g, i * t.sz + j, none⟩ u) (some g) := by
  obtain ⟨cells, ho, hel⟩ := h
  have hn : n = xs.length := by
    rcases ho.2 with ⟨h', _⟩ | ⟨g', cap', cur, h', _⟩
    · cases h'
    · cases h'; rfl
  subst hn
  obtain ⟨hs, hg⟩ := ho.stored (i * t.sz + j) u
  have hil := (List.getElem?_eq_some_iff.1 hi).1
  have conv : ∀ {y cs}, t.rel (fun b => B b ∧ (Value.slice (some ⟨g, 0, none⟩) xs.length c).ownBlock ≠ some b) w y cs → t.rel (fun b => B b ∧ g ≠ b) w y cs := fun h => t.mono (fun b hb => ⟨hb.1, fun e => hb.2 (by rw [← e]; rfl)⟩) h
  have back : ∀ {y cs}, t.rel (fun b => B b ∧ g ≠ b) w y cs → t.rel (fun b => B b ∧ (Value.slice (some ⟨g, 0, none⟩) xs.length c).ownBlock ≠ some b) (w.setCell ⟨g, i * t.sz + j, none⟩ u) y cs := fun h =>
    t.mono (fun b hb => ⟨hb.1.1, fun e => hb.1.2 (Option.some.inj e)⟩) (t.keep (fun b hb => hg.block b hb.2 (fun e => hb.1.2 (Option.some.inj e).symm)) (t.low h))
  refine ⟨⟨cells.set (i * t.sz + j) u, by rw [List.length_set]; exact hs, fun k y hy => ?_⟩, hg⟩
  rw [List.getElem?_set] at hy
  split at hy
  · rename_i hik
    subst hik
    try rw [if_pos hil] at hy
    cases hy
    obtain ⟨cs, hr, hc⟩ := hel i x hi
    refine ⟨cs.set j u, back (hx' cs (conv hr)), fun l y hl => ?_⟩
    have hcl := t.len hr
    rw [List.getElem?_set] at hl ⊢
    have hlen : i * t.sz + j < cells.length := by
      rw [ho.1]
      calc i * t.sz + j < i * t.sz + t.sz := by omega
        _ = (i + 1) * t.sz := by rw [Nat.add_mul, Nat.one_mul]
        _ ≤ xs.length * t.sz := Nat.mul_le_mul_right _ hil
    by_cases hjl : j = l
    · subst hjl
      rw [if_pos rfl, if_pos (by omega)] at hl
      rw [if_pos rfl, if_pos hlen]
      exact hl
    · rw [if_neg hjl] at hl
      rw [if_neg (by omega)]
      exact hc l y hl
  · rename_i hik
    obtain ⟨cs, hr, hc⟩ := hel k y hy
    refine ⟨cs, back (conv hr), fun l z hl => ?_⟩
    have hll : l < t.sz := by rw [← t.len hr]; exact (List.getElem?_eq_some_iff.1 hl).1
    rw [List.getElem?_set, if_neg]
    · exact hc l z hl
    · intro he
      rcases Nat.lt_or_gt_of_ne hik with h1 | h1
      · have : (i + 1) * t.sz ≤ k * t.sz := Nat.mul_le_mul_right _ h1
        rw [Nat.add_mul, Nat.one_mul] at this
        omega
      · have : (k + 1) * t.sz ≤ i * t.sz := Nat.mul_le_mul_right _ h1
        rw [Nat.add_mul, Nat.one_mul] at this
        omega
/-- A cell of one's own row: it may be written. -/
theorem Own.free {α : Type} {t : Ty α} {e base : Nat} {B : Nat → Prop} {w : World} {xs : List α} {g n c : Nat} (h : Own t e base B w xs (.slice (some ⟨g, 0, none⟩) n c)) (o : Nat) : w.frozen? ⟨g, o, none⟩ = false := by
  obtain ⟨cells, ho, _⟩ := h
  rcases ho.2 with ⟨h', _⟩ | ⟨g', cap', cur, h', _, hh, _⟩
  · cases h'
  · cases h'; simp [World.frozen?, hh]
theorem Own.zero {α : Type} {t : Ty α} {e base : Nat} {B : Nat → Prop} {w : World} {xs : List α} {A : Option Addr} {n c : Nat} (h : Own t e base B w xs (.slice A n c)) : (A = none ∧ n = 0 ∧ c = 0 ∧ xs = []) ∨ ∃ g, A = some ⟨g, 0, none⟩ ∧ base ≤ g ∧ g < w.heap.size ∧ n = xs.length := by
  obtain ⟨cells, ho, _⟩ := h
  rcases ho.2 with ⟨h', h0⟩ | ⟨g', cap', cur, h', hb, hh, _⟩
  · cases h'; exact .inl ⟨rfl, rfl, rfl, List.eq_nil_of_length_eq_zero h0⟩
  · cases h'; exact .inr ⟨g', rfl, hb, (Array.getElem?_eq_some_iff.1 hh).1, rfl⟩

/-! ### Strings -/
/-- the i-th byte -/
def bt (s : ByteArray) (i : Nat) : Int := ((s.data.toList.getD i 0).toNat : Int)
theorem bt_at (s : ByteArray) (i : Nat) : ∀ h : i < s.size, ((s[i]'h).toNat : Int) = bt s i := fun h => by
  unfold bt
  rw [List.getD_eq_getElem?_getD, List.getElem?_eq_getElem (by simpa using h)]
  rfl
theorem bt_range (s : ByteArray) (i : Nat) : 0 ≤ bt s i ∧ bt s i ≤ 255 := by
  unfold bt
  have := (s.data.toList.getD i 0).toNat_lt
  omega
end Go.Eg
namespace Go.Eg

structure Nd where
  k : Int
  s : Int
  deriving DecidableEq
def nth (t : List Nd) (i : Nat) : Nd := t.getD i ⟨0, 0⟩
theorem nth_get {t : List Nd} {i : Nat} (h : i < t.length) : t[i]? = some (nth t i) := by simp [nth, List.getD_eq_getElem?_getD, List.getElem?_eq_getElem h]

/-- the number of parts of a kind; -1: no kind -/
def ar (k : Int) : Int := if 5 ≤ k ∧ k ≤ 7 then 2 else if k = 8 ∨ k = 9 then 1 else if 1 ≤ k ∧ k ≤ 4 then 0 else -1
theorem ar_le (k : Int) : -1 ≤ ar k ∧ ar k ≤ 2 := by unfold ar; split <;> (try split) <;> (try split) <;> omega
def good (n : Nd) : Bool := if n.k = 3 then decide (97 ≤ n.s ∧ n.s ≤ 104) else decide (n.s = 0 ∧ 0 ≤ ar n.k)
theorem good_ar {n : Nd} (h : good n = true) : 0 ≤ ar n.k := by
  unfold good at h
  split at h
  · rename_i h3; rw [h3]; decide
  · simp at h; exact h.2
theorem good_kind {n : Nd} (h : good n = true) : 1 ≤ n.k ∧ n.k ≤ 9 := by
  have := good_ar h
  unfold ar at this
  split at this
  · omega
  · split at this
    · omega
    · split at this
      · omega
      · omega
/-- from a stack of h trees on -/
def ok : Int → List Nd → Bool
  | h, [] => h == 1
  | h, n :: t => good n && decide (ar n.k ≤ h) && ok (h + (1 - ar n.k)) t
/-- the error of a list that must be a tree -/
def errW (t : List Nd) : Int := if 4000 < t.length then 6 else if ok 0 t then 0 else 30
theorem errW_ok {t : List Nd} (h : errW t = 0) : t.length ≤ 4000 ∧ ok 0 t = true := by
  unfold errW at h
  split at h
  · cases h
  · split at h
    · exact ⟨by omega, by assumption⟩
    · cases h
theorem ok_take {t : List Nd} : ∀ {i : Nat} {h : Int}, i < t.length → ok h (t.drop i) = (good (nth t i) && decide (ar (nth t i).k ≤ h) && ok (h + (1 - ar (nth t i).k)) (t.drop (i + 1))) := by
  intro i h hi
  rw [List.drop_eq_getElem_cons hi, ok]
  simp [nth, List.getD_eq_getElem?_getD, List.getElem?_eq_getElem hi]

/-- An expression. -/
inductive T where
  | leaf (n : Nd)
  | un (n : Nd) (a : T)
  | bin (n : Nd) (a b : T)
def T.flat : T → List Nd
  | leaf n => [n]
  | un n a => a.flat ++ [n]
  | bin n a b => a.flat ++ b.flat ++ [n]
def T.wf : T → Prop
  | leaf n => good n = true ∧ ar n.k = 0
  | un n a => good n = true ∧ ar n.k = 1 ∧ a.wf
  | bin n a b => good n = true ∧ ar n.k = 2 ∧ a.wf ∧ b.wf
def T.root : T → Nd
  | leaf n => n
  | un n _ => n
  | bin n _ _ => n
def T.kids : T → List T
  | leaf _ => []
  | un _ a => [a]
  | bin _ a b => [a, b]
theorem T.flat_ne (x : T) : x.flat ≠ [] := by cases x <;> simp [T.flat]
theorem T.flat_pos (x : T) : 0 < x.flat.length := List.length_pos_iff.2 x.flat_ne
theorem T.flat_root (x : T) : x.flat = x.kids.flatMap T.flat ++ [x.root] := by cases x <;> simp [T.flat, T.kids, T.root]
theorem T.wf_root {x : T} (h : x.wf) : good x.root = true ∧ ar x.root.k = x.kids.length := by
  cases x with
  | leaf n => exact ⟨h.1, h.2⟩
  | un n a => exact ⟨h.1, h.2.1⟩
  | bin n a b => exact ⟨h.1, h.2.1⟩
theorem T.wf_kids {x : T} (h : x.wf) : ∀ y ∈ x.kids, y.wf := by
  cases x with
  | leaf n => intro y hy; cases hy
  | un n a => intro y hy; simp [T.kids] at hy; subst hy; exact h.2.2
  | bin n a b =>
    intro y hy
    simp [T.kids] at hy
    rcases hy with rfl | rfl
    · exact h.2.2.1
    · exact h.2.2.2
theorem T.nth_root (x : T) : nth x.flat (x.flat.length - 1) = x.root := by
  rw [T.flat_root, List.length_append]
  simp [nth, List.getD_eq_getElem?_getD]

/-- One node behind a stack of trees (its top is the list's head). -/
def push (n : Nd) (S : List T) : List T :=
  if ar n.k = 2 then (match S with | b :: a :: S => .bin n a b :: S | S => .leaf n :: S)
  else if ar n.k = 1 then (match S with | a :: S => .un n a :: S | S => .leaf n :: S)
  else .leaf n :: S
def stk (t : List Nd) : List T := t.foldl (fun S n => push n S) []
theorem stk_snoc (t : List Nd) (n : Nd) : stk (t ++ [n]) = push n (stk t) := by simp [stk]
/-- the list of a stack of trees -/
def fl (S : List T) : List Nd := S.reverse.flatMap T.flat
theorem fl_cons (x : T) (S : List T) : fl (x :: S) = fl S ++ x.flat := by simp [fl]

/-- What the three cases of a push are. -/
inductive Pushed (n : Nd) : List T → List T → Prop where
  | leaf (S : List T) (h : ar n.k = 0) : Pushed n S (.leaf n :: S)
  | un (a : T) (S : List T) (h : ar n.k = 1) : Pushed n (a :: S) (.un n a :: S)
  | bin (a b : T) (S : List T) (h : ar n.k = 2) : Pushed n (b :: a :: S) (.bin n a b :: S)
theorem Pushed.eq {n : Nd} {S S' : List T} (h : Pushed n S S') : S' = push n S := by
  cases h with
  | leaf S h => simp [push, h]
  | un a S h => simp [push, h]
  | bin a b S h => simp [push, h]
theorem pushed {n : Nd} {S : List T} (hg : good n = true) (h : ar n.k ≤ S.length) : Pushed n S (push n S) := by
  have h0 := good_ar hg
  have h2 := (ar_le n.k).2
  unfold push
  split
  · rename_i h2
    match S, h with
    | b :: a :: S, _ => exact .bin a b S h2
    | [], h => simp at h; omega
    | [a], h => simp at h; omega
  · split
    · rename_i h1
      match S, h with
      | a :: S, _ => exact .un a S h1
      | [], h => simp at h; omega
    · exact .leaf S (by omega)
theorem Pushed.wf {n : Nd} {S S' : List T} (h : Pushed n S S') (hg : good n = true) (hw : ∀ x ∈ S, x.wf) : ∀ x ∈ S', x.wf := by
  cases h with
  | leaf S h => intro x hx; rcases List.mem_cons.1 hx with rfl | hx; exact ⟨hg, h⟩; exact hw x hx
  | un a S h => intro x hx; rcases List.mem_cons.1 hx with rfl | hx; exact ⟨hg, h, hw a (by simp)⟩; exact hw x (by simp [hx])
  | bin a b S h => intro x hx; rcases List.mem_cons.1 hx with rfl | hx; exact ⟨hg, h, hw a (by simp), hw b (by simp)⟩; exact hw x (by simp [hx])
theorem Pushed.fl {n : Nd} {S S' : List T} (h : Pushed n S S') : fl S' = fl S ++ [n] := by
  cases h <;> simp [Eg.fl, T.flat]
theorem Pushed.len {n : Nd} {S S' : List T} (h : Pushed n S S') : (S'.length : Int) = S.length + (1 - ar n.k) := by
  cases h <;> rename_i h <;> simp [h] <;> omega

/-- Behind the first i nodes of t stands the stack S. -/
structure St (t : List Nd) (i : Nat) (S : List T) : Prop where
  eq : S = stk (t.take i)
  wf : ∀ x ∈ S, x.wf
  ok : Eg.ok S.length (t.drop i) = true
  flat : Eg.fl S = t.take i
theorem St.start {t : List Nd} (h : Eg.ok 0 t = true) : St t 0 [] := ⟨rfl, by simp, by simpa using h, by simp [fl]⟩
theorem St.next {t : List Nd} {i : Nat} {S : List T} (h : St t i S) (hi : i < t.length) :
    good (nth t i) = true ∧ ar (nth t i).k ≤ S.length ∧ Pushed (nth t i) S (push (nth t i) S) ∧ St t (i + 1) (push (nth t i) S) := by
  have ho := h.ok
  rw [ok_take hi] at ho
  simp only [Bool.and_eq_true, decide_eq_true_eq] at ho
  obtain ⟨⟨hg, hle⟩, hr⟩ := ho
  have hp := pushed hg hle
  have ht : t.take (i + 1) = t.take i ++ [nth t i] := by
    rw [List.take_add_one, nth_get hi]; rfl
  refine ⟨hg, hle, hp, ?_, hp.wf hg h.wf, ?_, ?_⟩
  · rw [ht, stk_snoc, ← h.eq]
  · rw [hp.len]; exact hr
  · rw [hp.fl, h.flat, ht]
theorem St.done {t : List Nd} {S : List T} (h : St t t.length S) : ∃ x, S = [x] ∧ x.wf ∧ x.flat = t := by
  have ho := h.ok
  rw [List.drop_length, Eg.ok] at ho
  have hl : S.length = 1 := by have := beq_iff_eq.1 ho; omega
  match S, hl with
  | [x], _ =>
    refine ⟨x, rfl, h.wf x (by simp), ?_⟩
    have := h.flat
    rw [List.take_length] at this
    simpa [fl] using this
theorem St.len {t : List Nd} {i : Nat} {S : List T} (h : St t i S) : S.length ≤ i := by
  have h1 : S.length ≤ (fl S).length := by
    have : ∀ S : List T, S.length ≤ (fl S).length := by
      intro S
      induction S with
      | nil => simp
      | cons x S ih => rw [fl_cons, List.length_append, List.length_cons]; have := x.flat_pos; omega
    exact this S
  rw [h.flat, List.length_take] at h1
  omega

theorem stk_flat {x : T} (hw : x.wf) : ∀ S : List T, x.flat.foldl (fun S n => push n S) S = x :: S := by
  induction x with
  | leaf n => intro S; simp [T.flat, push, hw.2]
  | un n a ih => intro S; rw [T.flat, List.foldl_append, ih hw.2.2]; simp [push, hw.2.1]
  | bin n a b iha ihb => intro S; rw [T.flat, List.foldl_append, List.foldl_append, iha hw.2.2.1, ihb hw.2.2.2]; simp [push, hw.2.1]
theorem ok_flat {x : T} (hw : x.wf) : ∀ (h : Int) (t : List Nd), 0 ≤ h → ok h (x.flat ++ t) = ok (h + 1) t := by
  induction x with
  | leaf n => intro h t h0; simp only [T.flat, List.singleton_append, ok, hw.1, hw.2]; simp [h0]
  | un n a ih =>
    intro h t h0
    simp only [T.flat, List.append_assoc, List.singleton_append]
    rw [ih hw.2.2 h _ h0, ok, hw.1, hw.2.1]
    have : (1 : Int) ≤ h + 1 := by omega
    simp [this]
  | bin n a b iha ihb =>
    intro h t h0
    simp only [T.flat, List.append_assoc, List.singleton_append]
    rw [iha hw.2.2.1 h _ h0, ihb hw.2.2.2 _ _ (by omega), ok, hw.1, hw.2.1]
    have : (2 : Int) ≤ h + 1 + 1 := by omega
    simp only [this, decide_true, Bool.and_true, Bool.true_and]
    congr 1
    omega
theorem ok_tree {x : T} (hw : x.wf) : ok 0 x.flat = true := by
  have := ok_flat hw 0 [] (by omega)
  rw [List.append_nil] at this
  rw [this]
  rfl
/-- A list that is no tree's has an error. -/
theorem ok_iff (t : List Nd) : ok 0 t = true ↔ ∃ x : T, x.wf ∧ x.flat = t := by
  constructor
  · intro h
    have key : ∀ i, i ≤ t.length → ∃ S, St t i S := by
      intro i
      induction i with
      | zero => intro _; exact ⟨[], St.start h⟩
      | succ i ih => intro hi; obtain ⟨S, hS⟩ := ih (by omega); exact ⟨_, (hS.next (by omega)).2.2.2⟩
    obtain ⟨S, hS⟩ := key t.length (Nat.le_refl _)
    obtain ⟨x, _, hw, hf⟩ := hS.done
    exact ⟨x, hw, hf⟩
  · rintro ⟨x, hw, rfl⟩; exact ok_tree hw
theorem flat_inj {x y : T} (hx : x.wf) (hy : y.wf) (h : x.flat = y.flat) : x = y := by
  have h1 := stk_flat hx []
  have h2 := stk_flat hy []
  rw [h, h2] at h1
  exact (List.cons.inj h1).1.symm
/-- the tree of a list -/
def tr (t : List Nd) : T := (stk t).headD (.leaf ⟨1, 0⟩)
theorem tr_flat {x : T} (hw : x.wf) : tr x.flat = x := by
  have h1 := stk_flat hw []
  unfold tr stk
  rw [h1]; rfl
theorem tr_of {t : List Nd} (h : ok 0 t = true) : (tr t).wf ∧ (tr t).flat = t := by
  obtain ⟨x, hw, rfl⟩ := (ok_iff t).1 h
  rw [tr_flat hw]
  exact ⟨hw, rfl⟩
theorem errW_flat {x : T} (hw : x.wf) (hl : x.flat.length ≤ 4000) : errW x.flat = 0 := by
  unfold errW
  rw [if_neg (by omega), ok_tree hw]; rfl

/-- how deep, where some kinds count -/
def T.dep (c : Int → Bool) : T → Int
  | leaf n => if c n.k then 1 else 0
  | un n a => a.dep c + if c n.k then 1 else 0
  | bin n a b => max (a.dep c) (b.dep c) + if c n.k then 1 else 0
theorem T.dep_bd (c : Int → Bool) (x : T) : 0 ≤ x.dep c ∧ x.dep c ≤ x.flat.length := by
  induction x with
  | leaf n => simp only [T.dep, T.flat, List.length_singleton]; split <;> omega
  | un n a ih => simp only [T.dep, T.flat, List.length_append, List.length_singleton]; split <;> omega
  | bin n a b iha ihb => simp only [T.dep, T.flat, List.length_append, List.length_singleton]; split <;> omega
def everyK (_ : Int) : Bool := true
def starK (k : Int) : Bool := k == 8

/-- From a place on back to where its tree begins: Ys: the trees that are still wanted. -/
structure Bk (t pre : List Nd) (at_ : Nat) (Ys : List T) : Prop where
  ne : Ys ≠ []
  wf : ∀ y ∈ Ys, y.wf
  flat : t.take (at_ + 1) = pre ++ Ys.flatMap T.flat
  lt : at_ < t.length
theorem Bk.next {t pre : List Nd} {at_ : Nat} {Ys : List T} (h : Bk t pre at_ Ys) :
    0 ≤ ar (nth t at_).k ∧ ((Ys.length : Int) + (ar (nth t at_).k - 1) = 0 ∧ at_ = pre.length ∨
      (Ys.length : Int) + (ar (nth t at_).k - 1) ≠ 0 ∧ 0 < at_ ∧ ∃ Zs, Bk t pre (at_ - 1) Zs ∧ (Zs.length : Int) = Ys.length + (ar (nth t at_).k - 1)) := by
  obtain ⟨Xs, y, rfl⟩ : ∃ Xs y, Ys = Xs ++ [y] := ⟨Ys.dropLast, Ys.getLast h.ne, (List.dropLast_concat_getLast h.ne).symm⟩
  have hy := h.wf y (by simp)
  have hf := h.flat
  rw [List.flatMap_append, List.flatMap_cons, List.flatMap_nil, List.append_nil, T.flat_root y, ← List.append_assoc, ← List.append_assoc] at hf
  have hn : nth t at_ = y.root := by
    have h1 := nth_get h.lt
    have h2 : (t.take (at_ + 1))[at_]? = t[at_]? := by rw [List.getElem?_take]; simp
    rw [hf] at h2
    have hl : (pre ++ Xs.flatMap T.flat ++ y.kids.flatMap T.flat).length = at_ := by
      have := congrArg List.length hf
      rw [List.length_take, List.length_append, List.length_singleton] at this
      have := h.lt
      omega
    rw [List.getElem?_append_right (by omega), hl, Nat.sub_self, List.getElem?_cons_zero] at h2
    rw [← h2] at h1
    exact (Option.some.inj h1).symm
  have har := (T.wf_root hy).2
  rw [hn, har]
  have hf' : t.take at_ = pre ++ (Xs ++ y.kids).flatMap T.flat := by
    have h1 : t.take at_ = (t.take (at_ + 1)).take at_ := by rw [List.take_take, Nat.min_eq_left (by omega)]
    have hl : (pre ++ Xs.flatMap T.flat ++ y.kids.flatMap T.flat).length = at_ := by
      have := congrArg List.length hf
      rw [List.length_take, List.length_append, List.length_singleton] at this
      have := h.lt
      omega
    rw [h1, hf, List.take_left' hl, List.flatMap_append, List.append_assoc]
  refine ⟨by omega, ?_⟩
  by_cases hz : Xs ++ y.kids = []
  · left
    rw [hz] at hf'
    have h1 : Xs = [] := (List.append_eq_nil_iff.1 hz).1
    have h2 : y.kids = [] := (List.append_eq_nil_iff.1 hz).2
    refine ⟨by simp [h1, h2], ?_⟩
    have := congrArg List.length hf'
    rw [List.length_take, List.flatMap_nil, List.append_nil] at this
    have := h.lt
    omega
  · right
    have hpos : 0 < (Xs ++ y.kids).length := List.length_pos_iff.2 hz
    have hlen : ((Xs ++ y.kids).length : Int) = (Xs ++ [y]).length + ((y.kids.length : Int) - 1) := by simp; omega
    have hat : 0 < at_ := by
      rcases Nat.eq_zero_or_pos at_ with h0 | h0
      · rw [h0, List.take_zero] at hf'
        have h3 := (List.append_eq_nil_iff.1 hf'.symm).2
        obtain ⟨z, zs, e⟩ := List.exists_cons_of_ne_nil hz
        rw [e, List.flatMap_cons] at h3
        exact absurd (List.append_eq_nil_iff.1 h3).1 z.flat_ne
      · exact h0
    refine ⟨by omega, hat, _, ⟨hz, fun z hz => ?_, by rw [Nat.sub_add_cancel hat]; exact hf', by have := h.lt; omega⟩, hlen⟩
    rcases List.mem_append.1 hz with hz | hz
    · exact h.wf z (by simp [hz])
    · exact T.wf_kids hy z hz
theorem flats_len (S : List T) : S.length ≤ (S.flatMap T.flat).length := by
  induction S with
  | nil => simp
  | cons x S ih => rw [List.flatMap_cons, List.length_append, List.length_cons]; have := x.flat_pos; omega
theorem Bk.len {t pre : List Nd} {at_ : Nat} {Ys : List T} (h : Bk t pre at_ Ys) : Ys.length ≤ t.length := by
  have h1 := congrArg List.length h.flat
  rw [List.length_take, List.length_append] at h1
  have := flats_len Ys
  omega
theorem Bk.start {pre post : List Nd} {x : T} (hw : x.wf) : Bk (pre ++ x.flat ++ post) pre (pre.length + x.flat.length - 1) [x] := by
  have := x.flat_pos
  refine ⟨by simp, by simpa using hw, ?_, by simp; omega⟩
  rw [Nat.sub_add_cancel (by omega), List.take_left' (by simp)]
  simp

/-- A stack of trees, as a slice holds it: its top is at the end. -/
def sv {β : Type} (f : T → β) (S : List T) : List β := (S.map f).reverse
theorem sv_len {β : Type} (f : T → β) (S : List T) : (sv f S).length = S.length := by simp [sv]
theorem sv_push {β : Type} (f : T → β) (x : T) (S : List T) : sv f (x :: S) = sv f S ++ [f x] := by simp [sv]
theorem sv_pop {β : Type} (f : T → β) (x : T) (S : List T) : (sv f (x :: S)).take S.length = sv f S := by
  rw [sv_push, List.take_left' (sv_len f S)]
theorem sv_top {β : Type} (f : T → β) (x : T) (S : List T) : (sv f (x :: S))[S.length]? = some (f x) := by
  rw [sv_push, List.getElem?_append_right (by rw [sv_len]; exact Nat.le_refl _), sv_len, Nat.sub_self]; rfl
/-- the greatest of the first j, and 0 -/
def maxd (f : T → Int) : Nat → List T → Int
  | j + 1, x :: S => max (f x) (maxd f j S)
  | _, _ => 0
theorem maxd_zero (f : T → Int) (S : List T) : maxd f 0 S = 0 := by cases S <;> rfl
theorem maxd_bd (f : T → Int) (B : Int) (hB : 0 ≤ B) : ∀ (j : Nat) (S : List T), (∀ x ∈ S, f x ≤ B) → 0 ≤ maxd f j S ∧ maxd f j S ≤ B
  | 0, S, _ => by cases S <;> simp [maxd, hB]
  | j + 1, [], _ => by simp [maxd, hB]
  | j + 1, x :: S, h => by
    have := maxd_bd f B hB j S (fun y hy => h y (by simp [hy]))
    have := h x (by simp)
    simp only [maxd]
    omega
theorem maxd_succ (f : T → Int) (x : T) : ∀ (j : Nat) (S : List T), (∀ y ∈ S, 0 ≤ f y) → S[j]? = some x → maxd f (j + 1) S = max (maxd f j S) (f x)
  | 0, y :: S, h, hx => by
    simp at hx; subst hx
    have := h y (by simp)
    have h0 : maxd f 0 S = 0 := by cases S <;> rfl
    show max (f y) (maxd f 0 S) = max 0 (f y)
    rw [h0]
    omega
  | j + 1, y :: S, h, hx => by
    have ih := maxd_succ f x j S (fun z hz => h z (by simp [hz])) (by simpa using hx)
    show max (f y) (maxd f (j + 1) S) = max (max (f y) (maxd f j S)) (f x)
    rw [ih]
    omega
theorem dep_push (c : Int → Bool) {n : Nd} {S S' : List T} (h : Pushed n S S') : ∃ x R, S' = x :: R ∧ R = S.drop (ar n.k).toNat ∧ x.dep c = maxd (T.dep c) (ar n.k).toNat S + if c n.k then 1 else 0 := by
  cases h with
  | leaf S h => exact ⟨_, _, rfl, by simp [h], by cases S <;> simp [h, maxd, T.dep]⟩
  | un a S h =>
    refine ⟨_, _, rfl, by simp [h], ?_⟩
    have := (T.dep_bd c a).1
    rw [h]
    show a.dep c + _ = max (a.dep c) (maxd (T.dep c) 0 S) + _
    rw [maxd_zero]
    omega
  | bin a b S h =>
    refine ⟨_, _, rfl, by simp [h], ?_⟩
    have := (T.dep_bd c a).1
    have := (T.dep_bd c b).1
    rw [h]
    show max (a.dep c) (b.dep c) + _ = max (b.dep c) (max (a.dep c) (maxd (T.dep c) 0 S)) + _
    rw [maxd_zero]
    omega

theorem ok_good : ∀ {t : List Nd} {h : Int}, ok h t = true → ∀ n ∈ t, good n = true
  | n :: t, h, ho, m, hm => by
    rw [ok] at ho
    simp only [Bool.and_eq_true] at ho
    rcases List.mem_cons.1 hm with rfl | hm
    · exact ho.1.1
    · exact ok_good ho.2 m hm
theorem nth_mem {t : List Nd} {i : Nat} (h : i < t.length) : nth t i ∈ t := List.mem_of_getElem? (nth_get h)
theorem good_letter {n : Nd} (h : good n = true) (h3 : n.k = 3) : 97 ≤ n.s ∧ n.s ≤ 104 := by
  unfold good at h
  rw [if_pos h3] at h
  exact of_decide_eq_true h
/-- how deep; 0 beside an error -/
def depF (c : Int → Bool) (t : List Nd) : Int := if errW t = 0 then (tr t).dep c else 0
/-- is it a letter from the k-th on? -/
def far (k : Int) (n : Nd) : Bool := n.k == 3 && decide (k ≤ n.s - 97)
def chkF (k : Int) (t : List Nd) : Int :=
  if k < 1 ∨ 8 < k then 20 else if errW t ≠ 0 then errW t else if 128 < (tr t).dep everyK then 31 else if t.any (far k) then 21 else 0
/-- -1, 0 or 1 -/
def ordF (x y : Int) : Int := if x < y then -1 else if y < x then 1 else 0
def cmpN (n m : Nd) : Int := if ordF n.k m.k ≠ 0 then ordF n.k m.k else ordF n.s m.s
def cmpL : List Nd → List Nd → Int
  | n :: a, m :: b => if cmpN n m ≠ 0 then cmpN n m else cmpL a b
  | _, _ => 0
def cmpF (a b : List Nd) : Int := if ordF a.length b.length ≠ 0 then ordF a.length b.length else cmpL a b
theorem cmpL_drop {a b : List Nd} {i : Nat} (ha : i < a.length) (hb : i < b.length) : cmpL (a.drop i) (b.drop i) = if cmpN (nth a i) (nth b i) ≠ 0 then cmpN (nth a i) (nth b i) else cmpL (a.drop (i + 1)) (b.drop (i + 1)) := by
  rw [List.drop_eq_getElem_cons ha, List.drop_eq_getElem_cons hb, cmpL]
  simp [nth, List.getD_eq_getElem?_getD, List.getElem?_eq_getElem ha, List.getElem?_eq_getElem hb]
theorem any_take {t : List Nd} {p : Nd → Bool} {i : Nat} (hi : i < t.length) : (t.take (i + 1)).any p = ((t.take i).any p || p (nth t i)) := by
  rw [List.take_add_one, nth_get hi]; simp
theorem any_of_take {t : List Nd} {p : Nd → Bool} {i : Nat} (h : (t.take i).any p = true) : t.any p = true := by
  rw [List.any_eq_true] at *
  obtain ⟨x, hx, hp⟩ := h
  exact ⟨x, List.mem_of_mem_take hx, hp⟩

def firstErr : List (List Nd) → Int
  | [] => 0
  | t :: ts => if errW t ≠ 0 then errW t else firstErr ts
/-- the error of a tree joined of parts -/
def joinE (n : Nd) (ps : List (List Nd)) : Int :=
  if good n = false then 30 else if (ps.length : Int) ≠ ar n.k then 1 else if firstErr ps ≠ 0 then firstErr ps else if 4000 ≤ ps.flatten.length then 6 else 0
def joinL (n : Nd) (ps : List (List Nd)) : List Nd := if joinE n ps = 0 then ps.flatten ++ [n] else []
theorem good_byte {n : Nd} (h : good n = true) : 0 ≤ n.s ∧ n.s ≤ 255 := by
  unfold good at h
  split at h
  · have := of_decide_eq_true h; omega
  · have := of_decide_eq_true h; omega
theorem firstErr_drop {ps : List (List Nd)} {i : Nat} {x : List Nd} (hx : ps[i]? = some x) : firstErr (ps.drop i) = if errW x ≠ 0 then errW x else firstErr (ps.drop (i + 1)) := by
  obtain ⟨hi, hv⟩ := List.getElem?_eq_some_iff.1 hx
  rw [List.drop_eq_getElem_cons hi, firstErr, hv]
theorem flatten_take {ps : List (List Nd)} {i : Nat} {x : List Nd} (hx : ps[i]? = some x) : (ps.take (i + 1)).flatten = (ps.take i).flatten ++ x := by
  rw [List.take_add_one, hx]; simp

/-- its concatenations changed about -/
def T.rev : T → T
  | leaf n => leaf n
  | un n a => un n a.rev
  | bin n a b => if n.k = 7 then bin n b.rev a.rev else bin n a.rev b.rev
theorem T.rev_len (x : T) : x.rev.flat.length = x.flat.length := by
  induction x with
  | leaf n => rfl
  | un n a ih => simp [T.rev, T.flat, ih]
  | bin n a b iha ihb => unfold T.rev; split <;> simp [T.flat, iha, ihb] <;> omega
theorem T.rev_wf {x : T} (h : x.wf) : x.rev.wf := by
  induction x with
  | leaf n => exact h
  | un n a ih => exact ⟨h.1, h.2.1, ih h.2.2⟩
  | bin n a b iha ihb =>
    unfold T.rev
    split
    · exact ⟨h.1, h.2.1, ihb h.2.2.2, iha h.2.2.1⟩
    · exact ⟨h.1, h.2.1, iha h.2.2.1, ihb h.2.2.2⟩
theorem T.rev_rev (x : T) : x.rev.rev = x := by
  induction x with
  | leaf n => rfl
  | un n a ih => simp [T.rev, ih]
  | bin n a b iha ihb => by_cases h : n.k = 7 <;> simp [T.rev, h, iha, ihb]
theorem T.rev_dep (c : Int → Bool) (x : T) : x.rev.dep c = x.dep c := by
  induction x with
  | leaf n => rfl
  | un n a ih => simp [T.rev, T.dep, ih]
  | bin n a b iha ihb => by_cases h : n.k = 7 <;> simp [T.rev, h, T.dep, iha, ihb] <;> omega
def revF (t : List Nd) : List Nd := if errW t = 0 then (tr t).rev.flat else []
/-- the parts of a node that comes, in the order in which Reverse takes them -/
def kidsR (n : Nd) (S : List T) : List T := if n.k = 7 then S.take (ar n.k).toNat else (S.take (ar n.k).toNat).reverse
def revs (l : List T) : List Nd := (l.map fun x => x.rev.flat).flatten
theorem rev_push {n : Nd} {S S' : List T} (h : Pushed n S S') : ∃ X R, S' = X :: R ∧ R = S.drop (ar n.k).toNat ∧ (kidsR n S).length = (ar n.k).toNat ∧ X.rev.flat = revs (kidsR n S) ++ [n] := by
  cases h with
  | leaf S h =>
    have h7 : n.k ≠ 7 := by intro h7; rw [h7] at h; exact absurd h (by decide)
    exact ⟨_, _, rfl, by simp [h], by simp [kidsR, h], by simp [kidsR, h, revs, T.rev, T.flat]⟩
  | un a S h =>
    have h7 : n.k ≠ 7 := by intro h7; rw [h7] at h; exact absurd h (by decide)
    exact ⟨_, _, rfl, by simp [h], by simp [kidsR, h, h7], by simp [kidsR, h, h7, revs, T.rev, T.flat]⟩
  | bin a b S h =>
    have hm : (ar n.k).toNat = 2 := by rw [h]; rfl
    unfold kidsR
    rw [hm]
    by_cases h7 : n.k = 7
    · rw [if_pos h7]
      exact ⟨_, _, rfl, rfl, rfl, by simp [h7, revs, T.rev, T.flat]⟩
    · rw [if_neg h7]
      exact ⟨_, _, rfl, rfl, rfl, by simp [h7, revs, T.rev, T.flat]⟩
theorem sv_at {β : Type} (f : T → β) (S : List T) {d : Nat} {x : T} (h : S[d]? = some x) : (sv f S)[S.length - 1 - d]? = some (f x) := by
  have hd := (List.getElem?_eq_some_iff.1 h).1
  unfold sv
  rw [List.getElem?_reverse (by rw [List.length_map]; omega), List.length_map, show S.length - 1 - (S.length - 1 - d) = d by omega, List.getElem?_map, h]
  rfl
theorem kidsR_at {n : Nd} {S : List T} {m j : Nat} (hm : (ar n.k).toNat = m) (hS : m ≤ S.length) (hj : j < m) {β : Type} (f : T → β) :
    ∃ x, (kidsR n S)[j]? = some x ∧ (sv f S)[if n.k = 7 then S.length - 1 - j else S.length - m + j]? = some (f x) := by
  unfold kidsR
  split
  · obtain ⟨x, hx⟩ : ∃ x, S[j]? = some x := ⟨_, List.getElem?_eq_getElem (by omega)⟩
    exact ⟨x, by rw [List.getElem?_take, if_pos (by omega)]; exact hx, sv_at f S hx⟩
  · obtain ⟨x, hx⟩ : ∃ x, S[m - 1 - j]? = some x := ⟨_, List.getElem?_eq_getElem (by omega)⟩
    have hl : (S.take (ar n.k).toNat).length = m := by rw [List.length_take, hm]; omega
    refine ⟨x, ?_, ?_⟩
    · rw [List.getElem?_reverse (by omega), hl, List.getElem?_take, if_pos (by omega)]
      exact hx
    · have := sv_at f S hx
      rwa [show S.length - 1 - (m - 1 - j) = S.length - m + j by omega] at this
theorem revs_succ {l : List T} {j : Nat} {x : T} (h : l[j]? = some x) : revs (l.take (j + 1)) = revs (l.take j) ++ x.rev.flat := by
  unfold revs
  rw [List.take_add_one, h]; simp
theorem revs_le (l : List T) (j : Nat) : (revs (l.take j)).length ≤ (revs l).length := by
  have : revs l = revs (l.take j) ++ revs (l.drop j) := by
    unfold revs
    rw [← List.flatten_append, ← List.map_append, List.take_append_drop]
  rw [this, List.length_append]; omega
theorem St.sub {t : List Nd} {i : Nat} {S : List T} (h : St t i S) : ∀ x ∈ S, x.flat.length ≤ i := by
  intro x hx
  have h2 : x.flat.length ≤ (fl S).length := by
    obtain ⟨s1, s2, rfl⟩ := List.append_of_mem hx
    simp [fl]; omega
  rw [h.flat, List.length_take] at h2
  omega

/-- is it a letter from a to h? -/
def isAH (c : Int) : Bool := decide (97 ≤ c) && decide (c ≤ 104)
def allAH (f : Nat → Int) (n : Nat) : Bool := (List.range n).all fun i => isAH (f i)
theorem allAH_succ (f : Nat → Int) (n : Nat) : allAH f (n + 1) = (allAH f n && isAH (f n)) := by simp [allAH, List.range_succ]
theorem allAH_of {f : Nat → Int} {n : Nat} (h : allAH f n = true) {i : Nat} (hi : i < n) : isAH (f i) = true := by
  unfold allAH at h
  rw [List.all_eq_true] at h
  exact h i (List.mem_range.2 hi)
theorem allAH_not {f : Nat → Int} {n i : Nat} (hi : i < n) (h : isAH (f i) = false) : allAH f n = false := by
  cases hh : allAH f n with
  | false => rfl
  | true => rw [allAH_of hh hi] at h; cases h
/-- the error of a renaming; f: the bytes, n: how many -/
def renE (t : List Nd) (f : Nat → Int) (n : Nat) : Int := if errW t ≠ 0 then errW t else if n ≠ 8 then 1 else if allAH f n then 0 else 21
def renN (f : Nat → Int) (n : Nd) : Nd := if n.k = 3 then ⟨3, f (n.s - 97).toNat⟩ else n
def renL (t : List Nd) (f : Nat → Int) (n : Nat) : List Nd := if renE t f n = 0 then t.map (renN f) else []
theorem ren_set {t : List Nd} (f : Nat → Int) {i : Nat} (hi : i < t.length) : ((t.take i).map (renN f) ++ t.drop i).set i (renN f (nth t i)) = (t.take (i + 1)).map (renN f) ++ t.drop (i + 1) := by
  rw [List.drop_eq_getElem_cons hi, List.set_append_right _ _ (by simp; omega)]
  have hl : i - ((t.take i).map (renN f)).length = 0 := by simp; omega
  rw [hl, List.set_cons_zero, List.take_add_one, nth_get hi]
  simp
theorem ren_keep {t : List Nd} (f : Nat → Int) {i : Nat} (hi : i < t.length) (h : renN f (nth t i) = nth t i) : (t.take (i + 1)).map (renN f) ++ t.drop (i + 1) = (t.take i).map (renN f) ++ t.drop i := by
  rw [← ren_set f hi, h]
  apply List.ext_getElem?
  intro j
  rw [List.getElem?_set]
  split
  · rename_i hj
    subst hj
    rw [if_pos (by simp; omega), List.getElem?_append_right (by simp; omega)]
    have hl : i - ((t.take i).map (renN f)).length = 0 := by simp; omega
    rw [hl, List.getElem?_drop, Nat.add_zero, nth_get hi]
  · rfl
theorem ren_at {t : List Nd} (f : Nat → Int) {i : Nat} (hi : i < t.length) : ((t.take i).map (renN f) ++ t.drop i)[i]? = some (nth t i) := by
  rw [List.getElem?_append_right (by simp; omega)]
  have hl : i - ((t.take i).map (renN f)).length = 0 := by simp; omega
  rw [hl, List.getElem?_drop, Nat.add_zero, nth_get hi]
end Go.Eg
namespace Go.Proofs.YtdeppnamhdbbhaaDoor
open Go.RowKit Go.Eg

def tyNd : Ty Nd := .flatP 2 (fun n => [.int .i64 n.k, .int .u8 n.s]) (fun n => 0 ≤ n.s ∧ n.s ≤ 255) (fun _ => rfl) (by simp [Value.oneCell'])
theorem rd_node {w : World} {t : List Nd} {A : Option Addr} {n c : Nat} (h : Rd tyNd w t (.slice A n c)) {i : Nat} (hi : i < t.length) :
    ∃ b off, A = some ⟨b, off, none⟩ ∧ b < w.heap.size ∧ w.cell? ⟨b, off + i * 2, none⟩ = some (.int .i64 (nth t i).k) ∧ w.cell? ⟨b, off + i * 2 + 1, none⟩ = some (.int .u8 (nth t i).s) := by
  obtain ⟨b, off, cs, e, hb, ⟨rfl, _⟩, ha⟩ := h.at (nth_get hi)
  exact ⟨b, off, e, hb, ha 0 _ rfl, ha 1 _ rfl⟩

theorem rd_byte {w : World} {t : List Nd} {v : Value} (h : Rd tyNd w t v) {i : Nat} (hi : i < t.length) : 0 ≤ (nth t i).s ∧ (nth t i).s ≤ 255 := by
  obtain ⟨A, c, rfl, _⟩ := h.shape
  obtain ⟨b, off, cs, e, hb, ⟨rfl, h⟩, ha⟩ := h.at (nth_get hi)
  exact h
theorem ar_tab (k : Int) (h0 : 0 ≤ k) (h1 : k < 10) (h : k.toNat < 10) : ([.int .i64 (-1), .int .i64 0, .int .i64 0, .int .i64 0, .int .i64 0, .int .i64 2, .int .i64 2, .int .i64 2, .int .i64 1, .int .i64 1] : List Value)[k.toNat]'h = .int .i64 (ar k) := by
  obtain ⟨n, rfl⟩ := Int.eq_ofNat_of_zero_le h0
  simp only [Int.toNat_natCast]
  have : n < 10 := by omega
  match n, this with
  | 0, _ | 1, _ | 2, _ | 3, _ | 4, _ | 5, _ | 6, _ | 7, _ | 8, _ | 9, _ => rfl

set_option maxHeartbeats 400000 in
theorem parts_calls (k : Int) (w : World) : Calls Tryd.prog 57 #[.int .i64 k] w fun e w' => e = .returned (.int .i64 (ar k)) ∧ Ext w w' := by
  go_enter Tryd.func57, Tryd.ntmps57
  go_wp2
  · go_ret
    exact ⟨ret_int (by unfold ar; (repeat' split) <;> omega), (Ext.refl _).alloc _⟩
  · rw [ar_tab k (by omega) (by omega)]
    go_ret
    exact ⟨rfl, (Ext.refl _).alloc _⟩
  · go_ret
    exact ⟨ret_int (by unfold ar; (repeat' split) <;> omega), (Ext.refl _).alloc _⟩

set_option maxHeartbeats 400000 in
theorem good_calls (n : Nd) (w : World) : Calls Tryd.prog 56 #[.agg #[.int .i64 n.k, .int .u8 n.s]] w fun e w' => e = .returned (.bool (good n)) ∧ Ext w w' := by
  obtain ⟨k, s⟩ := n
  unfold good
  dsimp only
  by_cases h3 : k = 3
  · have h3' : (k == 3) = true := by simp [h3]
    rw [if_pos h3]
    go_enter Tryd.func56, Tryd.ntmps56
    go_wp2_with fail
    all_goals go_ret
    · exact ⟨ret_bool (by simp [*]), (Ext.refl _).alloc _⟩
    · exact ⟨ret_bool (by simp; omega), (Ext.refl _).alloc _⟩
  · have h3' : (k == 3) = false := by simp [h3]
    rw [if_neg h3]
    go_enter Tryd.func56, Tryd.ntmps56
    go_wp2_with (go_at_call 57; refine (parts_calls _ _).mono ?_; rintro e w' ⟨rfl, hb⟩)
    all_goals go_ret
    · exact ⟨ret_bool (by simp [*]), ((Ext.refl _).alloc _).trans hb⟩
    · exact ⟨ret_bool (by simp [*]), (Ext.refl _).alloc _⟩

set_option maxHeartbeats 400000 in
theorem wrong_calls (t : List Nd) (v : Value) (w : World) (hr : Rd tyNd w t v) : Calls Tryd.prog 41 #[v] w fun e w' => e = .returned (.int .i64 (errW t)) ∧ Ext w w' := by
  obtain ⟨A, c, rfl, hlc, hcm⟩ := hr.shape
  unfold maxLen at hcm
  by_cases hbig : 4000 < t.length
  · have hb' : decide (4000 < (t.length : Int)) = true := by simp; omega
    go_enter Tryd.func41, Tryd.ntmps41
    go_wp2_with fail
    go_ret
    exact ⟨ret_int (by rw [errW, if_pos hbig]), Ext.refl _⟩
  · have hb' : decide (4000 < (t.length : Int)) = false := by simp; omega
    have HE : Hid (errW t = if ok 0 t then 0 else 30) := if_neg hbig
    go_enter Tryd.func41, Tryd.ntmps41
    go_wp2_with fail
    go_loopw [3, 11] (fun v3 v11 wr => ∃ (i : Nat) (h : Int), v3 = .int .i64 h ∧ v11 = .int .i64 i ∧ i ≤ t.length ∧ -4001 ≤ h - i ∧ h ≤ 2 * i ∧ Hid (ok h (t.drop i) = ok 0 t) ∧ Ext w wr) (fun _ v11 _ => t.length - (intOf v11).toNat)
    case atStart => exact ⟨0, 0, rfl, rfl, by omega, by omega, by omega, rfl, Ext.refl _⟩
    case round =>
      obtain ⟨i, h, rfl, rfl, hi, hh1, hh2, HO, he⟩ := hrel
      by_cases hlt : i < t.length
      · obtain ⟨b, off, rfl, hb, hc0, hc1⟩ := rd_node (hr.ext he) hlt
        have HT := Lib.hid (ok_take (h := h) hlt)
        have har := ar_le (nth t i).k
        clear hr
        generalize nth t i = n at *
        have arm : True := trivial
        by_cases hg : good n = true
        · by_cases hle : ar n.k ≤ h
          · have hle' : decide (h < ar n.k) = false := by simp; omega
            go_wp2_with (first | ((go_at_call 56; (with_reducible refine (good_calls n _).mono ?_); rintro e w1 ⟨rfl, h1⟩); have h1c := h1.cells; have h1z : wr.heap.size < w1.heap.size := Nat.lt_of_lt_of_le (by simp) h1.le) | ((go_at_call 57; (with_reducible refine (parts_calls _ _).mono ?_); rintro e w2 ⟨rfl, h2⟩); have h2c := h2.cells; have h2z : wr.heap.size < w2.heap.size := Nat.lt_of_lt_of_le (by assumption) h2.le))
            go_roundw
            case rel => exact ⟨i + 1, _, rfl, by go_num, by omega, by omega, by omega, (by have := HT.out; simp only [hg, hle, decide_true, Bool.true_and] at this; exact this.symm.trans HO.out), by (repeat (first | assumption | exact Ext.refl _ | apply Ext.alloc | apply Ext.drew | apply Ext.drewN | refine Ext.trans ?_ (by assumption)))⟩
            case measure => simp [intOf]; omega
          · have hle' : decide (h < ar n.k) = true := by simp; omega
            have hf : ok 0 t = false := by rw [← HO.out, HT.out]; simp [hle]
            have HE' := Lib.hid (HE.out.trans (by rw [hf]; rfl : _ = (30 : Int)))
            clear hf
            go_wp2_with (first | ((go_at_call 56; (with_reducible refine (good_calls n _).mono ?_); rintro e w1 ⟨rfl, h1⟩); have h1c := h1.cells; have h1z : wr.heap.size < w1.heap.size := Nat.lt_of_lt_of_le (by simp) h1.le) | ((go_at_call 57; (with_reducible refine (parts_calls _ _).mono ?_); rintro e w2 ⟨rfl, h2⟩); have h2c := h2.cells; have h2z : wr.heap.size < w2.heap.size := Nat.lt_of_lt_of_le (by assumption) h2.le))
            go_ret
            exact ⟨ret_int HE'.out.symm, by (repeat (first | assumption | exact Ext.refl _ | apply Ext.alloc | apply Ext.drew | apply Ext.drewN | refine Ext.trans ?_ (by assumption)))⟩
        · have hf : ok 0 t = false := by rw [← HO.out, HT.out]; simp [hg]
          have hg' : good n = false := by simpa using hg
          have HE' := Lib.hid (HE.out.trans (by rw [hf]; rfl : _ = (30 : Int)))
          clear hf
          go_wp2_with (first | ((go_at_call 56; (with_reducible refine (good_calls n _).mono ?_); rintro e w1 ⟨rfl, h1⟩); have h1c := h1.cells))
          go_ret
          exact ⟨ret_int HE'.out.symm, by (repeat (first | assumption | exact Ext.refl _ | apply Ext.alloc | apply Ext.drew | apply Ext.drewN | refine Ext.trans ?_ (by assumption)))⟩
      · have hi' : i = t.length := by omega
        subst hi'
        have HF : Hid (ok 0 t = (h == 1)) := by show _ = _; rw [← HO.out, List.drop_length, ok]
        by_cases h1 : h = 1
        · have h1' : (h != 1) = false := by simp [h1]
          go_wp2_with fail
          go_ret
          exact ⟨ret_int (by rw [HE.out, HF.out]; simp [h1]), by (repeat (first | assumption | exact Ext.refl _ | apply Ext.alloc | apply Ext.drew | apply Ext.drewN | refine Ext.trans ?_ (by assumption)))⟩
        · have h1' : (h != 1) = true := by simp [h1]
          go_wp2_with fail
          go_ret
          exact ⟨ret_int (by rw [HE.out, HF.out]; simp [h1]), by (repeat (first | assumption | exact Ext.refl _ | apply Ext.alloc | apply Ext.drew | apply Ext.drewN | refine Ext.trans ?_ (by assumption)))⟩
end Go.Proofs.YtdeppnamhdbbhaaDoor
namespace Go.Proofs.YtdeppnamhdbbhaaDoor
open Go.RowKit Go.Eg

theorem elNd : Elem Tryd.prog 22 27 2 16 := Elem.mk (z := .agg #[.int .i64 0, .int .u8 0]) Tryd.underlying22 (by kernel_rfl) rfl (by decide)

end Go.Proofs.YtdeppnamhdbbhaaDoor
namespace Go.Proofs.YtdeppnamhdbbhaaDoor
open Go.RowKit Go.Eg

theorem elInt : Elem Tryd.prog 86 3 1 8 := Elem.mk (z := .int .i64 0) Tryd.underlying86 (by kernel_rfl) rfl (by decide)

set_option maxHeartbeats 400000 in
theorem every_calls (k : Int) (w : World) : Calls Tryd.prog 43 #[.int .i64 k] w fun e w' => e = .returned (.bool (everyK k)) ∧ Ext w w' := by
  go_enter Tryd.func43, Tryd.ntmps43
  go_wp2
  go_ret
  exact ⟨rfl, Ext.refl _⟩
set_option maxHeartbeats 1000000 in
theorem deep_every (x : T) (hx : x.wf) (t : List Nd) (ht : t = x.flat) (hlen : t.length ≤ 4000) (v : Value) (w : World) (hr : Rd tyNd w t v) :
    Calls Tryd.prog 42 #[v, .func (.func 43) #[] #[]] w fun e w' => e = .returned (.int .i64 (x.dep everyK)) ∧ Ext w w' := by
  obtain ⟨A, c, rfl, hlc, hcm⟩ := hr.shape
  unfold maxLen at hcm
  have HO : Hid (ok 0 t = true) := by show _ = _; rw [ht]; exact ok_tree hx
  have HT := Lib.hid ht
  clear ht
  go_enter Tryd.func42, Tryd.ntmps42
  go_wp2_with fail
  go_loopw [5, 11] (fun v5 v11 wr => ∃ (i : Nat) (S : List T), v11 = .int .i64 i ∧ i ≤ t.length ∧ St t i S ∧ Own (Ty.int .i64) 3 w.heap.size No wr (sv (T.dep everyK) S) v5 ∧ Ext w wr) (fun _ v11 _ => t.length - (intOf v11).toNat)
  case atStart => exact ⟨0, [], rfl, by omega, St.start HO.out, Own.nil _ _ _ _ _, Ext.refl _⟩
  case round =>
    obtain ⟨i, S, rfl, hi, hS, ho, he⟩ := hrel
    obtain ⟨wo, rfl⟩ : ∃ wo : World, wo = wr := ⟨_, rfl⟩
    by_cases hlt : i < t.length
    · obtain ⟨b, off, rfl, hb, hc0, hc1⟩ := rd_node (hr.ext he) hlt
      obtain ⟨hg, hle, hp, hS'⟩ := hS.next hlt
      have har := good_ar hg
      have har2 := (ar_le (nth t i).k).2
      have hsl := hS.len
      obtain ⟨X, R, hXe, hR, hX⟩ := dep_push everyK hp
      have hbd : ∀ x ∈ S, T.dep everyK x ≤ 4000 := fun x hx => by
        have h1 := (T.dep_bd everyK x).2
        have h2 : x.flat.length ≤ (fl S).length := by
          obtain ⟨s1, s2, rfl⟩ := List.append_of_mem hx
          simp [fl]; omega
        rw [hS.flat, List.length_take] at h2
        omega
      have hmx := maxd_bd (T.dep everyK) 4000 (by omega) (ar (nth t i).k).toNat S hbd
      rw [hXe] at hS'
      have HX := Lib.hid hX
      have HR := Lib.hid hR
      clear hr hS hg hp hXe hX hR
      generalize nth t i = n at *
      go_wp2_with (first | ((go_at_call 57; (with_reducible refine (parts_calls _ _).mono ?_); rintro e w1 ⟨rfl, h1⟩); have := (h1).cells; have := (h1).frozens; have : wo.heap.size < w1.heap.size := Nat.lt_of_lt_of_le (by first | assumption | (simp; done) | (simp; omega)) (h1).le))
      have hm : ar n.k = (((ar n.k).toNat : Nat) : Int) := by omega
      generalize (ar n.k).toNat = m at *
      rw [hm]
      have hm2 : m ≤ 2 := by omega
      have hmS : m ≤ S.length := by omega
      clear hm hle har har2
      go_loopw [5, 8, 18] (fun v5 v8 v18 wr' => ∃ j : Nat, v18 = .int .i64 j ∧ j ≤ m ∧ v8 = .int .i64 (maxd (T.dep everyK) j S) ∧ Own (Ty.int .i64) 3 w.heap.size No wr' (sv (T.dep everyK) (S.drop j)) v5 ∧ Ext w1 wr') (fun _ _ v18 _ => m - (intOf v18).toNat)
      case atStart => exact ⟨0, rfl, by omega, val_int (maxd_zero _ _).symm, ho.ext (by (repeat (first | assumption | exact Ext.refl _ | apply Ext.alloc | apply Ext.drew | apply Ext.drewN | refine Ext.trans ?_ (by assumption)))), Ext.refl _⟩
      case round =>
        obtain ⟨j, rfl, hj, rfl, ho', he'⟩ := hrel
        by_cases hjm : j < m
        · obtain ⟨y, S2, hd⟩ : ∃ y S2, S.drop j = y :: S2 := ⟨_, _, List.drop_eq_getElem_cons (by omega)⟩
          have hdl := congrArg List.length hd
          rw [List.length_drop, List.length_cons] at hdl
          rw [hd] at ho'
          have hy : S[j]? = some y := by have := congrArg (·[0]?) hd; simpa using this
          have hmx' := maxd_bd (T.dep everyK) 4000 (by omega) j S hbd
          have hyb := hbd y (List.mem_of_getElem? hy)
          have hyb0 := (T.dep_bd everyK y).1
          have HM := Lib.hid (maxd_succ (T.dep everyK) y j S (fun z _ => (T.dep_bd everyK z).1) hy)
          have hsh := ho'.shape
          rw [sv_len, List.length_cons] at hsh
          obtain ⟨A5, c5, rfl, h51, h52⟩ := hsh
          obtain ⟨b5, o5, rfl, hb5, hc5⟩ := (ho'.rd).int (sv_top (T.dep everyK) y S2)
          have HD : Hid (S.drop (j + 1) = S2) := by show _ = _; rw [← List.tail_drop, hd]; rfl
          clear hy hd hbd
          have hl2 : S2.length ≤ 4000 := by omega
          clear hdl
          generalize hmv : maxd (T.dep everyK) j S = mv at *
          generalize hyv : T.dep everyK y = yv at *
          have HMV := Lib.hid hmv
          have HYV := Lib.hid hyv
          clear hmv hyv
          go_wp2_with fail
          go_roundw
          case rel =>
            refine ⟨j + 1, by go_num, by omega, val_int ?_, ?_, by (repeat (first | assumption | exact Ext.refl _ | apply Ext.alloc | apply Ext.drew | apply Ext.drewN | refine Ext.trans ?_ (by assumption)))⟩
            · rw [HM.out]; split <;> omega
            · rw [HD.out]
              have := ho'.take rfl S2.length (by rw [sv_len]; simp)
              rwa [sv_pop] at this
          case measure => simp [intOf]; omega
        · have hjm' : j = m := by omega
          subst hjm'
          clear hbd hj hjm ho
          have := (he').cells; have := (he').frozens; have : wo.heap.size < wr.heap.size := Nat.lt_of_lt_of_le (by first | assumption | (simp; done) | (simp; omega)) (he').le
          have hmx1 := hmx.1
          have hmx2 := hmx.2
          have hdl : (sv (T.dep everyK) (S.drop j)).length ≤ 4000 := by rw [sv_len, List.length_drop]; omega
          generalize maxd (T.dep everyK) j S = mv at *
          have hsh := ho'.shape
          obtain ⟨A5, c5, rfl, h51, h52⟩ := hsh
          have hbase : w.heap.size ≤ wr.heap.size := (by (repeat (first | assumption | exact Ext.refl _ | apply Ext.alloc | apply Ext.drew | apply Ext.drewN | refine Ext.trans ?_ (by assumption))) : Ext w wr).le
          by_cases hk : everyK n.k = true
          · have HX' : Hid (T.dep everyK X = mv + 1) := by have := HX.out; rwa [if_pos hk] at this
            clear HX hmx
            go_wp2_with (first | ((go_at_call 43; (with_reducible refine (every_calls _ _).mono ?_); rintro e w3 ⟨rfl, h3⟩); have := (h3).cells; have := (h3).frozens; have : wo.heap.size < w3.heap.size := Nat.lt_of_lt_of_le (by first | assumption | (simp; done) | (simp; omega)) (h3).le) | ((with_reducible refine gate_bi .append #[.tmp 40, .tmp 42] ?_); refine wp_append (t := Ty.int .i64) 3 w.heap.size 8 elInt No _ (sv (T.dep everyK) (S.drop j)) rfl ((ho'.ext h3).ext ((Ext.refl _).alloc _)) _ [mv + 1] rfl Any (SlP.one _ _ (fun _ _ => rfl)) (fun _ _ h => h) (by simp; omega) (by decide) (by have := h3.le; simp; omega) ?_; intro v6 w6 ho6 hg6 _; have hx6 := Ext.grown (by (repeat (first | assumption | exact Ext.refl _ | apply Ext.alloc | apply Ext.drew | apply Ext.drewN | refine Ext.trans ?_ (by assumption))) : Ext w _) hg6 ho'.lo))
            go_roundw
            case rel => exact ⟨i + 1, X :: R, by go_num, by omega, hS', by rw [sv_push, HX'.out, HR.out]; exact ho6, hx6⟩
            case measure => simp [intOf]; omega
          · have hk' : everyK n.k = false := by simpa using hk
            have HX' : Hid (T.dep everyK X = mv) := by have := HX.out; rw [if_neg hk] at this; show _ = _; omega
            clear HX hmx hk
            go_wp2_with (first | ((go_at_call 43; (with_reducible refine (every_calls _ _).mono ?_); rintro e w3 ⟨rfl, h3⟩); have := (h3).cells; have := (h3).frozens; have : wo.heap.size < w3.heap.size := Nat.lt_of_lt_of_le (by first | assumption | (simp; done) | (simp; omega)) (h3).le) | ((with_reducible refine gate_bi .append #[.tmp 40, .tmp 42] ?_); refine wp_append (t := Ty.int .i64) 3 w.heap.size 8 elInt No _ (sv (T.dep everyK) (S.drop j)) rfl ((ho'.ext h3).ext ((Ext.refl _).alloc _)) _ [mv] rfl Any (SlP.one _ _ (fun _ _ => rfl)) (fun _ _ h => h) (by simp; omega) (by decide) (by have := h3.le; simp; omega) ?_; intro v6 w6 ho6 hg6 _; have hx6 := Ext.grown (by (repeat (first | assumption | exact Ext.refl _ | apply Ext.alloc | apply Ext.drew | apply Ext.drewN | refine Ext.trans ?_ (by assumption))) : Ext w _) hg6 ho'.lo))
            go_roundw
            case rel => exact ⟨i + 1, X :: R, by go_num, by omega, hS', by rw [sv_push, HX'.out, HR.out]; exact ho6, hx6⟩
            case measure => simp [intOf]; omega
    · have hi' : i = t.length := by omega
      subst hi'
      obtain ⟨y, rfl, hyw, hyf⟩ := hS.done
      have hxy : y = x := flat_inj hyw hx (by rw [hyf, HT.out])
      subst hxy
      have hsh := ho.shape
      obtain ⟨A5, c5, rfl, h51, h52⟩ := hsh
      obtain ⟨b5, o5, rfl, hb5, hc5⟩ := (ho.rd).int (sv_top (T.dep everyK) y [])
      have HL := Lib.hid (sv_len (T.dep everyK) [y])
      have hl0 : 0 < (sv (T.dep everyK) [y]).length := by rw [sv_len]; exact Nat.one_pos
      clear hS hyf hr HT
      simp only [List.length_nil, Nat.add_zero] at hc5
      go_wp2_with fail
      go_ret
      exact ⟨rfl, he⟩

end Go.Proofs.YtdeppnamhdbbhaaDoor
namespace Go.Proofs.YtdeppnamhdbbhaaDoor
open Go.RowKit Go.Eg

set_option maxHeartbeats 400000 in
theorem Depth_calls (t : List Nd) (v : Value) (w : World) (hr : Rd tyNd w t v) :
    Calls Tryd.prog 35 #[v] w fun e w' => e = .returned (.tuple #[.int .i64 (depF everyK t), .int .i64 (errW t)]) ∧ Ext w w' := by
  by_cases h : errW t = 0
  · obtain ⟨hl, hk⟩ := errW_ok h
    obtain ⟨hw, hf⟩ := tr_of hk
    have HD : Hid (depF everyK t = (tr t).dep everyK) := if_pos h
    have HF := Lib.hid hf.symm
    clear hf hk
    go_enter Tryd.func35, Tryd.ntmps35
    go_wp2_with (first | ((go_at_call 41; (with_reducible refine (wrong_calls t _ _ hr).mono ?_); rintro e w1 ⟨rfl, h1⟩); rw [h]) | ((go_at_call 42; (with_reducible refine (deep_every (tr t) hw t HF.out hl _ _ (hr.ext (by (repeat (first | assumption | exact Ext.refl _ | apply Ext.alloc | apply Ext.drew | apply Ext.drewN | refine Ext.trans ?_ (by assumption)))))).mono ?_); rintro e w2 ⟨rfl, h2⟩)))
    go_ret2
    exact ⟨ret_ii HD.out.symm h.symm, by (repeat (first | assumption | exact Ext.refl _ | apply Ext.alloc | apply Ext.drew | apply Ext.drewN | refine Ext.trans ?_ (by assumption)))⟩
  · have h' : (errW t != 0) = true := by simp [h]
    have HD : Hid (depF everyK t = 0) := if_neg h
    go_enter Tryd.func35, Tryd.ntmps35
    go_wp2_with ((go_at_call 41; (with_reducible refine (wrong_calls t _ _ hr).mono ?_); rintro e w1 ⟨rfl, h1⟩))
    go_ret2
    exact ⟨ret_ii HD.out.symm rfl, by (repeat (first | assumption | exact Ext.refl _ | apply Ext.alloc | apply Ext.drew | apply Ext.drewN | refine Ext.trans ?_ (by assumption)))⟩

end Go.Proofs.YtdeppnamhdbbhaaDoor
namespace Go.Eg

/-- By a cut: f ahead of it, g behind it. -/
def cutsB (f g : Nat → Nat → Bool) (i j : Nat) : Bool := (List.range (j + 1)).any fun m => decide (i ≤ m) && f i m && g m j
theorem cutsB_iff {f g : Nat → Nat → Bool} {i j : Nat} : cutsB f g i j = true ↔ ∃ m, i ≤ m ∧ m ≤ j ∧ f i m = true ∧ g m j = true := by
  simp only [cutsB, List.any_eq_true, List.mem_range, Bool.and_eq_true, decide_eq_true_eq]
  constructor
  · rintro ⟨m, h1, ⟨h2, h3⟩, h4⟩; exact ⟨m, h2, by omega, h3, h4⟩
  · rintro ⟨m, h1, h2, h3, h4⟩; exact ⟨m, by omega, ⟨h1, h3⟩, h4⟩
/-- Pieces that are not empty, one behind the other, at most g of them. -/
def starB (f : Nat → Nat → Bool) : Nat → Nat → Nat → Bool
  | 0, i, j => i == j
  | g + 1, i, j => i == j || (List.range (j + 1)).any fun m => decide (i < m) && f i m && starB f g m j
theorem starB_iff {f : Nat → Nat → Bool} {g i j : Nat} : starB f (g + 1) i j = true ↔ i = j ∨ ∃ m, i < m ∧ m ≤ j ∧ f i m = true ∧ starB f g m j = true := by
  simp only [starB, List.any_eq_true, List.mem_range, Bool.and_eq_true, Bool.or_eq_true, decide_eq_true_eq, beq_iff_eq]
  constructor
  · rintro (h | ⟨m, h1, ⟨h2, h3⟩, h4⟩)
    · exact .inl h
    · exact .inr ⟨m, h2, by omega, h3, h4⟩
  · rintro (h | ⟨m, h1, h2, h3, h4⟩)
    · exact .inl h
    · exact .inr ⟨m, by omega, ⟨h1, h3⟩, h4⟩
/-- More pieces than there are letters change nothing. -/
theorem starB_fuel {f : Nat → Nat → Bool} : ∀ (g g' i j : Nat), j - i ≤ g → j - i ≤ g' → starB f g i j = starB f g' i j
  | 0, 0, _, _, _, _ => rfl
  | 0, g' + 1, i, j, h, _ => by
    rw [Bool.eq_iff_iff, starB_iff]
    simp only [starB, beq_iff_eq]
    constructor
    · exact .inl
    · rintro (h' | ⟨m, h1, h2, _⟩)
      · exact h'
      · omega
  | g + 1, 0, i, j, _, h => by
    rw [Bool.eq_iff_iff, starB_iff]
    simp only [starB, beq_iff_eq]
    constructor
    · rintro (h' | ⟨m, h1, h2, _⟩)
      · exact h'
      · omega
    · exact .inl
  | g + 1, g' + 1, i, j, h, h' => by
    rw [Bool.eq_iff_iff, starB_iff, starB_iff]
    constructor
    · rintro (h1 | ⟨m, h1, h2, h3, h4⟩)
      · exact .inl h1
      · exact .inr ⟨m, h1, h2, h3, by rw [← starB_fuel g g' m j (by omega) (by omega)]; exact h4⟩
    · rintro (h1 | ⟨m, h1, h2, h3, h4⟩)
      · exact .inl h1
      · exact .inr ⟨m, h1, h2, h3, by rw [starB_fuel g g' m j (by omega) (by omega)]; exact h4⟩
/-- Does the expression say the letters i .. j - 1? -/
def T.says (c : Nat → Int) : T → Nat → Nat → Bool
  | leaf n, i, j => if n.k = 2 then i == j else if n.k = 4 then j == i + 1 else if n.k = 3 then j == i + 1 && c i == n.s else false
  | un n a, i, j => if n.k = 8 then starB (fun p q => a.says c p q) (j - i) i j else !(a.says c i j)
  | bin n a b, i, j => if n.k = 5 then a.says c i j || b.says c i j else if n.k = 6 then a.says c i j && b.says c i j else cutsB (fun p q => a.says c p q) (fun p q => b.says c p q) i j
theorem cuts_moved {f g f' g' : Nat → Nat → Bool} {d i j : Nat} (hf : ∀ p q, i ≤ p → p ≤ q → q ≤ j → f' p q = f (p + d) (q + d)) (hg : ∀ p q, i ≤ p → p ≤ q → q ≤ j → g' p q = g (p + d) (q + d)) : cutsB f' g' i j = cutsB f g (i + d) (j + d) := by
  rw [Bool.eq_iff_iff, cutsB_iff, cutsB_iff]
  constructor
  · rintro ⟨m, h1, h2, h3, h4⟩
    exact ⟨m + d, by omega, by omega, by rw [← hf i m (by omega) h1 h2]; exact h3, by rw [← hg m j h1 h2 (by omega)]; exact h4⟩
  · rintro ⟨m, h1, h2, h3, h4⟩
    obtain ⟨p, rfl⟩ : ∃ p, m = p + d := ⟨m - d, by omega⟩
    exact ⟨p, by omega, by omega, by rw [hf i p (by omega) (by omega) (by omega)]; exact h3, by rw [hg p j (by omega) (by omega) (by omega)]; exact h4⟩
theorem star_moved {f f' : Nat → Nat → Bool} {d : Nat} : ∀ (g i j : Nat), i ≤ j → (∀ p q, i ≤ p → p ≤ q → q ≤ j → f' p q = f (p + d) (q + d)) → starB f' g i j = starB f g (i + d) (j + d)
  | 0, i, j, _, _ => by rw [Bool.eq_iff_iff]; simp [starB]
  | g + 1, i, j, hij, hf => by
    rw [Bool.eq_iff_iff, starB_iff, starB_iff]
    constructor
    · rintro (h1 | ⟨m, h1, h2, h3, h4⟩)
      · exact .inl (by omega)
      · exact .inr ⟨m + d, by omega, by omega, by rw [← hf i m (by omega) (by omega) h2]; exact h3, by rw [← star_moved g m j h2 (fun p q a b e => hf p q (by omega) b e)]; exact h4⟩
    · rintro (h1 | ⟨m, h1, h2, h3, h4⟩)
      · exact .inl (by omega)
      · obtain ⟨p, rfl⟩ : ∃ p, m = p + d := ⟨m - d, by omega⟩
        exact .inr ⟨p, by omega, by omega, by rw [hf i p (by omega) (by omega) (by omega)]; exact h3, by rw [star_moved g p j (by omega) (fun p q a b e => hf p q (by omega) b e)]; exact h4⟩
/-- What it says of a piece hangs on that piece alone. -/
theorem says_moved {c c' : Nat → Int} {d : Nat} (x : T) : ∀ (i j : Nat), i ≤ j → (∀ m, i ≤ m → m < j → c' m = c (m + d)) → x.says c' i j = x.says c (i + d) (j + d) := by
  induction x with
  | leaf n =>
    intro i j hij hc
    simp only [T.says]
    split
    · rw [Bool.eq_iff_iff]; simp
    · split
      · rw [Bool.eq_iff_iff]; simp; omega
      · split
        · by_cases h : j = i + 1
          · rw [hc i (Nat.le_refl _) (by omega)]
            have h2 : (j + d == i + d + 1) = true := by simp; omega
            have h1 : (j == i + 1) = true := by simp [h]
            rw [h1, h2]
          · have h1 : (j == i + 1) = false := by simp [h]
            have h2 : (j + d == i + d + 1) = false := by simp; omega
            rw [h1, h2]; rfl
        · rfl
  | un n a ih =>
    intro i j hij hc
    simp only [T.says]
    split
    · rw [show j + d - (i + d) = j - i by omega]
      exact star_moved _ _ _ hij (fun p q h1 h2 h3 => ih p q h2 (fun m h4 h5 => hc m (by omega) (by omega)))
    · rw [ih i j hij hc]
  | bin n a b iha ihb =>
    intro i j hij hc
    simp only [T.says]
    split
    · rw [iha i j hij hc, ihb i j hij hc]
    · split
      · rw [iha i j hij hc, ihb i j hij hc]
      · exact cuts_moved (fun p q h1 h2 h3 => iha p q h2 (fun m h4 h5 => hc m (by omega) (by omega))) (fun p q h1 h2 h3 => ihb p q h2 (fun m h4 h5 => hc m (by omega) (by omega)))
/-- A star: the empty word, or a piece that is not empty, and the star. -/
theorem says_star {c : Nat → Int} {s : Int} (a : T) (i j : Nat) (h : i ≤ j) : (T.un ⟨8, s⟩ a).says c i j = true ↔ i = j ∨ ∃ m, i < m ∧ m ≤ j ∧ a.says c i m = true ∧ (T.un ⟨8, s⟩ a).says c m j = true := by
  simp only [T.says, if_true]
  rcases Nat.lt_or_ge i j with hl | hl
  · obtain ⟨g, hg⟩ : ∃ g, j - i = g + 1 := ⟨j - i - 1, by omega⟩
    rw [hg, starB_iff]
    constructor
    · rintro (h1 | ⟨m, h1, h2, h3, h4⟩)
      · exact .inl h1
      · exact .inr ⟨m, h1, h2, h3, by rw [starB_fuel (j - m) g m j (by omega) (by omega)]; exact h4⟩
    · rintro (h1 | ⟨m, h1, h2, h3, h4⟩)
      · exact .inl h1
      · exact .inr ⟨m, h1, h2, h3, by rw [starB_fuel g (j - m) m j (by omega) (by omega)]; exact h4⟩
  · obtain rfl : i = j := by omega
    rw [Nat.sub_self]
    simp [starB]
end Go.Eg
namespace Go.Eg

/-- May a word that begins at i end at j? -/
def rowB (c : Nat → Int) (n : Nat) (x : T) (i j : Nat) : Bool := decide (i ≤ j ∧ j ≤ n) && x.says c i j
theorem rowB_iff {c : Nat → Int} {n : Nat} {x : T} {i j : Nat} : rowB c n x i j = true ↔ i ≤ j ∧ j ≤ n ∧ x.says c i j = true := by
  simp [rowB, and_assoc]
section
variable {c : Nat → Int} {n : Nat}
theorem row_none {s : Int} (k : Int) (h2 : k ≠ 2) (h3 : k ≠ 3) (h4 : k ≠ 4) (i j : Nat) : rowB c n (.leaf ⟨k, s⟩) i j = false := by
  simp [rowB, T.says, h2, h3, h4]
theorem row_empty {s : Int} (i j : Nat) (hi : i ≤ n) : rowB c n (.leaf ⟨2, s⟩) i j = (j == i) := by
  rw [Bool.eq_iff_iff, rowB_iff]
  simp only [T.says, if_true, beq_iff_eq]
  constructor
  · rintro ⟨_, _, h⟩; exact h.symm
  · rintro rfl; exact ⟨Nat.le_refl _, hi, rfl⟩
theorem row_any {s : Int} (i j : Nat) : rowB c n (.leaf ⟨4, s⟩) i j = (decide (i < n) && j == i + 1) := by
  rw [Bool.eq_iff_iff, rowB_iff]
  simp only [T.says, if_true, beq_iff_eq, Bool.and_eq_true, decide_eq_true_eq, show ¬ ((4 : Int) = 2) by decide, if_false]
  omega
theorem row_letter {s : Int} (i j : Nat) : rowB c n (.leaf ⟨3, s⟩) i j = (decide (i < n) && (c i == s) && j == i + 1) := by
  rw [Bool.eq_iff_iff, rowB_iff]
  simp only [T.says, if_true, beq_iff_eq, Bool.and_eq_true, decide_eq_true_eq, show ¬ ((3 : Int) = 2) by decide, show ¬ ((3 : Int) = 4) by decide, if_false]
  constructor
  · rintro ⟨h1, h2, h3, h4⟩; exact ⟨⟨by omega, h4⟩, h3⟩
  · rintro ⟨⟨h1, h4⟩, h3⟩; exact ⟨by omega, by omega, h3, h4⟩
theorem row_union {s : Int} (a b : T) (i j : Nat) : rowB c n (.bin ⟨5, s⟩ a b) i j = (rowB c n a i j || rowB c n b i j) := by
  simp only [rowB, T.says, if_true]
  cases decide (i ≤ j ∧ j ≤ n) <;> simp
theorem row_inter {s : Int} (a b : T) (i j : Nat) : rowB c n (.bin ⟨6, s⟩ a b) i j = (rowB c n a i j && rowB c n b i j) := by
  simp only [rowB, T.says, if_true, show ¬ ((6 : Int) = 5) by decide, if_false]
  cases decide (i ≤ j ∧ j ≤ n) <;> simp
theorem row_not {s : Int} (a : T) (i j : Nat) : rowB c n (.un ⟨9, s⟩ a) i j = (decide (i ≤ j ∧ j ≤ n) && !rowB c n a i j) := by
  simp only [rowB, T.says, show ¬ ((9 : Int) = 8) by decide, if_false]
  cases decide (i ≤ j ∧ j ≤ n) <;> simp
theorem row_concat {s : Int} (a b : T) (i j : Nat) : rowB c n (.bin ⟨7, s⟩ a b) i j = true ↔ ∃ m, rowB c n a i m = true ∧ rowB c n b m j = true := by
  simp only [rowB_iff, T.says, show ¬ ((7 : Int) = 5) by decide, show ¬ ((7 : Int) = 6) by decide, if_false, cutsB_iff]
  constructor
  · rintro ⟨h1, h2, m, h3, h4, h5, h6⟩; exact ⟨m, ⟨h3, by omega, h5⟩, h4, h2, h6⟩
  · rintro ⟨m, ⟨h1, h2, h3⟩, h4, h5, h6⟩; exact ⟨by omega, h5, m, h1, h4, h3, h6⟩
theorem row_star {s : Int} (a : T) (i j : Nat) : rowB c n (.un ⟨8, s⟩ a) i j = true ↔ (i = j ∧ j ≤ n) ∨ ∃ m, m ≠ i ∧ rowB c n a i m = true ∧ rowB c n (.un ⟨8, s⟩ a) m j = true := by
  constructor
  · intro h
    obtain ⟨h1, h2, h3⟩ := rowB_iff.1 h
    rcases (says_star a i j h1).1 h3 with h4 | ⟨m, h4, h5, h6, h7⟩
    · exact .inl ⟨h4, h2⟩
    · exact .inr ⟨m, by omega, rowB_iff.2 ⟨by omega, by omega, h6⟩, rowB_iff.2 ⟨h5, h2, h7⟩⟩
  · rintro (⟨rfl, h⟩ | ⟨m, h1, h2, h3⟩)
    · exact rowB_iff.2 ⟨Nat.le_refl _, h, (says_star a i i (Nat.le_refl _)).2 (.inl rfl)⟩
    · obtain ⟨a1, a2, a3⟩ := rowB_iff.1 h2
      obtain ⟨b1, b2, b3⟩ := rowB_iff.1 h3
      exact rowB_iff.2 ⟨by omega, b2, (says_star a i j (by omega)).2 (.inr ⟨m, by omega, b1, a3, b3⟩)⟩
/-- A word is its own piece: by moving. -/
theorem row_moved {c' : Nat → Int} {d n' : Nat} (x : T) (i j : Nat) (hn : n' = n + d) (hc : ∀ m, m < n → c m = c' (m + d)) : rowB c n x i j = rowB c' n' x (i + d) (j + d) := by
  subst hn
  rw [Bool.eq_iff_iff, rowB_iff, rowB_iff]
  constructor
  · rintro ⟨h1, h2, h3⟩
    exact ⟨by omega, by omega, by rw [← says_moved (c := c') (c' := c) (d := d) x i j h1 (fun m h4 h5 => hc m (by omega))]; exact h3⟩
  · rintro ⟨h1, h2, h3⟩
    exact ⟨by omega, by omega, by rw [says_moved (c := c') (c' := c) (d := d) x i j (by omega) (fun m h4 h5 => hc m (by omega))]; exact h3⟩
end
/-- Is a word of n letters in the language? -/
def memB (c : Nat → Int) (n : Nat) (x : T) : Bool := x.says c 0 n
theorem mem_row (c : Nat → Int) (n : Nat) (x : T) : rowB c n x 0 n = memB c n x := by simp [rowB, memB]
theorem mem_piece (c : Nat → Int) (x : T) (i j : Nat) (h : i ≤ j) : memB (fun m => c (m + i)) (j - i) x = x.says c i j := by
  unfold memB
  rw [says_moved (c := c) (c' := fun m => c (m + i)) (d := i) x 0 (j - i) (Nat.zero_le _) (fun m _ _ => rfl), Nat.zero_add, Nat.sub_add_cancel h]
theorem mem_head (c c' : Nat → Int) (x : T) (i : Nat) (h : ∀ m, m < i → c' m = c m) : memB c' i x = x.says c 0 i := by
  unfold memB
  have := says_moved (c := c) (c' := c') (d := 0) x 0 i (Nat.zero_le _) (fun m _ h2 => h m h2)
  simpa using this
/-- Concatenation: by all cuts. -/
theorem mem_concat {s : Int} (c : Nat → Int) (n : Nat) (a b : T) : memB c n (.bin ⟨7, s⟩ a b) = true ↔ ∃ i, i ≤ n ∧ a.says c 0 i = true ∧ b.says c i n = true := by
  unfold memB
  simp only [T.says, show ¬ ((7 : Int) = 5) by decide, show ¬ ((7 : Int) = 6) by decide, if_false, cutsB_iff]
  constructor
  · rintro ⟨m, _, h2, h3, h4⟩; exact ⟨m, h2, h3, h4⟩
  · rintro ⟨m, h2, h3, h4⟩; exact ⟨m, Nat.zero_le _, h2, h3, h4⟩
theorem mem_star {s : Int} (c : Nat → Int) (n : Nat) (a : T) : memB c n (.un ⟨8, s⟩ a) = true ↔ n = 0 ∨ ∃ i, 1 ≤ i ∧ i ≤ n ∧ a.says c 0 i = true ∧ (T.un ⟨8, s⟩ a).says c i n = true := by
  unfold memB
  rw [says_star a 0 n (Nat.zero_le _)]
  constructor
  · rintro (h | ⟨m, h1, h2, h3, h4⟩)
    · exact .inl h.symm
    · exact .inr ⟨m, by omega, h2, h3, h4⟩
  · rintro (h | ⟨m, h1, h2, h3, h4⟩)
    · exact .inl h.symm
    · exact .inr ⟨m, by omega, h2, h3, h4⟩
end Go.Eg
namespace Go.Eg
/-- The error of a word. -/
def wordE (s : ByteArray) : Int := if (List.range s.size).all (fun j => decide (97 ≤ bt s j ∧ bt s j ≤ 104)) then (if 511 < s.size then 40 else 0) else 21
theorem word_bad {s : ByteArray} {j : Nat} (hj : j < s.size) (h : ¬ (97 ≤ bt s j ∧ bt s j ≤ 104)) : wordE s = 21 := by
  unfold wordE
  rw [if_neg]
  simp only [List.all_eq_true, List.mem_range, decide_eq_true_eq]
  intro h2
  exact h (h2 j hj)
theorem word_good {s : ByteArray} (h : ∀ j, j < s.size → 97 ≤ bt s j ∧ bt s j ≤ 104) : wordE s = if 511 < s.size then 40 else 0 := by
  unfold wordE
  rw [if_pos]
  simp only [List.all_eq_true, List.mem_range, decide_eq_true_eq]
  exact h
end Go.Eg
namespace Go.Proofs.YtdeppnamhdbbhaaDoor
open Go.RowKit Go.Eg

set_option maxHeartbeats 400000 in
theorem check_calls (t : List Nd) (v : Value) (w : World) (hr : Rd tyNd w t v) : Calls Tryd.prog 23 #[v] w fun e w' => e = .returned (.int .i64 (errW t)) ∧ Ext w w' := by
  go_enter Tryd.func23, Tryd.ntmps23
  go_wp2_with ((go_at_call 35; (with_reducible refine (Depth_calls t _ _ hr).mono ?_); rintro e w1 ⟨rfl, h1⟩))
  go_ret
  exact ⟨rfl, h1⟩

set_option maxHeartbeats 1000000 in
theorem letters_calls (s : ByteArray) (w : World) (hs : s.size ≤ 140737488351232) : Calls Tryd.prog 24 #[.string s] w fun e w' => e = .returned (.int .i64 (wordE s)) ∧ w' = w := by
  go_enter Tryd.func24, Tryd.ntmps24
  go_wp2_with fail
  go_loopw [3, 6] (fun _ v6 w' => ∃ i : Nat, v6 = .int .i64 i ∧ i ≤ s.size ∧ Hid (∀ j, j < i → 97 ≤ bt s j ∧ bt s j ≤ 104) ∧ w' = w) (fun _ v6 _ => s.size - (intOf v6).toNat)
  case atStart => exact ⟨0, rfl, Nat.zero_le _, Lib.hid (fun j h => absurd h (Nat.not_lt_zero j)), rfl⟩
  case round =>
    obtain ⟨i, rfl, hi, HI, rfl⟩ := hrel
    by_cases hlt : i < s.size
    · have hbt := bt_at s i hlt
      by_cases hg : 97 ≤ bt s i ∧ bt s i ≤ 104
      · have HJ : Hid (∀ j, j < i + 1 → 97 ≤ bt s j ∧ bt s j ≤ 104) := Lib.hid (fun j hj => by
          rcases Nat.lt_or_ge j i with h | h
          · exact HI.out j h
          · obtain rfl : j = i := by omega
            exact hg)
        rw [← hbt] at hg
        have e1 : decide (((s[i]'hlt).toNat : Int) < 97) = false := decide_eq_false (by omega)
        have e2 : decide ((104 : Int) < ((s[i]'hlt).toNat : Int)) = false := decide_eq_false (by omega)
        clear hbt hg
        go_wp2_with fail
        go_roundw
        case rel => exact ⟨i + 1, by go_num, by omega, HJ, (by first | trivial | rfl)⟩
        case measure => simp [intOf]; omega
      · have HW : Hid (wordE s = 21) := word_bad hlt hg
        rw [← hbt] at hg
        by_cases h97 : ((s[i]'hlt).toNat : Int) < 97
        · have e1 : decide (((s[i]'hlt).toNat : Int) < 97) = true := decide_eq_true h97
          clear hbt hg
          go_wp2_with fail
          go_ret
          exact ⟨ret_int HW.out.symm, rfl⟩
        · have h104 : (104 : Int) < ((s[i]'hlt).toNat : Int) := by omega
          have e1 : decide (((s[i]'hlt).toNat : Int) < 97) = false := decide_eq_false h97
          have e2 : decide ((104 : Int) < ((s[i]'hlt).toNat : Int)) = true := decide_eq_true h104
          clear hbt hg
          go_wp2_with fail
          go_ret
          exact ⟨ret_int HW.out.symm, rfl⟩
    · obtain rfl : i = s.size := by omega
      have HW : Hid (wordE s = if 511 < s.size then 40 else 0) := word_good HI.out
      by_cases hbig : 511 < s.size
      · have hd : decide ((511 : Int) < s.size) = true := by simp; omega
        have HX : Hid (wordE s = 40) := Lib.hid (HW.out.trans (if_pos hbig))
        go_wp2_with fail
        go_ret
        exact ⟨ret_int HX.out.symm, rfl⟩
      · have hd : decide ((511 : Int) < s.size) = false := by simp; omega
        have HX : Hid (wordE s = 0) := Lib.hid (HW.out.trans (if_neg hbig))
        go_wp2_with fail
        go_ret
        exact ⟨ret_int HX.out.symm, rfl⟩
end Go.Proofs.YtdeppnamhdbbhaaDoor
namespace Go.Proofs.YtdeppnamhdbbhaaDoor
open Go.RowKit Go.Eg

set_option maxHeartbeats 1000000 in
theorem arity_calls (k : Int) (h : 0 ≤ ar k) (w : World) : Calls Tryd.prog 37 #[.int .i64 k] w fun e w' => e = .returned (.int .i64 (ar k)) ∧ w' = w := by
  have hk : k = 5 ∨ k = 6 ∨ k = 7 ∨ k = 8 ∨ k = 9 ∨ (k = 1 ∨ k = 2 ∨ k = 3 ∨ k = 4) := by
    unfold ar at h
    split at h
    · omega
    · split at h
      · omega
      · split at h
        · omega
        · omega
  rcases hk with rfl | rfl | rfl | rfl | rfl | rfl | rfl | rfl | rfl
  all_goals
    go_enter Tryd.func37, Tryd.ntmps37
    go_wp2_with fail
    go_ret
    exact ⟨rfl, rfl⟩

set_option maxHeartbeats 1000000 in
theorem rword_calls (s : ByteArray) (w : World) (hs : s.size ≤ 281474976710656) : Calls Tryd.prog 39 #[.string s] w fun e w' => e = .returned (.int .i64 (wordE s)) ∧ w' = w := by
  go_enter Tryd.func39, Tryd.ntmps39
  go_wp2_with fail
  go_loopw [3] (fun v6 w' => ∃ i : Nat, v6 = .int .i64 i ∧ i ≤ s.size ∧ Hid (∀ j, j < i → 97 ≤ bt s j ∧ bt s j ≤ 104) ∧ w' = w) (fun v6 _ => s.size - (intOf v6).toNat)
  case atStart => exact ⟨0, rfl, Nat.zero_le _, Lib.hid (fun j h => absurd h (Nat.not_lt_zero j)), rfl⟩
  case round =>
    obtain ⟨i, rfl, hi, HI, rfl⟩ := hrel
    by_cases hlt : i < s.size
    · have hbt := bt_at s i hlt
      by_cases hg : 97 ≤ bt s i ∧ bt s i ≤ 104
      · have HJ : Hid (∀ j, j < i + 1 → 97 ≤ bt s j ∧ bt s j ≤ 104) := Lib.hid (fun j hj => by
          rcases Nat.lt_or_ge j i with h | h
          · exact HI.out j h
          · obtain rfl : j = i := by omega
            exact hg)
        rw [← hbt] at hg
        have e1 : decide (((s[i]'hlt).toNat : Int) < 97) = false := decide_eq_false (by omega)
        have e2 : decide ((104 : Int) < ((s[i]'hlt).toNat : Int)) = false := decide_eq_false (by omega)
        clear hbt hg
        go_wp2_with fail
        go_roundw
        case rel => exact ⟨i + 1, by go_num, by omega, HJ, (by first | trivial | rfl)⟩
        case measure => simp [intOf]; omega
      · have HW : Hid (wordE s = 21) := word_bad hlt hg
        rw [← hbt] at hg
        by_cases h97 : ((s[i]'hlt).toNat : Int) < 97
        · have e1 : decide (((s[i]'hlt).toNat : Int) < 97) = true := decide_eq_true h97
          clear hbt hg
          go_wp2_with fail
          go_ret
          exact ⟨ret_int HW.out.symm, rfl⟩
        · have h104 : (104 : Int) < ((s[i]'hlt).toNat : Int) := by omega
          have e1 : decide (((s[i]'hlt).toNat : Int) < 97) = false := decide_eq_false h97
          have e2 : decide ((104 : Int) < ((s[i]'hlt).toNat : Int)) = true := decide_eq_true h104
          clear hbt hg
          go_wp2_with fail
          go_ret
          exact ⟨ret_int HW.out.symm, rfl⟩
    · obtain rfl : i = s.size := by omega
      have HW : Hid (wordE s = if 511 < s.size then 40 else 0) := word_good HI.out
      by_cases hbig : 511 < s.size
      · have hd : decide ((511 : Int) < s.size) = true := by simp; omega
        have HX : Hid (wordE s = 40) := Lib.hid (HW.out.trans (if_pos hbig))
        go_wp2_with fail
        go_ret
        exact ⟨ret_int HX.out.symm, rfl⟩
      · have hd : decide ((511 : Int) < s.size) = false := by simp; omega
        have HX : Hid (wordE s = 0) := Lib.hid (HW.out.trans (if_neg hbig))
        go_wp2_with fail
        go_ret
        exact ⟨ret_int HX.out.symm, rfl⟩
end Go.Proofs.YtdeppnamhdbbhaaDoor
namespace Go.Eg
open Go.RowKit

/-- A literal: cells in a new block. -/
theorem SlP.lit {α : Type} {t : Ty α} {B : Nat → Prop} {w : World} {e : TypeId} (xs : List α) (cells : Array Value) {n : Nat} (hn : n = xs.length) (hm : xs.length ≤ maxLen) (hB : B w.heap.size)
    (h : ∀ i x, xs[i]? = some x → ∃ cs, t.rel B (w.alloc (.cells cells e)) x cs ∧ ∀ j u, cs[j]? = some u → cells[i * t.sz + j]? = some u) :
    SlP t B (w.alloc (.cells cells e)) xs (.slice (some ⟨w.heap.size, 0, none⟩) n n) := by
  subst hn
  refine ⟨_, _, rfl, Nat.le_refl _, hm, fun _ => ⟨w.heap.size, 0, rfl, hB, by simp, fun i x hx => ?_⟩⟩
  obtain ⟨cs, hr, hc⟩ := h i x hx
  refine ⟨cs, hr, fun j u hu => ?_⟩
  rw [Nat.zero_add, World.cell?_alloc_new]
  exact hc j u hu
/-- A piece of what a whole slice reads as. -/
theorem Rd.piece {α : Type} {t : Ty α} {w : World} {xs : List α} {A : Option Addr} {n c : Nat} (h : Rd t w xs (.slice A n c)) (i m c' : Nat) (hm : 0 < m) (him : i + m ≤ xs.length) (hc : m ≤ c') (hc' : c' ≤ c - i) :
    ∃ b off, A = some ⟨b, off, none⟩ ∧ Rd t w ((xs.drop i).take m) (.slice (some ⟨b, off + i * t.sz, none⟩) m c') := by
  obtain ⟨A', c0, e, hl, hmx, hr⟩ := h
  cases e
  obtain ⟨b, off, e, hb, hlt, hrow⟩ := hr (by rintro rfl; simp at him; omega)
  subst e
  have hlen : ((xs.drop i).take m).length = m := by rw [List.length_take, List.length_drop]; omega
  refine ⟨b, off, rfl, _, c', by rw [hlen], by omega, by omega, fun _ => ⟨b, _, rfl, hb, hlt, (hrow.drop i).take m⟩⟩
end Go.Eg
namespace Go.Eg

/-- The number whose bits below n are q. -/
def ofB (q : Nat → Bool) : Nat → Nat
  | 0 => 0
  | n + 1 => ofB q n ||| (if q n then 2 ^ n else 0)
theorem ofB_lt (q : Nat → Bool) : ∀ n, ofB q n < 2 ^ n
  | 0 => by simp [ofB]
  | n + 1 => by
    unfold ofB
    refine Nat.or_lt_two_pow (Nat.lt_trans (ofB_lt q n) (Nat.pow_lt_pow_right (by omega) (by omega))) ?_
    split
    · exact Nat.pow_lt_pow_right (by omega) (by omega)
    · exact Nat.two_pow_pos _
theorem ofB_bit (q : Nat → Bool) : ∀ n b, (ofB q n).testBit b = (decide (b < n) && q b)
  | 0, b => by simp [ofB]
  | n + 1, b => by
    unfold ofB
    rw [Nat.testBit_or, ofB_bit q n b]
    by_cases h : b = n
    · subst h
      cases q b <;> simp [Nat.testBit_two_pow_self]
    · have h1 : (if q n then 2 ^ n else 0).testBit b = false := by
        split
        · exact Nat.testBit_two_pow_of_ne (Ne.symm h)
        · simp
      rw [h1, Bool.or_false]
      congr 1
      by_cases hb : b < n
      · simp [hb]; omega
      · simp [hb]; omega
/-- The j-th word of a set. -/
def wd (p : Nat → Bool) (j : Nat) : Nat := ofB (fun b => p (64 * j + b)) 64
theorem wd_lt (p : Nat → Bool) (j : Nat) : wd p j < 2 ^ 64 := ofB_lt _ _
theorem wd_lt' (p : Nat → Bool) (j : Nat) : wd p j < 18446744073709551616 := ofB_lt _ _
theorem wd_bit (p : Nat → Bool) (j b : Nat) : (wd p j).testBit b = (decide (b < 64) && p (64 * j + b)) := ofB_bit _ _ _
/-- A word is known by its 64 bits. -/
theorem word_ext {x y : Nat} (hx : x < 2 ^ 64) (hy : y < 2 ^ 64) (h : ∀ b, b < 64 → x.testBit b = y.testBit b) : x = y := by
  apply Nat.eq_of_testBit_eq
  intro b
  by_cases hb : b < 64
  · exact h b hb
  · rw [Nat.testBit_lt_two_pow (Nat.lt_of_lt_of_le hx (Nat.pow_le_pow_right (by omega) (by omega))), Nat.testBit_lt_two_pow (Nat.lt_of_lt_of_le hy (Nat.pow_le_pow_right (by omega) (by omega)))]
theorem wd_congr {p q : Nat → Bool} {j : Nat} (h : ∀ b, b < 64 → p (64 * j + b) = q (64 * j + b)) : wd p j = wd q j :=
  word_ext (wd_lt _ _) (wd_lt _ _) fun b hb => by rw [wd_bit, wd_bit, h b hb]
/-- Any eight words are those of a set. -/
def bitsOf (f : Nat → Nat) (i : Nat) : Bool := (f (i / 64)).testBit (i % 64)
theorem wd_bitsOf {f : Nat → Nat} {j : Nat} (h : f j < 2 ^ 64) : wd (bitsOf f) j = f j :=
  word_ext (wd_lt _ _) h fun b hb => by
    rw [wd_bit, bitsOf, show (64 * j + b) / 64 = j by omega, show (64 * j + b) % 64 = b by omega]
    simp [hb]
theorem wd_or (p q : Nat → Bool) (j : Nat) : wd p j ||| wd q j = wd (fun i => p i || q i) j :=
  word_ext (Nat.or_lt_two_pow (wd_lt _ _) (wd_lt _ _)) (wd_lt _ _) fun b hb => by
    rw [Nat.testBit_or, wd_bit, wd_bit, wd_bit]; simp [hb]
theorem wd_and (p q : Nat → Bool) (j : Nat) : wd p j &&& wd q j = wd (fun i => p i && q i) j :=
  word_ext (Nat.and_lt_two_pow _ (wd_lt _ _)) (wd_lt _ _) fun b hb => by
    rw [Nat.testBit_and, wd_bit, wd_bit, wd_bit]; simp [hb]
theorem not_bit {x : Nat} (hx : x < 2 ^ 64) {b : Nat} (hb : b < 64) : (18446744073709551615 - x).testBit b = !x.testBit b := by
  have := Nat.testBit_two_pow_sub_succ (n := 64) (x := x) hx b
  rw [show (18446744073709551615 - x : Nat) = 2 ^ 64 - (x + 1) by omega, this]
  simp [hb]
theorem wd_andNot (p q : Nat → Bool) (j : Nat) : wd p j &&& (18446744073709551615 - wd q j) = wd (fun i => p i && !q i) j :=
  word_ext (Nat.and_lt_two_pow _ (by omega)) (wd_lt _ _) fun b hb => by
    rw [Nat.testBit_and, not_bit (wd_lt _ _) hb, wd_bit, wd_bit, wd_bit]; simp [hb]
/-- One number of a set. -/
theorem wd_test (p : Nat → Bool) (j b : Nat) (hb : b < 64) : wd p j / 2 ^ b % 2 = if p (64 * j + b) then 1 else 0 := by
  have h := wd_bit p j b
  rw [Nat.testBit_eq_decide_div_mod_eq] at h
  simp only [hb, decide_true, Bool.true_and] at h
  have : wd p j / 2 ^ b % 2 < 2 := Nat.mod_lt _ (by omega)
  cases hp : p (64 * j + b) <;> rw [hp] at h <;> simp at h <;> simp <;> omega
/-- Sets are the same when their words are. -/
theorem wd_inj {p q : Nat → Bool} (h : ∀ j, j < 8 → wd p j = wd q j) {i : Nat} (hi : i < 512) : p i = q i := by
  have := congrArg (fun x => x.testBit (i % 64)) (h (i / 64) (by omega))
  simp only [wd_bit] at this
  rw [show 64 * (i / 64) + i % 64 = i by omega] at this
  simpa [Nat.mod_lt] using this
end Go.Eg
namespace Go.Proofs.YtdeppnamhdbbhaaDoor
open Go.RowKit Go.Eg

theorem set_at (p : Nat → Bool) (k : Nat) (hk : k < 8) : #[Value.int .u64 (wd (p) 0 : Nat), .int .u64 (wd (p) 1 : Nat), .int .u64 (wd (p) 2 : Nat), .int .u64 (wd (p) 3 : Nat), .int .u64 (wd (p) 4 : Nat), .int .u64 (wd (p) 5 : Nat), .int .u64 (wd (p) 6 : Nat), .int .u64 (wd (p) 7 : Nat)][k]? = some (.int .u64 (wd p k : Nat)) := by
  match k, hk with
  | 0, _ => rfl
  | 1, _ => rfl
  | 2, _ => rfl
  | 3, _ => rfl
  | 4, _ => rfl
  | 5, _ => rfl
  | 6, _ => rfl
  | 7, _ => rfl
theorem test_one (p : Nat → Bool) (x : Int) (h0 : 0 ≤ x) : (bits .and .u64 (((wd p (x / 64).toNat : Nat) : Int) / 2 ^ (x % 64).toNat) 1 == 1) = p x.toNat := by
  have hb : (x % 64).toNat < 64 := by omega
  have h := wd_test p (x / 64).toNat (x % 64).toNat hb
  rw [show 64 * (x / 64).toNat + (x % 64).toNat = x.toNat by omega] at h
  have hlt : wd p (x / 64).toNat / 2 ^ (x % 64).toNat < 18446744073709551616 := Nat.lt_of_le_of_lt (Nat.div_le_self _ _) (wd_lt' _ _)
  have e : ((wd p (x / 64).toNat : Nat) : Int) / 2 ^ (x % 64).toNat = ((wd p (x / 64).toNat / 2 ^ (x % 64).toNat : Nat) : Int) := by simp
  rw [e, show (1 : Int) = ((1 : Nat) : Int) from rfl, Go.u64_and_nat _ _ hlt (by decide), Nat.and_one_is_mod, h]
  cases p x.toNat <;> rfl
def inSet (p : Nat → Bool) (x : Int) : Bool := decide (0 ≤ x) && decide (x < 512) && p x.toNat

set_option maxHeartbeats 1000000 in
theorem rHas_calls (p : Nat → Bool) (x : Int) (w : World) : Calls Tryd.prog 34 #[Value.agg #[.int .u64 (wd (p) 0 : Nat), .int .u64 (wd (p) 1 : Nat), .int .u64 (wd (p) 2 : Nat), .int .u64 (wd (p) 3 : Nat), .int .u64 (wd (p) 4 : Nat), .int .u64 (wd (p) 5 : Nat), .int .u64 (wd (p) 6 : Nat), .int .u64 (wd (p) 7 : Nat)], .int .i64 x] w fun e w' => e = .returned (.bool (inSet p x)) ∧ Ext w w' := by
  by_cases h : 0 ≤ x ∧ x < 512
  · obtain ⟨h0, h1⟩ := h
    have harr := set_at p (x / 64).toNat (by omega)
    have HT := Lib.hid (test_one p x h0)
    have HI : Hid (inSet p x = p x.toNat) := by show _ = _; simp [inSet, h0, h1]
    go_enter Tryd.func34, Tryd.ntmps34
    go_wp2_with fail
    go_ret
    exact ⟨ret_bool (by rw [HI.out]; exact HT.out), by (repeat (first | assumption | exact Ext.refl _ | apply Ext.alloc | apply Ext.drew | apply Ext.drewN | refine Ext.trans ?_ (by assumption)))⟩
  · have HI : Hid (inSet p x = false) := by show _ = _; simp [inSet]; omega
    by_cases h0 : 0 ≤ x
    · have h1 : 512 ≤ x := by omega
      have h1' : decide (x < 512) = false := by simp; omega
      clear h
      go_enter Tryd.func34, Tryd.ntmps34
      go_wp2_with fail
      go_ret
      exact ⟨ret_bool HI.out.symm, by (repeat (first | assumption | exact Ext.refl _ | apply Ext.alloc | apply Ext.drew | apply Ext.drewN | refine Ext.trans ?_ (by assumption)))⟩
    · have h0' : decide (0 ≤ x) = false := by simpa using h0
      clear h
      go_enter Tryd.func34, Tryd.ntmps34
      go_wp2_with fail
      go_ret
      exact ⟨ret_bool HI.out.symm, by (repeat (first | assumption | exact Ext.refl _ | apply Ext.alloc | apply Ext.drew | apply Ext.drewN | refine Ext.trans ?_ (by assumption)))⟩
end Go.Proofs.YtdeppnamhdbbhaaDoor
namespace Go.Proofs.YtdeppnamhdbbhaaDoor
open Go.RowKit Go.Eg

/-- A set's eight words, in a block that may be written. -/
def Arr (w : World) (b : Nat) (p : Nat → Bool) : Prop := ∀ j, j < 8 → w.cell? ⟨b, j, none⟩ = some (.int .u64 (wd p j : Nat)) ∧ w.frozen? ⟨b, j, none⟩ = false
def inR (x : Int) : Bool := decide (0 ≤ x) && decide (x < 512)
def okL (xs : List Int) : Bool := xs.all inR
def listSet (xs : List Int) (i : Nat) : Bool := xs.any fun x => x == (i : Int)

def ofS (xs : List Int) : Nat → Bool := if okL xs then listSet xs else fun _ => false
def ofE (xs : List Int) : Int := if okL xs then 0 else 11
theorem Arr.put {w : World} {b j u : Nat} {p p' : Nat → Bool} (h : Arr w b p) (hj : j < 8) (hu : u = wd p' j) (hp : ∀ k, k < 8 → k ≠ j → wd p' k = wd p k) : Arr (w.setCell ⟨b, j, none⟩ (.int .u64 (u : Nat))) b p' := by
  intro k hk
  obtain ⟨h1, h2⟩ := h k hk
  obtain ⟨h3, h4⟩ := h j hj
  subst hu
  by_cases hkj : k = j
  · subst hkj
    exact ⟨World.cell?_setCell_same w _ _ h1, by rw [World.frozen?_setCell]; exact h2⟩
  · rw [hp k hk hkj]
    exact ⟨by rw [World.cell?_setCell_other w _ _ _ (by simp)]; exact h1, by rw [World.frozen?_setCell]; exact h2⟩
def addSet (p : Nat → Bool) (x : Int) (i : Nat) : Bool := p i || x == (i : Int)
theorem shl_one (y : Int) (h0 : 0 ≤ y) (h1 : y < 64) : IntKind.u64.wrap (2 ^ min y.toNat 64) = 2 ^ y.toNat := by
  have hlt : 2 ^ y.toNat < 18446744073709551616 := Nat.pow_lt_pow_right (n := 64) (a := 2) (by omega) (by omega)
  have e : ((2 : Int) ^ y.toNat) = ((2 ^ y.toNat : Nat) : Int) := by simp
  rw [Nat.min_eq_left (by omega), e, IntKind.wrap_u64]
  generalize 2 ^ y.toNat = m at *
  omega
theorem add_word (p : Nat → Bool) (x : Int) (h0 : 0 ≤ x) : bits .or .u64 ((wd p (x / 64).toNat : Nat) : Int) (2 ^ (x % 64).toNat) = ((wd (addSet p x) (x / 64).toNat : Nat) : Int) := by
  have hb : (x % 64).toNat < 64 := by omega
  have hlt : 2 ^ (x % 64).toNat < 2 ^ 64 := Nat.pow_lt_pow_right (by omega) hb
  have e : ((2 : Int) ^ (x % 64).toNat) = ((2 ^ (x % 64).toNat : Nat) : Int) := by simp
  rw [e, u64_or_nat _ _ (wd_lt' _ _) hlt]
  congr 1
  refine word_ext (Nat.or_lt_two_pow (wd_lt _ _) hlt) (wd_lt _ _) fun b hb' => ?_
  rw [Nat.testBit_or, wd_bit, wd_bit, Nat.testBit_two_pow, addSet]
  simp only [hb', decide_true, Bool.true_and]
  congr 1
  by_cases e : (x % 64).toNat = b
  · have : x = ((64 * (x / 64).toNat + b : Nat) : Int) := by omega
    rw [decide_eq_true e]
    exact (beq_iff_eq.2 this).symm
  · have : ¬ x = ((64 * (x / 64).toNat + b : Nat) : Int) := by omega
    rw [decide_eq_false e]
    exact (beq_eq_false_iff_ne.2 this).symm
theorem add_other (p : Nat → Bool) (x : Int) (h0 : 0 ≤ x) (k : Nat) (hk : k ≠ (x / 64).toNat) : wd (addSet p x) k = wd p k :=
  wd_congr fun b hb => by
    unfold addSet
    have : ¬ x = ((64 * k + b : Nat) : Int) := by omega
    rw [beq_eq_false_iff_ne.2 this, Bool.or_false]
theorem listSet_snoc (xs : List Int) (x : Int) : listSet (xs ++ [x]) = addSet (listSet xs) x := by
  funext i; simp [listSet, addSet]
theorem listSet_take {xs : List Int} {i : Nat} {x : Int} (h : xs[i]? = some x) : listSet (xs.take (i + 1)) = addSet (listSet (xs.take i)) x := by
  rw [List.take_add_one, h]; exact listSet_snoc _ _
theorem wd_none (j : Nat) : wd (fun _ => false) j = 0 := word_ext (wd_lt _ _) (by decide) fun b _ => by rw [wd_bit]; simp
theorem Arr.other {w : World} {b j b' : Nat} {p : Nat → Bool} {u : Value} (h : Arr w b p) (hb : b ≠ b') : Arr (w.setCell ⟨b', j, none⟩ u) b p := by
  intro k hk
  obtain ⟨h1, h2⟩ := h k hk
  exact ⟨by rw [World.cell?_setCell_other w _ _ _ (fun e => hb (congrArg Addr.block e).symm)]; exact h1, by rw [World.frozen?_setCell]; exact h2⟩
theorem Arr.drew {w : World} {b : Nat} {p : Nat → Bool} (h : Arr w b p) : Arr w.drew b p := h

end Go.Proofs.YtdeppnamhdbbhaaDoor
namespace Go.Proofs.YtdeppnamhdbbhaaDoor
open Go.RowKit Go.Eg

set_option maxHeartbeats 1000000 in
theorem fits_calls (x : Int) (w : World) : Calls Tryd.prog 26 #[.int .i64 x] w fun e w' => e = .returned (.bool (inR x)) ∧ w' = w := by
  by_cases h0 : 0 ≤ x
  · have HI : Hid (decide (x < 512) = inR x) := by show _ = _; simp [inR, h0]
    go_enter Tryd.func26, Tryd.ntmps26
    go_wp2_with fail
    go_ret
    exact ⟨ret_bool HI.out, rfl⟩
  · have HI : Hid (false = inR x) := by show _ = _; simp [inR, h0]
    have h0' : decide (0 ≤ x) = false := by simpa using h0
    go_enter Tryd.func26, Tryd.ntmps26
    go_wp2_with fail
    go_ret
    exact ⟨ret_bool HI.out, rfl⟩

def fieldOk (at_ width : Int) : Bool := decide (1 ≤ width) && decide (width ≤ 64) && decide (0 ≤ at_) && decide (at_ ≤ 512 - width)
theorem test_ne (p : Nat → Bool) (x : Int) (h0 : 0 ≤ x) : (bits .and .u64 (((wd p (x / 64).toNat : Nat) : Int) / 2 ^ (x % 64).toNat) 1 != 0) = p x.toNat := by
  have hb : (x % 64).toNat < 64 := by omega
  have h := wd_test p (x / 64).toNat (x % 64).toNat hb
  rw [show 64 * (x / 64).toNat + (x % 64).toNat = x.toNat by omega] at h
  have hlt : wd p (x / 64).toNat / 2 ^ (x % 64).toNat < 18446744073709551616 := Nat.lt_of_le_of_lt (Nat.div_le_self _ _) (wd_lt' _ _)
  have e : ((wd p (x / 64).toNat : Nat) : Int) / 2 ^ (x % 64).toNat = ((wd p (x / 64).toNat / 2 ^ (x % 64).toNat : Nat) : Int) := by simp
  rw [e, show (1 : Int) = ((1 : Nat) : Int) from rfl, u64_and_nat _ _ hlt (by decide), Nat.and_one_is_mod, h]
  cases p x.toNat <;> rfl
set_option maxHeartbeats 1000000 in
theorem Has_calls (p : Nat → Bool) (x : Int) (w : World) : Calls Tryd.prog 14 #[Value.agg #[.int .u64 (wd (p) 0 : Nat), .int .u64 (wd (p) 1 : Nat), .int .u64 (wd (p) 2 : Nat), .int .u64 (wd (p) 3 : Nat), .int .u64 (wd (p) 4 : Nat), .int .u64 (wd (p) 5 : Nat), .int .u64 (wd (p) 6 : Nat), .int .u64 (wd (p) 7 : Nat)], .int .i64 x] w fun e w' => e = .returned (.bool (inSet p x)) ∧ Ext w w' := by
  by_cases h : inR x = true
  · have HR := Lib.hid h
    simp only [inR, Bool.and_eq_true, decide_eq_true_eq] at h
    obtain ⟨h0, h1⟩ := h
    have harr := set_at p (x / 64).toNat (by omega)
    have HT := Lib.hid (test_ne p x h0)
    have HI : Hid (inSet p x = p x.toNat) := by show _ = _; simp [inSet, h0, h1]
    go_enter Tryd.func14, Tryd.ntmps14
    go_wp2_with ((go_at_call 26; (with_reducible refine (fits_calls _ _).mono ?_); rintro e w' ⟨rfl, hw⟩; obtain rfl := hw.symm); rw [HR.out])
    go_ret
    exact ⟨ret_bool (by rw [HI.out]; exact HT.out), by (repeat (first | assumption | exact Ext.refl _ | apply Ext.alloc | apply Ext.drew | apply Ext.drewN | refine Ext.trans ?_ (by assumption)))⟩
  · have HR : Hid (inR x = false) := by show _ = _; simpa using h
    have HI : Hid (inSet p x = false) := by show _ = _; unfold inSet; have := HR.out; unfold inR at this; rw [this]; rfl
    clear h
    go_enter Tryd.func14, Tryd.ntmps14
    go_wp2_with ((go_at_call 26; (with_reducible refine (fits_calls _ _).mono ?_); rintro e w' ⟨rfl, hw⟩; obtain rfl := hw.symm); rw [HR.out])
    go_ret
    exact ⟨ret_bool HI.out.symm, by (repeat (first | assumption | exact Ext.refl _ | apply Ext.alloc | apply Ext.drew | apply Ext.drewN | refine Ext.trans ?_ (by assumption)))⟩
end Go.Proofs.YtdeppnamhdbbhaaDoor
namespace Go.Proofs.YtdeppnamhdbbhaaDoor
open Go.RowKit Go.Eg

/-- The numbers of a set below n, rising. -/
def numsB (p : Nat → Bool) (n : Nat) : List Int := ((List.range n).filter p).map fun (i : Nat) => (i : Int)
theorem numsB_pos {p : Nat → Bool} {n : Nat} (h : p n = true) : numsB p (n + 1) = numsB p n ++ [(n : Int)] := by
  unfold numsB; rw [List.range_succ, List.filter_append, List.map_append]; simp [h]
theorem numsB_neg {p : Nat → Bool} {n : Nat} (h : p n = false) : numsB p (n + 1) = numsB p n := by
  unfold numsB; rw [List.range_succ, List.filter_append, List.map_append]; simp [h]
theorem numsB_len (p : Nat → Bool) (n : Nat) : (numsB p n).length ≤ n := by
  unfold numsB; rw [List.length_map]; exact Nat.le_trans (List.length_filter_le _ _) (by simp)
theorem numsB_mem {p : Nat → Bool} {n : Nat} {x : Int} : x ∈ numsB p n ↔ ∃ i : Nat, i < n ∧ p i = true ∧ (i : Int) = x := by
  unfold numsB
  simp only [List.mem_map, List.mem_filter, List.mem_range]
  exact ⟨fun ⟨i, ⟨h1, h2⟩, h3⟩ => ⟨i, h1, h2, h3⟩, fun ⟨i, h1, h2, h3⟩ => ⟨i, ⟨h1, h2⟩, h3⟩⟩
theorem numsB_ok {p : Nat → Bool} {n : Nat} (h : n ≤ 512) : okL (numsB p n) = true := by
  unfold okL
  refine List.all_eq_true.2 fun x hx => ?_
  obtain ⟨i, hi, _, rfl⟩ := numsB_mem.1 hx
  simp [inR]; omega
theorem listSet_nums (p : Nat → Bool) (n i : Nat) : listSet (numsB p n) i = (decide (i < n) && p i) := by
  rw [Bool.eq_iff_iff, listSet, List.any_eq_true, Bool.and_eq_true, decide_eq_true_iff]
  constructor
  · rintro ⟨x, hx, hxi⟩
    obtain ⟨k, hk, hp, rfl⟩ := numsB_mem.1 hx
    have : k = i := by have := eq_of_beq hxi; omega
    subst this
    exact ⟨hk, hp⟩
  · rintro ⟨h1, h2⟩
    exact ⟨_, numsB_mem.2 ⟨i, h1, h2, rfl⟩, by simp⟩
theorem ofE_nums {p : Nat → Bool} {n : Nat} (h : n ≤ 512) : ofE (numsB p n) = 0 := by unfold ofE; rw [numsB_ok h]; rfl
theorem ofS_nums {p : Nat → Bool} {n : Nat} (h : n ≤ 512) : ofS (numsB p n) = fun i => decide (i < n) && p i := by
  unfold ofS; rw [numsB_ok h]; exact funext fun i => listSet_nums p n i
theorem wd_nums {p : Nat → Bool} (j : Nat) (h : j < 8) : wd (ofS (numsB p 512)) j = wd p j := by
  rw [ofS_nums (Nat.le_refl _)]
  refine wd_congr fun b hb => ?_
  rw [decide_eq_true (by omega), Bool.true_and]
/-- Two sets, word by word. -/
theorem sv_congr {p q : Nat → Bool} (h : ∀ j, j < 8 → wd p j = wd q j) : Value.agg #[.int .u64 (wd (p) 0 : Nat), .int .u64 (wd (p) 1 : Nat), .int .u64 (wd (p) 2 : Nat), .int .u64 (wd (p) 3 : Nat), .int .u64 (wd (p) 4 : Nat), .int .u64 (wd (p) 5 : Nat), .int .u64 (wd (p) 6 : Nat), .int .u64 (wd (p) 7 : Nat)] = Value.agg #[.int .u64 (wd (q) 0 : Nat), .int .u64 (wd (q) 1 : Nat), .int .u64 (wd (q) 2 : Nat), .int .u64 (wd (q) 3 : Nat), .int .u64 (wd (q) 4 : Nat), .int .u64 (wd (q) 5 : Nat), .int .u64 (wd (q) 6 : Nat), .int .u64 (wd (q) 7 : Nat)] := by
  rw [h 0 (by omega), h 1 (by omega), h 2 (by omega), h 3 (by omega), h 4 (by omega), h 5 (by omega), h 6 (by omega), h 7 (by omega)]
theorem Arr.ext {w w' : World} {b : Nat} {p : Nat → Bool} (h : Arr w b p) (he : Ext w w') (hb : b < w.heap.size) : Arr w' b p :=
  fun j hj => ⟨(he.cell _ _ hb).trans (h j hj).1, (he.frozens _ _ hb).trans (h j hj).2⟩
theorem Arr.made {W : World} {b : Nat} (p : Nat → Bool) {e : TypeId} (hb : b = W.heap.size) : Arr (W.alloc (.cells #[Value.int .u64 (wd (p) 0 : Nat), .int .u64 (wd (p) 1 : Nat), .int .u64 (wd (p) 2 : Nat), .int .u64 (wd (p) 3 : Nat), .int .u64 (wd (p) 4 : Nat), .int .u64 (wd (p) 5 : Nat), .int .u64 (wd (p) 6 : Nat), .int .u64 (wd (p) 7 : Nat)] e)) b p := by
  subst hb
  intro j hj
  match j, hj with
  | 0, _ => simp
  | 1, _ => simp
  | 2, _ => simp
  | 3, _ => simp
  | 4, _ => simp
  | 5, _ => simp
  | 6, _ => simp
  | 7, _ => simp
theorem Arr.zero {W : World} {b : Nat} {e : TypeId} (hb : b = W.heap.size) : Arr (W.alloc (.cells #[Value.int .u64 0, .int .u64 0, .int .u64 0, .int .u64 0, .int .u64 0, .int .u64 0, .int .u64 0, .int .u64 0] e)) b (fun _ => false) := by
  have h := Arr.made (W := W) (fun _ => false) (e := e) hb
  simp only [wd_none] at h
  exact h
theorem Arr.old {W : World} {b : Nat} {p : Nat → Bool} {o : Obj} (h : Arr W b p) (hb : b < W.heap.size) : Arr (W.alloc o) b p := h.ext ((Ext.refl _).alloc o) hb
end Go.Proofs.YtdeppnamhdbbhaaDoor
namespace Go.Proofs.YtdeppnamhdbbhaaDoor
open Go.RowKit Go.Eg

/-- The set of the numbers below i of p, each moved by x. -/
def shS (p : Nat → Bool) (x : Int) (i m : Nat) : Bool := decide (0 ≤ (m : Int) - x) && decide ((m : Int) - x < i) && p ((m : Int) - x).toNat
def shOk (x : Int) : Bool := decide (-512 < x) && decide (x < 512)
def shiftS (p : Nat → Bool) (x : Int) : Nat → Bool := if shOk x then shS p x 512 else fun _ => false
theorem sh_zero (p : Nat → Bool) (x : Int) : shS p x 0 = fun _ => false := by
  funext m; unfold shS
  by_cases h : 0 ≤ (m : Int) - x
  · rw [decide_eq_false (show ¬ ((m : Int) - x < ((0 : Nat) : Int)) by omega)]; simp
  · rw [decide_eq_false h]; simp
theorem sh_skip {p : Nat → Bool} {x : Int} {i : Nat} (h : p i = false) : shS p x (i + 1) = shS p x i := by
  funext m; unfold shS
  by_cases e : (m : Int) - x = i
  · rw [e, Int.toNat_natCast, h]; simp
  · congr 2; exact decide_eq_decide.2 ⟨fun _ => by omega, fun _ => by omega⟩
theorem sh_add {p : Nat → Bool} {x : Int} {i : Nat} (h : p i = true) : shS p x (i + 1) = addSet (shS p x i) ((i : Int) + x) := by
  funext m; unfold addSet
  by_cases e : (m : Int) - x = i
  · have e2 : ((i : Int) + x == (m : Int)) = true := beq_iff_eq.2 (by omega)
    rw [e2]; unfold shS; rw [e, Int.toNat_natCast, h]; simp; omega
  · have e2 : ((i : Int) + x == (m : Int)) = false := beq_eq_false_iff_ne.2 (by omega)
    rw [e2, Bool.or_false]; unfold shS
    congr 2; exact decide_eq_decide.2 ⟨fun _ => by omega, fun _ => by omega⟩
theorem add_out {q : Nat → Bool} {y : Int} (h : inR y = false) (j : Nat) (hj : j < 8) : wd (addSet q y) j = wd q j :=
  wd_congr fun b hb => by
    unfold addSet
    have e : (y == ((64 * j + b : Nat) : Int)) = false := beq_eq_false_iff_ne.2 fun e => by subst e; simp [inR] at h; omega
    rw [e, Bool.or_false]
/-- The reference's list. -/
def shL (x : Int) (L : List Int) : List Int := (L.filter fun y => inR (y + x)).map (· + x)
theorem shL_len (x : Int) (L : List Int) : (shL x L).length ≤ L.length := by unfold shL; rw [List.length_map]; exact List.length_filter_le _ _
theorem shL_in {x : Int} {L : List Int} {i : Nat} {y : Int} (hy : L[i]? = some y) (h : inR (y + x) = true) : shL x (L.take (i + 1)) = shL x (L.take i) ++ [y + x] := by
  rw [List.take_add_one, hy]; unfold shL; simp [h]
theorem shL_out {x : Int} {L : List Int} {i : Nat} {y : Int} (hy : L[i]? = some y) (h : inR (y + x) = false) : shL x (L.take (i + 1)) = shL x (L.take i) := by
  rw [List.take_add_one, hy]; unfold shL; simp [h]
theorem wd_shL (p : Nat → Bool) (x : Int) (j : Nat) (hj : j < 8) : wd (ofS (shL x (numsB p 512))) j = wd (shS p x 512) j := by
  have hok : okL (shL x (numsB p 512)) = true := by
    unfold okL
    refine List.all_eq_true.2 fun y hy => ?_
    unfold shL at hy
    obtain ⟨z, hz, rfl⟩ := List.mem_map.1 hy
    exact (List.mem_filter.1 hz).2
  unfold ofS
  rw [if_pos hok]
  refine wd_congr fun b hb => ?_
  rw [Bool.eq_iff_iff, listSet, List.any_eq_true]
  constructor
  · rintro ⟨y, hy, hyb⟩
    have hyb := eq_of_beq hyb
    unfold shL at hy
    obtain ⟨z, hz, rfl⟩ := List.mem_map.1 hy
    obtain ⟨i, hi, hp, rfl⟩ := numsB_mem.1 (List.mem_filter.1 hz).1
    unfold shS
    rw [show ((64 * j + b : Nat) : Int) - x = i by omega, Int.toNat_natCast, hp]
    simp; omega
  · intro h
    unfold shS at h
    simp only [Bool.and_eq_true, decide_eq_true_eq] at h
    obtain ⟨⟨h1, h2⟩, h3⟩ := h
    refine ⟨((64 * j + b : Nat) : Int), ?_, by simp⟩
    unfold shL
    refine List.mem_map.2 ⟨((64 * j + b : Nat) : Int) - x, List.mem_filter.2 ⟨numsB_mem.2 ⟨_, by omega, h3, by omega⟩, ?_⟩, by omega⟩
    simp [inR]; omega
theorem wd_of_nil (j : Nat) : wd (ofS []) j = 0 := by
  have : ofS [] = fun _ => false := by funext i; rfl
  rw [this, wd_none]
end Go.Proofs.YtdeppnamhdbbhaaDoor
namespace Go.Proofs.YtdeppnamhdbbhaaDoor
open Go.RowKit Go.Eg

def delSet (p : Nat → Bool) (x : Int) (i : Nat) : Bool := p i && !(x == (i : Int))
def withS (p : Nat → Bool) (x : Int) : Nat → Bool := if inR x then addSet p x else fun _ => false
def dropS (p : Nat → Bool) (x : Int) : Nat → Bool := if inR x then delSet p x else fun _ => false
def errI (x : Int) : Int := if inR x then 0 else 11
theorem del_word (p : Nat → Bool) (x : Int) (h0 : 0 ≤ x) : bits .andNot .u64 ((wd p (x / 64).toNat : Nat) : Int) (2 ^ (x % 64).toNat) = ((wd (delSet p x) (x / 64).toNat : Nat) : Int) := by
  have hb : (x % 64).toNat < 64 := by omega
  have hlt : 2 ^ (x % 64).toNat < 2 ^ 64 := Nat.pow_lt_pow_right (by omega) hb
  have e : ((2 : Int) ^ (x % 64).toNat) = ((2 ^ (x % 64).toNat : Nat) : Int) := by simp
  rw [e, u64_andNot_nat _ _ (wd_lt' _ _) hlt]
  congr 1
  refine word_ext (Nat.and_lt_two_pow _ (Nat.lt_of_le_of_lt (Nat.sub_le _ _) (by decide))) (wd_lt _ _) fun b hb' => ?_
  rw [Nat.testBit_and, not_bit hlt hb', wd_bit, wd_bit, Nat.testBit_two_pow, delSet]
  simp only [hb', decide_true, Bool.true_and]
  congr 2
  by_cases e : (x % 64).toNat = b
  · have : x = ((64 * (x / 64).toNat + b : Nat) : Int) := by omega
    rw [decide_eq_true e]
    exact (beq_iff_eq.2 this).symm
  · have : ¬ x = ((64 * (x / 64).toNat + b : Nat) : Int) := by omega
    rw [decide_eq_false e]
    exact (beq_eq_false_iff_ne.2 this).symm
theorem del_other (p : Nat → Bool) (x : Int) (h0 : 0 ≤ x) (k : Nat) (hk : k ≠ (x / 64).toNat) : wd (delSet p x) k = wd p k :=
  wd_congr fun b hb => by
    unfold delSet
    have : ¬ x = ((64 * k + b : Nat) : Int) := by omega
    rw [beq_eq_false_iff_ne.2 this]; simp
theorem okL_snoc (L : List Int) (x : Int) : okL (L ++ [x]) = (okL L && inR x) := by unfold okL; rw [List.all_append]; simp
theorem wd_with (p : Nat → Bool) (x : Int) (j : Nat) (hj : j < 8) : wd (ofS (numsB p 512 ++ [x])) j = wd (withS p x) j := by
  unfold ofS withS
  rw [okL_snoc, numsB_ok (Nat.le_refl _), Bool.true_and]
  by_cases h : inR x = true
  · rw [if_pos h, if_pos h, listSet_snoc]
    refine wd_congr fun b hb => ?_
    unfold addSet
    rw [listSet_nums, decide_eq_true (by omega), Bool.true_and]
  · rw [if_neg h, if_neg h]
theorem err_with (p : Nat → Bool) (x : Int) : ofE (numsB p 512 ++ [x]) = errI x := by
  unfold ofE errI; rw [okL_snoc, numsB_ok (Nat.le_refl _), Bool.true_and]
def delL (x : Int) (L : List Int) : List Int := L.filter fun y => y != x
theorem delL_len (x : Int) (L : List Int) : (delL x L).length ≤ L.length := List.length_filter_le _ _
theorem delL_in {x : Int} {L : List Int} {i : Nat} {y : Int} (hy : L[i]? = some y) (h : (y != x) = true) : delL x (L.take (i + 1)) = delL x (L.take i) ++ [y] := by
  rw [List.take_add_one, hy]; unfold delL; rw [List.filter_append]; simp only [Option.toList_some, List.filter_cons, h, if_true, List.filter_nil]
theorem delL_out {x : Int} {L : List Int} {i : Nat} {y : Int} (hy : L[i]? = some y) (h : (y != x) = false) : delL x (L.take (i + 1)) = delL x (L.take i) := by
  rw [List.take_add_one, hy]; unfold delL; rw [List.filter_append]; simp only [Option.toList_some, List.filter_cons, h, List.filter_nil]; simp
theorem okL_del (p : Nat → Bool) (x : Int) : okL (delL x (numsB p 512)) = true := by
  unfold okL delL
  refine List.all_eq_true.2 fun y hy => ?_
  have := List.all_eq_true.1 (numsB_ok (p := p) (Nat.le_refl 512)) y (List.mem_filter.1 hy).1
  exact this
theorem err_del (p : Nat → Bool) (x : Int) : ofE (delL x (numsB p 512)) = 0 := by unfold ofE; rw [if_pos (okL_del p x)]
theorem wd_del (p : Nat → Bool) (x : Int) (j : Nat) (hj : j < 8) : wd (ofS (delL x (numsB p 512))) j = wd (delSet p x) j := by
  unfold ofS
  rw [if_pos (okL_del p x)]
  refine wd_congr fun b hb => ?_
  rw [Bool.eq_iff_iff, listSet, List.any_eq_true]
  constructor
  · rintro ⟨y, hy, hyb⟩
    have hyb := eq_of_beq hyb
    unfold delL at hy
    obtain ⟨h1, h2⟩ := List.mem_filter.1 hy
    obtain ⟨i, hi, hp, rfl⟩ := numsB_mem.1 h1
    have : i = 64 * j + b := by omega
    subst this
    unfold delSet
    rw [hp]
    have h3 : (x == ((64 * j + b : Nat) : Int)) = false := beq_eq_false_iff_ne.2 fun e => by rw [e] at h2; simp at h2
    rw [h3]; rfl
  · intro h
    unfold delSet at h
    rw [Bool.and_eq_true] at h
    obtain ⟨h1, h2⟩ := h
    refine ⟨((64 * j + b : Nat) : Int), ?_, by simp⟩
    unfold delL
    refine List.mem_filter.2 ⟨numsB_mem.2 ⟨_, by omega, h1, rfl⟩, ?_⟩
    refine bne_iff_ne.2 fun e => ?_
    rw [← e] at h2
    simp at h2
end Go.Proofs.YtdeppnamhdbbhaaDoor
namespace Go.Proofs.YtdeppnamhdbbhaaDoor
open Go.RowKit Go.Eg

set_option maxHeartbeats 2000000 in
set_option maxRecDepth 100000 in
theorem With_calls (p : Nat → Bool) (x : Int) (w : World) : Calls Tryd.prog 75 #[Value.agg #[.int .u64 (wd (p) 0 : Nat), .int .u64 (wd (p) 1 : Nat), .int .u64 (wd (p) 2 : Nat), .int .u64 (wd (p) 3 : Nat), .int .u64 (wd (p) 4 : Nat), .int .u64 (wd (p) 5 : Nat), .int .u64 (wd (p) 6 : Nat), .int .u64 (wd (p) 7 : Nat)], .int .i64 x] w fun e w' => e = .returned (.tuple #[Value.agg #[.int .u64 (wd (withS p x) 0 : Nat), .int .u64 (wd (withS p x) 1 : Nat), .int .u64 (wd (withS p x) 2 : Nat), .int .u64 (wd (withS p x) 3 : Nat), .int .u64 (wd (withS p x) 4 : Nat), .int .u64 (wd (withS p x) 5 : Nat), .int .u64 (wd (withS p x) 6 : Nat), .int .u64 (wd (withS p x) 7 : Nat)], .int .i64 (errI x)]) ∧ Ext w w' := by
  have HB : Hid (Arr ((w.alloc (.cells #[Value.int .u64 (wd (p) 0 : Nat), .int .u64 (wd (p) 1 : Nat), .int .u64 (wd (p) 2 : Nat), .int .u64 (wd (p) 3 : Nat), .int .u64 (wd (p) 4 : Nat), .int .u64 (wd (p) 5 : Nat), .int .u64 (wd (p) 6 : Nat), .int .u64 (wd (p) 7 : Nat)] 31)).alloc (.cells #[Value.int .u64 0, .int .u64 0, .int .u64 0, .int .u64 0, .int .u64 0, .int .u64 0, .int .u64 0, .int .u64 0] 31)) w.heap.size p) := Lib.hid ((Arr.made p rfl).old (by simp))
  have HZ : Hid (Arr ((w.alloc (.cells #[Value.int .u64 (wd (p) 0 : Nat), .int .u64 (wd (p) 1 : Nat), .int .u64 (wd (p) 2 : Nat), .int .u64 (wd (p) 3 : Nat), .int .u64 (wd (p) 4 : Nat), .int .u64 (wd (p) 5 : Nat), .int .u64 (wd (p) 6 : Nat), .int .u64 (wd (p) 7 : Nat)] 31)).alloc (.cells #[Value.int .u64 0, .int .u64 0, .int .u64 0, .int .u64 0, .int .u64 0, .int .u64 0, .int .u64 0, .int .u64 0] 31)) (w.heap.size + 1) (fun _ => false)) := Lib.hid (Arr.zero (by simp))
  have HX : Hid (Ext w ((w.alloc (.cells #[Value.int .u64 (wd (p) 0 : Nat), .int .u64 (wd (p) 1 : Nat), .int .u64 (wd (p) 2 : Nat), .int .u64 (wd (p) 3 : Nat), .int .u64 (wd (p) 4 : Nat), .int .u64 (wd (p) 5 : Nat), .int .u64 (wd (p) 6 : Nat), .int .u64 (wd (p) 7 : Nat)] 31)).alloc (.cells #[Value.int .u64 0, .int .u64 0, .int .u64 0, .int .u64 0, .int .u64 0, .int .u64 0, .int .u64 0, .int .u64 0] 31))) := by show Ext _ _; (repeat (first | assumption | exact Ext.refl _ | apply Ext.alloc | apply Ext.drew | apply Ext.drewN | refine Ext.set ?_ (by first | exact Nat.le_refl _ | assumption | exact Nat.le_succ _ | exact Nat.le_add_right _ _ | exact Nat.le_trans (Nat.le_succ _) (Nat.le_succ _) | omega) _ | refine Ext.trans ?_ (by assumption)))
  by_cases hin : inR x = true
  · have HIN := Lib.hid hin
    have HE : Hid (errI x = 0) := if_pos hin
    have HF : Hid (withS p x = addSet p x) := if_pos hin
    simp only [inR, Bool.and_eq_true, decide_eq_true_eq] at hin
    obtain ⟨h0, h1⟩ := hin
    have hq0 : 0 ≤ x / 64 := by omega
    have hq1 : x / 64 < 8 := by omega
    have hq2 : 0 ≤ x % 64 := by omega
    have hq3 : x % 64 < 64 := by omega
    have hd1 : x.tdiv 64 = x / 64 := Int.tdiv_eq_ediv_of_nonneg h0
    have hd2 : x.tmod 64 = x % 64 := Int.tmod_eq_emod_of_nonneg h0
    have hd3 : IntKind.i64.wrap (x / 64) = x / 64 := IntWalk.i64_in _ (by omega)
    have hd4 : IntKind.i64.wrap (x % 64) = x % 64 := IntWalk.i64_in _ (by omega)
    have hd6 := shl_one (x % 64) hq2 hq3
    have hd8 : IntKind.u64.wrap (2 ^ (x % 64).toNat) = 2 ^ (x % 64).toNat := by rw [Nat.min_eq_left (by omega)] at hd6; exact hd6
    have hd7 := add_word p x h0
    go_enter Tryd.func75, Tryd.ntmps75
    go_wp2_with ((go_at_call 26; (with_reducible refine (fits_calls _ _).mono ?_); rintro e w' ⟨rfl, hw⟩; obtain rfl := hw.symm); rw [HIN.out])
    generalize (w.alloc (.cells #[Value.int .u64 (wd (p) 0 : Nat), .int .u64 (wd (p) 1 : Nat), .int .u64 (wd (p) 2 : Nat), .int .u64 (wd (p) 3 : Nat), .int .u64 (wd (p) 4 : Nat), .int .u64 (wd (p) 5 : Nat), .int .u64 (wd (p) 6 : Nat), .int .u64 (wd (p) 7 : Nat)] 31)).alloc (.cells #[Value.int .u64 0, .int .u64 0, .int .u64 0, .int .u64 0, .int .u64 0, .int .u64 0, .int .u64 0, .int .u64 0] 31) = W at *
    obtain ⟨hw, hf⟩ := HB.out (x / 64).toNat (by omega)
    have HA' : Hid (Arr (W.setCell ⟨w.heap.size, (x / 64).toNat, none⟩ (.int .u64 (wd (addSet p x) (x / 64).toNat : Nat))) w.heap.size (addSet p x)) := HB.out.put (by omega) rfl (fun k _ hk => add_other _ _ h0 k hk)
    have HZ' : Hid (Arr (W.setCell ⟨w.heap.size, (x / 64).toNat, none⟩ (.int .u64 (wd (addSet p x) (x / 64).toNat : Nat))) (w.heap.size + 1) (fun _ => false)) := HZ.out.other (by omega)
    have HE' : Hid (Ext w (W.setCell ⟨w.heap.size, (x / 64).toNat, none⟩ (.int .u64 (wd (addSet p x) (x / 64).toNat : Nat)))) := HX.out.set (Nat.le_refl _) _
    go_region_with (fail)
    all_goals
      replace HA' := Lib.hid HA'.out.drew
      replace HZ' := Lib.hid HZ'.out.drew
      replace HE' := Lib.hid HE'.out.drew
      generalize (W.setCell ⟨w.heap.size, (x / 64).toNat, none⟩ (.int .u64 (wd (addSet p x) (x / 64).toNat : Nat))).drew = W2 at HA' HZ' HE' ⊢
      clear hw hf hd1 hd2 hd3 hd4 hd6 hd7 hd8 hq0 hq1 hq2 hq3 h0 h1
      have H__ := (HA').out; obtain ⟨ce0, fe0⟩ := H__ 0 (by omega); obtain ⟨ce1, fe1⟩ := H__ 1 (by omega); obtain ⟨ce2, fe2⟩ := H__ 2 (by omega); obtain ⟨ce3, fe3⟩ := H__ 3 (by omega); obtain ⟨ce4, fe4⟩ := H__ 4 (by omega); obtain ⟨ce5, fe5⟩ := H__ 5 (by omega); obtain ⟨ce6, fe6⟩ := H__ 6 (by omega); obtain ⟨ce7, fe7⟩ := H__ 7 (by omega); clear H__
      have H__ := (HZ').out; obtain ⟨de0, ge0⟩ := H__ 0 (by omega); obtain ⟨de1, ge1⟩ := H__ 1 (by omega); obtain ⟨de2, ge2⟩ := H__ 2 (by omega); obtain ⟨de3, ge3⟩ := H__ 3 (by omega); obtain ⟨de4, ge4⟩ := H__ 4 (by omega); obtain ⟨de5, ge5⟩ := H__ 5 (by omega); obtain ⟨de6, ge6⟩ := H__ 6 (by omega); obtain ⟨de7, ge7⟩ := H__ 7 (by omega); clear H__
      have HEX : Hid (Ext w ((((((((W2.setCell ⟨w.heap.size + 1, 0, none⟩ (.int .u64 (wd (addSet p x) 0 : Nat))).setCell ⟨w.heap.size + 1, 1, none⟩ (.int .u64 (wd (addSet p x) 1 : Nat))).setCell ⟨w.heap.size + 1, 2, none⟩ (.int .u64 (wd (addSet p x) 2 : Nat))).setCell ⟨w.heap.size + 1, 3, none⟩ (.int .u64 (wd (addSet p x) 3 : Nat))).setCell ⟨w.heap.size + 1, 4, none⟩ (.int .u64 (wd (addSet p x) 4 : Nat))).setCell ⟨w.heap.size + 1, 5, none⟩ (.int .u64 (wd (addSet p x) 5 : Nat))).setCell ⟨w.heap.size + 1, 6, none⟩ (.int .u64 (wd (addSet p x) 6 : Nat))).setCell ⟨w.heap.size + 1, 7, none⟩ (.int .u64 (wd (addSet p x) 7 : Nat)))) := ((((((((HE'.out.set (by first | exact Nat.le_refl _ | exact Nat.le_succ _ | exact Nat.le_add_right _ _ | exact Nat.le_trans (Nat.le_succ _) (Nat.le_succ _) | omega) _).set (by first | exact Nat.le_refl _ | exact Nat.le_succ _ | exact Nat.le_add_right _ _ | exact Nat.le_trans (Nat.le_succ _) (Nat.le_succ _) | omega) _).set (by first | exact Nat.le_refl _ | exact Nat.le_succ _ | exact Nat.le_add_right _ _ | exact Nat.le_trans (Nat.le_succ _) (Nat.le_succ _) | omega) _).set (by first | exact Nat.le_refl _ | exact Nat.le_succ _ | exact Nat.le_add_right _ _ | exact Nat.le_trans (Nat.le_succ _) (Nat.le_succ _) | omega) _).set (by first | exact Nat.le_refl _ | exact Nat.le_succ _ | exact Nat.le_add_right _ _ | exact Nat.le_trans (Nat.le_succ _) (Nat.le_succ _) | omega) _).set (by first | exact Nat.le_refl _ | exact Nat.le_succ _ | exact Nat.le_add_right _ _ | exact Nat.le_trans (Nat.le_succ _) (Nat.le_succ _) | omega) _).set (by first | exact Nat.le_refl _ | exact Nat.le_succ _ | exact Nat.le_add_right _ _ | exact Nat.le_trans (Nat.le_succ _) (Nat.le_succ _) | omega) _).set (by first | exact Nat.le_refl _ | exact Nat.le_succ _ | exact Nat.le_add_right _ _ | exact Nat.le_trans (Nat.le_succ _) (Nat.le_succ _) | omega) _)
      go_wp2_with fail
      exact bodyPost_ret (v := .tuple #[Value.agg #[.int .u64 (wd (addSet p x) 0 : Nat), .int .u64 (wd (addSet p x) 1 : Nat), .int .u64 (wd (addSet p x) 2 : Nat), .int .u64 (wd (addSet p x) 3 : Nat), .int .u64 (wd (addSet p x) 4 : Nat), .int .u64 (wd (addSet p x) 5 : Nat), .int .u64 (wd (addSet p x) 6 : Nat), .int .u64 (wd (addSet p x) 7 : Nat)], .int .i64 0]) (by simp [results, Tryd.results75, go_sem, *]) rfl ⟨by rw [HF.out, HE.out], HEX⟩
  · have HIN : Hid (inR x = false) := by show _ = _; simpa using hin
    have HE : Hid (errI x = 11) := if_neg hin
    have HF : Hid (withS p x = fun _ => false) := if_neg hin
    clear hin
    go_enter Tryd.func75, Tryd.ntmps75
    go_wp2_with ((go_at_call 26; (with_reducible refine (fits_calls _ _).mono ?_); rintro e w' ⟨rfl, hw⟩; obtain rfl := hw.symm); rw [HIN.out])
    exact bodyPost_ret (v := .tuple #[Value.agg #[.int .u64 0, .int .u64 0, .int .u64 0, .int .u64 0, .int .u64 0, .int .u64 0, .int .u64 0, .int .u64 0], .int .i64 11]) (by simp [results, Tryd.results75, go_sem, *]) rfl ⟨by rw [HF.out, HE.out]; simp [wd_none], by (repeat (first | assumption | exact Ext.refl _ | apply Ext.alloc | apply Ext.drew | apply Ext.drewN | refine Ext.set ?_ (by first | exact Nat.le_refl _ | assumption | exact Nat.le_succ _ | exact Nat.le_add_right _ _ | exact Nat.le_trans (Nat.le_succ _) (Nat.le_succ _) | omega) _ | refine Ext.trans ?_ (by assumption)))⟩

set_option maxHeartbeats 2000000 in
set_option maxRecDepth 100000 in
theorem Without_calls (p : Nat → Bool) (x : Int) (w : World) : Calls Tryd.prog 68 #[Value.agg #[.int .u64 (wd (p) 0 : Nat), .int .u64 (wd (p) 1 : Nat), .int .u64 (wd (p) 2 : Nat), .int .u64 (wd (p) 3 : Nat), .int .u64 (wd (p) 4 : Nat), .int .u64 (wd (p) 5 : Nat), .int .u64 (wd (p) 6 : Nat), .int .u64 (wd (p) 7 : Nat)], .int .i64 x] w fun e w' => e = .returned (.tuple #[Value.agg #[.int .u64 (wd (dropS p x) 0 : Nat), .int .u64 (wd (dropS p x) 1 : Nat), .int .u64 (wd (dropS p x) 2 : Nat), .int .u64 (wd (dropS p x) 3 : Nat), .int .u64 (wd (dropS p x) 4 : Nat), .int .u64 (wd (dropS p x) 5 : Nat), .int .u64 (wd (dropS p x) 6 : Nat), .int .u64 (wd (dropS p x) 7 : Nat)], .int .i64 (errI x)]) ∧ Ext w w' := by
  have HB : Hid (Arr ((w.alloc (.cells #[Value.int .u64 (wd (p) 0 : Nat), .int .u64 (wd (p) 1 : Nat), .int .u64 (wd (p) 2 : Nat), .int .u64 (wd (p) 3 : Nat), .int .u64 (wd (p) 4 : Nat), .int .u64 (wd (p) 5 : Nat), .int .u64 (wd (p) 6 : Nat), .int .u64 (wd (p) 7 : Nat)] 31)).alloc (.cells #[Value.int .u64 0, .int .u64 0, .int .u64 0, .int .u64 0, .int .u64 0, .int .u64 0, .int .u64 0, .int .u64 0] 31)) w.heap.size p) := Lib.hid ((Arr.made p rfl).old (by simp))
  have HZ : Hid (Arr ((w.alloc (.cells #[Value.int .u64 (wd (p) 0 : Nat), .int .u64 (wd (p) 1 : Nat), .int .u64 (wd (p) 2 : Nat), .int .u64 (wd (p) 3 : Nat), .int .u64 (wd (p) 4 : Nat), .int .u64 (wd (p) 5 : Nat), .int .u64 (wd (p) 6 : Nat), .int .u64 (wd (p) 7 : Nat)] 31)).alloc (.cells #[Value.int .u64 0, .int .u64 0, .int .u64 0, .int .u64 0, .int .u64 0, .int .u64 0, .int .u64 0, .int .u64 0] 31)) (w.heap.size + 1) (fun _ => false)) := Lib.hid (Arr.zero (by simp))
  have HX : Hid (Ext w ((w.alloc (.cells #[Value.int .u64 (wd (p) 0 : Nat), .int .u64 (wd (p) 1 : Nat), .int .u64 (wd (p) 2 : Nat), .int .u64 (wd (p) 3 : Nat), .int .u64 (wd (p) 4 : Nat), .int .u64 (wd (p) 5 : Nat), .int .u64 (wd (p) 6 : Nat), .int .u64 (wd (p) 7 : Nat)] 31)).alloc (.cells #[Value.int .u64 0, .int .u64 0, .int .u64 0, .int .u64 0, .int .u64 0, .int .u64 0, .int .u64 0, .int .u64 0] 31))) := by show Ext _ _; (repeat (first | assumption | exact Ext.refl _ | apply Ext.alloc | apply Ext.drew | apply Ext.drewN | refine Ext.set ?_ (by first | exact Nat.le_refl _ | assumption | exact Nat.le_succ _ | exact Nat.le_add_right _ _ | exact Nat.le_trans (Nat.le_succ _) (Nat.le_succ _) | omega) _ | refine Ext.trans ?_ (by assumption)))
  by_cases hin : inR x = true
  · have HIN := Lib.hid hin
    have HE : Hid (errI x = 0) := if_pos hin
    have HF : Hid (dropS p x = delSet p x) := if_pos hin
    simp only [inR, Bool.and_eq_true, decide_eq_true_eq] at hin
    obtain ⟨h0, h1⟩ := hin
    have hq0 : 0 ≤ x / 64 := by omega
    have hq1 : x / 64 < 8 := by omega
    have hq2 : 0 ≤ x % 64 := by omega
    have hq3 : x % 64 < 64 := by omega
    have hd1 : x.tdiv 64 = x / 64 := Int.tdiv_eq_ediv_of_nonneg h0
    have hd2 : x.tmod 64 = x % 64 := Int.tmod_eq_emod_of_nonneg h0
    have hd3 : IntKind.i64.wrap (x / 64) = x / 64 := IntWalk.i64_in _ (by omega)
    have hd4 : IntKind.i64.wrap (x % 64) = x % 64 := IntWalk.i64_in _ (by omega)
    have hd6 := shl_one (x % 64) hq2 hq3
    have hd8 : IntKind.u64.wrap (2 ^ (x % 64).toNat) = 2 ^ (x % 64).toNat := by rw [Nat.min_eq_left (by omega)] at hd6; exact hd6
    have hd7 := del_word p x h0
    go_enter Tryd.func68, Tryd.ntmps68
    go_wp2_with ((go_at_call 26; (with_reducible refine (fits_calls _ _).mono ?_); rintro e w' ⟨rfl, hw⟩; obtain rfl := hw.symm); rw [HIN.out])
    generalize (w.alloc (.cells #[Value.int .u64 (wd (p) 0 : Nat), .int .u64 (wd (p) 1 : Nat), .int .u64 (wd (p) 2 : Nat), .int .u64 (wd (p) 3 : Nat), .int .u64 (wd (p) 4 : Nat), .int .u64 (wd (p) 5 : Nat), .int .u64 (wd (p) 6 : Nat), .int .u64 (wd (p) 7 : Nat)] 31)).alloc (.cells #[Value.int .u64 0, .int .u64 0, .int .u64 0, .int .u64 0, .int .u64 0, .int .u64 0, .int .u64 0, .int .u64 0] 31) = W at *
    obtain ⟨hw, hf⟩ := HB.out (x / 64).toNat (by omega)
    have HA' : Hid (Arr (W.setCell ⟨w.heap.size, (x / 64).toNat, none⟩ (.int .u64 (wd (delSet p x) (x / 64).toNat : Nat))) w.heap.size (delSet p x)) := HB.out.put (by omega) rfl (fun k _ hk => del_other _ _ h0 k hk)
    have HZ' : Hid (Arr (W.setCell ⟨w.heap.size, (x / 64).toNat, none⟩ (.int .u64 (wd (delSet p x) (x / 64).toNat : Nat))) (w.heap.size + 1) (fun _ => false)) := HZ.out.other (by omega)
    have HE' : Hid (Ext w (W.setCell ⟨w.heap.size, (x / 64).toNat, none⟩ (.int .u64 (wd (delSet p x) (x / 64).toNat : Nat)))) := HX.out.set (Nat.le_refl _) _
    go_region_with (fail)
    all_goals
      replace HA' := Lib.hid HA'.out.drew
      replace HZ' := Lib.hid HZ'.out.drew
      replace HE' := Lib.hid HE'.out.drew
      generalize (W.setCell ⟨w.heap.size, (x / 64).toNat, none⟩ (.int .u64 (wd (delSet p x) (x / 64).toNat : Nat))).drew = W2 at HA' HZ' HE' ⊢
      clear hw hf hd1 hd2 hd3 hd4 hd6 hd7 hd8 hq0 hq1 hq2 hq3 h0 h1
      have H__ := (HA').out; obtain ⟨ce0, fe0⟩ := H__ 0 (by omega); obtain ⟨ce1, fe1⟩ := H__ 1 (by omega); obtain ⟨ce2, fe2⟩ := H__ 2 (by omega); obtain ⟨ce3, fe3⟩ := H__ 3 (by omega); obtain ⟨ce4, fe4⟩ := H__ 4 (by omega); obtain ⟨ce5, fe5⟩ := H__ 5 (by omega); obtain ⟨ce6, fe6⟩ := H__ 6 (by omega); obtain ⟨ce7, fe7⟩ := H__ 7 (by omega); clear H__
      have H__ := (HZ').out; obtain ⟨de0, ge0⟩ := H__ 0 (by omega); obtain ⟨de1, ge1⟩ := H__ 1 (by omega); obtain ⟨de2, ge2⟩ := H__ 2 (by omega); obtain ⟨de3, ge3⟩ := H__ 3 (by omega); obtain ⟨de4, ge4⟩ := H__ 4 (by omega); obtain ⟨de5, ge5⟩ := H__ 5 (by omega); obtain ⟨de6, ge6⟩ := H__ 6 (by omega); obtain ⟨de7, ge7⟩ := H__ 7 (by omega); clear H__
      have HEX : Hid (Ext w ((((((((W2.setCell ⟨w.heap.size + 1, 0, none⟩ (.int .u64 (wd (delSet p x) 0 : Nat))).setCell ⟨w.heap.size + 1, 1, none⟩ (.int .u64 (wd (delSet p x) 1 : Nat))).setCell ⟨w.heap.size + 1, 2, none⟩ (.int .u64 (wd (delSet p x) 2 : Nat))).setCell ⟨w.heap.size + 1, 3, none⟩ (.int .u64 (wd (delSet p x) 3 : Nat))).setCell ⟨w.heap.size + 1, 4, none⟩ (.int .u64 (wd (delSet p x) 4 : Nat))).setCell ⟨w.heap.size + 1, 5, none⟩ (.int .u64 (wd (delSet p x) 5 : Nat))).setCell ⟨w.heap.size + 1, 6, none⟩ (.int .u64 (wd (delSet p x) 6 : Nat))).setCell ⟨w.heap.size + 1, 7, none⟩ (.int .u64 (wd (delSet p x) 7 : Nat)))) := ((((((((HE'.out.set (by first | exact Nat.le_refl _ | exact Nat.le_succ _ | exact Nat.le_add_right _ _ | exact Nat.le_trans (Nat.le_succ _) (Nat.le_succ _) | omega) _).set (by first | exact Nat.le_refl _ | exact Nat.le_succ _ | exact Nat.le_add_right _ _ | exact Nat.le_trans (Nat.le_succ _) (Nat.le_succ _) | omega) _).set (by first | exact Nat.le_refl _ | exact Nat.le_succ _ | exact Nat.le_add_right _ _ | exact Nat.le_trans (Nat.le_succ _) (Nat.le_succ _) | omega) _).set (by first | exact Nat.le_refl _ | exact Nat.le_succ _ | exact Nat.le_add_right _ _ | exact Nat.le_trans (Nat.le_succ _) (Nat.le_succ _) | omega) _).set (by first | exact Nat.le_refl _ | exact Nat.le_succ _ | exact Nat.le_add_right _ _ | exact Nat.le_trans (Nat.le_succ _) (Nat.le_succ _) | omega) _).set (by first | exact Nat.le_refl _ | exact Nat.le_succ _ | exact Nat.le_add_right _ _ | exact Nat.le_trans (Nat.le_succ _) (Nat.le_succ _) | omega) _).set (by first | exact Nat.le_refl _ | exact Nat.le_succ _ | exact Nat.le_add_right _ _ | exact Nat.le_trans (Nat.le_succ _) (Nat.le_succ _) | omega) _).set (by first | exact Nat.le_refl _ | exact Nat.le_succ _ | exact Nat.le_add_right _ _ | exact Nat.le_trans (Nat.le_succ _) (Nat.le_succ _) | omega) _)
      go_wp2_with fail
      exact bodyPost_ret (v := .tuple #[Value.agg #[.int .u64 (wd (delSet p x) 0 : Nat), .int .u64 (wd (delSet p x) 1 : Nat), .int .u64 (wd (delSet p x) 2 : Nat), .int .u64 (wd (delSet p x) 3 : Nat), .int .u64 (wd (delSet p x) 4 : Nat), .int .u64 (wd (delSet p x) 5 : Nat), .int .u64 (wd (delSet p x) 6 : Nat), .int .u64 (wd (delSet p x) 7 : Nat)], .int .i64 0]) (by simp [results, Tryd.results68, go_sem, *]) rfl ⟨by rw [HF.out, HE.out], HEX⟩
  · have HIN : Hid (inR x = false) := by show _ = _; simpa using hin
    have HE : Hid (errI x = 11) := if_neg hin
    have HF : Hid (dropS p x = fun _ => false) := if_neg hin
    clear hin
    go_enter Tryd.func68, Tryd.ntmps68
    go_wp2_with ((go_at_call 26; (with_reducible refine (fits_calls _ _).mono ?_); rintro e w' ⟨rfl, hw⟩; obtain rfl := hw.symm); rw [HIN.out])
    exact bodyPost_ret (v := .tuple #[Value.agg #[.int .u64 0, .int .u64 0, .int .u64 0, .int .u64 0, .int .u64 0, .int .u64 0, .int .u64 0, .int .u64 0], .int .i64 11]) (by simp [results, Tryd.results68, go_sem, *]) rfl ⟨by rw [HF.out, HE.out]; simp [wd_none], by (repeat (first | assumption | exact Ext.refl _ | apply Ext.alloc | apply Ext.drew | apply Ext.drewN | refine Ext.set ?_ (by first | exact Nat.le_refl _ | assumption | exact Nat.le_succ _ | exact Nat.le_add_right _ _ | exact Nat.le_trans (Nat.le_succ _) (Nat.le_succ _) | omega) _ | refine Ext.trans ?_ (by assumption)))⟩
end Go.Proofs.YtdeppnamhdbbhaaDoor
namespace Go.Proofs.YtdeppnamhdbbhaaDoor
open Go.RowKit Go.Eg

def orS (p q : Nat → Bool) (i : Nat) : Bool := p i || q i
def andS (p q : Nat → Bool) (i : Nat) : Bool := p i && q i
def subS (p q : Nat → Bool) (i : Nat) : Bool := p i && !q i
/-- The set of which the words below j are already another's. -/
def upS (p r : Nat → Bool) (j i : Nat) : Bool := if i / 64 < j then r i else p i
theorem up_lt (p r : Nat → Bool) {j k : Nat} (h : k < j) : wd (upS p r j) k = wd r k := wd_congr fun b hb => by unfold upS; rw [if_pos (by omega)]
theorem up_ge (p r : Nat → Bool) {j k : Nat} (h : j ≤ k) : wd (upS p r j) k = wd p k := wd_congr fun b hb => by unfold upS; rw [if_neg (by omega)]
theorem Arr.up {w : World} {b j : Nat} {p r : Nat → Bool} (h : Arr w b (upS p r j)) (hj : j < 8) : Arr (w.setCell ⟨b, j, none⟩ (.int .u64 (wd r j : Nat))) b (upS p r (j + 1)) :=
  h.put hj (up_lt _ _ (Nat.lt_succ_self _)).symm (fun k _ hkj => by
    by_cases hk : k < j
    · rw [up_lt _ _ hk, up_lt _ _ (by omega)]
    · rw [up_ge _ _ (by omega), up_ge _ _ (by omega)])
theorem Arr.all {w : World} {b : Nat} {p r : Nat → Bool} (h : Arr w b (upS p r 8)) : Arr w b r := fun k hk => by
  have := h k hk
  rwa [up_lt _ _ hk] at this

theorem union_word (p q : Nat → Bool) (j : Nat) (w : World) : Calls Tryd.prog 77 #[.int .u64 (wd p j : Nat), .int .u64 (wd q j : Nat)] w fun e w' => e = .returned (.int .u64 (wd (orS p q) j : Nat)) ∧ w' = w := by
  have HW : Hid (wd (orS p q) j = _) := (wd_or p q j).symm
  have HL := Lib.hid (u64_or_nat (wd p j) (wd q j) (wd_lt' _ _) (wd_lt' _ _))
  go_enter Tryd.func77, Tryd.ntmps77
  go_wp2_with fail
  go_ret
  exact ⟨ret_int (by rw [HW.out]; exact HL.out), rfl⟩
set_option maxHeartbeats 2000000 in
set_option maxRecDepth 100000 in
theorem union_both (p q : Nat → Bool) (w : World) : Calls Tryd.prog 76 #[Value.agg #[.int .u64 (wd (p) 0 : Nat), .int .u64 (wd (p) 1 : Nat), .int .u64 (wd (p) 2 : Nat), .int .u64 (wd (p) 3 : Nat), .int .u64 (wd (p) 4 : Nat), .int .u64 (wd (p) 5 : Nat), .int .u64 (wd (p) 6 : Nat), .int .u64 (wd (p) 7 : Nat)], Value.agg #[.int .u64 (wd (q) 0 : Nat), .int .u64 (wd (q) 1 : Nat), .int .u64 (wd (q) 2 : Nat), .int .u64 (wd (q) 3 : Nat), .int .u64 (wd (q) 4 : Nat), .int .u64 (wd (q) 5 : Nat), .int .u64 (wd (q) 6 : Nat), .int .u64 (wd (q) 7 : Nat)], .func (.func 77) #[] #[]] w fun e w' => e = .returned (Value.agg #[.int .u64 (wd (orS p q) 0 : Nat), .int .u64 (wd (orS p q) 1 : Nat), .int .u64 (wd (orS p q) 2 : Nat), .int .u64 (wd (orS p q) 3 : Nat), .int .u64 (wd (orS p q) 4 : Nat), .int .u64 (wd (orS p q) 5 : Nat), .int .u64 (wd (orS p q) 6 : Nat), .int .u64 (wd (orS p q) 7 : Nat)]) ∧ Ext w w' := by
  obtain ⟨r, hr⟩ : ∃ r, r = orS p q := ⟨_, rfl⟩
  have HR := Lib.hid hr
  rw [← hr]
  clear hr
  go_enter Tryd.func76, Tryd.ntmps76
  go_wp2_with fail
  go_loopw [8] (fun v8 wr => ∃ j : Nat, v8 = .int .i64 j ∧ j ≤ 8 ∧ Hid (Arr wr w.heap.size (upS p r j)) ∧ Hid (Arr wr (w.heap.size + 1) q) ∧ Hid (Arr wr (w.heap.size + 2) (fun _ => false)) ∧ Ext w wr ∧ w.heap.size + 2 < wr.heap.size) (fun v8 _ => 8 - (intOf v8).toNat)
  case atStart =>
    refine ⟨0, rfl, by omega, ?_, ?_, ?_, by (repeat (first | assumption | exact Ext.refl _ | apply Ext.alloc | apply Ext.drew | apply Ext.drewN | refine Ext.set ?_ (by first | exact Nat.le_refl _ | assumption | exact Nat.le_succ _ | exact Nat.le_add_right _ _ | exact Nat.le_trans (Nat.le_succ _) (Nat.le_succ _) | omega) _ | refine Ext.trans ?_ (by assumption))), by simp⟩
    · have h := ((Arr.made (W := w) (e := 31) p rfl).old (o := .cells #[Value.int .u64 (wd (q) 0 : Nat), .int .u64 (wd (q) 1 : Nat), .int .u64 (wd (q) 2 : Nat), .int .u64 (wd (q) 3 : Nat), .int .u64 (wd (q) 4 : Nat), .int .u64 (wd (q) 5 : Nat), .int .u64 (wd (q) 6 : Nat), .int .u64 (wd (q) 7 : Nat)] 31) (by simp)).old (o := .cells #[Value.int .u64 0, .int .u64 0, .int .u64 0, .int .u64 0, .int .u64 0, .int .u64 0, .int .u64 0, .int .u64 0] 31) (by simp; omega)
      exact Lib.hid (fun k hk => by rw [up_ge _ _ (Nat.zero_le _)]; exact h k hk)
    · exact Lib.hid ((Arr.made q (by simp)).old (by simp))
    · exact Lib.hid (Arr.zero (by simp))
  case round =>
    obtain ⟨j, rfl, hj, HA, HB, HZ, he, hbw⟩ := hrel
    by_cases hlt : j < 8
    · obtain ⟨hw, hf⟩ := HA.out j hlt
      obtain ⟨hw2, hf2⟩ := HB.out j hlt
      rw [up_ge _ _ (Nat.le_refl _)] at hw
      have HA' := Lib.hid (HA.out.up hlt)
      have HB' : Hid (Arr (wr.setCell ⟨w.heap.size, j, none⟩ (.int .u64 (wd r j : Nat))) (w.heap.size + 1) q) := HB.out.other (by omega)
      have HZ' : Hid (Arr (wr.setCell ⟨w.heap.size, j, none⟩ (.int .u64 (wd r j : Nat))) (w.heap.size + 2) (fun _ => false)) := HZ.out.other (by omega)
      have HE' : Hid (Ext w (wr.setCell ⟨w.heap.size, j, none⟩ (.int .u64 (wd r j : Nat)))) := he.set (Nat.le_refl _) _
      have HC := Lib.hid (union_word p q j)
      rw [← HR.out] at HC
      go_wp2_with fail
      go_region_with ((go_at_call 77; (with_reducible refine (HC.out _).mono ?_); rintro e w' ⟨rfl, hw⟩; obtain rfl := hw.symm))
      all_goals
        go_wp2_with fail
        go_roundw
        case rel => exact ⟨j + 1, by go_num, by omega, Lib.hid HA'.out.drew, Lib.hid HB'.out.drew, Lib.hid HZ'.out.drew, HE'.out.drew, by simpa using hbw⟩
        case measure => simp [intOf]; omega
    · have hj' : j = 8 := by omega
      subst hj'
      replace HA := Lib.hid HA.out.all
      have H__ := (HA).out; obtain ⟨ce0, fe0⟩ := H__ 0 (by omega); obtain ⟨ce1, fe1⟩ := H__ 1 (by omega); obtain ⟨ce2, fe2⟩ := H__ 2 (by omega); obtain ⟨ce3, fe3⟩ := H__ 3 (by omega); obtain ⟨ce4, fe4⟩ := H__ 4 (by omega); obtain ⟨ce5, fe5⟩ := H__ 5 (by omega); obtain ⟨ce6, fe6⟩ := H__ 6 (by omega); obtain ⟨ce7, fe7⟩ := H__ 7 (by omega); clear H__
      have H__ := (HZ).out; obtain ⟨de0, ge0⟩ := H__ 0 (by omega); obtain ⟨de1, ge1⟩ := H__ 1 (by omega); obtain ⟨de2, ge2⟩ := H__ 2 (by omega); obtain ⟨de3, ge3⟩ := H__ 3 (by omega); obtain ⟨de4, ge4⟩ := H__ 4 (by omega); obtain ⟨de5, ge5⟩ := H__ 5 (by omega); obtain ⟨de6, ge6⟩ := H__ 6 (by omega); obtain ⟨de7, ge7⟩ := H__ 7 (by omega); clear H__
      have HEX : Hid (Ext w ((((((((wr.setCell ⟨w.heap.size + 2, 0, none⟩ (.int .u64 (wd (r) 0 : Nat))).setCell ⟨w.heap.size + 2, 1, none⟩ (.int .u64 (wd (r) 1 : Nat))).setCell ⟨w.heap.size + 2, 2, none⟩ (.int .u64 (wd (r) 2 : Nat))).setCell ⟨w.heap.size + 2, 3, none⟩ (.int .u64 (wd (r) 3 : Nat))).setCell ⟨w.heap.size + 2, 4, none⟩ (.int .u64 (wd (r) 4 : Nat))).setCell ⟨w.heap.size + 2, 5, none⟩ (.int .u64 (wd (r) 5 : Nat))).setCell ⟨w.heap.size + 2, 6, none⟩ (.int .u64 (wd (r) 6 : Nat))).setCell ⟨w.heap.size + 2, 7, none⟩ (.int .u64 (wd (r) 7 : Nat)))) := ((((((((he.set (by first | exact Nat.le_refl _ | exact Nat.le_succ _ | exact Nat.le_add_right _ _ | exact Nat.le_trans (Nat.le_succ _) (Nat.le_succ _) | omega) _).set (by first | exact Nat.le_refl _ | exact Nat.le_succ _ | exact Nat.le_add_right _ _ | exact Nat.le_trans (Nat.le_succ _) (Nat.le_succ _) | omega) _).set (by first | exact Nat.le_refl _ | exact Nat.le_succ _ | exact Nat.le_add_right _ _ | exact Nat.le_trans (Nat.le_succ _) (Nat.le_succ _) | omega) _).set (by first | exact Nat.le_refl _ | exact Nat.le_succ _ | exact Nat.le_add_right _ _ | exact Nat.le_trans (Nat.le_succ _) (Nat.le_succ _) | omega) _).set (by first | exact Nat.le_refl _ | exact Nat.le_succ _ | exact Nat.le_add_right _ _ | exact Nat.le_trans (Nat.le_succ _) (Nat.le_succ _) | omega) _).set (by first | exact Nat.le_refl _ | exact Nat.le_succ _ | exact Nat.le_add_right _ _ | exact Nat.le_trans (Nat.le_succ _) (Nat.le_succ _) | omega) _).set (by first | exact Nat.le_refl _ | exact Nat.le_succ _ | exact Nat.le_add_right _ _ | exact Nat.le_trans (Nat.le_succ _) (Nat.le_succ _) | omega) _).set (by first | exact Nat.le_refl _ | exact Nat.le_succ _ | exact Nat.le_add_right _ _ | exact Nat.le_trans (Nat.le_succ _) (Nat.le_succ _) | omega) _)
      go_wp2_with fail
      exact bodyPost_ret (v := Value.agg #[.int .u64 (wd (r) 0 : Nat), .int .u64 (wd (r) 1 : Nat), .int .u64 (wd (r) 2 : Nat), .int .u64 (wd (r) 3 : Nat), .int .u64 (wd (r) 4 : Nat), .int .u64 (wd (r) 5 : Nat), .int .u64 (wd (r) 6 : Nat), .int .u64 (wd (r) 7 : Nat)]) (by simp [results, Tryd.results76, go_sem, *]) rfl ⟨rfl, HEX⟩
set_option maxHeartbeats 2000000 in
theorem union_calls (p q : Nat → Bool) (w : World) : Calls Tryd.prog 63 #[Value.agg #[.int .u64 (wd (p) 0 : Nat), .int .u64 (wd (p) 1 : Nat), .int .u64 (wd (p) 2 : Nat), .int .u64 (wd (p) 3 : Nat), .int .u64 (wd (p) 4 : Nat), .int .u64 (wd (p) 5 : Nat), .int .u64 (wd (p) 6 : Nat), .int .u64 (wd (p) 7 : Nat)], Value.agg #[.int .u64 (wd (q) 0 : Nat), .int .u64 (wd (q) 1 : Nat), .int .u64 (wd (q) 2 : Nat), .int .u64 (wd (q) 3 : Nat), .int .u64 (wd (q) 4 : Nat), .int .u64 (wd (q) 5 : Nat), .int .u64 (wd (q) 6 : Nat), .int .u64 (wd (q) 7 : Nat)]] w fun e w' => e = .returned (Value.agg #[.int .u64 (wd (orS p q) 0 : Nat), .int .u64 (wd (orS p q) 1 : Nat), .int .u64 (wd (orS p q) 2 : Nat), .int .u64 (wd (orS p q) 3 : Nat), .int .u64 (wd (orS p q) 4 : Nat), .int .u64 (wd (orS p q) 5 : Nat), .int .u64 (wd (orS p q) 6 : Nat), .int .u64 (wd (orS p q) 7 : Nat)]) ∧ Ext w w' := by
  have HZ : Hid (Arr (((w.alloc (.cells #[Value.int .u64 (wd (p) 0 : Nat), .int .u64 (wd (p) 1 : Nat), .int .u64 (wd (p) 2 : Nat), .int .u64 (wd (p) 3 : Nat), .int .u64 (wd (p) 4 : Nat), .int .u64 (wd (p) 5 : Nat), .int .u64 (wd (p) 6 : Nat), .int .u64 (wd (p) 7 : Nat)] 31)).alloc (.cells #[Value.int .u64 (wd (q) 0 : Nat), .int .u64 (wd (q) 1 : Nat), .int .u64 (wd (q) 2 : Nat), .int .u64 (wd (q) 3 : Nat), .int .u64 (wd (q) 4 : Nat), .int .u64 (wd (q) 5 : Nat), .int .u64 (wd (q) 6 : Nat), .int .u64 (wd (q) 7 : Nat)] 31)).alloc (.cells #[Value.int .u64 0, .int .u64 0, .int .u64 0, .int .u64 0, .int .u64 0, .int .u64 0, .int .u64 0, .int .u64 0] 31)) (w.heap.size + 2) (fun _ => false)) := Lib.hid (Arr.zero (by simp))
  have HS : Hid (w.heap.size + 2 < (((w.alloc (.cells #[Value.int .u64 (wd (p) 0 : Nat), .int .u64 (wd (p) 1 : Nat), .int .u64 (wd (p) 2 : Nat), .int .u64 (wd (p) 3 : Nat), .int .u64 (wd (p) 4 : Nat), .int .u64 (wd (p) 5 : Nat), .int .u64 (wd (p) 6 : Nat), .int .u64 (wd (p) 7 : Nat)] 31)).alloc (.cells #[Value.int .u64 (wd (q) 0 : Nat), .int .u64 (wd (q) 1 : Nat), .int .u64 (wd (q) 2 : Nat), .int .u64 (wd (q) 3 : Nat), .int .u64 (wd (q) 4 : Nat), .int .u64 (wd (q) 5 : Nat), .int .u64 (wd (q) 6 : Nat), .int .u64 (wd (q) 7 : Nat)] 31)).alloc (.cells #[Value.int .u64 0, .int .u64 0, .int .u64 0, .int .u64 0, .int .u64 0, .int .u64 0, .int .u64 0, .int .u64 0] 31)).heap.size) := by show _ < _; simp
  have HX : Hid (Ext w (((w.alloc (.cells #[Value.int .u64 (wd (p) 0 : Nat), .int .u64 (wd (p) 1 : Nat), .int .u64 (wd (p) 2 : Nat), .int .u64 (wd (p) 3 : Nat), .int .u64 (wd (p) 4 : Nat), .int .u64 (wd (p) 5 : Nat), .int .u64 (wd (p) 6 : Nat), .int .u64 (wd (p) 7 : Nat)] 31)).alloc (.cells #[Value.int .u64 (wd (q) 0 : Nat), .int .u64 (wd (q) 1 : Nat), .int .u64 (wd (q) 2 : Nat), .int .u64 (wd (q) 3 : Nat), .int .u64 (wd (q) 4 : Nat), .int .u64 (wd (q) 5 : Nat), .int .u64 (wd (q) 6 : Nat), .int .u64 (wd (q) 7 : Nat)] 31)).alloc (.cells #[Value.int .u64 0, .int .u64 0, .int .u64 0, .int .u64 0, .int .u64 0, .int .u64 0, .int .u64 0, .int .u64 0] 31))) := by show Ext _ _; (repeat (first | assumption | exact Ext.refl _ | apply Ext.alloc | apply Ext.drew | apply Ext.drewN | refine Ext.set ?_ (by first | exact Nat.le_refl _ | assumption | exact Nat.le_succ _ | exact Nat.le_add_right _ _ | exact Nat.le_trans (Nat.le_succ _) (Nat.le_succ _) | omega) _ | refine Ext.trans ?_ (by assumption)))
  obtain ⟨r, hr⟩ : ∃ r, r = orS p q := ⟨_, rfl⟩
  have HR := Lib.hid hr
  have HC := Lib.hid (union_both p q)
  rw [← hr] at HC ⊢
  clear hr
  go_enter Tryd.func63, Tryd.ntmps63
  go_wp2_with ((go_at_call 76; (with_reducible refine (HC.out _).mono ?_); rintro e w1 ⟨rfl, h1⟩); (replace HZ := Lib.hid (HZ.out.ext h1 HS.out)); (replace HX := Lib.hid (HX.out.trans h1)); clear h1; have H__ := (HZ).out; obtain ⟨ce0, fe0⟩ := H__ 0 (by omega); obtain ⟨ce1, fe1⟩ := H__ 1 (by omega); obtain ⟨ce2, fe2⟩ := H__ 2 (by omega); obtain ⟨ce3, fe3⟩ := H__ 3 (by omega); obtain ⟨ce4, fe4⟩ := H__ 4 (by omega); obtain ⟨ce5, fe5⟩ := H__ 5 (by omega); obtain ⟨ce6, fe6⟩ := H__ 6 (by omega); obtain ⟨ce7, fe7⟩ := H__ 7 (by omega); clear H__)
  have HEX : Hid (Ext w ((((((((w1.setCell ⟨w.heap.size + 2, 0, none⟩ (.int .u64 (wd (r) 0 : Nat))).setCell ⟨w.heap.size + 2, 1, none⟩ (.int .u64 (wd (r) 1 : Nat))).setCell ⟨w.heap.size + 2, 2, none⟩ (.int .u64 (wd (r) 2 : Nat))).setCell ⟨w.heap.size + 2, 3, none⟩ (.int .u64 (wd (r) 3 : Nat))).setCell ⟨w.heap.size + 2, 4, none⟩ (.int .u64 (wd (r) 4 : Nat))).setCell ⟨w.heap.size + 2, 5, none⟩ (.int .u64 (wd (r) 5 : Nat))).setCell ⟨w.heap.size + 2, 6, none⟩ (.int .u64 (wd (r) 6 : Nat))).setCell ⟨w.heap.size + 2, 7, none⟩ (.int .u64 (wd (r) 7 : Nat)))) := ((((((((HX.out.set (by first | exact Nat.le_refl _ | exact Nat.le_succ _ | exact Nat.le_add_right _ _ | exact Nat.le_trans (Nat.le_succ _) (Nat.le_succ _) | omega) _).set (by first | exact Nat.le_refl _ | exact Nat.le_succ _ | exact Nat.le_add_right _ _ | exact Nat.le_trans (Nat.le_succ _) (Nat.le_succ _) | omega) _).set (by first | exact Nat.le_refl _ | exact Nat.le_succ _ | exact Nat.le_add_right _ _ | exact Nat.le_trans (Nat.le_succ _) (Nat.le_succ _) | omega) _).set (by first | exact Nat.le_refl _ | exact Nat.le_succ _ | exact Nat.le_add_right _ _ | exact Nat.le_trans (Nat.le_succ _) (Nat.le_succ _) | omega) _).set (by first | exact Nat.le_refl _ | exact Nat.le_succ _ | exact Nat.le_add_right _ _ | exact Nat.le_trans (Nat.le_succ _) (Nat.le_succ _) | omega) _).set (by first | exact Nat.le_refl _ | exact Nat.le_succ _ | exact Nat.le_add_right _ _ | exact Nat.le_trans (Nat.le_succ _) (Nat.le_succ _) | omega) _).set (by first | exact Nat.le_refl _ | exact Nat.le_succ _ | exact Nat.le_add_right _ _ | exact Nat.le_trans (Nat.le_succ _) (Nat.le_succ _) | omega) _).set (by first | exact Nat.le_refl _ | exact Nat.le_succ _ | exact Nat.le_add_right _ _ | exact Nat.le_trans (Nat.le_succ _) (Nat.le_succ _) | omega) _)
  exact bodyPost_ret (v := Value.agg #[.int .u64 (wd (r) 0 : Nat), .int .u64 (wd (r) 1 : Nat), .int .u64 (wd (r) 2 : Nat), .int .u64 (wd (r) 3 : Nat), .int .u64 (wd (r) 4 : Nat), .int .u64 (wd (r) 5 : Nat), .int .u64 (wd (r) 6 : Nat), .int .u64 (wd (r) 7 : Nat)]) (by simp [results, Tryd.results63, go_sem, *]) rfl ⟨rfl, HEX⟩

theorem inter_word (p q : Nat → Bool) (j : Nat) (w : World) : Calls Tryd.prog 78 #[.int .u64 (wd p j : Nat), .int .u64 (wd q j : Nat)] w fun e w' => e = .returned (.int .u64 (wd (andS p q) j : Nat)) ∧ w' = w := by
  have HW : Hid (wd (andS p q) j = _) := (wd_and p q j).symm
  have HL := Lib.hid (u64_and_nat (wd p j) (wd q j) (wd_lt' _ _) (wd_lt' _ _))
  go_enter Tryd.func78, Tryd.ntmps78
  go_wp2_with fail
  go_ret
  exact ⟨ret_int (by rw [HW.out]; exact HL.out), rfl⟩
set_option maxHeartbeats 2000000 in
set_option maxRecDepth 100000 in
theorem inter_both (p q : Nat → Bool) (w : World) : Calls Tryd.prog 76 #[Value.agg #[.int .u64 (wd (p) 0 : Nat), .int .u64 (wd (p) 1 : Nat), .int .u64 (wd (p) 2 : Nat), .int .u64 (wd (p) 3 : Nat), .int .u64 (wd (p) 4 : Nat), .int .u64 (wd (p) 5 : Nat), .int .u64 (wd (p) 6 : Nat), .int .u64 (wd (p) 7 : Nat)], Value.agg #[.int .u64 (wd (q) 0 : Nat), .int .u64 (wd (q) 1 : Nat), .int .u64 (wd (q) 2 : Nat), .int .u64 (wd (q) 3 : Nat), .int .u64 (wd (q) 4 : Nat), .int .u64 (wd (q) 5 : Nat), .int .u64 (wd (q) 6 : Nat), .int .u64 (wd (q) 7 : Nat)], .func (.func 78) #[] #[]] w fun e w' => e = .returned (Value.agg #[.int .u64 (wd (andS p q) 0 : Nat), .int .u64 (wd (andS p q) 1 : Nat), .int .u64 (wd (andS p q) 2 : Nat), .int .u64 (wd (andS p q) 3 : Nat), .int .u64 (wd (andS p q) 4 : Nat), .int .u64 (wd (andS p q) 5 : Nat), .int .u64 (wd (andS p q) 6 : Nat), .int .u64 (wd (andS p q) 7 : Nat)]) ∧ Ext w w' := by
  obtain ⟨r, hr⟩ : ∃ r, r = andS p q := ⟨_, rfl⟩
  have HR := Lib.hid hr
  rw [← hr]
  clear hr
  go_enter Tryd.func76, Tryd.ntmps76
  go_wp2_with fail
  go_loopw [8] (fun v8 wr => ∃ j : Nat, v8 = .int .i64 j ∧ j ≤ 8 ∧ Hid (Arr wr w.heap.size (upS p r j)) ∧ Hid (Arr wr (w.heap.size + 1) q) ∧ Hid (Arr wr (w.heap.size + 2) (fun _ => false)) ∧ Ext w wr ∧ w.heap.size + 2 < wr.heap.size) (fun v8 _ => 8 - (intOf v8).toNat)
  case atStart =>
    refine ⟨0, rfl, by omega, ?_, ?_, ?_, by (repeat (first | assumption | exact Ext.refl _ | apply Ext.alloc | apply Ext.drew | apply Ext.drewN | refine Ext.set ?_ (by first | exact Nat.le_refl _ | assumption | exact Nat.le_succ _ | exact Nat.le_add_right _ _ | exact Nat.le_trans (Nat.le_succ _) (Nat.le_succ _) | omega) _ | refine Ext.trans ?_ (by assumption))), by simp⟩
    · have h := ((Arr.made (W := w) (e := 31) p rfl).old (o := .cells #[Value.int .u64 (wd (q) 0 : Nat), .int .u64 (wd (q) 1 : Nat), .int .u64 (wd (q) 2 : Nat), .int .u64 (wd (q) 3 : Nat), .int .u64 (wd (q) 4 : Nat), .int .u64 (wd (q) 5 : Nat), .int .u64 (wd (q) 6 : Nat), .int .u64 (wd (q) 7 : Nat)] 31) (by simp)).old (o := .cells #[Value.int .u64 0, .int .u64 0, .int .u64 0, .int .u64 0, .int .u64 0, .int .u64 0, .int .u64 0, .int .u64 0] 31) (by simp; omega)
      exact Lib.hid (fun k hk => by rw [up_ge _ _ (Nat.zero_le _)]; exact h k hk)
    · exact Lib.hid ((Arr.made q (by simp)).old (by simp))
    · exact Lib.hid (Arr.zero (by simp))
  case round =>
    obtain ⟨j, rfl, hj, HA, HB, HZ, he, hbw⟩ := hrel
    by_cases hlt : j < 8
    · obtain ⟨hw, hf⟩ := HA.out j hlt
      obtain ⟨hw2, hf2⟩ := HB.out j hlt
      rw [up_ge _ _ (Nat.le_refl _)] at hw
      have HA' := Lib.hid (HA.out.up hlt)
      have HB' : Hid (Arr (wr.setCell ⟨w.heap.size, j, none⟩ (.int .u64 (wd r j : Nat))) (w.heap.size + 1) q) := HB.out.other (by omega)
      have HZ' : Hid (Arr (wr.setCell ⟨w.heap.size, j, none⟩ (.int .u64 (wd r j : Nat))) (w.heap.size + 2) (fun _ => false)) := HZ.out.other (by omega)
      have HE' : Hid (Ext w (wr.setCell ⟨w.heap.size, j, none⟩ (.int .u64 (wd r j : Nat)))) := he.set (Nat.le_refl _) _
      have HC := Lib.hid (inter_word p q j)
      rw [← HR.out] at HC
      go_wp2_with fail
      go_region_with ((go_at_call 78; (with_reducible refine (HC.out _).mono ?_); rintro e w' ⟨rfl, hw⟩; obtain rfl := hw.symm))
      all_goals
        go_wp2_with fail
        go_roundw
        case rel => exact ⟨j + 1, by go_num, by omega, Lib.hid HA'.out.drew, Lib.hid HB'.out.drew, Lib.hid HZ'.out.drew, HE'.out.drew, by simpa using hbw⟩
        case measure => simp [intOf]; omega
    · have hj' : j = 8 := by omega
      subst hj'
      replace HA := Lib.hid HA.out.all
      have H__ := (HA).out; obtain ⟨ce0, fe0⟩ := H__ 0 (by omega); obtain ⟨ce1, fe1⟩ := H__ 1 (by omega); obtain ⟨ce2, fe2⟩ := H__ 2 (by omega); obtain ⟨ce3, fe3⟩ := H__ 3 (by omega); obtain ⟨ce4, fe4⟩ := H__ 4 (by omega); obtain ⟨ce5, fe5⟩ := H__ 5 (by omega); obtain ⟨ce6, fe6⟩ := H__ 6 (by omega); obtain ⟨ce7, fe7⟩ := H__ 7 (by omega); clear H__
      have H__ := (HZ).out; obtain ⟨de0, ge0⟩ := H__ 0 (by omega); obtain ⟨de1, ge1⟩ := H__ 1 (by omega); obtain ⟨de2, ge2⟩ := H__ 2 (by omega); obtain ⟨de3, ge3⟩ := H__ 3 (by omega); obtain ⟨de4, ge4⟩ := H__ 4 (by omega); obtain ⟨de5, ge5⟩ := H__ 5 (by omega); obtain ⟨de6, ge6⟩ := H__ 6 (by omega); obtain ⟨de7, ge7⟩ := H__ 7 (by omega); clear H__
      have HEX : Hid (Ext w ((((((((wr.setCell ⟨w.heap.size + 2, 0, none⟩ (.int .u64 (wd (r) 0 : Nat))).setCell ⟨w.heap.size + 2, 1, none⟩ (.int .u64 (wd (r) 1 : Nat))).setCell ⟨w.heap.size + 2, 2, none⟩ (.int .u64 (wd (r) 2 : Nat))).setCell ⟨w.heap.size + 2, 3, none⟩ (.int .u64 (wd (r) 3 : Nat))).setCell ⟨w.heap.size + 2, 4, none⟩ (.int .u64 (wd (r) 4 : Nat))).setCell ⟨w.heap.size + 2, 5, none⟩ (.int .u64 (wd (r) 5 : Nat))).setCell ⟨w.heap.size + 2, 6, none⟩ (.int .u64 (wd (r) 6 : Nat))).setCell ⟨w.heap.size + 2, 7, none⟩ (.int .u64 (wd (r) 7 : Nat)))) := ((((((((he.set (by first | exact Nat.le_refl _ | exact Nat.le_succ _ | exact Nat.le_add_right _ _ | exact Nat.le_trans (Nat.le_succ _) (Nat.le_succ _) | omega) _).set (by first | exact Nat.le_refl _ | exact Nat.le_succ _ | exact Nat.le_add_right _ _ | exact Nat.le_trans (Nat.le_succ _) (Nat.le_succ _) | omega) _).set (by first | exact Nat.le_refl _ | exact Nat.le_succ _ | exact Nat.le_add_right _ _ | exact Nat.le_trans (Nat.le_succ _) (Nat.le_succ _) | omega) _).set (by first | exact Nat.le_refl _ | exact Nat.le_succ _ | exact Nat.le_add_right _ _ | exact Nat.le_trans (Nat.le_succ _) (Nat.le_succ _) | omega) _).set (by first | exact Nat.le_refl _ | exact Nat.le_succ _ | exact Nat.le_add_right _ _ | exact Nat.le_trans (Nat.le_succ _) (Nat.le_succ _) | omega) _).set (by first | exact Nat.le_refl _ | exact Nat.le_succ _ | exact Nat.le_add_right _ _ | exact Nat.le_trans (Nat.le_succ _) (Nat.le_succ _) | omega) _).set (by first | exact Nat.le_refl _ | exact Nat.le_succ _ | exact Nat.le_add_right _ _ | exact Nat.le_trans (Nat.le_succ _) (Nat.le_succ _) | omega) _).set (by first | exact Nat.le_refl _ | exact Nat.le_succ _ | exact Nat.le_add_right _ _ | exact Nat.le_trans (Nat.le_succ _) (Nat.le_succ _) | omega) _)
      go_wp2_with fail
      exact bodyPost_ret (v := Value.agg #[.int .u64 (wd (r) 0 : Nat), .int .u64 (wd (r) 1 : Nat), .int .u64 (wd (r) 2 : Nat), .int .u64 (wd (r) 3 : Nat), .int .u64 (wd (r) 4 : Nat), .int .u64 (wd (r) 5 : Nat), .int .u64 (wd (r) 6 : Nat), .int .u64 (wd (r) 7 : Nat)]) (by simp [results, Tryd.results76, go_sem, *]) rfl ⟨rfl, HEX⟩
set_option maxHeartbeats 2000000 in
theorem inter_calls (p q : Nat → Bool) (w : World) : Calls Tryd.prog 65 #[Value.agg #[.int .u64 (wd (p) 0 : Nat), .int .u64 (wd (p) 1 : Nat), .int .u64 (wd (p) 2 : Nat), .int .u64 (wd (p) 3 : Nat), .int .u64 (wd (p) 4 : Nat), .int .u64 (wd (p) 5 : Nat), .int .u64 (wd (p) 6 : Nat), .int .u64 (wd (p) 7 : Nat)], Value.agg #[.int .u64 (wd (q) 0 : Nat), .int .u64 (wd (q) 1 : Nat), .int .u64 (wd (q) 2 : Nat), .int .u64 (wd (q) 3 : Nat), .int .u64 (wd (q) 4 : Nat), .int .u64 (wd (q) 5 : Nat), .int .u64 (wd (q) 6 : Nat), .int .u64 (wd (q) 7 : Nat)]] w fun e w' => e = .returned (Value.agg #[.int .u64 (wd (andS p q) 0 : Nat), .int .u64 (wd (andS p q) 1 : Nat), .int .u64 (wd (andS p q) 2 : Nat), .int .u64 (wd (andS p q) 3 : Nat), .int .u64 (wd (andS p q) 4 : Nat), .int .u64 (wd (andS p q) 5 : Nat), .int .u64 (wd (andS p q) 6 : Nat), .int .u64 (wd (andS p q) 7 : Nat)]) ∧ Ext w w' := by
  have HZ : Hid (Arr (((w.alloc (.cells #[Value.int .u64 (wd (p) 0 : Nat), .int .u64 (wd (p) 1 : Nat), .int .u64 (wd (p) 2 : Nat), .int .u64 (wd (p) 3 : Nat), .int .u64 (wd (p) 4 : Nat), .int .u64 (wd (p) 5 : Nat), .int .u64 (wd (p) 6 : Nat), .int .u64 (wd (p) 7 : Nat)] 31)).alloc (.cells #[Value.int .u64 (wd (q) 0 : Nat), .int .u64 (wd (q) 1 : Nat), .int .u64 (wd (q) 2 : Nat), .int .u64 (wd (q) 3 : Nat), .int .u64 (wd (q) 4 : Nat), .int .u64 (wd (q) 5 : Nat), .int .u64 (wd (q) 6 : Nat), .int .u64 (wd (q) 7 : Nat)] 31)).alloc (.cells #[Value.int .u64 0, .int .u64 0, .int .u64 0, .int .u64 0, .int .u64 0, .int .u64 0, .int .u64 0, .int .u64 0] 31)) (w.heap.size + 2) (fun _ => false)) := Lib.hid (Arr.zero (by simp))
  have HS : Hid (w.heap.size + 2 < (((w.alloc (.cells #[Value.int .u64 (wd (p) 0 : Nat), .int .u64 (wd (p) 1 : Nat), .int .u64 (wd (p) 2 : Nat), .int .u64 (wd (p) 3 : Nat), .int .u64 (wd (p) 4 : Nat), .int .u64 (wd (p) 5 : Nat), .int .u64 (wd (p) 6 : Nat), .int .u64 (wd (p) 7 : Nat)] 31)).alloc (.cells #[Value.int .u64 (wd (q) 0 : Nat), .int .u64 (wd (q) 1 : Nat), .int .u64 (wd (q) 2 : Nat), .int .u64 (wd (q) 3 : Nat), .int .u64 (wd (q) 4 : Nat), .int .u64 (wd (q) 5 : Nat), .int .u64 (wd (q) 6 : Nat), .int .u64 (wd (q) 7 : Nat)] 31)).alloc (.cells #[Value.int .u64 0, .int .u64 0, .int .u64 0, .int .u64 0, .int .u64 0, .int .u64 0, .int .u64 0, .int .u64 0] 31)).heap.size) := by show _ < _; simp
  have HX : Hid (Ext w (((w.alloc (.cells #[Value.int .u64 (wd (p) 0 : Nat), .int .u64 (wd (p) 1 : Nat), .int .u64 (wd (p) 2 : Nat), .int .u64 (wd (p) 3 : Nat), .int .u64 (wd (p) 4 : Nat), .int .u64 (wd (p) 5 : Nat), .int .u64 (wd (p) 6 : Nat), .int .u64 (wd (p) 7 : Nat)] 31)).alloc (.cells #[Value.int .u64 (wd (q) 0 : Nat), .int .u64 (wd (q) 1 : Nat), .int .u64 (wd (q) 2 : Nat), .int .u64 (wd (q) 3 : Nat), .int .u64 (wd (q) 4 : Nat), .int .u64 (wd (q) 5 : Nat), .int .u64 (wd (q) 6 : Nat), .int .u64 (wd (q) 7 : Nat)] 31)).alloc (.cells #[Value.int .u64 0, .int .u64 0, .int .u64 0, .int .u64 0, .int .u64 0, .int .u64 0, .int .u64 0, .int .u64 0] 31))) := by show Ext _ _; (repeat (first | assumption | exact Ext.refl _ | apply Ext.alloc | apply Ext.drew | apply Ext.drewN | refine Ext.set ?_ (by first | exact Nat.le_refl _ | assumption | exact Nat.le_succ _ | exact Nat.le_add_right _ _ | exact Nat.le_trans (Nat.le_succ _) (Nat.le_succ _) | omega) _ | refine Ext.trans ?_ (by assumption)))
  obtain ⟨r, hr⟩ : ∃ r, r = andS p q := ⟨_, rfl⟩
  have HR := Lib.hid hr
  have HC := Lib.hid (inter_both p q)
  rw [← hr] at HC ⊢
  clear hr
  go_enter Tryd.func65, Tryd.ntmps65
  go_wp2_with ((go_at_call 76; (with_reducible refine (HC.out _).mono ?_); rintro e w1 ⟨rfl, h1⟩); (replace HZ := Lib.hid (HZ.out.ext h1 HS.out)); (replace HX := Lib.hid (HX.out.trans h1)); clear h1; have H__ := (HZ).out; obtain ⟨ce0, fe0⟩ := H__ 0 (by omega); obtain ⟨ce1, fe1⟩ := H__ 1 (by omega); obtain ⟨ce2, fe2⟩ := H__ 2 (by omega); obtain ⟨ce3, fe3⟩ := H__ 3 (by omega); obtain ⟨ce4, fe4⟩ := H__ 4 (by omega); obtain ⟨ce5, fe5⟩ := H__ 5 (by omega); obtain ⟨ce6, fe6⟩ := H__ 6 (by omega); obtain ⟨ce7, fe7⟩ := H__ 7 (by omega); clear H__)
  have HEX : Hid (Ext w ((((((((w1.setCell ⟨w.heap.size + 2, 0, none⟩ (.int .u64 (wd (r) 0 : Nat))).setCell ⟨w.heap.size + 2, 1, none⟩ (.int .u64 (wd (r) 1 : Nat))).setCell ⟨w.heap.size + 2, 2, none⟩ (.int .u64 (wd (r) 2 : Nat))).setCell ⟨w.heap.size + 2, 3, none⟩ (.int .u64 (wd (r) 3 : Nat))).setCell ⟨w.heap.size + 2, 4, none⟩ (.int .u64 (wd (r) 4 : Nat))).setCell ⟨w.heap.size + 2, 5, none⟩ (.int .u64 (wd (r) 5 : Nat))).setCell ⟨w.heap.size + 2, 6, none⟩ (.int .u64 (wd (r) 6 : Nat))).setCell ⟨w.heap.size + 2, 7, none⟩ (.int .u64 (wd (r) 7 : Nat)))) := ((((((((HX.out.set (by first | exact Nat.le_refl _ | exact Nat.le_succ _ | exact Nat.le_add_right _ _ | exact Nat.le_trans (Nat.le_succ _) (Nat.le_succ _) | omega) _).set (by first | exact Nat.le_refl _ | exact Nat.le_succ _ | exact Nat.le_add_right _ _ | exact Nat.le_trans (Nat.le_succ _) (Nat.le_succ _) | omega) _).set (by first | exact Nat.le_refl _ | exact Nat.le_succ _ | exact Nat.le_add_right _ _ | exact Nat.le_trans (Nat.le_succ _) (Nat.le_succ _) | omega) _).set (by first | exact Nat.le_refl _ | exact Nat.le_succ _ | exact Nat.le_add_right _ _ | exact Nat.le_trans (Nat.le_succ _) (Nat.le_succ _) | omega) _).set (by first | exact Nat.le_refl _ | exact Nat.le_succ _ | exact Nat.le_add_right _ _ | exact Nat.le_trans (Nat.le_succ _) (Nat.le_succ _) | omega) _).set (by first | exact Nat.le_refl _ | exact Nat.le_succ _ | exact Nat.le_add_right _ _ | exact Nat.le_trans (Nat.le_succ _) (Nat.le_succ _) | omega) _).set (by first | exact Nat.le_refl _ | exact Nat.le_succ _ | exact Nat.le_add_right _ _ | exact Nat.le_trans (Nat.le_succ _) (Nat.le_succ _) | omega) _).set (by first | exact Nat.le_refl _ | exact Nat.le_succ _ | exact Nat.le_add_right _ _ | exact Nat.le_trans (Nat.le_succ _) (Nat.le_succ _) | omega) _)
  exact bodyPost_ret (v := Value.agg #[.int .u64 (wd (r) 0 : Nat), .int .u64 (wd (r) 1 : Nat), .int .u64 (wd (r) 2 : Nat), .int .u64 (wd (r) 3 : Nat), .int .u64 (wd (r) 4 : Nat), .int .u64 (wd (r) 5 : Nat), .int .u64 (wd (r) 6 : Nat), .int .u64 (wd (r) 7 : Nat)]) (by simp [results, Tryd.results65, go_sem, *]) rfl ⟨rfl, HEX⟩

theorem minus_word (p q : Nat → Bool) (j : Nat) (w : World) : Calls Tryd.prog 81 #[.int .u64 (wd p j : Nat), .int .u64 (wd q j : Nat)] w fun e w' => e = .returned (.int .u64 (wd (subS p q) j : Nat)) ∧ w' = w := by
  have HW : Hid (wd (subS p q) j = _) := (wd_andNot p q j).symm
  have HL := Lib.hid (u64_andNot_nat (wd p j) (wd q j) (wd_lt' _ _) (wd_lt' _ _))
  go_enter Tryd.func81, Tryd.ntmps81
  go_wp2_with fail
  go_ret
  exact ⟨ret_int (by rw [HW.out]; exact HL.out), rfl⟩
set_option maxHeartbeats 2000000 in
set_option maxRecDepth 100000 in
theorem minus_both (p q : Nat → Bool) (w : World) : Calls Tryd.prog 76 #[Value.agg #[.int .u64 (wd (p) 0 : Nat), .int .u64 (wd (p) 1 : Nat), .int .u64 (wd (p) 2 : Nat), .int .u64 (wd (p) 3 : Nat), .int .u64 (wd (p) 4 : Nat), .int .u64 (wd (p) 5 : Nat), .int .u64 (wd (p) 6 : Nat), .int .u64 (wd (p) 7 : Nat)], Value.agg #[.int .u64 (wd (q) 0 : Nat), .int .u64 (wd (q) 1 : Nat), .int .u64 (wd (q) 2 : Nat), .int .u64 (wd (q) 3 : Nat), .int .u64 (wd (q) 4 : Nat), .int .u64 (wd (q) 5 : Nat), .int .u64 (wd (q) 6 : Nat), .int .u64 (wd (q) 7 : Nat)], .func (.func 81) #[] #[]] w fun e w' => e = .returned (Value.agg #[.int .u64 (wd (subS p q) 0 : Nat), .int .u64 (wd (subS p q) 1 : Nat), .int .u64 (wd (subS p q) 2 : Nat), .int .u64 (wd (subS p q) 3 : Nat), .int .u64 (wd (subS p q) 4 : Nat), .int .u64 (wd (subS p q) 5 : Nat), .int .u64 (wd (subS p q) 6 : Nat), .int .u64 (wd (subS p q) 7 : Nat)]) ∧ Ext w w' := by
  obtain ⟨r, hr⟩ : ∃ r, r = subS p q := ⟨_, rfl⟩
  have HR := Lib.hid hr
  rw [← hr]
  clear hr
  go_enter Tryd.func76, Tryd.ntmps76
  go_wp2_with fail
  go_loopw [8] (fun v8 wr => ∃ j : Nat, v8 = .int .i64 j ∧ j ≤ 8 ∧ Hid (Arr wr w.heap.size (upS p r j)) ∧ Hid (Arr wr (w.heap.size + 1) q) ∧ Hid (Arr wr (w.heap.size + 2) (fun _ => false)) ∧ Ext w wr ∧ w.heap.size + 2 < wr.heap.size) (fun v8 _ => 8 - (intOf v8).toNat)
  case atStart =>
    refine ⟨0, rfl, by omega, ?_, ?_, ?_, by (repeat (first | assumption | exact Ext.refl _ | apply Ext.alloc | apply Ext.drew | apply Ext.drewN | refine Ext.set ?_ (by first | exact Nat.le_refl _ | assumption | exact Nat.le_succ _ | exact Nat.le_add_right _ _ | exact Nat.le_trans (Nat.le_succ _) (Nat.le_succ _) | omega) _ | refine Ext.trans ?_ (by assumption))), by simp⟩
    · have h := ((Arr.made (W := w) (e := 31) p rfl).old (o := .cells #[Value.int .u64 (wd (q) 0 : Nat), .int .u64 (wd (q) 1 : Nat), .int .u64 (wd (q) 2 : Nat), .int .u64 (wd (q) 3 : Nat), .int .u64 (wd (q) 4 : Nat), .int .u64 (wd (q) 5 : Nat), .int .u64 (wd (q) 6 : Nat), .int .u64 (wd (q) 7 : Nat)] 31) (by simp)).old (o := .cells #[Value.int .u64 0, .int .u64 0, .int .u64 0, .int .u64 0, .int .u64 0, .int .u64 0, .int .u64 0, .int .u64 0] 31) (by simp; omega)
      exact Lib.hid (fun k hk => by rw [up_ge _ _ (Nat.zero_le _)]; exact h k hk)
    · exact Lib.hid ((Arr.made q (by simp)).old (by simp))
    · exact Lib.hid (Arr.zero (by simp))
  case round =>
    obtain ⟨j, rfl, hj, HA, HB, HZ, he, hbw⟩ := hrel
    by_cases hlt : j < 8
    · obtain ⟨hw, hf⟩ := HA.out j hlt
      obtain ⟨hw2, hf2⟩ := HB.out j hlt
      rw [up_ge _ _ (Nat.le_refl _)] at hw
      have HA' := Lib.hid (HA.out.up hlt)
      have HB' : Hid (Arr (wr.setCell ⟨w.heap.size, j, none⟩ (.int .u64 (wd r j : Nat))) (w.heap.size + 1) q) := HB.out.other (by omega)
      have HZ' : Hid (Arr (wr.setCell ⟨w.heap.size, j, none⟩ (.int .u64 (wd r j : Nat))) (w.heap.size + 2) (fun _ => false)) := HZ.out.other (by omega)
      have HE' : Hid (Ext w (wr.setCell ⟨w.heap.size, j, none⟩ (.int .u64 (wd r j : Nat)))) := he.set (Nat.le_refl _) _
      have HC := Lib.hid (minus_word p q j)
      rw [← HR.out] at HC
      go_wp2_with fail
      go_region_with ((go_at_call 81; (with_reducible refine (HC.out _).mono ?_); rintro e w' ⟨rfl, hw⟩; obtain rfl := hw.symm))
      all_goals
        go_wp2_with fail
        go_roundw
        case rel => exact ⟨j + 1, by go_num, by omega, Lib.hid HA'.out.drew, Lib.hid HB'.out.drew, Lib.hid HZ'.out.drew, HE'.out.drew, by simpa using hbw⟩
        case measure => simp [intOf]; omega
    · have hj' : j = 8 := by omega
      subst hj'
      replace HA := Lib.hid HA.out.all
      have H__ := (HA).out; obtain ⟨ce0, fe0⟩ := H__ 0 (by omega); obtain ⟨ce1, fe1⟩ := H__ 1 (by omega); obtain ⟨ce2, fe2⟩ := H__ 2 (by omega); obtain ⟨ce3, fe3⟩ := H__ 3 (by omega); obtain ⟨ce4, fe4⟩ := H__ 4 (by omega); obtain ⟨ce5, fe5⟩ := H__ 5 (by omega); obtain ⟨ce6, fe6⟩ := H__ 6 (by omega); obtain ⟨ce7, fe7⟩ := H__ 7 (by omega); clear H__
      have H__ := (HZ).out; obtain ⟨de0, ge0⟩ := H__ 0 (by omega); obtain ⟨de1, ge1⟩ := H__ 1 (by omega); obtain ⟨de2, ge2⟩ := H__ 2 (by omega); obtain ⟨de3, ge3⟩ := H__ 3 (by omega); obtain ⟨de4, ge4⟩ := H__ 4 (by omega); obtain ⟨de5, ge5⟩ := H__ 5 (by omega); obtain ⟨de6, ge6⟩ := H__ 6 (by omega); obtain ⟨de7, ge7⟩ := H__ 7 (by omega); clear H__
      have HEX : Hid (Ext w ((((((((wr.setCell ⟨w.heap.size + 2, 0, none⟩ (.int .u64 (wd (r) 0 : Nat))).setCell ⟨w.heap.size + 2, 1, none⟩ (.int .u64 (wd (r) 1 : Nat))).setCell ⟨w.heap.size + 2, 2, none⟩ (.int .u64 (wd (r) 2 : Nat))).setCell ⟨w.heap.size + 2, 3, none⟩ (.int .u64 (wd (r) 3 : Nat))).setCell ⟨w.heap.size + 2, 4, none⟩ (.int .u64 (wd (r) 4 : Nat))).setCell ⟨w.heap.size + 2, 5, none⟩ (.int .u64 (wd (r) 5 : Nat))).setCell ⟨w.heap.size + 2, 6, none⟩ (.int .u64 (wd (r) 6 : Nat))).setCell ⟨w.heap.size + 2, 7, none⟩ (.int .u64 (wd (r) 7 : Nat)))) := ((((((((he.set (by first | exact Nat.le_refl _ | exact Nat.le_succ _ | exact Nat.le_add_right _ _ | exact Nat.le_trans (Nat.le_succ _) (Nat.le_succ _) | omega) _).set (by first | exact Nat.le_refl _ | exact Nat.le_succ _ | exact Nat.le_add_right _ _ | exact Nat.le_trans (Nat.le_succ _) (Nat.le_succ _) | omega) _).set (by first | exact Nat.le_refl _ | exact Nat.le_succ _ | exact Nat.le_add_right _ _ | exact Nat.le_trans (Nat.le_succ _) (Nat.le_succ _) | omega) _).set (by first | exact Nat.le_refl _ | exact Nat.le_succ _ | exact Nat.le_add_right _ _ | exact Nat.le_trans (Nat.le_succ _) (Nat.le_succ _) | omega) _).set (by first | exact Nat.le_refl _ | exact Nat.le_succ _ | exact Nat.le_add_right _ _ | exact Nat.le_trans (Nat.le_succ _) (Nat.le_succ _) | omega) _).set (by first | exact Nat.le_refl _ | exact Nat.le_succ _ | exact Nat.le_add_right _ _ | exact Nat.le_trans (Nat.le_succ _) (Nat.le_succ _) | omega) _).set (by first | exact Nat.le_refl _ | exact Nat.le_succ _ | exact Nat.le_add_right _ _ | exact Nat.le_trans (Nat.le_succ _) (Nat.le_succ _) | omega) _).set (by first | exact Nat.le_refl _ | exact Nat.le_succ _ | exact Nat.le_add_right _ _ | exact Nat.le_trans (Nat.le_succ _) (Nat.le_succ _) | omega) _)
      go_wp2_with fail
      exact bodyPost_ret (v := Value.agg #[.int .u64 (wd (r) 0 : Nat), .int .u64 (wd (r) 1 : Nat), .int .u64 (wd (r) 2 : Nat), .int .u64 (wd (r) 3 : Nat), .int .u64 (wd (r) 4 : Nat), .int .u64 (wd (r) 5 : Nat), .int .u64 (wd (r) 6 : Nat), .int .u64 (wd (r) 7 : Nat)]) (by simp [results, Tryd.results76, go_sem, *]) rfl ⟨rfl, HEX⟩
set_option maxHeartbeats 2000000 in
theorem minus_calls (p q : Nat → Bool) (w : World) : Calls Tryd.prog 71 #[Value.agg #[.int .u64 (wd (p) 0 : Nat), .int .u64 (wd (p) 1 : Nat), .int .u64 (wd (p) 2 : Nat), .int .u64 (wd (p) 3 : Nat), .int .u64 (wd (p) 4 : Nat), .int .u64 (wd (p) 5 : Nat), .int .u64 (wd (p) 6 : Nat), .int .u64 (wd (p) 7 : Nat)], Value.agg #[.int .u64 (wd (q) 0 : Nat), .int .u64 (wd (q) 1 : Nat), .int .u64 (wd (q) 2 : Nat), .int .u64 (wd (q) 3 : Nat), .int .u64 (wd (q) 4 : Nat), .int .u64 (wd (q) 5 : Nat), .int .u64 (wd (q) 6 : Nat), .int .u64 (wd (q) 7 : Nat)]] w fun e w' => e = .returned (Value.agg #[.int .u64 (wd (subS p q) 0 : Nat), .int .u64 (wd (subS p q) 1 : Nat), .int .u64 (wd (subS p q) 2 : Nat), .int .u64 (wd (subS p q) 3 : Nat), .int .u64 (wd (subS p q) 4 : Nat), .int .u64 (wd (subS p q) 5 : Nat), .int .u64 (wd (subS p q) 6 : Nat), .int .u64 (wd (subS p q) 7 : Nat)]) ∧ Ext w w' := by
  have HZ : Hid (Arr (((w.alloc (.cells #[Value.int .u64 (wd (p) 0 : Nat), .int .u64 (wd (p) 1 : Nat), .int .u64 (wd (p) 2 : Nat), .int .u64 (wd (p) 3 : Nat), .int .u64 (wd (p) 4 : Nat), .int .u64 (wd (p) 5 : Nat), .int .u64 (wd (p) 6 : Nat), .int .u64 (wd (p) 7 : Nat)] 31)).alloc (.cells #[Value.int .u64 (wd (q) 0 : Nat), .int .u64 (wd (q) 1 : Nat), .int .u64 (wd (q) 2 : Nat), .int .u64 (wd (q) 3 : Nat), .int .u64 (wd (q) 4 : Nat), .int .u64 (wd (q) 5 : Nat), .int .u64 (wd (q) 6 : Nat), .int .u64 (wd (q) 7 : Nat)] 31)).alloc (.cells #[Value.int .u64 0, .int .u64 0, .int .u64 0, .int .u64 0, .int .u64 0, .int .u64 0, .int .u64 0, .int .u64 0] 31)) (w.heap.size + 2) (fun _ => false)) := Lib.hid (Arr.zero (by simp))
  have HS : Hid (w.heap.size + 2 < (((w.alloc (.cells #[Value.int .u64 (wd (p) 0 : Nat), .int .u64 (wd (p) 1 : Nat), .int .u64 (wd (p) 2 : Nat), .int .u64 (wd (p) 3 : Nat), .int .u64 (wd (p) 4 : Nat), .int .u64 (wd (p) 5 : Nat), .int .u64 (wd (p) 6 : Nat), .int .u64 (wd (p) 7 : Nat)] 31)).alloc (.cells #[Value.int .u64 (wd (q) 0 : Nat), .int .u64 (wd (q) 1 : Nat), .int .u64 (wd (q) 2 : Nat), .int .u64 (wd (q) 3 : Nat), .int .u64 (wd (q) 4 : Nat), .int .u64 (wd (q) 5 : Nat), .int .u64 (wd (q) 6 : Nat), .int .u64 (wd (q) 7 : Nat)] 31)).alloc (.cells #[Value.int .u64 0, .int .u64 0, .int .u64 0, .int .u64 0, .int .u64 0, .int .u64 0, .int .u64 0, .int .u64 0] 31)).heap.size) := by show _ < _; simp
  have HX : Hid (Ext w (((w.alloc (.cells #[Value.int .u64 (wd (p) 0 : Nat), .int .u64 (wd (p) 1 : Nat), .int .u64 (wd (p) 2 : Nat), .int .u64 (wd (p) 3 : Nat), .int .u64 (wd (p) 4 : Nat), .int .u64 (wd (p) 5 : Nat), .int .u64 (wd (p) 6 : Nat), .int .u64 (wd (p) 7 : Nat)] 31)).alloc (.cells #[Value.int .u64 (wd (q) 0 : Nat), .int .u64 (wd (q) 1 : Nat), .int .u64 (wd (q) 2 : Nat), .int .u64 (wd (q) 3 : Nat), .int .u64 (wd (q) 4 : Nat), .int .u64 (wd (q) 5 : Nat), .int .u64 (wd (q) 6 : Nat), .int .u64 (wd (q) 7 : Nat)] 31)).alloc (.cells #[Value.int .u64 0, .int .u64 0, .int .u64 0, .int .u64 0, .int .u64 0, .int .u64 0, .int .u64 0, .int .u64 0] 31))) := by show Ext _ _; (repeat (first | assumption | exact Ext.refl _ | apply Ext.alloc | apply Ext.drew | apply Ext.drewN | refine Ext.set ?_ (by first | exact Nat.le_refl _ | assumption | exact Nat.le_succ _ | exact Nat.le_add_right _ _ | exact Nat.le_trans (Nat.le_succ _) (Nat.le_succ _) | omega) _ | refine Ext.trans ?_ (by assumption)))
  obtain ⟨r, hr⟩ : ∃ r, r = subS p q := ⟨_, rfl⟩
  have HR := Lib.hid hr
  have HC := Lib.hid (minus_both p q)
  rw [← hr] at HC ⊢
  clear hr
  go_enter Tryd.func71, Tryd.ntmps71
  go_wp2_with ((go_at_call 76; (with_reducible refine (HC.out _).mono ?_); rintro e w1 ⟨rfl, h1⟩); (replace HZ := Lib.hid (HZ.out.ext h1 HS.out)); (replace HX := Lib.hid (HX.out.trans h1)); clear h1; have H__ := (HZ).out; obtain ⟨ce0, fe0⟩ := H__ 0 (by omega); obtain ⟨ce1, fe1⟩ := H__ 1 (by omega); obtain ⟨ce2, fe2⟩ := H__ 2 (by omega); obtain ⟨ce3, fe3⟩ := H__ 3 (by omega); obtain ⟨ce4, fe4⟩ := H__ 4 (by omega); obtain ⟨ce5, fe5⟩ := H__ 5 (by omega); obtain ⟨ce6, fe6⟩ := H__ 6 (by omega); obtain ⟨ce7, fe7⟩ := H__ 7 (by omega); clear H__)
  have HEX : Hid (Ext w ((((((((w1.setCell ⟨w.heap.size + 2, 0, none⟩ (.int .u64 (wd (r) 0 : Nat))).setCell ⟨w.heap.size + 2, 1, none⟩ (.int .u64 (wd (r) 1 : Nat))).setCell ⟨w.heap.size + 2, 2, none⟩ (.int .u64 (wd (r) 2 : Nat))).setCell ⟨w.heap.size + 2, 3, none⟩ (.int .u64 (wd (r) 3 : Nat))).setCell ⟨w.heap.size + 2, 4, none⟩ (.int .u64 (wd (r) 4 : Nat))).setCell ⟨w.heap.size + 2, 5, none⟩ (.int .u64 (wd (r) 5 : Nat))).setCell ⟨w.heap.size + 2, 6, none⟩ (.int .u64 (wd (r) 6 : Nat))).setCell ⟨w.heap.size + 2, 7, none⟩ (.int .u64 (wd (r) 7 : Nat)))) := ((((((((HX.out.set (by first | exact Nat.le_refl _ | exact Nat.le_succ _ | exact Nat.le_add_right _ _ | exact Nat.le_trans (Nat.le_succ _) (Nat.le_succ _) | omega) _).set (by first | exact Nat.le_refl _ | exact Nat.le_succ _ | exact Nat.le_add_right _ _ | exact Nat.le_trans (Nat.le_succ _) (Nat.le_succ _) | omega) _).set (by first | exact Nat.le_refl _ | exact Nat.le_succ _ | exact Nat.le_add_right _ _ | exact Nat.le_trans (Nat.le_succ _) (Nat.le_succ _) | omega) _).set (by first | exact Nat.le_refl _ | exact Nat.le_succ _ | exact Nat.le_add_right _ _ | exact Nat.le_trans (Nat.le_succ _) (Nat.le_succ _) | omega) _).set (by first | exact Nat.le_refl _ | exact Nat.le_succ _ | exact Nat.le_add_right _ _ | exact Nat.le_trans (Nat.le_succ _) (Nat.le_succ _) | omega) _).set (by first | exact Nat.le_refl _ | exact Nat.le_succ _ | exact Nat.le_add_right _ _ | exact Nat.le_trans (Nat.le_succ _) (Nat.le_succ _) | omega) _).set (by first | exact Nat.le_refl _ | exact Nat.le_succ _ | exact Nat.le_add_right _ _ | exact Nat.le_trans (Nat.le_succ _) (Nat.le_succ _) | omega) _).set (by first | exact Nat.le_refl _ | exact Nat.le_succ _ | exact Nat.le_add_right _ _ | exact Nat.le_trans (Nat.le_succ _) (Nat.le_succ _) | omega) _)
  exact bodyPost_ret (v := Value.agg #[.int .u64 (wd (r) 0 : Nat), .int .u64 (wd (r) 1 : Nat), .int .u64 (wd (r) 2 : Nat), .int .u64 (wd (r) 3 : Nat), .int .u64 (wd (r) 4 : Nat), .int .u64 (wd (r) 5 : Nat), .int .u64 (wd (r) 6 : Nat), .int .u64 (wd (r) 7 : Nat)]) (by simp [results, Tryd.results71, go_sem, *]) rfl ⟨rfl, HEX⟩
end Go.Proofs.YtdeppnamhdbbhaaDoor
namespace Go.Eg

/-- The worth of a field. -/
def fieldV (p : Nat → Bool) (a n : Nat) : Nat := ofB (fun k => p (a + k)) n
theorem mask_eq {n : Nat} (h1 : 1 ≤ n) (h : n ≤ 64) : 18446744073709551615 / 2 ^ (64 - n) = 2 ^ n - 1 := by
  have h2 : 2 ^ (64 - n) * 2 ^ n = 18446744073709551616 := by rw [← Nat.pow_add, show 64 - n + n = 64 by omega]
  have hp : 0 < 2 ^ (64 - n) := Nat.two_pow_pos _
  have hq : 0 < 2 ^ n := Nat.two_pow_pos _
  have hle : 2 ^ (64 - n) ≤ 2 ^ (64 - n) * 2 ^ n := Nat.le_mul_of_pos_right _ hq
  have e : (18446744073709551615 : Nat) = 2 ^ (64 - n) * (2 ^ n - 1) + (2 ^ (64 - n) - 1) := by
    rw [Nat.mul_sub, Nat.mul_one]
    rw [h2] at hle ⊢
    generalize 2 ^ (64 - n) = a at *
    omega
  rw [e]
  rw [Nat.mul_add_div hp, Nat.div_eq_of_lt (by omega), Nat.add_zero]
theorem field_one (p : Nat → Bool) (j b n : Nat) (h : b + n ≤ 64) : (wd p j / 2 ^ b) &&& (2 ^ n - 1) = fieldV p (64 * j + b) n := by
  apply Nat.eq_of_testBit_eq
  intro k
  rw [Nat.testBit_and, Nat.testBit_two_pow_sub_one, Nat.testBit_div_two_pow, wd_bit, fieldV, ofB_bit]
  by_cases hk : k < n
  · simp [hk, show k + b < 64 by omega, show 64 * j + (k + b) = 64 * j + b + k by omega]
  · simp [hk]
theorem field_two (p : Nat → Bool) (j b n : Nat) (hb : b < 64) (h : 64 < b + n) (hn : n ≤ 64) : (wd p j / 2 ^ b ||| wd p (j + 1) * 2 ^ (64 - b) % 2 ^ 64) &&& (2 ^ n - 1) = fieldV p (64 * j + b) n := by
  apply Nat.eq_of_testBit_eq
  intro k
  rw [Nat.testBit_and, Nat.testBit_or, Nat.testBit_two_pow_sub_one, Nat.testBit_div_two_pow, wd_bit, fieldV, ofB_bit, Nat.testBit_mod_two_pow, Nat.testBit_mul_two_pow, wd_bit]
  by_cases hk : k < n
  · by_cases hkb : k + b < 64
    · simp [hk, hkb, show ¬ (64 - b ≤ k) by omega, show 64 * j + (k + b) = 64 * j + b + k by omega]
    · simp [hk, hkb, show 64 - b ≤ k by omega, show k < 64 by omega, show k - (64 - b) < 64 by omega, show 64 * (j + 1) + (k - (64 - b)) = 64 * j + b + k by omega]
  · simp [hk]
theorem ofB_cons (q : Nat → Bool) (n : Nat) : ofB q (n + 1) = 2 * ofB (fun k => q (k + 1)) n + (if q 0 then 1 else 0) := by
  apply Nat.eq_of_testBit_eq
  intro b
  rw [ofB_bit]
  cases b with
  | zero =>
    rw [Nat.testBit_zero]
    cases q 0 <;> simp <;> omega
  | succ b =>
    rw [Nat.testBit_succ, show (2 * ofB (fun k => q (k + 1)) n + (if q 0 then 1 else 0)) / 2 = ofB (fun k => q (k + 1)) n by split <;> omega, ofB_bit]
    simp
end Go.Eg
namespace Go.Proofs.YtdeppnamhdbbhaaDoor
open Go.RowKit Go.Eg

def fieldF (p : Nat → Bool) (x y : Int) : Nat := if fieldOk x y then fieldV p x.toNat y.toNat else 0
def fieldE (x y : Int) : Int := if fieldOk x y then 0 else 1
theorem cast_shr (n k : Nat) : ((n : Nat) : Int) / 2 ^ k = ((n / 2 ^ k : Nat) : Int) := by simp
theorem cast_mask {y : Int} (h1 : 1 ≤ y) (h2 : y ≤ 64) : (18446744073709551615 : Int) / 2 ^ (64 - y).toNat = ((2 ^ y.toNat - 1 : Nat) : Int) := by
  have e := cast_shr 18446744073709551615 (64 - y).toNat
  rw [show (64 - y).toNat = 64 - y.toNat by omega, mask_eq (by omega) (by omega)] at e
  rw [show (64 - y).toNat = 64 - y.toNat by omega]
  exact e
theorem mask_lt {n : Nat} (h : n ≤ 64) : 2 ^ n - 1 < 18446744073709551616 := by
  have := Nat.pow_le_pow_right (n := 2) (by omega) h
  omega
theorem fld1 (p : Nat → Bool) {x y : Int} (h0 : 0 ≤ x) (h1 : 1 ≤ y) (h2 : y ≤ 64) (hc : x % 64 + y ≤ 64) : bits .and .u64 (((wd p (x / 64).toNat : Nat) : Int) / 2 ^ (x % 64).toNat) (18446744073709551615 / 2 ^ (64 - y).toNat) = ((fieldV p x.toNat y.toNat : Nat) : Int) := by
  rw [cast_shr, cast_mask h1 h2, u64_and_nat _ _ (Nat.lt_of_le_of_lt (Nat.div_le_self _ _) (wd_lt' _ _)) (mask_lt (by omega)), field_one p _ _ _ (by omega), show 64 * (x / 64).toNat + (x % 64).toNat = x.toNat by omega]
theorem cast_shl (m k : Nat) : IntKind.u64.wrap ((m : Int) * 2 ^ k) = ((m * 2 ^ k % 2 ^ 64 : Nat) : Int) := by
  rw [IntKind.wrap_u64]
  simp
theorem fld2 (p : Nat → Bool) {x y : Int} (h0 : 0 ≤ x) (h1 : 1 ≤ y) (h2 : y ≤ 64) (hc : 64 < x % 64 + y) : bits .and .u64 (bits .or .u64 (((wd p (x / 64).toNat : Nat) : Int) / 2 ^ (x % 64).toNat) (IntKind.u64.wrap (((wd p (x / 64 + 1).toNat : Nat) : Int) * 2 ^ (64 - x % 64).toNat))) (18446744073709551615 / 2 ^ (64 - y).toNat) = ((fieldV p x.toNat y.toNat : Nat) : Int) := by
  have l1 := Nat.lt_of_le_of_lt (Nat.div_le_self (wd p (x / 64).toNat) (2 ^ (x % 64).toNat)) (wd_lt' _ _)
  have l2 : wd p (x / 64 + 1).toNat * 2 ^ (64 - x % 64).toNat % 2 ^ 64 < 18446744073709551616 := Nat.mod_lt _ (by decide)
  rw [cast_shr, cast_shl, u64_or_nat _ _ l1 l2, cast_mask h1 h2, u64_and_nat _ _ (Nat.or_lt_two_pow (n := 64) l1 l2) (mask_lt (by omega)), show (x / 64 + 1).toNat = (x / 64).toNat + 1 by omega, show (64 - x % 64).toNat = 64 - (x % 64).toNat by omega,
    field_two p _ _ _ (by omega) (by omega) (by omega), show 64 * (x / 64).toNat + (x % 64).toNat = x.toNat by omega]
end Go.Proofs.YtdeppnamhdbbhaaDoor
namespace Go.Eg

/-- How many of the first n hold. -/
def cnt (q : Nat → Bool) : Nat → Nat
  | 0 => 0
  | n + 1 => cnt q n + (if q n then 1 else 0)
theorem cnt_congr {q r : Nat → Bool} : ∀ {n : Nat}, (∀ k, k < n → q k = r k) → cnt q n = cnt r n
  | 0, _ => rfl
  | n + 1, h => by unfold cnt; rw [cnt_congr (fun k hk => h k (by omega)), h n (by omega)]
theorem cnt_add (q : Nat → Bool) (a : Nat) : ∀ b, cnt q (a + b) = cnt q a + cnt (fun k => q (a + k)) b
  | 0 => rfl
  | b + 1 => by
    show cnt q (a + b) + _ = cnt q a + (cnt _ b + _)
    rw [cnt_add q a b, Nat.add_assoc]; rfl
theorem cnt_le (q : Nat → Bool) : ∀ n, cnt q n ≤ n
  | 0 => Nat.le_refl _
  | n + 1 => by unfold cnt; have := cnt_le q n; split <;> omega

/-- Bytes, the lowest first. -/
def byv : List Nat → Nat
  | [] => 0
  | a :: l => a + 256 * byv l
theorem lane_and {a c : Nat} (b d : Nat) (ha : a < 256) (hc : c < 256) : (a + 256 * b) &&& (c + 256 * d) = (a &&& c) + 256 * (b &&& d) := by
  have hac : a &&& c < 2 ^ 8 := Nat.and_lt_two_pow _ hc
  apply Nat.eq_of_testBit_eq
  intro i
  rw [Nat.add_comm a, Nat.add_comm c, Nat.add_comm (a &&& c), Nat.testBit_and, show (256 : Nat) = 2 ^ 8 from rfl, Nat.testBit_two_pow_mul_add _ ha, Nat.testBit_two_pow_mul_add _ hc, Nat.testBit_two_pow_mul_add _ hac]
  split
  · rw [Nat.testBit_and]
  · rw [Nat.testBit_and]
def s1 (a : Nat) : Nat := (a / 2 &&& 85) + (a &&& 85)
def s2 (a : Nat) : Nat := (a / 4 &&& 51) + (a &&& 51)
def s3 (a : Nat) : Nat := (a / 16 + a) &&& 15
theorem low1 : ∀ a : Fin 256, ∀ t : Fin 2, ((a.val / 2 + 128 * t.val) &&& 85) = (a.val / 2 &&& 85) := by decide +kernel
theorem low2 : ∀ a : Fin 256, ∀ t : Fin 4, ((a.val / 4 + 64 * t.val) &&& 51) = (a.val / 4 &&& 51) := by decide +kernel
theorem s1_lt : ∀ a : Fin 256, s1 a.val < 256 := by decide +kernel
theorem s2_lt : ∀ a : Fin 256, s2 (s1 a.val) < 256 ∧ s2 (s1 a.val) % 16 ≤ 4 ∧ s2 (s1 a.val) / 16 ≤ 4 := by decide +kernel
theorem s3_is : ∀ a : Fin 256, s3 (s2 (s1 a.val)) = cnt a.val.testBit 8 := by decide +kernel
theorem low3 : ∀ a : Fin 69, ∀ t : Fin 5, ((a.val / 16 + a.val + 16 * t.val) &&& 15) = ((a.val / 16 + a.val) &&& 15) := by decide +kernel
theorem stage1 : ∀ l : List Nat, (∀ a ∈ l, a < 256) → (byv l / 2 &&& byv (l.map fun _ => 85)) + (byv l &&& byv (l.map fun _ => 85)) = byv (l.map s1)
  | [], _ => rfl
  | a :: l, h => by
    have ha := h a (List.mem_cons_self ..)
    have ih := stage1 l (fun x hx => h x (List.mem_cons_of_mem _ hx))
    simp only [List.map_cons, byv]
    rw [show (a + 256 * byv l) / 2 = (a / 2 + 128 * (byv l % 2)) + 256 * (byv l / 2) by omega, lane_and _ _ (by omega) (by decide), lane_and _ _ ha (by decide), low1 ⟨a, ha⟩ ⟨byv l % 2, Nat.mod_lt _ (by omega)⟩, ← ih]
    unfold s1
    show (a / 2 &&& 85) + _ + _ = _
    omega
theorem stage2 : ∀ l : List Nat, (∀ a ∈ l, a < 256) → (byv l / 4 &&& byv (l.map fun _ => 51)) + (byv l &&& byv (l.map fun _ => 51)) = byv (l.map s2)
  | [], _ => rfl
  | a :: l, h => by
    have ha := h a (List.mem_cons_self ..)
    have ih := stage2 l (fun x hx => h x (List.mem_cons_of_mem _ hx))
    simp only [List.map_cons, byv]
    rw [show (a + 256 * byv l) / 4 = (a / 4 + 64 * (byv l % 4)) + 256 * (byv l / 4) by omega, lane_and _ _ (by omega) (by decide), lane_and _ _ ha (by decide), low2 ⟨a, ha⟩ ⟨byv l % 4, Nat.mod_lt _ (by omega)⟩, ← ih]
    unfold s2
    show (a / 4 &&& 51) + _ + _ = _
    omega
theorem byv_mod16 {l : List Nat} (h : ∀ a ∈ l, a % 16 ≤ 4) : byv l % 16 ≤ 4 := by
  cases l with
  | nil => decide
  | cons a l =>
    have := h a (List.mem_cons_self ..)
    unfold byv; omega
theorem stage3 : ∀ l : List Nat, (∀ a ∈ l, a < 256 ∧ a % 16 ≤ 4 ∧ a / 16 ≤ 4) → (byv l / 16 + byv l) &&& byv (l.map fun _ => 15) = byv (l.map s3)
  | [], _ => rfl
  | a :: l, h => by
    obtain ⟨h1, h2, h3⟩ := h a (List.mem_cons_self ..)
    have ih := stage3 l (fun x hx => h x (List.mem_cons_of_mem _ hx))
    have h4 := byv_mod16 (l := l) (fun x hx => (h x (List.mem_cons_of_mem _ hx)).2.1)
    simp only [List.map_cons, byv]
    rw [show (a + 256 * byv l) / 16 + (a + 256 * byv l) = (a / 16 + a + 16 * (byv l % 16)) + 256 * (byv l / 16 + byv l) by omega, lane_and _ _ (by omega) (by decide), low3 ⟨a, by omega⟩ ⟨byv l % 16, by omega⟩, ih]
    rfl
/-- A word's bytes. -/
def bys (u : Nat) : List Nat := [u % 256, u / 256 % 256, u / 65536 % 256, u / 16777216 % 256, u / 4294967296 % 256, u / 1099511627776 % 256, u / 281474976710656 % 256, u / 72057594037927936 % 256]
theorem byv_bys {u : Nat} (h : u < 2 ^ 64) : byv (bys u) = u := by
  simp only [bys, byv]
  omega
theorem byv_lt : ∀ l : List Nat, (∀ a ∈ l, a < 256) → byv l < 256 ^ l.length
  | [], _ => by decide
  | a :: l, h => by
    have ha := h a (List.mem_cons_self ..)
    have ih := byv_lt l (fun x hx => h x (List.mem_cons_of_mem _ hx))
    simp only [byv, List.length_cons]
    rw [Nat.pow_succ]
    omega
def onesA (u : Nat) : Nat := (u / 2 &&& 6148914691236517205) + (u &&& 6148914691236517205)
def onesB (u : Nat) : Nat := (u / 4 &&& 3689348814741910323) + (u &&& 3689348814741910323)
def onesC (u : Nat) : Nat := (u / 16 + u) &&& 1085102592571150095
theorem byte_bit {u k : Nat} (i : Nat) (hk : k < 8) : (u / 256 ^ i % 256).testBit k = u.testBit (8 * i + k) := by
  rw [show (256 : Nat) = 2 ^ 8 from rfl, Nat.testBit_mod_two_pow, ← Nat.pow_mul, Nat.testBit_div_two_pow, decide_eq_true hk, Bool.true_and, Nat.add_comm]
theorem cnt_bytes (u : Nat) : cnt u.testBit 64 = ((bys u).map fun b => cnt b.testBit 8).sum := by
  have e : ∀ i, cnt (fun k => u.testBit (8 * i + k)) 8 = cnt (u / 256 ^ i % 256).testBit 8 := fun i => cnt_congr fun k hk => (byte_bit i hk).symm
  have f := fun i => cnt_add u.testBit (8 * i) 8
  have g0 := f 0; have g1 := f 1; have g2 := f 2; have g3 := f 3; have g4 := f 4; have g5 := f 5; have g6 := f 6; have g7 := f 7
  rw [e] at g0 g1 g2 g3 g4 g5 g6 g7
  simp only [Nat.mul_zero, Nat.zero_add, Nat.pow_zero, Nat.div_one, show cnt u.testBit 0 = 0 from rfl, Nat.reduceMul, Nat.reduceAdd, Nat.reducePow] at g0 g1 g2 g3 g4 g5 g6 g7
  simp only [bys, List.map_cons, List.map_nil, List.sum_cons, List.sum_nil]
  omega
theorem bys_lt (u : Nat) : ∀ a ∈ bys u, a < 256 := by
  intro a ha
  simp only [bys, List.mem_cons, List.not_mem_nil, or_false] at ha
  omega
theorem m85 (u : Nat) : byv ((bys u).map fun _ => 85) = 6148914691236517205 := by simp [bys, byv]
theorem m51 (u : Nat) : byv (((bys u).map s1).map fun _ => 51) = 3689348814741910323 := by simp [bys, byv]
theorem m15 (u : Nat) : byv ((((bys u).map s1).map s2).map fun _ => 15) = 1085102592571150095 := by simp [bys, byv]
theorem onesA_is {u : Nat} (h : u < 2 ^ 64) : onesA u = byv ((bys u).map s1) := by
  rw [← stage1 _ (bys_lt u), byv_bys h, m85]; rfl
theorem s1_all (u : Nat) : ∀ a ∈ (bys u).map s1, a < 256 := by
  intro a ha
  obtain ⟨b, hb, rfl⟩ := List.mem_map.1 ha
  exact s1_lt ⟨b, bys_lt u b hb⟩
theorem onesB_is {u : Nat} (h : u < 2 ^ 64) : onesB (onesA u) = byv (((bys u).map s1).map s2) := by
  rw [← stage2 _ (s1_all u), ← onesA_is h, m51]; rfl
theorem s2_all (u : Nat) : ∀ a ∈ ((bys u).map s1).map s2, a < 256 ∧ a % 16 ≤ 4 ∧ a / 16 ≤ 4 := by
  intro a ha
  obtain ⟨b, hb, rfl⟩ := List.mem_map.1 ha
  obtain ⟨c, hc, rfl⟩ := List.mem_map.1 hb
  exact s2_lt ⟨c, bys_lt u c hc⟩
theorem onesC_is {u : Nat} (h : u < 2 ^ 64) : onesC (onesB (onesA u)) = byv ((bys u).map fun b => cnt b.testBit 8) := by
  have e : (((bys u).map s1).map s2).map s3 = (bys u).map fun b => cnt b.testBit 8 := by
    rw [List.map_map, List.map_map]
    exact List.map_congr_left fun b hb => s3_is ⟨b, bys_lt u b hb⟩
  rw [← e, ← stage3 _ (s2_all u), ← onesB_is h, m15]; rfl
theorem onesA_lt {u : Nat} (h : u < 2 ^ 64) : onesA u < 2 ^ 64 := by rw [onesA_is h]; have := byv_lt _ (s1_all u); simpa [bys] using this
theorem onesB_lt {u : Nat} (h : u < 2 ^ 64) : onesB (onesA u) < 2 ^ 64 := by rw [onesB_is h]; have := byv_lt _ (fun a ha => (s2_all u a ha).1); simpa [bys] using this
/-- The last steps add the bytes. -/
theorem onesD {a b c d e f g h : Nat} (ha : a ≤ 8) (hb : b ≤ 8) (hc : c ≤ 8) (hd : d ≤ 8) (he : e ≤ 8) (hf : f ≤ 8) (hg : g ≤ 8) (hh : h ≤ 8) {y y4 y5 y6 : Nat} (hy : y = byv [a, b, c, d, e, f, g, h]) (h4 : y4 = y + y / 256) (h5 : y5 = y4 + y4 / 65536) (h6 : y6 = y5 + y5 / 4294967296) :
    y6 % 128 = a + b + c + d + e + f + g + h ∧ y < 2 ^ 60 ∧ y4 < 2 ^ 61 ∧ y5 < 2 ^ 62 ∧ y6 < 2 ^ 63 := by
  simp only [byv] at hy
  obtain ⟨R, hR⟩ : ∃ R, R = b + 256 * (c + 256 * (d + 256 * (e + 256 * (f + 256 * (g + 256 * h))))) := ⟨_, rfl⟩
  have e4 : y / 256 = R := by
    have : y = a + 256 * R := by omega
    rw [this]; clear hy hR this h4 h5 h6; omega
  obtain ⟨S, hS⟩ : ∃ S, S = (c + d) + 256 * ((d + e) + 256 * ((e + f) + 256 * ((f + g) + 256 * ((g + h) + 256 * h)))) := ⟨_, rfl⟩
  rw [e4] at h4
  have e5 : y4 / 65536 = S := by
    have : y4 = (a + b) + 256 * (b + c) + 65536 * S := by omega
    rw [this]; clear hy hR hS this h4 h5 h6 e4; omega
  obtain ⟨U, hU⟩ : ∃ U, U = (e + f + g + h) + 256 * ((f + g + h) + 256 * ((g + h) + 256 * h)) := ⟨_, rfl⟩
  rw [e5] at h5
  have e6 : y5 / 4294967296 = U := by
    have : y5 = (a + b + c + d) + 256 * (b + c + d + e) + 65536 * (c + d + e + f) + 16777216 * (d + e + f + g) + 4294967296 * U := by omega
    rw [this]; clear hy hR hS hU this h4 h5 h6 e4 e5; omega
  rw [e6] at h6
  clear e4 e5 e6
  have : y6 = (a + b + c + d + e + f + g + h) + 128 * (2 * (b + c + d + e + f + g + h + 256 * ((c + d + e + f + g + h) + 256 * ((d + e + f + g + h) + 256 * ((e + f + g + h) + 256 * ((f + g + h) + 256 * ((g + h) + 256 * h))))))) := by omega
  refine ⟨?_, ?_, ?_, ?_, ?_⟩
  · rw [this, Nat.add_mul_mod_self_left]; omega
  · omega
  · omega
  · omega
  · omega
end Go.Eg
namespace Go.Proofs.YtdeppnamhdbbhaaDoor
open Go.RowKit Go.Eg

theorem wrap_nat {n : Nat} (h : n < 2 ^ 64) : IntKind.u64.wrap (n : Int) = n := by rw [IntKind.wrap_u64]; omega
theorem oA {u : Nat} (hu : u < 2 ^ 64) : IntKind.u64.wrap (bits .and .u64 ((u : Int) / 2) 6148914691236517205 + bits .and .u64 (u : Int) 6148914691236517205) = ((onesA u : Nat) : Int) := by
  have e : ((u : Nat) : Int) / 2 = ((u / 2 : Nat) : Int) := by omega
  rw [e, show (6148914691236517205 : Int) = ((6148914691236517205 : Nat) : Int) from rfl, u64_and_nat _ _ (by omega) (by decide), u64_and_nat _ _ hu (by decide)]
  have := wrap_nat (onesA_lt hu)
  unfold onesA at *
  rwa [Int.natCast_add] at this
theorem oB {u : Nat} (hu : u < 2 ^ 64) : IntKind.u64.wrap (bits .and .u64 (((onesA u : Nat) : Int) / 4) 3689348814741910323 + bits .and .u64 ((onesA u : Nat) : Int) 3689348814741910323) = ((onesB (onesA u) : Nat) : Int) := by
  have h1 := onesA_lt hu
  have e : ((onesA u : Nat) : Int) / 4 = ((onesA u / 4 : Nat) : Int) := by omega
  rw [e, show (3689348814741910323 : Int) = ((3689348814741910323 : Nat) : Int) from rfl, u64_and_nat _ _ (by omega) (by decide), u64_and_nat _ _ h1 (by decide)]
  have := wrap_nat (onesB_lt hu)
  unfold onesB at *
  rwa [Int.natCast_add] at this
theorem onesB_lt' {u : Nat} (hu : u < 2 ^ 64) : onesB (onesA u) < 2 ^ 63 := by
  rw [onesB_is hu]
  have h := s2_all u
  have h2 := fun a ha => (show a < 256 ∧ a < 80 by have := h a ha; omega)
  simp only [bys, List.map_cons, List.map_nil] at h2 ⊢
  generalize s2 (s1 (u % 256)) = a0, s2 (s1 (u / 256 % 256)) = a1, s2 (s1 (u / 65536 % 256)) = a2, s2 (s1 (u / 16777216 % 256)) = a3, s2 (s1 (u / 4294967296 % 256)) = a4, s2 (s1 (u / 1099511627776 % 256)) = a5, s2 (s1 (u / 281474976710656 % 256)) = a6, s2 (s1 (u / 72057594037927936 % 256)) = a7 at h2 ⊢
  have g0 := h2 a0 (by simp); have g1 := h2 a1 (by simp); have g2 := h2 a2 (by simp); have g3 := h2 a3 (by simp); have g4 := h2 a4 (by simp); have g5 := h2 a5 (by simp); have g6 := h2 a6 (by simp); have g7 := h2 a7 (by simp)
  simp only [byv]
  clear h h2
  omega
theorem oC {u : Nat} (hu : u < 2 ^ 64) : bits .and .u64 (IntKind.u64.wrap (((onesB (onesA u) : Nat) : Int) / 16 + ((onesB (onesA u) : Nat) : Int))) 1085102592571150095 = ((onesC (onesB (onesA u)) : Nat) : Int) := by
  have h1 := onesB_lt' hu
  generalize onesB (onesA u) = q at *
  have e : ((q : Nat) : Int) / 16 + (q : Int) = ((q / 16 + q : Nat) : Int) := by omega
  rw [e, wrap_nat (by omega), show (1085102592571150095 : Int) = ((1085102592571150095 : Nat) : Int) from rfl, u64_and_nat _ _ (by omega) (by decide)]
  rfl
theorem oD {u : Nat} (hu : u < 2 ^ 64) : ∃ y4 y5 y6 : Nat, IntKind.u64.wrap (((onesC (onesB (onesA u)) : Nat) : Int) + ((onesC (onesB (onesA u)) : Nat) : Int) / 256) = (y4 : Int) ∧ IntKind.u64.wrap ((y4 : Int) + (y4 : Int) / 65536) = (y5 : Int) ∧ IntKind.u64.wrap ((y5 : Int) + (y5 : Int) / 4294967296) = (y6 : Int) ∧ wrap64 (y6 : Int) = y6 ∧ y6 % 128 = cnt u.testBit 64 := by
  obtain ⟨y, hy⟩ : ∃ y, y = onesC (onesB (onesA u)) := ⟨_, rfl⟩
  have hl := onesC_is hu
  rw [← hy] at hl ⊢
  rw [cnt_bytes]
  have hb : ∀ q : Nat → Bool, cnt q 8 ≤ 8 := fun q => cnt_le q 8
  simp only [bys, List.map_cons, List.map_nil] at hl ⊢
  obtain ⟨y4, e4⟩ : ∃ y4, y4 = y + y / 256 := ⟨_, rfl⟩
  obtain ⟨y5, e5⟩ : ∃ y5, y5 = y4 + y4 / 65536 := ⟨_, rfl⟩
  obtain ⟨y6, e6⟩ : ∃ y6, y6 = y5 + y5 / 4294967296 := ⟨_, rfl⟩
  obtain ⟨h1, h2, h3, h4, h5⟩ := onesD (hb _) (hb _) (hb _) (hb _) (hb _) (hb _) (hb _) (hb _) hl e4 e5 e6
  clear hl hb
  have l4 : y4 < 2 ^ 64 := by omega
  have l5 : y5 < 2 ^ 64 := by omega
  have l6 : y6 < 2 ^ 64 := by omega
  have w4 := wrap_nat l4
  have w5 := wrap_nat l5
  have w6 := wrap_nat l6
  refine ⟨y4, y5, y6, ?_, ?_, ?_, ?_, ?_⟩
  · rw [← w4]; congr 1; clear w4 w5 w6 h1; omega
  · rw [← w5]; congr 1; clear w4 w5 w6 h1; omega
  · rw [← w6]; congr 1; clear w4 w5 w6 h1; omega
  · exact IntWalk.wrap64_in _ (by omega)
  · rw [h1]
    simp only [List.sum_cons, List.sum_nil]
    omega
/-- How many numbers a set holds. -/
theorem cnt_word (p : Nat → Bool) (j : Nat) : cnt p (64 * (j + 1)) = cnt p (64 * j) + cnt (wd p j).testBit 64 := by
  rw [Nat.mul_add, Nat.mul_one, cnt_add]
  congr 1
  refine cnt_congr fun k hk => ?_
  rw [wd_bit, decide_eq_true hk, Bool.true_and]
theorem nums_len (p : Nat → Bool) : ∀ n, (numsB p n).length = cnt p n
  | 0 => rfl
  | n + 1 => by
    unfold cnt
    cases h : p n
    · rw [numsB_neg h, nums_len p n]; rfl
    · rw [numsB_pos h, List.length_append, nums_len p n]; rfl
theorem index_set (p : Nat → Bool) {j : Nat} (hj : j < 8) (w : World) : (Instr.index 31 (Value.agg #[.int .u64 (wd (p) 0 : Nat), .int .u64 (wd (p) 1 : Nat), .int .u64 (wd (p) 2 : Nat), .int .u64 (wd (p) 3 : Nat), .int .u64 (wd (p) 4 : Nat), .int .u64 (wd (p) 5 : Nat), .int .u64 (wd (p) 6 : Nat), .int .u64 (wd (p) 7 : Nat)]) (.int .i64 (j : Int))).run Tryd.prog w = .ok (.int .u64 (wd p j : Nat)) w := by
  have h := Tryd.underlying31
  match j, hj with
  | 0, _ => simp [Instr.index, run_underlying h, asIntOf, go_sem]
  | 1, _ => simp [Instr.index, run_underlying h, asIntOf, go_sem]
  | 2, _ => simp [Instr.index, run_underlying h, asIntOf, go_sem]
  | 3, _ => simp [Instr.index, run_underlying h, asIntOf, go_sem]
  | 4, _ => simp [Instr.index, run_underlying h, asIntOf, go_sem]
  | 5, _ => simp [Instr.index, run_underlying h, asIntOf, go_sem]
  | 6, _ => simp [Instr.index, run_underlying h, asIntOf, go_sem]
  | 7, _ => simp [Instr.index, run_underlying h, asIntOf, go_sem]
end Go.Proofs.YtdeppnamhdbbhaaDoor
namespace Go.Eg

/-- The highest number below n that stands in one only decides. -/
def cmpSN (p q : Nat → Bool) : Nat → Int
  | 0 => 0
  | n + 1 => if p n = q n then cmpSN p q n else if p n = true then 1 else -1
theorem ofB_add (q : Nat → Bool) (n : Nat) : ofB q (n + 1) = ofB q n + (if q n then 2 ^ n else 0) := by
  have h := ofB_lt q n
  show ofB q n ||| (if q n then 2 ^ n else 0) = _
  cases q n
  · simp
  · rw [if_pos rfl, Nat.or_comm]
    have := Nat.two_pow_add_eq_or_of_lt h 1
    rw [Nat.mul_one] at this
    rw [← this, Nat.add_comm]
theorem cmp_ofB (p q : Nat → Bool) : ∀ n, cmpSN p q n = if ofB p n < ofB q n then -1 else if ofB q n < ofB p n then 1 else 0
  | 0 => rfl
  | n + 1 => by
    have hp := ofB_lt p n
    have hq := ofB_lt q n
    unfold cmpSN
    rw [ofB_add, ofB_add, cmp_ofB p q n]
    cases p n <;> cases q n
    · simp
    · simp; omega
    · simp; omega
    · simp
theorem cmp_add (p q : Nat → Bool) (m : Nat) : ∀ n, cmpSN p q (m + n) = if cmpSN (fun k => p (m + k)) (fun k => q (m + k)) n = 0 then cmpSN p q m else cmpSN (fun k => p (m + k)) (fun k => q (m + k)) n
  | 0 => by simp [cmpSN]
  | n + 1 => by
    have e1 : cmpSN p q (m + (n + 1)) = if p (m + n) = q (m + n) then cmpSN p q (m + n) else if p (m + n) = true then 1 else -1 := rfl
    have e2 : cmpSN (fun k => p (m + k)) (fun k => q (m + k)) (n + 1) = if p (m + n) = q (m + n) then cmpSN (fun k => p (m + k)) (fun k => q (m + k)) n else if p (m + n) = true then 1 else -1 := rfl
    rw [e1, e2, cmp_add p q m n]
    by_cases h : p (m + n) = q (m + n)
    · rw [if_pos h, if_pos h]
    · rw [if_neg h, if_neg h]
      by_cases h2 : p (m + n) = true
      · rw [if_pos h2, if_neg (by decide)]
      · rw [if_neg h2, if_neg (by decide)]
theorem cmp_word (p q : Nat → Bool) (j : Nat) : cmpSN p q (64 * (j + 1)) = if wd p j < wd q j then -1 else if wd q j < wd p j then 1 else cmpSN p q (64 * j) := by
  rw [Nat.mul_add, Nat.mul_one, cmp_add, cmp_ofB]
  unfold wd
  split
  · rw [if_neg (by decide)]
  · split
    · rw [if_neg (by decide)]
    · rw [if_pos rfl]
theorem cmp_self (p : Nat → Bool) : ∀ n, cmpSN p p n = 0
  | 0 => rfl
  | n + 1 => by unfold cmpSN; rw [if_pos rfl]; exact cmp_self p n
end Go.Eg
namespace Go.Proofs.YtdeppnamhdbbhaaDoor
open Go.RowKit Go.Eg

/-- The numbers below n. -/
def loS (n i : Nat) : Bool := decide (i < n)
def belowOk (x : Int) : Bool := decide (0 ≤ x) && decide (x ≤ 512)
def belowS (x : Int) : Nat → Bool := if belowOk x then loS x.toNat else fun _ => false
def belowE (x : Int) : Int := if belowOk x then 0 else 11
theorem lo_nums (n : Nat) : ∀ i, i ≤ n → numsB (loS n) i = numsB (fun _ => true) i
  | 0, _ => rfl
  | i + 1, h => by rw [numsB_pos (p := loS n) (by simp [loS]; omega), numsB_pos (p := fun _ => true) rfl, lo_nums n i (by omega)]
/-- All of a stand in b. -/
def subB (p q : Nat → Bool) : Nat → Bool
  | 0 => true
  | n + 1 => subB p q n && (!p n || q n)
theorem subB_no {p q : Nat → Bool} : ∀ {n i : Nat}, i < n → p i = true → q i = false → subB p q n = false
  | n + 1, i, h, hp, hq => by
    unfold subB
    by_cases e : i = n
    · subst e; rw [hp, hq]; simp
    · rw [subB_no (by omega : i < n) hp hq]; rfl
end Go.Proofs.YtdeppnamhdbbhaaDoor
namespace Go.Proofs.YtdeppnamhdbbhaaDoor
open Go.RowKit Go.Eg

theorem cells_u64 : Tryd.prog.cellsOf 29 = 1 := by kernel_rfl
theorem info_u64 : ∃ i, Tryd.prog.info? 29 = some i := info_of_underlying Tryd.underlying29
theorem eq_set (a0 a1 a2 a3 a4 a5 a6 a7 b0 b1 b2 b3 b4 b5 b6 b7 : Int) (w : World) :
    (Op.equalIn 10000 31 (.agg #[.int .u64 a0, .int .u64 a1, .int .u64 a2, .int .u64 a3, .int .u64 a4, .int .u64 a5, .int .u64 a6, .int .u64 a7]) (.agg #[.int .u64 b0, .int .u64 b1, .int .u64 b2, .int .u64 b3, .int .u64 b4, .int .u64 b5, .int .u64 b6, .int .u64 b7])).run Tryd.prog w = .ok (a0 == b0 && (a1 == b1 && (a2 == b2 && (a3 == b3 && (a4 == b4 && (a5 == b5 && (a6 == b6 && a7 == b7))))))) w := by
  obtain ⟨i, hi⟩ := info_u64
  have hu := Tryd.underlying29
  rw [run_equalIn_array w 9999 _ _ Tryd.underlying31 hi, cells_u64]
  simp only [List.range, List.range.loop]
  simp only [Op.eqItems, Sem.run_bind]
  simp [go_sem, part, hu, isAgg, run_underlying hu, run_equalIn_int]
  (repeat' split) <;> simp_all
end Go.Proofs.YtdeppnamhdbbhaaDoor
