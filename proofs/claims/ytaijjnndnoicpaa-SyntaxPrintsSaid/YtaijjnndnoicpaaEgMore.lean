/- More words that the proofs of this seat share. Conditions: none; plain theorems over any program. -/
import Derived.Test.YtaijjnndnoicpaaEgLib
namespace Go.Eg
open Go.RowKit

/-- A literal: cells in a new block. -/
theorem SlP.lit {α : Type} {t : Ty α} {B : Nat → Prop} {w : World} {e : TypeId} (xs : List α) (cells : Array Value) {n : Nat} (hn : n = xs.length) (hm : xs.length ≤ maxLen) (hB : B w.heap.size)
    (h : ∀ i x, xs[i]? = some x → ∃ cs, t.rel B (w.alloc (.cells cells e)) x cs ∧ ∀ j u, cs[j]? = some u → cells[i * t.sz + j]? = some u) :
    SlP t B (w.alloc (.cells cells e)) xs (.slice (some ⟨w.heap.size, 0, none⟩) n n) := by
  subst hn
  refine ⟨_, _, rfl, Nat.le_refl _, hm, fun _ => ⟨w.heap.size, 0, rfl, hB, by simp, fun i x hx => ?_⟩⟩
  obtain ⟨cs, hr, hc⟩ := h i x hx
  refine ⟨cs, hr, fun j u hu => ?_⟩
  rw [Nat.zero_add, World.cell?_alloc_new]
  exact hc j u hu
/-- A piece of what a whole slice reads as. -/
theorem Rd.piece {α : Type} {t : Ty α} {w : World} {xs : List α} {A : Option Addr} {n c : Nat} (h : Rd t w xs (.slice A n c)) (i m c' : Nat) (hm : 0 < m) (him : i + m ≤ xs.length) (hc : m ≤ c') (hc' : c' ≤ c - i) :
    ∃ b off, A = some ⟨b, off, none⟩ ∧ Rd t w ((xs.drop i).take m) (.slice (some ⟨b, off + i * t.sz, none⟩) m c') := by
  obtain ⟨A', c0, e, hl, hmx, hr⟩ := h
  cases e
  obtain ⟨b, off, e, hb, hlt, hrow⟩ := hr (by rintro rfl; simp at him; omega)
  subst e
  have hlen : ((xs.drop i).take m).length = m := by rw [List.length_take, List.length_drop]; omega
  refine ⟨b, off, rfl, _, c', by rw [hlen], by omega, by omega, fun _ => ⟨b, _, rfl, hb, hlt, (hrow.drop i).take m⟩⟩
end Go.Eg
