/- Walks of the statements' own helpers: LentNodes, StayNodes, SpoilNodes. Conditions: what slices read as. -/
import Derived.Test.YtaijjnndnoicpaaKeepA
import Derived.Test.YtaijjnndnoicpaaEgMore
namespace Go.Eg
open Go.RowKit
/-- An empty literal. -/
theorem Own.empty {α : Type} (t : Ty α) {w : World} {e base : Nat} {B : Nat → Prop} (z : Array Value) (z0 : α) (hz : z.size = t.sz) (hrel : ∀ B w, t.rel B w z0 z.toList) (hb : base ≤ w.heap.size) :
    Own t e base B (w.alloc (.cells #[] e)) [] (.slice (some ⟨w.heap.size, 0, none⟩) 0 0) := by
  have h := Own.made (t := t) (e := e) (B := B) (m := 0) z z0 hz hrel hb (by decide)
  rw [Nat.zero_mul, show madeCells z 0 = #[] by simp [madeCells]] at h
  exact h
end Go.Eg
namespace Go.Proofs.Ytaijjnndnoicpaa
open Go.RowKit Go.Eg

def marks : List Nd := [⟨-7, 0⟩, ⟨-8, 0⟩]
theorem lit_marks (w : World) (e : TypeId) : SlP tyNd Any (w.alloc (.cells #[.int .i64 (-7), .int .u8 0, .int .i64 (-8), .int .u8 0] e)) marks (.slice (some ⟨w.heap.size, 0, none⟩) 2 2) :=
  SlP.lit (t := tyNd) marks _ (n := 2) rfl (by decide) trivial (fun i x hx => by
    match i, hx with
    | 0, hx => cases hx; exact ⟨_, ⟨rfl, by decide⟩, fun j u hu => by match j, hu with | 0, hu => exact hu | 1, hu => exact hu | j + 2, hu => simp at hu⟩
    | 1, hx => cases hx; exact ⟨_, ⟨rfl, by decide⟩, fun j u hu => by match j, hu with | 0, hu => exact hu | 1, hu => exact hu | j + 2, hu => simp at hu⟩
    | i + 2, hx => simp [marks] at hx)
/-- A lent list: a row of one's own with marked room behind it. -/
def Lent (base : Nat) (w : World) (t : List Nd) (g c : Nat) : Prop :=
  Own tyNd 54 base No w (t ++ marks) (.slice (some ⟨g, 0, none⟩) (t.length + 2) c) ∧ t.length + 2 ≤ c
theorem Lent.rd {base : Nat} {w : World} {t : List Nd} {g c : Nat} (h : Lent base w t g c) : Rd tyNd w t (.slice (some ⟨g, 0, none⟩) t.length c) := by
  have := (h.1.take (n := t.length + 2) rfl t.length (by simp)).rd
  rwa [List.take_left] at this
theorem Lent.ext {base : Nat} {w w' : World} {t : List Nd} {g c : Nat} (h : Lent base w t g c) (he : Ext w w') : Lent base w' t g c := ⟨h.1.ext he, h.2⟩
theorem Lent.lo {base : Nat} {w : World} {t : List Nd} {g c : Nat} (h : Lent base w t g c) : base ≤ g := h.1.lo g rfl

theorem lent_shape {e base : Nat} {w : World} {t : List Nd} {v : Value} (h : Own tyNd e base No w (t ++ marks) v) : ∃ g c, v = .slice (some ⟨g, 0, none⟩) (t.length + 2) c ∧ t.length + 2 ≤ c := by
  obtain ⟨A, c, rfl, hl, -⟩ := h.shape
  have hm : (t ++ marks).length = t.length + 2 := by simp [marks]
  rcases h.zero with ⟨-, h0, -, -⟩ | ⟨g, rfl, -, -, -⟩
  · omega
  · rw [hm] at hl ⊢
    exact ⟨g, c, rfl, hl⟩

set_option maxHeartbeats 1000000 in
set_option maxRecDepth 100000 in
theorem lentNodes_calls (t : List Nd) (v : Value) (w : World) (hr : Rd tyNd w t v) (hl : t.length * 16 ≤ 140737488351232) :
    Calls Try.prog 15 #[v] w fun e w' => ∃ g c, e = .returned (.slice (some ⟨g, 0, none⟩) t.length c) ∧ Lent w.heap.size w' t g c ∧ Ext w w' := by
  obtain ⟨A, c, rfl, hlc, hcm⟩ := hr.shape
  unfold maxLen at hcm
  have hE : Ext w (w.alloc (.cells #[] 54)) := (Ext.refl w).alloc _
  go_enter Try.func15, Try.ntmps15
  go_wp2_with (first | ((with_reducible refine gate_bi .append #[.tmp 4, .tmp 5] ?_); refine wp_append (t := tyNd) 54 w.heap.size 16 elNd No (.slice (some ⟨w.heap.size, 0, none⟩) 0 0) [] rfl (Own.empty tyNd #[.int .i64 0, .int .u8 0] ⟨0, 0⟩ rfl (fun _ _ => ⟨rfl, by decide⟩) (Nat.le_refl _)) _ t rfl Any (hr.ext hE) (fun _ _ h => h) (by simp; omega) (by decide) (by simp) ?_; intro v1 w1 ho1 hg1 _; have h1 := Ext.grown hE hg1 (by simp [Value.ownBlock]); rw [List.nil_append] at ho1; obtain ⟨A1, c1, rfl, hl1, hm1⟩ := ho1.shape) | ((with_reducible refine gate_bi .append #[.tmp 7, .tmp 10] ?_); refine wp_append (t := tyNd) 54 w.heap.size 16 elNd No (.slice A1 t.length c1) t rfl (ho1.ext ((Ext.refl _).alloc _)) _ marks rfl Any (lit_marks _ _) (fun _ _ h => h) (by show (t.length + 2) * 16 ≤ _; omega) (by decide) (by have := h1.le; simp; omega) ?_; intro v2 w2 ho2 hg2 _; have h2 := Ext.grown (h1.alloc _) hg2 (fun k hk => ho1.lo k hk); obtain ⟨g2, c2, rfl, hl2⟩ := lent_shape ho2; have hl2' : (t.length : Int) ≤ c2 := (by omega)))
  go_ret
  exact ⟨g2, c2, rfl, ⟨ho2, hl2⟩, h2⟩

set_option maxHeartbeats 1000000 in
set_option maxRecDepth 100000 in
theorem stayNodes_calls (t : List Nd) (g c base : Nat) (v : Value) (w : World) (hx : Lent base w t g c) (hr : Rd tyNd w t v) (hl : t.length * 16 ≤ 140737488351232) :
    Calls Try.prog 18 #[.slice (some ⟨g, 0, none⟩) t.length c, v] w fun e w' => e = .returned (.bool true) ∧ Ext w w' := by
  obtain ⟨A, d, rfl, hld, hdm⟩ := hr.shape
  unfold maxLen at hdm
  have hrx := hx.rd
  obtain ⟨b, o, e1, hb, hc0, hc1⟩ := rd_node hx.1.rd (i := t.length) (by simp [marks])
  obtain ⟨b', o', e2, hb', hd0, hd1⟩ := rd_node hx.1.rd (i := t.length + 1) (by simp [marks])
  cases e1
  cases e2
  have n0 : nth (t ++ marks) t.length = ⟨-7, 0⟩ := by simp [nth, marks, List.getD_eq_getElem?_getD]
  have n1 : nth (t ++ marks) (t.length + 1) = ⟨-8, 0⟩ := by simp [nth, marks, List.getD_eq_getElem?_getD]
  rw [n0, Nat.zero_add] at hc0 hc1
  rw [n1, Nat.zero_add] at hd0 hd1
  have hl2 := hx.2
  have hl3 : (t.length : Int) + 2 ≤ c := by omega
  have hl4 : (t.length : Int) ≤ c := by omega
  have HXX : Hid (decide (t = t) = true) := decide_eq_true rfl
  clear n0 n1 hx
  go_enter Try.func18, Try.ntmps18
  go_wp2_with (first | ((go_at_call 11; (with_reducible refine (sameNodes_calls t t _ _ _ hrx hr).mono ?_); rintro e w1 ⟨rfl, h1⟩); rw [HXX.out]; have := (h1).cells; have := (h1).frozens; have : g < w1.heap.size := Nat.lt_of_lt_of_le (by first | assumption | (simp; done) | (simp; omega)) (h1).le))
  go_ret
  exact ⟨rfl, by (repeat (first | assumption | exact Ext.refl _ | apply Ext.alloc | apply Ext.drew | apply Ext.drewN | refine Ext.trans ?_ (by assumption)))⟩
end Go.Proofs.Ytaijjnndnoicpaa
