/- Walks of the statements' own helpers: SameInts, LentInts, StayInts. Conditions: what slices read as. -/
import Derived.Test.YtbmnjnmpjpdcmaaDoorListB
import Derived.Test.YtbmnjnmpjpdcmaaDoorEgMore
namespace Go.Eg
open Go.RowKit
/-- An empty literal. -/
theorem Own.empty {α : Type} (t : Ty α) {w : World} {e base : Nat} {B : Nat → Prop} (z : Array Value) (z0 : α) (hz : z.size = t.sz) (hrel : ∀ B w, t.rel B w z0 z.toList) (hb : base ≤ w.heap.size) :
    Own t e base B (w.alloc (.cells #[] e)) [] (.slice (some ⟨w.heap.size, 0, none⟩) 0 0) := by
  have h := Own.made (t := t) (e := e) (B := B) (m := 0) z z0 hz hrel hb (by decide)
  rw [Nat.zero_mul, show madeCells z 0 = #[] by simp [madeCells]] at h
  exact h
def nthI (t : List Int) (i : Nat) : Int := t.getD i 0
end Go.Eg
namespace Go.Proofs.YtbmnjnmpjpdcmaaDoor
open Go.RowKit Go.Eg

theorem elInts : Elem Tryd.prog 57 31 1 24 := Elem.mk (z := .slice none 0 0) Tryd.underlying57 (by kernel_rfl) rfl (by decide)
def marksI : List Int := [-77, -78]
theorem lit_marksI (w : World) (e : TypeId) : SlP (Ty.int .i64) Any (w.alloc (.cells #[.int .i64 (-77), .int .i64 (-78)] e)) marksI (.slice (some ⟨w.heap.size, 0, none⟩) 2 2) :=
  SlP.lit (t := Ty.int .i64) marksI _ (n := 2) rfl (by decide) trivial (fun i x hx => by
    match i, hx with
    | 0, hx => cases hx; exact ⟨_, rfl, fun j u hu => by match j, hu with | 0, hu => exact hu | j + 1, hu => simp at hu⟩
    | 1, hx => cases hx; exact ⟨_, rfl, fun j u hu => by match j, hu with | 0, hu => exact hu | j + 1, hu => simp at hu⟩
    | i + 2, hx => simp [marksI] at hx)
/-- A lent list: a row of one's own with marked room behind it. -/
def LentI (base : Nat) (w : World) (t : List Int) (g c : Nat) : Prop :=
  Own (Ty.int .i64) 3 base No w (t ++ marksI) (.slice (some ⟨g, 0, none⟩) (t.length + 2) c) ∧ t.length + 2 ≤ c
theorem LentI.rd {base : Nat} {w : World} {t : List Int} {g c : Nat} (h : LentI base w t g c) : Rd (Ty.int .i64) w t (.slice (some ⟨g, 0, none⟩) t.length c) := by
  have := (h.1.take (n := t.length + 2) rfl t.length (by simp)).rd
  rwa [List.take_left] at this
theorem LentI.ext {base : Nat} {w w' : World} {t : List Int} {g c : Nat} (h : LentI base w t g c) (he : Ext w w') : LentI base w' t g c := ⟨h.1.ext he, h.2⟩
theorem lentI_shape {e base : Nat} {w : World} {t : List Int} {v : Value} (h : Own (Ty.int .i64) e base No w (t ++ marksI) v) : ∃ g c, v = .slice (some ⟨g, 0, none⟩) (t.length + 2) c ∧ t.length + 2 ≤ c := by
  obtain ⟨A, c, rfl, hl, -⟩ := h.shape
  have hm : (t ++ marksI).length = t.length + 2 := by simp [marksI]
  rcases h.zero with ⟨-, h0, -, -⟩ | ⟨g, rfl, -, -, -⟩
  · omega
  · rw [hm] at hl ⊢
    exact ⟨g, c, rfl, hl⟩
set_option maxHeartbeats 1000000 in
set_option maxRecDepth 100000 in
theorem lentInts_calls (t : List Int) (v : Value) (w : World) (hr : Rd (Ty.int .i64) w t v) (hl : t.length * 8 ≤ 140737488351232) :
    Calls Tryd.prog 14 #[v] w fun e w' => ∃ g c, e = .returned (.slice (some ⟨g, 0, none⟩) t.length c) ∧ LentI w.heap.size w' t g c ∧ Ext w w' := by
  obtain ⟨A, c, rfl, hlc, hcm⟩ := hr.shape
  unfold maxLen at hcm
  have hE : Ext w (w.alloc (.cells #[] 3)) := (Ext.refl w).alloc _
  go_enter Tryd.func14, Tryd.ntmps14
  go_wp2_with (first | ((with_reducible refine gate_bi .append #[.tmp 4, .tmp 5] ?_); refine wp_append (t := Ty.int .i64) 3 w.heap.size 8 elInt No (.slice (some ⟨w.heap.size, 0, none⟩) 0 0) [] rfl (Own.empty (Ty.int .i64) #[.int .i64 0] 0 rfl (fun _ _ => rfl) (Nat.le_refl _)) _ t rfl Any (hr.ext hE) (fun _ _ h => h) (by simp; omega) (by decide) (by simp) ?_; intro v1 w1 ho1 hg1 _; have h1 := Ext.grown hE hg1 (by simp [Value.ownBlock]); rw [List.nil_append] at ho1; obtain ⟨A1, c1, rfl, hl1, hm1⟩ := ho1.shape) | ((with_reducible refine gate_bi .append #[.tmp 7, .tmp 8] ?_); refine wp_append (t := Ty.int .i64) 3 w.heap.size 8 elInt No (.slice A1 t.length c1) t rfl (ho1.ext ((Ext.refl _).alloc _)) _ marksI rfl Any (lit_marksI _ _) (fun _ _ h => h) (by show (t.length + 2) * 8 ≤ _; omega) (by decide) (by have := h1.le; simp; omega) ?_; intro v2 w2 ho2 hg2 _; have h2 := Ext.grown (h1.alloc _) hg2 (fun k hk => ho1.lo k hk); obtain ⟨g2, c2, rfl, hl2⟩ := lentI_shape ho2; have hl2' : (t.length : Int) ≤ c2 := (by omega)))
  go_ret
  exact ⟨g2, c2, rfl, ⟨ho2, hl2⟩, h2⟩
set_option maxHeartbeats 1000000 in
set_option maxRecDepth 100000 in
theorem sameInts_calls (xs : List Int) (u v : Value) (w : World) (hx : Rd (Ty.int .i64) w xs u) (hy : Rd (Ty.int .i64) w xs v) :
    Calls Tryd.prog 26 #[u, v] w fun e w' => e = .returned (.bool true) ∧ Ext w w' := by
  obtain ⟨A, c, rfl, hlc, hcm⟩ := hx.shape
  obtain ⟨B, d, rfl, hld, hdm⟩ := hy.shape
  unfold maxLen at hcm hdm
  go_enter Tryd.func26, Tryd.ntmps26
  go_wp2_with fail
  go_loopw [5] (fun v5 wr => ∃ i : Nat, v5 = .int .i64 i ∧ i ≤ xs.length ∧ Ext w wr) (fun v5 _ => xs.length - (intOf v5).toNat)
  case atStart => exact ⟨0, rfl, by omega, by (repeat (first | assumption | exact Ext.refl _ | apply Ext.alloc | apply Ext.drew | apply Ext.drewN | refine Ext.trans ?_ (by assumption)))⟩
  case round =>
    obtain ⟨i, rfl, hi, he⟩ := hrel
    by_cases hlt : i < xs.length
    · obtain ⟨y, hyi⟩ : ∃ y, xs[i]? = some y := ⟨_, List.getElem?_eq_getElem hlt⟩
      obtain ⟨b, off, rfl, hb, hc0⟩ := (hx.ext he).int hyi
      obtain ⟨b', off', rfl, hb', hd0⟩ := (hy.ext he).int hyi
      have hi0 : (0 : Int) ≤ (i : Int) := by omega
      have hi1 : (i : Int) < xs.length := by omega
      clear hx hy hyi
      go_wp2_with fail
      go_quiet (fail)
      go_wp2_with fail
      go_roundw
      case rel => exact ⟨i + 1, by go_num, by omega, by (repeat (first | assumption | exact Ext.refl _ | apply Ext.alloc | apply Ext.drew | apply Ext.drewN | refine Ext.trans ?_ (by assumption)))⟩
      case measure => simp [intOf]; omega
    · have hi' : i = xs.length := by omega
      subst hi'
      go_wp2_with fail
      go_ret
      exact ⟨rfl, by (repeat (first | assumption | exact Ext.refl _ | apply Ext.alloc | apply Ext.drew | apply Ext.drewN | refine Ext.trans ?_ (by assumption)))⟩
set_option maxHeartbeats 1000000 in
set_option maxRecDepth 100000 in
theorem stayInts_calls (t : List Int) (g c base : Nat) (v : Value) (w : World) (hx : LentI base w t g c) (hr : Rd (Ty.int .i64) w t v) (hl : t.length * 8 ≤ 140737488351232) :
    Calls Tryd.prog 27 #[.slice (some ⟨g, 0, none⟩) t.length c, v] w fun e w' => e = .returned (.bool true) ∧ Ext w w' := by
  obtain ⟨A, d, rfl, hld, hdm⟩ := hr.shape
  unfold maxLen at hdm
  have hrx := hx.rd
  obtain ⟨b, o, e1, hb, hc0⟩ := hx.1.rd.int (i := t.length) (x := -77) (by simp [marksI])
  obtain ⟨b', o', e2, hb', hd0⟩ := hx.1.rd.int (i := t.length + 1) (x := -78) (by rw [List.getElem?_append_right (by omega)]; simp [marksI])
  cases e1
  cases e2
  rw [Nat.zero_add] at hc0 hd0
  have hl2 := hx.2
  have hl3 : (t.length : Int) + 2 ≤ c := by omega
  have hl4 : (t.length : Int) ≤ c := by omega
  clear hx
  go_enter Tryd.func27, Tryd.ntmps27
  go_wp2_with (first | ((go_at_call 26; (with_reducible refine (sameInts_calls t _ _ _ hrx hr).mono ?_); rintro e w1 ⟨rfl, h1⟩); have := (h1).cells; have := (h1).frozens; have : g < w1.heap.size := Nat.lt_of_lt_of_le (by first | assumption | (simp; done) | (simp; omega)) (h1).le))
  go_ret
  exact ⟨rfl, by (repeat (first | assumption | exact Ext.refl _ | apply Ext.alloc | apply Ext.drew | apply Ext.drewN | refine Ext.trans ?_ (by assumption)))⟩
end Go.Proofs.YtbmnjnmpjpdcmaaDoor
