/- The walk of the law BitsBack. Conditions: the library's table as its initialiser lays it. -/
import Derived.Test.YtbmnjnmpjpdcmaaDoorEachC
import Derived.Test.YtbmnjnmpjpdcmaaDoorBackLawM
import Derived.Test.YtbmnjnmpjpdcmaaDoorBitsJ
import Derived.Test.YtbmnjnmpjpdcmaaDoorSetEq
import Derived.Test.YtbmnjnmpjpdcmaaDoorRowSet
namespace Go.Proofs.YtbmnjnmpjpdcmaaDoor
open Go.RowKit Go.Eg

theorem wrap_both (n : Int) : wrap64 n = IntKind.i64.wrap n := by rw [IntKind.wrap_i64]; unfold wrap64; omega
theorem sum_go {x m s : Int} (hx : -9223372036854775808 < x) (hx2 : x ≤ 9223372036854775807) (hm : -9223372036854775808 ≤ m) (hm2 : m ≤ 9223372036854775807) (hs : IntKind.i64.wrap (x + m) = s) (h : 0 ≤ x ∧ 0 ≤ m ∧ 0 ≤ s ∨ x ≤ 0 ∧ m ≤ 0 ∧ s ≤ 0) : s = x + m := by
  rw [IntKind.wrap_i64] at hs
  omega
set_option maxHeartbeats 8000000 in
set_option maxRecDepth 100000 in
theorem lawBack_calls (p : Nat → Bool) (x m : Int) (w : World) (hT : Tab w) (hx : IntIn .i64 x) (hm : IntIn .i64 m) :
    Calls Tryd.prog 4 #[Value.agg #[.int .u64 (wd (p) 0 : Nat), .int .u64 (wd (p) 1 : Nat), .int .u64 (wd (p) 2 : Nat), .int .u64 (wd (p) 3 : Nat), .int .u64 (wd (p) 4 : Nat), .int .u64 (wd (p) 5 : Nat), .int .u64 (wd (p) 6 : Nat), .int .u64 (wd (p) 7 : Nat)], .int .i64 x, .int .i64 m] w fun e w' => e = .returned (.bool true) ∧ Ext w w' := by
  have heq := eq_set
  have HX0 : Hid (Ext w (w.alloc (.cells #[Value.int .u64 (wd (p) 0 : Nat), .int .u64 (wd (p) 1 : Nat), .int .u64 (wd (p) 2 : Nat), .int .u64 (wd (p) 3 : Nat), .int .u64 (wd (p) 4 : Nat), .int .u64 (wd (p) 5 : Nat), .int .u64 (wd (p) 6 : Nat), .int .u64 (wd (p) 7 : Nat)] 24))) := by show Ext _ _; (repeat (first | assumption | exact Ext.refl _ | apply Ext.alloc | apply Ext.drew | apply Ext.drewN | refine Ext.set ?_ (by first | exact Nat.le_refl _ | exact Nat.le_succ _ | exact Nat.le_add_right _ _ | exact Nat.le_trans (Nat.le_succ _) (Nat.le_succ _) | omega) _ | refine Ext.trans ?_ (by assumption)))
  obtain ⟨x1, x2⟩ := IntIn.bd hx
  obtain ⟨m1, m2⟩ := IntIn.bd hm
  clear hx hm
  obtain ⟨x', hx'⟩ : ∃ x', IntKind.i64.wrap (-x) = x' := ⟨_, rfl⟩
  have hx64 : wrap64 (-x) = x' := (wrap_both _).trans hx'
  obtain ⟨A, hA⟩ : ∃ A, A = shiftS p x := ⟨_, rfl⟩
  have HT := Lib.hid hT
  have HA := Lib.hid hA
  have hTl := hT.lt
  clear hT
  by_cases hmin : x = -9223372036854775808
  · have hq1 : (x == x') = true := by
      rw [← hx', hmin]; decide
    have hq2 : (x != 0) = true := by rw [hmin]; decide
    have hA0 : A = fun _ => false := by rw [hA, hmin]; rfl
    have hz : ∀ j, (((wd A j : Nat) : Int) == 0) = true := fun j => by rw [hA0, wd_none]; rfl
    have z0 := hz 0; have z1 := hz 1; have z2 := hz 2; have z3 := hz 3; have z4 := hz 4; have z5 := hz 5; have z6 := hz 6; have z7 := hz 7
    clear hz hA0 hA hmin x1
    go_enter Tryd.func4, Tryd.ntmps4
    go_wp2_with (first
      | ((go_at_call 9; (with_reducible refine (Shift_calls p x _ (HT.out.ext (by have := HX0.out; (repeat (first | assumption | exact Ext.refl _ | apply Ext.alloc | apply Ext.drew | apply Ext.drewN | refine Ext.trans ?_ (by assumption)))))).mono ?_); rintro e w1 ⟨rfl, h1⟩); rw [← HA.out]; have : w.heap.size < w1.heap.size := Nat.lt_of_lt_of_le (by first | assumption | (simp; done) | (simp; omega)) (h1).le)
      | ((go_at_call 9; (with_reducible refine (Shift_calls A x' _ (HT.out.ext (by have := HX0.out; (repeat (first | assumption | exact Ext.refl _ | apply Ext.alloc | apply Ext.drew | apply Ext.drewN | refine Ext.trans ?_ (by assumption)))))).mono ?_); rintro e w2 ⟨rfl, h2⟩); have := (h2).cells; have := (h2).frozens; have : w1.heap.size < w2.heap.size := Nat.lt_of_lt_of_le (by first | assumption | (simp; done) | (simp; omega)) (h2).le)
      | ((go_at_call 11; (with_reducible refine (live_calls _).mono ?_); rintro e w3 ⟨rfl, h3⟩)))
    go_ret
    exact ⟨rfl, by have := HX0.out; (repeat (first | assumption | exact Ext.refl _ | apply Ext.alloc | apply Ext.drew | apply Ext.drewN | refine Ext.trans ?_ (by assumption)))⟩
  · have hneg : x' = -x := by rw [← hx']; exact IntWalk.i64_in _ (by omega)
    subst hneg
    obtain ⟨B, hB⟩ : ∃ B, B = shiftS A (-x) := ⟨_, rfl⟩
    have HB := Lib.hid hB
    have HSZ : Hid (cnt B 512 = cnt A 512) := by show _ = _; rw [hB, hA]; exact size_back p x
    have HSB : Hid (subB B p 512 = true) := by show _ = _; rw [hB, hA]; exact sub_back p x
    obtain ⟨s, hs⟩ : ∃ s, IntKind.i64.wrap (x + m) = s := ⟨_, rfl⟩
    have hs64 : wrap64 (x + m) = s := (wrap_both _).trans hs
    have HEQ : Hid (0 ≤ x ∧ 0 ≤ m ∧ 0 ≤ s ∨ x ≤ 0 ∧ m ≤ 0 ∧ s ≤ 0 → Value.agg #[.int .u64 (wd (shiftS A m) 0 : Nat), .int .u64 (wd (shiftS A m) 1 : Nat), .int .u64 (wd (shiftS A m) 2 : Nat), .int .u64 (wd (shiftS A m) 3 : Nat), .int .u64 (wd (shiftS A m) 4 : Nat), .int .u64 (wd (shiftS A m) 5 : Nat), .int .u64 (wd (shiftS A m) 6 : Nat), .int .u64 (wd (shiftS A m) 7 : Nat)] = Value.agg #[.int .u64 (wd (shiftS p s) 0 : Nat), .int .u64 (wd (shiftS p s) 1 : Nat), .int .u64 (wd (shiftS p s) 2 : Nat), .int .u64 (wd (shiftS p s) 3 : Nat), .int .u64 (wd (shiftS p s) 4 : Nat), .int .u64 (wd (shiftS p s) 5 : Nat), .int .u64 (wd (shiftS p s) 6 : Nat), .int .u64 (wd (shiftS p s) 7 : Nat)]) := fun h => by
      rw [sum_go (by omega) x2 m1 m2 hs h, hA]; exact sv_shift p (by omega)
    have hsb : x = 0 → s = m := fun h => by rw [← hs, h, Int.zero_add]; exact IntWalk.i64_in _ (by omega)
    have hcase : (x == -x) = true ∧ (x != 0) = false ∨ (x == -x) = false := by
      by_cases h0 : x = 0
      · exact .inl ⟨by rw [beq_iff_eq]; omega, by rw [h0]; rfl⟩
      · exact .inr (beq_eq_false_iff_ne.2 (by omega))
    have hseven : (0 ≤ x ∧ 0 ≤ m ∧ 0 ≤ s) ∨ (0 ≤ x ∧ 0 ≤ m ∧ decide (0 ≤ s) = false ∧ decide (x ≤ 0) = false) ∨ (0 ≤ x ∧ decide (0 ≤ m) = false ∧ x ≤ 0 ∧ m ≤ 0 ∧ s ≤ 0) ∨ (0 ≤ x ∧ decide (0 ≤ m) = false ∧ decide (x ≤ 0) = false) ∨ (decide (0 ≤ x) = false ∧ x ≤ 0 ∧ m ≤ 0 ∧ s ≤ 0) ∨ (decide (0 ≤ x) = false ∧ x ≤ 0 ∧ m ≤ 0 ∧ decide (s ≤ 0) = false) ∨ (decide (0 ≤ x) = false ∧ x ≤ 0 ∧ decide (m ≤ 0) = false) := by
      simp only [decide_eq_false_iff_not]; omega
    have HSEV := Lib.hid hseven
    clear hA hB hseven hsb hmin
    rcases hcase with ⟨hq1, hq2⟩ | hq1
    all_goals
      go_enter Tryd.func4, Tryd.ntmps4
      go_wp2_with (first
        | ((go_at_call 9; (with_reducible refine (Shift_calls p x _ (HT.out.ext (by have := HX0.out; (repeat (first | assumption | exact Ext.refl _ | apply Ext.alloc | apply Ext.drew | apply Ext.drewN | refine Ext.trans ?_ (by assumption)))))).mono ?_); rintro e w1 ⟨rfl, h1⟩); rw [← HA.out]; have : w.heap.size < w1.heap.size := Nat.lt_of_lt_of_le (by first | assumption | (simp; done) | (simp; omega)) (h1).le)
        | ((go_at_call 9; (with_reducible refine (Shift_calls A (-x) _ (HT.out.ext (by have := HX0.out; (repeat (first | assumption | exact Ext.refl _ | apply Ext.alloc | apply Ext.drew | apply Ext.drewN | refine Ext.trans ?_ (by assumption)))))).mono ?_); rintro e w2 ⟨rfl, h2⟩); rw [← HB.out]; have : w.heap.size < w2.heap.size := Nat.lt_of_lt_of_le (by first | assumption | (simp; done) | (simp; omega)) (h2).le; have : w1.heap.size < w2.heap.size := Nat.lt_of_lt_of_le (by first | assumption | (simp; done) | (simp; omega)) (h2).le))
      have l0 : w.heap.size < (w.alloc (.cells #[Value.int .u64 (wd (p) 0 : Nat), .int .u64 (wd (p) 1 : Nat), .int .u64 (wd (p) 2 : Nat), .int .u64 (wd (p) 3 : Nat), .int .u64 (wd (p) 4 : Nat), .int .u64 (wd (p) 5 : Nat), .int .u64 (wd (p) 6 : Nat), .int .u64 (wd (p) 7 : Nat)] 24)).heap.size := by simp
      have l1 : w1.heap.size < (w1.alloc (.cells #[Value.int .u64 (wd (A) 0 : Nat), .int .u64 (wd (A) 1 : Nat), .int .u64 (wd (A) 2 : Nat), .int .u64 (wd (A) 3 : Nat), .int .u64 (wd (A) 4 : Nat), .int .u64 (wd (A) 5 : Nat), .int .u64 (wd (A) 6 : Nat), .int .u64 (wd (A) 7 : Nat)] 24)).heap.size := by simp
      have g1 := h1.le
      have g2 := h2.le
      have HC3 : Hid (Arr (w2.alloc (.cells #[Value.int .u64 (wd (B) 0 : Nat), .int .u64 (wd (B) 1 : Nat), .int .u64 (wd (B) 2 : Nat), .int .u64 (wd (B) 3 : Nat), .int .u64 (wd (B) 4 : Nat), .int .u64 (wd (B) 5 : Nat), .int .u64 (wd (B) 6 : Nat), .int .u64 (wd (B) 7 : Nat)] 24)) w.heap.size p) := Lib.hid (((((Arr.made p rfl).ext h1 (by omega)).old (by omega)).ext h2 (by omega)).old (by omega))
      have HC7 : Hid (Arr (w2.alloc (.cells #[Value.int .u64 (wd (B) 0 : Nat), .int .u64 (wd (B) 1 : Nat), .int .u64 (wd (B) 2 : Nat), .int .u64 (wd (B) 3 : Nat), .int .u64 (wd (B) 4 : Nat), .int .u64 (wd (B) 5 : Nat), .int .u64 (wd (B) 6 : Nat), .int .u64 (wd (B) 7 : Nat)] 24)) w1.heap.size A) := Lib.hid (((Arr.made A rfl).ext h2 (by omega)).old (by omega))
      have HC8 : Hid (Arr (w2.alloc (.cells #[Value.int .u64 (wd (B) 0 : Nat), .int .u64 (wd (B) 1 : Nat), .int .u64 (wd (B) 2 : Nat), .int .u64 (wd (B) 3 : Nat), .int .u64 (wd (B) 4 : Nat), .int .u64 (wd (B) 5 : Nat), .int .u64 (wd (B) 6 : Nat), .int .u64 (wd (B) 7 : Nat)] 24)) w2.heap.size B) := Lib.hid (Arr.made B rfl)
      have HX : Hid (Ext w (w2.alloc (.cells #[Value.int .u64 (wd (B) 0 : Nat), .int .u64 (wd (B) 1 : Nat), .int .u64 (wd (B) 2 : Nat), .int .u64 (wd (B) 3 : Nat), .int .u64 (wd (B) 4 : Nat), .int .u64 (wd (B) 5 : Nat), .int .u64 (wd (B) 6 : Nat), .int .u64 (wd (B) 7 : Nat)] 24))) := by show Ext _ _; have := HX0.out; (repeat (first | assumption | exact Ext.refl _ | apply Ext.alloc | apply Ext.drew | apply Ext.drewN | refine Ext.trans ?_ (by assumption)))
      have HS : Hid (w2.heap.size < (w2.alloc (.cells #[Value.int .u64 (wd (B) 0 : Nat), .int .u64 (wd (B) 1 : Nat), .int .u64 (wd (B) 2 : Nat), .int .u64 (wd (B) 3 : Nat), .int .u64 (wd (B) 4 : Nat), .int .u64 (wd (B) 5 : Nat), .int .u64 (wd (B) 6 : Nat), .int .u64 (wd (B) 7 : Nat)] 24)).heap.size) := by show _ < _; simp
      clear h1 h2 l0 l1 HX0
      have HT2 := Lib.hid (HT.out.ext HX.out)
      clear HT
      generalize w2.alloc (.cells #[Value.int .u64 (wd (B) 0 : Nat), .int .u64 (wd (B) 1 : Nat), .int .u64 (wd (B) 2 : Nat), .int .u64 (wd (B) 3 : Nat), .int .u64 (wd (B) 4 : Nat), .int .u64 (wd (B) 5 : Nat), .int .u64 (wd (B) 6 : Nat), .int .u64 (wd (B) 7 : Nat)] 24) = W at *
      have hbs := HS.out
      have hb0 : w.heap.size < W.heap.size := by omega
      have hb1 : w1.heap.size < W.heap.size := by omega
      have H__ := HC3.out
      have ca0 := (H__ 0 (by omega)).1
      have ca1 := (H__ 1 (by omega)).1
      have ca2 := (H__ 2 (by omega)).1
      have ca3 := (H__ 3 (by omega)).1
      have ca4 := (H__ 4 (by omega)).1
      have ca5 := (H__ 5 (by omega)).1
      have ca6 := (H__ 6 (by omega)).1
      have ca7 := (H__ 7 (by omega)).1
      clear H__
      have H__ := HC7.out
      have cb0 := (H__ 0 (by omega)).1
      have cb1 := (H__ 1 (by omega)).1
      have cb2 := (H__ 2 (by omega)).1
      have cb3 := (H__ 3 (by omega)).1
      have cb4 := (H__ 4 (by omega)).1
      have cb5 := (H__ 5 (by omega)).1
      have cb6 := (H__ 6 (by omega)).1
      have cb7 := (H__ 7 (by omega)).1
      clear H__
      have H__ := HC8.out
      have cc0 := (H__ 0 (by omega)).1
      have cc1 := (H__ 1 (by omega)).1
      have cc2 := (H__ 2 (by omega)).1
      have cc3 := (H__ 3 (by omega)).1
      have cc4 := (H__ 4 (by omega)).1
      have cc5 := (H__ 5 (by omega)).1
      have cc6 := (H__ 6 (by omega)).1
      have cc7 := (H__ 7 (by omega)).1
      clear H__
      clear g1 g2 HC3 HC7 HC8
      go_region_held3 (fun w' => (∀ b o, b < W.heap.size → w'.cell? ⟨b, o, none⟩ = W.cell? ⟨b, o, none⟩) ∧ Ext W w') (refine ⟨Ext.cells ?_, ?_⟩ <;> ((repeat (first | assumption | exact Ext.refl _ | apply Ext.alloc | apply Ext.drew | apply Ext.drewN | refine Ext.trans ?_ (by assumption))))) (first
        | ((go_at_call 12; (with_reducible refine (Size_calls B _).mono ?_); rintro e w3 ⟨rfl, h3⟩); rw [HSZ.out]; (try replace h3 := Ext.undrew h3))
        | ((go_at_call 12; (with_reducible refine (Size_calls A _).mono ?_); rintro e w3 ⟨rfl, h3⟩); (try replace h3 := Ext.undrew h3))
        | ((go_at_call 13; (with_reducible refine (Subset_calls B p _).mono ?_); rintro e w3 ⟨rfl, h3⟩); rw [HSB.out]; (try replace h3 := Ext.undrew h3)))
      have hX := HX.out
      rcases HSEV.out with ⟨k1, k2, k3⟩ | ⟨k1, k2, k3, k4⟩ | ⟨k1, k2, k3, k4, k5⟩ | ⟨k1, k2, k3⟩ | ⟨k1, k2, k3, k4⟩ | ⟨k1, k2, k3, k4⟩ | ⟨k1, k2, k3⟩
      · have HE2 := Lib.hid (HEQ.out (.inl ⟨k1, k2, k3⟩))
        go_wp2_with fail
        go_region_held3 (fun w' => (∀ b o, b < W.heap.size → w'.cell? ⟨b, o, none⟩ = W.cell? ⟨b, o, none⟩) ∧ Ext W w') (refine ⟨Ext.cells ?_, ?_⟩ <;> ((repeat (first | assumption | exact Ext.refl _ | apply Ext.alloc | apply Ext.drew | apply Ext.drewN | refine Ext.trans ?_ (by assumption))))) (first
          | ((go_at_call 9; (with_reducible refine (Shift_calls A m _ (HT2.out.ext (by (repeat (first | assumption | exact Ext.refl _ | apply Ext.alloc | apply Ext.drew | apply Ext.drewN | refine Ext.trans ?_ (by assumption)))))).mono ?_); rintro e w3 ⟨rfl, h3⟩); rw [HE2.out]; (try replace h3 := Ext.undrew h3))
          | ((go_at_call 9; (with_reducible refine (Shift_calls p s _ (HT2.out.ext (by (repeat (first | assumption | exact Ext.refl _ | apply Ext.alloc | apply Ext.drew | apply Ext.drewN | refine Ext.trans ?_ (by assumption)))))).mono ?_); rintro e w3 ⟨rfl, h3⟩); (try replace h3 := Ext.undrew h3))
          | ((go_at_call 11; (with_reducible refine (live_calls _).mono ?_); rintro e w3 ⟨rfl, h3⟩); (try replace h3 := Ext.undrew h3)))
        go_wp2_with fail
        go_ret
        exact ⟨rfl, by (repeat (first | assumption | exact Ext.refl _ | apply Ext.alloc | apply Ext.drew | apply Ext.drewN | refine Ext.trans ?_ (by assumption)))⟩
      · go_wp2_with ((go_at_call 11; (with_reducible refine (live_calls _).mono ?_); rintro e w3 ⟨rfl, h3⟩))
        go_ret
        exact ⟨rfl, by (repeat (first | assumption | exact Ext.refl _ | apply Ext.alloc | apply Ext.drew | apply Ext.drewN | refine Ext.trans ?_ (by assumption)))⟩
      · have HE2 := Lib.hid (HEQ.out (.inr ⟨k3, k4, k5⟩))
        go_wp2_with fail
        go_region_held3 (fun w' => (∀ b o, b < W.heap.size → w'.cell? ⟨b, o, none⟩ = W.cell? ⟨b, o, none⟩) ∧ Ext W w') (refine ⟨Ext.cells ?_, ?_⟩ <;> ((repeat (first | assumption | exact Ext.refl _ | apply Ext.alloc | apply Ext.drew | apply Ext.drewN | refine Ext.trans ?_ (by assumption))))) (first
          | ((go_at_call 9; (with_reducible refine (Shift_calls A m _ (HT2.out.ext (by (repeat (first | assumption | exact Ext.refl _ | apply Ext.alloc | apply Ext.drew | apply Ext.drewN | refine Ext.trans ?_ (by assumption)))))).mono ?_); rintro e w3 ⟨rfl, h3⟩); rw [HE2.out]; (try replace h3 := Ext.undrew h3))
          | ((go_at_call 9; (with_reducible refine (Shift_calls p s _ (HT2.out.ext (by (repeat (first | assumption | exact Ext.refl _ | apply Ext.alloc | apply Ext.drew | apply Ext.drewN | refine Ext.trans ?_ (by assumption)))))).mono ?_); rintro e w3 ⟨rfl, h3⟩); (try replace h3 := Ext.undrew h3))
          | ((go_at_call 11; (with_reducible refine (live_calls _).mono ?_); rintro e w3 ⟨rfl, h3⟩); (try replace h3 := Ext.undrew h3)))
        go_wp2_with fail
        go_ret
        exact ⟨rfl, by (repeat (first | assumption | exact Ext.refl _ | apply Ext.alloc | apply Ext.drew | apply Ext.drewN | refine Ext.trans ?_ (by assumption)))⟩
      · go_wp2_with ((go_at_call 11; (with_reducible refine (live_calls _).mono ?_); rintro e w3 ⟨rfl, h3⟩))
        go_ret
        exact ⟨rfl, by (repeat (first | assumption | exact Ext.refl _ | apply Ext.alloc | apply Ext.drew | apply Ext.drewN | refine Ext.trans ?_ (by assumption)))⟩
      · have HE2 := Lib.hid (HEQ.out (.inr ⟨k2, k3, k4⟩))
        go_wp2_with fail
        go_region_held3 (fun w' => (∀ b o, b < W.heap.size → w'.cell? ⟨b, o, none⟩ = W.cell? ⟨b, o, none⟩) ∧ Ext W w') (refine ⟨Ext.cells ?_, ?_⟩ <;> ((repeat (first | assumption | exact Ext.refl _ | apply Ext.alloc | apply Ext.drew | apply Ext.drewN | refine Ext.trans ?_ (by assumption))))) (first
          | ((go_at_call 9; (with_reducible refine (Shift_calls A m _ (HT2.out.ext (by (repeat (first | assumption | exact Ext.refl _ | apply Ext.alloc | apply Ext.drew | apply Ext.drewN | refine Ext.trans ?_ (by assumption)))))).mono ?_); rintro e w3 ⟨rfl, h3⟩); rw [HE2.out]; (try replace h3 := Ext.undrew h3))
          | ((go_at_call 9; (with_reducible refine (Shift_calls p s _ (HT2.out.ext (by (repeat (first | assumption | exact Ext.refl _ | apply Ext.alloc | apply Ext.drew | apply Ext.drewN | refine Ext.trans ?_ (by assumption)))))).mono ?_); rintro e w3 ⟨rfl, h3⟩); (try replace h3 := Ext.undrew h3))
          | ((go_at_call 11; (with_reducible refine (live_calls _).mono ?_); rintro e w3 ⟨rfl, h3⟩); (try replace h3 := Ext.undrew h3)))
        go_wp2_with fail
        go_ret
        exact ⟨rfl, by (repeat (first | assumption | exact Ext.refl _ | apply Ext.alloc | apply Ext.drew | apply Ext.drewN | refine Ext.trans ?_ (by assumption)))⟩
      · go_wp2_with ((go_at_call 11; (with_reducible refine (live_calls _).mono ?_); rintro e w3 ⟨rfl, h3⟩))
        go_ret
        exact ⟨rfl, by (repeat (first | assumption | exact Ext.refl _ | apply Ext.alloc | apply Ext.drew | apply Ext.drewN | refine Ext.trans ?_ (by assumption)))⟩
      · go_wp2_with ((go_at_call 11; (with_reducible refine (live_calls _).mono ?_); rintro e w3 ⟨rfl, h3⟩))
        go_ret
        exact ⟨rfl, by (repeat (first | assumption | exact Ext.refl _ | apply Ext.alloc | apply Ext.drew | apply Ext.drewN | refine Ext.trans ?_ (by assumption)))⟩
end Go.Proofs.YtbmnjnmpjpdcmaaDoor
