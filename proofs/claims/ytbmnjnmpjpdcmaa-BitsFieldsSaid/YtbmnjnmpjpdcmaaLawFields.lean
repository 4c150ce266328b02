/- The walk of the law BitsFields. Conditions: none. -/
import Derived.Test.YtbmnjnmpjpdcmaaBitsH
import Derived.Test.YtbmnjnmpjpdcmaaBitsJ
import Derived.Test.YtbmnjnmpjpdcmaaRowLib
import Derived.Test.YtbmnjnmpjpdcmaaSetEq
namespace Go.Proofs.Ytbmnjnmpjpdcmaa
open Go.RowKit Go.Eg

set_option maxHeartbeats 2000000 in
set_option maxRecDepth 100000 in
theorem lawFields_calls (p : Nat → Bool) (x y : Int) (v : Nat) (w : World) (_ : IntIn .i64 x) (_ : IntIn .i64 y) (hv : v < 2 ^ 64) : Calls Try.prog 3 #[Value.agg #[.int .u64 (wd (p) 0 : Nat), .int .u64 (wd (p) 1 : Nat), .int .u64 (wd (p) 2 : Nat), .int .u64 (wd (p) 3 : Nat), .int .u64 (wd (p) 4 : Nat), .int .u64 (wd (p) 5 : Nat), .int .u64 (wd (p) 6 : Nat), .int .u64 (wd (p) 7 : Nat)], .agg #[.int .i64 x, .int .i64 y], .int .u64 v] w fun e w' => e = .returned (.bool true) ∧ Ext w w' := by
  have heq := eq_set
  go_enter Try.func3, Try.ntmps3
  go_wp2_with (first
    | ((go_at_call 6; (with_reducible refine (Field_calls p x y _).mono ?_); rintro e w1 ⟨rfl, h1⟩); have := (h1).cells; have := (h1).frozens; have : w.heap.size < w1.heap.size := Nat.lt_of_lt_of_le (by first | assumption | (simp; done) | (simp; omega)) (h1).le; have := h1.cells; have : w.heap.size + 1 < w1.heap.size := Nat.lt_of_lt_of_le (by first | assumption | (simp; done) | (simp; omega)) (h1).le)
    | ((go_at_call 7; (with_reducible refine (rField_calls p x y _).mono ?_); rintro e w2 ⟨rfl, h2⟩); have := (h2).cells; have := (h2).frozens; have : w.heap.size < w2.heap.size := Nat.lt_of_lt_of_le (by first | assumption | (simp; done) | (simp; omega)) (h2).le; have : w.heap.size + 1 < w2.heap.size := Nat.lt_of_lt_of_le (by first | assumption | (simp; done) | (simp; omega)) (h2).le)
    | ((go_at_call 8; (with_reducible refine (Put_calls p x y v hv _).mono ?_); rintro e w3 ⟨rfl, h3⟩); have := (h3).cells; have := (h3).frozens; have : w.heap.size < w3.heap.size := Nat.lt_of_lt_of_le (by first | assumption | (simp; done) | (simp; omega)) (h3).le; have : w.heap.size + 1 < w3.heap.size := Nat.lt_of_lt_of_le (by first | assumption | (simp; done) | (simp; omega)) (h3).le)
    | ((go_at_call 9; (with_reducible refine (rPut_calls p x y v hv _).mono ?_); rintro e w4 ⟨rfl, h4⟩); have := (h4).cells; have := (h4).frozens; have : w.heap.size < w4.heap.size := Nat.lt_of_lt_of_le (by first | assumption | (simp; done) | (simp; omega)) (h4).le; have := (h4).cells; have := (h4).frozens; have : w3.heap.size < w4.heap.size := Nat.lt_of_lt_of_le (by first | assumption | (simp; done) | (simp; omega)) (h4).le; have : w.heap.size + 1 < w4.heap.size := Nat.lt_of_lt_of_le (by first | assumption | (simp; done) | (simp; omega)) (h4).le)
    | ((go_at_call 11; (with_reducible refine (live_calls _).mono ?_); rintro e w5 ⟨rfl, h5⟩))
    | (go_at_call 10; (with_reducible refine (num_calls _ _).mono ?_); rintro e w' ⟨rfl, hw⟩; obtain rfl := hw.symm))
  go_ret
  exact ⟨rfl, by (repeat (first | assumption | exact Ext.refl _ | apply Ext.alloc | apply Ext.drew | apply Ext.drewN | refine Ext.trans ?_ (by assumption)))⟩
end Go.Proofs.Ytbmnjnmpjpdcmaa
