/- The walk of the law BitsSets. Conditions: none. -/
import Derived.Test.YtbmnjnmpjpdcmaaBitsJ
import Derived.Test.YtbmnjnmpjpdcmaaBitsM
import Derived.Test.YtbmnjnmpjpdcmaaBitsN
import Derived.Test.YtbmnjnmpjpdcmaaRowLib
namespace Go.Proofs.Ytbmnjnmpjpdcmaa
open Go.RowKit Go.Eg

set_option maxHeartbeats 4000000 in
set_option maxRecDepth 100000 in
theorem lawSets_calls (p q : Nat → Bool) (x : Int) (w : World) (_ : IntIn .i64 x) :
    Calls Try.prog 5 #[Value.agg #[.int .u64 (wd (p) 0 : Nat), .int .u64 (wd (p) 1 : Nat), .int .u64 (wd (p) 2 : Nat), .int .u64 (wd (p) 3 : Nat), .int .u64 (wd (p) 4 : Nat), .int .u64 (wd (p) 5 : Nat), .int .u64 (wd (p) 6 : Nat), .int .u64 (wd (p) 7 : Nat)], Value.agg #[.int .u64 (wd (q) 0 : Nat), .int .u64 (wd (q) 1 : Nat), .int .u64 (wd (q) 2 : Nat), .int .u64 (wd (q) 3 : Nat), .int .u64 (wd (q) 4 : Nat), .int .u64 (wd (q) 5 : Nat), .int .u64 (wd (q) 6 : Nat), .int .u64 (wd (q) 7 : Nat)], .int .i64 x] w fun e w' => e = .returned (.bool true) ∧ Ext w w' := by
  have heq := eq_set
  obtain ⟨r, hr⟩ : ∃ r, r = belowS x := ⟨_, rfl⟩
  have HR := Lib.hid hr
  clear hr
  go_enter Try.func5, Try.ntmps5
  go_wp2_with (first
    | ((go_at_call 13; (with_reducible refine (Below_calls x _).mono ?_); rintro e w1 ⟨rfl, h1⟩); rw [← HR.out]; have : w.heap.size < w1.heap.size := Nat.lt_of_lt_of_le (by first | assumption | (simp; done) | (simp; omega)) (h1).le; have : w.heap.size + 1 < w1.heap.size := Nat.lt_of_lt_of_le (by first | assumption | (simp; done) | (simp; omega)) (h1).le)
    | ((go_at_call 14; (with_reducible refine (rBelow_calls x _).mono ?_); rintro e w2 ⟨rfl, h2⟩); rw [← HR.out]; have : w.heap.size < w2.heap.size := Nat.lt_of_lt_of_le (by first | assumption | (simp; done) | (simp; omega)) (h2).le; have : w.heap.size + 1 < w2.heap.size := Nat.lt_of_lt_of_le (by first | assumption | (simp; done) | (simp; omega)) (h2).le; have : w1.heap.size < w2.heap.size := Nat.lt_of_lt_of_le (by first | assumption | (simp; done) | (simp; omega)) (h2).le))
  have l0 : w.heap.size + 1 < ((w.alloc (.cells #[Value.int .u64 (wd (p) 0 : Nat), .int .u64 (wd (p) 1 : Nat), .int .u64 (wd (p) 2 : Nat), .int .u64 (wd (p) 3 : Nat), .int .u64 (wd (p) 4 : Nat), .int .u64 (wd (p) 5 : Nat), .int .u64 (wd (p) 6 : Nat), .int .u64 (wd (p) 7 : Nat)] 24)).alloc (.cells #[Value.int .u64 (wd (q) 0 : Nat), .int .u64 (wd (q) 1 : Nat), .int .u64 (wd (q) 2 : Nat), .int .u64 (wd (q) 3 : Nat), .int .u64 (wd (q) 4 : Nat), .int .u64 (wd (q) 5 : Nat), .int .u64 (wd (q) 6 : Nat), .int .u64 (wd (q) 7 : Nat)] 24)).heap.size := by simp
  have g1 := h1.le
  have g2 := h2.le
  have l1 : w1.heap.size < (w1.alloc (.cells #[Value.int .u64 (wd (r) 0 : Nat), .int .u64 (wd (r) 1 : Nat), .int .u64 (wd (r) 2 : Nat), .int .u64 (wd (r) 3 : Nat), .int .u64 (wd (r) 4 : Nat), .int .u64 (wd (r) 5 : Nat), .int .u64 (wd (r) 6 : Nat), .int .u64 (wd (r) 7 : Nat)] 24)).heap.size := by simp
  have HB : Hid (Arr (w2.alloc (.cells #[Value.int .u64 (wd (r) 0 : Nat), .int .u64 (wd (r) 1 : Nat), .int .u64 (wd (r) 2 : Nat), .int .u64 (wd (r) 3 : Nat), .int .u64 (wd (r) 4 : Nat), .int .u64 (wd (r) 5 : Nat), .int .u64 (wd (r) 6 : Nat), .int .u64 (wd (r) 7 : Nat)] 24)) w.heap.size p) := Lib.hid (((((Arr.made p rfl).old (by simp)).ext h1 (by omega)).old (by omega)).ext h2 (by omega) |>.old (by omega))
  have HC : Hid (Arr (w2.alloc (.cells #[Value.int .u64 (wd (r) 0 : Nat), .int .u64 (wd (r) 1 : Nat), .int .u64 (wd (r) 2 : Nat), .int .u64 (wd (r) 3 : Nat), .int .u64 (wd (r) 4 : Nat), .int .u64 (wd (r) 5 : Nat), .int .u64 (wd (r) 6 : Nat), .int .u64 (wd (r) 7 : Nat)] 24)) (w.heap.size + 1) q) := Lib.hid ((((Arr.made q (by simp)).ext h1 (by omega)).old (by omega)).ext h2 (by omega) |>.old (by omega))
  have H7 : Hid (Arr (w2.alloc (.cells #[Value.int .u64 (wd (r) 0 : Nat), .int .u64 (wd (r) 1 : Nat), .int .u64 (wd (r) 2 : Nat), .int .u64 (wd (r) 3 : Nat), .int .u64 (wd (r) 4 : Nat), .int .u64 (wd (r) 5 : Nat), .int .u64 (wd (r) 6 : Nat), .int .u64 (wd (r) 7 : Nat)] 24)) w1.heap.size r) := Lib.hid (((Arr.made r rfl).ext h2 (by omega)).old (by omega))
  have H9 : Hid (Arr (w2.alloc (.cells #[Value.int .u64 (wd (r) 0 : Nat), .int .u64 (wd (r) 1 : Nat), .int .u64 (wd (r) 2 : Nat), .int .u64 (wd (r) 3 : Nat), .int .u64 (wd (r) 4 : Nat), .int .u64 (wd (r) 5 : Nat), .int .u64 (wd (r) 6 : Nat), .int .u64 (wd (r) 7 : Nat)] 24)) w2.heap.size r) := Lib.hid (Arr.made r rfl)
  have HX : Hid (Ext w (w2.alloc (.cells #[Value.int .u64 (wd (r) 0 : Nat), .int .u64 (wd (r) 1 : Nat), .int .u64 (wd (r) 2 : Nat), .int .u64 (wd (r) 3 : Nat), .int .u64 (wd (r) 4 : Nat), .int .u64 (wd (r) 5 : Nat), .int .u64 (wd (r) 6 : Nat), .int .u64 (wd (r) 7 : Nat)] 24))) := by show Ext _ _; (repeat (first | assumption | exact Ext.refl _ | apply Ext.alloc | apply Ext.drew | apply Ext.drewN | refine Ext.trans ?_ (by assumption)))
  have HS : Hid (w2.heap.size < (w2.alloc (.cells #[Value.int .u64 (wd (r) 0 : Nat), .int .u64 (wd (r) 1 : Nat), .int .u64 (wd (r) 2 : Nat), .int .u64 (wd (r) 3 : Nat), .int .u64 (wd (r) 4 : Nat), .int .u64 (wd (r) 5 : Nat), .int .u64 (wd (r) 6 : Nat), .int .u64 (wd (r) 7 : Nat)] 24)).heap.size) := by show _ < _; simp
  clear h1 h2 l0 l1
  generalize w2.alloc (.cells #[Value.int .u64 (wd (r) 0 : Nat), .int .u64 (wd (r) 1 : Nat), .int .u64 (wd (r) 2 : Nat), .int .u64 (wd (r) 3 : Nat), .int .u64 (wd (r) 4 : Nat), .int .u64 (wd (r) 5 : Nat), .int .u64 (wd (r) 6 : Nat), .int .u64 (wd (r) 7 : Nat)] 24) = W at *
  have hbs := HS.out
  have hb0 : w.heap.size < W.heap.size := by omega
  have hb1 : w.heap.size + 1 < W.heap.size := by omega
  have hb2 : w1.heap.size < W.heap.size := by omega
  have H__ := HB.out
  have cb0 := (H__ 0 (by omega)).1
  have cb1 := (H__ 1 (by omega)).1
  have cb2 := (H__ 2 (by omega)).1
  have cb3 := (H__ 3 (by omega)).1
  have cb4 := (H__ 4 (by omega)).1
  have cb5 := (H__ 5 (by omega)).1
  have cb6 := (H__ 6 (by omega)).1
  have cb7 := (H__ 7 (by omega)).1
  clear H__
  have H__ := HC.out
  have cc0 := (H__ 0 (by omega)).1
  have cc1 := (H__ 1 (by omega)).1
  have cc2 := (H__ 2 (by omega)).1
  have cc3 := (H__ 3 (by omega)).1
  have cc4 := (H__ 4 (by omega)).1
  have cc5 := (H__ 5 (by omega)).1
  have cc6 := (H__ 6 (by omega)).1
  have cc7 := (H__ 7 (by omega)).1
  clear H__
  have H__ := H7.out
  have cx0 := (H__ 0 (by omega)).1
  have cx1 := (H__ 1 (by omega)).1
  have cx2 := (H__ 2 (by omega)).1
  have cx3 := (H__ 3 (by omega)).1
  have cx4 := (H__ 4 (by omega)).1
  have cx5 := (H__ 5 (by omega)).1
  have cx6 := (H__ 6 (by omega)).1
  have cx7 := (H__ 7 (by omega)).1
  clear H__
  have H__ := H9.out
  have cy0 := (H__ 0 (by omega)).1
  have cy1 := (H__ 1 (by omega)).1
  have cy2 := (H__ 2 (by omega)).1
  have cy3 := (H__ 3 (by omega)).1
  have cy4 := (H__ 4 (by omega)).1
  have cy5 := (H__ 5 (by omega)).1
  have cy6 := (H__ 6 (by omega)).1
  have cy7 := (H__ 7 (by omega)).1
  clear H__
  clear g1 g2
  go_region_held3 (fun w' => (∀ b o, b < W.heap.size → w'.cell? ⟨b, o, none⟩ = W.cell? ⟨b, o, none⟩) ∧ Ext W w') (refine ⟨Ext.cells ?_, ?_⟩ <;> ((repeat (first | assumption | exact Ext.refl _ | apply Ext.alloc | apply Ext.drew | apply Ext.drewN | refine Ext.trans ?_ (by assumption))))) (first
    | ((go_at_call 15; (with_reducible refine (union_calls p q _).mono ?_); rintro e w3 ⟨rfl, h3⟩); (try replace h3 := Ext.undrew h3))
    | ((go_at_call 17; (with_reducible refine (inter_calls p q _).mono ?_); rintro e w3 ⟨rfl, h3⟩); (try replace h3 := Ext.undrew h3))
    | ((go_at_call 18; (with_reducible refine (minus_calls p q _).mono ?_); rintro e w3 ⟨rfl, h3⟩); (try replace h3 := Ext.undrew h3))
    | ((go_at_call 16; (with_reducible refine (rUnion_calls p q _).mono ?_); rintro e w3 ⟨rfl, h3⟩); (try replace h3 := Ext.undrew h3))
    | ((go_at_call 16; (with_reducible refine (rInter_calls p q _).mono ?_); rintro e w3 ⟨rfl, h3⟩); (try replace h3 := Ext.undrew h3))
    | ((go_at_call 16; (with_reducible refine (rMinus_calls p q _).mono ?_); rintro e w3 ⟨rfl, h3⟩); (try replace h3 := Ext.undrew h3))
    | (go_at_call 10; (with_reducible refine (num_calls _ _).mono ?_); rintro e w' ⟨rfl, hw⟩; obtain rfl := hw.symm))
  go_wp2_with fail
  go_region_held3 (fun w' => (∀ b o, b < W.heap.size → w'.cell? ⟨b, o, none⟩ = W.cell? ⟨b, o, none⟩) ∧ Ext W w') (refine ⟨Ext.cells ?_, ?_⟩ <;> ((repeat (first | assumption | exact Ext.refl _ | apply Ext.alloc | apply Ext.drew | apply Ext.drewN | refine Ext.trans ?_ (by assumption))))) (first
    | ((go_at_call 19; (with_reducible refine (Size_calls p _).mono ?_); rintro e w3 ⟨rfl, h3⟩); (try replace h3 := Ext.undrew h3))
    | ((go_at_call 20; (with_reducible refine (rList_calls p _).mono ?_); rintro e w3 ⟨v3, rfl, ho3, h3⟩); (try replace h3 := Ext.undrew h3); obtain ⟨A3, c3, rfl, -, -⟩ := ho3.shape; rw [nums_len])
    | ((go_at_call 21; (with_reducible refine (Subset_calls p q _).mono ?_); rintro e w3 ⟨rfl, h3⟩); (try replace h3 := Ext.undrew h3))
    | ((go_at_call 22; (with_reducible refine (rSubset_calls p q _).mono ?_); rintro e w3 ⟨rfl, h3⟩); (try replace h3 := Ext.undrew h3))
    | ((go_at_call 23; (with_reducible refine (Compare_calls p q _).mono ?_); rintro e w3 ⟨rfl, h3⟩); (try replace h3 := Ext.undrew h3))
    | ((go_at_call 24; (with_reducible refine (rCompare_calls p q _).mono ?_); rintro e w3 ⟨rfl, h3⟩); (try replace h3 := Ext.undrew h3))
    | ((go_at_call 11; (with_reducible refine (live_calls _).mono ?_); rintro e w3 ⟨rfl, h3⟩); (try replace h3 := Ext.undrew h3)))
  go_wp2_with fail
  go_ret
  exact ⟨rfl, by have hX := HX.out; (repeat (first | assumption | exact Ext.refl _ | apply Ext.alloc | apply Ext.drew | apply Ext.drewN | refine Ext.trans ?_ (by assumption)))⟩
end Go.Proofs.Ytbmnjnmpjpdcmaa
