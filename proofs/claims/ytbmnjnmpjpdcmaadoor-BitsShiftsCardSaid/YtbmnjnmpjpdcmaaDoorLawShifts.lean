/- The walk of the law BitsShifts. Conditions: the library's table as its initialiser lays it. -/
import Derived.Test.YtbmnjnmpjpdcmaaDoorEachC
import Derived.Test.YtbmnjnmpjpdcmaaDoorRefShift
import Derived.Test.YtbmnjnmpjpdcmaaDoorBitsJ
import Derived.Test.YtbmnjnmpjpdcmaaDoorSetEq
import Derived.Test.YtbmnjnmpjpdcmaaDoorRowLib
namespace Go.Proofs.YtbmnjnmpjpdcmaaDoor
open Go.RowKit Go.Eg

set_option maxHeartbeats 2000000 in
set_option maxRecDepth 100000 in
theorem lawShifts_calls (p : Nat → Bool) (x : Int) (w : World) (hT : Tab w) (_ : IntIn .i64 x) :
    Calls Tryd.prog 3 #[Value.agg #[.int .u64 (wd (p) 0 : Nat), .int .u64 (wd (p) 1 : Nat), .int .u64 (wd (p) 2 : Nat), .int .u64 (wd (p) 3 : Nat), .int .u64 (wd (p) 4 : Nat), .int .u64 (wd (p) 5 : Nat), .int .u64 (wd (p) 6 : Nat), .int .u64 (wd (p) 7 : Nat)], .int .i64 x] w fun e w' => e = .returned (.bool true) ∧ Ext w w' := by
  have heq := eq_set
  have HB : Hid (Arr (w.alloc (.cells #[Value.int .u64 (wd (p) 0 : Nat), .int .u64 (wd (p) 1 : Nat), .int .u64 (wd (p) 2 : Nat), .int .u64 (wd (p) 3 : Nat), .int .u64 (wd (p) 4 : Nat), .int .u64 (wd (p) 5 : Nat), .int .u64 (wd (p) 6 : Nat), .int .u64 (wd (p) 7 : Nat)] 24)) w.heap.size p) := Lib.hid (Arr.made p rfl)
  have HX : Hid (Ext w (w.alloc (.cells #[Value.int .u64 (wd (p) 0 : Nat), .int .u64 (wd (p) 1 : Nat), .int .u64 (wd (p) 2 : Nat), .int .u64 (wd (p) 3 : Nat), .int .u64 (wd (p) 4 : Nat), .int .u64 (wd (p) 5 : Nat), .int .u64 (wd (p) 6 : Nat), .int .u64 (wd (p) 7 : Nat)] 24))) := by show Ext _ _; (repeat (first | assumption | exact Ext.refl _ | apply Ext.alloc | apply Ext.drew | apply Ext.drewN | refine Ext.set ?_ (by first | exact Nat.le_refl _ | exact Nat.le_succ _ | exact Nat.le_add_right _ _ | exact Nat.le_trans (Nat.le_succ _) (Nat.le_succ _) | omega) _ | refine Ext.trans ?_ (by assumption)))
  have HS : Hid (w.heap.size < (w.alloc (.cells #[Value.int .u64 (wd (p) 0 : Nat), .int .u64 (wd (p) 1 : Nat), .int .u64 (wd (p) 2 : Nat), .int .u64 (wd (p) 3 : Nat), .int .u64 (wd (p) 4 : Nat), .int .u64 (wd (p) 5 : Nat), .int .u64 (wd (p) 6 : Nat), .int .u64 (wd (p) 7 : Nat)] 24)).heap.size) := by show _ < _; simp
  have HT := Lib.hid (hT.ext HX.out)
  clear hT
  go_enter Tryd.func3, Tryd.ntmps3
  go_wp2_with fail
  generalize w.alloc (.cells #[Value.int .u64 (wd (p) 0 : Nat), .int .u64 (wd (p) 1 : Nat), .int .u64 (wd (p) 2 : Nat), .int .u64 (wd (p) 3 : Nat), .int .u64 (wd (p) 4 : Nat), .int .u64 (wd (p) 5 : Nat), .int .u64 (wd (p) 6 : Nat), .int .u64 (wd (p) 7 : Nat)] 24) = W at *
  have hbs := HS.out
  have H__ := (HB).out; obtain ⟨ce0, fe0⟩ := H__ 0 (by omega); obtain ⟨ce1, fe1⟩ := H__ 1 (by omega); obtain ⟨ce2, fe2⟩ := H__ 2 (by omega); obtain ⟨ce3, fe3⟩ := H__ 3 (by omega); obtain ⟨ce4, fe4⟩ := H__ 4 (by omega); obtain ⟨ce5, fe5⟩ := H__ 5 (by omega); obtain ⟨ce6, fe6⟩ := H__ 6 (by omega); obtain ⟨ce7, fe7⟩ := H__ 7 (by omega); clear H__
  go_region_held3 (fun w' => (∀ b o, b < W.heap.size → w'.cell? ⟨b, o, none⟩ = W.cell? ⟨b, o, none⟩) ∧ Ext W w') (refine ⟨Ext.cells ?_, ?_⟩ <;> ((repeat (first | assumption | exact Ext.refl _ | apply Ext.alloc | apply Ext.drew | apply Ext.drewN | refine Ext.trans ?_ (by assumption))))) (first
    | ((go_at_call 9; (with_reducible refine (Shift_calls p x _ (HT.out.ext (by (repeat (first | assumption | exact Ext.refl _ | apply Ext.alloc | apply Ext.drew | apply Ext.drewN | refine Ext.trans ?_ (by assumption)))))).mono ?_); rintro e w3 ⟨rfl, h3⟩); (try replace h3 := Ext.undrew h3))
    | ((go_at_call 10; (with_reducible refine (rShift_calls p x _).mono ?_); rintro e w3 ⟨rfl, h3⟩); (try replace h3 := Ext.undrew h3))
    | ((go_at_call 11; (with_reducible refine (live_calls _).mono ?_); rintro e w3 ⟨rfl, h3⟩); (try replace h3 := Ext.undrew h3)))
  go_wp2_with fail
  go_ret
  exact ⟨rfl, by have hX := HX.out; (repeat (first | assumption | exact Ext.refl _ | apply Ext.alloc | apply Ext.drew | apply Ext.drewN | refine Ext.trans ?_ (by assumption)))⟩
end Go.Proofs.YtbmnjnmpjpdcmaaDoor
