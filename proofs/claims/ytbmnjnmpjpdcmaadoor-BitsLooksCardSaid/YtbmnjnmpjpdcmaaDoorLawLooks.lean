/- The walk of the law BitsLooks. Conditions: the library's table as its initialiser lays it. -/
import Derived.Test.YtbmnjnmpjpdcmaaDoorEachE
import Derived.Test.YtbmnjnmpjpdcmaaDoorEachF
import Derived.Test.YtbmnjnmpjpdcmaaDoorRefLook
import Derived.Test.YtbmnjnmpjpdcmaaDoorBitsJ
import Derived.Test.YtbmnjnmpjpdcmaaDoorRowSet
namespace Go.Proofs.YtbmnjnmpjpdcmaaDoor
open Go.RowKit Go.Eg

set_option maxHeartbeats 2000000 in
set_option maxRecDepth 100000 in
theorem lawLooks_calls (p : Nat → Bool) (x : Int) (w : World) (hT : Tab w) (_ : IntIn .i64 x) :
    Calls Tryd.prog 6 #[Value.agg #[.int .u64 (wd (p) 0 : Nat), .int .u64 (wd (p) 1 : Nat), .int .u64 (wd (p) 2 : Nat), .int .u64 (wd (p) 3 : Nat), .int .u64 (wd (p) 4 : Nat), .int .u64 (wd (p) 5 : Nat), .int .u64 (wd (p) 6 : Nat), .int .u64 (wd (p) 7 : Nat)], .int .i64 x] w fun e w' => e = .returned (.bool true) ∧ Ext w w' := by
  have HX0 : Hid (Ext w (w.alloc (.cells #[Value.int .u64 (wd (p) 0 : Nat), .int .u64 (wd (p) 1 : Nat), .int .u64 (wd (p) 2 : Nat), .int .u64 (wd (p) 3 : Nat), .int .u64 (wd (p) 4 : Nat), .int .u64 (wd (p) 5 : Nat), .int .u64 (wd (p) 6 : Nat), .int .u64 (wd (p) 7 : Nat)] 24))) := by show Ext _ _; (repeat (first | assumption | exact Ext.refl _ | apply Ext.alloc | apply Ext.drew | apply Ext.drewN | refine Ext.set ?_ (by first | exact Nat.le_refl _ | assumption | exact Nat.le_succ _ | exact Nat.le_add_right _ _ | exact Nat.le_trans (Nat.le_succ _) (Nat.le_succ _) | omega) _ | refine Ext.trans ?_ (by assumption)))
  have HB0 : Hid (Arr (w.alloc (.cells #[Value.int .u64 (wd (p) 0 : Nat), .int .u64 (wd (p) 1 : Nat), .int .u64 (wd (p) 2 : Nat), .int .u64 (wd (p) 3 : Nat), .int .u64 (wd (p) 4 : Nat), .int .u64 (wd (p) 5 : Nat), .int .u64 (wd (p) 6 : Nat), .int .u64 (wd (p) 7 : Nat)] 24)) w.heap.size p) := Lib.hid (Arr.made p rfl)
  have HS0 : Hid (w.heap.size < (w.alloc (.cells #[Value.int .u64 (wd (p) 0 : Nat), .int .u64 (wd (p) 1 : Nat), .int .u64 (wd (p) 2 : Nat), .int .u64 (wd (p) 3 : Nat), .int .u64 (wd (p) 4 : Nat), .int .u64 (wd (p) 5 : Nat), .int .u64 (wd (p) 6 : Nat), .int .u64 (wd (p) 7 : Nat)] 24)).heap.size) := by show _ < _; simp
  have HT := Lib.hid (hT.ext HX0.out)
  clear hT
  go_enter Tryd.func6, Tryd.ntmps6
  go_wp2_with (first
    | ((go_at_call 29; (with_reducible refine (Next_calls p x _ HT.out).mono ?_); rintro e w1 ⟨rfl, h1⟩); have := (h1).cells; have := (h1).frozens; have : w.heap.size < w1.heap.size := Nat.lt_of_lt_of_le (by first | assumption | (simp; done) | (simp; omega)) (h1).le)
    | ((go_at_call 30; (with_reducible refine (rNext_calls p x _).mono ?_); rintro e w2 ⟨rfl, h2⟩); have := (h2).cells; have := (h2).frozens; have : w.heap.size < w2.heap.size := Nat.lt_of_lt_of_le (by first | assumption | (simp; done) | (simp; omega)) (h2).le))
  have HB := Lib.hid (HB0.out.ext (h1.trans h2) HS0.out)
  have HX := Lib.hid (HX0.out.trans (h1.trans h2))
  have hbs := Nat.lt_of_lt_of_le HS0.out (h1.trans h2).le
  clear HB0 HX0 HS0 HT h1 h2
  have H__ := (HB).out; obtain ⟨ce0, fe0⟩ := H__ 0 (by omega); obtain ⟨ce1, fe1⟩ := H__ 1 (by omega); obtain ⟨ce2, fe2⟩ := H__ 2 (by omega); obtain ⟨ce3, fe3⟩ := H__ 3 (by omega); obtain ⟨ce4, fe4⟩ := H__ 4 (by omega); obtain ⟨ce5, fe5⟩ := H__ 5 (by omega); obtain ⟨ce6, fe6⟩ := H__ 6 (by omega); obtain ⟨ce7, fe7⟩ := H__ 7 (by omega); clear H__
  go_region_held3 (fun w' => (∀ b o, b < w2.heap.size → w'.cell? ⟨b, o, none⟩ = w2.cell? ⟨b, o, none⟩) ∧ Ext w2 w') (refine ⟨Ext.cells ?_, ?_⟩ <;> ((repeat (first | assumption | exact Ext.refl _ | apply Ext.alloc | apply Ext.drew | apply Ext.drewN | refine Ext.trans ?_ (by assumption))))) (first
    | ((go_at_call 31; (with_reducible refine (Rank_calls p x _).mono ?_); rintro e w3 ⟨rfl, h3⟩); (try replace h3 := Ext.undrew h3))
    | ((go_at_call 32; (with_reducible refine (rRank_calls p x _).mono ?_); rintro e w3 ⟨rfl, h3⟩); (try replace h3 := Ext.undrew h3))
    | ((go_at_call 11; (with_reducible refine (live_calls _).mono ?_); rintro e w3 ⟨rfl, h3⟩); (try replace h3 := Ext.undrew h3)))
  go_wp2_with fail
  go_ret
  exact ⟨rfl, by have hX := HX.out; (repeat (first | assumption | exact Ext.refl _ | apply Ext.alloc | apply Ext.drew | apply Ext.drewN | refine Ext.trans ?_ (by assumption)))⟩
end Go.Proofs.YtbmnjnmpjpdcmaaDoor
