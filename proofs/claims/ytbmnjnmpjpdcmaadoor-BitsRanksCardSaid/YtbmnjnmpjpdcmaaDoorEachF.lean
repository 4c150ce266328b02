/- Walks: Rank of package bits. Conditions: none. -/
import Derived.Test.YtbmnjnmpjpdcmaaDoorLookM
import Derived.Test.YtbmnjnmpjpdcmaaDoorBitsK
import Derived.Deep.RegionHeld3
namespace Go.Proofs.YtbmnjnmpjpdcmaaDoor
open Go.RowKit Go.Eg

set_option maxHeartbeats 2000000 in
set_option maxRecDepth 100000 in
theorem Rank_calls (p : Nat → Bool) (x : Int) (w : World) : Calls Tryd.prog 31 #[Value.agg #[.int .u64 (wd (p) 0 : Nat), .int .u64 (wd (p) 1 : Nat), .int .u64 (wd (p) 2 : Nat), .int .u64 (wd (p) 3 : Nat), .int .u64 (wd (p) 4 : Nat), .int .u64 (wd (p) 5 : Nat), .int .u64 (wd (p) 6 : Nat), .int .u64 (wd (p) 7 : Nat)], .int .i64 x] w fun e w' => e = .returned (.int .i64 (cnt p (clampN x) : Nat)) ∧ Ext w w' := by
  obtain ⟨N, hN⟩ : ∃ N, N = clampN x := ⟨_, rfl⟩
  obtain ⟨m1, hif1⟩ : ∃ m1, (if 512 < x then 512 else x) = m1 := ⟨_, rfl⟩
  obtain ⟨m0, hif2⟩ : ∃ m0, (if 0 < m1 then m1 else 0) = m0 := ⟨_, rfl⟩
  have hm : m0 = (N : Int) := by
    rw [← hif2, ← hif1, hN]; unfold clampN
    by_cases a : 512 < x
    · rw [if_pos a, if_pos (by omega), if_neg (by omega), if_pos (by omega)]; rfl
    · rw [if_neg a]
      by_cases b : 0 < x
      · rw [if_pos b, if_neg (by omega)]
        by_cases c : 512 ≤ x
        · rw [if_pos c]; omega
        · rw [if_neg c]; omega
      · rw [if_neg b, if_pos (by omega)]; rfl
  have HU : Hid (∀ W, Calls Tryd.prog 44 #[.int .i64 m0] W fun e w' => e = .returned (Value.agg #[.int .u64 (wd (loS N) 0 : Nat), .int .u64 (wd (loS N) 1 : Nat), .int .u64 (wd (loS N) 2 : Nat), .int .u64 (wd (loS N) 3 : Nat), .int .u64 (wd (loS N) 4 : Nat), .int .u64 (wd (loS N) 5 : Nat), .int .u64 (wd (loS N) 6 : Nat), .int .u64 (wd (loS N) 7 : Nat)]) ∧ Ext W w') := by
    show ∀ W, _
    intro W
    rw [hm]
    exact under_calls N (by rw [hN]; exact clamp_le x) W
  have HC : Hid (cnt (andS p (loS N)) 512 = cnt p (clampN x)) := by show _ = _; rw [cnt_below p (by rw [hN]; exact clamp_le x), hN]
  have HB : Hid (Arr (w.alloc (.cells #[Value.int .u64 (wd (p) 0 : Nat), .int .u64 (wd (p) 1 : Nat), .int .u64 (wd (p) 2 : Nat), .int .u64 (wd (p) 3 : Nat), .int .u64 (wd (p) 4 : Nat), .int .u64 (wd (p) 5 : Nat), .int .u64 (wd (p) 6 : Nat), .int .u64 (wd (p) 7 : Nat)] 24)) w.heap.size p) := Lib.hid (Arr.made p rfl)
  have HX : Hid (Ext w (w.alloc (.cells #[Value.int .u64 (wd (p) 0 : Nat), .int .u64 (wd (p) 1 : Nat), .int .u64 (wd (p) 2 : Nat), .int .u64 (wd (p) 3 : Nat), .int .u64 (wd (p) 4 : Nat), .int .u64 (wd (p) 5 : Nat), .int .u64 (wd (p) 6 : Nat), .int .u64 (wd (p) 7 : Nat)] 24))) := by show Ext _ _; (repeat (first | assumption | exact Ext.refl _ | apply Ext.alloc | apply Ext.drew | apply Ext.drewN | refine Ext.set ?_ (by first | exact Nat.le_refl _ | assumption | exact Nat.le_succ _ | exact Nat.le_add_right _ _ | exact Nat.le_trans (Nat.le_succ _) (Nat.le_succ _) | omega) _ | refine Ext.trans ?_ (by assumption)))
  have HS : Hid (w.heap.size < (w.alloc (.cells #[Value.int .u64 (wd (p) 0 : Nat), .int .u64 (wd (p) 1 : Nat), .int .u64 (wd (p) 2 : Nat), .int .u64 (wd (p) 3 : Nat), .int .u64 (wd (p) 4 : Nat), .int .u64 (wd (p) 5 : Nat), .int .u64 (wd (p) 6 : Nat), .int .u64 (wd (p) 7 : Nat)] 24)).heap.size) := by show _ < _; simp
  clear hm hN
  go_enter Tryd.func31, Tryd.ntmps31
  go_wp2_with fail
  generalize w.alloc (.cells #[Value.int .u64 (wd (p) 0 : Nat), .int .u64 (wd (p) 1 : Nat), .int .u64 (wd (p) 2 : Nat), .int .u64 (wd (p) 3 : Nat), .int .u64 (wd (p) 4 : Nat), .int .u64 (wd (p) 5 : Nat), .int .u64 (wd (p) 6 : Nat), .int .u64 (wd (p) 7 : Nat)] 24) = W at *
  have hbs := HS.out
  have H__ := (HB).out; obtain ⟨ce0, fe0⟩ := H__ 0 (by omega); obtain ⟨ce1, fe1⟩ := H__ 1 (by omega); obtain ⟨ce2, fe2⟩ := H__ 2 (by omega); obtain ⟨ce3, fe3⟩ := H__ 3 (by omega); obtain ⟨ce4, fe4⟩ := H__ 4 (by omega); obtain ⟨ce5, fe5⟩ := H__ 5 (by omega); obtain ⟨ce6, fe6⟩ := H__ 6 (by omega); obtain ⟨ce7, fe7⟩ := H__ 7 (by omega); clear H__
  go_region_held3 (fun w' => (∀ b o, b < W.heap.size → w'.cell? ⟨b, o, none⟩ = W.cell? ⟨b, o, none⟩) ∧ Ext W w') (refine ⟨Ext.cells ?_, ?_⟩ <;> ((repeat (first | assumption | exact Ext.refl _ | apply Ext.alloc | apply Ext.drew | apply Ext.drewN | refine Ext.trans ?_ (by assumption))))) (first
    | ((go_at_call 44; (with_reducible refine (HU.out _).mono ?_); rintro e w3 ⟨rfl, h3⟩); (try replace h3 := Ext.undrew h3))
    | ((go_at_call 34; (with_reducible refine (inter_calls p (loS N) _).mono ?_); rintro e w3 ⟨rfl, h3⟩); (try replace h3 := Ext.undrew h3))
    | ((go_at_call 12; (with_reducible refine (Size_calls (andS p (loS N)) _).mono ?_); rintro e w3 ⟨rfl, h3⟩); rw [HC.out]; (try replace h3 := Ext.undrew h3)))
  go_wp2_with fail
  go_ret
  exact ⟨rfl, by have hX := HX.out; (repeat (first | assumption | exact Ext.refl _ | apply Ext.alloc | apply Ext.drew | apply Ext.drewN | refine Ext.trans ?_ (by assumption)))⟩
end Go.Proofs.YtbmnjnmpjpdcmaaDoor
