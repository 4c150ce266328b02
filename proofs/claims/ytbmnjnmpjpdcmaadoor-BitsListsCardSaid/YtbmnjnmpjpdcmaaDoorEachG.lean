/- Walks: With and Without of package bits. Conditions: none. -/
import Derived.Test.YtbmnjnmpjpdcmaaDoorWithM
import Derived.Deep.RegionWith
namespace Go.Proofs.YtbmnjnmpjpdcmaaDoor
open Go.RowKit Go.Eg

set_option maxHeartbeats 2000000 in
set_option maxRecDepth 100000 in
theorem With_calls (p : Nat → Bool) (x : Int) (w : World) : Calls Tryd.prog 17 #[Value.agg #[.int .u64 (wd (p) 0 : Nat), .int .u64 (wd (p) 1 : Nat), .int .u64 (wd (p) 2 : Nat), .int .u64 (wd (p) 3 : Nat), .int .u64 (wd (p) 4 : Nat), .int .u64 (wd (p) 5 : Nat), .int .u64 (wd (p) 6 : Nat), .int .u64 (wd (p) 7 : Nat)], .int .i64 x] w fun e w' => e = .returned (.tuple #[Value.agg #[.int .u64 (wd (withS p x) 0 : Nat), .int .u64 (wd (withS p x) 1 : Nat), .int .u64 (wd (withS p x) 2 : Nat), .int .u64 (wd (withS p x) 3 : Nat), .int .u64 (wd (withS p x) 4 : Nat), .int .u64 (wd (withS p x) 5 : Nat), .int .u64 (wd (withS p x) 6 : Nat), .int .u64 (wd (withS p x) 7 : Nat)], .int .i64 (errI x)]) ∧ Ext w w' := by
  have HB : Hid (Arr ((w.alloc (.cells #[Value.int .u64 (wd (p) 0 : Nat), .int .u64 (wd (p) 1 : Nat), .int .u64 (wd (p) 2 : Nat), .int .u64 (wd (p) 3 : Nat), .int .u64 (wd (p) 4 : Nat), .int .u64 (wd (p) 5 : Nat), .int .u64 (wd (p) 6 : Nat), .int .u64 (wd (p) 7 : Nat)] 24)).alloc (.cells #[Value.int .u64 0, .int .u64 0, .int .u64 0, .int .u64 0, .int .u64 0, .int .u64 0, .int .u64 0, .int .u64 0] 24)) w.heap.size p) := Lib.hid ((Arr.made p rfl).old (by simp))
  have HZ : Hid (Arr ((w.alloc (.cells #[Value.int .u64 (wd (p) 0 : Nat), .int .u64 (wd (p) 1 : Nat), .int .u64 (wd (p) 2 : Nat), .int .u64 (wd (p) 3 : Nat), .int .u64 (wd (p) 4 : Nat), .int .u64 (wd (p) 5 : Nat), .int .u64 (wd (p) 6 : Nat), .int .u64 (wd (p) 7 : Nat)] 24)).alloc (.cells #[Value.int .u64 0, .int .u64 0, .int .u64 0, .int .u64 0, .int .u64 0, .int .u64 0, .int .u64 0, .int .u64 0] 24)) (w.heap.size + 1) (fun _ => false)) := Lib.hid (Arr.zero (by simp))
  have HX : Hid (Ext w ((w.alloc (.cells #[Value.int .u64 (wd (p) 0 : Nat), .int .u64 (wd (p) 1 : Nat), .int .u64 (wd (p) 2 : Nat), .int .u64 (wd (p) 3 : Nat), .int .u64 (wd (p) 4 : Nat), .int .u64 (wd (p) 5 : Nat), .int .u64 (wd (p) 6 : Nat), .int .u64 (wd (p) 7 : Nat)] 24)).alloc (.cells #[Value.int .u64 0, .int .u64 0, .int .u64 0, .int .u64 0, .int .u64 0, .int .u64 0, .int .u64 0, .int .u64 0] 24))) := by show Ext _ _; (repeat (first | assumption | exact Ext.refl _ | apply Ext.alloc | apply Ext.drew | apply Ext.drewN | refine Ext.set ?_ (by first | exact Nat.le_refl _ | assumption | exact Nat.le_succ _ | exact Nat.le_add_right _ _ | exact Nat.le_trans (Nat.le_succ _) (Nat.le_succ _) | omega) _ | refine Ext.trans ?_ (by assumption)))
  by_cases hin : inR x = true
  · have HIN := Lib.hid hin
    have HE : Hid (errI x = 0) := if_pos hin
    have HF : Hid (withS p x = addSet p x) := if_pos hin
    simp only [inR, Bool.and_eq_true, decide_eq_true_eq] at hin
    obtain ⟨h0, h1⟩ := hin
    have hq0 : 0 ≤ x / 64 := by omega
    have hq1 : x / 64 < 8 := by omega
    have hq2 : 0 ≤ x % 64 := by omega
    have hq3 : x % 64 < 64 := by omega
    have hd1 : x.tdiv 64 = x / 64 := Int.tdiv_eq_ediv_of_nonneg h0
    have hd2 : x.tmod 64 = x % 64 := Int.tmod_eq_emod_of_nonneg h0
    have hd3 : IntKind.i64.wrap (x / 64) = x / 64 := IntWalk.i64_in _ (by omega)
    have hd4 : IntKind.i64.wrap (x % 64) = x % 64 := IntWalk.i64_in _ (by omega)
    have hd6 := shl_one (x % 64) hq2 hq3
    have hd8 : IntKind.u64.wrap (2 ^ (x % 64).toNat) = 2 ^ (x % 64).toNat := by rw [Nat.min_eq_left (by omega)] at hd6; exact hd6
    have hd7 := add_word p x h0
    go_enter Tryd.func17, Tryd.ntmps17
    go_wp2_with ((go_at_call 40; (with_reducible refine (fits_calls _ _).mono ?_); rintro e w' ⟨rfl, hw⟩; obtain rfl := hw.symm); rw [HIN.out])
    generalize (w.alloc (.cells #[Value.int .u64 (wd (p) 0 : Nat), .int .u64 (wd (p) 1 : Nat), .int .u64 (wd (p) 2 : Nat), .int .u64 (wd (p) 3 : Nat), .int .u64 (wd (p) 4 : Nat), .int .u64 (wd (p) 5 : Nat), .int .u64 (wd (p) 6 : Nat), .int .u64 (wd (p) 7 : Nat)] 24)).alloc (.cells #[Value.int .u64 0, .int .u64 0, .int .u64 0, .int .u64 0, .int .u64 0, .int .u64 0, .int .u64 0, .int .u64 0] 24) = W at *
    obtain ⟨hw, hf⟩ := HB.out (x / 64).toNat (by omega)
    have HA' : Hid (Arr (W.setCell ⟨w.heap.size, (x / 64).toNat, none⟩ (.int .u64 (wd (addSet p x) (x / 64).toNat : Nat))) w.heap.size (addSet p x)) := HB.out.put (by omega) rfl (fun k _ hk => add_other _ _ h0 k hk)
    have HZ' : Hid (Arr (W.setCell ⟨w.heap.size, (x / 64).toNat, none⟩ (.int .u64 (wd (addSet p x) (x / 64).toNat : Nat))) (w.heap.size + 1) (fun _ => false)) := HZ.out.other (by omega)
    have HE' : Hid (Ext w (W.setCell ⟨w.heap.size, (x / 64).toNat, none⟩ (.int .u64 (wd (addSet p x) (x / 64).toNat : Nat)))) := HX.out.set (Nat.le_refl _) _
    go_region_with (fail)
    all_goals
      replace HA' := Lib.hid HA'.out.drew
      replace HZ' := Lib.hid HZ'.out.drew
      replace HE' := Lib.hid HE'.out.drew
      generalize (W.setCell ⟨w.heap.size, (x / 64).toNat, none⟩ (.int .u64 (wd (addSet p x) (x / 64).toNat : Nat))).drew = W2 at HA' HZ' HE' ⊢
      clear hw hf hd1 hd2 hd3 hd4 hd6 hd7 hd8 hq0 hq1 hq2 hq3 h0 h1
      have H__ := (HA').out; obtain ⟨ce0, fe0⟩ := H__ 0 (by omega); obtain ⟨ce1, fe1⟩ := H__ 1 (by omega); obtain ⟨ce2, fe2⟩ := H__ 2 (by omega); obtain ⟨ce3, fe3⟩ := H__ 3 (by omega); obtain ⟨ce4, fe4⟩ := H__ 4 (by omega); obtain ⟨ce5, fe5⟩ := H__ 5 (by omega); obtain ⟨ce6, fe6⟩ := H__ 6 (by omega); obtain ⟨ce7, fe7⟩ := H__ 7 (by omega); clear H__
      have H__ := (HZ').out; obtain ⟨de0, ge0⟩ := H__ 0 (by omega); obtain ⟨de1, ge1⟩ := H__ 1 (by omega); obtain ⟨de2, ge2⟩ := H__ 2 (by omega); obtain ⟨de3, ge3⟩ := H__ 3 (by omega); obtain ⟨de4, ge4⟩ := H__ 4 (by omega); obtain ⟨de5, ge5⟩ := H__ 5 (by omega); obtain ⟨de6, ge6⟩ := H__ 6 (by omega); obtain ⟨de7, ge7⟩ := H__ 7 (by omega); clear H__
      have HEX : Hid (Ext w ((((((((W2.setCell ⟨w.heap.size + 1, 0, none⟩ (.int .u64 (wd (addSet p x) 0 : Nat))).setCell ⟨w.heap.size + 1, 1, none⟩ (.int .u64 (wd (addSet p x) 1 : Nat))).setCell ⟨w.heap.size + 1, 2, none⟩ (.int .u64 (wd (addSet p x) 2 : Nat))).setCell ⟨w.heap.size + 1, 3, none⟩ (.int .u64 (wd (addSet p x) 3 : Nat))).setCell ⟨w.heap.size + 1, 4, none⟩ (.int .u64 (wd (addSet p x) 4 : Nat))).setCell ⟨w.heap.size + 1, 5, none⟩ (.int .u64 (wd (addSet p x) 5 : Nat))).setCell ⟨w.heap.size + 1, 6, none⟩ (.int .u64 (wd (addSet p x) 6 : Nat))).setCell ⟨w.heap.size + 1, 7, none⟩ (.int .u64 (wd (addSet p x) 7 : Nat)))) := ((((((((HE'.out.set (by first | exact Nat.le_refl _ | exact Nat.le_succ _ | exact Nat.le_add_right _ _ | exact Nat.le_trans (Nat.le_succ _) (Nat.le_succ _) | omega) _).set (by first | exact Nat.le_refl _ | exact Nat.le_succ _ | exact Nat.le_add_right _ _ | exact Nat.le_trans (Nat.le_succ _) (Nat.le_succ _) | omega) _).set (by first | exact Nat.le_refl _ | exact Nat.le_succ _ | exact Nat.le_add_right _ _ | exact Nat.le_trans (Nat.le_succ _) (Nat.le_succ _) | omega) _).set (by first | exact Nat.le_refl _ | exact Nat.le_succ _ | exact Nat.le_add_right _ _ | exact Nat.le_trans (Nat.le_succ _) (Nat.le_succ _) | omega) _).set (by first | exact Nat.le_refl _ | exact Nat.le_succ _ | exact Nat.le_add_right _ _ | exact Nat.le_trans (Nat.le_succ _) (Nat.le_succ _) | omega) _).set (by first | exact Nat.le_refl _ | exact Nat.le_succ _ | exact Nat.le_add_right _ _ | exact Nat.le_trans (Nat.le_succ _) (Nat.le_succ _) | omega) _).set (by first | exact Nat.le_refl _ | exact Nat.le_succ _ | exact Nat.le_add_right _ _ | exact Nat.le_trans (Nat.le_succ _) (Nat.le_succ _) | omega) _).set (by first | exact Nat.le_refl _ | exact Nat.le_succ _ | exact Nat.le_add_right _ _ | exact Nat.le_trans (Nat.le_succ _) (Nat.le_succ _) | omega) _)
      go_wp2_with fail
      exact bodyPost_ret (v := .tuple #[Value.agg #[.int .u64 (wd (addSet p x) 0 : Nat), .int .u64 (wd (addSet p x) 1 : Nat), .int .u64 (wd (addSet p x) 2 : Nat), .int .u64 (wd (addSet p x) 3 : Nat), .int .u64 (wd (addSet p x) 4 : Nat), .int .u64 (wd (addSet p x) 5 : Nat), .int .u64 (wd (addSet p x) 6 : Nat), .int .u64 (wd (addSet p x) 7 : Nat)], .int .i64 0]) (by simp [results, Tryd.results17, go_sem, *]) rfl ⟨by rw [HF.out, HE.out], HEX⟩
  · have HIN : Hid (inR x = false) := by show _ = _; simpa using hin
    have HE : Hid (errI x = 11) := if_neg hin
    have HF : Hid (withS p x = fun _ => false) := if_neg hin
    clear hin
    go_enter Tryd.func17, Tryd.ntmps17
    go_wp2_with ((go_at_call 40; (with_reducible refine (fits_calls _ _).mono ?_); rintro e w' ⟨rfl, hw⟩; obtain rfl := hw.symm); rw [HIN.out])
    exact bodyPost_ret (v := .tuple #[Value.agg #[.int .u64 0, .int .u64 0, .int .u64 0, .int .u64 0, .int .u64 0, .int .u64 0, .int .u64 0, .int .u64 0], .int .i64 11]) (by simp [results, Tryd.results17, go_sem, *]) rfl ⟨by rw [HF.out, HE.out]; simp [wd_none], by (repeat (first | assumption | exact Ext.refl _ | apply Ext.alloc | apply Ext.drew | apply Ext.drewN | refine Ext.set ?_ (by first | exact Nat.le_refl _ | assumption | exact Nat.le_succ _ | exact Nat.le_add_right _ _ | exact Nat.le_trans (Nat.le_succ _) (Nat.le_succ _) | omega) _ | refine Ext.trans ?_ (by assumption)))⟩

set_option maxHeartbeats 2000000 in
set_option maxRecDepth 100000 in
theorem Without_calls (p : Nat → Bool) (x : Int) (w : World) : Calls Tryd.prog 19 #[Value.agg #[.int .u64 (wd (p) 0 : Nat), .int .u64 (wd (p) 1 : Nat), .int .u64 (wd (p) 2 : Nat), .int .u64 (wd (p) 3 : Nat), .int .u64 (wd (p) 4 : Nat), .int .u64 (wd (p) 5 : Nat), .int .u64 (wd (p) 6 : Nat), .int .u64 (wd (p) 7 : Nat)], .int .i64 x] w fun e w' => e = .returned (.tuple #[Value.agg #[.int .u64 (wd (dropS p x) 0 : Nat), .int .u64 (wd (dropS p x) 1 : Nat), .int .u64 (wd (dropS p x) 2 : Nat), .int .u64 (wd (dropS p x) 3 : Nat), .int .u64 (wd (dropS p x) 4 : Nat), .int .u64 (wd (dropS p x) 5 : Nat), .int .u64 (wd (dropS p x) 6 : Nat), .int .u64 (wd (dropS p x) 7 : Nat)], .int .i64 (errI x)]) ∧ Ext w w' := by
  have HB : Hid (Arr ((w.alloc (.cells #[Value.int .u64 (wd (p) 0 : Nat), .int .u64 (wd (p) 1 : Nat), .int .u64 (wd (p) 2 : Nat), .int .u64 (wd (p) 3 : Nat), .int .u64 (wd (p) 4 : Nat), .int .u64 (wd (p) 5 : Nat), .int .u64 (wd (p) 6 : Nat), .int .u64 (wd (p) 7 : Nat)] 24)).alloc (.cells #[Value.int .u64 0, .int .u64 0, .int .u64 0, .int .u64 0, .int .u64 0, .int .u64 0, .int .u64 0, .int .u64 0] 24)) w.heap.size p) := Lib.hid ((Arr.made p rfl).old (by simp))
  have HZ : Hid (Arr ((w.alloc (.cells #[Value.int .u64 (wd (p) 0 : Nat), .int .u64 (wd (p) 1 : Nat), .int .u64 (wd (p) 2 : Nat), .int .u64 (wd (p) 3 : Nat), .int .u64 (wd (p) 4 : Nat), .int .u64 (wd (p) 5 : Nat), .int .u64 (wd (p) 6 : Nat), .int .u64 (wd (p) 7 : Nat)] 24)).alloc (.cells #[Value.int .u64 0, .int .u64 0, .int .u64 0, .int .u64 0, .int .u64 0, .int .u64 0, .int .u64 0, .int .u64 0] 24)) (w.heap.size + 1) (fun _ => false)) := Lib.hid (Arr.zero (by simp))
  have HX : Hid (Ext w ((w.alloc (.cells #[Value.int .u64 (wd (p) 0 : Nat), .int .u64 (wd (p) 1 : Nat), .int .u64 (wd (p) 2 : Nat), .int .u64 (wd (p) 3 : Nat), .int .u64 (wd (p) 4 : Nat), .int .u64 (wd (p) 5 : Nat), .int .u64 (wd (p) 6 : Nat), .int .u64 (wd (p) 7 : Nat)] 24)).alloc (.cells #[Value.int .u64 0, .int .u64 0, .int .u64 0, .int .u64 0, .int .u64 0, .int .u64 0, .int .u64 0, .int .u64 0] 24))) := by show Ext _ _; (repeat (first | assumption | exact Ext.refl _ | apply Ext.alloc | apply Ext.drew | apply Ext.drewN | refine Ext.set ?_ (by first | exact Nat.le_refl _ | assumption | exact Nat.le_succ _ | exact Nat.le_add_right _ _ | exact Nat.le_trans (Nat.le_succ _) (Nat.le_succ _) | omega) _ | refine Ext.trans ?_ (by assumption)))
  by_cases hin : inR x = true
  · have HIN := Lib.hid hin
    have HE : Hid (errI x = 0) := if_pos hin
    have HF : Hid (dropS p x = delSet p x) := if_pos hin
    simp only [inR, Bool.and_eq_true, decide_eq_true_eq] at hin
    obtain ⟨h0, h1⟩ := hin
    have hq0 : 0 ≤ x / 64 := by omega
    have hq1 : x / 64 < 8 := by omega
    have hq2 : 0 ≤ x % 64 := by omega
    have hq3 : x % 64 < 64 := by omega
    have hd1 : x.tdiv 64 = x / 64 := Int.tdiv_eq_ediv_of_nonneg h0
    have hd2 : x.tmod 64 = x % 64 := Int.tmod_eq_emod_of_nonneg h0
    have hd3 : IntKind.i64.wrap (x / 64) = x / 64 := IntWalk.i64_in _ (by omega)
    have hd4 : IntKind.i64.wrap (x % 64) = x % 64 := IntWalk.i64_in _ (by omega)
    have hd6 := shl_one (x % 64) hq2 hq3
    have hd8 : IntKind.u64.wrap (2 ^ (x % 64).toNat) = 2 ^ (x % 64).toNat := by rw [Nat.min_eq_left (by omega)] at hd6; exact hd6
    have hd7 := del_word p x h0
    go_enter Tryd.func19, Tryd.ntmps19
    go_wp2_with ((go_at_call 40; (with_reducible refine (fits_calls _ _).mono ?_); rintro e w' ⟨rfl, hw⟩; obtain rfl := hw.symm); rw [HIN.out])
    generalize (w.alloc (.cells #[Value.int .u64 (wd (p) 0 : Nat), .int .u64 (wd (p) 1 : Nat), .int .u64 (wd (p) 2 : Nat), .int .u64 (wd (p) 3 : Nat), .int .u64 (wd (p) 4 : Nat), .int .u64 (wd (p) 5 : Nat), .int .u64 (wd (p) 6 : Nat), .int .u64 (wd (p) 7 : Nat)] 24)).alloc (.cells #[Value.int .u64 0, .int .u64 0, .int .u64 0, .int .u64 0, .int .u64 0, .int .u64 0, .int .u64 0, .int .u64 0] 24) = W at *
    obtain ⟨hw, hf⟩ := HB.out (x / 64).toNat (by omega)
    have HA' : Hid (Arr (W.setCell ⟨w.heap.size, (x / 64).toNat, none⟩ (.int .u64 (wd (delSet p x) (x / 64).toNat : Nat))) w.heap.size (delSet p x)) := HB.out.put (by omega) rfl (fun k _ hk => del_other _ _ h0 k hk)
    have HZ' : Hid (Arr (W.setCell ⟨w.heap.size, (x / 64).toNat, none⟩ (.int .u64 (wd (delSet p x) (x / 64).toNat : Nat))) (w.heap.size + 1) (fun _ => false)) := HZ.out.other (by omega)
    have HE' : Hid (Ext w (W.setCell ⟨w.heap.size, (x / 64).toNat, none⟩ (.int .u64 (wd (delSet p x) (x / 64).toNat : Nat)))) := HX.out.set (Nat.le_refl _) _
    go_region_with (fail)
    all_goals
      replace HA' := Lib.hid HA'.out.drew
      replace HZ' := Lib.hid HZ'.out.drew
      replace HE' := Lib.hid HE'.out.drew
      generalize (W.setCell ⟨w.heap.size, (x / 64).toNat, none⟩ (.int .u64 (wd (delSet p x) (x / 64).toNat : Nat))).drew = W2 at HA' HZ' HE' ⊢
      clear hw hf hd1 hd2 hd3 hd4 hd6 hd7 hd8 hq0 hq1 hq2 hq3 h0 h1
      have H__ := (HA').out; obtain ⟨ce0, fe0⟩ := H__ 0 (by omega); obtain ⟨ce1, fe1⟩ := H__ 1 (by omega); obtain ⟨ce2, fe2⟩ := H__ 2 (by omega); obtain ⟨ce3, fe3⟩ := H__ 3 (by omega); obtain ⟨ce4, fe4⟩ := H__ 4 (by omega); obtain ⟨ce5, fe5⟩ := H__ 5 (by omega); obtain ⟨ce6, fe6⟩ := H__ 6 (by omega); obtain ⟨ce7, fe7⟩ := H__ 7 (by omega); clear H__
      have H__ := (HZ').out; obtain ⟨de0, ge0⟩ := H__ 0 (by omega); obtain ⟨de1, ge1⟩ := H__ 1 (by omega); obtain ⟨de2, ge2⟩ := H__ 2 (by omega); obtain ⟨de3, ge3⟩ := H__ 3 (by omega); obtain ⟨de4, ge4⟩ := H__ 4 (by omega); obtain ⟨de5, ge5⟩ := H__ 5 (by omega); obtain ⟨de6, ge6⟩ := H__ 6 (by omega); obtain ⟨de7, ge7⟩ := H__ 7 (by omega); clear H__
      have HEX : Hid (Ext w ((((((((W2.setCell ⟨w.heap.size + 1, 0, none⟩ (.int .u64 (wd (delSet p x) 0 : Nat))).setCell ⟨w.heap.size + 1, 1, none⟩ (.int .u64 (wd (delSet p x) 1 : Nat))).setCell ⟨w.heap.size + 1, 2, none⟩ (.int .u64 (wd (delSet p x) 2 : Nat))).setCell ⟨w.heap.size + 1, 3, none⟩ (.int .u64 (wd (delSet p x) 3 : Nat))).setCell ⟨w.heap.size + 1, 4, none⟩ (.int .u64 (wd (delSet p x) 4 : Nat))).setCell ⟨w.heap.size + 1, 5, none⟩ (.int .u64 (wd (delSet p x) 5 : Nat))).setCell ⟨w.heap.size + 1, 6, none⟩ (.int .u64 (wd (delSet p x) 6 : Nat))).setCell ⟨w.heap.size + 1, 7, none⟩ (.int .u64 (wd (delSet p x) 7 : Nat)))) := ((((((((HE'.out.set (by first | exact Nat.le_refl _ | exact Nat.le_succ _ | exact Nat.le_add_right _ _ | exact Nat.le_trans (Nat.le_succ _) (Nat.le_succ _) | omega) _).set (by first | exact Nat.le_refl _ | exact Nat.le_succ _ | exact Nat.le_add_right _ _ | exact Nat.le_trans (Nat.le_succ _) (Nat.le_succ _) | omega) _).set (by first | exact Nat.le_refl _ | exact Nat.le_succ _ | exact Nat.le_add_right _ _ | exact Nat.le_trans (Nat.le_succ _) (Nat.le_succ _) | omega) _).set (by first | exact Nat.le_refl _ | exact Nat.le_succ _ | exact Nat.le_add_right _ _ | exact Nat.le_trans (Nat.le_succ _) (Nat.le_succ _) | omega) _).set (by first | exact Nat.le_refl _ | exact Nat.le_succ _ | exact Nat.le_add_right _ _ | exact Nat.le_trans (Nat.le_succ _) (Nat.le_succ _) | omega) _).set (by first | exact Nat.le_refl _ | exact Nat.le_succ _ | exact Nat.le_add_right _ _ | exact Nat.le_trans (Nat.le_succ _) (Nat.le_succ _) | omega) _).set (by first | exact Nat.le_refl _ | exact Nat.le_succ _ | exact Nat.le_add_right _ _ | exact Nat.le_trans (Nat.le_succ _) (Nat.le_succ _) | omega) _).set (by first | exact Nat.le_refl _ | exact Nat.le_succ _ | exact Nat.le_add_right _ _ | exact Nat.le_trans (Nat.le_succ _) (Nat.le_succ _) | omega) _)
      go_wp2_with fail
      exact bodyPost_ret (v := .tuple #[Value.agg #[.int .u64 (wd (delSet p x) 0 : Nat), .int .u64 (wd (delSet p x) 1 : Nat), .int .u64 (wd (delSet p x) 2 : Nat), .int .u64 (wd (delSet p x) 3 : Nat), .int .u64 (wd (delSet p x) 4 : Nat), .int .u64 (wd (delSet p x) 5 : Nat), .int .u64 (wd (delSet p x) 6 : Nat), .int .u64 (wd (delSet p x) 7 : Nat)], .int .i64 0]) (by simp [results, Tryd.results19, go_sem, *]) rfl ⟨by rw [HF.out, HE.out], HEX⟩
  · have HIN : Hid (inR x = false) := by show _ = _; simpa using hin
    have HE : Hid (errI x = 11) := if_neg hin
    have HF : Hid (dropS p x = fun _ => false) := if_neg hin
    clear hin
    go_enter Tryd.func19, Tryd.ntmps19
    go_wp2_with ((go_at_call 40; (with_reducible refine (fits_calls _ _).mono ?_); rintro e w' ⟨rfl, hw⟩; obtain rfl := hw.symm); rw [HIN.out])
    exact bodyPost_ret (v := .tuple #[Value.agg #[.int .u64 0, .int .u64 0, .int .u64 0, .int .u64 0, .int .u64 0, .int .u64 0, .int .u64 0, .int .u64 0], .int .i64 11]) (by simp [results, Tryd.results19, go_sem, *]) rfl ⟨by rw [HF.out, HE.out]; simp [wd_none], by (repeat (first | assumption | exact Ext.refl _ | apply Ext.alloc | apply Ext.drew | apply Ext.drewN | refine Ext.set ?_ (by first | exact Nat.le_refl _ | assumption | exact Nat.le_succ _ | exact Nat.le_add_right _ _ | exact Nat.le_trans (Nat.le_succ _) (Nat.le_succ _) | omega) _ | refine Ext.trans ?_ (by assumption)))⟩
end Go.Proofs.YtbmnjnmpjpdcmaaDoor
