/- Walks: Shift of package bits. Conditions: the library's table as its initialiser lays it. -/
import Derived.Test.YtbmnjnmpjpdcmaaDoorEachA
import Derived.Test.YtbmnjnmpjpdcmaaDoorShiftM
import Derived.Test.YtbmnjnmpjpdcmaaDoorBitsM
namespace Go.Proofs.YtbmnjnmpjpdcmaaDoor
open Go.RowKit Go.Eg

set_option maxHeartbeats 2000000 in
theorem shiftStep_calls (b1 b2 k : Nat) (x : Int) (q : Nat → Bool) (w : World) (hb : b1 ≠ b2) (hx : w.cell? ⟨b1, 0, none⟩ = some (.int .i64 x)) (hA : Arr w b2 q) (hk : k < 512) (hx1 : -512 < x) (hx2 : x < 512) :
    Calls Tryd.prog 39 #[.int .i64 (k : Int), .pointer (some ⟨b1, 0, none⟩), .pointer (some ⟨b2, 0, none⟩)] w fun e w' => e = .returned (.bool true) ∧ Arr w' b2 (addSet q ((k : Int) + x)) ∧ w'.cell? ⟨b1, 0, none⟩ = some (.int .i64 x) ∧ (∀ b' q', b' ≠ b2 → Arr w b' q' → Arr w' b' q') ∧ (∀ w0, Ext w0 w → w0.heap.size ≤ b2 → Ext w0 w') ∧ w.heap.size ≤ w'.heap.size := by
  by_cases hin : inR ((k : Int) + x) = true
  · have HIN := Lib.hid hin
    simp only [inR, Bool.and_eq_true, decide_eq_true_eq] at hin
    obtain ⟨h0, h1⟩ := hin
    obtain ⟨y, hy⟩ : ∃ y, y = (k : Int) + x := ⟨_, rfl⟩
    rw [← hy] at h0 h1 HIN ⊢
    have hy' : (k : Int) + x = y := hy.symm
    obtain ⟨hw, hf⟩ := hA (y / 64).toNat (by omega)
    have hq0 : 0 ≤ y / 64 := by omega
    have hq1 : y / 64 < 8 := by omega
    have hq2 : 0 ≤ y % 64 := by omega
    have hq3 : y % 64 < 64 := by omega
    have hd0 : IntKind.i64.wrap y = y := IntWalk.i64_in _ (by omega)
    have hd1 : y.tdiv 64 = y / 64 := Int.tdiv_eq_ediv_of_nonneg h0
    have hd2 : y.tmod 64 = y % 64 := Int.tmod_eq_emod_of_nonneg h0
    have hd3 : IntKind.i64.wrap (y / 64) = y / 64 := IntWalk.i64_in _ (by omega)
    have hd4 : IntKind.i64.wrap (y % 64) = y % 64 := IntWalk.i64_in _ (by omega)
    have hd6 := shl_one (y % 64) hq2 hq3
    have hd8 : IntKind.u64.wrap (2 ^ (y % 64).toNat) = 2 ^ (y % 64).toNat := by rw [Nat.min_eq_left (by omega)] at hd6; exact hd6
    have hd7 := add_word q y h0
    have HA' : Hid (Arr (w.setCell ⟨b2, (y / 64).toNat, none⟩ (.int .u64 (wd (addSet q y) (y / 64).toNat : Nat))) b2 (addSet q y)) := hA.put (by omega) rfl (fun k _ hk => add_other _ _ h0 k hk)
    have HC' : Hid ((w.setCell ⟨b2, (y / 64).toNat, none⟩ (.int .u64 (wd (addSet q y) (y / 64).toNat : Nat))).cell? ⟨b1, 0, none⟩ = some (.int .i64 x)) := by
      show _ = _; rw [World.cell?_setCell_other w _ _ _ (fun e => hb (congrArg Addr.block e).symm)]; exact hx
    have HO' : Hid (∀ b' q', b' ≠ b2 → Arr w b' q' → Arr (w.setCell ⟨b2, (y / 64).toNat, none⟩ (.int .u64 (wd (addSet q y) (y / 64).toNat : Nat))) b' q') := fun b' q' h1 h2 => h2.other h1
    clear hA hy
    go_enter Tryd.func39, Tryd.ntmps39
    go_wp2_with ((try rw [hy']); (go_at_call 40; (with_reducible refine (fits_calls _ _).mono ?_); rintro e w' ⟨rfl, hw⟩; obtain rfl := hw.symm); rw [HIN.out])
    go_region_with (fail)
    all_goals
      go_wp2_with fail
      go_ret
      refine ⟨rfl, HA'.out.drew, HC'.out, fun b' q' h1 h2 => (HO'.out b' q' h1 h2).drew, fun w0 he hl => (he.set hl _).drew, by simp⟩
  · have HIN : Hid (inR ((k : Int) + x) = false) := by show _ = _; simpa using hin
    clear hin
    go_enter Tryd.func39, Tryd.ntmps39
    go_wp2_with ((go_at_call 40; (with_reducible refine (fits_calls _ _).mono ?_); rintro e w' ⟨rfl, hw⟩; obtain rfl := hw.symm); rw [HIN.out])
    go_ret
    exact ⟨rfl, hA.congr (fun j hj => add_out HIN.out j hj), hx, fun _ _ _ h => h, fun _ h _ => h, Nat.le_refl _⟩
set_option maxHeartbeats 2000000 in
set_option maxRecDepth 100000 in
theorem Shift_calls (p : Nat → Bool) (x : Int) (w : World) (hT : Tab w) : Calls Tryd.prog 9 #[Value.agg #[.int .u64 (wd (p) 0 : Nat), .int .u64 (wd (p) 1 : Nat), .int .u64 (wd (p) 2 : Nat), .int .u64 (wd (p) 3 : Nat), .int .u64 (wd (p) 4 : Nat), .int .u64 (wd (p) 5 : Nat), .int .u64 (wd (p) 6 : Nat), .int .u64 (wd (p) 7 : Nat)], .int .i64 x] w fun e w' => e = .returned (Value.agg #[.int .u64 (wd (shiftS p x) 0 : Nat), .int .u64 (wd (shiftS p x) 1 : Nat), .int .u64 (wd (shiftS p x) 2 : Nat), .int .u64 (wd (shiftS p x) 3 : Nat), .int .u64 (wd (shiftS p x) 4 : Nat), .int .u64 (wd (shiftS p x) 5 : Nat), .int .u64 (wd (shiftS p x) 6 : Nat), .int .u64 (wd (shiftS p x) 7 : Nat)]) ∧ Ext w w' := by
  by_cases hx : shOk x = true
  · have HR : Hid (shiftS p x = shS p x 512) := if_pos hx
    simp only [shOk, Bool.and_eq_true, decide_eq_true_eq] at hx
    obtain ⟨hx1, hx2⟩ := hx
    obtain ⟨I, hI⟩ : ∃ I : Nat → World → Prop, I = fun i w' => Arr w' (w.heap.size + 1 + 1 + 1) (shS p x i) ∧ w'.cell? ⟨w.heap.size + 1, 0, none⟩ = some (.int .i64 x) ∧ Arr w' (w.heap.size + 1 + 1) (fun _ => false) ∧ Ext w w' ∧ w.heap.size + 1 + 1 + 1 < w'.heap.size := ⟨_, rfl⟩
    have HE := Lib.hid (each_shift p ⟨w.heap.size + 1, 0, none⟩ ⟨w.heap.size + 1 + 1 + 1, 0, none⟩ I (fun i w' h => by rw [hI] at h; exact hT.ext h.2.2.2.1)
      (fun i w' hp h => by rw [hI] at h ⊢; obtain ⟨k1, k2, k3, k4, k5⟩ := h; exact ⟨by rw [sh_skip hp]; exact k1, k2, k3, k4, k5⟩)
      (fun i w' hi hp h => by
        rw [hI] at h
        obtain ⟨k1, k2, k3, k4, k5⟩ := h
        refine (shiftStep_calls _ _ i x _ w' (by omega) k2 k1 hi hx1 hx2).mono ?_
        rintro e w2 ⟨rfl, l1, l2, l3, l4, l5⟩
        rw [hI]
        exact ⟨rfl, by rw [sh_add hp]; exact l1, l2, l3 _ _ (by omega) k3, l4 _ k4 (by omega), by omega⟩))
    have H0 : Hid (∀ o, I 0 (((((w.alloc (.cells #[Value.int .u64 (wd (p) 0 : Nat), .int .u64 (wd (p) 1 : Nat), .int .u64 (wd (p) 2 : Nat), .int .u64 (wd (p) 3 : Nat), .int .u64 (wd (p) 4 : Nat), .int .u64 (wd (p) 5 : Nat), .int .u64 (wd (p) 6 : Nat), .int .u64 (wd (p) 7 : Nat)] 24)).alloc (.cells #[.int .i64 x] 3)).alloc (.cells #[Value.int .u64 0, .int .u64 0, .int .u64 0, .int .u64 0, .int .u64 0, .int .u64 0, .int .u64 0, .int .u64 0] 24)).alloc (.cells #[Value.int .u64 0, .int .u64 0, .int .u64 0, .int .u64 0, .int .u64 0, .int .u64 0, .int .u64 0, .int .u64 0] 24)).alloc o)) := by
      show ∀ o, I 0 _
      intro o
      rw [hI]
      refine ⟨by rw [sh_zero]; exact (Arr.zero (by simp)).old (by simp), ?_, ((Arr.zero (by simp)).old (by simp)).old (by simp <;> omega), by (repeat (first | assumption | exact Ext.refl _ | apply Ext.alloc | apply Ext.drew | apply Ext.drewN | refine Ext.trans ?_ (by assumption))), by simp⟩
      refine (((((Ext.refl _).alloc _).alloc _).alloc _).cell _ _ (by simp)).trans (by simp)
    clear hT
    go_enter Tryd.func9, Tryd.ntmps9
    go_wp2_with (first | ((go_at_call 38; (with_reducible refine (HE.out _ (H0.out _)).mono ?_); rintro e w1 ⟨rfl, h1⟩); rw [hI] at h1; obtain ⟨k1, k2, k3, k4, k5⟩ := h1; have K1 := Lib.hid k1; have K3 := Lib.hid k3; clear k1 k3; have H__ := (K1).out; obtain ⟨ce0, fe0⟩ := H__ 0 (by omega); obtain ⟨ce1, fe1⟩ := H__ 1 (by omega); obtain ⟨ce2, fe2⟩ := H__ 2 (by omega); obtain ⟨ce3, fe3⟩ := H__ 3 (by omega); obtain ⟨ce4, fe4⟩ := H__ 4 (by omega); obtain ⟨ce5, fe5⟩ := H__ 5 (by omega); obtain ⟨ce6, fe6⟩ := H__ 6 (by omega); obtain ⟨ce7, fe7⟩ := H__ 7 (by omega); clear H__; have H__ := (K3).out; obtain ⟨de0, ge0⟩ := H__ 0 (by omega); obtain ⟨de1, ge1⟩ := H__ 1 (by omega); obtain ⟨de2, ge2⟩ := H__ 2 (by omega); obtain ⟨de3, ge3⟩ := H__ 3 (by omega); obtain ⟨de4, ge4⟩ := H__ 4 (by omega); obtain ⟨de5, ge5⟩ := H__ 5 (by omega); obtain ⟨de6, ge6⟩ := H__ 6 (by omega); obtain ⟨de7, ge7⟩ := H__ 7 (by omega); clear H__))
    have HEX : Hid (Ext w ((((((((w1.setCell ⟨w.heap.size + 1 + 1, 0, none⟩ (.int .u64 (wd (shS p x 512) 0 : Nat))).setCell ⟨w.heap.size + 1 + 1, 1, none⟩ (.int .u64 (wd (shS p x 512) 1 : Nat))).setCell ⟨w.heap.size + 1 + 1, 2, none⟩ (.int .u64 (wd (shS p x 512) 2 : Nat))).setCell ⟨w.heap.size + 1 + 1, 3, none⟩ (.int .u64 (wd (shS p x 512) 3 : Nat))).setCell ⟨w.heap.size + 1 + 1, 4, none⟩ (.int .u64 (wd (shS p x 512) 4 : Nat))).setCell ⟨w.heap.size + 1 + 1, 5, none⟩ (.int .u64 (wd (shS p x 512) 5 : Nat))).setCell ⟨w.heap.size + 1 + 1, 6, none⟩ (.int .u64 (wd (shS p x 512) 6 : Nat))).setCell ⟨w.heap.size + 1 + 1, 7, none⟩ (.int .u64 (wd (shS p x 512) 7 : Nat)))) := ((((((((k4.set (by first | exact Nat.le_refl _ | exact Nat.le_succ _ | exact Nat.le_add_right _ _ | exact Nat.le_trans (Nat.le_succ _) (Nat.le_succ _) | omega) _).set (by first | exact Nat.le_refl _ | exact Nat.le_succ _ | exact Nat.le_add_right _ _ | exact Nat.le_trans (Nat.le_succ _) (Nat.le_succ _) | omega) _).set (by first | exact Nat.le_refl _ | exact Nat.le_succ _ | exact Nat.le_add_right _ _ | exact Nat.le_trans (Nat.le_succ _) (Nat.le_succ _) | omega) _).set (by first | exact Nat.le_refl _ | exact Nat.le_succ _ | exact Nat.le_add_right _ _ | exact Nat.le_trans (Nat.le_succ _) (Nat.le_succ _) | omega) _).set (by first | exact Nat.le_refl _ | exact Nat.le_succ _ | exact Nat.le_add_right _ _ | exact Nat.le_trans (Nat.le_succ _) (Nat.le_succ _) | omega) _).set (by first | exact Nat.le_refl _ | exact Nat.le_succ _ | exact Nat.le_add_right _ _ | exact Nat.le_trans (Nat.le_succ _) (Nat.le_succ _) | omega) _).set (by first | exact Nat.le_refl _ | exact Nat.le_succ _ | exact Nat.le_add_right _ _ | exact Nat.le_trans (Nat.le_succ _) (Nat.le_succ _) | omega) _).set (by first | exact Nat.le_refl _ | exact Nat.le_succ _ | exact Nat.le_add_right _ _ | exact Nat.le_trans (Nat.le_succ _) (Nat.le_succ _) | omega) _)
    exact bodyPost_ret (v := Value.agg #[.int .u64 (wd (shS p x 512) 0 : Nat), .int .u64 (wd (shS p x 512) 1 : Nat), .int .u64 (wd (shS p x 512) 2 : Nat), .int .u64 (wd (shS p x 512) 3 : Nat), .int .u64 (wd (shS p x 512) 4 : Nat), .int .u64 (wd (shS p x 512) 5 : Nat), .int .u64 (wd (shS p x 512) 6 : Nat), .int .u64 (wd (shS p x 512) 7 : Nat)]) (by simp [results, Tryd.results9, go_sem, *]) rfl ⟨by rw [HR.out], HEX⟩
  · have HR : Hid (shiftS p x = fun _ => false) := if_neg hx
    have hx3 : x ≤ -512 ∨ (decide (x ≤ -512) = false ∧ 512 ≤ x) := by simp [shOk] at hx ⊢; omega
    clear hx hT
    rcases hx3 with h | ⟨h0, h⟩
    all_goals
      go_enter Tryd.func9, Tryd.ntmps9
      go_wp2_with fail
      exact bodyPost_ret (v := Value.agg #[.int .u64 0, .int .u64 0, .int .u64 0, .int .u64 0, .int .u64 0, .int .u64 0, .int .u64 0, .int .u64 0]) (by simp [results, Tryd.results9, go_sem, *]) rfl ⟨by rw [HR.out]; simp [wd_none], by (repeat (first | assumption | exact Ext.refl _ | apply Ext.alloc | apply Ext.drew | apply Ext.drewN | refine Ext.set ?_ (by first | exact Nat.le_refl _ | exact Nat.le_succ _ | exact Nat.le_add_right _ _ | exact Nat.le_trans (Nat.le_succ _) (Nat.le_succ _) | omega) _ | refine Ext.trans ?_ (by assumption)))⟩
end Go.Proofs.YtbmnjnmpjpdcmaaDoor
