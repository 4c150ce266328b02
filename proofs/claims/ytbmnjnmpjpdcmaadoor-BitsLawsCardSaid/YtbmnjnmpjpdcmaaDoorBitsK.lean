/- Walks of package bits: Union, Inter, Minus. Conditions: none. -/
import Derived.Test.YtbmnjnmpjpdcmaaDoorListB
namespace Go.Proofs.YtbmnjnmpjpdcmaaDoor
open Go.RowKit Go.Eg

def orS (p q : Nat → Bool) (i : Nat) : Bool := p i || q i
def andS (p q : Nat → Bool) (i : Nat) : Bool := p i && q i
def subS (p q : Nat → Bool) (i : Nat) : Bool := p i && !q i
/-- The set of which the words below j are already another's. -/
def upS (p r : Nat → Bool) (j i : Nat) : Bool := if i / 64 < j then r i else p i
theorem up_lt (p r : Nat → Bool) {j k : Nat} (h : k < j) : wd (upS p r j) k = wd r k := wd_congr fun b hb => by unfold upS; rw [if_pos (by omega)]
theorem up_ge (p r : Nat → Bool) {j k : Nat} (h : j ≤ k) : wd (upS p r j) k = wd p k := wd_congr fun b hb => by unfold upS; rw [if_neg (by omega)]
theorem Arr.up {w : World} {b j : Nat} {p r : Nat → Bool} (h : Arr w b (upS p r j)) (hj : j < 8) : Arr (w.setCell ⟨b, j, none⟩ (.int .u64 (wd r j : Nat))) b (upS p r (j + 1)) :=
  h.put hj (up_lt _ _ (Nat.lt_succ_self _)).symm (fun k _ hkj => by
    by_cases hk : k < j
    · rw [up_lt _ _ hk, up_lt _ _ (by omega)]
    · rw [up_ge _ _ (by omega), up_ge _ _ (by omega)])
theorem Arr.all {w : World} {b : Nat} {p r : Nat → Bool} (h : Arr w b (upS p r 8)) : Arr w b r := fun k hk => by
  have := h k hk
  rwa [up_lt _ _ hk] at this

theorem union_word (p q : Nat → Bool) (j : Nat) (w : World) : Calls Tryd.prog 48 #[.int .u64 (wd p j : Nat), .int .u64 (wd q j : Nat)] w fun e w' => e = .returned (.int .u64 (wd (orS p q) j : Nat)) ∧ w' = w := by
  have HW : Hid (wd (orS p q) j = _) := (wd_or p q j).symm
  have HL := Lib.hid (u64_or_nat (wd p j) (wd q j) (wd_lt' _ _) (wd_lt' _ _))
  go_enter Tryd.func48, Tryd.ntmps48
  go_wp2_with fail
  go_ret
  exact ⟨ret_int (by rw [HW.out]; exact HL.out), rfl⟩
set_option maxHeartbeats 2000000 in
set_option maxRecDepth 100000 in
theorem union_both (p q : Nat → Bool) (w : World) : Calls Tryd.prog 46 #[Value.agg #[.int .u64 (wd (p) 0 : Nat), .int .u64 (wd (p) 1 : Nat), .int .u64 (wd (p) 2 : Nat), .int .u64 (wd (p) 3 : Nat), .int .u64 (wd (p) 4 : Nat), .int .u64 (wd (p) 5 : Nat), .int .u64 (wd (p) 6 : Nat), .int .u64 (wd (p) 7 : Nat)], Value.agg #[.int .u64 (wd (q) 0 : Nat), .int .u64 (wd (q) 1 : Nat), .int .u64 (wd (q) 2 : Nat), .int .u64 (wd (q) 3 : Nat), .int .u64 (wd (q) 4 : Nat), .int .u64 (wd (q) 5 : Nat), .int .u64 (wd (q) 6 : Nat), .int .u64 (wd (q) 7 : Nat)], .func (.func 48) #[] #[]] w fun e w' => e = .returned (Value.agg #[.int .u64 (wd (orS p q) 0 : Nat), .int .u64 (wd (orS p q) 1 : Nat), .int .u64 (wd (orS p q) 2 : Nat), .int .u64 (wd (orS p q) 3 : Nat), .int .u64 (wd (orS p q) 4 : Nat), .int .u64 (wd (orS p q) 5 : Nat), .int .u64 (wd (orS p q) 6 : Nat), .int .u64 (wd (orS p q) 7 : Nat)]) ∧ Ext w w' := by
  obtain ⟨r, hr⟩ : ∃ r, r = orS p q := ⟨_, rfl⟩
  have HR := Lib.hid hr
  rw [← hr]
  clear hr
  go_enter Tryd.func46, Tryd.ntmps46
  go_wp2_with fail
  go_loopw [8] (fun v8 wr => ∃ j : Nat, v8 = .int .i64 j ∧ j ≤ 8 ∧ Hid (Arr wr w.heap.size (upS p r j)) ∧ Hid (Arr wr (w.heap.size + 1) q) ∧ Hid (Arr wr (w.heap.size + 2) (fun _ => false)) ∧ Ext w wr ∧ w.heap.size + 2 < wr.heap.size) (fun v8 _ => 8 - (intOf v8).toNat)
  case atStart =>
    refine ⟨0, rfl, by omega, ?_, ?_, ?_, by (repeat (first | assumption | exact Ext.refl _ | apply Ext.alloc | apply Ext.drew | apply Ext.drewN | refine Ext.set ?_ (by first | exact Nat.le_refl _ | assumption | exact Nat.le_succ _ | exact Nat.le_add_right _ _ | exact Nat.le_trans (Nat.le_succ _) (Nat.le_succ _) | omega) _ | refine Ext.trans ?_ (by assumption))), by simp⟩
    · have h := ((Arr.made (W := w) (e := 24) p rfl).old (o := .cells #[Value.int .u64 (wd (q) 0 : Nat), .int .u64 (wd (q) 1 : Nat), .int .u64 (wd (q) 2 : Nat), .int .u64 (wd (q) 3 : Nat), .int .u64 (wd (q) 4 : Nat), .int .u64 (wd (q) 5 : Nat), .int .u64 (wd (q) 6 : Nat), .int .u64 (wd (q) 7 : Nat)] 24) (by simp)).old (o := .cells #[Value.int .u64 0, .int .u64 0, .int .u64 0, .int .u64 0, .int .u64 0, .int .u64 0, .int .u64 0, .int .u64 0] 24) (by simp; omega)
      exact Lib.hid (fun k hk => by rw [up_ge _ _ (Nat.zero_le _)]; exact h k hk)
    · exact Lib.hid ((Arr.made q (by simp)).old (by simp))
    · exact Lib.hid (Arr.zero (by simp))
  case round =>
    obtain ⟨j, rfl, hj, HA, HB, HZ, he, hbw⟩ := hrel
    by_cases hlt : j < 8
    · obtain ⟨hw, hf⟩ := HA.out j hlt
      obtain ⟨hw2, hf2⟩ := HB.out j hlt
      rw [up_ge _ _ (Nat.le_refl _)] at hw
      have HA' := Lib.hid (HA.out.up hlt)
      have HB' : Hid (Arr (wr.setCell ⟨w.heap.size, j, none⟩ (.int .u64 (wd r j : Nat))) (w.heap.size + 1) q) := HB.out.other (by omega)
      have HZ' : Hid (Arr (wr.setCell ⟨w.heap.size, j, none⟩ (.int .u64 (wd r j : Nat))) (w.heap.size + 2) (fun _ => false)) := HZ.out.other (by omega)
      have HE' : Hid (Ext w (wr.setCell ⟨w.heap.size, j, none⟩ (.int .u64 (wd r j : Nat)))) := he.set (Nat.le_refl _) _
      have HC := Lib.hid (union_word p q j)
      rw [← HR.out] at HC
      go_wp2_with fail
      go_region_with ((go_at_call 48; (with_reducible refine (HC.out _).mono ?_); rintro e w' ⟨rfl, hw⟩; obtain rfl := hw.symm))
      all_goals
        go_wp2_with fail
        go_roundw
        case rel => exact ⟨j + 1, by go_num, by omega, Lib.hid HA'.out.drew, Lib.hid HB'.out.drew, Lib.hid HZ'.out.drew, HE'.out.drew, by simpa using hbw⟩
        case measure => simp [intOf]; omega
    · have hj' : j = 8 := by omega
      subst hj'
      replace HA := Lib.hid HA.out.all
      have H__ := (HA).out; obtain ⟨ce0, fe0⟩ := H__ 0 (by omega); obtain ⟨ce1, fe1⟩ := H__ 1 (by omega); obtain ⟨ce2, fe2⟩ := H__ 2 (by omega); obtain ⟨ce3, fe3⟩ := H__ 3 (by omega); obtain ⟨ce4, fe4⟩ := H__ 4 (by omega); obtain ⟨ce5, fe5⟩ := H__ 5 (by omega); obtain ⟨ce6, fe6⟩ := H__ 6 (by omega); obtain ⟨ce7, fe7⟩ := H__ 7 (by omega); clear H__
      have H__ := (HZ).out; obtain ⟨de0, ge0⟩ := H__ 0 (by omega); obtain ⟨de1, ge1⟩ := H__ 1 (by omega); obtain ⟨de2, ge2⟩ := H__ 2 (by omega); obtain ⟨de3, ge3⟩ := H__ 3 (by omega); obtain ⟨de4, ge4⟩ := H__ 4 (by omega); obtain ⟨de5, ge5⟩ := H__ 5 (by omega); obtain ⟨de6, ge6⟩ := H__ 6 (by omega); obtain ⟨de7, ge7⟩ := H__ 7 (by omega); clear H__
      have HEX : Hid (Ext w ((((((((wr.setCell ⟨w.heap.size + 2, 0, none⟩ (.int .u64 (wd (r) 0 : Nat))).setCell ⟨w.heap.size + 2, 1, none⟩ (.int .u64 (wd (r) 1 : Nat))).setCell ⟨w.heap.size + 2, 2, none⟩ (.int .u64 (wd (r) 2 : Nat))).setCell ⟨w.heap.size + 2, 3, none⟩ (.int .u64 (wd (r) 3 : Nat))).setCell ⟨w.heap.size + 2, 4, none⟩ (.int .u64 (wd (r) 4 : Nat))).setCell ⟨w.heap.size + 2, 5, none⟩ (.int .u64 (wd (r) 5 : Nat))).setCell ⟨w.heap.size + 2, 6, none⟩ (.int .u64 (wd (r) 6 : Nat))).setCell ⟨w.heap.size + 2, 7, none⟩ (.int .u64 (wd (r) 7 : Nat)))) := ((((((((he.set (by first | exact Nat.le_refl _ | exact Nat.le_succ _ | exact Nat.le_add_right _ _ | exact Nat.le_trans (Nat.le_succ _) (Nat.le_succ _) | omega) _).set (by first | exact Nat.le_refl _ | exact Nat.le_succ _ | exact Nat.le_add_right _ _ | exact Nat.le_trans (Nat.le_succ _) (Nat.le_succ _) | omega) _).set (by first | exact Nat.le_refl _ | exact Nat.le_succ _ | exact Nat.le_add_right _ _ | exact Nat.le_trans (Nat.le_succ _) (Nat.le_succ _) | omega) _).set (by first | exact Nat.le_refl _ | exact Nat.le_succ _ | exact Nat.le_add_right _ _ | exact Nat.le_trans (Nat.le_succ _) (Nat.le_succ _) | omega) _).set (by first | exact Nat.le_refl _ | exact Nat.le_succ _ | exact Nat.le_add_right _ _ | exact Nat.le_trans (Nat.le_succ _) (Nat.le_succ _) | omega) _).set (by first | exact Nat.le_refl _ | exact Nat.le_succ _ | exact Nat.le_add_right _ _ | exact Nat.le_trans (Nat.le_succ _) (Nat.le_succ _) | omega) _).set (by first | exact Nat.le_refl _ | exact Nat.le_succ _ | exact Nat.le_add_right _ _ | exact Nat.le_trans (Nat.le_succ _) (Nat.le_succ _) | omega) _).set (by first | exact Nat.le_refl _ | exact Nat.le_succ _ | exact Nat.le_add_right _ _ | exact Nat.le_trans (Nat.le_succ _) (Nat.le_succ _) | omega) _)
      go_wp2_with fail
      exact bodyPost_ret (v := Value.agg #[.int .u64 (wd (r) 0 : Nat), .int .u64 (wd (r) 1 : Nat), .int .u64 (wd (r) 2 : Nat), .int .u64 (wd (r) 3 : Nat), .int .u64 (wd (r) 4 : Nat), .int .u64 (wd (r) 5 : Nat), .int .u64 (wd (r) 6 : Nat), .int .u64 (wd (r) 7 : Nat)]) (by simp [results, Tryd.results46, go_sem, *]) rfl ⟨rfl, HEX⟩
set_option maxHeartbeats 2000000 in
theorem union_calls (p q : Nat → Bool) (w : World) : Calls Tryd.prog 35 #[Value.agg #[.int .u64 (wd (p) 0 : Nat), .int .u64 (wd (p) 1 : Nat), .int .u64 (wd (p) 2 : Nat), .int .u64 (wd (p) 3 : Nat), .int .u64 (wd (p) 4 : Nat), .int .u64 (wd (p) 5 : Nat), .int .u64 (wd (p) 6 : Nat), .int .u64 (wd (p) 7 : Nat)], Value.agg #[.int .u64 (wd (q) 0 : Nat), .int .u64 (wd (q) 1 : Nat), .int .u64 (wd (q) 2 : Nat), .int .u64 (wd (q) 3 : Nat), .int .u64 (wd (q) 4 : Nat), .int .u64 (wd (q) 5 : Nat), .int .u64 (wd (q) 6 : Nat), .int .u64 (wd (q) 7 : Nat)]] w fun e w' => e = .returned (Value.agg #[.int .u64 (wd (orS p q) 0 : Nat), .int .u64 (wd (orS p q) 1 : Nat), .int .u64 (wd (orS p q) 2 : Nat), .int .u64 (wd (orS p q) 3 : Nat), .int .u64 (wd (orS p q) 4 : Nat), .int .u64 (wd (orS p q) 5 : Nat), .int .u64 (wd (orS p q) 6 : Nat), .int .u64 (wd (orS p q) 7 : Nat)]) ∧ Ext w w' := by
  have HZ : Hid (Arr (((w.alloc (.cells #[Value.int .u64 (wd (p) 0 : Nat), .int .u64 (wd (p) 1 : Nat), .int .u64 (wd (p) 2 : Nat), .int .u64 (wd (p) 3 : Nat), .int .u64 (wd (p) 4 : Nat), .int .u64 (wd (p) 5 : Nat), .int .u64 (wd (p) 6 : Nat), .int .u64 (wd (p) 7 : Nat)] 24)).alloc (.cells #[Value.int .u64 (wd (q) 0 : Nat), .int .u64 (wd (q) 1 : Nat), .int .u64 (wd (q) 2 : Nat), .int .u64 (wd (q) 3 : Nat), .int .u64 (wd (q) 4 : Nat), .int .u64 (wd (q) 5 : Nat), .int .u64 (wd (q) 6 : Nat), .int .u64 (wd (q) 7 : Nat)] 24)).alloc (.cells #[Value.int .u64 0, .int .u64 0, .int .u64 0, .int .u64 0, .int .u64 0, .int .u64 0, .int .u64 0, .int .u64 0] 24)) (w.heap.size + 2) (fun _ => false)) := Lib.hid (Arr.zero (by simp))
  have HS : Hid (w.heap.size + 2 < (((w.alloc (.cells #[Value.int .u64 (wd (p) 0 : Nat), .int .u64 (wd (p) 1 : Nat), .int .u64 (wd (p) 2 : Nat), .int .u64 (wd (p) 3 : Nat), .int .u64 (wd (p) 4 : Nat), .int .u64 (wd (p) 5 : Nat), .int .u64 (wd (p) 6 : Nat), .int .u64 (wd (p) 7 : Nat)] 24)).alloc (.cells #[Value.int .u64 (wd (q) 0 : Nat), .int .u64 (wd (q) 1 : Nat), .int .u64 (wd (q) 2 : Nat), .int .u64 (wd (q) 3 : Nat), .int .u64 (wd (q) 4 : Nat), .int .u64 (wd (q) 5 : Nat), .int .u64 (wd (q) 6 : Nat), .int .u64 (wd (q) 7 : Nat)] 24)).alloc (.cells #[Value.int .u64 0, .int .u64 0, .int .u64 0, .int .u64 0, .int .u64 0, .int .u64 0, .int .u64 0, .int .u64 0] 24)).heap.size) := by show _ < _; simp
  have HX : Hid (Ext w (((w.alloc (.cells #[Value.int .u64 (wd (p) 0 : Nat), .int .u64 (wd (p) 1 : Nat), .int .u64 (wd (p) 2 : Nat), .int .u64 (wd (p) 3 : Nat), .int .u64 (wd (p) 4 : Nat), .int .u64 (wd (p) 5 : Nat), .int .u64 (wd (p) 6 : Nat), .int .u64 (wd (p) 7 : Nat)] 24)).alloc (.cells #[Value.int .u64 (wd (q) 0 : Nat), .int .u64 (wd (q) 1 : Nat), .int .u64 (wd (q) 2 : Nat), .int .u64 (wd (q) 3 : Nat), .int .u64 (wd (q) 4 : Nat), .int .u64 (wd (q) 5 : Nat), .int .u64 (wd (q) 6 : Nat), .int .u64 (wd (q) 7 : Nat)] 24)).alloc (.cells #[Value.int .u64 0, .int .u64 0, .int .u64 0, .int .u64 0, .int .u64 0, .int .u64 0, .int .u64 0, .int .u64 0] 24))) := by show Ext _ _; (repeat (first | assumption | exact Ext.refl _ | apply Ext.alloc | apply Ext.drew | apply Ext.drewN | refine Ext.set ?_ (by first | exact Nat.le_refl _ | assumption | exact Nat.le_succ _ | exact Nat.le_add_right _ _ | exact Nat.le_trans (Nat.le_succ _) (Nat.le_succ _) | omega) _ | refine Ext.trans ?_ (by assumption)))
  obtain ⟨r, hr⟩ : ∃ r, r = orS p q := ⟨_, rfl⟩
  have HR := Lib.hid hr
  have HC := Lib.hid (union_both p q)
  rw [← hr] at HC ⊢
  clear hr
  go_enter Tryd.func35, Tryd.ntmps35
  go_wp2_with ((go_at_call 46; (with_reducible refine (HC.out _).mono ?_); rintro e w1 ⟨rfl, h1⟩); (replace HZ := Lib.hid (HZ.out.ext h1 HS.out)); (replace HX := Lib.hid (HX.out.trans h1)); clear h1; have H__ := (HZ).out; obtain ⟨ce0, fe0⟩ := H__ 0 (by omega); obtain ⟨ce1, fe1⟩ := H__ 1 (by omega); obtain ⟨ce2, fe2⟩ := H__ 2 (by omega); obtain ⟨ce3, fe3⟩ := H__ 3 (by omega); obtain ⟨ce4, fe4⟩ := H__ 4 (by omega); obtain ⟨ce5, fe5⟩ := H__ 5 (by omega); obtain ⟨ce6, fe6⟩ := H__ 6 (by omega); obtain ⟨ce7, fe7⟩ := H__ 7 (by omega); clear H__)
  have HEX : Hid (Ext w ((((((((w1.setCell ⟨w.heap.size + 2, 0, none⟩ (.int .u64 (wd (r) 0 : Nat))).setCell ⟨w.heap.size + 2, 1, none⟩ (.int .u64 (wd (r) 1 : Nat))).setCell ⟨w.heap.size + 2, 2, none⟩ (.int .u64 (wd (r) 2 : Nat))).setCell ⟨w.heap.size + 2, 3, none⟩ (.int .u64 (wd (r) 3 : Nat))).setCell ⟨w.heap.size + 2, 4, none⟩ (.int .u64 (wd (r) 4 : Nat))).setCell ⟨w.heap.size + 2, 5, none⟩ (.int .u64 (wd (r) 5 : Nat))).setCell ⟨w.heap.size + 2, 6, none⟩ (.int .u64 (wd (r) 6 : Nat))).setCell ⟨w.heap.size + 2, 7, none⟩ (.int .u64 (wd (r) 7 : Nat)))) := ((((((((HX.out.set (by first | exact Nat.le_refl _ | exact Nat.le_succ _ | exact Nat.le_add_right _ _ | exact Nat.le_trans (Nat.le_succ _) (Nat.le_succ _) | omega) _).set (by first | exact Nat.le_refl _ | exact Nat.le_succ _ | exact Nat.le_add_right _ _ | exact Nat.le_trans (Nat.le_succ _) (Nat.le_succ _) | omega) _).set (by first | exact Nat.le_refl _ | exact Nat.le_succ _ | exact Nat.le_add_right _ _ | exact Nat.le_trans (Nat.le_succ _) (Nat.le_succ _) | omega) _).set (by first | exact Nat.le_refl _ | exact Nat.le_succ _ | exact Nat.le_add_right _ _ | exact Nat.le_trans (Nat.le_succ _) (Nat.le_succ _) | omega) _).set (by first | exact Nat.le_refl _ | exact Nat.le_succ _ | exact Nat.le_add_right _ _ | exact Nat.le_trans (Nat.le_succ _) (Nat.le_succ _) | omega) _).set (by first | exact Nat.le_refl _ | exact Nat.le_succ _ | exact Nat.le_add_right _ _ | exact Nat.le_trans (Nat.le_succ _) (Nat.le_succ _) | omega) _).set (by first | exact Nat.le_refl _ | exact Nat.le_succ _ | exact Nat.le_add_right _ _ | exact Nat.le_trans (Nat.le_succ _) (Nat.le_succ _) | omega) _).set (by first | exact Nat.le_refl _ | exact Nat.le_succ _ | exact Nat.le_add_right _ _ | exact Nat.le_trans (Nat.le_succ _) (Nat.le_succ _) | omega) _)
  exact bodyPost_ret (v := Value.agg #[.int .u64 (wd (r) 0 : Nat), .int .u64 (wd (r) 1 : Nat), .int .u64 (wd (r) 2 : Nat), .int .u64 (wd (r) 3 : Nat), .int .u64 (wd (r) 4 : Nat), .int .u64 (wd (r) 5 : Nat), .int .u64 (wd (r) 6 : Nat), .int .u64 (wd (r) 7 : Nat)]) (by simp [results, Tryd.results35, go_sem, *]) rfl ⟨rfl, HEX⟩

theorem inter_word (p q : Nat → Bool) (j : Nat) (w : World) : Calls Tryd.prog 47 #[.int .u64 (wd p j : Nat), .int .u64 (wd q j : Nat)] w fun e w' => e = .returned (.int .u64 (wd (andS p q) j : Nat)) ∧ w' = w := by
  have HW : Hid (wd (andS p q) j = _) := (wd_and p q j).symm
  have HL := Lib.hid (u64_and_nat (wd p j) (wd q j) (wd_lt' _ _) (wd_lt' _ _))
  go_enter Tryd.func47, Tryd.ntmps47
  go_wp2_with fail
  go_ret
  exact ⟨ret_int (by rw [HW.out]; exact HL.out), rfl⟩
set_option maxHeartbeats 2000000 in
set_option maxRecDepth 100000 in
theorem inter_both (p q : Nat → Bool) (w : World) : Calls Tryd.prog 46 #[Value.agg #[.int .u64 (wd (p) 0 : Nat), .int .u64 (wd (p) 1 : Nat), .int .u64 (wd (p) 2 : Nat), .int .u64 (wd (p) 3 : Nat), .int .u64 (wd (p) 4 : Nat), .int .u64 (wd (p) 5 : Nat), .int .u64 (wd (p) 6 : Nat), .int .u64 (wd (p) 7 : Nat)], Value.agg #[.int .u64 (wd (q) 0 : Nat), .int .u64 (wd (q) 1 : Nat), .int .u64 (wd (q) 2 : Nat), .int .u64 (wd (q) 3 : Nat), .int .u64 (wd (q) 4 : Nat), .int .u64 (wd (q) 5 : Nat), .int .u64 (wd (q) 6 : Nat), .int .u64 (wd (q) 7 : Nat)], .func (.func 47) #[] #[]] w fun e w' => e = .returned (Value.agg #[.int .u64 (wd (andS p q) 0 : Nat), .int .u64 (wd (andS p q) 1 : Nat), .int .u64 (wd (andS p q) 2 : Nat), .int .u64 (wd (andS p q) 3 : Nat), .int .u64 (wd (andS p q) 4 : Nat), .int .u64 (wd (andS p q) 5 : Nat), .int .u64 (wd (andS p q) 6 : Nat), .int .u64 (wd (andS p q) 7 : Nat)]) ∧ Ext w w' := by
  obtain ⟨r, hr⟩ : ∃ r, r = andS p q := ⟨_, rfl⟩
  have HR := Lib.hid hr
  rw [← hr]
  clear hr
  go_enter Tryd.func46, Tryd.ntmps46
  go_wp2_with fail
  go_loopw [8] (fun v8 wr => ∃ j : Nat, v8 = .int .i64 j ∧ j ≤ 8 ∧ Hid (Arr wr w.heap.size (upS p r j)) ∧ Hid (Arr wr (w.heap.size + 1) q) ∧ Hid (Arr wr (w.heap.size + 2) (fun _ => false)) ∧ Ext w wr ∧ w.heap.size + 2 < wr.heap.size) (fun v8 _ => 8 - (intOf v8).toNat)
  case atStart =>
    refine ⟨0, rfl, by omega, ?_, ?_, ?_, by (repeat (first | assumption | exact Ext.refl _ | apply Ext.alloc | apply Ext.drew | apply Ext.drewN | refine Ext.set ?_ (by first | exact Nat.le_refl _ | assumption | exact Nat.le_succ _ | exact Nat.le_add_right _ _ | exact Nat.le_trans (Nat.le_succ _) (Nat.le_succ _) | omega) _ | refine Ext.trans ?_ (by assumption))), by simp⟩
    · have h := ((Arr.made (W := w) (e := 24) p rfl).old (o := .cells #[Value.int .u64 (wd (q) 0 : Nat), .int .u64 (wd (q) 1 : Nat), .int .u64 (wd (q) 2 : Nat), .int .u64 (wd (q) 3 : Nat), .int .u64 (wd (q) 4 : Nat), .int .u64 (wd (q) 5 : Nat), .int .u64 (wd (q) 6 : Nat), .int .u64 (wd (q) 7 : Nat)] 24) (by simp)).old (o := .cells #[Value.int .u64 0, .int .u64 0, .int .u64 0, .int .u64 0, .int .u64 0, .int .u64 0, .int .u64 0, .int .u64 0] 24) (by simp; omega)
      exact Lib.hid (fun k hk => by rw [up_ge _ _ (Nat.zero_le _)]; exact h k hk)
    · exact Lib.hid ((Arr.made q (by simp)).old (by simp))
    · exact Lib.hid (Arr.zero (by simp))
  case round =>
    obtain ⟨j, rfl, hj, HA, HB, HZ, he, hbw⟩ := hrel
    by_cases hlt : j < 8
    · obtain ⟨hw, hf⟩ := HA.out j hlt
      obtain ⟨hw2, hf2⟩ := HB.out j hlt
      rw [up_ge _ _ (Nat.le_refl _)] at hw
      have HA' := Lib.hid (HA.out.up hlt)
      have HB' : Hid (Arr (wr.setCell ⟨w.heap.size, j, none⟩ (.int .u64 (wd r j : Nat))) (w.heap.size + 1) q) := HB.out.other (by omega)
      have HZ' : Hid (Arr (wr.setCell ⟨w.heap.size, j, none⟩ (.int .u64 (wd r j : Nat))) (w.heap.size + 2) (fun _ => false)) := HZ.out.other (by omega)
      have HE' : Hid (Ext w (wr.setCell ⟨w.heap.size, j, none⟩ (.int .u64 (wd r j : Nat)))) := he.set (Nat.le_refl _) _
      have HC := Lib.hid (inter_word p q j)
      rw [← HR.out] at HC
      go_wp2_with fail
      go_region_with ((go_at_call 47; (with_reducible refine (HC.out _).mono ?_); rintro e w' ⟨rfl, hw⟩; obtain rfl := hw.symm))
      all_goals
        go_wp2_with fail
        go_roundw
        case rel => exact ⟨j + 1, by go_num, by omega, Lib.hid HA'.out.drew, Lib.hid HB'.out.drew, Lib.hid HZ'.out.drew, HE'.out.drew, by simpa using hbw⟩
        case measure => simp [intOf]; omega
    · have hj' : j = 8 := by omega
      subst hj'
      replace HA := Lib.hid HA.out.all
      have H__ := (HA).out; obtain ⟨ce0, fe0⟩ := H__ 0 (by omega); obtain ⟨ce1, fe1⟩ := H__ 1 (by omega); obtain ⟨ce2, fe2⟩ := H__ 2 (by omega); obtain ⟨ce3, fe3⟩ := H__ 3 (by omega); obtain ⟨ce4, fe4⟩ := H__ 4 (by omega); obtain ⟨ce5, fe5⟩ := H__ 5 (by omega); obtain ⟨ce6, fe6⟩ := H__ 6 (by omega); obtain ⟨ce7, fe7⟩ := H__ 7 (by omega); clear H__
      have H__ := (HZ).out; obtain ⟨de0, ge0⟩ := H__ 0 (by omega); obtain ⟨de1, ge1⟩ := H__ 1 (by omega); obtain ⟨de2, ge2⟩ := H__ 2 (by omega); obtain ⟨de3, ge3⟩ := H__ 3 (by omega); obtain ⟨de4, ge4⟩ := H__ 4 (by omega); obtain ⟨de5, ge5⟩ := H__ 5 (by omega); obtain ⟨de6, ge6⟩ := H__ 6 (by omega); obtain ⟨de7, ge7⟩ := H__ 7 (by omega); clear H__
      have HEX : Hid (Ext w ((((((((wr.setCell ⟨w.heap.size + 2, 0, none⟩ (.int .u64 (wd (r) 0 : Nat))).setCell ⟨w.heap.size + 2, 1, none⟩ (.int .u64 (wd (r) 1 : Nat))).setCell ⟨w.heap.size + 2, 2, none⟩ (.int .u64 (wd (r) 2 : Nat))).setCell ⟨w.heap.size + 2, 3, none⟩ (.int .u64 (wd (r) 3 : Nat))).setCell ⟨w.heap.size + 2, 4, none⟩ (.int .u64 (wd (r) 4 : Nat))).setCell ⟨w.heap.size + 2, 5, none⟩ (.int .u64 (wd (r) 5 : Nat))).setCell ⟨w.heap.size + 2, 6, none⟩ (.int .u64 (wd (r) 6 : Nat))).setCell ⟨w.heap.size + 2, 7, none⟩ (.int .u64 (wd (r) 7 : Nat)))) := ((((((((he.set (by first | exact Nat.le_refl _ | exact Nat.le_succ _ | exact Nat.le_add_right _ _ | exact Nat.le_trans (Nat.le_succ _) (Nat.le_succ _) | omega) _).set (by first | exact Nat.le_refl _ | exact Nat.le_succ _ | exact Nat.le_add_right _ _ | exact Nat.le_trans (Nat.le_succ _) (Nat.le_succ _) | omega) _).set (by first | exact Nat.le_refl _ | exact Nat.le_succ _ | exact Nat.le_add_right _ _ | exact Nat.le_trans (Nat.le_succ _) (Nat.le_succ _) | omega) _).set (by first | exact Nat.le_refl _ | exact Nat.le_succ _ | exact Nat.le_add_right _ _ | exact Nat.le_trans (Nat.le_succ _) (Nat.le_succ _) | omega) _).set (by first | exact Nat.le_refl _ | exact Nat.le_succ _ | exact Nat.le_add_right _ _ | exact Nat.le_trans (Nat.le_succ _) (Nat.le_succ _) | omega) _).set (by first | exact Nat.le_refl _ | exact Nat.le_succ _ | exact Nat.le_add_right _ _ | exact Nat.le_trans (Nat.le_succ _) (Nat.le_succ _) | omega) _).set (by first | exact Nat.le_refl _ | exact Nat.le_succ _ | exact Nat.le_add_right _ _ | exact Nat.le_trans (Nat.le_succ _) (Nat.le_succ _) | omega) _).set (by first | exact Nat.le_refl _ | exact Nat.le_succ _ | exact Nat.le_add_right _ _ | exact Nat.le_trans (Nat.le_succ _) (Nat.le_succ _) | omega) _)
      go_wp2_with fail
      exact bodyPost_ret (v := Value.agg #[.int .u64 (wd (r) 0 : Nat), .int .u64 (wd (r) 1 : Nat), .int .u64 (wd (r) 2 : Nat), .int .u64 (wd (r) 3 : Nat), .int .u64 (wd (r) 4 : Nat), .int .u64 (wd (r) 5 : Nat), .int .u64 (wd (r) 6 : Nat), .int .u64 (wd (r) 7 : Nat)]) (by simp [results, Tryd.results46, go_sem, *]) rfl ⟨rfl, HEX⟩
set_option maxHeartbeats 2000000 in
theorem inter_calls (p q : Nat → Bool) (w : World) : Calls Tryd.prog 34 #[Value.agg #[.int .u64 (wd (p) 0 : Nat), .int .u64 (wd (p) 1 : Nat), .int .u64 (wd (p) 2 : Nat), .int .u64 (wd (p) 3 : Nat), .int .u64 (wd (p) 4 : Nat), .int .u64 (wd (p) 5 : Nat), .int .u64 (wd (p) 6 : Nat), .int .u64 (wd (p) 7 : Nat)], Value.agg #[.int .u64 (wd (q) 0 : Nat), .int .u64 (wd (q) 1 : Nat), .int .u64 (wd (q) 2 : Nat), .int .u64 (wd (q) 3 : Nat), .int .u64 (wd (q) 4 : Nat), .int .u64 (wd (q) 5 : Nat), .int .u64 (wd (q) 6 : Nat), .int .u64 (wd (q) 7 : Nat)]] w fun e w' => e = .returned (Value.agg #[.int .u64 (wd (andS p q) 0 : Nat), .int .u64 (wd (andS p q) 1 : Nat), .int .u64 (wd (andS p q) 2 : Nat), .int .u64 (wd (andS p q) 3 : Nat), .int .u64 (wd (andS p q) 4 : Nat), .int .u64 (wd (andS p q) 5 : Nat), .int .u64 (wd (andS p q) 6 : Nat), .int .u64 (wd (andS p q) 7 : Nat)]) ∧ Ext w w' := by
  have HZ : Hid (Arr (((w.alloc (.cells #[Value.int .u64 (wd (p) 0 : Nat), .int .u64 (wd (p) 1 : Nat), .int .u64 (wd (p) 2 : Nat), .int .u64 (wd (p) 3 : Nat), .int .u64 (wd (p) 4 : Nat), .int .u64 (wd (p) 5 : Nat), .int .u64 (wd (p) 6 : Nat), .int .u64 (wd (p) 7 : Nat)] 24)).alloc (.cells #[Value.int .u64 (wd (q) 0 : Nat), .int .u64 (wd (q) 1 : Nat), .int .u64 (wd (q) 2 : Nat), .int .u64 (wd (q) 3 : Nat), .int .u64 (wd (q) 4 : Nat), .int .u64 (wd (q) 5 : Nat), .int .u64 (wd (q) 6 : Nat), .int .u64 (wd (q) 7 : Nat)] 24)).alloc (.cells #[Value.int .u64 0, .int .u64 0, .int .u64 0, .int .u64 0, .int .u64 0, .int .u64 0, .int .u64 0, .int .u64 0] 24)) (w.heap.size + 2) (fun _ => false)) := Lib.hid (Arr.zero (by simp))
  have HS : Hid (w.heap.size + 2 < (((w.alloc (.cells #[Value.int .u64 (wd (p) 0 : Nat), .int .u64 (wd (p) 1 : Nat), .int .u64 (wd (p) 2 : Nat), .int .u64 (wd (p) 3 : Nat), .int .u64 (wd (p) 4 : Nat), .int .u64 (wd (p) 5 : Nat), .int .u64 (wd (p) 6 : Nat), .int .u64 (wd (p) 7 : Nat)] 24)).alloc (.cells #[Value.int .u64 (wd (q) 0 : Nat), .int .u64 (wd (q) 1 : Nat), .int .u64 (wd (q) 2 : Nat), .int .u64 (wd (q) 3 : Nat), .int .u64 (wd (q) 4 : Nat), .int .u64 (wd (q) 5 : Nat), .int .u64 (wd (q) 6 : Nat), .int .u64 (wd (q) 7 : Nat)] 24)).alloc (.cells #[Value.int .u64 0, .int .u64 0, .int .u64 0, .int .u64 0, .int .u64 0, .int .u64 0, .int .u64 0, .int .u64 0] 24)).heap.size) := by show _ < _; simp
  have HX : Hid (Ext w (((w.alloc (.cells #[Value.int .u64 (wd (p) 0 : Nat), .int .u64 (wd (p) 1 : Nat), .int .u64 (wd (p) 2 : Nat), .int .u64 (wd (p) 3 : Nat), .int .u64 (wd (p) 4 : Nat), .int .u64 (wd (p) 5 : Nat), .int .u64 (wd (p) 6 : Nat), .int .u64 (wd (p) 7 : Nat)] 24)).alloc (.cells #[Value.int .u64 (wd (q) 0 : Nat), .int .u64 (wd (q) 1 : Nat), .int .u64 (wd (q) 2 : Nat), .int .u64 (wd (q) 3 : Nat), .int .u64 (wd (q) 4 : Nat), .int .u64 (wd (q) 5 : Nat), .int .u64 (wd (q) 6 : Nat), .int .u64 (wd (q) 7 : Nat)] 24)).alloc (.cells #[Value.int .u64 0, .int .u64 0, .int .u64 0, .int .u64 0, .int .u64 0, .int .u64 0, .int .u64 0, .int .u64 0] 24))) := by show Ext _ _; (repeat (first | assumption | exact Ext.refl _ | apply Ext.alloc | apply Ext.drew | apply Ext.drewN | refine Ext.set ?_ (by first | exact Nat.le_refl _ | assumption | exact Nat.le_succ _ | exact Nat.le_add_right _ _ | exact Nat.le_trans (Nat.le_succ _) (Nat.le_succ _) | omega) _ | refine Ext.trans ?_ (by assumption)))
  obtain ⟨r, hr⟩ : ∃ r, r = andS p q := ⟨_, rfl⟩
  have HR := Lib.hid hr
  have HC := Lib.hid (inter_both p q)
  rw [← hr] at HC ⊢
  clear hr
  go_enter Tryd.func34, Tryd.ntmps34
  go_wp2_with ((go_at_call 46; (with_reducible refine (HC.out _).mono ?_); rintro e w1 ⟨rfl, h1⟩); (replace HZ := Lib.hid (HZ.out.ext h1 HS.out)); (replace HX := Lib.hid (HX.out.trans h1)); clear h1; have H__ := (HZ).out; obtain ⟨ce0, fe0⟩ := H__ 0 (by omega); obtain ⟨ce1, fe1⟩ := H__ 1 (by omega); obtain ⟨ce2, fe2⟩ := H__ 2 (by omega); obtain ⟨ce3, fe3⟩ := H__ 3 (by omega); obtain ⟨ce4, fe4⟩ := H__ 4 (by omega); obtain ⟨ce5, fe5⟩ := H__ 5 (by omega); obtain ⟨ce6, fe6⟩ := H__ 6 (by omega); obtain ⟨ce7, fe7⟩ := H__ 7 (by omega); clear H__)
  have HEX : Hid (Ext w ((((((((w1.setCell ⟨w.heap.size + 2, 0, none⟩ (.int .u64 (wd (r) 0 : Nat))).setCell ⟨w.heap.size + 2, 1, none⟩ (.int .u64 (wd (r) 1 : Nat))).setCell ⟨w.heap.size + 2, 2, none⟩ (.int .u64 (wd (r) 2 : Nat))).setCell ⟨w.heap.size + 2, 3, none⟩ (.int .u64 (wd (r) 3 : Nat))).setCell ⟨w.heap.size + 2, 4, none⟩ (.int .u64 (wd (r) 4 : Nat))).setCell ⟨w.heap.size + 2, 5, none⟩ (.int .u64 (wd (r) 5 : Nat))).setCell ⟨w.heap.size + 2, 6, none⟩ (.int .u64 (wd (r) 6 : Nat))).setCell ⟨w.heap.size + 2, 7, none⟩ (.int .u64 (wd (r) 7 : Nat)))) := ((((((((HX.out.set (by first | exact Nat.le_refl _ | exact Nat.le_succ _ | exact Nat.le_add_right _ _ | exact Nat.le_trans (Nat.le_succ _) (Nat.le_succ _) | omega) _).set (by first | exact Nat.le_refl _ | exact Nat.le_succ _ | exact Nat.le_add_right _ _ | exact Nat.le_trans (Nat.le_succ _) (Nat.le_succ _) | omega) _).set (by first | exact Nat.le_refl _ | exact Nat.le_succ _ | exact Nat.le_add_right _ _ | exact Nat.le_trans (Nat.le_succ _) (Nat.le_succ _) | omega) _).set (by first | exact Nat.le_refl _ | exact Nat.le_succ _ | exact Nat.le_add_right _ _ | exact Nat.le_trans (Nat.le_succ _) (Nat.le_succ _) | omega) _).set (by first | exact Nat.le_refl _ | exact Nat.le_succ _ | exact Nat.le_add_right _ _ | exact Nat.le_trans (Nat.le_succ _) (Nat.le_succ _) | omega) _).set (by first | exact Nat.le_refl _ | exact Nat.le_succ _ | exact Nat.le_add_right _ _ | exact Nat.le_trans (Nat.le_succ _) (Nat.le_succ _) | omega) _).set (by first | exact Nat.le_refl _ | exact Nat.le_succ _ | exact Nat.le_add_right _ _ | exact Nat.le_trans (Nat.le_succ _) (Nat.le_succ _) | omega) _).set (by first | exact Nat.le_refl _ | exact Nat.le_succ _ | exact Nat.le_add_right _ _ | exact Nat.le_trans (Nat.le_succ _) (Nat.le_succ _) | omega) _)
  exact bodyPost_ret (v := Value.agg #[.int .u64 (wd (r) 0 : Nat), .int .u64 (wd (r) 1 : Nat), .int .u64 (wd (r) 2 : Nat), .int .u64 (wd (r) 3 : Nat), .int .u64 (wd (r) 4 : Nat), .int .u64 (wd (r) 5 : Nat), .int .u64 (wd (r) 6 : Nat), .int .u64 (wd (r) 7 : Nat)]) (by simp [results, Tryd.results34, go_sem, *]) rfl ⟨rfl, HEX⟩

theorem minus_word (p q : Nat → Bool) (j : Nat) (w : World) : Calls Tryd.prog 49 #[.int .u64 (wd p j : Nat), .int .u64 (wd q j : Nat)] w fun e w' => e = .returned (.int .u64 (wd (subS p q) j : Nat)) ∧ w' = w := by
  have HW : Hid (wd (subS p q) j = _) := (wd_andNot p q j).symm
  have HL := Lib.hid (u64_andNot_nat (wd p j) (wd q j) (wd_lt' _ _) (wd_lt' _ _))
  go_enter Tryd.func49, Tryd.ntmps49
  go_wp2_with fail
  go_ret
  exact ⟨ret_int (by rw [HW.out]; exact HL.out), rfl⟩
set_option maxHeartbeats 2000000 in
set_option maxRecDepth 100000 in
theorem minus_both (p q : Nat → Bool) (w : World) : Calls Tryd.prog 46 #[Value.agg #[.int .u64 (wd (p) 0 : Nat), .int .u64 (wd (p) 1 : Nat), .int .u64 (wd (p) 2 : Nat), .int .u64 (wd (p) 3 : Nat), .int .u64 (wd (p) 4 : Nat), .int .u64 (wd (p) 5 : Nat), .int .u64 (wd (p) 6 : Nat), .int .u64 (wd (p) 7 : Nat)], Value.agg #[.int .u64 (wd (q) 0 : Nat), .int .u64 (wd (q) 1 : Nat), .int .u64 (wd (q) 2 : Nat), .int .u64 (wd (q) 3 : Nat), .int .u64 (wd (q) 4 : Nat), .int .u64 (wd (q) 5 : Nat), .int .u64 (wd (q) 6 : Nat), .int .u64 (wd (q) 7 : Nat)], .func (.func 49) #[] #[]] w fun e w' => e = .returned (Value.agg #[.int .u64 (wd (subS p q) 0 : Nat), .int .u64 (wd (subS p q) 1 : Nat), .int .u64 (wd (subS p q) 2 : Nat), .int .u64 (wd (subS p q) 3 : Nat), .int .u64 (wd (subS p q) 4 : Nat), .int .u64 (wd (subS p q) 5 : Nat), .int .u64 (wd (subS p q) 6 : Nat), .int .u64 (wd (subS p q) 7 : Nat)]) ∧ Ext w w' := by
  obtain ⟨r, hr⟩ : ∃ r, r = subS p q := ⟨_, rfl⟩
  have HR := Lib.hid hr
  rw [← hr]
  clear hr
  go_enter Tryd.func46, Tryd.ntmps46
  go_wp2_with fail
  go_loopw [8] (fun v8 wr => ∃ j : Nat, v8 = .int .i64 j ∧ j ≤ 8 ∧ Hid (Arr wr w.heap.size (upS p r j)) ∧ Hid (Arr wr (w.heap.size + 1) q) ∧ Hid (Arr wr (w.heap.size + 2) (fun _ => false)) ∧ Ext w wr ∧ w.heap.size + 2 < wr.heap.size) (fun v8 _ => 8 - (intOf v8).toNat)
  case atStart =>
    refine ⟨0, rfl, by omega, ?_, ?_, ?_, by (repeat (first | assumption | exact Ext.refl _ | apply Ext.alloc | apply Ext.drew | apply Ext.drewN | refine Ext.set ?_ (by first | exact Nat.le_refl _ | assumption | exact Nat.le_succ _ | exact Nat.le_add_right _ _ | exact Nat.le_trans (Nat.le_succ _) (Nat.le_succ _) | omega) _ | refine Ext.trans ?_ (by assumption))), by simp⟩
    · have h := ((Arr.made (W := w) (e := 24) p rfl).old (o := .cells #[Value.int .u64 (wd (q) 0 : Nat), .int .u64 (wd (q) 1 : Nat), .int .u64 (wd (q) 2 : Nat), .int .u64 (wd (q) 3 : Nat), .int .u64 (wd (q) 4 : Nat), .int .u64 (wd (q) 5 : Nat), .int .u64 (wd (q) 6 : Nat), .int .u64 (wd (q) 7 : Nat)] 24) (by simp)).old (o := .cells #[Value.int .u64 0, .int .u64 0, .int .u64 0, .int .u64 0, .int .u64 0, .int .u64 0, .int .u64 0, .int .u64 0] 24) (by simp; omega)
      exact Lib.hid (fun k hk => by rw [up_ge _ _ (Nat.zero_le _)]; exact h k hk)
    · exact Lib.hid ((Arr.made q (by simp)).old (by simp))
    · exact Lib.hid (Arr.zero (by simp))
  case round =>
    obtain ⟨j, rfl, hj, HA, HB, HZ, he, hbw⟩ := hrel
    by_cases hlt : j < 8
    · obtain ⟨hw, hf⟩ := HA.out j hlt
      obtain ⟨hw2, hf2⟩ := HB.out j hlt
      rw [up_ge _ _ (Nat.le_refl _)] at hw
      have HA' := Lib.hid (HA.out.up hlt)
      have HB' : Hid (Arr (wr.setCell ⟨w.heap.size, j, none⟩ (.int .u64 (wd r j : Nat))) (w.heap.size + 1) q) := HB.out.other (by omega)
      have HZ' : Hid (Arr (wr.setCell ⟨w.heap.size, j, none⟩ (.int .u64 (wd r j : Nat))) (w.heap.size + 2) (fun _ => false)) := HZ.out.other (by omega)
      have HE' : Hid (Ext w (wr.setCell ⟨w.heap.size, j, none⟩ (.int .u64 (wd r j : Nat)))) := he.set (Nat.le_refl _) _
      have HC := Lib.hid (minus_word p q j)
      rw [← HR.out] at HC
      go_wp2_with fail
      go_region_with ((go_at_call 49; (with_reducible refine (HC.out _).mono ?_); rintro e w' ⟨rfl, hw⟩; obtain rfl := hw.symm))
      all_goals
        go_wp2_with fail
        go_roundw
        case rel => exact ⟨j + 1, by go_num, by omega, Lib.hid HA'.out.drew, Lib.hid HB'.out.drew, Lib.hid HZ'.out.drew, HE'.out.drew, by simpa using hbw⟩
        case measure => simp [intOf]; omega
    · have hj' : j = 8 := by omega
      subst hj'
      replace HA := Lib.hid HA.out.all
      have H__ := (HA).out; obtain ⟨ce0, fe0⟩ := H__ 0 (by omega); obtain ⟨ce1, fe1⟩ := H__ 1 (by omega); obtain ⟨ce2, fe2⟩ := H__ 2 (by omega); obtain ⟨ce3, fe3⟩ := H__ 3 (by omega); obtain ⟨ce4, fe4⟩ := H__ 4 (by omega); obtain ⟨ce5, fe5⟩ := H__ 5 (by omega); obtain ⟨ce6, fe6⟩ := H__ 6 (by omega); obtain ⟨ce7, fe7⟩ := H__ 7 (by omega); clear H__
      have H__ := (HZ).out; obtain ⟨de0, ge0⟩ := H__ 0 (by omega); obtain ⟨de1, ge1⟩ := H__ 1 (by omega); obtain ⟨de2, ge2⟩ := H__ 2 (by omega); obtain ⟨de3, ge3⟩ := H__ 3 (by omega); obtain ⟨de4, ge4⟩ := H__ 4 (by omega); obtain ⟨de5, ge5⟩ := H__ 5 (by omega); obtain ⟨de6, ge6⟩ := H__ 6 (by omega); obtain ⟨de7, ge7⟩ := H__ 7 (by omega); clear H__
      have HEX : Hid (Ext w ((((((((wr.setCell ⟨w.heap.size + 2, 0, none⟩ (.int .u64 (wd (r) 0 : Nat))).setCell ⟨w.heap.size + 2, 1, none⟩ (.int .u64 (wd (r) 1 : Nat))).setCell ⟨w.heap.size + 2, 2, none⟩ (.int .u64 (wd (r) 2 : Nat))).setCell ⟨w.heap.size + 2, 3, none⟩ (.int .u64 (wd (r) 3 : Nat))).setCell ⟨w.heap.size + 2, 4, none⟩ (.int .u64 (wd (r) 4 : Nat))).setCell ⟨w.heap.size + 2, 5, none⟩ (.int .u64 (wd (r) 5 : Nat))).setCell ⟨w.heap.size + 2, 6, none⟩ (.int .u64 (wd (r) 6 : Nat))).setCell ⟨w.heap.size + 2, 7, none⟩ (.int .u64 (wd (r) 7 : Nat)))) := ((((((((he.set (by first | exact Nat.le_refl _ | exact Nat.le_succ _ | exact Nat.le_add_right _ _ | exact Nat.le_trans (Nat.le_succ _) (Nat.le_succ _) | omega) _).set (by first | exact Nat.le_refl _ | exact Nat.le_succ _ | exact Nat.le_add_right _ _ | exact Nat.le_trans (Nat.le_succ _) (Nat.le_succ _) | omega) _).set (by first | exact Nat.le_refl _ | exact Nat.le_succ _ | exact Nat.le_add_right _ _ | exact Nat.le_trans (Nat.le_succ _) (Nat.le_succ _) | omega) _).set (by first | exact Nat.le_refl _ | exact Nat.le_succ _ | exact Nat.le_add_right _ _ | exact Nat.le_trans (Nat.le_succ _) (Nat.le_succ _) | omega) _).set (by first | exact Nat.le_refl _ | exact Nat.le_succ _ | exact Nat.le_add_right _ _ | exact Nat.le_trans (Nat.le_succ _) (Nat.le_succ _) | omega) _).set (by first | exact Nat.le_refl _ | exact Nat.le_succ _ | exact Nat.le_add_right _ _ | exact Nat.le_trans (Nat.le_succ _) (Nat.le_succ _) | omega) _).set (by first | exact Nat.le_refl _ | exact Nat.le_succ _ | exact Nat.le_add_right _ _ | exact Nat.le_trans (Nat.le_succ _) (Nat.le_succ _) | omega) _).set (by first | exact Nat.le_refl _ | exact Nat.le_succ _ | exact Nat.le_add_right _ _ | exact Nat.le_trans (Nat.le_succ _) (Nat.le_succ _) | omega) _)
      go_wp2_with fail
      exact bodyPost_ret (v := Value.agg #[.int .u64 (wd (r) 0 : Nat), .int .u64 (wd (r) 1 : Nat), .int .u64 (wd (r) 2 : Nat), .int .u64 (wd (r) 3 : Nat), .int .u64 (wd (r) 4 : Nat), .int .u64 (wd (r) 5 : Nat), .int .u64 (wd (r) 6 : Nat), .int .u64 (wd (r) 7 : Nat)]) (by simp [results, Tryd.results46, go_sem, *]) rfl ⟨rfl, HEX⟩
set_option maxHeartbeats 2000000 in
theorem minus_calls (p q : Nat → Bool) (w : World) : Calls Tryd.prog 36 #[Value.agg #[.int .u64 (wd (p) 0 : Nat), .int .u64 (wd (p) 1 : Nat), .int .u64 (wd (p) 2 : Nat), .int .u64 (wd (p) 3 : Nat), .int .u64 (wd (p) 4 : Nat), .int .u64 (wd (p) 5 : Nat), .int .u64 (wd (p) 6 : Nat), .int .u64 (wd (p) 7 : Nat)], Value.agg #[.int .u64 (wd (q) 0 : Nat), .int .u64 (wd (q) 1 : Nat), .int .u64 (wd (q) 2 : Nat), .int .u64 (wd (q) 3 : Nat), .int .u64 (wd (q) 4 : Nat), .int .u64 (wd (q) 5 : Nat), .int .u64 (wd (q) 6 : Nat), .int .u64 (wd (q) 7 : Nat)]] w fun e w' => e = .returned (Value.agg #[.int .u64 (wd (subS p q) 0 : Nat), .int .u64 (wd (subS p q) 1 : Nat), .int .u64 (wd (subS p q) 2 : Nat), .int .u64 (wd (subS p q) 3 : Nat), .int .u64 (wd (subS p q) 4 : Nat), .int .u64 (wd (subS p q) 5 : Nat), .int .u64 (wd (subS p q) 6 : Nat), .int .u64 (wd (subS p q) 7 : Nat)]) ∧ Ext w w' := by
  have HZ : Hid (Arr (((w.alloc (.cells #[Value.int .u64 (wd (p) 0 : Nat), .int .u64 (wd (p) 1 : Nat), .int .u64 (wd (p) 2 : Nat), .int .u64 (wd (p) 3 : Nat), .int .u64 (wd (p) 4 : Nat), .int .u64 (wd (p) 5 : Nat), .int .u64 (wd (p) 6 : Nat), .int .u64 (wd (p) 7 : Nat)] 24)).alloc (.cells #[Value.int .u64 (wd (q) 0 : Nat), .int .u64 (wd (q) 1 : Nat), .int .u64 (wd (q) 2 : Nat), .int .u64 (wd (q) 3 : Nat), .int .u64 (wd (q) 4 : Nat), .int .u64 (wd (q) 5 : Nat), .int .u64 (wd (q) 6 : Nat), .int .u64 (wd (q) 7 : Nat)] 24)).alloc (.cells #[Value.int .u64 0, .int .u64 0, .int .u64 0, .int .u64 0, .int .u64 0, .int .u64 0, .int .u64 0, .int .u64 0] 24)) (w.heap.size + 2) (fun _ => false)) := Lib.hid (Arr.zero (by simp))
  have HS : Hid (w.heap.size + 2 < (((w.alloc (.cells #[Value.int .u64 (wd (p) 0 : Nat), .int .u64 (wd (p) 1 : Nat), .int .u64 (wd (p) 2 : Nat), .int .u64 (wd (p) 3 : Nat), .int .u64 (wd (p) 4 : Nat), .int .u64 (wd (p) 5 : Nat), .int .u64 (wd (p) 6 : Nat), .int .u64 (wd (p) 7 : Nat)] 24)).alloc (.cells #[Value.int .u64 (wd (q) 0 : Nat), .int .u64 (wd (q) 1 : Nat), .int .u64 (wd (q) 2 : Nat), .int .u64 (wd (q) 3 : Nat), .int .u64 (wd (q) 4 : Nat), .int .u64 (wd (q) 5 : Nat), .int .u64 (wd (q) 6 : Nat), .int .u64 (wd (q) 7 : Nat)] 24)).alloc (.cells #[Value.int .u64 0, .int .u64 0, .int .u64 0, .int .u64 0, .int .u64 0, .int .u64 0, .int .u64 0, .int .u64 0] 24)).heap.size) := by show _ < _; simp
  have HX : Hid (Ext w (((w.alloc (.cells #[Value.int .u64 (wd (p) 0 : Nat), .int .u64 (wd (p) 1 : Nat), .int .u64 (wd (p) 2 : Nat), .int .u64 (wd (p) 3 : Nat), .int .u64 (wd (p) 4 : Nat), .int .u64 (wd (p) 5 : Nat), .int .u64 (wd (p) 6 : Nat), .int .u64 (wd (p) 7 : Nat)] 24)).alloc (.cells #[Value.int .u64 (wd (q) 0 : Nat), .int .u64 (wd (q) 1 : Nat), .int .u64 (wd (q) 2 : Nat), .int .u64 (wd (q) 3 : Nat), .int .u64 (wd (q) 4 : Nat), .int .u64 (wd (q) 5 : Nat), .int .u64 (wd (q) 6 : Nat), .int .u64 (wd (q) 7 : Nat)] 24)).alloc (.cells #[Value.int .u64 0, .int .u64 0, .int .u64 0, .int .u64 0, .int .u64 0, .int .u64 0, .int .u64 0, .int .u64 0] 24))) := by show Ext _ _; (repeat (first | assumption | exact Ext.refl _ | apply Ext.alloc | apply Ext.drew | apply Ext.drewN | refine Ext.set ?_ (by first | exact Nat.le_refl _ | assumption | exact Nat.le_succ _ | exact Nat.le_add_right _ _ | exact Nat.le_trans (Nat.le_succ _) (Nat.le_succ _) | omega) _ | refine Ext.trans ?_ (by assumption)))
  obtain ⟨r, hr⟩ : ∃ r, r = subS p q := ⟨_, rfl⟩
  have HR := Lib.hid hr
  have HC := Lib.hid (minus_both p q)
  rw [← hr] at HC ⊢
  clear hr
  go_enter Tryd.func36, Tryd.ntmps36
  go_wp2_with ((go_at_call 46; (with_reducible refine (HC.out _).mono ?_); rintro e w1 ⟨rfl, h1⟩); (replace HZ := Lib.hid (HZ.out.ext h1 HS.out)); (replace HX := Lib.hid (HX.out.trans h1)); clear h1; have H__ := (HZ).out; obtain ⟨ce0, fe0⟩ := H__ 0 (by omega); obtain ⟨ce1, fe1⟩ := H__ 1 (by omega); obtain ⟨ce2, fe2⟩ := H__ 2 (by omega); obtain ⟨ce3, fe3⟩ := H__ 3 (by omega); obtain ⟨ce4, fe4⟩ := H__ 4 (by omega); obtain ⟨ce5, fe5⟩ := H__ 5 (by omega); obtain ⟨ce6, fe6⟩ := H__ 6 (by omega); obtain ⟨ce7, fe7⟩ := H__ 7 (by omega); clear H__)
  have HEX : Hid (Ext w ((((((((w1.setCell ⟨w.heap.size + 2, 0, none⟩ (.int .u64 (wd (r) 0 : Nat))).setCell ⟨w.heap.size + 2, 1, none⟩ (.int .u64 (wd (r) 1 : Nat))).setCell ⟨w.heap.size + 2, 2, none⟩ (.int .u64 (wd (r) 2 : Nat))).setCell ⟨w.heap.size + 2, 3, none⟩ (.int .u64 (wd (r) 3 : Nat))).setCell ⟨w.heap.size + 2, 4, none⟩ (.int .u64 (wd (r) 4 : Nat))).setCell ⟨w.heap.size + 2, 5, none⟩ (.int .u64 (wd (r) 5 : Nat))).setCell ⟨w.heap.size + 2, 6, none⟩ (.int .u64 (wd (r) 6 : Nat))).setCell ⟨w.heap.size + 2, 7, none⟩ (.int .u64 (wd (r) 7 : Nat)))) := ((((((((HX.out.set (by first | exact Nat.le_refl _ | exact Nat.le_succ _ | exact Nat.le_add_right _ _ | exact Nat.le_trans (Nat.le_succ _) (Nat.le_succ _) | omega) _).set (by first | exact Nat.le_refl _ | exact Nat.le_succ _ | exact Nat.le_add_right _ _ | exact Nat.le_trans (Nat.le_succ _) (Nat.le_succ _) | omega) _).set (by first | exact Nat.le_refl _ | exact Nat.le_succ _ | exact Nat.le_add_right _ _ | exact Nat.le_trans (Nat.le_succ _) (Nat.le_succ _) | omega) _).set (by first | exact Nat.le_refl _ | exact Nat.le_succ _ | exact Nat.le_add_right _ _ | exact Nat.le_trans (Nat.le_succ _) (Nat.le_succ _) | omega) _).set (by first | exact Nat.le_refl _ | exact Nat.le_succ _ | exact Nat.le_add_right _ _ | exact Nat.le_trans (Nat.le_succ _) (Nat.le_succ _) | omega) _).set (by first | exact Nat.le_refl _ | exact Nat.le_succ _ | exact Nat.le_add_right _ _ | exact Nat.le_trans (Nat.le_succ _) (Nat.le_succ _) | omega) _).set (by first | exact Nat.le_refl _ | exact Nat.le_succ _ | exact Nat.le_add_right _ _ | exact Nat.le_trans (Nat.le_succ _) (Nat.le_succ _) | omega) _).set (by first | exact Nat.le_refl _ | exact Nat.le_succ _ | exact Nat.le_add_right _ _ | exact Nat.le_trans (Nat.le_succ _) (Nat.le_succ _) | omega) _)
  exact bodyPost_ret (v := Value.agg #[.int .u64 (wd (r) 0 : Nat), .int .u64 (wd (r) 1 : Nat), .int .u64 (wd (r) 2 : Nat), .int .u64 (wd (r) 3 : Nat), .int .u64 (wd (r) 4 : Nat), .int .u64 (wd (r) 5 : Nat), .int .u64 (wd (r) 6 : Nat), .int .u64 (wd (r) 7 : Nat)]) (by simp [results, Tryd.results36, go_sem, *]) rfl ⟨rfl, HEX⟩
end Go.Proofs.YtbmnjnmpjpdcmaaDoor
