/- Walks of package bits: Below, Subset, Compare. Conditions: none. -/
import Derived.Test.YtbmnjnmpjpdcmaaDoorBitsK
import Derived.Test.YtbmnjnmpjpdcmaaDoorBitsLa
import Derived.Test.YtbmnjnmpjpdcmaaDoorSetEq
namespace Go.Proofs.YtbmnjnmpjpdcmaaDoor
open Go.RowKit Go.Eg

theorem Arr.congr {w : World} {b : Nat} {p p' : Nat → Bool} (h : Arr w b p) (hp : ∀ k, k < 8 → wd p' k = wd p k) : Arr w b p' := fun k hk => by rw [hp k hk]; exact h k hk
theorem lo_full {n j : Nat} (h : 64 * (j + 1) ≤ n) : wd (loS n) j = 18446744073709551615 :=
  word_ext (wd_lt _ _) (by decide) fun b hb => by
    rw [wd_bit, loS, show (18446744073709551615 : Nat) = 2 ^ 64 - 1 from rfl, Nat.testBit_two_pow_sub_one, decide_eq_true (show 64 * j + b < n by omega), Bool.and_true]
theorem lo_part {n j : Nat} (h : 64 * j ≤ n) (h2 : n ≤ 64 * (j + 1)) : wd (loS n) j = 2 ^ (n - 64 * j) - 1 :=
  word_ext (wd_lt _ _) (by have := Nat.pow_le_pow_right (n := 2) (by omega) (show n - 64 * j ≤ 64 by omega); omega) fun b hb => by
    rw [wd_bit, loS, Nat.testBit_two_pow_sub_one, decide_eq_true hb, Bool.true_and]
    congr 1
    exact propext ⟨fun h => by omega, fun h => by omega⟩
theorem lo_none {n j : Nat} (h : n ≤ 64 * j) : wd (loS n) j = 0 := by
  rw [← wd_none j]
  exact wd_congr fun b hb => by unfold loS; exact decide_eq_false (by omega)
set_option maxHeartbeats 2000000 in
set_option maxRecDepth 100000 in
theorem under_calls (n : Nat) (hn : n ≤ 512) (w : World) : Calls Tryd.prog 44 #[.int .i64 (n : Int)] w fun e w' => e = .returned (Value.agg #[.int .u64 (wd (loS n) 0 : Nat), .int .u64 (wd (loS n) 1 : Nat), .int .u64 (wd (loS n) 2 : Nat), .int .u64 (wd (loS n) 3 : Nat), .int .u64 (wd (loS n) 4 : Nat), .int .u64 (wd (loS n) 5 : Nat), .int .u64 (wd (loS n) 6 : Nat), .int .u64 (wd (loS n) 7 : Nat)]) ∧ Ext w w' := by
  go_enter Tryd.func44, Tryd.ntmps44
  go_wp2_with fail
  go_loopw [6] (fun v6 wr => ∃ j : Nat, v6 = .int .i64 j ∧ j ≤ 8 ∧ Hid (Arr wr (w.heap.size + 1) (upS (fun _ => false) (loS n) j)) ∧ Hid (Arr wr w.heap.size (fun _ => false)) ∧ Ext w wr ∧ w.heap.size + 1 < wr.heap.size) (fun v6 _ => 8 - (intOf v6).toNat)
  case atStart =>
    refine ⟨0, rfl, by omega, ?_, Lib.hid ((Arr.zero rfl).old (by simp)), by (repeat (first | assumption | exact Ext.refl _ | apply Ext.alloc | apply Ext.drew | apply Ext.drewN | refine Ext.set ?_ (by first | exact Nat.le_refl _ | assumption | exact Nat.le_succ _ | exact Nat.le_add_right _ _ | exact Nat.le_trans (Nat.le_succ _) (Nat.le_succ _) | omega) _ | refine Ext.trans ?_ (by assumption))), by simp⟩
    exact Lib.hid ((Arr.zero (by simp)).congr (fun k hk => up_ge _ _ (Nat.zero_le _)))
  case round =>
    obtain ⟨j, rfl, hj, HA, HZ, he, hbw⟩ := hrel
    by_cases hlt : j < 8
    · obtain ⟨hw, hf⟩ := HA.out j hlt
      have HA1 := HA.out.up hlt
      by_cases hfull : 64 * (j + 1) ≤ n
      · rw [lo_full hfull] at HA1
        have HA' := Lib.hid HA1
        clear HA1
        have HZ' : Hid (Arr (wr.setCell ⟨w.heap.size + 1, j, none⟩ (.int .u64 ((18446744073709551615 : Nat) : Int))) w.heap.size (fun _ => false)) := HZ.out.other (by omega)
        have HE' : Hid (Ext w (wr.setCell ⟨w.heap.size + 1, j, none⟩ (.int .u64 ((18446744073709551615 : Nat) : Int)))) := he.set (Nat.le_succ _) _
        go_wp2_with fail
        go_roundw
        case rel => exact ⟨j + 1, by go_num, by omega, HA', HZ', HE'.out, by simpa using hbw⟩
        case measure => simp [intOf]; omega
      · by_cases hpart : 64 * j < n
        · obtain ⟨m, hm⟩ : ∃ m, m = 2 ^ (n - 64 * j) := ⟨_, rfl⟩
          have hm2 : m ≤ 9223372036854775808 := by rw [hm]; exact Nat.pow_le_pow_right (n := 2) (by omega) (show n - 64 * j ≤ 63 by omega)
          have hm0 : 0 < m := by rw [hm]; exact Nat.two_pow_pos _
          have hk : ((n : Int) - 64 * (j : Int)).toNat = n - 64 * j := by omega
          have hs0 : IntKind.u64.wrap ((2 : Int) ^ (n - 64 * j)) = (m : Int) := by
            rw [show ((2 : Int) ^ (n - 64 * j)) = (m : Int) by rw [hm]; simp, IntKind.wrap_u64]; omega
          have hs1 : IntKind.u64.wrap ((2 : Int) ^ min (n - 64 * j) 64) = (m : Int) := by
            rw [Nat.min_eq_left (by omega)]; exact hs0
          have hs2 : IntKind.u64.wrap ((m : Int) - 1) = ((wd (loS n) j : Nat) : Int) := by
            rw [lo_part (by omega) (by omega), ← hm, IntKind.wrap_u64]; omega
          have hg0 : (0 : Int) ≤ (n : Int) - 64 * (j : Int) := by omega
          have hg1 : (0 : Int) < (n : Int) - 64 * (j : Int) := by omega
          have hg2 : decide (64 ≤ (n : Int) - 64 * (j : Int)) = false := by simp; omega
          have HA' := Lib.hid HA1
          clear HA1 hm
          have HZ' : Hid (Arr (wr.setCell ⟨w.heap.size + 1, j, none⟩ (.int .u64 ((wd (loS n) j : Nat) : Int))) w.heap.size (fun _ => false)) := HZ.out.other (by omega)
          have HE' : Hid (Ext w (wr.setCell ⟨w.heap.size + 1, j, none⟩ (.int .u64 ((wd (loS n) j : Nat) : Int)))) := he.set (Nat.le_succ _) _
          go_wp2_with fail
          go_roundw
          case rel => exact ⟨j + 1, by go_num, by omega, HA', HZ', HE'.out, by simpa using hbw⟩
          case measure => simp [intOf]; omega
        · have hg1 : decide ((0 : Int) < (n : Int) - 64 * (j : Int)) = false := by simp; omega
          have hg2 : decide (64 ≤ (n : Int) - 64 * (j : Int)) = false := by simp; omega
          have HA' : Hid (Arr wr (w.heap.size + 1) (upS (fun _ => false) (loS n) (j + 1))) := Lib.hid (HA.out.congr (fun k hk => by
            by_cases h1 : k < j
            · rw [up_lt _ _ h1, up_lt _ _ (by omega)]
            · rw [up_ge _ _ (by omega : j ≤ k)]
              by_cases h2 : k = j
              · rw [up_lt _ _ (by omega), h2, lo_none (by omega), wd_none]
              · rw [up_ge _ _ (by omega)]))
          clear HA1
          go_wp2_with fail
          go_roundw
          case rel => exact ⟨j + 1, by go_num, by omega, HA', HZ, he, hbw⟩
          case measure => simp [intOf]; omega
    · have hj' : j = 8 := by omega
      subst hj'
      replace HA := Lib.hid HA.out.all
      have H__ := (HA).out; obtain ⟨ce0, fe0⟩ := H__ 0 (by omega); obtain ⟨ce1, fe1⟩ := H__ 1 (by omega); obtain ⟨ce2, fe2⟩ := H__ 2 (by omega); obtain ⟨ce3, fe3⟩ := H__ 3 (by omega); obtain ⟨ce4, fe4⟩ := H__ 4 (by omega); obtain ⟨ce5, fe5⟩ := H__ 5 (by omega); obtain ⟨ce6, fe6⟩ := H__ 6 (by omega); obtain ⟨ce7, fe7⟩ := H__ 7 (by omega); clear H__
      have H__ := (HZ).out; obtain ⟨de0, ge0⟩ := H__ 0 (by omega); obtain ⟨de1, ge1⟩ := H__ 1 (by omega); obtain ⟨de2, ge2⟩ := H__ 2 (by omega); obtain ⟨de3, ge3⟩ := H__ 3 (by omega); obtain ⟨de4, ge4⟩ := H__ 4 (by omega); obtain ⟨de5, ge5⟩ := H__ 5 (by omega); obtain ⟨de6, ge6⟩ := H__ 6 (by omega); obtain ⟨de7, ge7⟩ := H__ 7 (by omega); clear H__
      have HEX : Hid (Ext w ((((((((wr.setCell ⟨w.heap.size, 0, none⟩ (.int .u64 (wd (loS n) 0 : Nat))).setCell ⟨w.heap.size, 1, none⟩ (.int .u64 (wd (loS n) 1 : Nat))).setCell ⟨w.heap.size, 2, none⟩ (.int .u64 (wd (loS n) 2 : Nat))).setCell ⟨w.heap.size, 3, none⟩ (.int .u64 (wd (loS n) 3 : Nat))).setCell ⟨w.heap.size, 4, none⟩ (.int .u64 (wd (loS n) 4 : Nat))).setCell ⟨w.heap.size, 5, none⟩ (.int .u64 (wd (loS n) 5 : Nat))).setCell ⟨w.heap.size, 6, none⟩ (.int .u64 (wd (loS n) 6 : Nat))).setCell ⟨w.heap.size, 7, none⟩ (.int .u64 (wd (loS n) 7 : Nat)))) := ((((((((he.set (by first | exact Nat.le_refl _ | exact Nat.le_succ _ | exact Nat.le_add_right _ _ | exact Nat.le_trans (Nat.le_succ _) (Nat.le_succ _) | omega) _).set (by first | exact Nat.le_refl _ | exact Nat.le_succ _ | exact Nat.le_add_right _ _ | exact Nat.le_trans (Nat.le_succ _) (Nat.le_succ _) | omega) _).set (by first | exact Nat.le_refl _ | exact Nat.le_succ _ | exact Nat.le_add_right _ _ | exact Nat.le_trans (Nat.le_succ _) (Nat.le_succ _) | omega) _).set (by first | exact Nat.le_refl _ | exact Nat.le_succ _ | exact Nat.le_add_right _ _ | exact Nat.le_trans (Nat.le_succ _) (Nat.le_succ _) | omega) _).set (by first | exact Nat.le_refl _ | exact Nat.le_succ _ | exact Nat.le_add_right _ _ | exact Nat.le_trans (Nat.le_succ _) (Nat.le_succ _) | omega) _).set (by first | exact Nat.le_refl _ | exact Nat.le_succ _ | exact Nat.le_add_right _ _ | exact Nat.le_trans (Nat.le_succ _) (Nat.le_succ _) | omega) _).set (by first | exact Nat.le_refl _ | exact Nat.le_succ _ | exact Nat.le_add_right _ _ | exact Nat.le_trans (Nat.le_succ _) (Nat.le_succ _) | omega) _).set (by first | exact Nat.le_refl _ | exact Nat.le_succ _ | exact Nat.le_add_right _ _ | exact Nat.le_trans (Nat.le_succ _) (Nat.le_succ _) | omega) _)
      go_wp2_with fail
      exact bodyPost_ret (v := Value.agg #[.int .u64 (wd (loS n) 0 : Nat), .int .u64 (wd (loS n) 1 : Nat), .int .u64 (wd (loS n) 2 : Nat), .int .u64 (wd (loS n) 3 : Nat), .int .u64 (wd (loS n) 4 : Nat), .int .u64 (wd (loS n) 5 : Nat), .int .u64 (wd (loS n) 6 : Nat), .int .u64 (wd (loS n) 7 : Nat)]) (by simp [results, Tryd.results44, go_sem, *]) rfl ⟨rfl, HEX⟩
set_option maxHeartbeats 2000000 in
set_option maxRecDepth 100000 in
theorem Below_calls (x : Int) (w : World) : Calls Tryd.prog 33 #[.int .i64 x] w fun e w' => e = .returned (.tuple #[Value.agg #[.int .u64 (wd (belowS x) 0 : Nat), .int .u64 (wd (belowS x) 1 : Nat), .int .u64 (wd (belowS x) 2 : Nat), .int .u64 (wd (belowS x) 3 : Nat), .int .u64 (wd (belowS x) 4 : Nat), .int .u64 (wd (belowS x) 5 : Nat), .int .u64 (wd (belowS x) 6 : Nat), .int .u64 (wd (belowS x) 7 : Nat)], .int .i64 (belowE x)]) ∧ Ext w w' := by
  have HZ : Hid (Arr (w.alloc (.cells #[Value.int .u64 0, .int .u64 0, .int .u64 0, .int .u64 0, .int .u64 0, .int .u64 0, .int .u64 0, .int .u64 0] 24)) w.heap.size (fun _ => false)) := Lib.hid (Arr.zero rfl)
  have HX : Hid (Ext w (w.alloc (.cells #[Value.int .u64 0, .int .u64 0, .int .u64 0, .int .u64 0, .int .u64 0, .int .u64 0, .int .u64 0, .int .u64 0] 24))) := by show Ext _ _; (repeat (first | assumption | exact Ext.refl _ | apply Ext.alloc | apply Ext.drew | apply Ext.drewN | refine Ext.set ?_ (by first | exact Nat.le_refl _ | assumption | exact Nat.le_succ _ | exact Nat.le_add_right _ _ | exact Nat.le_trans (Nat.le_succ _) (Nat.le_succ _) | omega) _ | refine Ext.trans ?_ (by assumption)))
  have HS : Hid (w.heap.size < (w.alloc (.cells #[Value.int .u64 0, .int .u64 0, .int .u64 0, .int .u64 0, .int .u64 0, .int .u64 0, .int .u64 0, .int .u64 0] 24)).heap.size) := by show _ < _; simp
  by_cases h : belowOk x = true
  · have HE : Hid (belowE x = 0) := by show _ = _; unfold belowE; rw [if_pos h]
    have HF : Hid (belowS x = loS x.toNat) := by show _ = _; unfold belowS; rw [if_pos h]
    simp only [belowOk, Bool.and_eq_true, decide_eq_true_eq] at h
    obtain ⟨h0, h1⟩ := h
    obtain ⟨n, hn⟩ : ∃ n : Nat, x = n := ⟨x.toNat, by omega⟩
    subst hn
    rw [Int.toNat_natCast] at HF
    have hn2 : n ≤ 512 := by omega
    clear h0 h1
    go_enter Tryd.func33, Tryd.ntmps33
    go_wp2_with ((go_at_call 44; (with_reducible refine (under_calls n hn2 _).mono ?_); rintro e w1 ⟨rfl, h1⟩); (replace HZ := Lib.hid (HZ.out.ext h1 HS.out)); (replace HX := Lib.hid (HX.out.trans h1)); clear h1; have H__ := (HZ).out; obtain ⟨ce0, fe0⟩ := H__ 0 (by omega); obtain ⟨ce1, fe1⟩ := H__ 1 (by omega); obtain ⟨ce2, fe2⟩ := H__ 2 (by omega); obtain ⟨ce3, fe3⟩ := H__ 3 (by omega); obtain ⟨ce4, fe4⟩ := H__ 4 (by omega); obtain ⟨ce5, fe5⟩ := H__ 5 (by omega); obtain ⟨ce6, fe6⟩ := H__ 6 (by omega); obtain ⟨ce7, fe7⟩ := H__ 7 (by omega); clear H__)
    have HEX : Hid (Ext w ((((((((w1.setCell ⟨w.heap.size, 0, none⟩ (.int .u64 (wd (loS n) 0 : Nat))).setCell ⟨w.heap.size, 1, none⟩ (.int .u64 (wd (loS n) 1 : Nat))).setCell ⟨w.heap.size, 2, none⟩ (.int .u64 (wd (loS n) 2 : Nat))).setCell ⟨w.heap.size, 3, none⟩ (.int .u64 (wd (loS n) 3 : Nat))).setCell ⟨w.heap.size, 4, none⟩ (.int .u64 (wd (loS n) 4 : Nat))).setCell ⟨w.heap.size, 5, none⟩ (.int .u64 (wd (loS n) 5 : Nat))).setCell ⟨w.heap.size, 6, none⟩ (.int .u64 (wd (loS n) 6 : Nat))).setCell ⟨w.heap.size, 7, none⟩ (.int .u64 (wd (loS n) 7 : Nat)))) := ((((((((HX.out.set (by first | exact Nat.le_refl _ | exact Nat.le_succ _ | exact Nat.le_add_right _ _ | exact Nat.le_trans (Nat.le_succ _) (Nat.le_succ _) | omega) _).set (by first | exact Nat.le_refl _ | exact Nat.le_succ _ | exact Nat.le_add_right _ _ | exact Nat.le_trans (Nat.le_succ _) (Nat.le_succ _) | omega) _).set (by first | exact Nat.le_refl _ | exact Nat.le_succ _ | exact Nat.le_add_right _ _ | exact Nat.le_trans (Nat.le_succ _) (Nat.le_succ _) | omega) _).set (by first | exact Nat.le_refl _ | exact Nat.le_succ _ | exact Nat.le_add_right _ _ | exact Nat.le_trans (Nat.le_succ _) (Nat.le_succ _) | omega) _).set (by first | exact Nat.le_refl _ | exact Nat.le_succ _ | exact Nat.le_add_right _ _ | exact Nat.le_trans (Nat.le_succ _) (Nat.le_succ _) | omega) _).set (by first | exact Nat.le_refl _ | exact Nat.le_succ _ | exact Nat.le_add_right _ _ | exact Nat.le_trans (Nat.le_succ _) (Nat.le_succ _) | omega) _).set (by first | exact Nat.le_refl _ | exact Nat.le_succ _ | exact Nat.le_add_right _ _ | exact Nat.le_trans (Nat.le_succ _) (Nat.le_succ _) | omega) _).set (by first | exact Nat.le_refl _ | exact Nat.le_succ _ | exact Nat.le_add_right _ _ | exact Nat.le_trans (Nat.le_succ _) (Nat.le_succ _) | omega) _)
    exact bodyPost_ret (v := .tuple #[Value.agg #[.int .u64 (wd (loS n) 0 : Nat), .int .u64 (wd (loS n) 1 : Nat), .int .u64 (wd (loS n) 2 : Nat), .int .u64 (wd (loS n) 3 : Nat), .int .u64 (wd (loS n) 4 : Nat), .int .u64 (wd (loS n) 5 : Nat), .int .u64 (wd (loS n) 6 : Nat), .int .u64 (wd (loS n) 7 : Nat)], .int .i64 0]) (by simp [results, Tryd.results33, go_sem, *]) rfl ⟨by rw [HF.out, HE.out], HEX⟩
  · have HE : Hid (belowE x = 11) := by show _ = _; unfold belowE; rw [if_neg h]
    have HF : Hid (belowS x = fun _ => false) := by show _ = _; unfold belowS; rw [if_neg h]
    have hx : x < 0 ∨ (decide (x < 0) = false ∧ 512 < x) := by simp [belowOk] at h ⊢; omega
    clear h
    rcases hx with hx | ⟨hx0, hx⟩
    all_goals
      go_enter Tryd.func33, Tryd.ntmps33
      go_wp2_with fail
      exact bodyPost_ret (v := .tuple #[Value.agg #[.int .u64 0, .int .u64 0, .int .u64 0, .int .u64 0, .int .u64 0, .int .u64 0, .int .u64 0, .int .u64 0], .int .i64 11]) (by simp [results, Tryd.results33, go_sem, *]) rfl ⟨by rw [HF.out, HE.out]; simp [wd_none], by (repeat (first | assumption | exact Ext.refl _ | apply Ext.alloc | apply Ext.drew | apply Ext.drewN | refine Ext.set ?_ (by first | exact Nat.le_refl _ | assumption | exact Nat.le_succ _ | exact Nat.le_add_right _ _ | exact Nat.le_trans (Nat.le_succ _) (Nat.le_succ _) | omega) _ | refine Ext.trans ?_ (by assumption)))⟩
theorem subB_iff (p q : Nat → Bool) : ∀ n, subB p q n = true ↔ ∀ i, i < n → subS p q i = false
  | 0 => by simp [subB]
  | n + 1 => by
    unfold subB
    rw [Bool.and_eq_true, subB_iff p q n]
    constructor
    · rintro ⟨h1, h2⟩ i hi
      by_cases e : i = n
      · subst e; unfold subS; revert h2; cases p i <;> cases q i <;> decide
      · exact h1 i (by omega)
    · intro h
      refine ⟨fun i hi => h i (by omega), ?_⟩
      have := h n (by omega)
      unfold subS at this
      revert this; cases p n <;> cases q n <;> decide
theorem zero_iff (r : Nat → Bool) : (∀ j, j < 8 → wd r j = 0) ↔ ∀ i, i < 512 → r i = false := by
  constructor
  · intro h i hi
    exact wd_inj (p := r) (q := fun _ => false) (fun j hj => by rw [h j hj, wd_none]) hi
  · intro h j hj
    rw [← wd_none j]
    exact wd_congr fun b hb => h _ (by omega)
theorem eight (f : Nat → Nat) : ((((f 0 : Nat) : Int) == 0) && ((((f 1 : Nat) : Int) == 0) && ((((f 2 : Nat) : Int) == 0) && ((((f 3 : Nat) : Int) == 0) && ((((f 4 : Nat) : Int) == 0) && ((((f 5 : Nat) : Int) == 0) && ((((f 6 : Nat) : Int) == 0) && (((f 7 : Nat) : Int) == 0)))))))) = true ↔ ∀ j, j < 8 → f j = 0 := by
  simp only [Bool.and_eq_true, beq_iff_eq]
  constructor
  · rintro ⟨h0, h1, h2, h3, h4, h5, h6, h7⟩ j hj
    match j, hj with
    | 0, _ => omega
    | 1, _ => omega
    | 2, _ => omega
    | 3, _ => omega
    | 4, _ => omega
    | 5, _ => omega
    | 6, _ => omega
    | 7, _ => omega
  · intro h
    exact ⟨by rw [h 0 (by omega)]; rfl, by rw [h 1 (by omega)]; rfl, by rw [h 2 (by omega)]; rfl, by rw [h 3 (by omega)]; rfl, by rw [h 4 (by omega)]; rfl, by rw [h 5 (by omega)]; rfl, by rw [h 6 (by omega)]; rfl, by rw [h 7 (by omega)]; rfl⟩
set_option maxHeartbeats 1000000 in
theorem Subset_calls (p q : Nat → Bool) (w : World) : Calls Tryd.prog 13 #[Value.agg #[.int .u64 (wd (p) 0 : Nat), .int .u64 (wd (p) 1 : Nat), .int .u64 (wd (p) 2 : Nat), .int .u64 (wd (p) 3 : Nat), .int .u64 (wd (p) 4 : Nat), .int .u64 (wd (p) 5 : Nat), .int .u64 (wd (p) 6 : Nat), .int .u64 (wd (p) 7 : Nat)], Value.agg #[.int .u64 (wd (q) 0 : Nat), .int .u64 (wd (q) 1 : Nat), .int .u64 (wd (q) 2 : Nat), .int .u64 (wd (q) 3 : Nat), .int .u64 (wd (q) 4 : Nat), .int .u64 (wd (q) 5 : Nat), .int .u64 (wd (q) 6 : Nat), .int .u64 (wd (q) 7 : Nat)]] w fun e w' => e = .returned (.bool (subB p q 512)) ∧ Ext w w' := by
  have heq := eq_set
  have HR : Hid ((∀ j, j < 8 → wd (subS p q) j = 0) ↔ subB p q 512 = true) := by
    show _ ↔ _
    rw [zero_iff, subB_iff]
  go_enter Tryd.func13, Tryd.ntmps13
  go_wp2_with ((go_at_call 36; (with_reducible refine (minus_calls p q _).mono ?_); rintro e w1 ⟨rfl, h1⟩))
  go_ret
  refine ⟨ret_bool ?_, by (repeat (first | assumption | exact Ext.refl _ | apply Ext.alloc | apply Ext.drew | apply Ext.drewN | refine Ext.trans ?_ (by assumption)))⟩
  rw [Bool.eq_iff_iff, eight, HR.out]
set_option maxHeartbeats 2000000 in
set_option maxRecDepth 100000 in
theorem Compare_calls (p q : Nat → Bool) (w : World) : Calls Tryd.prog 37 #[Value.agg #[.int .u64 (wd (p) 0 : Nat), .int .u64 (wd (p) 1 : Nat), .int .u64 (wd (p) 2 : Nat), .int .u64 (wd (p) 3 : Nat), .int .u64 (wd (p) 4 : Nat), .int .u64 (wd (p) 5 : Nat), .int .u64 (wd (p) 6 : Nat), .int .u64 (wd (p) 7 : Nat)], Value.agg #[.int .u64 (wd (q) 0 : Nat), .int .u64 (wd (q) 1 : Nat), .int .u64 (wd (q) 2 : Nat), .int .u64 (wd (q) 3 : Nat), .int .u64 (wd (q) 4 : Nat), .int .u64 (wd (q) 5 : Nat), .int .u64 (wd (q) 6 : Nat), .int .u64 (wd (q) 7 : Nat)]] w fun e w' => e = .returned (.int .i64 (cmpN p q 512)) ∧ Ext w w' := by
  have HB : Hid (Arr ((w.alloc (.cells #[Value.int .u64 (wd (p) 0 : Nat), .int .u64 (wd (p) 1 : Nat), .int .u64 (wd (p) 2 : Nat), .int .u64 (wd (p) 3 : Nat), .int .u64 (wd (p) 4 : Nat), .int .u64 (wd (p) 5 : Nat), .int .u64 (wd (p) 6 : Nat), .int .u64 (wd (p) 7 : Nat)] 24)).alloc (.cells #[Value.int .u64 (wd (q) 0 : Nat), .int .u64 (wd (q) 1 : Nat), .int .u64 (wd (q) 2 : Nat), .int .u64 (wd (q) 3 : Nat), .int .u64 (wd (q) 4 : Nat), .int .u64 (wd (q) 5 : Nat), .int .u64 (wd (q) 6 : Nat), .int .u64 (wd (q) 7 : Nat)] 24)) w.heap.size p) := Lib.hid ((Arr.made p rfl).old (by simp))
  have HC : Hid (Arr ((w.alloc (.cells #[Value.int .u64 (wd (p) 0 : Nat), .int .u64 (wd (p) 1 : Nat), .int .u64 (wd (p) 2 : Nat), .int .u64 (wd (p) 3 : Nat), .int .u64 (wd (p) 4 : Nat), .int .u64 (wd (p) 5 : Nat), .int .u64 (wd (p) 6 : Nat), .int .u64 (wd (p) 7 : Nat)] 24)).alloc (.cells #[Value.int .u64 (wd (q) 0 : Nat), .int .u64 (wd (q) 1 : Nat), .int .u64 (wd (q) 2 : Nat), .int .u64 (wd (q) 3 : Nat), .int .u64 (wd (q) 4 : Nat), .int .u64 (wd (q) 5 : Nat), .int .u64 (wd (q) 6 : Nat), .int .u64 (wd (q) 7 : Nat)] 24)) (w.heap.size + 1) q) := Lib.hid (Arr.made q (by simp))
  have HX : Hid (Ext w ((w.alloc (.cells #[Value.int .u64 (wd (p) 0 : Nat), .int .u64 (wd (p) 1 : Nat), .int .u64 (wd (p) 2 : Nat), .int .u64 (wd (p) 3 : Nat), .int .u64 (wd (p) 4 : Nat), .int .u64 (wd (p) 5 : Nat), .int .u64 (wd (p) 6 : Nat), .int .u64 (wd (p) 7 : Nat)] 24)).alloc (.cells #[Value.int .u64 (wd (q) 0 : Nat), .int .u64 (wd (q) 1 : Nat), .int .u64 (wd (q) 2 : Nat), .int .u64 (wd (q) 3 : Nat), .int .u64 (wd (q) 4 : Nat), .int .u64 (wd (q) 5 : Nat), .int .u64 (wd (q) 6 : Nat), .int .u64 (wd (q) 7 : Nat)] 24))) := by show Ext _ _; (repeat (first | assumption | exact Ext.refl _ | apply Ext.alloc | apply Ext.drew | apply Ext.drewN | refine Ext.set ?_ (by first | exact Nat.le_refl _ | assumption | exact Nat.le_succ _ | exact Nat.le_add_right _ _ | exact Nat.le_trans (Nat.le_succ _) (Nat.le_succ _) | omega) _ | refine Ext.trans ?_ (by assumption)))
  have HS : Hid (w.heap.size + 1 < ((w.alloc (.cells #[Value.int .u64 (wd (p) 0 : Nat), .int .u64 (wd (p) 1 : Nat), .int .u64 (wd (p) 2 : Nat), .int .u64 (wd (p) 3 : Nat), .int .u64 (wd (p) 4 : Nat), .int .u64 (wd (p) 5 : Nat), .int .u64 (wd (p) 6 : Nat), .int .u64 (wd (p) 7 : Nat)] 24)).alloc (.cells #[Value.int .u64 (wd (q) 0 : Nat), .int .u64 (wd (q) 1 : Nat), .int .u64 (wd (q) 2 : Nat), .int .u64 (wd (q) 3 : Nat), .int .u64 (wd (q) 4 : Nat), .int .u64 (wd (q) 5 : Nat), .int .u64 (wd (q) 6 : Nat), .int .u64 (wd (q) 7 : Nat)] 24)).heap.size) := by show _ < _; simp
  obtain ⟨C, hC⟩ : ∃ C, C = cmpN p q 512 := ⟨_, rfl⟩
  have HCC := Lib.hid hC
  rw [← hC]
  clear hC
  go_enter Tryd.func37, Tryd.ntmps37
  go_wp2_with fail
  generalize (w.alloc (.cells #[Value.int .u64 (wd (p) 0 : Nat), .int .u64 (wd (p) 1 : Nat), .int .u64 (wd (p) 2 : Nat), .int .u64 (wd (p) 3 : Nat), .int .u64 (wd (p) 4 : Nat), .int .u64 (wd (p) 5 : Nat), .int .u64 (wd (p) 6 : Nat), .int .u64 (wd (p) 7 : Nat)] 24)).alloc (.cells #[Value.int .u64 (wd (q) 0 : Nat), .int .u64 (wd (q) 1 : Nat), .int .u64 (wd (q) 2 : Nat), .int .u64 (wd (q) 3 : Nat), .int .u64 (wd (q) 4 : Nat), .int .u64 (wd (q) 5 : Nat), .int .u64 (wd (q) 6 : Nat), .int .u64 (wd (q) 7 : Nat)] 24) = W at *
  have hbs := HS.out
  go_loopw [5] (fun v5 wr => ∃ k : Nat, v5 = .int .i64 ((k : Int) - 1) ∧ k ≤ 8 ∧ Hid (C = cmpN p q (64 * k)) ∧ Ext W wr) (fun v5 _ => (intOf v5 + 1).toNat)
  case atStart => exact ⟨8, rfl, by omega, HCC, Ext.refl _⟩
  case round =>
    obtain ⟨k, rfl, hi, HT, he⟩ := hrel
    by_cases hlt : 0 < k
    · obtain ⟨j, rfl⟩ : ∃ j, k = j + 1 := ⟨k - 1, by omega⟩
      rw [show (((j + 1 : Nat) : Int) - 1) = (j : Int) by omega]
      obtain ⟨hw1, -⟩ := (HB.out.ext he (by omega)) j (by omega)
      obtain ⟨hw2, -⟩ := (HC.out.ext he (by omega)) j (by omega)
      replace HT := Lib.hid (HT.out.trans (cmp_word p q j))
      clear HCC
      have hj0 : (0 : Int) ≤ (j : Int) := by omega
      have hj1 : (j : Int) < 8 := by omega
      generalize wd p j = a at *
      generalize wd q j = b at *
      by_cases h1 : a < b
      · replace HT := Lib.hid (HT.out.trans (if_pos h1))
        go_wp2_with fail
        go_quiet (fail)
        go_wp2_with fail
        go_ret
        exact ⟨ret_int HT.out.symm, HX.out.trans (by (repeat (first | assumption | exact Ext.refl _ | apply Ext.alloc | apply Ext.drew | apply Ext.drewN | refine Ext.trans ?_ (by assumption))))⟩
      · replace HT := Lib.hid (HT.out.trans (if_neg h1))
        have h1' : decide (a < b) = false := by simp; omega
        by_cases h2 : b < a
        · replace HT := Lib.hid (HT.out.trans (if_pos h2))
          clear h1
          go_wp2_with fail
          go_quiet (fail)
          go_wp2_with fail
          go_quiet (fail)
          go_wp2_with fail
          go_ret
          exact ⟨ret_int HT.out.symm, HX.out.trans (by (repeat (first | assumption | exact Ext.refl _ | apply Ext.alloc | apply Ext.drew | apply Ext.drewN | refine Ext.trans ?_ (by assumption))))⟩
        · replace HT := Lib.hid (HT.out.trans (if_neg h2))
          have h2' : decide (b < a) = false := by simp; omega
          clear h1 h2
          go_wp2_with fail
          go_quiet (fail)
          go_wp2_with fail
          go_quiet (fail)
          go_wp2_with fail
          go_roundw
          case rel => exact ⟨j, val_int (by omega), by omega, HT, by (repeat (first | assumption | exact Ext.refl _ | apply Ext.alloc | apply Ext.drew | apply Ext.drewN | refine Ext.trans ?_ (by assumption)))⟩
          case measure => simp [intOf]; try omega
    · have hk : k = 0 := by omega
      subst hk
      go_wp2_with fail
      go_ret
      exact ⟨ret_int HT.out.symm, HX.out.trans he⟩
end Go.Proofs.YtbmnjnmpjpdcmaaDoor
