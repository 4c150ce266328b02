/- Part 2 of what the proofs of this seat share: BitsM, LookM, MatS, MatC, MatD, MatE, MatF, MatG, LowM, EachA, EachD, EachE, MatH, MatI, MatJ, MatK, MatN, EgClip, MatO, MatP, RefA, MatQ, MatT, MatU. Conditions: none beyond those that each theorem names. -/
import Derived.StillTailTactics
import Derived.Lib.TrailingZeros
import Derived.Shelf.Spec.TrailingZeros
import Derived.Deep.RegionHeld3
import Derived.Maps.Own
import Derived.Deep.Cut
import Derived.Test.YtdeppnamhdbbhaaDoorZ1
namespace Go.Proofs.YtdeppnamhdbbhaaDoor
open Go.RowKit Go.Eg

theorem Arr.congr {w : World} {b : Nat} {p p' : Nat → Bool} (h : Arr w b p) (hp : ∀ k, k < 8 → wd p' k = wd p k) : Arr w b p' := fun k hk => by rw [hp k hk]; exact h k hk
theorem lo_full {n j : Nat} (h : 64 * (j + 1) ≤ n) : wd (loS n) j = 18446744073709551615 :=
  word_ext (wd_lt _ _) (by decide) fun b hb => by
    rw [wd_bit, loS, show (18446744073709551615 : Nat) = 2 ^ 64 - 1 from rfl, Nat.testBit_two_pow_sub_one, decide_eq_true (show 64 * j + b < n by omega), Bool.and_true]
theorem lo_part {n j : Nat} (h : 64 * j ≤ n) (h2 : n ≤ 64 * (j + 1)) : wd (loS n) j = 2 ^ (n - 64 * j) - 1 :=
  word_ext (wd_lt _ _) (by have := Nat.pow_le_pow_right (n := 2) (by omega) (show n - 64 * j ≤ 64 by omega); omega) fun b hb => by
    rw [wd_bit, loS, Nat.testBit_two_pow_sub_one, decide_eq_true hb, Bool.true_and]
    congr 1
    exact propext ⟨fun h => by omega, fun h => by omega⟩
theorem lo_none {n j : Nat} (h : n ≤ 64 * j) : wd (loS n) j = 0 := by
  rw [← wd_none j]
  exact wd_congr fun b hb => by unfold loS; exact decide_eq_false (by omega)
set_option maxHeartbeats 2000000 in
set_option maxRecDepth 100000 in
theorem under_calls (n : Nat) (hn : n ≤ 512) (w : World) : Calls Tryd.prog 80 #[.int .i64 (n : Int)] w fun e w' => e = .returned (Value.agg #[.int .u64 (wd (loS n) 0 : Nat), .int .u64 (wd (loS n) 1 : Nat), .int .u64 (wd (loS n) 2 : Nat), .int .u64 (wd (loS n) 3 : Nat), .int .u64 (wd (loS n) 4 : Nat), .int .u64 (wd (loS n) 5 : Nat), .int .u64 (wd (loS n) 6 : Nat), .int .u64 (wd (loS n) 7 : Nat)]) ∧ Ext w w' := by
  go_enter Tryd.func80, Tryd.ntmps80
  go_wp2_with fail
  go_loopw [6] (fun v6 wr => ∃ j : Nat, v6 = .int .i64 j ∧ j ≤ 8 ∧ Hid (Arr wr (w.heap.size + 1) (upS (fun _ => false) (loS n) j)) ∧ Hid (Arr wr w.heap.size (fun _ => false)) ∧ Ext w wr ∧ w.heap.size + 1 < wr.heap.size) (fun v6 _ => 8 - (intOf v6).toNat)
  case atStart =>
    refine ⟨0, rfl, by omega, ?_, Lib.hid ((Arr.zero rfl).old (by simp)), by (repeat (first | assumption | exact Ext.refl _ | apply Ext.alloc | apply Ext.drew | apply Ext.drewN | refine Ext.set ?_ (by first | exact Nat.le_refl _ | assumption | exact Nat.le_succ _ | exact Nat.le_add_right _ _ | exact Nat.le_trans (Nat.le_succ _) (Nat.le_succ _) | omega) _ | refine Ext.trans ?_ (by assumption))), by simp⟩
    exact Lib.hid ((Arr.zero (by simp)).congr (fun k hk => up_ge _ _ (Nat.zero_le _)))
  case round =>
    obtain ⟨j, rfl, hj, HA, HZ, he, hbw⟩ := hrel
    by_cases hlt : j < 8
    · obtain ⟨hw, hf⟩ := HA.out j hlt
      have HA1 := HA.out.up hlt
      by_cases hfull : 64 * (j + 1) ≤ n
      · rw [lo_full hfull] at HA1
        have HA' := Lib.hid HA1
        clear HA1
        have HZ' : Hid (Arr (wr.setCell ⟨w.heap.size + 1, j, none⟩ (.int .u64 ((18446744073709551615 : Nat) : Int))) w.heap.size (fun _ => false)) := HZ.out.other (by omega)
        have HE' : Hid (Ext w (wr.setCell ⟨w.heap.size + 1, j, none⟩ (.int .u64 ((18446744073709551615 : Nat) : Int)))) := he.set (Nat.le_succ _) _
        go_wp2_with fail
        go_roundw
        case rel => exact ⟨j + 1, by go_num, by omega, HA', HZ', HE'.out, by simpa using hbw⟩
        case measure => simp [intOf]; omega
      · by_cases hpart : 64 * j < n
        · obtain ⟨m, hm⟩ : ∃ m, m = 2 ^ (n - 64 * j) := ⟨_, rfl⟩
          have hm2 : m ≤ 9223372036854775808 := by rw [hm]; exact Nat.pow_le_pow_right (n := 2) (by omega) (show n - 64 * j ≤ 63 by omega)
          have hm0 : 0 < m := by rw [hm]; exact Nat.two_pow_pos _
          have hk : ((n : Int) - 64 * (j : Int)).toNat = n - 64 * j := by omega
          have hs0 : IntKind.u64.wrap ((2 : Int) ^ (n - 64 * j)) = (m : Int) := by
            rw [show ((2 : Int) ^ (n - 64 * j)) = (m : Int) by rw [hm]; simp, IntKind.wrap_u64]; omega
          have hs1 : IntKind.u64.wrap ((2 : Int) ^ min (n - 64 * j) 64) = (m : Int) := by
            rw [Nat.min_eq_left (by omega)]; exact hs0
          have hs2 : IntKind.u64.wrap ((m : Int) - 1) = ((wd (loS n) j : Nat) : Int) := by
            rw [lo_part (by omega) (by omega), ← hm, IntKind.wrap_u64]; omega
          have hg0 : (0 : Int) ≤ (n : Int) - 64 * (j : Int) := by omega
          have hg1 : (0 : Int) < (n : Int) - 64 * (j : Int) := by omega
          have hg2 : decide (64 ≤ (n : Int) - 64 * (j : Int)) = false := by simp; omega
          have HA' := Lib.hid HA1
          clear HA1 hm
          have HZ' : Hid (Arr (wr.setCell ⟨w.heap.size + 1, j, none⟩ (.int .u64 ((wd (loS n) j : Nat) : Int))) w.heap.size (fun _ => false)) := HZ.out.other (by omega)
          have HE' : Hid (Ext w (wr.setCell ⟨w.heap.size + 1, j, none⟩ (.int .u64 ((wd (loS n) j : Nat) : Int)))) := he.set (Nat.le_succ _) _
          go_wp2_with fail
          go_roundw
          case rel => exact ⟨j + 1, by go_num, by omega, HA', HZ', HE'.out, by simpa using hbw⟩
          case measure => simp [intOf]; omega
        · have hg1 : decide ((0 : Int) < (n : Int) - 64 * (j : Int)) = false := by simp; omega
          have hg2 : decide (64 ≤ (n : Int) - 64 * (j : Int)) = false := by simp; omega
          have HA' : Hid (Arr wr (w.heap.size + 1) (upS (fun _ => false) (loS n) (j + 1))) := Lib.hid (HA.out.congr (fun k hk => by
            by_cases h1 : k < j
            · rw [up_lt _ _ h1, up_lt _ _ (by omega)]
            · rw [up_ge _ _ (by omega : j ≤ k)]
              by_cases h2 : k = j
              · rw [up_lt _ _ (by omega), h2, lo_none (by omega), wd_none]
              · rw [up_ge _ _ (by omega)]))
          clear HA1
          go_wp2_with fail
          go_roundw
          case rel => exact ⟨j + 1, by go_num, by omega, HA', HZ, he, hbw⟩
          case measure => simp [intOf]; omega
    · have hj' : j = 8 := by omega
      subst hj'
      replace HA := Lib.hid HA.out.all
      have H__ := (HA).out; obtain ⟨ce0, fe0⟩ := H__ 0 (by omega); obtain ⟨ce1, fe1⟩ := H__ 1 (by omega); obtain ⟨ce2, fe2⟩ := H__ 2 (by omega); obtain ⟨ce3, fe3⟩ := H__ 3 (by omega); obtain ⟨ce4, fe4⟩ := H__ 4 (by omega); obtain ⟨ce5, fe5⟩ := H__ 5 (by omega); obtain ⟨ce6, fe6⟩ := H__ 6 (by omega); obtain ⟨ce7, fe7⟩ := H__ 7 (by omega); clear H__
      have H__ := (HZ).out; obtain ⟨de0, ge0⟩ := H__ 0 (by omega); obtain ⟨de1, ge1⟩ := H__ 1 (by omega); obtain ⟨de2, ge2⟩ := H__ 2 (by omega); obtain ⟨de3, ge3⟩ := H__ 3 (by omega); obtain ⟨de4, ge4⟩ := H__ 4 (by omega); obtain ⟨de5, ge5⟩ := H__ 5 (by omega); obtain ⟨de6, ge6⟩ := H__ 6 (by omega); obtain ⟨de7, ge7⟩ := H__ 7 (by omega); clear H__
      have HEX : Hid (Ext w ((((((((wr.setCell ⟨w.heap.size, 0, none⟩ (.int .u64 (wd (loS n) 0 : Nat))).setCell ⟨w.heap.size, 1, none⟩ (.int .u64 (wd (loS n) 1 : Nat))).setCell ⟨w.heap.size, 2, none⟩ (.int .u64 (wd (loS n) 2 : Nat))).setCell ⟨w.heap.size, 3, none⟩ (.int .u64 (wd (loS n) 3 : Nat))).setCell ⟨w.heap.size, 4, none⟩ (.int .u64 (wd (loS n) 4 : Nat))).setCell ⟨w.heap.size, 5, none⟩ (.int .u64 (wd (loS n) 5 : Nat))).setCell ⟨w.heap.size, 6, none⟩ (.int .u64 (wd (loS n) 6 : Nat))).setCell ⟨w.heap.size, 7, none⟩ (.int .u64 (wd (loS n) 7 : Nat)))) := ((((((((he.set (by first | exact Nat.le_refl _ | exact Nat.le_succ _ | exact Nat.le_add_right _ _ | exact Nat.le_trans (Nat.le_succ _) (Nat.le_succ _) | omega) _).set (by first | exact Nat.le_refl _ | exact Nat.le_succ _ | exact Nat.le_add_right _ _ | exact Nat.le_trans (Nat.le_succ _) (Nat.le_succ _) | omega) _).set (by first | exact Nat.le_refl _ | exact Nat.le_succ _ | exact Nat.le_add_right _ _ | exact Nat.le_trans (Nat.le_succ _) (Nat.le_succ _) | omega) _).set (by first | exact Nat.le_refl _ | exact Nat.le_succ _ | exact Nat.le_add_right _ _ | exact Nat.le_trans (Nat.le_succ _) (Nat.le_succ _) | omega) _).set (by first | exact Nat.le_refl _ | exact Nat.le_succ _ | exact Nat.le_add_right _ _ | exact Nat.le_trans (Nat.le_succ _) (Nat.le_succ _) | omega) _).set (by first | exact Nat.le_refl _ | exact Nat.le_succ _ | exact Nat.le_add_right _ _ | exact Nat.le_trans (Nat.le_succ _) (Nat.le_succ _) | omega) _).set (by first | exact Nat.le_refl _ | exact Nat.le_succ _ | exact Nat.le_add_right _ _ | exact Nat.le_trans (Nat.le_succ _) (Nat.le_succ _) | omega) _).set (by first | exact Nat.le_refl _ | exact Nat.le_succ _ | exact Nat.le_add_right _ _ | exact Nat.le_trans (Nat.le_succ _) (Nat.le_succ _) | omega) _)
      go_wp2_with fail
      exact bodyPost_ret (v := Value.agg #[.int .u64 (wd (loS n) 0 : Nat), .int .u64 (wd (loS n) 1 : Nat), .int .u64 (wd (loS n) 2 : Nat), .int .u64 (wd (loS n) 3 : Nat), .int .u64 (wd (loS n) 4 : Nat), .int .u64 (wd (loS n) 5 : Nat), .int .u64 (wd (loS n) 6 : Nat), .int .u64 (wd (loS n) 7 : Nat)]) (by simp [results, Tryd.results80, go_sem, *]) rfl ⟨rfl, HEX⟩
set_option maxHeartbeats 2000000 in
set_option maxRecDepth 100000 in
theorem Below_calls (x : Int) (w : World) : Calls Tryd.prog 69 #[.int .i64 x] w fun e w' => e = .returned (.tuple #[Value.agg #[.int .u64 (wd (belowS x) 0 : Nat), .int .u64 (wd (belowS x) 1 : Nat), .int .u64 (wd (belowS x) 2 : Nat), .int .u64 (wd (belowS x) 3 : Nat), .int .u64 (wd (belowS x) 4 : Nat), .int .u64 (wd (belowS x) 5 : Nat), .int .u64 (wd (belowS x) 6 : Nat), .int .u64 (wd (belowS x) 7 : Nat)], .int .i64 (belowE x)]) ∧ Ext w w' := by
  have HZ : Hid (Arr (w.alloc (.cells #[Value.int .u64 0, .int .u64 0, .int .u64 0, .int .u64 0, .int .u64 0, .int .u64 0, .int .u64 0, .int .u64 0] 31)) w.heap.size (fun _ => false)) := Lib.hid (Arr.zero rfl)
  have HX : Hid (Ext w (w.alloc (.cells #[Value.int .u64 0, .int .u64 0, .int .u64 0, .int .u64 0, .int .u64 0, .int .u64 0, .int .u64 0, .int .u64 0] 31))) := by show Ext _ _; (repeat (first | assumption | exact Ext.refl _ | apply Ext.alloc | apply Ext.drew | apply Ext.drewN | refine Ext.set ?_ (by first | exact Nat.le_refl _ | assumption | exact Nat.le_succ _ | exact Nat.le_add_right _ _ | exact Nat.le_trans (Nat.le_succ _) (Nat.le_succ _) | omega) _ | refine Ext.trans ?_ (by assumption)))
  have HS : Hid (w.heap.size < (w.alloc (.cells #[Value.int .u64 0, .int .u64 0, .int .u64 0, .int .u64 0, .int .u64 0, .int .u64 0, .int .u64 0, .int .u64 0] 31)).heap.size) := by show _ < _; simp
  by_cases h : belowOk x = true
  · have HE : Hid (belowE x = 0) := by show _ = _; unfold belowE; rw [if_pos h]
    have HF : Hid (belowS x = loS x.toNat) := by show _ = _; unfold belowS; rw [if_pos h]
    simp only [belowOk, Bool.and_eq_true, decide_eq_true_eq] at h
    obtain ⟨h0, h1⟩ := h
    obtain ⟨n, hn⟩ : ∃ n : Nat, x = n := ⟨x.toNat, by omega⟩
    subst hn
    rw [Int.toNat_natCast] at HF
    have hn2 : n ≤ 512 := by omega
    clear h0 h1
    go_enter Tryd.func69, Tryd.ntmps69
    go_wp2_with ((go_at_call 80; (with_reducible refine (under_calls n hn2 _).mono ?_); rintro e w1 ⟨rfl, h1⟩); (replace HZ := Lib.hid (HZ.out.ext h1 HS.out)); (replace HX := Lib.hid (HX.out.trans h1)); clear h1; have H__ := (HZ).out; obtain ⟨ce0, fe0⟩ := H__ 0 (by omega); obtain ⟨ce1, fe1⟩ := H__ 1 (by omega); obtain ⟨ce2, fe2⟩ := H__ 2 (by omega); obtain ⟨ce3, fe3⟩ := H__ 3 (by omega); obtain ⟨ce4, fe4⟩ := H__ 4 (by omega); obtain ⟨ce5, fe5⟩ := H__ 5 (by omega); obtain ⟨ce6, fe6⟩ := H__ 6 (by omega); obtain ⟨ce7, fe7⟩ := H__ 7 (by omega); clear H__)
    have HEX : Hid (Ext w ((((((((w1.setCell ⟨w.heap.size, 0, none⟩ (.int .u64 (wd (loS n) 0 : Nat))).setCell ⟨w.heap.size, 1, none⟩ (.int .u64 (wd (loS n) 1 : Nat))).setCell ⟨w.heap.size, 2, none⟩ (.int .u64 (wd (loS n) 2 : Nat))).setCell ⟨w.heap.size, 3, none⟩ (.int .u64 (wd (loS n) 3 : Nat))).setCell ⟨w.heap.size, 4, none⟩ (.int .u64 (wd (loS n) 4 : Nat))).setCell ⟨w.heap.size, 5, none⟩ (.int .u64 (wd (loS n) 5 : Nat))).setCell ⟨w.heap.size, 6, none⟩ (.int .u64 (wd (loS n) 6 : Nat))).setCell ⟨w.heap.size, 7, none⟩ (.int .u64 (wd (loS n) 7 : Nat)))) := ((((((((HX.out.set (by first | exact Nat.le_refl _ | exact Nat.le_succ _ | exact Nat.le_add_right _ _ | exact Nat.le_trans (Nat.le_succ _) (Nat.le_succ _) | omega) _).set (by first | exact Nat.le_refl _ | exact Nat.le_succ _ | exact Nat.le_add_right _ _ | exact Nat.le_trans (Nat.le_succ _) (Nat.le_succ _) | omega) _).set (by first | exact Nat.le_refl _ | exact Nat.le_succ _ | exact Nat.le_add_right _ _ | exact Nat.le_trans (Nat.le_succ _) (Nat.le_succ _) | omega) _).set (by first | exact Nat.le_refl _ | exact Nat.le_succ _ | exact Nat.le_add_right _ _ | exact Nat.le_trans (Nat.le_succ _) (Nat.le_succ _) | omega) _).set (by first | exact Nat.le_refl _ | exact Nat.le_succ _ | exact Nat.le_add_right _ _ | exact Nat.le_trans (Nat.le_succ _) (Nat.le_succ _) | omega) _).set (by first | exact Nat.le_refl _ | exact Nat.le_succ _ | exact Nat.le_add_right _ _ | exact Nat.le_trans (Nat.le_succ _) (Nat.le_succ _) | omega) _).set (by first | exact Nat.le_refl _ | exact Nat.le_succ _ | exact Nat.le_add_right _ _ | exact Nat.le_trans (Nat.le_succ _) (Nat.le_succ _) | omega) _).set (by first | exact Nat.le_refl _ | exact Nat.le_succ _ | exact Nat.le_add_right _ _ | exact Nat.le_trans (Nat.le_succ _) (Nat.le_succ _) | omega) _)
    exact bodyPost_ret (v := .tuple #[Value.agg #[.int .u64 (wd (loS n) 0 : Nat), .int .u64 (wd (loS n) 1 : Nat), .int .u64 (wd (loS n) 2 : Nat), .int .u64 (wd (loS n) 3 : Nat), .int .u64 (wd (loS n) 4 : Nat), .int .u64 (wd (loS n) 5 : Nat), .int .u64 (wd (loS n) 6 : Nat), .int .u64 (wd (loS n) 7 : Nat)], .int .i64 0]) (by simp [results, Tryd.results69, go_sem, *]) rfl ⟨by rw [HF.out, HE.out], HEX⟩
  · have HE : Hid (belowE x = 11) := by show _ = _; unfold belowE; rw [if_neg h]
    have HF : Hid (belowS x = fun _ => false) := by show _ = _; unfold belowS; rw [if_neg h]
    have hx : x < 0 ∨ (decide (x < 0) = false ∧ 512 < x) := by simp [belowOk] at h ⊢; omega
    clear h
    rcases hx with hx | ⟨hx0, hx⟩
    all_goals
      go_enter Tryd.func69, Tryd.ntmps69
      go_wp2_with fail
      exact bodyPost_ret (v := .tuple #[Value.agg #[.int .u64 0, .int .u64 0, .int .u64 0, .int .u64 0, .int .u64 0, .int .u64 0, .int .u64 0, .int .u64 0], .int .i64 11]) (by simp [results, Tryd.results69, go_sem, *]) rfl ⟨by rw [HF.out, HE.out]; simp [wd_none], by (repeat (first | assumption | exact Ext.refl _ | apply Ext.alloc | apply Ext.drew | apply Ext.drewN | refine Ext.set ?_ (by first | exact Nat.le_refl _ | assumption | exact Nat.le_succ _ | exact Nat.le_add_right _ _ | exact Nat.le_trans (Nat.le_succ _) (Nat.le_succ _) | omega) _ | refine Ext.trans ?_ (by assumption)))⟩
theorem subB_iff (p q : Nat → Bool) : ∀ n, subB p q n = true ↔ ∀ i, i < n → subS p q i = false
  | 0 => by simp [subB]
  | n + 1 => by
    unfold subB
    rw [Bool.and_eq_true, subB_iff p q n]
    constructor
    · rintro ⟨h1, h2⟩ i hi
      by_cases e : i = n
      · subst e; unfold subS; revert h2; cases p i <;> cases q i <;> decide
      · exact h1 i (by omega)
    · intro h
      refine ⟨fun i hi => h i (by omega), ?_⟩
      have := h n (by omega)
      unfold subS at this
      revert this; cases p n <;> cases q n <;> decide
theorem zero_iff (r : Nat → Bool) : (∀ j, j < 8 → wd r j = 0) ↔ ∀ i, i < 512 → r i = false := by
  constructor
  · intro h i hi
    exact wd_inj (p := r) (q := fun _ => false) (fun j hj => by rw [h j hj, wd_none]) hi
  · intro h j hj
    rw [← wd_none j]
    exact wd_congr fun b hb => h _ (by omega)
theorem eight (f : Nat → Nat) : ((((f 0 : Nat) : Int) == 0) && ((((f 1 : Nat) : Int) == 0) && ((((f 2 : Nat) : Int) == 0) && ((((f 3 : Nat) : Int) == 0) && ((((f 4 : Nat) : Int) == 0) && ((((f 5 : Nat) : Int) == 0) && ((((f 6 : Nat) : Int) == 0) && (((f 7 : Nat) : Int) == 0)))))))) = true ↔ ∀ j, j < 8 → f j = 0 := by
  simp only [Bool.and_eq_true, beq_iff_eq]
  constructor
  · rintro ⟨h0, h1, h2, h3, h4, h5, h6, h7⟩ j hj
    match j, hj with
    | 0, _ => omega
    | 1, _ => omega
    | 2, _ => omega
    | 3, _ => omega
    | 4, _ => omega
    | 5, _ => omega
    | 6, _ => omega
    | 7, _ => omega
  · intro h
    exact ⟨by rw [h 0 (by omega)]; rfl, by rw [h 1 (by omega)]; rfl, by rw [h 2 (by omega)]; rfl, by rw [h 3 (by omega)]; rfl, by rw [h 4 (by omega)]; rfl, by rw [h 5 (by omega)]; rfl, by rw [h 6 (by omega)]; rfl, by rw [h 7 (by omega)]; rfl⟩
end Go.Proofs.YtdeppnamhdbbhaaDoor
namespace Go.Proofs.YtdeppnamhdbbhaaDoor
open Go.RowKit Go.Eg

def nextO (p : Nat → Bool) (x : Int) : Option Int := (numsB p 512).find? fun y => decide (x ≤ y)
def nextN (p : Nat → Bool) (x : Int) : Int := (nextO p x).getD 0
def nextB (p : Nat → Bool) (x : Int) : Bool := (nextO p x).isSome
theorem find_nums_none {p : Nat → Bool} {x : Int} : ∀ {n : Nat}, (∀ m : Nat, m < n → x ≤ m → p m = false) → (numsB p n).find? (fun y => decide (x ≤ y)) = none
  | 0, _ => rfl
  | n + 1, h => by
    have ih := find_nums_none (p := p) (x := x) (n := n) (fun m hm => h m (by omega))
    cases hp : p n
    · rw [numsB_neg hp]; exact ih
    · rw [numsB_pos hp, List.find?_append, ih]
      have : ¬ (x ≤ (n : Int)) := fun hx => by rw [h n (by omega) hx] at hp; cases hp
      simp [this]
theorem find_nums_some {p : Nat → Bool} {x : Int} {k : Nat} (hp : p k = true) (hx : x ≤ k) (h : ∀ m : Nat, m < k → x ≤ m → p m = false) : ∀ n, k < n → (numsB p n).find? (fun y => decide (x ≤ y)) = some (k : Int)
  | n + 1, hn => by
    by_cases e : k = n
    · subst e
      rw [numsB_pos hp, List.find?_append, find_nums_none h]
      simp [hx]
    · have ih := find_nums_some hp hx h n (by omega)
      cases hpn : p n
      · rw [numsB_neg hpn]; exact ih
      · rw [numsB_pos hpn, List.find?_append, ih]; rfl
theorem find_at {f : Int → Bool} {L : List Int} {i : Nat} {y : Int} (h : (L.take i).find? f = none) (hy : L[i]? = some y) (hf : f y = true) : L.find? f = some y := by
  have e : L.drop i = y :: L.drop (i + 1) := by
    obtain ⟨hl, he⟩ := List.getElem?_eq_some_iff.1 hy
    rw [List.drop_eq_getElem_cons hl, he]
  rw [← List.take_append_drop i L, List.find?_append, h, e]
  simp [hf]
theorem find_step {f : Int → Bool} {L : List Int} {i : Nat} {y : Int} (h : (L.take i).find? f = none) (hy : L[i]? = some y) (hf : f y = false) : (L.take (i + 1)).find? f = none := by
  rw [List.take_add_one, hy, List.find?_append, h]
  simp [hf]
/-- x, brought into 0 .. 512. -/
def clampN (x : Int) : Nat := if x ≤ 0 then 0 else if 512 ≤ x then 512 else x.toNat
theorem clamp_le (x : Int) : clampN x ≤ 512 := by unfold clampN; split <;> (try split) <;> omega
theorem cnt_below (p : Nat → Bool) {n : Nat} (h : n ≤ 512) : cnt (andS p (loS n)) 512 = cnt p n := by
  have e : 512 = n + (512 - n) := by omega
  rw [e, cnt_add]
  have h1 : cnt (andS p (loS n)) n = cnt p n := cnt_congr fun k hk => by unfold andS loS; rw [decide_eq_true hk, Bool.and_true]
  have h2 : cnt (fun k => andS p (loS n) (n + k)) (512 - n) = cnt (fun _ => false) (512 - n) := cnt_congr fun k hk => by unfold andS loS; rw [decide_eq_false (by omega), Bool.and_false]
  have h3 : ∀ m, cnt (fun _ => false) m = 0 := fun m => by
    induction m with
    | zero => rfl
    | succ m ih => unfold cnt; rw [ih]; rfl
  rw [h1, h2, h3, Nat.add_zero]
theorem count_nums (p : Nat → Bool) (x : Int) : ∀ n, n ≤ 512 → (numsB p n).countP (fun y => decide (y < x)) = cnt p (min n (clampN x))
  | 0, _ => by rw [Nat.zero_min]; rfl
  | n + 1, h => by
    have ih := count_nums p x n (by omega)
    have hc : ((n : Int) < x) ↔ n < clampN x := by unfold clampN; split <;> (try split) <;> omega
    cases hp : p n
    · rw [numsB_neg hp, ih]
      by_cases hl : n < clampN x
      · rw [Nat.min_eq_left (by omega), Nat.min_eq_left (by omega)]
        show _ = cnt p n + _
        rw [hp]; rfl
      · rw [Nat.min_eq_right (by omega), Nat.min_eq_right (by omega)]
    · rw [numsB_pos hp, List.countP_append, ih]
      by_cases hl : n < clampN x
      · rw [Nat.min_eq_left (by omega), Nat.min_eq_left (by omega)]
        show _ = cnt p n + _
        rw [hp]; simp [hc.2 hl]
      · rw [Nat.min_eq_right (by omega), Nat.min_eq_right (by omega)]
        have : ¬ ((n : Int) < x) := fun e => hl (hc.1 e)
        simp [this]
theorem rank_at (p : Nat → Bool) : ∀ (n r : Nat) (y : Int), (numsB p n)[r]? = some y → ∃ k : Nat, y = k ∧ k < n ∧ p k = true ∧ cnt p k = r
  | 0, r, y, h => by simp [numsB] at h
  | n + 1, r, y, h => by
    cases hp : p n
    · rw [numsB_neg hp] at h
      obtain ⟨k, h1, h2, h3⟩ := rank_at p n r y h
      exact ⟨k, h1, by omega, h3⟩
    · rw [numsB_pos hp, List.getElem?_append] at h
      split at h
      · obtain ⟨k, h1, h2, h3⟩ := rank_at p n r y h
        exact ⟨k, h1, by omega, h3⟩
      · rename_i hr
        rw [nums_len] at h hr
        have h0 : r - cnt p n = 0 := by
          have := (List.getElem?_eq_some_iff.1 h).1
          simp at this
          omega
        rw [h0] at h
        cases h
        exact ⟨n, rfl, by omega, hp, by omega⟩
end Go.Proofs.YtdeppnamhdbbhaaDoor
namespace Go.Proofs.YtdeppnamhdbbhaaDoor
open Go.RowKit Go.Eg

theorem least {P : Nat → Prop} : ∀ m, P m → ∃ k, k ≤ m ∧ P k ∧ ∀ j, j < k → ¬ P j := by
  intro m
  induction m using Nat.strongRecOn with
  | _ m ih =>
    intro h
    rcases Classical.em (∃ j, j < m ∧ P j) with ⟨j, hj, hp⟩ | hn
    · obtain ⟨k, h1, h2, h3⟩ := ih j hj hp
      exact ⟨k, by omega, h2, h3⟩
    · exact ⟨m, Nat.le_refl _, h, fun j hj hp => hn ⟨j, hj, hp⟩⟩
/-- What Next answers: none; or the least one. -/
theorem next_cases (p : Nat → Bool) (x : Int) : (nextB p x = false ∧ ∀ m : Nat, m < 512 → x ≤ m → p m = false) ∨
    (∃ k : Nat, nextB p x = true ∧ nextN p x = k ∧ x ≤ k ∧ k < 512 ∧ p k = true ∧ ∀ m : Nat, m < k → x ≤ m → p m = false) := by
  rcases Classical.em (∃ m : Nat, m < 512 ∧ x ≤ m ∧ p m = true) with ⟨m, h1, h2, h3⟩ | hn
  · obtain ⟨k, a1, ⟨a2, a3⟩, a4⟩ := least (P := fun m : Nat => x ≤ m ∧ p m = true) m ⟨h2, h3⟩
    have hl : ∀ m : Nat, m < k → x ≤ m → p m = false := fun m hm hx => by
      cases hp : p m
      · rfl
      · exact absurd ⟨hx, hp⟩ (a4 m hm)
    have hf := find_nums_some (p := p) (x := x) a3 a2 hl 512 (by omega)
    exact .inr ⟨k, by rw [nextB, nextO, hf]; rfl, by rw [nextN, nextO, hf]; rfl, a2, by omega, a3, hl⟩
  · have hz : ∀ m : Nat, m < 512 → x ≤ m → p m = false := fun m hm hx => by
      cases hp : p m
      · rfl
      · exact absurd ⟨m, hm, hx, hp⟩ hn
    have hf := find_nums_none (p := p) (x := x) (n := 512) hz
    exact .inl ⟨by rw [nextB, nextO, hf]; rfl, hz⟩
/-- From all places of s below x on. -/
def thruTo (s : Nat → Bool) (r : Nat → Nat → Bool) (x j : Nat) : Bool := (List.range x).any fun m => s m && r m j
theorem thruTo_iff {s : Nat → Bool} {r : Nat → Nat → Bool} {x j : Nat} : thruTo s r x j = true ↔ ∃ m, m < x ∧ s m = true ∧ r m j = true := by
  simp [thruTo]
theorem thru_zero (s : Nat → Bool) (r : Nat → Nat → Bool) : thruTo s r 0 = fun _ => false := rfl
theorem thru_step {s : Nat → Bool} {r : Nat → Nat → Bool} {x k : Nat} (hx : x ≤ k) (hk : s k = true) (h : ∀ m, m < k → x ≤ m → s m = false) : thruTo s r (k + 1) = orS (thruTo s r x) (r k) := by
  funext j
  rw [Bool.eq_iff_iff, thruTo_iff]
  simp only [orS, Bool.or_eq_true, thruTo_iff]
  constructor
  · rintro ⟨m, h1, h2, h3⟩
    by_cases hm : m = k
    · subst hm; exact .inr h3
    · by_cases hmx : m < x
      · exact .inl ⟨m, hmx, h2, h3⟩
      · rw [h m (by omega) (by omega)] at h2; cases h2
  · rintro (⟨m, h1, h2, h3⟩ | h3)
    · exact ⟨m, by omega, h2, h3⟩
    · exact ⟨k, by omega, hk, h3⟩
theorem thru_end {s : Nat → Bool} {r : Nat → Nat → Bool} {x : Nat} (hx : x ≤ 512) (h : ∀ m, m < 512 → x ≤ m → s m = false) : thruTo s r x = thruTo s r 512 := by
  funext j
  rw [Bool.eq_iff_iff, thruTo_iff, thruTo_iff]
  constructor
  · rintro ⟨m, h1, h2, h3⟩; exact ⟨m, by omega, h2, h3⟩
  · rintro ⟨m, h1, h2, h3⟩
    by_cases hmx : m < x
    · exact ⟨m, hmx, h2, h3⟩
    · rw [h m h1 (by omega)] at h2; cases h2
/-- The rows of a concatenation. -/
theorem concat_thru {c : Nat → Int} {n : Nat} {s : Int} (hn : n < 512) (a b : T) (i : Nat) : thruTo (rowB c n a i) (rowB c n b) 512 = rowB c n (.bin ⟨7, s⟩ a b) i := by
  funext j
  rw [Bool.eq_iff_iff, thruTo_iff, row_concat]
  constructor
  · rintro ⟨m, _, h2, h3⟩; exact ⟨m, h2, h3⟩
  · rintro ⟨m, h2, h3⟩; exact ⟨m, by have := (rowB_iff.1 h2).2.1; omega, h2, h3⟩
/-- The rows of a star: the place itself, and the star from where a piece that is not empty ends. -/
theorem star_thru {c : Nat → Int} {n : Nat} {s : Int} (hn : n < 512) (a : T) (i : Nat) (hi : i ≤ n) (more : Nat → Bool) (hm : ∀ m, more m = true ↔ m ≠ i ∧ rowB c n a i m = true) (r : Nat → Nat → Bool)
    (hr : ∀ m, i < m → m ≤ n → r m = rowB c n (.un ⟨8, s⟩ a) m) : orS (fun j => j == i) (thruTo more r 512) = rowB c n (.un ⟨8, s⟩ a) i := by
  funext j
  rw [Bool.eq_iff_iff, row_star]
  simp only [orS, Bool.or_eq_true, thruTo_iff, beq_iff_eq]
  constructor
  · rintro (rfl | ⟨m, h1, h2, h3⟩)
    · exact .inl ⟨rfl, hi⟩
    · obtain ⟨h4, h5⟩ := (hm m).1 h2
      obtain ⟨h6, h7, _⟩ := rowB_iff.1 h5
      rw [hr m (by omega) h7] at h3
      exact .inr ⟨m, h4, h5, h3⟩
  · rintro (⟨rfl, _⟩ | ⟨m, h1, h2, h3⟩)
    · exact .inl rfl
    · obtain ⟨h6, h7, _⟩ := rowB_iff.1 h2
      exact .inr ⟨m, by omega, (hm m).2 ⟨h1, h2⟩, by rw [hr m (by omega) h7]; exact h3⟩
end Go.Proofs.YtdeppnamhdbbhaaDoor
namespace Go.Proofs.YtdeppnamhdbbhaaDoor
open Go.RowKit Go.Eg

set_option maxHeartbeats 4000000 in
set_option maxRecDepth 100000 in
theorem one_calls (i : Int) (w : World) : Calls Tryd.prog 60 #[.int .i64 i] w fun e w' => e = .returned (Value.agg #[.int .u64 (wd (withS (fun _ => false) i) 0 : Nat), .int .u64 (wd (withS (fun _ => false) i) 1 : Nat), .int .u64 (wd (withS (fun _ => false) i) 2 : Nat), .int .u64 (wd (withS (fun _ => false) i) 3 : Nat), .int .u64 (wd (withS (fun _ => false) i) 4 : Nat), .int .u64 (wd (withS (fun _ => false) i) 5 : Nat), .int .u64 (wd (withS (fun _ => false) i) 6 : Nat), .int .u64 (wd (withS (fun _ => false) i) 7 : Nat)]) ∧ Ext w w' := by
  have HZ : Hid (Arr (w.alloc (.cells #[Value.int .u64 0, .int .u64 0, .int .u64 0, .int .u64 0, .int .u64 0, .int .u64 0, .int .u64 0, .int .u64 0] 31)) w.heap.size (fun _ => false)) := Lib.hid (Arr.zero rfl)
  have HS : Hid (w.heap.size < (w.alloc (.cells #[Value.int .u64 0, .int .u64 0, .int .u64 0, .int .u64 0, .int .u64 0, .int .u64 0, .int .u64 0, .int .u64 0] 31)).heap.size) := by show _ < _; simp
  have HX : Hid (Ext w (w.alloc (.cells #[Value.int .u64 0, .int .u64 0, .int .u64 0, .int .u64 0, .int .u64 0, .int .u64 0, .int .u64 0, .int .u64 0] 31))) := by show Ext _ _; (repeat (first | assumption | exact Ext.refl _ | apply Ext.alloc | apply Ext.drew | apply Ext.drewN | refine Ext.set ?_ (by first | exact Nat.le_refl _ | assumption | exact Nat.le_succ _ | exact Nat.le_add_right _ _ | exact Nat.le_trans (Nat.le_succ _) (Nat.le_succ _) | omega) _ | refine Ext.trans ?_ (by assumption)))
  obtain ⟨r, hr⟩ : ∃ r, r = withS (fun _ => false) i := ⟨_, rfl⟩
  have HW : Hid (∀ W, Calls Tryd.prog 75 #[Value.agg #[.int .u64 0, .int .u64 0, .int .u64 0, .int .u64 0, .int .u64 0, .int .u64 0, .int .u64 0, .int .u64 0], .int .i64 i] W fun e w' => e = .returned (.tuple #[Value.agg #[.int .u64 (wd (r) 0 : Nat), .int .u64 (wd (r) 1 : Nat), .int .u64 (wd (r) 2 : Nat), .int .u64 (wd (r) 3 : Nat), .int .u64 (wd (r) 4 : Nat), .int .u64 (wd (r) 5 : Nat), .int .u64 (wd (r) 6 : Nat), .int .u64 (wd (r) 7 : Nat)], .int .i64 (errI i)]) ∧ Ext W w') := Lib.hid (fun W => by have := With_calls (fun _ => false) i W; rw [← hr] at this; simpa [wd_none] using this)
  rw [← hr]
  clear hr
  go_enter Tryd.func60, Tryd.ntmps60
  go_wp2_with ((go_at_call 75; (with_reducible refine (HW.out _).mono ?_); rintro e w1 ⟨rfl, h1⟩); (have hlt := Nat.lt_of_lt_of_le HS.out h1.le); (replace HZ := Lib.hid (HZ.out.ext h1 HS.out)); (replace HX := Lib.hid (HX.out.trans h1)); clear h1; have H__ := (HZ).out; obtain ⟨ce0, fe0⟩ := H__ 0 (by omega); obtain ⟨ce1, fe1⟩ := H__ 1 (by omega); obtain ⟨ce2, fe2⟩ := H__ 2 (by omega); obtain ⟨ce3, fe3⟩ := H__ 3 (by omega); obtain ⟨ce4, fe4⟩ := H__ 4 (by omega); obtain ⟨ce5, fe5⟩ := H__ 5 (by omega); obtain ⟨ce6, fe6⟩ := H__ 6 (by omega); obtain ⟨ce7, fe7⟩ := H__ 7 (by omega); clear H__)
  have h0 : upS (fun _ => false) r 0 = fun _ => false := by funext k; simp [upS]
  have HU : Arr w1 w.heap.size (upS (fun _ => false) r 0) := by rw [h0]; exact HZ.out
  have HF := Arr.all ((((((((HU.up (by omega)).up (by omega)).up (by omega)).up (by omega)).up (by omega)).up (by omega)).up (by omega)).up (by omega))
  have HEX : Hid (Ext w ((((((((w1.setCell ⟨w.heap.size, 0, none⟩ (.int .u64 (wd (r) 0 : Nat))).setCell ⟨w.heap.size, 1, none⟩ (.int .u64 (wd (r) 1 : Nat))).setCell ⟨w.heap.size, 2, none⟩ (.int .u64 (wd (r) 2 : Nat))).setCell ⟨w.heap.size, 3, none⟩ (.int .u64 (wd (r) 3 : Nat))).setCell ⟨w.heap.size, 4, none⟩ (.int .u64 (wd (r) 4 : Nat))).setCell ⟨w.heap.size, 5, none⟩ (.int .u64 (wd (r) 5 : Nat))).setCell ⟨w.heap.size, 6, none⟩ (.int .u64 (wd (r) 6 : Nat))).setCell ⟨w.heap.size, 7, none⟩ (.int .u64 (wd (r) 7 : Nat)))) := ((((((((HX.out.set (by first | exact Nat.le_refl _ | exact Nat.le_succ _ | exact Nat.le_add_right _ _ | exact Nat.le_trans (Nat.le_succ _) (Nat.le_succ _) | omega) _).set (by first | exact Nat.le_refl _ | exact Nat.le_succ _ | exact Nat.le_add_right _ _ | exact Nat.le_trans (Nat.le_succ _) (Nat.le_succ _) | omega) _).set (by first | exact Nat.le_refl _ | exact Nat.le_succ _ | exact Nat.le_add_right _ _ | exact Nat.le_trans (Nat.le_succ _) (Nat.le_succ _) | omega) _).set (by first | exact Nat.le_refl _ | exact Nat.le_succ _ | exact Nat.le_add_right _ _ | exact Nat.le_trans (Nat.le_succ _) (Nat.le_succ _) | omega) _).set (by first | exact Nat.le_refl _ | exact Nat.le_succ _ | exact Nat.le_add_right _ _ | exact Nat.le_trans (Nat.le_succ _) (Nat.le_succ _) | omega) _).set (by first | exact Nat.le_refl _ | exact Nat.le_succ _ | exact Nat.le_add_right _ _ | exact Nat.le_trans (Nat.le_succ _) (Nat.le_succ _) | omega) _).set (by first | exact Nat.le_refl _ | exact Nat.le_succ _ | exact Nat.le_add_right _ _ | exact Nat.le_trans (Nat.le_succ _) (Nat.le_succ _) | omega) _).set (by first | exact Nat.le_refl _ | exact Nat.le_succ _ | exact Nat.le_add_right _ _ | exact Nat.le_trans (Nat.le_succ _) (Nat.le_succ _) | omega) _)
  clear ce0 ce1 ce2 ce3 ce4 ce5 ce6 ce7 fe0 fe1 fe2 fe3 fe4 fe5 fe6 fe7 HZ HX HS HW HU h0
  have hl3 : w.heap.size < ((((((((w1.setCell ⟨w.heap.size, 0, none⟩ (.int .u64 (wd r 0 : Nat))).setCell ⟨w.heap.size, 1, none⟩ (.int .u64 (wd r 1 : Nat))).setCell ⟨w.heap.size, 2, none⟩ (.int .u64 (wd r 2 : Nat))).setCell ⟨w.heap.size, 3, none⟩ (.int .u64 (wd r 3 : Nat))).setCell ⟨w.heap.size, 4, none⟩ (.int .u64 (wd r 4 : Nat))).setCell ⟨w.heap.size, 5, none⟩ (.int .u64 (wd r 5 : Nat))).setCell ⟨w.heap.size, 6, none⟩ (.int .u64 (wd r 6 : Nat))).setCell ⟨w.heap.size, 7, none⟩ (.int .u64 (wd r 7 : Nat))).heap.size := by simpa using hlt
  generalize ((((((((w1.setCell ⟨w.heap.size, 0, none⟩ (.int .u64 (wd r 0 : Nat))).setCell ⟨w.heap.size, 1, none⟩ (.int .u64 (wd r 1 : Nat))).setCell ⟨w.heap.size, 2, none⟩ (.int .u64 (wd r 2 : Nat))).setCell ⟨w.heap.size, 3, none⟩ (.int .u64 (wd r 3 : Nat))).setCell ⟨w.heap.size, 4, none⟩ (.int .u64 (wd r 4 : Nat))).setCell ⟨w.heap.size, 5, none⟩ (.int .u64 (wd r 5 : Nat))).setCell ⟨w.heap.size, 6, none⟩ (.int .u64 (wd r 6 : Nat))).setCell ⟨w.heap.size, 7, none⟩ (.int .u64 (wd r 7 : Nat))) = W3 at *
  have HG := Lib.hid (HF.old (o := .cells #[Value.int .u64 (wd (r) 0 : Nat), .int .u64 (wd (r) 1 : Nat), .int .u64 (wd (r) 2 : Nat), .int .u64 (wd (r) 3 : Nat), .int .u64 (wd (r) 4 : Nat), .int .u64 (wd (r) 5 : Nat), .int .u64 (wd (r) 6 : Nat), .int .u64 (wd (r) 7 : Nat)] 31) hl3)
  have HEY : Hid (Ext w (W3.alloc (.cells #[Value.int .u64 (wd (r) 0 : Nat), .int .u64 (wd (r) 1 : Nat), .int .u64 (wd (r) 2 : Nat), .int .u64 (wd (r) 3 : Nat), .int .u64 (wd (r) 4 : Nat), .int .u64 (wd (r) 5 : Nat), .int .u64 (wd (r) 6 : Nat), .int .u64 (wd (r) 7 : Nat)] 31))) := Lib.hid (HEX.out.alloc _)
  clear HF HEX hl3 hlt
  generalize W3.alloc (.cells #[Value.int .u64 (wd (r) 0 : Nat), .int .u64 (wd (r) 1 : Nat), .int .u64 (wd (r) 2 : Nat), .int .u64 (wd (r) 3 : Nat), .int .u64 (wd (r) 4 : Nat), .int .u64 (wd (r) 5 : Nat), .int .u64 (wd (r) 6 : Nat), .int .u64 (wd (r) 7 : Nat)] 31) = W4 at *
  have H__ := (HG).out; obtain ⟨ce0, fe0⟩ := H__ 0 (by omega); obtain ⟨ce1, fe1⟩ := H__ 1 (by omega); obtain ⟨ce2, fe2⟩ := H__ 2 (by omega); obtain ⟨ce3, fe3⟩ := H__ 3 (by omega); obtain ⟨ce4, fe4⟩ := H__ 4 (by omega); obtain ⟨ce5, fe5⟩ := H__ 5 (by omega); obtain ⟨ce6, fe6⟩ := H__ 6 (by omega); obtain ⟨ce7, fe7⟩ := H__ 7 (by omega); clear H__
  clear HG
  refine bodyPost_ret (v := Value.agg #[.int .u64 (wd (r) 0 : Nat), .int .u64 (wd (r) 1 : Nat), .int .u64 (wd (r) 2 : Nat), .int .u64 (wd (r) 3 : Nat), .int .u64 (wd (r) 4 : Nat), .int .u64 (wd (r) 5 : Nat), .int .u64 (wd (r) 6 : Nat), .int .u64 (wd (r) 7 : Nat)]) ?_ rfl ⟨rfl, HEY.out⟩
  clear HEY
  simp only [results, Tryd.results60]
  go_simp
end Go.Proofs.YtdeppnamhdbbhaaDoor
namespace Go.Proofs.YtdeppnamhdbbhaaDoor
open Go.RowKit Go.Eg

/-- A set in a slice: eight words. -/
def encS (p : Nat → Bool) : List Value := [.int .u64 (wd p 0 : Nat), .int .u64 (wd p 1 : Nat), .int .u64 (wd p 2 : Nat), .int .u64 (wd p 3 : Nat), .int .u64 (wd p 4 : Nat), .int .u64 (wd p 5 : Nat), .int .u64 (wd p 6 : Nat), .int .u64 (wd p 7 : Nat)]
def tySet : Ty (Nat → Bool) := .flat 8 encS (fun _ => rfl) (by simp [encS, Value.oneCell'])
theorem elRows : Elem Tryd.prog 57 31 8 64 := Elem.mk (z := Value.agg #[.int .u64 0, .int .u64 0, .int .u64 0, .int .u64 0, .int .u64 0, .int .u64 0, .int .u64 0, .int .u64 0]) Tryd.underlying57 (by kernel_rfl) rfl (by decide)
theorem elSets : Elem Tryd.prog 56 31 8 64 := Elem.mk (z := Value.agg #[.int .u64 0, .int .u64 0, .int .u64 0, .int .u64 0, .int .u64 0, .int .u64 0, .int .u64 0, .int .u64 0]) Tryd.underlying56 (by kernel_rfl) rfl (by decide)

theorem mk_rows (m : Nat) (W : World) (hm : m ≤ 1000000) : (Instr.makeSlice 57 (.int .i64 (m : Int)) (.int .i64 (m : Int))).run Tryd.prog W = .ok (.slice (some ⟨W.heap.size, 0, none⟩) m m) (W.alloc (.cells (madeCells #[Value.int .u64 0, .int .u64 0, .int .u64 0, .int .u64 0, .int .u64 0, .int .u64 0, .int .u64 0, .int .u64 0] (m * 8)) 31)) := by
  obtain ⟨z, ⟨i, hi, hz⟩, hzs, hmk⟩ := run_mk elRows
  have hz' : z = Value.agg #[.int .u64 0, .int .u64 0, .int .u64 0, .int .u64 0, .int .u64 0, .int .u64 0, .int .u64 0, .int .u64 0] := by
    have : (Tryd.prog.info? 31).map (fun i => i.zero) = some (some (Value.agg #[.int .u64 0, .int .u64 0, .int .u64 0, .int .u64 0, .int .u64 0, .int .u64 0, .int .u64 0, .int .u64 0])) := by kernel_rfl
    rw [hi, Option.map_some, hz] at this
    exact Option.some.inj (Option.some.inj this)
  subst hz'
  exact hmk m W (by omega) (by omega)

theorem mk_sets (m : Nat) (W : World) (hm : m ≤ 1000000) : (Instr.makeSlice 56 (.int .i64 (m : Int)) (.int .i64 (m : Int))).run Tryd.prog W = .ok (.slice (some ⟨W.heap.size, 0, none⟩) m m) (W.alloc (.cells (madeCells #[Value.int .u64 0, .int .u64 0, .int .u64 0, .int .u64 0, .int .u64 0, .int .u64 0, .int .u64 0, .int .u64 0] (m * 8)) 31)) := by
  obtain ⟨z, ⟨i, hi, hz⟩, hzs, hmk⟩ := run_mk elSets
  have hz' : z = Value.agg #[.int .u64 0, .int .u64 0, .int .u64 0, .int .u64 0, .int .u64 0, .int .u64 0, .int .u64 0, .int .u64 0] := by
    have : (Tryd.prog.info? 31).map (fun i => i.zero) = some (some (Value.agg #[.int .u64 0, .int .u64 0, .int .u64 0, .int .u64 0, .int .u64 0, .int .u64 0, .int .u64 0, .int .u64 0])) := by kernel_rfl
    rw [hi, Option.map_some, hz] at this
    exact Option.some.inj (Option.some.inj this)
  subst hz'
  exact hmk m W (by omega) (by omega)
theorem enc_none : encS (fun _ => false) = [.int .u64 0, .int .u64 0, .int .u64 0, .int .u64 0, .int .u64 0, .int .u64 0, .int .u64 0, .int .u64 0] := by simp [encS, wd_none]
/-- What make gives. -/
theorem own_made {w : World} (base m : Nat) (hb : base ≤ w.heap.size) (hm : m ≤ 1000000) : Own tySet 31 base No (w.alloc (.cells (madeCells #[Value.int .u64 0, .int .u64 0, .int .u64 0, .int .u64 0, .int .u64 0, .int .u64 0, .int .u64 0, .int .u64 0] (m * 8)) 31)) (List.replicate m (fun _ => false)) (.slice (some ⟨w.heap.size, 0, none⟩) m m) :=
  Own.made (t := tySet) #[Value.int .u64 0, .int .u64 0, .int .u64 0, .int .u64 0, .int .u64 0, .int .u64 0, .int .u64 0, .int .u64 0] (fun _ => false) rfl (fun B w => enc_none.symm) hb (by unfold maxLen; omega)

/-- A set is stored at a place. -/
def put8 (w : World) (b o : Nat) (p : Nat → Bool) : World :=
  (((((((w.setCell ⟨b, o, none⟩ (.int .u64 (wd p 0 : Nat))).setCell ⟨b, o + 1, none⟩ (.int .u64 (wd p 1 : Nat))).setCell ⟨b, o + 2, none⟩ (.int .u64 (wd p 2 : Nat))).setCell ⟨b, o + 3, none⟩ (.int .u64 (wd p 3 : Nat))).setCell ⟨b, o + 4, none⟩ (.int .u64 (wd p 4 : Nat))).setCell ⟨b, o + 5, none⟩ (.int .u64 (wd p 5 : Nat))).setCell ⟨b, o + 6, none⟩ (.int .u64 (wd p 6 : Nat))).setCell ⟨b, o + 7, none⟩ (.int .u64 (wd p 7 : Nat))
theorem set_grown {w W : World} {b : Nat} (h : w.grownBy W (some b)) (o : Nat) (u : Value) : w.grownBy (W.setCell ⟨b, o, none⟩ u) (some b) := h.trans (grownBy_set W ⟨b, o, none⟩ u)
theorem put8_grown (w : World) (b o : Nat) (p : Nat → Bool) : w.grownBy (put8 w b o p) (some b) := by
  unfold put8
  refine set_grown ?_ _ _
  refine set_grown ?_ _ _
  refine set_grown ?_ _ _
  refine set_grown ?_ _ _
  refine set_grown ?_ _ _
  refine set_grown ?_ _ _
  refine set_grown ?_ _ _
  refine set_grown ?_ _ _
  exact ⟨rfl, rfl, rfl, Nat.le_refl _, fun _ _ _ => rfl⟩
theorem Ext.put8 {w W : World} (h : Ext w W) {b : Nat} (o : Nat) (p : Nat → Bool) (hb : w.heap.size ≤ b) : Ext w (put8 W b o p) := h.grown (put8_grown W b o p) (fun k hk => by cases hk; exact hb)
/-- A block of one set, freshly laid, is stored into. -/
theorem Arr.put8 {w : World} {b : Nat} {p r : Nat → Bool} (h : Arr w b p) : Arr (put8 w b 0 r) b r := by
  have h0 : upS p r 0 = p := by funext k; simp [upS]
  have HU : Arr w b (upS p r 0) := by rw [h0]; exact h
  have := Arr.all ((((((((HU.up (by omega)).up (by omega)).up (by omega)).up (by omega)).up (by omega)).up (by omega)).up (by omega)).up (by omega))
  unfold Go.Proofs.YtdeppnamhdbbhaaDoor.put8
  simpa only [Nat.zero_add] using this
theorem put8_size (w : World) (b o : Nat) (p : Nat → Bool) : (put8 w b o p).heap.size = w.heap.size := by simp [put8]

section
variable {e base : Nat} {w : World} {xs : List (Nat → Bool)} {A : Option Addr} {g n c i : Nat} {p : Nat → Bool}
theorem rd_set (h : Rd tySet w xs (.slice A n c)) (hp : xs[i]? = some p) : ∃ b off, A = some ⟨b, off, none⟩ ∧ b < w.heap.size ∧
    w.cell? ⟨b, off + i * 8, none⟩ = some (.int .u64 (wd p 0 : Nat)) ∧ w.cell? ⟨b, off + i * 8 + 1, none⟩ = some (.int .u64 (wd p 1 : Nat)) ∧ w.cell? ⟨b, off + i * 8 + 2, none⟩ = some (.int .u64 (wd p 2 : Nat)) ∧ w.cell? ⟨b, off + i * 8 + 3, none⟩ = some (.int .u64 (wd p 3 : Nat)) ∧
    w.cell? ⟨b, off + i * 8 + 4, none⟩ = some (.int .u64 (wd p 4 : Nat)) ∧ w.cell? ⟨b, off + i * 8 + 5, none⟩ = some (.int .u64 (wd p 5 : Nat)) ∧ w.cell? ⟨b, off + i * 8 + 6, none⟩ = some (.int .u64 (wd p 6 : Nat)) ∧ w.cell? ⟨b, off + i * 8 + 7, none⟩ = some (.int .u64 (wd p 7 : Nat)) := by
  obtain ⟨b, off, cs, e, hb, rfl, ha⟩ := h.at hp
  exact ⟨b, off, e, hb, ha 0 _ rfl, ha 1 _ rfl, ha 2 _ rfl, ha 3 _ rfl, ha 4 _ rfl, ha 5 _ rfl, ha 6 _ rfl, ha 7 _ rfl⟩
theorem own_set (h : Own tySet e base No w xs (.slice (some ⟨g, 0, none⟩) n c)) (hp : xs[i]? = some p) :
    g < w.heap.size ∧ w.cell? ⟨g, i * 8, none⟩ = some (.int .u64 (wd p 0 : Nat)) ∧ w.cell? ⟨g, i * 8 + 1, none⟩ = some (.int .u64 (wd p 1 : Nat)) ∧ w.cell? ⟨g, i * 8 + 2, none⟩ = some (.int .u64 (wd p 2 : Nat)) ∧ w.cell? ⟨g, i * 8 + 3, none⟩ = some (.int .u64 (wd p 3 : Nat)) ∧
    w.cell? ⟨g, i * 8 + 4, none⟩ = some (.int .u64 (wd p 4 : Nat)) ∧ w.cell? ⟨g, i * 8 + 5, none⟩ = some (.int .u64 (wd p 5 : Nat)) ∧ w.cell? ⟨g, i * 8 + 6, none⟩ = some (.int .u64 (wd p 6 : Nat)) ∧ w.cell? ⟨g, i * 8 + 7, none⟩ = some (.int .u64 (wd p 7 : Nat)) := by
  obtain ⟨b, off, e1, hb, h0⟩ := rd_set h.rd hp
  cases e1
  rw [Nat.zero_add] at h0
  exact ⟨hb, h0⟩
theorem Own.store8 (h : Own tySet e base No w xs (.slice (some ⟨g, 0, none⟩) n c)) (hi : i < xs.length) (p : Nat → Bool) :
    Own tySet e base No (put8 w g (i * 8) p) (xs.set i p) (.slice (some ⟨g, 0, none⟩) n c) := by
  obtain ⟨cells, ho, hel⟩ := h
  have hn : n = xs.length := by
    rcases ho.2 with ⟨h', _⟩ | ⟨g', cap', cur, h', _⟩
    · cases h'
    · cases h'; rfl
  subst hn
  have hcl : cells.length = xs.length * 8 := ho.1
  obtain ⟨s0, _⟩ := ho.stored (i * 8) (.int .u64 (wd p 0 : Nat))
  obtain ⟨s1, _⟩ := s0.stored (i * 8 + 1) (.int .u64 (wd p 1 : Nat))
  obtain ⟨s2, _⟩ := s1.stored (i * 8 + 2) (.int .u64 (wd p 2 : Nat))
  obtain ⟨s3, _⟩ := s2.stored (i * 8 + 3) (.int .u64 (wd p 3 : Nat))
  obtain ⟨s4, _⟩ := s3.stored (i * 8 + 4) (.int .u64 (wd p 4 : Nat))
  obtain ⟨s5, _⟩ := s4.stored (i * 8 + 5) (.int .u64 (wd p 5 : Nat))
  obtain ⟨s6, _⟩ := s5.stored (i * 8 + 6) (.int .u64 (wd p 6 : Nat))
  obtain ⟨s7, _⟩ := s6.stored (i * 8 + 7) (.int .u64 (wd p 7 : Nat))
  refine ⟨_, by rw [List.length_set]; exact s7, fun k y hy => ?_⟩
  rw [List.getElem?_set] at hy
  split at hy
  · rename_i hik
    subst hik
    try rw [if_pos hi] at hy
    cases hy
    refine ⟨encS p, rfl, fun j u hj => ?_⟩
    have hj8 : j < 8 := (List.getElem?_eq_some_iff.1 hj).1
    match j, hj8 with
    | 0, _ | 1, _ | 2, _ | 3, _ | 4, _ | 5, _ | 6, _ | 7, _ =>
      cases hj
      simp only [List.getElem?_set, List.length_set, hcl, tySet, Ty.flat]
      simp
      omega
  · rename_i hik
    obtain ⟨cs, hr, hc⟩ := hel k y hy
    refine ⟨cs, hr, fun j u hj => ?_⟩
    have hj8 : j < 8 := by have h1 := tySet.len hr; have h2 := (List.getElem?_eq_some_iff.1 hj).1; have h3 : tySet.sz = 8 := rfl; omega
    have := hc j u hj
    simp only [tySet, Ty.flat] at this ⊢
    rw [List.getElem?_set_ne (by omega), List.getElem?_set_ne (by omega), List.getElem?_set_ne (by omega), List.getElem?_set_ne (by omega), List.getElem?_set_ne (by omega), List.getElem?_set_ne (by omega), List.getElem?_set_ne (by omega), List.getElem?_set_ne (by omega)]
    exact this
end

/-- The places 0 .. n of a row: the first k by f, the others empty. -/
def upTo (n : Nat) (f : Nat → Nat → Bool) (k : Nat) : List (Nat → Bool) := (List.range n).map fun i => if i < k then f i else fun _ => false
theorem upTo_len (n : Nat) (f : Nat → Nat → Bool) (k : Nat) : (upTo n f k).length = n := by simp [upTo]
theorem upTo_zero (n : Nat) (f : Nat → Nat → Bool) : upTo n f 0 = List.replicate n (fun _ => false) := by
  apply List.ext_getElem?
  intro i
  by_cases h : i < n <;> simp [upTo, h]
theorem upTo_set (n : Nat) (f : Nat → Nat → Bool) (k : Nat) : (upTo n f k).set k (f k) = upTo n f (k + 1) := by
  apply List.ext_getElem?
  intro i
  rw [List.getElem?_set, upTo_len]
  by_cases hik : k = i
  · subst hik
    by_cases h : k < n
    · rw [if_pos rfl, if_pos h]
      simp [upTo, h]
    · rw [if_pos rfl, if_neg h]
      simp [upTo, h]
  · rw [if_neg hik]
    by_cases h : i < n
    · simp only [upTo, List.getElem?_map, List.getElem?_range h, Option.map_some]
      congr 1
      by_cases h1 : i < k
      · rw [if_pos h1, if_pos (by omega)]
      · rw [if_neg h1, if_neg (by omega)]
    · simp [upTo, h]
theorem upTo_all (n : Nat) (f : Nat → Nat → Bool) : upTo n f n = (List.range n).map f :=
  List.map_congr_left fun i hi => by rw [if_pos (List.mem_range.1 hi)]
end Go.Proofs.YtdeppnamhdbbhaaDoor
namespace Go.Proofs.YtdeppnamhdbbhaaDoor
open Go.RowKit Go.Eg

set_option maxHeartbeats 2000000 in
set_option maxRecDepth 100000 in
theorem make_calls (G : Nat) (hcf : ∀ args W, Sem.run Tryd.prog (callFunc G args) W = .ok (.enter G args) W) (caps : Array Value) (s : ByteArray) (ps : Value) (hs : s.size < 512) (f : Nat → Nat → Bool) (w : World)
    (hf : ∀ (i : Nat) W, i ≤ s.size → Ext w W → Calls Tryd.prog G (#[.int .i64 (i : Int)] ++ caps) W fun e w' => e = .returned (Value.agg #[.int .u64 (wd (f i) 0 : Nat), .int .u64 (wd (f i) 1 : Nat), .int .u64 (wd (f i) 2 : Nat), .int .u64 (wd (f i) 3 : Nat), .int .u64 (wd (f i) 4 : Nat), .int .u64 (wd (f i) 5 : Nat), .int .u64 (wd (f i) 6 : Nat), .int .u64 (wd (f i) 7 : Nat)]) ∧ Ext W w') :
    Calls Tryd.prog 58 #[.agg #[.string s, ps], .func (.func G) #[] caps] w fun e w' => ∃ v, e = .returned v ∧ Own tySet 31 w.heap.size No w' ((List.range (s.size + 1)).map f) v ∧ Ext w w' := by
  have hmk := fun W => mk_rows (s.size + 1) W (by omega)
  have hcast : ((s.size + 1 : Nat) : Int) = (s.size : Int) + 1 := by omega
  rw [hcast] at hmk
  go_enter Tryd.func58, Tryd.ntmps58
  go_wp2_with (first | simp only [hmk])
  have h0 := own_made (w := w.alloc (.cells #[.string s, ps] 74)) w.heap.size (s.size + 1) (by simp) (by omega)
  go_loopw [14] (fun v14 wr => ∃ j : Nat, v14 = .int .i64 j ∧ j ≤ s.size + 1 ∧ Hid (Own tySet 31 w.heap.size No wr (upTo (s.size + 1) f j) (.slice (some ⟨w.heap.size + 1, 0, none⟩) (s.size + 1) (s.size + 1))) ∧ Ext w wr) (fun v14 _ => s.size + 1 - (intOf v14).toNat)
  case atStart => exact ⟨0, rfl, by omega, Lib.hid (by rw [upTo_zero]; simpa using h0), by (repeat (first | assumption | exact Ext.refl _ | apply Ext.alloc | apply Ext.drew | apply Ext.drewN | refine Ext.trans ?_ (by assumption)))⟩
  case round =>
    clear h0
    obtain ⟨j, rfl, hj, HO, he⟩ := hrel
    by_cases hlt : j < s.size + 1
    · have hF := fun W hW => hf j W (by omega) (he.trans hW)
      clear hf
      have HG : Hid ((upTo (s.size + 1) f j)[j]? = some (fun _ => false)) := Lib.hid (by simp [upTo, hlt])
      go_wp2_with ((with_reducible refine (hF _ (Ext.refl _)).mono ?_); rintro e w1 ⟨rfl, h1⟩; replace HO := Lib.hid (HO.out.ext h1); replace he := he.trans h1; obtain ⟨hg, hc0, hc1, hc2, hc3, hc4, hc5, hc6, hc7⟩ := own_set HO.out HG.out; have hfr := HO.out.free; clear h1)
      go_roundw
      case rel =>
        have HS := Own.store8 (i := j) HO.out (by rw [upTo_len]; exact hlt) (f j)
        rw [upTo_set] at HS
        exact ⟨j + 1, by go_num, by omega, HS, Ext.put8 he (j * 8) (f j) (Nat.le_succ _)⟩
      case measure => simp [intOf]; omega
    · have hj' : j = s.size + 1 := by omega
      subst hj'
      go_wp2_with fail
      go_ret
      rw [upTo_all] at HO
      exact ⟨_, rfl, HO.out, he⟩
end Go.Proofs.YtdeppnamhdbbhaaDoor
namespace Go.Proofs.YtdeppnamhdbbhaaDoor
open Go.RowKit Go.Eg

/-- Two rows, as a node's parts lie. -/
structure Two (W : World) (pv : Value) (i : Nat) (p q : Nat → Bool) : Prop where
  intro ::
  ex : ∃ pb po c vb vo vn vc ub uo un uc, pv = .slice (some ⟨pb, po, none⟩) 2 c ∧ pb < W.heap.size ∧ vb < W.heap.size ∧ ub < W.heap.size ∧
    W.cell? ⟨pb, po, none⟩ = some (.slice (some ⟨vb, vo, none⟩) vn vc) ∧ W.cell? ⟨pb, po + 1, none⟩ = some (.slice (some ⟨ub, uo, none⟩) un uc) ∧ i < vn ∧ i < un ∧
    (∀ k, k < 8 → W.cell? ⟨vb, vo + i * 8 + k, none⟩ = some (.int .u64 (wd p k : Nat))) ∧ (∀ k, k < 8 → W.cell? ⟨ub, uo + i * 8 + k, none⟩ = some (.int .u64 (wd q k : Nat)))
theorem eight_cells {W : World} {b o : Nat} {p : Nat → Bool} (h : W.cell? ⟨b, o, none⟩ = some (.int .u64 (wd p 0 : Nat)) ∧ W.cell? ⟨b, o + 1, none⟩ = some (.int .u64 (wd p 1 : Nat)) ∧ W.cell? ⟨b, o + 2, none⟩ = some (.int .u64 (wd p 2 : Nat)) ∧ W.cell? ⟨b, o + 3, none⟩ = some (.int .u64 (wd p 3 : Nat)) ∧
    W.cell? ⟨b, o + 4, none⟩ = some (.int .u64 (wd p 4 : Nat)) ∧ W.cell? ⟨b, o + 5, none⟩ = some (.int .u64 (wd p 5 : Nat)) ∧ W.cell? ⟨b, o + 6, none⟩ = some (.int .u64 (wd p 6 : Nat)) ∧ W.cell? ⟨b, o + 7, none⟩ = some (.int .u64 (wd p 7 : Nat))) :
    ∀ k, k < 8 → W.cell? ⟨b, o + k, none⟩ = some (.int .u64 (wd p k : Nat)) := by
  obtain ⟨h0, h1, h2, h3, h4, h5, h6, h7⟩ := h
  intro k hk
  match k, hk with
  | 0, _ => exact h0
  | 1, _ => exact h1
  | 2, _ => exact h2
  | 3, _ => exact h3
  | 4, _ => exact h4
  | 5, _ => exact h5
  | 6, _ => exact h6
  | 7, _ => exact h7
theorem Two.of {W : World} {pv : Value} {xs ys : List (Nat → Bool)} (h : Rd (Ty.slice tySet) W [xs, ys] pv) {i : Nat} {p q : Nat → Bool} (hx : xs[i]? = some p) (hy : ys[i]? = some q) : Two W pv i p q := by
  obtain ⟨A, c, rfl, hlc, hcm⟩ := h.shape
  obtain ⟨pb, po, u, rfl, hpb, hc0, hu⟩ := h.slices (i := 0) rfl
  obtain ⟨pb', po', u', e, _, hc1, hu'⟩ := h.slices (i := 1) rfl
  cases e
  obtain ⟨A1, c1, rfl, _, _⟩ := hu.shape
  obtain ⟨A2, c2, rfl, _, _⟩ := hu'.shape
  obtain ⟨b1, o1, rfl, hb1, h1⟩ := rd_set hu hx
  obtain ⟨b2, o2, rfl, hb2, h2⟩ := rd_set hu' hy
  exact ⟨pb, po, c, b1, o1, _, _, b2, o2, _, _, rfl, hpb, hb1, hb2, hc0, hc1, (List.getElem?_eq_some_iff.1 hx).1, (List.getElem?_eq_some_iff.1 hy).1, eight_cells h1, eight_cells h2⟩

set_option maxHeartbeats 4000000 in
set_option maxRecDepth 100000 in
theorem union1_calls (i b : Nat) (pv : Value) (p q : Nat → Bool) (W : World) (hb : b < W.heap.size) (hc : W.cell? ⟨b, 1, none⟩ = some pv) (hT : Two W pv i p q) :
    Calls Tryd.prog 62 #[.int .i64 (i : Int), .pointer (some ⟨b, 0, none⟩)] W fun e w' => e = .returned (Value.agg #[.int .u64 (wd (orS p q) 0 : Nat), .int .u64 (wd (orS p q) 1 : Nat), .int .u64 (wd (orS p q) 2 : Nat), .int .u64 (wd (orS p q) 3 : Nat), .int .u64 (wd (orS p q) 4 : Nat), .int .u64 (wd (orS p q) 5 : Nat), .int .u64 (wd (orS p q) 6 : Nat), .int .u64 (wd (orS p q) 7 : Nat)]) ∧ Ext W w' := by
  obtain ⟨⟨pb, po, c, vb, vo, vn, vc, ub, uo, un, uc, rfl, hpb, hvb, hub, hp0, hp1, hvn, hun, HP, HQ⟩⟩ := hT
  have HX : Hid (Ext W (W.alloc (.cells #[Value.int .u64 0, .int .u64 0, .int .u64 0, .int .u64 0, .int .u64 0, .int .u64 0, .int .u64 0, .int .u64 0] 31))) := by show Ext _ _; (repeat (first | assumption | exact Ext.refl _ | apply Ext.alloc | apply Ext.drew | apply Ext.drewN | refine Ext.set ?_ (by first | exact Nat.le_refl _ | assumption | exact Nat.le_succ _ | exact Nat.le_add_right _ _ | exact Nat.le_trans (Nat.le_succ _) (Nat.le_succ _) | omega) _ | refine Ext.trans ?_ (by assumption)))
  replace hc := (HX.out.cell _ _ hb).trans hc
  replace hp0 := (HX.out.cell _ _ hpb).trans hp0
  replace hp1 := (HX.out.cell _ _ hpb).trans hp1
  have hv0 := (HX.out.cell _ _ hvb).trans (HP 0 (by omega))
  have hv1 := (HX.out.cell _ _ hvb).trans (HP 1 (by omega))
  have hv2 := (HX.out.cell _ _ hvb).trans (HP 2 (by omega))
  have hv3 := (HX.out.cell _ _ hvb).trans (HP 3 (by omega))
  have hv4 := (HX.out.cell _ _ hvb).trans (HP 4 (by omega))
  have hv5 := (HX.out.cell _ _ hvb).trans (HP 5 (by omega))
  have hv6 := (HX.out.cell _ _ hvb).trans (HP 6 (by omega))
  have hv7 := (HX.out.cell _ _ hvb).trans (HP 7 (by omega))
  have hu0 := (HX.out.cell _ _ hub).trans (HQ 0 (by omega))
  have hu1 := (HX.out.cell _ _ hub).trans (HQ 1 (by omega))
  have hu2 := (HX.out.cell _ _ hub).trans (HQ 2 (by omega))
  have hu3 := (HX.out.cell _ _ hub).trans (HQ 3 (by omega))
  have hu4 := (HX.out.cell _ _ hub).trans (HQ 4 (by omega))
  have hu5 := (HX.out.cell _ _ hub).trans (HQ 5 (by omega))
  have hu6 := (HX.out.cell _ _ hub).trans (HQ 6 (by omega))
  have hu7 := (HX.out.cell _ _ hub).trans (HQ 7 (by omega))
  simp only [Nat.add_zero] at hv0 hu0
  clear HP HQ
  have HZ : Hid (Arr (W.alloc (.cells #[Value.int .u64 0, .int .u64 0, .int .u64 0, .int .u64 0, .int .u64 0, .int .u64 0, .int .u64 0, .int .u64 0] 31)) W.heap.size (fun _ => false)) := Lib.hid (Arr.zero rfl)
  have HS : Hid (W.heap.size < ((W.alloc (.cells #[Value.int .u64 0, .int .u64 0, .int .u64 0, .int .u64 0, .int .u64 0, .int .u64 0, .int .u64 0, .int .u64 0] 31))).heap.size) := by show _ < _; simp
  obtain ⟨r, hr⟩ : ∃ r, r = orS p q := ⟨_, rfl⟩
  have HC := Lib.hid (union_calls p q)
  rw [← hr] at HC ⊢
  clear hr
  go_enter Tryd.func62, Tryd.ntmps62
  go_wp2_with fail
  generalize (W.alloc (.cells #[Value.int .u64 0, .int .u64 0, .int .u64 0, .int .u64 0, .int .u64 0, .int .u64 0, .int .u64 0, .int .u64 0] 31)) = W1 at *
  go_still_tail 14, (by kernel_rfl)
  change wpList _ _ _ _ _ W1.drew
  go_wp2_with ((go_at_call 63; (with_reducible refine (HC.out _).mono ?_); rintro e w2 ⟨rfl, h2⟩); (have HZ2 := Lib.hid (HZ.out.drew.ext h2 HS.out)); (have HX2 := Lib.hid (HX.out.drew.trans h2)); clear h2; have H__ := (HZ2).out; obtain ⟨ce0, fe0⟩ := H__ 0 (by omega); obtain ⟨ce1, fe1⟩ := H__ 1 (by omega); obtain ⟨ce2, fe2⟩ := H__ 2 (by omega); obtain ⟨ce3, fe3⟩ := H__ 3 (by omega); obtain ⟨ce4, fe4⟩ := H__ 4 (by omega); obtain ⟨ce5, fe5⟩ := H__ 5 (by omega); obtain ⟨ce6, fe6⟩ := H__ 6 (by omega); obtain ⟨ce7, fe7⟩ := H__ 7 (by omega); clear H__)
  have HEX : Hid (Ext W ((((((((w2.setCell ⟨W.heap.size, 0, none⟩ (.int .u64 (wd (r) 0 : Nat))).setCell ⟨W.heap.size, 1, none⟩ (.int .u64 (wd (r) 1 : Nat))).setCell ⟨W.heap.size, 2, none⟩ (.int .u64 (wd (r) 2 : Nat))).setCell ⟨W.heap.size, 3, none⟩ (.int .u64 (wd (r) 3 : Nat))).setCell ⟨W.heap.size, 4, none⟩ (.int .u64 (wd (r) 4 : Nat))).setCell ⟨W.heap.size, 5, none⟩ (.int .u64 (wd (r) 5 : Nat))).setCell ⟨W.heap.size, 6, none⟩ (.int .u64 (wd (r) 6 : Nat))).setCell ⟨W.heap.size, 7, none⟩ (.int .u64 (wd (r) 7 : Nat)))) := ((((((((HX2.out.set (by first | exact Nat.le_refl _ | exact Nat.le_succ _ | exact Nat.le_add_right _ _ | exact Nat.le_trans (Nat.le_succ _) (Nat.le_succ _) | omega) _).set (by first | exact Nat.le_refl _ | exact Nat.le_succ _ | exact Nat.le_add_right _ _ | exact Nat.le_trans (Nat.le_succ _) (Nat.le_succ _) | omega) _).set (by first | exact Nat.le_refl _ | exact Nat.le_succ _ | exact Nat.le_add_right _ _ | exact Nat.le_trans (Nat.le_succ _) (Nat.le_succ _) | omega) _).set (by first | exact Nat.le_refl _ | exact Nat.le_succ _ | exact Nat.le_add_right _ _ | exact Nat.le_trans (Nat.le_succ _) (Nat.le_succ _) | omega) _).set (by first | exact Nat.le_refl _ | exact Nat.le_succ _ | exact Nat.le_add_right _ _ | exact Nat.le_trans (Nat.le_succ _) (Nat.le_succ _) | omega) _).set (by first | exact Nat.le_refl _ | exact Nat.le_succ _ | exact Nat.le_add_right _ _ | exact Nat.le_trans (Nat.le_succ _) (Nat.le_succ _) | omega) _).set (by first | exact Nat.le_refl _ | exact Nat.le_succ _ | exact Nat.le_add_right _ _ | exact Nat.le_trans (Nat.le_succ _) (Nat.le_succ _) | omega) _).set (by first | exact Nat.le_refl _ | exact Nat.le_succ _ | exact Nat.le_add_right _ _ | exact Nat.le_trans (Nat.le_succ _) (Nat.le_succ _) | omega) _)
  exact bodyPost_ret (v := Value.agg #[.int .u64 (wd (r) 0 : Nat), .int .u64 (wd (r) 1 : Nat), .int .u64 (wd (r) 2 : Nat), .int .u64 (wd (r) 3 : Nat), .int .u64 (wd (r) 4 : Nat), .int .u64 (wd (r) 5 : Nat), .int .u64 (wd (r) 6 : Nat), .int .u64 (wd (r) 7 : Nat)]) (by simp [results, Tryd.results62, go_sem, *]) rfl ⟨rfl, HEX⟩

set_option maxHeartbeats 4000000 in
set_option maxRecDepth 100000 in
theorem inter1_calls (i b : Nat) (pv : Value) (p q : Nat → Bool) (W : World) (hb : b < W.heap.size) (hc : W.cell? ⟨b, 1, none⟩ = some pv) (hT : Two W pv i p q) :
    Calls Tryd.prog 64 #[.int .i64 (i : Int), .pointer (some ⟨b, 0, none⟩)] W fun e w' => e = .returned (Value.agg #[.int .u64 (wd (andS p q) 0 : Nat), .int .u64 (wd (andS p q) 1 : Nat), .int .u64 (wd (andS p q) 2 : Nat), .int .u64 (wd (andS p q) 3 : Nat), .int .u64 (wd (andS p q) 4 : Nat), .int .u64 (wd (andS p q) 5 : Nat), .int .u64 (wd (andS p q) 6 : Nat), .int .u64 (wd (andS p q) 7 : Nat)]) ∧ Ext W w' := by
  obtain ⟨⟨pb, po, c, vb, vo, vn, vc, ub, uo, un, uc, rfl, hpb, hvb, hub, hp0, hp1, hvn, hun, HP, HQ⟩⟩ := hT
  have HX : Hid (Ext W (W.alloc (.cells #[Value.int .u64 0, .int .u64 0, .int .u64 0, .int .u64 0, .int .u64 0, .int .u64 0, .int .u64 0, .int .u64 0] 31))) := by show Ext _ _; (repeat (first | assumption | exact Ext.refl _ | apply Ext.alloc | apply Ext.drew | apply Ext.drewN | refine Ext.set ?_ (by first | exact Nat.le_refl _ | assumption | exact Nat.le_succ _ | exact Nat.le_add_right _ _ | exact Nat.le_trans (Nat.le_succ _) (Nat.le_succ _) | omega) _ | refine Ext.trans ?_ (by assumption)))
  replace hc := (HX.out.cell _ _ hb).trans hc
  replace hp0 := (HX.out.cell _ _ hpb).trans hp0
  replace hp1 := (HX.out.cell _ _ hpb).trans hp1
  have hv0 := (HX.out.cell _ _ hvb).trans (HP 0 (by omega))
  have hv1 := (HX.out.cell _ _ hvb).trans (HP 1 (by omega))
  have hv2 := (HX.out.cell _ _ hvb).trans (HP 2 (by omega))
  have hv3 := (HX.out.cell _ _ hvb).trans (HP 3 (by omega))
  have hv4 := (HX.out.cell _ _ hvb).trans (HP 4 (by omega))
  have hv5 := (HX.out.cell _ _ hvb).trans (HP 5 (by omega))
  have hv6 := (HX.out.cell _ _ hvb).trans (HP 6 (by omega))
  have hv7 := (HX.out.cell _ _ hvb).trans (HP 7 (by omega))
  have hu0 := (HX.out.cell _ _ hub).trans (HQ 0 (by omega))
  have hu1 := (HX.out.cell _ _ hub).trans (HQ 1 (by omega))
  have hu2 := (HX.out.cell _ _ hub).trans (HQ 2 (by omega))
  have hu3 := (HX.out.cell _ _ hub).trans (HQ 3 (by omega))
  have hu4 := (HX.out.cell _ _ hub).trans (HQ 4 (by omega))
  have hu5 := (HX.out.cell _ _ hub).trans (HQ 5 (by omega))
  have hu6 := (HX.out.cell _ _ hub).trans (HQ 6 (by omega))
  have hu7 := (HX.out.cell _ _ hub).trans (HQ 7 (by omega))
  simp only [Nat.add_zero] at hv0 hu0
  clear HP HQ
  have HZ : Hid (Arr (W.alloc (.cells #[Value.int .u64 0, .int .u64 0, .int .u64 0, .int .u64 0, .int .u64 0, .int .u64 0, .int .u64 0, .int .u64 0] 31)) W.heap.size (fun _ => false)) := Lib.hid (Arr.zero rfl)
  have HS : Hid (W.heap.size < ((W.alloc (.cells #[Value.int .u64 0, .int .u64 0, .int .u64 0, .int .u64 0, .int .u64 0, .int .u64 0, .int .u64 0, .int .u64 0] 31))).heap.size) := by show _ < _; simp
  obtain ⟨r, hr⟩ : ∃ r, r = andS p q := ⟨_, rfl⟩
  have HC := Lib.hid (inter_calls p q)
  rw [← hr] at HC ⊢
  clear hr
  go_enter Tryd.func64, Tryd.ntmps64
  go_wp2_with fail
  generalize (W.alloc (.cells #[Value.int .u64 0, .int .u64 0, .int .u64 0, .int .u64 0, .int .u64 0, .int .u64 0, .int .u64 0, .int .u64 0] 31)) = W1 at *
  go_still_tail 14, (by kernel_rfl)
  change wpList _ _ _ _ _ W1.drew
  go_wp2_with ((go_at_call 65; (with_reducible refine (HC.out _).mono ?_); rintro e w2 ⟨rfl, h2⟩); (have HZ2 := Lib.hid (HZ.out.drew.ext h2 HS.out)); (have HX2 := Lib.hid (HX.out.drew.trans h2)); clear h2; have H__ := (HZ2).out; obtain ⟨ce0, fe0⟩ := H__ 0 (by omega); obtain ⟨ce1, fe1⟩ := H__ 1 (by omega); obtain ⟨ce2, fe2⟩ := H__ 2 (by omega); obtain ⟨ce3, fe3⟩ := H__ 3 (by omega); obtain ⟨ce4, fe4⟩ := H__ 4 (by omega); obtain ⟨ce5, fe5⟩ := H__ 5 (by omega); obtain ⟨ce6, fe6⟩ := H__ 6 (by omega); obtain ⟨ce7, fe7⟩ := H__ 7 (by omega); clear H__)
  have HEX : Hid (Ext W ((((((((w2.setCell ⟨W.heap.size, 0, none⟩ (.int .u64 (wd (r) 0 : Nat))).setCell ⟨W.heap.size, 1, none⟩ (.int .u64 (wd (r) 1 : Nat))).setCell ⟨W.heap.size, 2, none⟩ (.int .u64 (wd (r) 2 : Nat))).setCell ⟨W.heap.size, 3, none⟩ (.int .u64 (wd (r) 3 : Nat))).setCell ⟨W.heap.size, 4, none⟩ (.int .u64 (wd (r) 4 : Nat))).setCell ⟨W.heap.size, 5, none⟩ (.int .u64 (wd (r) 5 : Nat))).setCell ⟨W.heap.size, 6, none⟩ (.int .u64 (wd (r) 6 : Nat))).setCell ⟨W.heap.size, 7, none⟩ (.int .u64 (wd (r) 7 : Nat)))) := ((((((((HX2.out.set (by first | exact Nat.le_refl _ | exact Nat.le_succ _ | exact Nat.le_add_right _ _ | exact Nat.le_trans (Nat.le_succ _) (Nat.le_succ _) | omega) _).set (by first | exact Nat.le_refl _ | exact Nat.le_succ _ | exact Nat.le_add_right _ _ | exact Nat.le_trans (Nat.le_succ _) (Nat.le_succ _) | omega) _).set (by first | exact Nat.le_refl _ | exact Nat.le_succ _ | exact Nat.le_add_right _ _ | exact Nat.le_trans (Nat.le_succ _) (Nat.le_succ _) | omega) _).set (by first | exact Nat.le_refl _ | exact Nat.le_succ _ | exact Nat.le_add_right _ _ | exact Nat.le_trans (Nat.le_succ _) (Nat.le_succ _) | omega) _).set (by first | exact Nat.le_refl _ | exact Nat.le_succ _ | exact Nat.le_add_right _ _ | exact Nat.le_trans (Nat.le_succ _) (Nat.le_succ _) | omega) _).set (by first | exact Nat.le_refl _ | exact Nat.le_succ _ | exact Nat.le_add_right _ _ | exact Nat.le_trans (Nat.le_succ _) (Nat.le_succ _) | omega) _).set (by first | exact Nat.le_refl _ | exact Nat.le_succ _ | exact Nat.le_add_right _ _ | exact Nat.le_trans (Nat.le_succ _) (Nat.le_succ _) | omega) _).set (by first | exact Nat.le_refl _ | exact Nat.le_succ _ | exact Nat.le_add_right _ _ | exact Nat.le_trans (Nat.le_succ _) (Nat.le_succ _) | omega) _)
  exact bodyPost_ret (v := Value.agg #[.int .u64 (wd (r) 0 : Nat), .int .u64 (wd (r) 1 : Nat), .int .u64 (wd (r) 2 : Nat), .int .u64 (wd (r) 3 : Nat), .int .u64 (wd (r) 4 : Nat), .int .u64 (wd (r) 5 : Nat), .int .u64 (wd (r) 6 : Nat), .int .u64 (wd (r) 7 : Nat)]) (by simp [results, Tryd.results64, go_sem, *]) rfl ⟨rfl, HEX⟩
end Go.Proofs.YtdeppnamhdbbhaaDoor
namespace Go.Proofs.YtdeppnamhdbbhaaDoor
open Go.RowKit Go.Eg

theorem with_one {i : Nat} (h : i < 512) : withS (fun _ => false) (i : Int) = fun j => j == i := by
  have hr : inR (i : Int) = true := by simp [inR]; omega
  funext j
  rw [withS, if_pos hr, addSet, Bool.false_or, Bool.eq_iff_iff, beq_iff_eq, beq_iff_eq]
  omega
theorem with_none : withS (fun _ => false) 512 = fun _ => false := by
  have hr : inR (512 : Int) = false := by decide
  rw [withS, hr]; rfl
set_option maxHeartbeats 2000000 in
set_option maxRecDepth 100000 in
theorem none1_calls (i : Int) (W : World) : Calls Tryd.prog 59 #[.int .i64 i] W fun e w' => e = .returned (Value.agg #[.int .u64 (wd (fun _ => false) 0 : Nat), .int .u64 (wd (fun _ => false) 1 : Nat), .int .u64 (wd (fun _ => false) 2 : Nat), .int .u64 (wd (fun _ => false) 3 : Nat), .int .u64 (wd (fun _ => false) 4 : Nat), .int .u64 (wd (fun _ => false) 5 : Nat), .int .u64 (wd (fun _ => false) 6 : Nat), .int .u64 (wd (fun _ => false) 7 : Nat)]) ∧ Ext W w' := by
  simp only [wd_none]
  have HZ : Hid (Arr (W.alloc (.cells #[Value.int .u64 0, .int .u64 0, .int .u64 0, .int .u64 0, .int .u64 0, .int .u64 0, .int .u64 0, .int .u64 0] 31)) W.heap.size (fun _ => false)) := Lib.hid (Arr.zero rfl)
  have HX : Hid (Ext W (W.alloc (.cells #[Value.int .u64 0, .int .u64 0, .int .u64 0, .int .u64 0, .int .u64 0, .int .u64 0, .int .u64 0, .int .u64 0] 31))) := by show Ext _ _; (repeat (first | assumption | exact Ext.refl _ | apply Ext.alloc | apply Ext.drew | apply Ext.drewN | refine Ext.set ?_ (by first | exact Nat.le_refl _ | assumption | exact Nat.le_succ _ | exact Nat.le_add_right _ _ | exact Nat.le_trans (Nat.le_succ _) (Nat.le_succ _) | omega) _ | refine Ext.trans ?_ (by assumption)))
  go_enter Tryd.func59, Tryd.ntmps59
  go_wp2_with fail
  exact bodyPost_ret (v := Value.agg #[.int .u64 0, .int .u64 0, .int .u64 0, .int .u64 0, .int .u64 0, .int .u64 0, .int .u64 0, .int .u64 0]) (by simp [results, Tryd.results59, go_sem]) rfl ⟨rfl, by (repeat (first | assumption | exact Ext.refl _ | apply Ext.alloc | apply Ext.drew | apply Ext.drewN | refine Ext.set ?_ (by first | exact Nat.le_refl _ | assumption | exact Nat.le_succ _ | exact Nat.le_add_right _ _ | exact Nat.le_trans (Nat.le_succ _) (Nat.le_succ _) | omega) _ | refine Ext.trans ?_ (by assumption)))⟩

/-- A letter's row. -/
def letS (s : ByteArray) (nd : Nd) (i : Nat) : Nat → Bool := if i < s.size ∧ (nd.k = 4 ∨ bt s i = nd.s) then fun j => j == i + 1 else fun _ => false
set_option maxHeartbeats 4000000 in
set_option maxRecDepth 100000 in
theorem letter1_calls (i b d : Nat) (s : ByteArray) (nd : Nd) (W : World) (hb : b < W.heap.size) (hd : d < W.heap.size) (hs : s.size < 512) (hi : i ≤ s.size) (h0 : W.cell? ⟨b, 0, none⟩ = some (.string s)) (hk : W.cell? ⟨d, 0, none⟩ = some (.int .i64 nd.k)) (hg : W.cell? ⟨d, 1, none⟩ = some (.int .u8 nd.s)) :
    Calls Tryd.prog 61 #[.int .i64 (i : Int), .pointer (some ⟨b, 0, none⟩), .pointer (some ⟨d, 0, none⟩)] W fun e w' => e = .returned (Value.agg #[.int .u64 (wd (letS s nd i) 0 : Nat), .int .u64 (wd (letS s nd i) 1 : Nat), .int .u64 (wd (letS s nd i) 2 : Nat), .int .u64 (wd (letS s nd i) 3 : Nat), .int .u64 (wd (letS s nd i) 4 : Nat), .int .u64 (wd (letS s nd i) 5 : Nat), .int .u64 (wd (letS s nd i) 6 : Nat), .int .u64 (wd (letS s nd i) 7 : Nat)]) ∧ Ext W w' := by
  have HX : Hid (Ext W (W.alloc (.cells #[Value.int .u64 0, .int .u64 0, .int .u64 0, .int .u64 0, .int .u64 0, .int .u64 0, .int .u64 0, .int .u64 0] 31))) := by show Ext _ _; (repeat (first | assumption | exact Ext.refl _ | apply Ext.alloc | apply Ext.drew | apply Ext.drewN | refine Ext.set ?_ (by first | exact Nat.le_refl _ | assumption | exact Nat.le_succ _ | exact Nat.le_add_right _ _ | exact Nat.le_trans (Nat.le_succ _) (Nat.le_succ _) | omega) _ | refine Ext.trans ?_ (by assumption)))
  have HZ : Hid (Arr (W.alloc (.cells #[Value.int .u64 0, .int .u64 0, .int .u64 0, .int .u64 0, .int .u64 0, .int .u64 0, .int .u64 0, .int .u64 0] 31)) W.heap.size (fun _ => false)) := Lib.hid (Arr.zero rfl)
  have HS : Hid (W.heap.size < ((W.alloc (.cells #[Value.int .u64 0, .int .u64 0, .int .u64 0, .int .u64 0, .int .u64 0, .int .u64 0, .int .u64 0, .int .u64 0] 31))).heap.size) := by show _ < _; simp
  replace h0 := (HX.out.cell _ _ hb).trans h0
  replace hk := (HX.out.cell _ _ hd).trans hk
  replace hg := (HX.out.cell _ _ hd).trans hg
  have yes : i < s.size ∧ (nd.k = 4 ∨ bt s i = nd.s) → Hid (∀ W1, Calls Tryd.prog 60 #[.int .i64 ((i : Int) + 1)] W1 fun e w' => e = .returned (Value.agg #[.int .u64 (wd (letS s nd i) 0 : Nat), .int .u64 (wd (letS s nd i) 1 : Nat), .int .u64 (wd (letS s nd i) 2 : Nat), .int .u64 (wd (letS s nd i) 3 : Nat), .int .u64 (wd (letS s nd i) 4 : Nat), .int .u64 (wd (letS s nd i) 5 : Nat), .int .u64 (wd (letS s nd i) 6 : Nat), .int .u64 (wd (letS s nd i) 7 : Nat)]) ∧ Ext W1 w') := fun h => Lib.hid (fun W1 => by
    have := one_calls ((i + 1 : Nat) : Int) W1
    rw [show ((i + 1 : Nat) : Int) = (i : Int) + 1 by omega] at this
    have hw := with_one (i := i + 1) (by omega)
    rw [show ((i + 1 : Nat) : Int) = (i : Int) + 1 by omega] at hw
    rw [hw] at this
    rw [letS, if_pos h]
    exact this)
  have no : ¬ (i < s.size ∧ (nd.k = 4 ∨ bt s i = nd.s)) → letS s nd i = fun _ => false := fun h => if_neg h
  generalize hr : letS s nd i = r at *
  clear hr
  by_cases hlt : i < s.size
  · have hlt' : decide ((i : Int) < s.size) = true := decide_eq_true (by omega)
    have hbt := bt_at s i hlt
    by_cases h4 : nd.k = 4
    · have HC := yes ⟨hlt, .inl h4⟩
      have hk4 : (nd.k == 4) = true := beq_iff_eq.2 h4
      clear yes no
      go_enter Tryd.func61, Tryd.ntmps61
      go_wp2_with fail
      generalize (W.alloc (.cells #[Value.int .u64 0, .int .u64 0, .int .u64 0, .int .u64 0, .int .u64 0, .int .u64 0, .int .u64 0, .int .u64 0] 31)) = W1 at *
      go_quiet (fail)
      go_wp2_with ((go_at_call 60; (with_reducible refine (HC.out _).mono ?_); rintro e w2 ⟨rfl, h2⟩); (replace h2 := ((Ext.refl W1).drewN _).trans h2); (have HZ2 := Lib.hid (HZ.out.ext h2 HS.out)); (have HX2 := Lib.hid (HX.out.trans h2)); clear h2; have H__ := (HZ2).out; obtain ⟨ce0, fe0⟩ := H__ 0 (by omega); obtain ⟨ce1, fe1⟩ := H__ 1 (by omega); obtain ⟨ce2, fe2⟩ := H__ 2 (by omega); obtain ⟨ce3, fe3⟩ := H__ 3 (by omega); obtain ⟨ce4, fe4⟩ := H__ 4 (by omega); obtain ⟨ce5, fe5⟩ := H__ 5 (by omega); obtain ⟨ce6, fe6⟩ := H__ 6 (by omega); obtain ⟨ce7, fe7⟩ := H__ 7 (by omega); clear H__)
      have HEX : Hid (Ext W ((((((((w2.setCell ⟨W.heap.size, 0, none⟩ (.int .u64 (wd (r) 0 : Nat))).setCell ⟨W.heap.size, 1, none⟩ (.int .u64 (wd (r) 1 : Nat))).setCell ⟨W.heap.size, 2, none⟩ (.int .u64 (wd (r) 2 : Nat))).setCell ⟨W.heap.size, 3, none⟩ (.int .u64 (wd (r) 3 : Nat))).setCell ⟨W.heap.size, 4, none⟩ (.int .u64 (wd (r) 4 : Nat))).setCell ⟨W.heap.size, 5, none⟩ (.int .u64 (wd (r) 5 : Nat))).setCell ⟨W.heap.size, 6, none⟩ (.int .u64 (wd (r) 6 : Nat))).setCell ⟨W.heap.size, 7, none⟩ (.int .u64 (wd (r) 7 : Nat)))) := ((((((((HX2.out.set (by first | exact Nat.le_refl _ | exact Nat.le_succ _ | exact Nat.le_add_right _ _ | exact Nat.le_trans (Nat.le_succ _) (Nat.le_succ _) | omega) _).set (by first | exact Nat.le_refl _ | exact Nat.le_succ _ | exact Nat.le_add_right _ _ | exact Nat.le_trans (Nat.le_succ _) (Nat.le_succ _) | omega) _).set (by first | exact Nat.le_refl _ | exact Nat.le_succ _ | exact Nat.le_add_right _ _ | exact Nat.le_trans (Nat.le_succ _) (Nat.le_succ _) | omega) _).set (by first | exact Nat.le_refl _ | exact Nat.le_succ _ | exact Nat.le_add_right _ _ | exact Nat.le_trans (Nat.le_succ _) (Nat.le_succ _) | omega) _).set (by first | exact Nat.le_refl _ | exact Nat.le_succ _ | exact Nat.le_add_right _ _ | exact Nat.le_trans (Nat.le_succ _) (Nat.le_succ _) | omega) _).set (by first | exact Nat.le_refl _ | exact Nat.le_succ _ | exact Nat.le_add_right _ _ | exact Nat.le_trans (Nat.le_succ _) (Nat.le_succ _) | omega) _).set (by first | exact Nat.le_refl _ | exact Nat.le_succ _ | exact Nat.le_add_right _ _ | exact Nat.le_trans (Nat.le_succ _) (Nat.le_succ _) | omega) _).set (by first | exact Nat.le_refl _ | exact Nat.le_succ _ | exact Nat.le_add_right _ _ | exact Nat.le_trans (Nat.le_succ _) (Nat.le_succ _) | omega) _)
      exact bodyPost_ret (v := Value.agg #[.int .u64 (wd (r) 0 : Nat), .int .u64 (wd (r) 1 : Nat), .int .u64 (wd (r) 2 : Nat), .int .u64 (wd (r) 3 : Nat), .int .u64 (wd (r) 4 : Nat), .int .u64 (wd (r) 5 : Nat), .int .u64 (wd (r) 6 : Nat), .int .u64 (wd (r) 7 : Nat)]) (by simp [results, Tryd.results61, go_sem, *]) rfl ⟨rfl, HEX⟩
    · have hk4 : (nd.k == 4) = false := beq_eq_false_iff_ne.2 h4
      by_cases hbe : bt s i = nd.s
      · have HC := yes ⟨hlt, .inr hbe⟩
        have hbe' : (((s[i]'hlt).toNat : Int) == nd.s) = true := beq_iff_eq.2 (by rw [hbt]; exact hbe)
        clear yes no
        go_enter Tryd.func61, Tryd.ntmps61
        go_wp2_with fail
        generalize (W.alloc (.cells #[Value.int .u64 0, .int .u64 0, .int .u64 0, .int .u64 0, .int .u64 0, .int .u64 0, .int .u64 0, .int .u64 0] 31)) = W1 at *
        go_quiet (fail)
        go_wp2_with ((go_at_call 60; (with_reducible refine (HC.out _).mono ?_); rintro e w2 ⟨rfl, h2⟩); (replace h2 := ((Ext.refl W1).drewN _).trans h2); (have HZ2 := Lib.hid (HZ.out.ext h2 HS.out)); (have HX2 := Lib.hid (HX.out.trans h2)); clear h2; have H__ := (HZ2).out; obtain ⟨ce0, fe0⟩ := H__ 0 (by omega); obtain ⟨ce1, fe1⟩ := H__ 1 (by omega); obtain ⟨ce2, fe2⟩ := H__ 2 (by omega); obtain ⟨ce3, fe3⟩ := H__ 3 (by omega); obtain ⟨ce4, fe4⟩ := H__ 4 (by omega); obtain ⟨ce5, fe5⟩ := H__ 5 (by omega); obtain ⟨ce6, fe6⟩ := H__ 6 (by omega); obtain ⟨ce7, fe7⟩ := H__ 7 (by omega); clear H__)
        have HEX : Hid (Ext W ((((((((w2.setCell ⟨W.heap.size, 0, none⟩ (.int .u64 (wd (r) 0 : Nat))).setCell ⟨W.heap.size, 1, none⟩ (.int .u64 (wd (r) 1 : Nat))).setCell ⟨W.heap.size, 2, none⟩ (.int .u64 (wd (r) 2 : Nat))).setCell ⟨W.heap.size, 3, none⟩ (.int .u64 (wd (r) 3 : Nat))).setCell ⟨W.heap.size, 4, none⟩ (.int .u64 (wd (r) 4 : Nat))).setCell ⟨W.heap.size, 5, none⟩ (.int .u64 (wd (r) 5 : Nat))).setCell ⟨W.heap.size, 6, none⟩ (.int .u64 (wd (r) 6 : Nat))).setCell ⟨W.heap.size, 7, none⟩ (.int .u64 (wd (r) 7 : Nat)))) := ((((((((HX2.out.set (by first | exact Nat.le_refl _ | exact Nat.le_succ _ | exact Nat.le_add_right _ _ | exact Nat.le_trans (Nat.le_succ _) (Nat.le_succ _) | omega) _).set (by first | exact Nat.le_refl _ | exact Nat.le_succ _ | exact Nat.le_add_right _ _ | exact Nat.le_trans (Nat.le_succ _) (Nat.le_succ _) | omega) _).set (by first | exact Nat.le_refl _ | exact Nat.le_succ _ | exact Nat.le_add_right _ _ | exact Nat.le_trans (Nat.le_succ _) (Nat.le_succ _) | omega) _).set (by first | exact Nat.le_refl _ | exact Nat.le_succ _ | exact Nat.le_add_right _ _ | exact Nat.le_trans (Nat.le_succ _) (Nat.le_succ _) | omega) _).set (by first | exact Nat.le_refl _ | exact Nat.le_succ _ | exact Nat.le_add_right _ _ | exact Nat.le_trans (Nat.le_succ _) (Nat.le_succ _) | omega) _).set (by first | exact Nat.le_refl _ | exact Nat.le_succ _ | exact Nat.le_add_right _ _ | exact Nat.le_trans (Nat.le_succ _) (Nat.le_succ _) | omega) _).set (by first | exact Nat.le_refl _ | exact Nat.le_succ _ | exact Nat.le_add_right _ _ | exact Nat.le_trans (Nat.le_succ _) (Nat.le_succ _) | omega) _).set (by first | exact Nat.le_refl _ | exact Nat.le_succ _ | exact Nat.le_add_right _ _ | exact Nat.le_trans (Nat.le_succ _) (Nat.le_succ _) | omega) _)
        exact bodyPost_ret (v := Value.agg #[.int .u64 (wd (r) 0 : Nat), .int .u64 (wd (r) 1 : Nat), .int .u64 (wd (r) 2 : Nat), .int .u64 (wd (r) 3 : Nat), .int .u64 (wd (r) 4 : Nat), .int .u64 (wd (r) 5 : Nat), .int .u64 (wd (r) 6 : Nat), .int .u64 (wd (r) 7 : Nat)]) (by simp [results, Tryd.results61, go_sem, *]) rfl ⟨rfl, HEX⟩
      · have hN := no (by rintro ⟨_, h | h⟩; exact h4 h; exact hbe h)
        subst hN
        simp only [wd_none]
        have hbe' : (((s[i]'hlt).toNat : Int) == nd.s) = false := beq_eq_false_iff_ne.2 (by rw [hbt]; exact hbe)
        clear yes no
        go_enter Tryd.func61, Tryd.ntmps61
        go_wp2_with fail
        generalize (W.alloc (.cells #[Value.int .u64 0, .int .u64 0, .int .u64 0, .int .u64 0, .int .u64 0, .int .u64 0, .int .u64 0, .int .u64 0] 31)) = W1 at *
        go_quiet (fail)
        generalize hW2 : W1.drewN nq = W2
        have HX2 : Hid (Ext W W2) := by rw [← hW2]; exact HX.out.drewN _
        have HZ2 : Hid (Arr W2 W.heap.size (fun _ => false)) := by rw [← hW2]; exact HZ.out.ext ((Ext.refl W1).drewN _) HS.out
        clear hW2
        have H__ := (HZ2).out; obtain ⟨ce0, fe0⟩ := H__ 0 (by omega); obtain ⟨ce1, fe1⟩ := H__ 1 (by omega); obtain ⟨ce2, fe2⟩ := H__ 2 (by omega); obtain ⟨ce3, fe3⟩ := H__ 3 (by omega); obtain ⟨ce4, fe4⟩ := H__ 4 (by omega); obtain ⟨ce5, fe5⟩ := H__ 5 (by omega); obtain ⟨ce6, fe6⟩ := H__ 6 (by omega); obtain ⟨ce7, fe7⟩ := H__ 7 (by omega); clear H__
        go_wp2_with fail
        have HEX : Hid (Ext W ((((((((W2.setCell ⟨W.heap.size, 0, none⟩ (.int .u64 0)).setCell ⟨W.heap.size, 1, none⟩ (.int .u64 0)).setCell ⟨W.heap.size, 2, none⟩ (.int .u64 0)).setCell ⟨W.heap.size, 3, none⟩ (.int .u64 0)).setCell ⟨W.heap.size, 4, none⟩ (.int .u64 0)).setCell ⟨W.heap.size, 5, none⟩ (.int .u64 0)).setCell ⟨W.heap.size, 6, none⟩ (.int .u64 0)).setCell ⟨W.heap.size, 7, none⟩ (.int .u64 0))) := ((((((((HX2.out.set (by first | exact Nat.le_refl _ | exact Nat.le_succ _ | exact Nat.le_add_right _ _ | exact Nat.le_trans (Nat.le_succ _) (Nat.le_succ _) | omega) _).set (by first | exact Nat.le_refl _ | exact Nat.le_succ _ | exact Nat.le_add_right _ _ | exact Nat.le_trans (Nat.le_succ _) (Nat.le_succ _) | omega) _).set (by first | exact Nat.le_refl _ | exact Nat.le_succ _ | exact Nat.le_add_right _ _ | exact Nat.le_trans (Nat.le_succ _) (Nat.le_succ _) | omega) _).set (by first | exact Nat.le_refl _ | exact Nat.le_succ _ | exact Nat.le_add_right _ _ | exact Nat.le_trans (Nat.le_succ _) (Nat.le_succ _) | omega) _).set (by first | exact Nat.le_refl _ | exact Nat.le_succ _ | exact Nat.le_add_right _ _ | exact Nat.le_trans (Nat.le_succ _) (Nat.le_succ _) | omega) _).set (by first | exact Nat.le_refl _ | exact Nat.le_succ _ | exact Nat.le_add_right _ _ | exact Nat.le_trans (Nat.le_succ _) (Nat.le_succ _) | omega) _).set (by first | exact Nat.le_refl _ | exact Nat.le_succ _ | exact Nat.le_add_right _ _ | exact Nat.le_trans (Nat.le_succ _) (Nat.le_succ _) | omega) _).set (by first | exact Nat.le_refl _ | exact Nat.le_succ _ | exact Nat.le_add_right _ _ | exact Nat.le_trans (Nat.le_succ _) (Nat.le_succ _) | omega) _)
        exact bodyPost_ret (v := Value.agg #[.int .u64 0, .int .u64 0, .int .u64 0, .int .u64 0, .int .u64 0, .int .u64 0, .int .u64 0, .int .u64 0]) (by simp [results, Tryd.results61, go_sem, *]) rfl ⟨rfl, HEX.out⟩
  · have hlt' : decide ((i : Int) < s.size) = false := decide_eq_false (by omega)
    have hN := no (by rintro ⟨h, _⟩; exact hlt h)
    subst hN
    simp only [wd_none]
    clear yes no
    go_enter Tryd.func61, Tryd.ntmps61
    go_wp2_with fail
    generalize (W.alloc (.cells #[Value.int .u64 0, .int .u64 0, .int .u64 0, .int .u64 0, .int .u64 0, .int .u64 0, .int .u64 0, .int .u64 0] 31)) = W1 at *
    go_quiet (fail)
    generalize hW2 : W1.drewN nq = W2
    have HX2 : Hid (Ext W W2) := by rw [← hW2]; exact HX.out.drewN _
    have HZ2 : Hid (Arr W2 W.heap.size (fun _ => false)) := by rw [← hW2]; exact HZ.out.ext ((Ext.refl W1).drewN _) HS.out
    clear hW2
    have H__ := (HZ2).out; obtain ⟨ce0, fe0⟩ := H__ 0 (by omega); obtain ⟨ce1, fe1⟩ := H__ 1 (by omega); obtain ⟨ce2, fe2⟩ := H__ 2 (by omega); obtain ⟨ce3, fe3⟩ := H__ 3 (by omega); obtain ⟨ce4, fe4⟩ := H__ 4 (by omega); obtain ⟨ce5, fe5⟩ := H__ 5 (by omega); obtain ⟨ce6, fe6⟩ := H__ 6 (by omega); obtain ⟨ce7, fe7⟩ := H__ 7 (by omega); clear H__
    go_wp2_with fail
    have HEX : Hid (Ext W ((((((((W2.setCell ⟨W.heap.size, 0, none⟩ (.int .u64 0)).setCell ⟨W.heap.size, 1, none⟩ (.int .u64 0)).setCell ⟨W.heap.size, 2, none⟩ (.int .u64 0)).setCell ⟨W.heap.size, 3, none⟩ (.int .u64 0)).setCell ⟨W.heap.size, 4, none⟩ (.int .u64 0)).setCell ⟨W.heap.size, 5, none⟩ (.int .u64 0)).setCell ⟨W.heap.size, 6, none⟩ (.int .u64 0)).setCell ⟨W.heap.size, 7, none⟩ (.int .u64 0))) := ((((((((HX2.out.set (by first | exact Nat.le_refl _ | exact Nat.le_succ _ | exact Nat.le_add_right _ _ | exact Nat.le_trans (Nat.le_succ _) (Nat.le_succ _) | omega) _).set (by first | exact Nat.le_refl _ | exact Nat.le_succ _ | exact Nat.le_add_right _ _ | exact Nat.le_trans (Nat.le_succ _) (Nat.le_succ _) | omega) _).set (by first | exact Nat.le_refl _ | exact Nat.le_succ _ | exact Nat.le_add_right _ _ | exact Nat.le_trans (Nat.le_succ _) (Nat.le_succ _) | omega) _).set (by first | exact Nat.le_refl _ | exact Nat.le_succ _ | exact Nat.le_add_right _ _ | exact Nat.le_trans (Nat.le_succ _) (Nat.le_succ _) | omega) _).set (by first | exact Nat.le_refl _ | exact Nat.le_succ _ | exact Nat.le_add_right _ _ | exact Nat.le_trans (Nat.le_succ _) (Nat.le_succ _) | omega) _).set (by first | exact Nat.le_refl _ | exact Nat.le_succ _ | exact Nat.le_add_right _ _ | exact Nat.le_trans (Nat.le_succ _) (Nat.le_succ _) | omega) _).set (by first | exact Nat.le_refl _ | exact Nat.le_succ _ | exact Nat.le_add_right _ _ | exact Nat.le_trans (Nat.le_succ _) (Nat.le_succ _) | omega) _).set (by first | exact Nat.le_refl _ | exact Nat.le_succ _ | exact Nat.le_add_right _ _ | exact Nat.le_trans (Nat.le_succ _) (Nat.le_succ _) | omega) _)
    exact bodyPost_ret (v := Value.agg #[.int .u64 0, .int .u64 0, .int .u64 0, .int .u64 0, .int .u64 0, .int .u64 0, .int .u64 0, .int .u64 0]) (by simp [results, Tryd.results61, go_sem, *]) rfl ⟨rfl, HEX.out⟩
end Go.Proofs.YtdeppnamhdbbhaaDoor
namespace Go.Eg

/-- The numbers from i on. -/
def fromS (p : Nat → Bool) (i n : Nat) : Bool := p n && decide (i ≤ n)
theorem ctz_bits {x : Nat} (h0 : x ≠ 0) (h : x < 2 ^ 64) : Lib.ctz 64 x < 64 ∧ x.testBit (Lib.ctz 64 x) = true ∧ (∀ b, b < Lib.ctz 64 x → x.testBit b = false) ∧ (x &&& (x - 1)) < x ∧ ∀ b, (x &&& (x - 1)).testBit b = (x.testBit b && decide (b ≠ Lib.ctz 64 x)) := by
  obtain ⟨m, hm, hk⟩ := Lib.ctzFrom_spec 64 x (by omega) h
  have e : Lib.ctz 64 x = Lib.ctzFrom 64 x := by simp [Lib.ctz, h0]
  rw [e]
  generalize Lib.ctzFrom 64 x = k at *
  have hp : 0 < 2 ^ k := Nat.two_pow_pos _
  have bit : ∀ b, x.testBit b = (decide (k ≤ b) && (2 * m + 1).testBit (b - k)) := fun b => by rw [hm, Nat.mul_comm, Nat.testBit_mul_two_pow]
  have e1 : x - 1 = 2 ^ k * (2 * m) + (2 ^ k - 1) := by
    rw [hm, Nat.mul_add, Nat.mul_one]; omega
  have bit1 : ∀ b, (x - 1).testBit b = if b < k then true else (2 * m).testBit (b - k) := fun b => by
    rw [e1, Nat.testBit_two_pow_mul_add _ (by omega)]
    split
    · rename_i hb; rw [Nat.testBit_two_pow_sub_one, decide_eq_true hb]
    · rfl
  have all : ∀ b, (x &&& (x - 1)).testBit b = (x.testBit b && decide (b ≠ k)) := fun b => by
    rw [Nat.testBit_and, bit, bit1]
    by_cases h1 : b < k
    · rw [if_pos h1, decide_eq_false (by omega)]; simp
    · rw [if_neg h1, decide_eq_true (by omega)]
      by_cases h2 : b = k
      · subst h2
        simp [Nat.testBit_zero]
      · obtain ⟨d, hd⟩ : ∃ d, b - k = d + 1 := ⟨b - k - 1, by omega⟩
        rw [hd, Nat.testBit_succ, Nat.testBit_succ, show (2 * m + 1) / 2 = m by omega, show 2 * m / 2 = m by omega]
        simp [h2]
  refine ⟨hk, ?_, ?_, ?_, all⟩
  · rw [bit]; simp [Nat.testBit_zero]
  · intro b hb
    rw [bit, decide_eq_false (by omega)]; rfl
  · have : x &&& (x - 1) ≤ x - 1 := Nat.and_le_right
    omega
theorem rest_start (p : Nat → Bool) (j : Nat) : wd p j = wd (fromS p (64 * j)) j := wd_congr fun b hb => by unfold fromS; rw [decide_eq_true (by omega), Bool.and_true]
theorem rest_zero {p : Nat → Bool} {i j : Nat} (h : wd (fromS p i) j = 0) {n : Nat} (h1 : i ≤ n) (h2 : 64 * j ≤ n) (h3 : n < 64 * (j + 1)) : p n = false := by
  have := wd_bit (fromS p i) j (n - 64 * j)
  rw [h, Nat.zero_testBit, decide_eq_true (by omega), Bool.true_and, show 64 * j + (n - 64 * j) = n by omega, fromS, decide_eq_true h1, Bool.and_true] at this
  exact this.symm
theorem rest_low {p : Nat → Bool} {i j : Nat} (h : wd (fromS p i) j ≠ 0) : ∃ n, n = 64 * j + Lib.ctz 64 (wd (fromS p i) j) ∧ i ≤ n ∧ n < 64 * (j + 1) ∧ p n = true ∧ (∀ m, i ≤ m → 64 * j ≤ m → m < n → p m = false) ∧
    (wd (fromS p i) j &&& (wd (fromS p i) j - 1)) < wd (fromS p i) j ∧ (wd (fromS p i) j &&& (wd (fromS p i) j - 1)) = wd (fromS p (n + 1)) j := by
  obtain ⟨h1, h2, h3, h4, h5⟩ := ctz_bits h (wd_lt _ _)
  have hlt := wd_lt (fromS p i) j
  have bits := wd_bit (fromS p i) j
  generalize hk : Lib.ctz 64 (wd (fromS p i) j) = k at *
  have hb := bits k
  rw [h2, decide_eq_true h1, Bool.true_and, fromS] at hb
  have hb' := hb.symm
  rw [Bool.and_eq_true, decide_eq_true_iff] at hb'
  refine ⟨64 * j + k, rfl, hb'.2, by omega, hb'.1, ?_, h4, ?_⟩
  · intro m m1 m2 m3
    have := bits (m - 64 * j)
    rw [h3 _ (by omega), decide_eq_true (by omega), Bool.true_and, show 64 * j + (m - 64 * j) = m by omega, fromS, decide_eq_true m1, Bool.and_true] at this
    exact this.symm
  · refine word_ext (Nat.lt_trans h4 hlt) (wd_lt _ _) fun b hb64 => ?_
    rw [h5, bits, wd_bit, decide_eq_true hb64, Bool.true_and, Bool.true_and, fromS, fromS]
    by_cases hbk : b = k
    · subst hbk
      rw [decide_eq_false (show ¬ (64 * j + b + 1 ≤ 64 * j + b) by omega)]; simp
    · by_cases hbl : b < k
      · have := h3 b hbl
        rw [bits, decide_eq_true hb64, Bool.true_and, fromS] at this
        rw [this, decide_eq_false (show ¬ (64 * j + k + 1 ≤ 64 * j + b) by omega)]; simp
      · rw [decide_eq_true (show i ≤ 64 * j + b by omega), decide_eq_true (show 64 * j + k + 1 ≤ 64 * j + b by omega)]; simp [hbk]
end Go.Eg
namespace Go.Proofs.YtdeppnamhdbbhaaDoor
open Go.RowKit Go.Eg

/-- The library's table in its variable. -/
def Tab (w : World) : Prop := TabAt 0 Lib.deBruijn64tab w
theorem tab_len : Lib.deBruijn64tab.length = 64 := by decide
theorem Tab.lt {w : World} (h : Tab w) : 0 < w.heap.size := World.block_lt_of_cell? w _ (h 0 (by rw [tab_len]; decide))
theorem Tab.ext {w w' : World} (h : Tab w) (he : Ext w w') : Tab w' := fun j hj => (he.cell _ _ h.lt).trans (h j hj)
theorem tz_facts (x : Nat) (h0 : x ≠ 0) (hx : x < 2 ^ 64) (w : World) (hT : Tab w) : ∃ idx : Nat, idx < 64 ∧ IntKind.u64.wrap (bits BinOp.and IntKind.u64 (x : Int) (IntKind.u64.wrap (-(x : Int))) * 285870213051353865) / 288230376151711744 = (idx : Int) ∧ w.cell? ⟨0, idx, none⟩ = some (.int .u8 (Lib.ctz 64 x)) := by
  obtain ⟨hlow, hk⟩ := Lib.lowest_bit 64 x h0 hx
  obtain ⟨hi, htab⟩ := Lib.deBruijn64_at _ hk
  have key := tz64_key x _ hx h0 hlow
  refine ⟨_, hi, key, ?_⟩
  have hcell := hT _ (by rw [tab_len]; exact hi)
  rw [htab] at hcell
  exact hcell
set_option maxHeartbeats 1000000 in
theorem tz_calls (x : Nat) (h0 : x ≠ 0) (hx : x < 2 ^ 64) (w : World) (hT : Tab w) : Calls Tryd.prog 38 #[.int .u64 x] w fun e w' => e = .returned (.int .i64 (Lib.ctz 64 x)) ∧ w' = w := by
  obtain ⟨idx, hi, key, hcell⟩ := tz_facts x h0 hx w hT
  have hx0 : ((x : Int) == 0) = false := by simp; omega
  have hk : Lib.ctz 64 x < 64 := (Lib.lowest_bit 64 x h0 hx).2
  generalize Lib.ctz 64 x = k at *
  clear hT hx h0
  go_enter Tryd.func38, Tryd.ntmps38
  go_wp2_with (simp only [key])
  go_ret
  exact ⟨rfl, rfl⟩
theorem skips {p : Nat → Bool} {I : Nat → World → Prop} (hs : ∀ i w, p i = false → I i w → I (i + 1) w) {i : Nat} {w : World} (h : I i w) : ∀ d, (∀ m, i ≤ m → m < i + d → p m = false) → I (i + d) w
  | 0, _ => h
  | d + 1, hm => hs (i + d) _ (hm (i + d) (Nat.le_add_right _ _) (by omega)) (skips hs h d (fun m h1 h2 => hm m h1 (by omega)))
set_option maxHeartbeats 2000000 in
set_option maxRecDepth 100000 in
theorem each_shift (p : Nat → Bool) (a b : Addr) (I : Nat → World → Prop) (hT : ∀ i w, I i w → Tab w) (hs : ∀ i w, p i = false → I i w → I (i + 1) w)
    (hc : ∀ i w, i < 512 → p i = true → I i w → Calls Tryd.prog 28 #[.int .i64 (i : Int), .pointer (some a), .pointer (some b)] w fun e w' => e = .returned (.bool true) ∧ I (i + 1) w')
    (w : World) (h0 : I 0 (w.alloc (.cells #[Value.int .u64 (wd (p) 0 : Nat), .int .u64 (wd (p) 1 : Nat), .int .u64 (wd (p) 2 : Nat), .int .u64 (wd (p) 3 : Nat), .int .u64 (wd (p) 4 : Nat), .int .u64 (wd (p) 5 : Nat), .int .u64 (wd (p) 6 : Nat), .int .u64 (wd (p) 7 : Nat)] 31))) :
    Calls Tryd.prog 27 #[Value.agg #[.int .u64 (wd (p) 0 : Nat), .int .u64 (wd (p) 1 : Nat), .int .u64 (wd (p) 2 : Nat), .int .u64 (wd (p) 3 : Nat), .int .u64 (wd (p) 4 : Nat), .int .u64 (wd (p) 5 : Nat), .int .u64 (wd (p) 6 : Nat), .int .u64 (wd (p) 7 : Nat)], .func (.func 28) #[] #[.pointer (some a), .pointer (some b)]] w fun e w' => e = .returned (.tuple #[]) ∧ I 512 w' := by
  go_enter Tryd.func27, Tryd.ntmps27
  go_wp2_with fail
  go_loopw [7] (fun v7 wr => ∃ j : Nat, v7 = .int .i64 j ∧ j ≤ 8 ∧ Hid (I (64 * j) wr)) (fun v7 _ => 8 - (intOf v7).toNat)
  case atStart => exact ⟨0, rfl, by omega, Lib.hid h0⟩
  case round =>
    obtain ⟨j, rfl, hj, HI⟩ := hrel
    by_cases hlt : j < 8
    · have harr := index_set p hlt
      go_wp2_with fail
      rw [show decide ((j : Int) < 8) = true by simp; omega]
      go_loopw [5] (fun v5 wq => ∃ i : Nat, v5 = .int .u64 (wd (fromS p i) j : Nat) ∧ 64 * j ≤ i ∧ i ≤ 64 * (j + 1) ∧ Hid (I i wq)) (fun v5 _ => (intOf v5).toNat)
      case atStart => exact ⟨64 * j, val_int (by rw [← rest_start]), by omega, by omega, HI⟩
      case round =>
        obtain ⟨i, rfl, hi1, hi2, HJ⟩ := hrel
        by_cases hz : wd (fromS p i) j = 0
        · have HN := Lib.hid (skips hs HJ.out (64 * (j + 1) - i) (fun m m1 m2 => rest_zero hz m1 (by omega) (by omega)))
          rw [show i + (64 * (j + 1) - i) = 64 * (j + 1) by omega] at HN
          go_wp2_with fail
          go_roundw
          case rel => exact ⟨j + 1, by go_num, by omega, HN⟩
          case measure => simp [intOf]; omega
        · obtain ⟨n, hn, n1, n2, n3, n4, n5, n6⟩ := rest_low hz
          have HN := Lib.hid (skips hs HJ.out (n - i) (fun m m1 m2 => n4 m m1 (by omega) (by omega)))
          rw [show i + (n - i) = n by omega] at HN
          have hz1 := tz_calls _ hz (wd_lt (fromS p i) j) _ (hT _ _ HN.out)
          have hcl := hc n _ (by omega) n3 HN.out
          have hXl := wd_lt' (fromS p i) j
          generalize wd (fromS p i) j = X at *
          have hn' : (64 * (j : Int) + (Lib.ctz 64 X : Nat)) = (n : Int) := by omega
          have hx1 : IntKind.u64.wrap ((X : Int) - 1) = ((X - 1 : Nat) : Int) := by rw [IntKind.wrap_u64]; omega
          have hx2 : bits .and .u64 (X : Int) ((X - 1 : Nat) : Int) = ((wd (fromS p (n + 1)) j : Nat) : Int) := by
            rw [← n6]; exact u64_and_nat _ _ hXl (by omega)
          have hX0 : ((X : Int) != 0) = true := bne_iff_ne.2 (by omega)
          have HY := Lib.hid (show wd (fromS p (n + 1)) j < X by rw [← n6]; exact n5)
          have hck : Lib.ctz 64 X < 64 := by omega
          have HZ1 := Lib.hid hz1
          have HCL := Lib.hid hcl
          generalize X - 1 = X1 at *
          clear n4 n5 n6 hn n3 hz hz1 hcl
          go_wp2_with (first | (go_at_call 38; (with_reducible refine (HZ1.out).mono ?_); rintro e w' ⟨rfl, hw⟩; obtain rfl := hw.symm) | ((try rw [hn']); (go_at_call 28; (with_reducible refine (HCL.out).mono ?_); rintro e w1 ⟨rfl, HK⟩); replace HK := Lib.hid HK))
          go_roundw
          case rel => exact ⟨n + 1, rfl, by omega, by omega, HK⟩
          case measure => simp [intOf]; exact HY.out
    · have hj' : j = 8 := by omega
      subst hj'
      go_wp2_with fail
      exact ⟨rfl, .tuple #[], by simp [results, Tryd.results27, go_sem], rfl, HI.out⟩
end Go.Proofs.YtdeppnamhdbbhaaDoor
namespace Go.Proofs.YtdeppnamhdbbhaaDoor
open Go.RowKit Go.Eg

set_option maxHeartbeats 1000000 in
theorem nextStep_calls (b1 b2 k : Nat) (u1 u2 : Value) (w : World) (hb : b1 ≠ b2) (h1 : w.cell? ⟨b1, 0, none⟩ = some u1) (f1 : w.frozen? ⟨b1, 0, none⟩ = false) (h2 : w.cell? ⟨b2, 0, none⟩ = some u2) (f2 : w.frozen? ⟨b2, 0, none⟩ = false) :
    Calls Tryd.prog 82 #[.int .i64 (k : Int), .pointer (some ⟨b1, 0, none⟩), .pointer (some ⟨b2, 0, none⟩)] w fun e w' => e = .returned (.bool false) ∧ w'.cell? ⟨b1, 0, none⟩ = some (.int .i64 (k : Int)) ∧ w'.cell? ⟨b2, 0, none⟩ = some (.bool true) ∧ (∀ w0, Ext w0 w → w0.heap.size ≤ b1 → w0.heap.size ≤ b2 → Ext w0 w') := by
  have hb' : ¬ (b2 = b1) := fun e => hb e.symm
  go_enter Tryd.func82, Tryd.ntmps82
  go_wp2_with fail
  go_ret
  refine ⟨rfl, ?_, ?_, fun w0 h l1 l2 => (h.set l1 _).set l2 _⟩
  · rw [World.cell?_setCell_other _ _ _ _ (fun e => hb' (congrArg Addr.block e))]
    exact World.cell?_setCell_same w _ _ h1
  · refine World.cell?_setCell_same (u := u2) _ _ _ ?_
    rw [World.cell?_setCell_other _ _ _ _ (fun e => hb (congrArg Addr.block e))]
    exact h2
set_option maxHeartbeats 2000000 in
set_option maxRecDepth 100000 in
theorem each_next (p : Nat → Bool) (a b : Addr) (I J : Nat → World → Prop) (hT : ∀ i w, I i w → Tab w) (hs : ∀ i w, p i = false → I i w → I (i + 1) w)
    (hc : ∀ i w, i < 512 → p i = true → I i w → Calls Tryd.prog 82 #[.int .i64 (i : Int), .pointer (some a), .pointer (some b)] w fun e w' => e = .returned (.bool false) ∧ J i w')
    (w : World) (h0 : I 0 (w.alloc (.cells #[Value.int .u64 (wd (p) 0 : Nat), .int .u64 (wd (p) 1 : Nat), .int .u64 (wd (p) 2 : Nat), .int .u64 (wd (p) 3 : Nat), .int .u64 (wd (p) 4 : Nat), .int .u64 (wd (p) 5 : Nat), .int .u64 (wd (p) 6 : Nat), .int .u64 (wd (p) 7 : Nat)] 31))) :
    Calls Tryd.prog 27 #[Value.agg #[.int .u64 (wd (p) 0 : Nat), .int .u64 (wd (p) 1 : Nat), .int .u64 (wd (p) 2 : Nat), .int .u64 (wd (p) 3 : Nat), .int .u64 (wd (p) 4 : Nat), .int .u64 (wd (p) 5 : Nat), .int .u64 (wd (p) 6 : Nat), .int .u64 (wd (p) 7 : Nat)], .func (.func 82) #[] #[.pointer (some a), .pointer (some b)]] w fun e w' => e = .returned (.tuple #[]) ∧ (I 512 w' ∨ ∃ n, n < 512 ∧ p n = true ∧ J n w') := by
  go_enter Tryd.func27, Tryd.ntmps27
  go_wp2_with fail
  go_loopw [7] (fun v7 wr => ∃ j : Nat, v7 = .int .i64 j ∧ j ≤ 8 ∧ Hid (I (64 * j) wr)) (fun v7 _ => 8 - (intOf v7).toNat)
  case atStart => exact ⟨0, rfl, by omega, Lib.hid h0⟩
  case round =>
    obtain ⟨j, rfl, hj, HI⟩ := hrel
    by_cases hlt : j < 8
    · have harr := index_set p hlt
      go_wp2_with fail
      rw [show decide ((j : Int) < 8) = true by simp; omega]
      go_loopw [5] (fun v5 wq => ∃ i : Nat, v5 = .int .u64 (wd (fromS p i) j : Nat) ∧ 64 * j ≤ i ∧ i ≤ 64 * (j + 1) ∧ Hid (I i wq)) (fun v5 _ => (intOf v5).toNat)
      case atStart => exact ⟨64 * j, val_int (by rw [← rest_start]), by omega, by omega, HI⟩
      case round =>
        obtain ⟨i, rfl, hi1, hi2, HJ⟩ := hrel
        by_cases hz : wd (fromS p i) j = 0
        · have HN := Lib.hid (skips hs HJ.out (64 * (j + 1) - i) (fun m m1 m2 => rest_zero hz m1 (by omega) (by omega)))
          rw [show i + (64 * (j + 1) - i) = 64 * (j + 1) by omega] at HN
          go_wp2_with fail
          go_roundw
          case rel => exact ⟨j + 1, by go_num, by omega, HN⟩
          case measure => simp [intOf]; omega
        · obtain ⟨n, hn, n1, n2, n3, n4, n5, n6⟩ := rest_low hz
          have HN := Lib.hid (skips hs HJ.out (n - i) (fun m m1 m2 => n4 m m1 (by omega) (by omega)))
          rw [show i + (n - i) = n by omega] at HN
          have hz1 := tz_calls _ hz (wd_lt (fromS p i) j) _ (hT _ _ HN.out)
          have hcl := hc n _ (by omega) n3 HN.out
          have HP := Lib.hid n3
          have hn512 : n < 512 := by omega
          generalize wd (fromS p i) j = X at *
          have hn' : (64 * (j : Int) + (Lib.ctz 64 X : Nat)) = (n : Int) := by omega
          have hX0 : ((X : Int) != 0) = true := bne_iff_ne.2 (by omega)
          have hck : Lib.ctz 64 X < 64 := by omega
          have HZ1 := Lib.hid hz1
          have HCL := Lib.hid hcl
          clear n4 n5 n6 hn n3 hz hz1 hcl
          go_wp2_with (first | (go_at_call 38; (with_reducible refine (HZ1.out).mono ?_); rintro e w' ⟨rfl, hw⟩; obtain rfl := hw.symm) | ((try rw [hn']); (go_at_call 82; (with_reducible refine (HCL.out).mono ?_); rintro e w1 ⟨rfl, HK⟩); replace HK := Lib.hid HK))
          exact bodyPost_ret (v := .tuple #[]) (by simp [results, Tryd.results27, go_sem]) rfl ⟨rfl, .inr ⟨n, hn512, HP.out, HK.out⟩⟩
    · have hj' : j = 8 := by omega
      subst hj'
      go_wp2_with fail
      exact ⟨rfl, .tuple #[], by simp [results, Tryd.results27, go_sem], rfl, .inl HI.out⟩
/-- What Next's walk over the rest leaves in its two variables. -/
theorem next_each (p q : Nat → Bool) (x : Int) (W Wz : World) (hT : Tab W) (he : Ext W Wz) (hqf : ∀ m : Nat, q m = false → x ≤ m → p m = false) (hqt : ∀ m : Nat, q m = true → p m = true ∧ x ≤ m) :
    Calls Tryd.prog 27 #[Value.agg #[.int .u64 (wd (q) 0 : Nat), .int .u64 (wd (q) 1 : Nat), .int .u64 (wd (q) 2 : Nat), .int .u64 (wd (q) 3 : Nat), .int .u64 (wd (q) 4 : Nat), .int .u64 (wd (q) 5 : Nat), .int .u64 (wd (q) 6 : Nat), .int .u64 (wd (q) 7 : Nat)], .func (.func 82) #[] #[.pointer (some ⟨Wz.heap.size, 0, none⟩), .pointer (some ⟨Wz.heap.size + 1, 0, none⟩)]] ((Wz.alloc (.cells #[.int .i64 0] 3)).alloc (.cells #[.bool false] 4)) fun e w' => e = .returned (.tuple #[]) ∧
      w'.cell? ⟨Wz.heap.size, 0, none⟩ = some (.int .i64 (nextN p x)) ∧ w'.cell? ⟨Wz.heap.size + 1, 0, none⟩ = some (.bool (nextB p x)) ∧ Ext W w' := by
  obtain ⟨I, hI⟩ : ∃ I : Nat → World → Prop, I = fun i w' => (∀ m, m < i → q m = false) ∧ w'.cell? ⟨Wz.heap.size, 0, none⟩ = some (.int .i64 0) ∧ w'.frozen? ⟨Wz.heap.size, 0, none⟩ = false ∧ w'.cell? ⟨Wz.heap.size + 1, 0, none⟩ = some (.bool false) ∧ w'.frozen? ⟨Wz.heap.size + 1, 0, none⟩ = false ∧ Ext W w' := ⟨_, rfl⟩
  refine (each_next q ⟨Wz.heap.size, 0, none⟩ ⟨Wz.heap.size + 1, 0, none⟩ I (fun n w' => (∀ m, m < n → q m = false) ∧ w'.cell? ⟨Wz.heap.size, 0, none⟩ = some (.int .i64 (n : Int)) ∧ w'.cell? ⟨Wz.heap.size + 1, 0, none⟩ = some (.bool true) ∧ Ext W w')
    (fun i w' h => by rw [hI] at h; exact hT.ext h.2.2.2.2.2)
    (fun i w' hq h => by
      rw [hI] at h ⊢
      obtain ⟨h1, h2⟩ := h
      refine ⟨fun m hm => ?_, h2⟩
      by_cases e : m = i
      · rw [e]; exact hq
      · exact h1 m (by omega))
    (fun i w' hi hq h => by
      rw [hI] at h
      obtain ⟨h1, h2, h3, h4, h5, h6⟩ := h
      refine (nextStep_calls _ _ i _ _ w' (by omega) h2 h3 h4 h5).mono ?_
      rintro e w2 ⟨rfl, k1, k2, k3⟩
      exact ⟨rfl, h1, k1, k2, k3 _ h6 he.le (Nat.le_trans he.le (Nat.le_succ _))⟩)
    _ ?_).mono ?_
  · rw [hI]
    have h1 : ∀ o : Obj, Ext ((Wz.alloc (.cells #[.int .i64 0] 3)).alloc (.cells #[.bool false] 4)) (((Wz.alloc (.cells #[.int .i64 0] 3)).alloc (.cells #[.bool false] 4)).alloc o) := fun o => (Ext.refl _).alloc o
    exact ⟨fun m hm => by omega, ((h1 _).cell _ _ (by simp; omega)).trans (by simp), ((h1 _).frozens _ _ (by simp; omega)).trans (by simp), ((h1 _).cell _ _ (by simp)).trans (by simp), ((h1 _).frozens _ _ (by simp)).trans (by simp), by (repeat (first | assumption | exact Ext.refl _ | apply Ext.alloc | apply Ext.drew | apply Ext.drewN | refine Ext.trans ?_ (by assumption)))⟩
  · rintro e w' ⟨rfl, h | ⟨n, hn, hq, h1, h2, h3, h4⟩⟩
    · rw [hI] at h
      obtain ⟨h1, h2, h3, h4, h5, h6⟩ := h
      have HO : nextO p x = none := find_nums_none (fun m hm hx => hqf m (h1 m hm) hx)
      exact ⟨rfl, by unfold nextN; rw [HO]; exact h2, by unfold nextB; rw [HO]; exact h4, h6⟩
    · have HO : nextO p x = some (n : Int) := find_nums_some (hqt n hq).1 (hqt n hq).2 (fun m hm hx => hqf m (h1 m hm) hx) 512 hn
      exact ⟨rfl, by unfold nextN; rw [HO]; exact h2, by unfold nextB; rw [HO]; exact h3, h4⟩
end Go.Proofs.YtdeppnamhdbbhaaDoor
namespace Go.Proofs.YtdeppnamhdbbhaaDoor
open Go.RowKit Go.Eg

theorem next_eachB (p q : Nat → Bool) (x : Int) (W Wz : World) (b : Nat) (hb : b = Wz.heap.size) (hT : Tab W) (he : Ext W Wz) (hqf : ∀ m : Nat, q m = false → x ≤ m → p m = false) (hqt : ∀ m : Nat, q m = true → p m = true ∧ x ≤ m) :
    Calls Tryd.prog 27 #[Value.agg #[.int .u64 (wd (q) 0 : Nat), .int .u64 (wd (q) 1 : Nat), .int .u64 (wd (q) 2 : Nat), .int .u64 (wd (q) 3 : Nat), .int .u64 (wd (q) 4 : Nat), .int .u64 (wd (q) 5 : Nat), .int .u64 (wd (q) 6 : Nat), .int .u64 (wd (q) 7 : Nat)], .func (.func 82) #[] #[.pointer (some ⟨b, 0, none⟩), .pointer (some ⟨b + 1, 0, none⟩)]] ((Wz.alloc (.cells #[.int .i64 0] 3)).alloc (.cells #[.bool false] 4)) fun e w' => e = .returned (.tuple #[]) ∧
      w'.cell? ⟨b, 0, none⟩ = some (.int .i64 (nextN p x)) ∧ w'.cell? ⟨b + 1, 0, none⟩ = some (.bool (nextB p x)) ∧ Ext W w' := by
  subst hb
  exact next_each p q x W Wz hT he hqf hqt
set_option maxHeartbeats 4000000 in
set_option maxRecDepth 100000 in
theorem Next_calls (p : Nat → Bool) (x : Int) (w : World) (hT : Tab w) : Calls Tryd.prog 79 #[Value.agg #[.int .u64 (wd (p) 0 : Nat), .int .u64 (wd (p) 1 : Nat), .int .u64 (wd (p) 2 : Nat), .int .u64 (wd (p) 3 : Nat), .int .u64 (wd (p) 4 : Nat), .int .u64 (wd (p) 5 : Nat), .int .u64 (wd (p) 6 : Nat), .int .u64 (wd (p) 7 : Nat)], .int .i64 x] w fun e w' => e = .returned (.tuple #[.int .i64 (nextN p x), .bool (nextB p x)]) ∧ Ext w w' := by
  by_cases hx : 512 ≤ x
  · have HO : Hid (nextO p x = none) := find_nums_none (fun m hm h => by omega)
    clear hT
    go_enter Tryd.func79, Tryd.ntmps79
    go_wp2_with fail
    go_ret2
    exact ⟨by unfold nextN nextB; rw [HO.out]; rfl, by (repeat (first | assumption | exact Ext.refl _ | apply Ext.alloc | apply Ext.drew | apply Ext.drewN | refine Ext.trans ?_ (by assumption)))⟩
  · have hx' : decide (512 ≤ x) = false := by simpa using hx
    obtain ⟨N, hN2, HU, hxN, HNX⟩ : ∃ N : Nat, N ≤ 512 ∧ Hid (∀ W, Calls Tryd.prog 80 #[.int .i64 (if x > 0 then x else 0)] W fun e w' => e = .returned (Value.agg #[.int .u64 (wd (loS N) 0 : Nat), .int .u64 (wd (loS N) 1 : Nat), .int .u64 (wd (loS N) 2 : Nat), .int .u64 (wd (loS N) 3 : Nat), .int .u64 (wd (loS N) 4 : Nat), .int .u64 (wd (loS N) 5 : Nat), .int .u64 (wd (loS N) 6 : Nat), .int .u64 (wd (loS N) 7 : Nat)]) ∧ Ext W w') ∧ (x ≤ N) ∧ (∀ m : Nat, x ≤ m → N ≤ m) := by
      by_cases h0 : x > 0
      · refine ⟨x.toNat, by omega, fun W => ?_, by omega, fun m hm => by omega⟩
        rw [if_pos h0]
        have := under_calls x.toNat (by omega) W
        rwa [Int.toNat_of_nonneg (by omega)] at this
      · refine ⟨0, by omega, fun W => ?_, by omega, fun m hm => by omega⟩
        rw [if_neg h0]
        exact under_calls 0 (by omega) W
    obtain ⟨m0, hif⟩ : ∃ m0, (if 0 < x then x else 0) = m0 := ⟨_, rfl⟩
    replace HU : Hid (∀ W, Calls Tryd.prog 80 #[.int .i64 m0] W fun e w' => e = .returned (Value.agg #[.int .u64 (wd (loS N) 0 : Nat), .int .u64 (wd (loS N) 1 : Nat), .int .u64 (wd (loS N) 2 : Nat), .int .u64 (wd (loS N) 3 : Nat), .int .u64 (wd (loS N) 4 : Nat), .int .u64 (wd (loS N) 5 : Nat), .int .u64 (wd (loS N) 6 : Nat), .int .u64 (wd (loS N) 7 : Nat)]) ∧ Ext W w') := by rw [← hif]; exact HU
    obtain ⟨q, hq⟩ : ∃ q, q = subS p (loS N) := ⟨_, rfl⟩
    have HQ := Lib.hid hq
    have hqf : ∀ m : Nat, q m = false → x ≤ m → p m = false := fun m h1 h2 => by
      rw [hq] at h1; unfold subS loS at h1
      rw [decide_eq_false (by have := HNX m h2; omega)] at h1; simpa using h1
    have hqt : ∀ m : Nat, q m = true → p m = true ∧ x ≤ m := fun m h1 => by
      rw [hq] at h1; unfold subS loS at h1
      simp at h1
      exact ⟨h1.1, by omega⟩
    have HB : Hid (Arr (w.alloc (.cells #[Value.int .u64 (wd (p) 0 : Nat), .int .u64 (wd (p) 1 : Nat), .int .u64 (wd (p) 2 : Nat), .int .u64 (wd (p) 3 : Nat), .int .u64 (wd (p) 4 : Nat), .int .u64 (wd (p) 5 : Nat), .int .u64 (wd (p) 6 : Nat), .int .u64 (wd (p) 7 : Nat)] 31)) w.heap.size p) := Lib.hid (Arr.made p rfl)
    have HX : Hid (Ext w (w.alloc (.cells #[Value.int .u64 (wd (p) 0 : Nat), .int .u64 (wd (p) 1 : Nat), .int .u64 (wd (p) 2 : Nat), .int .u64 (wd (p) 3 : Nat), .int .u64 (wd (p) 4 : Nat), .int .u64 (wd (p) 5 : Nat), .int .u64 (wd (p) 6 : Nat), .int .u64 (wd (p) 7 : Nat)] 31))) := by show Ext _ _; (repeat (first | assumption | exact Ext.refl _ | apply Ext.alloc | apply Ext.drew | apply Ext.drewN | refine Ext.set ?_ (by first | exact Nat.le_refl _ | assumption | exact Nat.le_succ _ | exact Nat.le_add_right _ _ | exact Nat.le_trans (Nat.le_succ _) (Nat.le_succ _) | omega) _ | refine Ext.trans ?_ (by assumption)))
    have HS : Hid (w.heap.size < (w.alloc (.cells #[Value.int .u64 (wd (p) 0 : Nat), .int .u64 (wd (p) 1 : Nat), .int .u64 (wd (p) 2 : Nat), .int .u64 (wd (p) 3 : Nat), .int .u64 (wd (p) 4 : Nat), .int .u64 (wd (p) 5 : Nat), .int .u64 (wd (p) 6 : Nat), .int .u64 (wd (p) 7 : Nat)] 31)).heap.size) := by show _ < _; simp
    have HT := Lib.hid (hT.ext HX.out)
    have HQF := Lib.hid hqf
    have HQT := Lib.hid hqt
    clear hT hx hq HNX hxN hqf hqt
    go_enter Tryd.func79, Tryd.ntmps79
    go_wp2_with fail
    generalize w.alloc (.cells #[Value.int .u64 (wd (p) 0 : Nat), .int .u64 (wd (p) 1 : Nat), .int .u64 (wd (p) 2 : Nat), .int .u64 (wd (p) 3 : Nat), .int .u64 (wd (p) 4 : Nat), .int .u64 (wd (p) 5 : Nat), .int .u64 (wd (p) 6 : Nat), .int .u64 (wd (p) 7 : Nat)] 31) = W at *
    have hbs := HS.out
    have H__ := (HB).out; obtain ⟨ce0, fe0⟩ := H__ 0 (by omega); obtain ⟨ce1, fe1⟩ := H__ 1 (by omega); obtain ⟨ce2, fe2⟩ := H__ 2 (by omega); obtain ⟨ce3, fe3⟩ := H__ 3 (by omega); obtain ⟨ce4, fe4⟩ := H__ 4 (by omega); obtain ⟨ce5, fe5⟩ := H__ 5 (by omega); obtain ⟨ce6, fe6⟩ := H__ 6 (by omega); obtain ⟨ce7, fe7⟩ := H__ 7 (by omega); clear H__
    go_region_with (first
      | ((go_at_call 80; (with_reducible refine (HU.out _).mono ?_); rintro e w1 ⟨rfl, h1⟩); (try replace h1 := Ext.undrew h1); have := (h1).cells; have := (h1).frozens; have : w.heap.size < w1.heap.size := Nat.lt_of_lt_of_le (by first | assumption | (simp; done) | (simp; omega)) (h1).le; (try (have := (h1).cells; have := (h1).frozens; have : W.heap.size < w1.heap.size := Nat.lt_of_lt_of_le (by first | assumption | (simp; done) | (simp; omega)) (h1).le)))
      | ((go_at_call 71; (with_reducible refine (minus_calls p (loS N) _).mono ?_); rintro e w2 ⟨rfl, h2⟩); rw [← HQ.out]; (try (have := (h2).cells; have := (h2).frozens; have : W.heap.size < w2.heap.size := Nat.lt_of_lt_of_le (by first | assumption | (simp; done) | (simp; omega)) (h2).le)); (try (have := (h2).cells; have := (h2).frozens; have : w1.heap.size < w2.heap.size := Nat.lt_of_lt_of_le (by first | assumption | (simp; done) | (simp; omega)) (h2).le))))
    all_goals
      have hx2 : Ext W w2 := by (repeat (first | assumption | exact Ext.refl _ | apply Ext.alloc | apply Ext.drew | apply Ext.drewN | refine Ext.trans ?_ (by assumption)))
      have HNX := Lib.hid (fun Wz b (hb : b = Wz.heap.size) hz => next_eachB p q x W Wz b hb HT.out hz HQF.out HQT.out)
      have hle1 := h1.le
      have hXX := HX.out
      clear HT HQF HQT HB HS HU HQ hbs
      go_wp2_with ((go_at_call 27; (with_reducible refine (HNX.out _ _ (by simp) (by (repeat (first | assumption | exact Ext.refl _ | apply Ext.alloc | apply Ext.drew | apply Ext.drewN | refine Ext.set ?_ (by first | exact Nat.le_refl _ | assumption | exact Nat.le_succ _ | exact Nat.le_add_right _ _ | exact Nat.le_trans (Nat.le_succ _) (Nat.le_succ _) | omega) _ | refine Ext.trans ?_ (by assumption))))).mono ?_); rintro e w3 ⟨rfl, k1, k2, h3⟩))
      go_quiet (fail)
      go_wp2_with fail
      go_ret2
      exact ⟨rfl, by (repeat (first | assumption | exact Ext.refl _ | apply Ext.alloc | apply Ext.drew | apply Ext.drewN | refine Ext.trans ?_ (by assumption)))⟩
end Go.Proofs.YtdeppnamhdbbhaaDoor
namespace Go.Proofs.YtdeppnamhdbbhaaDoor
open Go.RowKit Go.Eg

/-- The set of a place of a row. -/
def atS (xs : List (Nat → Bool)) (m : Nat) : Nat → Bool := xs.getD m (fun _ => false)
theorem atS_get {xs : List (Nat → Bool)} {m : Nat} (h : m < xs.length) : xs[m]? = some (atS xs m) := by simp [atS, List.getD_eq_getElem?_getD, List.getElem?_eq_getElem h]
def leftN (v6 : Value) : Value → Nat
  | .bool true => 513 - (intOf v6).toNat
  | _ => 0
theorem Arr.put8_other {w : World} {b b' o : Nat} {p r : Nat → Bool} (h : Arr w b p) (hb : b ≠ b') : Arr (Go.Proofs.YtdeppnamhdbbhaaDoor.put8 w b' o r) b p := by
  unfold Go.Proofs.YtdeppnamhdbbhaaDoor.put8
  refine Arr.other ?_ hb
  refine Arr.other ?_ hb
  refine Arr.other ?_ hb
  refine Arr.other ?_ hb
  refine Arr.other ?_ hb
  refine Arr.other ?_ hb
  refine Arr.other ?_ hb
  refine Arr.other ?_ hb
  exact h
set_option maxHeartbeats 4000000 in
set_option maxRecDepth 100000 in
theorem through_calls (p : Nat → Bool) (xs : List (Nat → Bool)) (v : Value) (W : World) (hT : Tab W) (hr : Rd tySet W xs v) (hp : ∀ k, k < 512 → p k = true → k < xs.length) :
    Calls Tryd.prog 67 #[Value.agg #[.int .u64 (wd (p) 0 : Nat), .int .u64 (wd (p) 1 : Nat), .int .u64 (wd (p) 2 : Nat), .int .u64 (wd (p) 3 : Nat), .int .u64 (wd (p) 4 : Nat), .int .u64 (wd (p) 5 : Nat), .int .u64 (wd (p) 6 : Nat), .int .u64 (wd (p) 7 : Nat)], v] W fun e w' => e = .returned (Value.agg #[.int .u64 (wd (thruTo p (atS xs) 512) 0 : Nat), .int .u64 (wd (thruTo p (atS xs) 512) 1 : Nat), .int .u64 (wd (thruTo p (atS xs) 512) 2 : Nat), .int .u64 (wd (thruTo p (atS xs) 512) 3 : Nat), .int .u64 (wd (thruTo p (atS xs) 512) 4 : Nat), .int .u64 (wd (thruTo p (atS xs) 512) 5 : Nat), .int .u64 (wd (thruTo p (atS xs) 512) 6 : Nat), .int .u64 (wd (thruTo p (atS xs) 512) 7 : Nat)]) ∧ Ext W w' := by
  obtain ⟨A, c, rfl, hlc, hcm⟩ := hr.shape
  unfold maxLen at hcm
  have HN := Lib.hid (fun (x : Nat) W' (hE : Ext W W') => Next_calls p (x : Int) W' (hT.ext hE))
  have HX0 : Hid (Ext W (((W.alloc (.cells #[Value.int .u64 (wd (p) 0 : Nat), .int .u64 (wd (p) 1 : Nat), .int .u64 (wd (p) 2 : Nat), .int .u64 (wd (p) 3 : Nat), .int .u64 (wd (p) 4 : Nat), .int .u64 (wd (p) 5 : Nat), .int .u64 (wd (p) 6 : Nat), .int .u64 (wd (p) 7 : Nat)] 31)).alloc (.cells #[Value.int .u64 0, .int .u64 0, .int .u64 0, .int .u64 0, .int .u64 0, .int .u64 0, .int .u64 0, .int .u64 0] 31)).alloc (.cells #[Value.int .u64 0, .int .u64 0, .int .u64 0, .int .u64 0, .int .u64 0, .int .u64 0, .int .u64 0, .int .u64 0] 31))) := by show Ext _ _; (repeat (first | assumption | exact Ext.refl _ | apply Ext.alloc | apply Ext.drew | apply Ext.drewN | refine Ext.set ?_ (by first | exact Nat.le_refl _ | assumption | exact Nat.le_succ _ | exact Nat.le_add_right _ _ | exact Nat.le_trans (Nat.le_succ _) (Nat.le_succ _) | omega) _ | refine Ext.trans ?_ (by assumption)))
  have HN0 := Lib.hid (Next_calls p 0 _ (hT.ext HX0.out))
  go_enter Tryd.func67, Tryd.ntmps67
  go_wp2_with ((go_at_call 79; (with_reducible refine (HN0.out).mono ?_); rintro e w1 ⟨rfl, h1⟩))
  have HL : Hid (W.heap.size + 2 < (((W.alloc (.cells #[Value.int .u64 (wd (p) 0 : Nat), .int .u64 (wd (p) 1 : Nat), .int .u64 (wd (p) 2 : Nat), .int .u64 (wd (p) 3 : Nat), .int .u64 (wd (p) 4 : Nat), .int .u64 (wd (p) 5 : Nat), .int .u64 (wd (p) 6 : Nat), .int .u64 (wd (p) 7 : Nat)] 31)).alloc (.cells #[Value.int .u64 0, .int .u64 0, .int .u64 0, .int .u64 0, .int .u64 0, .int .u64 0, .int .u64 0, .int .u64 0] 31)).alloc (.cells #[Value.int .u64 0, .int .u64 0, .int .u64 0, .int .u64 0, .int .u64 0, .int .u64 0, .int .u64 0, .int .u64 0] 31)).heap.size) := by show _ < _; simp
  have HA : Hid (Arr (((W.alloc (.cells #[Value.int .u64 (wd (p) 0 : Nat), .int .u64 (wd (p) 1 : Nat), .int .u64 (wd (p) 2 : Nat), .int .u64 (wd (p) 3 : Nat), .int .u64 (wd (p) 4 : Nat), .int .u64 (wd (p) 5 : Nat), .int .u64 (wd (p) 6 : Nat), .int .u64 (wd (p) 7 : Nat)] 31)).alloc (.cells #[Value.int .u64 0, .int .u64 0, .int .u64 0, .int .u64 0, .int .u64 0, .int .u64 0, .int .u64 0, .int .u64 0] 31)).alloc (.cells #[Value.int .u64 0, .int .u64 0, .int .u64 0, .int .u64 0, .int .u64 0, .int .u64 0, .int .u64 0, .int .u64 0] 31)) W.heap.size p) := Lib.hid (((Arr.made p rfl).old (by simp)).old (by simp; omega))
  have HB : Hid (Arr (((W.alloc (.cells #[Value.int .u64 (wd (p) 0 : Nat), .int .u64 (wd (p) 1 : Nat), .int .u64 (wd (p) 2 : Nat), .int .u64 (wd (p) 3 : Nat), .int .u64 (wd (p) 4 : Nat), .int .u64 (wd (p) 5 : Nat), .int .u64 (wd (p) 6 : Nat), .int .u64 (wd (p) 7 : Nat)] 31)).alloc (.cells #[Value.int .u64 0, .int .u64 0, .int .u64 0, .int .u64 0, .int .u64 0, .int .u64 0, .int .u64 0, .int .u64 0] 31)).alloc (.cells #[Value.int .u64 0, .int .u64 0, .int .u64 0, .int .u64 0, .int .u64 0, .int .u64 0, .int .u64 0, .int .u64 0] 31)) (W.heap.size + 1) (fun _ => false)) := Lib.hid ((Arr.zero (by simp)).old (by simp))
  have HC : Hid (Arr (((W.alloc (.cells #[Value.int .u64 (wd (p) 0 : Nat), .int .u64 (wd (p) 1 : Nat), .int .u64 (wd (p) 2 : Nat), .int .u64 (wd (p) 3 : Nat), .int .u64 (wd (p) 4 : Nat), .int .u64 (wd (p) 5 : Nat), .int .u64 (wd (p) 6 : Nat), .int .u64 (wd (p) 7 : Nat)] 31)).alloc (.cells #[Value.int .u64 0, .int .u64 0, .int .u64 0, .int .u64 0, .int .u64 0, .int .u64 0, .int .u64 0, .int .u64 0] 31)).alloc (.cells #[Value.int .u64 0, .int .u64 0, .int .u64 0, .int .u64 0, .int .u64 0, .int .u64 0, .int .u64 0, .int .u64 0] 31)) (W.heap.size + 2) (fun _ => false)) := Lib.hid (Arr.zero (by simp))
  go_loopw [6, 7] (fun v6 v7 wr => ∃ x : Nat, x ≤ 512 ∧ v6 = .int .i64 (nextN p x) ∧ v7 = .bool (nextB p x) ∧ Hid (Arr wr W.heap.size p) ∧ Hid (Arr wr (W.heap.size + 1) (fun _ => false)) ∧ Hid (Arr wr (W.heap.size + 2) (thruTo p (atS xs) x)) ∧ Ext W wr ∧ W.heap.size + 2 < wr.heap.size)
    (fun v6 v7 _ => leftN v6 v7)
  case atStart =>
    exact ⟨0, by omega, rfl, rfl, Lib.hid (HA.out.ext h1 (by have := HL.out; omega)), Lib.hid (HB.out.ext h1 (by have := HL.out; omega)), Lib.hid (HC.out.ext h1 HL.out), HX0.out.trans h1, Nat.lt_of_lt_of_le HL.out h1.le⟩
  case round =>
    clear HA HB HC HL HN0 h1 HX0
    obtain ⟨x, hx, rfl, rfl, HA, HB, HC, he, hl⟩ := hrel
    rcases next_cases p x with ⟨hb, hno⟩ | ⟨k, hb, hk, hxk, hk5, hpk, hno⟩
    · rw [hb]
      have HR := Lib.hid (thru_end (r := atS xs) hx (fun m h1 h2 => hno m h1 (by omega)))
      rw [HR.out] at HC
      generalize hq : thruTo p (atS xs) 512 = q at *
      clear HR hno hb
      have H__ := (HC).out; obtain ⟨ce0, fe0⟩ := H__ 0 (by omega); obtain ⟨ce1, fe1⟩ := H__ 1 (by omega); obtain ⟨ce2, fe2⟩ := H__ 2 (by omega); obtain ⟨ce3, fe3⟩ := H__ 3 (by omega); obtain ⟨ce4, fe4⟩ := H__ 4 (by omega); obtain ⟨ce5, fe5⟩ := H__ 5 (by omega); obtain ⟨ce6, fe6⟩ := H__ 6 (by omega); obtain ⟨ce7, fe7⟩ := H__ 7 (by omega); clear H__
      have H__ := (HB).out; obtain ⟨de0, ge0⟩ := H__ 0 (by omega); obtain ⟨de1, ge1⟩ := H__ 1 (by omega); obtain ⟨de2, ge2⟩ := H__ 2 (by omega); obtain ⟨de3, ge3⟩ := H__ 3 (by omega); obtain ⟨de4, ge4⟩ := H__ 4 (by omega); obtain ⟨de5, ge5⟩ := H__ 5 (by omega); obtain ⟨de6, ge6⟩ := H__ 6 (by omega); obtain ⟨de7, ge7⟩ := H__ 7 (by omega); clear H__
      go_wp2_with fail
      have HEX : Hid (Ext W ((((((((wr.setCell ⟨W.heap.size + 1, 0, none⟩ (.int .u64 (wd (q) 0 : Nat))).setCell ⟨W.heap.size + 1, 1, none⟩ (.int .u64 (wd (q) 1 : Nat))).setCell ⟨W.heap.size + 1, 2, none⟩ (.int .u64 (wd (q) 2 : Nat))).setCell ⟨W.heap.size + 1, 3, none⟩ (.int .u64 (wd (q) 3 : Nat))).setCell ⟨W.heap.size + 1, 4, none⟩ (.int .u64 (wd (q) 4 : Nat))).setCell ⟨W.heap.size + 1, 5, none⟩ (.int .u64 (wd (q) 5 : Nat))).setCell ⟨W.heap.size + 1, 6, none⟩ (.int .u64 (wd (q) 6 : Nat))).setCell ⟨W.heap.size + 1, 7, none⟩ (.int .u64 (wd (q) 7 : Nat)))) := ((((((((he.set (by first | exact Nat.le_refl _ | exact Nat.le_succ _ | exact Nat.le_add_right _ _ | exact Nat.le_trans (Nat.le_succ _) (Nat.le_succ _) | omega) _).set (by first | exact Nat.le_refl _ | exact Nat.le_succ _ | exact Nat.le_add_right _ _ | exact Nat.le_trans (Nat.le_succ _) (Nat.le_succ _) | omega) _).set (by first | exact Nat.le_refl _ | exact Nat.le_succ _ | exact Nat.le_add_right _ _ | exact Nat.le_trans (Nat.le_succ _) (Nat.le_succ _) | omega) _).set (by first | exact Nat.le_refl _ | exact Nat.le_succ _ | exact Nat.le_add_right _ _ | exact Nat.le_trans (Nat.le_succ _) (Nat.le_succ _) | omega) _).set (by first | exact Nat.le_refl _ | exact Nat.le_succ _ | exact Nat.le_add_right _ _ | exact Nat.le_trans (Nat.le_succ _) (Nat.le_succ _) | omega) _).set (by first | exact Nat.le_refl _ | exact Nat.le_succ _ | exact Nat.le_add_right _ _ | exact Nat.le_trans (Nat.le_succ _) (Nat.le_succ _) | omega) _).set (by first | exact Nat.le_refl _ | exact Nat.le_succ _ | exact Nat.le_add_right _ _ | exact Nat.le_trans (Nat.le_succ _) (Nat.le_succ _) | omega) _).set (by first | exact Nat.le_refl _ | exact Nat.le_succ _ | exact Nat.le_add_right _ _ | exact Nat.le_trans (Nat.le_succ _) (Nat.le_succ _) | omega) _)
      exact bodyPost_ret (v := Value.agg #[.int .u64 (wd (q) 0 : Nat), .int .u64 (wd (q) 1 : Nat), .int .u64 (wd (q) 2 : Nat), .int .u64 (wd (q) 3 : Nat), .int .u64 (wd (q) 4 : Nat), .int .u64 (wd (q) 5 : Nat), .int .u64 (wd (q) 6 : Nat), .int .u64 (wd (q) 7 : Nat)]) (by simp [results, Tryd.results67, go_sem, *]) rfl ⟨by rw [hq], HEX.out⟩
    · rw [hb, hk]
      have hkl := hp k hk5 hpk
      have HU := Lib.hid (union_calls (thruTo p (atS xs) x) (atS xs k))
      have HST := Lib.hid (thru_step (r := atS xs) (by omega : x ≤ k) hpk (fun m h1 h2 => hno m h1 (by omega)))
      rw [← HST.out] at HU
      have HM := Lib.hid (next_cases p ((k + 1 : Nat) : Int))
      have HN1 := Lib.hid (HN.out (k + 1))
      rw [show ((k + 1 : Nat) : Int) = (k : Int) + 1 by omega] at HN1
      obtain ⟨b, off, rfl, hbl, c0, c1, c2, c3, c4, c5, c6, c7⟩ := rd_set (hr.ext he) (atS_get hkl)
      generalize hq : thruTo p (atS xs) (k + 1) = q at *
      generalize hq0 : thruTo p (atS xs) x = q0 at *
      generalize hq1 : atS xs k = q1 at *
      clear hno hpk hb hk HST
      have H__ := (HC).out; obtain ⟨ce0, fe0⟩ := H__ 0 (by omega); obtain ⟨ce1, fe1⟩ := H__ 1 (by omega); obtain ⟨ce2, fe2⟩ := H__ 2 (by omega); obtain ⟨ce3, fe3⟩ := H__ 3 (by omega); obtain ⟨ce4, fe4⟩ := H__ 4 (by omega); obtain ⟨ce5, fe5⟩ := H__ 5 (by omega); obtain ⟨ce6, fe6⟩ := H__ 6 (by omega); obtain ⟨ce7, fe7⟩ := H__ 7 (by omega); clear H__
      go_wp2_with fail
      go_still_tail 5, (by kernel_rfl)
      change wpList _ _ _ _ _ wr.drew
      have h0 : Ext wr wr.drew := (Ext.refl _).drew
      generalize wr.drew = w2 at *
      go_wp2_with (first
        | ((go_at_call 63; (with_reducible refine (HU.out _).mono ?_); rintro e w3 ⟨rfl, h3⟩); replace h3 := h0.trans h3; (have HA3 := Lib.hid (HA.out.ext h3 (by omega))); (have HB3 := Lib.hid (HB.out.ext h3 (by omega))); (have HC3 := Lib.hid (HC.out.ext h3 hl)); (have he3 := he.trans h3); (have hl3 := Nat.lt_of_lt_of_le hl h3.le); clear h3; have H__ := (HC3).out; obtain ⟨ce0, fe0⟩ := H__ 0 (by omega); obtain ⟨ce1, fe1⟩ := H__ 1 (by omega); obtain ⟨ce2, fe2⟩ := H__ 2 (by omega); obtain ⟨ce3, fe3⟩ := H__ 3 (by omega); obtain ⟨ce4, fe4⟩ := H__ 4 (by omega); obtain ⟨ce5, fe5⟩ := H__ 5 (by omega); obtain ⟨ce6, fe6⟩ := H__ 6 (by omega); obtain ⟨ce7, fe7⟩ := H__ 7 (by omega); clear H__; have H__ := (HA3).out; obtain ⟨de0, ge0⟩ := H__ 0 (by omega); obtain ⟨de1, ge1⟩ := H__ 1 (by omega); obtain ⟨de2, ge2⟩ := H__ 2 (by omega); obtain ⟨de3, ge3⟩ := H__ 3 (by omega); obtain ⟨de4, ge4⟩ := H__ 4 (by omega); obtain ⟨de5, ge5⟩ := H__ 5 (by omega); obtain ⟨de6, ge6⟩ := H__ 6 (by omega); obtain ⟨de7, ge7⟩ := H__ 7 (by omega); clear H__; have HEX : Hid (Ext W ((((((((w3.setCell ⟨W.heap.size + 2, 0, none⟩ (.int .u64 (wd (q) 0 : Nat))).setCell ⟨W.heap.size + 2, 1, none⟩ (.int .u64 (wd (q) 1 : Nat))).setCell ⟨W.heap.size + 2, 2, none⟩ (.int .u64 (wd (q) 2 : Nat))).setCell ⟨W.heap.size + 2, 3, none⟩ (.int .u64 (wd (q) 3 : Nat))).setCell ⟨W.heap.size + 2, 4, none⟩ (.int .u64 (wd (q) 4 : Nat))).setCell ⟨W.heap.size + 2, 5, none⟩ (.int .u64 (wd (q) 5 : Nat))).setCell ⟨W.heap.size + 2, 6, none⟩ (.int .u64 (wd (q) 6 : Nat))).setCell ⟨W.heap.size + 2, 7, none⟩ (.int .u64 (wd (q) 7 : Nat)))) := ((((((((he3.set (by first | exact Nat.le_refl _ | exact Nat.le_succ _ | exact Nat.le_add_right _ _ | exact Nat.le_trans (Nat.le_succ _) (Nat.le_succ _) | omega) _).set (by first | exact Nat.le_refl _ | exact Nat.le_succ _ | exact Nat.le_add_right _ _ | exact Nat.le_trans (Nat.le_succ _) (Nat.le_succ _) | omega) _).set (by first | exact Nat.le_refl _ | exact Nat.le_succ _ | exact Nat.le_add_right _ _ | exact Nat.le_trans (Nat.le_succ _) (Nat.le_succ _) | omega) _).set (by first | exact Nat.le_refl _ | exact Nat.le_succ _ | exact Nat.le_add_right _ _ | exact Nat.le_trans (Nat.le_succ _) (Nat.le_succ _) | omega) _).set (by first | exact Nat.le_refl _ | exact Nat.le_succ _ | exact Nat.le_add_right _ _ | exact Nat.le_trans (Nat.le_succ _) (Nat.le_succ _) | omega) _).set (by first | exact Nat.le_refl _ | exact Nat.le_succ _ | exact Nat.le_add_right _ _ | exact Nat.le_trans (Nat.le_succ _) (Nat.le_succ _) | omega) _).set (by first | exact Nat.le_refl _ | exact Nat.le_succ _ | exact Nat.le_add_right _ _ | exact Nat.le_trans (Nat.le_succ _) (Nat.le_succ _) | omega) _).set (by first | exact Nat.le_refl _ | exact Nat.le_succ _ | exact Nat.le_add_right _ _ | exact Nat.le_trans (Nat.le_succ _) (Nat.le_succ _) | omega) _))
        | ((go_at_call 79; (with_reducible refine (HN1.out _ HEX.out).mono ?_); rintro e w4 ⟨rfl, h4⟩)))
      go_roundw
      case rel =>
        refine ⟨k + 1, by omega, by congr 1, by congr 1, ?_, ?_, ?_, HEX.out.trans h4, ?_⟩
        · exact Lib.hid (Arr.ext (Arr.put8_other (o := 0) (r := q) HA3.out (by omega)) h4 (by rw [put8_size]; omega))
        · exact Lib.hid (Arr.ext (Arr.put8_other (o := 0) (r := q) HB3.out (by omega)) h4 (by rw [put8_size]; omega))
        · rw [hq]
          exact Lib.hid (Arr.ext (Arr.put8 (r := q) HC3.out) h4 (by rw [put8_size]; omega))
        · have := h4.le
          simp at this
          omega
      case measure =>
        have hM := HM.out
        rw [show ((k + 1 : Nat) : Int) = (k : Int) + 1 by omega] at hM
        rcases hM with ⟨e, _⟩ | ⟨m, e, e2, hm, hm5, _⟩
        · rw [e]; simp [leftN, intOf]; omega
        · rw [e, e2]; simp [leftN, intOf]; omega
end Go.Proofs.YtdeppnamhdbbhaaDoor
namespace Go.Proofs.YtdeppnamhdbbhaaDoor
open Go.RowKit Go.Eg

set_option maxHeartbeats 4000000 in
set_option maxRecDepth 100000 in
theorem concat1_calls (i b : Nat) (pv : Value) (xs ys : List (Nat → Bool)) (W : World) (hT : Tab W) (hb : b < W.heap.size) (hc : W.cell? ⟨b, 1, none⟩ = some pv) (h : Rd (Ty.slice tySet) W [xs, ys] pv) (hi : i < xs.length) (hp : ∀ k, k < 512 → atS xs i k = true → k < ys.length) :
    Calls Tryd.prog 66 #[.int .i64 (i : Int), .pointer (some ⟨b, 0, none⟩)] W fun e w' => e = .returned (Value.agg #[.int .u64 (wd (thruTo (atS xs i) (atS ys) 512) 0 : Nat), .int .u64 (wd (thruTo (atS xs i) (atS ys) 512) 1 : Nat), .int .u64 (wd (thruTo (atS xs i) (atS ys) 512) 2 : Nat), .int .u64 (wd (thruTo (atS xs i) (atS ys) 512) 3 : Nat), .int .u64 (wd (thruTo (atS xs i) (atS ys) 512) 4 : Nat), .int .u64 (wd (thruTo (atS xs i) (atS ys) 512) 5 : Nat), .int .u64 (wd (thruTo (atS xs i) (atS ys) 512) 6 : Nat), .int .u64 (wd (thruTo (atS xs i) (atS ys) 512) 7 : Nat)]) ∧ Ext W w' := by
  obtain ⟨A, c, rfl, hlc, hcm⟩ := h.shape
  have e2 : [xs, ys].length = 2 := rfl
  rw [e2] at *
  clear e2
  obtain ⟨pb, po, u, rfl, hpb, hp0, hu⟩ := h.slices (i := 0) rfl
  obtain ⟨pb', po', vy, e, _, hp1, hy⟩ := h.slices (i := 1) rfl
  cases e
  obtain ⟨A1, c1, rfl, _, _⟩ := hu.shape
  obtain ⟨A2, c2, rfl, _, _⟩ := hy.shape
  obtain ⟨vb, vo, rfl, hvb, hv0, hv1, hv2, hv3, hv4, hv5, hv6, hv7⟩ := rd_set hu (atS_get hi)
  simp only [Nat.add_zero] at hp0
  have HX : Hid (Ext W (W.alloc (.cells #[Value.int .u64 0, .int .u64 0, .int .u64 0, .int .u64 0, .int .u64 0, .int .u64 0, .int .u64 0, .int .u64 0] 31))) := by show Ext _ _; (repeat (first | assumption | exact Ext.refl _ | apply Ext.alloc | apply Ext.drew | apply Ext.drewN | refine Ext.set ?_ (by first | exact Nat.le_refl _ | assumption | exact Nat.le_succ _ | exact Nat.le_add_right _ _ | exact Nat.le_trans (Nat.le_succ _) (Nat.le_succ _) | omega) _ | refine Ext.trans ?_ (by assumption)))
  have HT := Lib.hid (fun W' (hE : Ext W W') => through_calls (atS xs i) ys _ W' (hT.ext hE) (hy.ext hE) hp)
  replace hc := (HX.out.cell _ _ hb).trans hc
  replace hp0 := (HX.out.cell _ _ hpb).trans hp0
  replace hp1 := (HX.out.cell _ _ hpb).trans hp1
  replace hv0 := (HX.out.cell _ _ hvb).trans hv0
  replace hv1 := (HX.out.cell _ _ hvb).trans hv1
  replace hv2 := (HX.out.cell _ _ hvb).trans hv2
  replace hv3 := (HX.out.cell _ _ hvb).trans hv3
  replace hv4 := (HX.out.cell _ _ hvb).trans hv4
  replace hv5 := (HX.out.cell _ _ hvb).trans hv5
  replace hv6 := (HX.out.cell _ _ hvb).trans hv6
  replace hv7 := (HX.out.cell _ _ hvb).trans hv7
  clear h hu hy hp hT
  have HZ : Hid (Arr (W.alloc (.cells #[Value.int .u64 0, .int .u64 0, .int .u64 0, .int .u64 0, .int .u64 0, .int .u64 0, .int .u64 0, .int .u64 0] 31)) W.heap.size (fun _ => false)) := Lib.hid (Arr.zero rfl)
  have HS : Hid (W.heap.size < ((W.alloc (.cells #[Value.int .u64 0, .int .u64 0, .int .u64 0, .int .u64 0, .int .u64 0, .int .u64 0, .int .u64 0, .int .u64 0] 31))).heap.size) := by show _ < _; simp
  generalize hr : thruTo (atS xs i) (atS ys) 512 = r at *
  generalize hq : atS xs i = q at *
  clear hr hq
  go_enter Tryd.func66, Tryd.ntmps66
  go_wp2_with fail
  generalize (W.alloc (.cells #[Value.int .u64 0, .int .u64 0, .int .u64 0, .int .u64 0, .int .u64 0, .int .u64 0, .int .u64 0, .int .u64 0] 31)) = W1 at *
  go_still_tail 11, (by kernel_rfl)
  change wpList _ _ _ _ _ W1.drew
  go_wp2_with ((go_at_call 67; (with_reducible refine (HT.out _ HX.out.drew).mono ?_); rintro e w2 ⟨rfl, h2⟩); (have HZ2 := Lib.hid (HZ.out.drew.ext h2 HS.out)); (have HX2 := Lib.hid (HX.out.drew.trans h2)); clear h2; have H__ := (HZ2).out; obtain ⟨ce0, fe0⟩ := H__ 0 (by omega); obtain ⟨ce1, fe1⟩ := H__ 1 (by omega); obtain ⟨ce2, fe2⟩ := H__ 2 (by omega); obtain ⟨ce3, fe3⟩ := H__ 3 (by omega); obtain ⟨ce4, fe4⟩ := H__ 4 (by omega); obtain ⟨ce5, fe5⟩ := H__ 5 (by omega); obtain ⟨ce6, fe6⟩ := H__ 6 (by omega); obtain ⟨ce7, fe7⟩ := H__ 7 (by omega); clear H__)
  have HEX : Hid (Ext W ((((((((w2.setCell ⟨W.heap.size, 0, none⟩ (.int .u64 (wd (r) 0 : Nat))).setCell ⟨W.heap.size, 1, none⟩ (.int .u64 (wd (r) 1 : Nat))).setCell ⟨W.heap.size, 2, none⟩ (.int .u64 (wd (r) 2 : Nat))).setCell ⟨W.heap.size, 3, none⟩ (.int .u64 (wd (r) 3 : Nat))).setCell ⟨W.heap.size, 4, none⟩ (.int .u64 (wd (r) 4 : Nat))).setCell ⟨W.heap.size, 5, none⟩ (.int .u64 (wd (r) 5 : Nat))).setCell ⟨W.heap.size, 6, none⟩ (.int .u64 (wd (r) 6 : Nat))).setCell ⟨W.heap.size, 7, none⟩ (.int .u64 (wd (r) 7 : Nat)))) := ((((((((HX2.out.set (by first | exact Nat.le_refl _ | exact Nat.le_succ _ | exact Nat.le_add_right _ _ | exact Nat.le_trans (Nat.le_succ _) (Nat.le_succ _) | omega) _).set (by first | exact Nat.le_refl _ | exact Nat.le_succ _ | exact Nat.le_add_right _ _ | exact Nat.le_trans (Nat.le_succ _) (Nat.le_succ _) | omega) _).set (by first | exact Nat.le_refl _ | exact Nat.le_succ _ | exact Nat.le_add_right _ _ | exact Nat.le_trans (Nat.le_succ _) (Nat.le_succ _) | omega) _).set (by first | exact Nat.le_refl _ | exact Nat.le_succ _ | exact Nat.le_add_right _ _ | exact Nat.le_trans (Nat.le_succ _) (Nat.le_succ _) | omega) _).set (by first | exact Nat.le_refl _ | exact Nat.le_succ _ | exact Nat.le_add_right _ _ | exact Nat.le_trans (Nat.le_succ _) (Nat.le_succ _) | omega) _).set (by first | exact Nat.le_refl _ | exact Nat.le_succ _ | exact Nat.le_add_right _ _ | exact Nat.le_trans (Nat.le_succ _) (Nat.le_succ _) | omega) _).set (by first | exact Nat.le_refl _ | exact Nat.le_succ _ | exact Nat.le_add_right _ _ | exact Nat.le_trans (Nat.le_succ _) (Nat.le_succ _) | omega) _).set (by first | exact Nat.le_refl _ | exact Nat.le_succ _ | exact Nat.le_add_right _ _ | exact Nat.le_trans (Nat.le_succ _) (Nat.le_succ _) | omega) _)
  exact bodyPost_ret (v := Value.agg #[.int .u64 (wd (r) 0 : Nat), .int .u64 (wd (r) 1 : Nat), .int .u64 (wd (r) 2 : Nat), .int .u64 (wd (r) 3 : Nat), .int .u64 (wd (r) 4 : Nat), .int .u64 (wd (r) 5 : Nat), .int .u64 (wd (r) 6 : Nat), .int .u64 (wd (r) 7 : Nat)]) (by simp [results, Tryd.results66, go_sem, *]) rfl ⟨rfl, HEX⟩

theorem below_lo {n : Nat} (h : n ≤ 512) : belowS (n : Int) = loS n := by
  rw [belowS, if_pos (by simp [belowOk]; omega), Int.toNat_natCast]
/-- A place's row of what is not said. -/
def notS (n i : Nat) (p : Nat → Bool) : Nat → Bool := subS (subS (loS n) (loS i)) p
set_option maxHeartbeats 8000000 in
set_option maxRecDepth 100000 in
theorem not1_calls (n i d b : Nat) (pv : Value) (p : Nat → Bool) (xs : List (Nat → Bool)) (W : World) (hb : b < W.heap.size) (hd : d < W.heap.size) (hi : i ≤ 512) (hx : xs[i]? = some p) (ha : Arr W d (loS n)) (hc : W.cell? ⟨b, 1, none⟩ = some pv) (h : Rd (Ty.slice tySet) W [xs] pv) :
    Calls Tryd.prog 70 #[.int .i64 (i : Int), .pointer (some ⟨d, 0, none⟩), .pointer (some ⟨b, 0, none⟩)] W fun e w' => e = .returned (Value.agg #[.int .u64 (wd (notS n i p) 0 : Nat), .int .u64 (wd (notS n i p) 1 : Nat), .int .u64 (wd (notS n i p) 2 : Nat), .int .u64 (wd (notS n i p) 3 : Nat), .int .u64 (wd (notS n i p) 4 : Nat), .int .u64 (wd (notS n i p) 5 : Nat), .int .u64 (wd (notS n i p) 6 : Nat), .int .u64 (wd (notS n i p) 7 : Nat)]) ∧ Ext W w' := by
  obtain ⟨A, c, rfl, hlc, hcm⟩ := h.shape
  have e2 : [xs].length = 1 := rfl
  rw [e2] at *
  clear e2
  obtain ⟨pb, po, u, rfl, hpb, hp0, hu⟩ := h.slices (i := 0) rfl
  obtain ⟨A1, c1, rfl, _, _⟩ := hu.shape
  obtain ⟨vb, vo, rfl, hvb, hv0, hv1, hv2, hv3, hv4, hv5, hv6, hv7⟩ := rd_set hu hx
  have hil := (List.getElem?_eq_some_iff.1 hx).1
  simp only [Nat.add_zero] at hp0
  have HX : Hid (Ext W (W.alloc (.cells #[Value.int .u64 0, .int .u64 0, .int .u64 0, .int .u64 0, .int .u64 0, .int .u64 0, .int .u64 0, .int .u64 0] 31))) := by show Ext _ _; (repeat (first | assumption | exact Ext.refl _ | apply Ext.alloc | apply Ext.drew | apply Ext.drewN | refine Ext.set ?_ (by first | exact Nat.le_refl _ | assumption | exact Nat.le_succ _ | exact Nat.le_add_right _ _ | exact Nat.le_trans (Nat.le_succ _) (Nat.le_succ _) | omega) _ | refine Ext.trans ?_ (by assumption)))
  have HB : Hid (∀ w, Calls Tryd.prog 69 #[.int .i64 (i : Int)] w fun e w' => e = .returned (.tuple #[Value.agg #[.int .u64 (wd (loS i) 0 : Nat), .int .u64 (wd (loS i) 1 : Nat), .int .u64 (wd (loS i) 2 : Nat), .int .u64 (wd (loS i) 3 : Nat), .int .u64 (wd (loS i) 4 : Nat), .int .u64 (wd (loS i) 5 : Nat), .int .u64 (wd (loS i) 6 : Nat), .int .u64 (wd (loS i) 7 : Nat)], .int .i64 (belowE i)]) ∧ Ext w w') := Lib.hid (fun w => by
    have := Below_calls (i : Int) w
    rw [below_lo hi] at this
    exact this)
  have HM1 := Lib.hid (minus_calls (loS n) (loS i))
  have HM2 := Lib.hid (minus_calls (subS (loS n) (loS i)) p)
  have HD := Lib.hid ha
  clear h hu ha
  have HZ : Hid (Arr (W.alloc (.cells #[Value.int .u64 0, .int .u64 0, .int .u64 0, .int .u64 0, .int .u64 0, .int .u64 0, .int .u64 0, .int .u64 0] 31)) W.heap.size (fun _ => false)) := Lib.hid (Arr.zero rfl)
  have HS : Hid (W.heap.size < ((W.alloc (.cells #[Value.int .u64 0, .int .u64 0, .int .u64 0, .int .u64 0, .int .u64 0, .int .u64 0, .int .u64 0, .int .u64 0] 31))).heap.size) := by show _ < _; simp
  have hrr : notS n i p = subS (subS (loS n) (loS i)) p := rfl
  rw [hrr]
  clear hrr
  generalize subS (subS (loS n) (loS i)) p = r at *
  generalize subS (loS n) (loS i) = q at *
  generalize loS i = li at *
  generalize loS n = ln at *
  go_enter Tryd.func70, Tryd.ntmps70
  go_wp2_with ((go_at_call 69; (with_reducible refine (HB.out _).mono ?_); rintro e w1 ⟨rfl, h1⟩))
  have HZ1 := Lib.hid ((HZ.out.ext h1 HS.out).old (o := .cells #[Value.int .u64 (wd (li) 0 : Nat), .int .u64 (wd (li) 1 : Nat), .int .u64 (wd (li) 2 : Nat), .int .u64 (wd (li) 3 : Nat), .int .u64 (wd (li) 4 : Nat), .int .u64 (wd (li) 5 : Nat), .int .u64 (wd (li) 6 : Nat), .int .u64 (wd (li) 7 : Nat)] 31) (Nat.lt_of_lt_of_le HS.out h1.le))
  have HE1 : Hid (Ext W (w1.alloc (.cells #[Value.int .u64 (wd (li) 0 : Nat), .int .u64 (wd (li) 1 : Nat), .int .u64 (wd (li) 2 : Nat), .int .u64 (wd (li) 3 : Nat), .int .u64 (wd (li) 4 : Nat), .int .u64 (wd (li) 5 : Nat), .int .u64 (wd (li) 6 : Nat), .int .u64 (wd (li) 7 : Nat)] 31))) := Lib.hid ((HX.out.trans h1).alloc _)
  have HL1 : Hid (Arr (w1.alloc (.cells #[Value.int .u64 (wd (li) 0 : Nat), .int .u64 (wd (li) 1 : Nat), .int .u64 (wd (li) 2 : Nat), .int .u64 (wd (li) 3 : Nat), .int .u64 (wd (li) 4 : Nat), .int .u64 (wd (li) 5 : Nat), .int .u64 (wd (li) 6 : Nat), .int .u64 (wd (li) 7 : Nat)] 31)) w1.heap.size li) := Lib.hid (Arr.made li rfl)
  have HS1 : Hid (W.heap.size < (w1.alloc (.cells #[Value.int .u64 (wd (li) 0 : Nat), .int .u64 (wd (li) 1 : Nat), .int .u64 (wd (li) 2 : Nat), .int .u64 (wd (li) 3 : Nat), .int .u64 (wd (li) 4 : Nat), .int .u64 (wd (li) 5 : Nat), .int .u64 (wd (li) 6 : Nat), .int .u64 (wd (li) 7 : Nat)] 31)).heap.size) := by show _ < _; have := h1.le; have := HS.out; simp at *; omega
  have HS2 : Hid (w1.heap.size < (w1.alloc (.cells #[Value.int .u64 (wd (li) 0 : Nat), .int .u64 (wd (li) 1 : Nat), .int .u64 (wd (li) 2 : Nat), .int .u64 (wd (li) 3 : Nat), .int .u64 (wd (li) 4 : Nat), .int .u64 (wd (li) 5 : Nat), .int .u64 (wd (li) 6 : Nat), .int .u64 (wd (li) 7 : Nat)] 31)).heap.size) := by show _ < _; simp
  have HN2 : Hid (w1.heap.size ≠ W.heap.size) := by show _ ≠ _; have := h1.le; have := HS.out; simp at *; omega
  clear HZ HX HS HB h1
  generalize w1.alloc (.cells #[Value.int .u64 (wd (li) 0 : Nat), .int .u64 (wd (li) 1 : Nat), .int .u64 (wd (li) 2 : Nat), .int .u64 (wd (li) 3 : Nat), .int .u64 (wd (li) 4 : Nat), .int .u64 (wd (li) 5 : Nat), .int .u64 (wd (li) 6 : Nat), .int .u64 (wd (li) 7 : Nat)] 31) = W2 at *
  generalize w1.heap.size = a at *
  have H__ := (HD).out; obtain ⟨ce0, fe0⟩ := H__ 0 (by omega); obtain ⟨ce1, fe1⟩ := H__ 1 (by omega); obtain ⟨ce2, fe2⟩ := H__ 2 (by omega); obtain ⟨ce3, fe3⟩ := H__ 3 (by omega); obtain ⟨ce4, fe4⟩ := H__ 4 (by omega); obtain ⟨ce5, fe5⟩ := H__ 5 (by omega); obtain ⟨ce6, fe6⟩ := H__ 6 (by omega); obtain ⟨ce7, fe7⟩ := H__ 7 (by omega); clear H__
  have H__ := (HL1).out; obtain ⟨de0, ge0⟩ := H__ 0 (by omega); obtain ⟨de1, ge1⟩ := H__ 1 (by omega); obtain ⟨de2, ge2⟩ := H__ 2 (by omega); obtain ⟨de3, ge3⟩ := H__ 3 (by omega); obtain ⟨de4, ge4⟩ := H__ 4 (by omega); obtain ⟨de5, ge5⟩ := H__ 5 (by omega); obtain ⟨de6, ge6⟩ := H__ 6 (by omega); obtain ⟨de7, ge7⟩ := H__ 7 (by omega); clear H__
  have hE := HE1.out.drew
  go_region_held3 (fun w' => (∀ b o, b < W.heap.size → w'.cell? ⟨b, o, none⟩ = W.cell? ⟨b, o, none⟩) ∧ w'.cell? ⟨a, 0, none⟩ = some (.int .u64 (wd li 0 : Nat)) ∧ w'.cell? ⟨a, 1, none⟩ = some (.int .u64 (wd li 1 : Nat)) ∧ w'.cell? ⟨a, 2, none⟩ = some (.int .u64 (wd li 2 : Nat)) ∧ w'.cell? ⟨a, 3, none⟩ = some (.int .u64 (wd li 3 : Nat)) ∧ w'.cell? ⟨a, 4, none⟩ = some (.int .u64 (wd li 4 : Nat)) ∧ w'.cell? ⟨a, 5, none⟩ = some (.int .u64 (wd li 5 : Nat)) ∧ w'.cell? ⟨a, 6, none⟩ = some (.int .u64 (wd li 6 : Nat)) ∧ w'.cell? ⟨a, 7, none⟩ = some (.int .u64 (wd li 7 : Nat)) ∧ Ext W w') (first | with_reducible exact ⟨Ext.cells HEX.out, ke0, ke1, ke2, ke3, ke4, ke5, ke6, ke7, HEX.out⟩ | with_reducible exact ⟨Ext.cells hE4, de0, de1, de2, de3, de4, de5, de6, de7, hE4⟩ | with_reducible exact ⟨Ext.cells hE3, de0, de1, de2, de3, de4, de5, de6, de7, hE3⟩ | exact ⟨Ext.cells hE, de0, de1, de2, de3, de4, de5, de6, de7, hE⟩) (first
    | ((go_at_call 71; (with_reducible refine (HM1.out _).mono ?_); rintro e w3 ⟨rfl, h3⟩); replace h3 := Ext.undrew h3; (have HL3 := Lib.hid (HL1.out.ext h3 HS2.out)); (have HZ3 := Lib.hid (HZ1.out.ext h3 HS1.out)); (have hE3 := HE1.out.trans h3); (have HS3 := Nat.lt_of_lt_of_le HS1.out h3.le); (have HT3 := Nat.lt_of_lt_of_le HS2.out h3.le); have H__ := (HL3).out; obtain ⟨de0, ge0⟩ := H__ 0 (by omega); obtain ⟨de1, ge1⟩ := H__ 1 (by omega); obtain ⟨de2, ge2⟩ := H__ 2 (by omega); obtain ⟨de3, ge3⟩ := H__ 3 (by omega); obtain ⟨de4, ge4⟩ := H__ 4 (by omega); obtain ⟨de5, ge5⟩ := H__ 5 (by omega); obtain ⟨de6, ge6⟩ := H__ 6 (by omega); obtain ⟨de7, ge7⟩ := H__ 7 (by omega); clear H__)
    | ((go_at_call 71; (with_reducible refine (HM2.out _).mono ?_); rintro e w4 ⟨rfl, h4⟩); (have HL4 := Lib.hid (HL3.out.ext h4 HT3)); (have HZ4 := Lib.hid (HZ3.out.ext h4 HS3)); (have hE4 := hE3.trans h4); have H__ := (HL4).out; obtain ⟨de0, ge0⟩ := H__ 0 (by omega); obtain ⟨de1, ge1⟩ := H__ 1 (by omega); obtain ⟨de2, ge2⟩ := H__ 2 (by omega); obtain ⟨de3, ge3⟩ := H__ 3 (by omega); obtain ⟨de4, ge4⟩ := H__ 4 (by omega); obtain ⟨de5, ge5⟩ := H__ 5 (by omega); obtain ⟨de6, ge6⟩ := H__ 6 (by omega); obtain ⟨de7, ge7⟩ := H__ 7 (by omega); clear H__; have H__ := (HZ4).out; obtain ⟨ce0, fe0⟩ := H__ 0 (by omega); obtain ⟨ce1, fe1⟩ := H__ 1 (by omega); obtain ⟨ce2, fe2⟩ := H__ 2 (by omega); obtain ⟨ce3, fe3⟩ := H__ 3 (by omega); obtain ⟨ce4, fe4⟩ := H__ 4 (by omega); obtain ⟨ce5, fe5⟩ := H__ 5 (by omega); obtain ⟨ce6, fe6⟩ := H__ 6 (by omega); obtain ⟨ce7, fe7⟩ := H__ 7 (by omega); clear H__; have HEX : Hid (Ext W ((((((((w4.setCell ⟨W.heap.size, 0, none⟩ (.int .u64 (wd (r) 0 : Nat))).setCell ⟨W.heap.size, 1, none⟩ (.int .u64 (wd (r) 1 : Nat))).setCell ⟨W.heap.size, 2, none⟩ (.int .u64 (wd (r) 2 : Nat))).setCell ⟨W.heap.size, 3, none⟩ (.int .u64 (wd (r) 3 : Nat))).setCell ⟨W.heap.size, 4, none⟩ (.int .u64 (wd (r) 4 : Nat))).setCell ⟨W.heap.size, 5, none⟩ (.int .u64 (wd (r) 5 : Nat))).setCell ⟨W.heap.size, 6, none⟩ (.int .u64 (wd (r) 6 : Nat))).setCell ⟨W.heap.size, 7, none⟩ (.int .u64 (wd (r) 7 : Nat)))) := ((((((((hE4.set (by first | exact Nat.le_refl _ | exact Nat.le_succ _ | exact Nat.le_add_right _ _ | exact Nat.le_trans (Nat.le_succ _) (Nat.le_succ _) | omega) _).set (by first | exact Nat.le_refl _ | exact Nat.le_succ _ | exact Nat.le_add_right _ _ | exact Nat.le_trans (Nat.le_succ _) (Nat.le_succ _) | omega) _).set (by first | exact Nat.le_refl _ | exact Nat.le_succ _ | exact Nat.le_add_right _ _ | exact Nat.le_trans (Nat.le_succ _) (Nat.le_succ _) | omega) _).set (by first | exact Nat.le_refl _ | exact Nat.le_succ _ | exact Nat.le_add_right _ _ | exact Nat.le_trans (Nat.le_succ _) (Nat.le_succ _) | omega) _).set (by first | exact Nat.le_refl _ | exact Nat.le_succ _ | exact Nat.le_add_right _ _ | exact Nat.le_trans (Nat.le_succ _) (Nat.le_succ _) | omega) _).set (by first | exact Nat.le_refl _ | exact Nat.le_succ _ | exact Nat.le_add_right _ _ | exact Nat.le_trans (Nat.le_succ _) (Nat.le_succ _) | omega) _).set (by first | exact Nat.le_refl _ | exact Nat.le_succ _ | exact Nat.le_add_right _ _ | exact Nat.le_trans (Nat.le_succ _) (Nat.le_succ _) | omega) _).set (by first | exact Nat.le_refl _ | exact Nat.le_succ _ | exact Nat.le_add_right _ _ | exact Nat.le_trans (Nat.le_succ _) (Nat.le_succ _) | omega) _); (have HL5 := Lib.hid (Arr.put8_other (o := 0) (r := r) HL4.out HN2.out)); (simp only [put8, Nat.zero_add] at HL5); have H__ := (HL5).out; obtain ⟨ke0, le0⟩ := H__ 0 (by omega); obtain ⟨ke1, le1⟩ := H__ 1 (by omega); obtain ⟨ke2, le2⟩ := H__ 2 (by omega); obtain ⟨ke3, le3⟩ := H__ 3 (by omega); obtain ⟨ke4, le4⟩ := H__ 4 (by omega); obtain ⟨ke5, le5⟩ := H__ 5 (by omega); obtain ⟨ke6, le6⟩ := H__ 6 (by omega); obtain ⟨ke7, le7⟩ := H__ 7 (by omega); clear H__))
  go_wp2_with fail
  exact bodyPost_ret (v := Value.agg #[.int .u64 (wd (r) 0 : Nat), .int .u64 (wd (r) 1 : Nat), .int .u64 (wd (r) 2 : Nat), .int .u64 (wd (r) 3 : Nat), .int .u64 (wd (r) 4 : Nat), .int .u64 (wd (r) 5 : Nat), .int .u64 (wd (r) 6 : Nat), .int .u64 (wd (r) 7 : Nat)]) (by simp [results, Tryd.results70, go_sem, *]) rfl ⟨rfl, HEX⟩
end Go.Proofs.YtdeppnamhdbbhaaDoor
namespace Go.Proofs.YtdeppnamhdbbhaaDoor
open Go.RowKit Go.Eg

/-- An expression's rows. -/
def rowsL (s : ByteArray) (x : T) : List (Nat → Bool) := (List.range (s.size + 1)).map (rowB (bt s) s.size x)
theorem rowsL_len (s : ByteArray) (x : T) : (rowsL s x).length = s.size + 1 := by simp [rowsL]
theorem atS_rows (s : ByteArray) (x : T) (m : Nat) : atS (rowsL s x) m = rowB (bt s) s.size x m := by
  unfold atS rowsL
  rw [List.getD_eq_getElem?_getD]
  by_cases h : m < s.size + 1
  · simp [List.getElem?_range h]
  · funext j
    have : rowB (bt s) s.size x m j = false := by
      cases e : rowB (bt s) s.size x m j
      · rfl
      · have := rowB_iff.1 e; omega
    rw [this]
    simp [h]
theorem rows_lt {s : ByteArray} {x : T} {i k : Nat} (h : atS (rowsL s x) i k = true) : k < s.size + 1 := by
  rw [atS_rows] at h
  have := rowB_iff.1 h
  omega
/-- The world in which a node's rows are made. -/
def askW (W : World) (s : ByteArray) (pv : Value) (nd : Nd) : World := (W.alloc (.cells #[.string s, pv] 74)).alloc (.cells #[.int .i64 nd.k, .int .u8 nd.s] 27)
section
variable {W : World} {s : ByteArray} {pv : Value} {nd : Nd}
theorem ask_ext : Ext W (askW W s pv nd) := ((Ext.refl W).alloc _).alloc _
theorem ask_size : (askW W s pv nd).heap.size = W.heap.size + 2 := by simp [askW]
theorem ask_w : (askW W s pv nd).cell? ⟨W.heap.size, 0, none⟩ = some (.string s) := by simp [askW]
theorem ask_p : (askW W s pv nd).cell? ⟨W.heap.size, 1, none⟩ = some pv := by simp [askW]
theorem ask_k : (askW W s pv nd).cell? ⟨W.heap.size + 1, 0, none⟩ = some (.int .i64 nd.k) := by simp [askW]
theorem ask_s : (askW W s pv nd).cell? ⟨W.heap.size + 1, 1, none⟩ = some (.int .u8 nd.s) := by simp [askW]
end
/-- What a node's function comes to. -/
def RowsPost (s : ByteArray) (x : T) (W : World) (e : Ending) (w' : World) : Prop := ∃ v, e = .returned v ∧ Own tySet 31 W.heap.size No w' (rowsL s x) v ∧ Ext W w'
theorem rows_of {s : ByteArray} {x : T} {f : Nat → Nat → Bool} (h : ∀ i, i ≤ s.size → f i = rowB (bt s) s.size x i) : (List.range (s.size + 1)).map f = rowsL s x :=
  List.map_congr_left fun i hi => h i (by have := List.mem_range.1 hi; omega)
theorem own_low {w' : World} {xs : List (Nat → Bool)} {v : Value} {b b' : Nat} (h : Own tySet 31 b No w' xs v) (hb : b' ≤ b) : Own tySet 31 b' No w' xs v := h.rebase fun k hk => Nat.le_trans hb (h.lo k hk)

theorem letS_row {s : ByteArray} {nd : Nd} (hk : nd.k = 3 ∨ nd.k = 4) (i : Nat) : letS s nd i = rowB (bt s) s.size (.leaf nd) i := by
  obtain ⟨k, sg⟩ := nd
  funext j
  rcases hk with hk | hk
  · obtain rfl : k = 3 := hk
    rw [row_letter, letS]
    by_cases h1 : i < s.size
    · by_cases h2 : bt s i = sg
      · rw [if_pos ⟨h1, .inr h2⟩]; simp [h1, h2]
      · rw [if_neg (by rintro ⟨_, h | h⟩; exact absurd (show (3 : Int) = 4 from h) (by decide); exact h2 h)]; simp [h2]
    · rw [if_neg (fun h => h1 h.1)]; simp [h1]
  · obtain rfl : k = 4 := hk
    rw [row_any, letS]
    by_cases h1 : i < s.size
    · rw [if_pos ⟨h1, .inl rfl⟩]; simp [h1]
    · rw [if_neg (fun h => h1 h.1)]; simp [h1]
set_option maxHeartbeats 2000000 in
theorem none_rows (s : ByteArray) (hs : s.size < 512) (pv : Value) (nd : Nd) (hk : nd.k = 1) (W : World) :
    Calls Tryd.prog 44 #[.agg #[.string s, pv], .agg #[.int .i64 nd.k, .int .u8 nd.s]] W (RowsPost s (.leaf nd) W) := by
  have HM := Lib.hid (make_calls 59 Tryd.call59 #[] s pv hs (fun _ _ => false) (askW W s pv nd) (fun i W' _ _ => none1_calls (i : Int) W'))
  rw [rows_of (x := .leaf nd) (fun i _ => by funext j; rw [row_none nd.k (by omega) (by omega) (by omega)])] at HM
  have HE : Hid (Ext W (askW W s pv nd)) := ask_ext
  have hz := ask_size (W := W) (s := s) (pv := pv) (nd := nd)
  clear hk
  unfold askW at HM HE hz
  go_enter Tryd.func44, Tryd.ntmps44
  go_wp2_with ((go_at_call 58; (with_reducible refine (HM.out).mono ?_); rintro e w1 ⟨v, rfl, ho, h1⟩))
  go_ret
  exact ⟨_, rfl, own_low ho (by rw [hz]; omega), HE.out.trans h1⟩
set_option maxHeartbeats 2000000 in
theorem empty_rows (s : ByteArray) (hs : s.size < 512) (pv : Value) (nd : Nd) (hk : nd.k = 2) (W : World) :
    Calls Tryd.prog 45 #[.agg #[.string s, pv], .agg #[.int .i64 nd.k, .int .u8 nd.s]] W (RowsPost s (.leaf nd) W) := by
  have HM := Lib.hid (make_calls 60 Tryd.call60 #[] s pv hs (fun i => withS (fun _ => false) (i : Int)) (askW W s pv nd) (fun i W' _ _ => one_calls (i : Int) W'))
  rw [rows_of (x := .leaf nd) (fun i hi => by obtain ⟨k, sg⟩ := nd; obtain rfl : k = 2 := hk; funext j; rw [row_empty i j hi, with_one (by omega)])] at HM
  have HE : Hid (Ext W (askW W s pv nd)) := ask_ext
  have hz := ask_size (W := W) (s := s) (pv := pv) (nd := nd)
  clear hk
  unfold askW at HM HE hz
  go_enter Tryd.func45, Tryd.ntmps45
  go_wp2_with ((go_at_call 58; (with_reducible refine (HM.out).mono ?_); rintro e w1 ⟨v, rfl, ho, h1⟩))
  go_ret
  exact ⟨_, rfl, own_low ho (by rw [hz]; omega), HE.out.trans h1⟩
set_option maxHeartbeats 2000000 in
theorem letter_rows (s : ByteArray) (hs : s.size < 512) (pv : Value) (nd : Nd) (hk : nd.k = 3 ∨ nd.k = 4) (W : World) :
    Calls Tryd.prog 46 #[.agg #[.string s, pv], .agg #[.int .i64 nd.k, .int .u8 nd.s]] W (RowsPost s (.leaf nd) W) := by
  have HM := Lib.hid (make_calls 61 Tryd.call61 #[.pointer (some ⟨W.heap.size, 0, none⟩), .pointer (some ⟨W.heap.size + 1, 0, none⟩)] s pv hs (letS s nd) (askW W s pv nd) (fun i W' hi hE => by have := letter1_calls i W.heap.size (W.heap.size + 1) s nd W' (Nat.lt_of_lt_of_le (by rw [ask_size]; omega) hE.le) (Nat.lt_of_lt_of_le (by rw [ask_size]; omega) hE.le) hs hi ((hE.cell _ _ (by rw [ask_size]; omega)).trans ask_w) ((hE.cell _ _ (by rw [ask_size]; omega)).trans ask_k) ((hE.cell _ _ (by rw [ask_size]; omega)).trans ask_s); simpa using this))
  rw [rows_of (x := .leaf nd) (fun i _ => letS_row hk i)] at HM
  have HE : Hid (Ext W (askW W s pv nd)) := ask_ext
  have hz := ask_size (W := W) (s := s) (pv := pv) (nd := nd)
  clear hk
  unfold askW at HM HE hz
  go_enter Tryd.func46, Tryd.ntmps46
  go_wp2_with ((go_at_call 58; (with_reducible refine (HM.out).mono ?_); rintro e w1 ⟨v, rfl, ho, h1⟩))
  go_ret
  exact ⟨_, rfl, own_low ho (by rw [hz]; omega), HE.out.trans h1⟩
set_option maxHeartbeats 2000000 in
theorem union_rows (s : ByteArray) (hs : s.size < 512) (pv : Value) (nd : Nd) (a b : T) (hk : nd.k = 5) (W : World) (hp : Rd (Ty.slice tySet) W [rowsL s a, rowsL s b] pv) :
    Calls Tryd.prog 47 #[.agg #[.string s, pv], .agg #[.int .i64 nd.k, .int .u8 nd.s]] W (RowsPost s (.bin nd a b) W) := by
  have HM := Lib.hid (make_calls 62 Tryd.call62 #[.pointer (some ⟨W.heap.size, 0, none⟩)] s pv hs (fun i => orS (atS (rowsL s a) i) (atS (rowsL s b) i)) (askW W s pv nd) (fun i W' hi hE => by have := union1_calls i W.heap.size pv (atS (rowsL s a) i) (atS (rowsL s b) i) W' (Nat.lt_of_lt_of_le (by rw [ask_size]; omega) hE.le) ((hE.cell _ _ (by rw [ask_size]; omega)).trans ask_p) (Two.of (hp.ext (ask_ext.trans hE)) (atS_get (by rw [rowsL_len]; omega)) (atS_get (by rw [rowsL_len]; omega))); simpa using this))
  rw [rows_of (x := .bin nd a b) (fun i _ => by obtain ⟨k, sg⟩ := nd; obtain rfl : k = 5 := hk; funext j; rw [row_union, atS_rows, atS_rows]; rfl)] at HM
  have HE : Hid (Ext W (askW W s pv nd)) := ask_ext
  have hz := ask_size (W := W) (s := s) (pv := pv) (nd := nd)
  clear hk
  unfold askW at HM HE hz
  go_enter Tryd.func47, Tryd.ntmps47
  go_wp2_with ((go_at_call 58; (with_reducible refine (HM.out).mono ?_); rintro e w1 ⟨v, rfl, ho, h1⟩))
  go_ret
  exact ⟨_, rfl, own_low ho (by rw [hz]; omega), HE.out.trans h1⟩
set_option maxHeartbeats 2000000 in
theorem inter_rows (s : ByteArray) (hs : s.size < 512) (pv : Value) (nd : Nd) (a b : T) (hk : nd.k = 6) (W : World) (hp : Rd (Ty.slice tySet) W [rowsL s a, rowsL s b] pv) :
    Calls Tryd.prog 48 #[.agg #[.string s, pv], .agg #[.int .i64 nd.k, .int .u8 nd.s]] W (RowsPost s (.bin nd a b) W) := by
  have HM := Lib.hid (make_calls 64 Tryd.call64 #[.pointer (some ⟨W.heap.size, 0, none⟩)] s pv hs (fun i => andS (atS (rowsL s a) i) (atS (rowsL s b) i)) (askW W s pv nd) (fun i W' hi hE => by have := inter1_calls i W.heap.size pv (atS (rowsL s a) i) (atS (rowsL s b) i) W' (Nat.lt_of_lt_of_le (by rw [ask_size]; omega) hE.le) ((hE.cell _ _ (by rw [ask_size]; omega)).trans ask_p) (Two.of (hp.ext (ask_ext.trans hE)) (atS_get (by rw [rowsL_len]; omega)) (atS_get (by rw [rowsL_len]; omega))); simpa using this))
  rw [rows_of (x := .bin nd a b) (fun i _ => by obtain ⟨k, sg⟩ := nd; obtain rfl : k = 6 := hk; funext j; rw [row_inter, atS_rows, atS_rows]; rfl)] at HM
  have HE : Hid (Ext W (askW W s pv nd)) := ask_ext
  have hz := ask_size (W := W) (s := s) (pv := pv) (nd := nd)
  clear hk
  unfold askW at HM HE hz
  go_enter Tryd.func48, Tryd.ntmps48
  go_wp2_with ((go_at_call 58; (with_reducible refine (HM.out).mono ?_); rintro e w1 ⟨v, rfl, ho, h1⟩))
  go_ret
  exact ⟨_, rfl, own_low ho (by rw [hz]; omega), HE.out.trans h1⟩
set_option maxHeartbeats 2000000 in
theorem concat_rows (s : ByteArray) (hs : s.size < 512) (pv : Value) (nd : Nd) (a b : T) (hk : nd.k = 7) (W : World) (hp : Rd (Ty.slice tySet) W [rowsL s a, rowsL s b] pv) (hT : Tab W) :
    Calls Tryd.prog 49 #[.agg #[.string s, pv], .agg #[.int .i64 nd.k, .int .u8 nd.s]] W (RowsPost s (.bin nd a b) W) := by
  have HM := Lib.hid (make_calls 66 Tryd.call66 #[.pointer (some ⟨W.heap.size, 0, none⟩)] s pv hs (fun i => thruTo (atS (rowsL s a) i) (atS (rowsL s b)) 512) (askW W s pv nd) (fun i W' hi hE => by have := concat1_calls i W.heap.size pv (rowsL s a) (rowsL s b) W' (hT.ext (ask_ext.trans hE)) (Nat.lt_of_lt_of_le (by rw [ask_size]; omega) hE.le) ((hE.cell _ _ (by rw [ask_size]; omega)).trans ask_p) (hp.ext (ask_ext.trans hE)) (by rw [rowsL_len]; omega) (fun k _ h => by rw [rowsL_len]; exact rows_lt h); simpa using this))
  rw [rows_of (x := .bin nd a b) (fun i _ => by obtain ⟨k, sg⟩ := nd; obtain rfl : k = 7 := hk; rw [← concat_thru hs a b i, atS_rows, funext (fun m => atS_rows s b m)])] at HM
  have HE : Hid (Ext W (askW W s pv nd)) := ask_ext
  have hz := ask_size (W := W) (s := s) (pv := pv) (nd := nd)
  clear hk
  unfold askW at HM HE hz
  go_enter Tryd.func49, Tryd.ntmps49
  go_wp2_with ((go_at_call 58; (with_reducible refine (HM.out).mono ?_); rintro e w1 ⟨v, rfl, ho, h1⟩))
  go_ret
  exact ⟨_, rfl, own_low ho (by rw [hz]; omega), HE.out.trans h1⟩
end Go.Proofs.YtdeppnamhdbbhaaDoor
namespace Go.Proofs.YtdeppnamhdbbhaaDoor
open Go.RowKit Go.Eg

theorem not_row {s : ByteArray} {nd : Nd} (hk : nd.k = 9) (a : T) (i : Nat) : notS (s.size + 1) i (rowB (bt s) s.size a i) = rowB (bt s) s.size (.un nd a) i := by
  obtain ⟨k, sg⟩ := nd
  obtain rfl : k = 9 := hk
  funext j
  rw [row_not, notS, subS, subS, loS, loS]
  congr 1
  rw [Bool.eq_iff_iff]
  simp
  omega
set_option maxHeartbeats 2000000 in
theorem not_rows (s : ByteArray) (hs : s.size < 512) (pv : Value) (nd : Nd) (a : T) (hk : nd.k = 9) (W : World) (hp : Rd (Ty.slice tySet) W [rowsL s a] pv) :
    Calls Tryd.prog 51 #[.agg #[.string s, pv], .agg #[.int .i64 nd.k, .int .u8 nd.s]] W (RowsPost s (.un nd a) W) := by
  have HM := Lib.hid (fun w1 (h1 : Ext (askW W s pv nd) w1) => make_calls 70 Tryd.call70 #[.pointer (some ⟨w1.heap.size, 0, none⟩), .pointer (some ⟨W.heap.size, 0, none⟩)] s pv hs
    (fun i => notS (s.size + 1) i (atS (rowsL s a) i)) (w1.alloc (.cells #[Value.int .u64 (wd (loS (s.size + 1)) 0 : Nat), .int .u64 (wd (loS (s.size + 1)) 1 : Nat), .int .u64 (wd (loS (s.size + 1)) 2 : Nat), .int .u64 (wd (loS (s.size + 1)) 3 : Nat), .int .u64 (wd (loS (s.size + 1)) 4 : Nat), .int .u64 (wd (loS (s.size + 1)) 5 : Nat), .int .u64 (wd (loS (s.size + 1)) 6 : Nat), .int .u64 (wd (loS (s.size + 1)) 7 : Nat)] 31)) (fun i W' hi hE => by
      have hE1 : Ext (askW W s pv nd) W' := (h1.alloc _).trans hE
      have := not1_calls (s.size + 1) i w1.heap.size W.heap.size pv (atS (rowsL s a) i) (rowsL s a) W' (Nat.lt_of_lt_of_le (by rw [ask_size]; omega) hE1.le) (Nat.lt_of_lt_of_le (by simp) hE.le) (by omega) (atS_get (by rw [rowsL_len]; omega)) ((Arr.made _ rfl).ext hE (by simp)) ((hE1.cell _ _ (by rw [ask_size]; omega)).trans ask_p) (hp.ext (ask_ext.trans hE1))
      simpa using this))
  rw [rows_of (x := .un nd a) (fun i _ => by rw [atS_rows, not_row hk])] at HM
  have HE : Hid (Ext W (askW W s pv nd)) := ask_ext
  have hz := ask_size (W := W) (s := s) (pv := pv) (nd := nd)
  have HB : Hid (∀ w, Calls Tryd.prog 69 #[.int .i64 ((s.size : Int) + 1)] w fun e w' => e = .returned (.tuple #[Value.agg #[.int .u64 (wd (loS (s.size + 1)) 0 : Nat), .int .u64 (wd (loS (s.size + 1)) 1 : Nat), .int .u64 (wd (loS (s.size + 1)) 2 : Nat), .int .u64 (wd (loS (s.size + 1)) 3 : Nat), .int .u64 (wd (loS (s.size + 1)) 4 : Nat), .int .u64 (wd (loS (s.size + 1)) 5 : Nat), .int .u64 (wd (loS (s.size + 1)) 6 : Nat), .int .u64 (wd (loS (s.size + 1)) 7 : Nat)], .int .i64 (belowE ((s.size : Int) + 1))]) ∧ Ext w w') := Lib.hid (fun w => by
    have := Below_calls ((s.size + 1 : Nat) : Int) w
    rw [below_lo (by omega), show ((s.size + 1 : Nat) : Int) = (s.size : Int) + 1 by omega] at this
    exact this)
  clear hk
  generalize loS (s.size + 1) = q at *
  unfold askW at HM HE hz
  go_enter Tryd.func51, Tryd.ntmps51
  go_wp2_with (first
    | ((go_at_call 69; (with_reducible refine (HB.out _).mono ?_); rintro e w1 ⟨rfl, h1⟩); have := (h1).cells; have := (h1).frozens; have : W.heap.size < w1.heap.size := Nat.lt_of_lt_of_le (by first | assumption | (simp; done) | (simp; omega)) (h1).le)
    | ((go_at_call 58; (with_reducible refine (HM.out _ h1).mono ?_); rintro e w2 ⟨v, rfl, ho, h2⟩)))
  go_ret
  have h12 := (h1.alloc _).trans h2
  exact ⟨_, rfl, own_low ho (by have := h1.le; rw [hz] at this; simp; omega), HE.out.trans h12⟩

/-- The places above i: by f; the others empty. -/
def above (n : Nat) (f : Nat → Nat → Bool) (i : Int) : List (Nat → Bool) := (List.range n).map fun m : Nat => if i < (m : Int) then f m else fun _ => false
theorem above_len (n : Nat) (f : Nat → Nat → Bool) (i : Int) : (above n f i).length = n := by simp [above]
theorem above_top (n : Nat) (f : Nat → Nat → Bool) : above (n + 1) f n = List.replicate (n + 1) (fun _ => false) := by
  apply List.ext_getElem?
  intro i
  by_cases h : i < n + 1
  · have : ¬ (n : Int) < (i : Int) := by omega
    simp only [above, List.getElem?_map, List.getElem?_range h, Option.map_some, if_neg this, List.getElem?_replicate, if_pos h]
  · simp [above, h]
theorem above_set (n : Nat) (f : Nat → Nat → Bool) (m : Nat) (hm : m < n) : (above n f m).set m (f m) = above n f ((m : Int) - 1) := by
  apply List.ext_getElem?
  intro i
  rw [List.getElem?_set, above_len]
  by_cases hmi : m = i
  · subst hmi
    rw [if_pos rfl, if_pos hm]
    simp only [above, List.getElem?_map, List.getElem?_range hm, Option.map_some]
    rw [if_pos (by omega)]
  · rw [if_neg hmi]
    by_cases h : i < n
    · simp only [above, List.getElem?_map, List.getElem?_range h, Option.map_some]
      congr 1
      by_cases h1 : (m : Int) < i
      · rw [if_pos h1, if_pos (by omega)]
      · rw [if_neg h1, if_neg (by omega)]
    · simp [above, h]
theorem above_all (n : Nat) (f : Nat → Nat → Bool) : above n f (-1) = (List.range n).map f :=
  List.map_congr_left fun i _ => by rw [if_pos (by omega)]
theorem above_at {n : Nat} {f : Nat → Nat → Bool} {i : Int} {m : Nat} (hm : m < n) (h : i < m) : atS (above n f i) m = f m := by
  simp only [atS, above, List.getD_eq_getElem?_getD, List.getElem?_map, List.getElem?_range hm, Option.map_some, if_pos h, Option.getD_some]
theorem drop_iff {p : Nat → Bool} {i : Nat} (hi : i < 512) (m : Nat) : dropS p (i : Int) m = true ↔ m ≠ i ∧ p m = true := by
  have hr : inR (i : Int) = true := by simp [inR]; omega
  rw [dropS, if_pos hr, delSet]
  simp
  constructor
  · rintro ⟨h1, h2⟩; exact ⟨by omega, h1⟩
  · rintro ⟨h1, h2⟩; exact ⟨h2, by omega⟩

set_option maxHeartbeats 8000000 in
set_option maxRecDepth 100000 in
theorem star_rows (s : ByteArray) (hs : s.size < 512) (pv : Value) (nd : Nd) (a : T) (hk : nd.k = 8) (W : World) (hp : Rd (Ty.slice tySet) W [rowsL s a] pv) (hT : Tab W) :
    Calls Tryd.prog 50 #[.agg #[.string s, pv], .agg #[.int .i64 nd.k, .int .u8 nd.s]] W (RowsPost s (.un nd a) W) := by
  obtain ⟨A, c, rfl, hlc, hcm⟩ := hp.shape
  have e2 : [rowsL s a].length = 1 := rfl
  rw [e2] at *
  clear e2
  obtain ⟨pb, po, u, rfl, hpb, hp0, hu⟩ := hp.slices (i := 0) rfl
  obtain ⟨A1, c1, rfl, hl1, _⟩ := hu.shape
  simp only [Nat.add_zero] at hp0
  have hmk := fun W => mk_rows (s.size + 1) W (by omega)
  have hcast : ((s.size + 1 : Nat) : Int) = (s.size : Int) + 1 := by omega
  rw [hcast] at hmk
  have HE : Hid (Ext W (askW W s (.slice (some ⟨pb, po, none⟩) 1 c) nd)) := ask_ext
  have hz := ask_size (W := W) (s := s) (pv := (.slice (some ⟨pb, po, none⟩) 1 c)) (nd := nd)
  have HP1 := Lib.hid (ask_p (W := W) (s := s) (pv := (.slice (some ⟨pb, po, none⟩) 1 c)) (nd := nd))
  have HK := Lib.hid hk
  clear hk hp
  have h0 := own_made (w := askW W s (.slice (some ⟨pb, po, none⟩) 1 c) nd) (W.heap.size + 2) (s.size + 1) (by rw [hz]; omega) (by omega)
  rw [hz] at h0
  unfold askW at HE hz HP1 h0
  go_enter Tryd.func50, Tryd.ntmps50
  go_wp2_with (first | simp only [hmk])
  go_loopw [6, 7, 8] (fun v6 _ _ wr => ∃ i : Int, v6 = .int .i64 i ∧ -1 ≤ i ∧ i ≤ s.size ∧ Hid (Own tySet 31 (W.heap.size + 2) No wr (above (s.size + 1) (rowB (bt s) s.size (.un nd a)) i) (.slice (some ⟨W.heap.size + 2, 0, none⟩) (s.size + 1) (s.size + 1))) ∧ Hid (Ext ((W.alloc (.cells #[.string s, .slice (some ⟨pb, po, none⟩) 1 c] 74)).alloc (.cells #[.int .i64 nd.k, .int .u8 nd.s] 27)) wr)) (fun v6 _ _ _ => (intOf v6 + 1).toNat)
  case atStart => exact ⟨s.size, rfl, by omega, by omega, Lib.hid (by rw [above_top]; simpa using h0), Lib.hid ((Ext.refl _).alloc _)⟩
  case round =>
    clear h0 hmk
    obtain ⟨i, rfl, hi1, hi2, HO, HX⟩ := hrel
    by_cases hneg : i = -1
    · subst hneg
      rw [above_all, rows_of (x := .un nd a) (fun _ _ => rfl)] at HO
      go_wp2_with fail
      go_ret
      exact ⟨_, rfl, own_low HO.out (by omega), HE.out.trans HX.out⟩
    · obtain ⟨m, rfl⟩ := Int.eq_ofNat_of_zero_le (show 0 ≤ i by omega)
      have hm : m < s.size + 1 := by omega
      have hge : decide ((0 : Int) ≤ (m : Int)) = true := decide_eq_true (by omega)
      have hw0 := (HX.out.cell _ _ (by rw [hz]; omega)).trans HP1.out
      have HEX0 := HE.out.trans HX.out
      have hp1 := (HEX0.cell _ _ hpb).trans hp0
      have hml : m < (rowsL s a).length := by rw [rowsL_len]; exact hm
      obtain ⟨vb, vo, rfl, hvb, hv0, hv1, hv2, hv3, hv4, hv5, hv6, hv7⟩ := rd_set (hu.ext HEX0) (atS_get hml)
      have HWo := Lib.hid (Without_calls (atS (rowsL s a) m) (m : Int))
      have HOn := Lib.hid (one_calls (m : Int))
      rw [with_one (by omega)] at HOn
      have HTh := Lib.hid (fun W' (hE : Ext wr W') => through_calls (dropS (atS (rowsL s a) m) (m : Int)) (above (s.size + 1) (rowB (bt s) s.size (.un nd a)) m) _ W' (hT.ext (HEX0.trans hE)) (HO.out.rd.ext hE) (fun k _ h => by rw [above_len]; exact rows_lt ((drop_iff (by omega) k).1 h).2))
      have HUn := Lib.hid (union_calls (fun j => j == m) (thruTo (dropS (atS (rowsL s a) m) (m : Int)) (atS (above (s.size + 1) (rowB (bt s) s.size (.un nd a)) m)) 512))
      have HST : orS (fun j => j == m) (thruTo (dropS (atS (rowsL s a) m) (m : Int)) (atS (above (s.size + 1) (rowB (bt s) s.size (.un nd a)) m)) 512) = rowB (bt s) s.size (.un nd a) m := by
        obtain ⟨k, sg⟩ := nd
        obtain rfl : k = 8 := HK.out
        exact star_thru hs a m (by omega) _ (fun x => by rw [drop_iff (by omega), atS_rows]) _ (fun x h1 h2 => above_at (by omega) (by omega))
      rw [HST] at HUn
      clear HST
      have HG : Hid (m < (above (s.size + 1) (rowB (bt s) s.size (.un nd a)) m).length) := Lib.hid (by rw [above_len]; exact hm)
      have HSET := Lib.hid (above_set (s.size + 1) (rowB (bt s) s.size (.un nd a)) m hm)
      generalize thruTo (dropS (atS (rowsL s a) m) (m : Int)) (atS (above (s.size + 1) (rowB (bt s) s.size (.un nd a)) m)) 512 = p1 at *
      generalize dropS (atS (rowsL s a) m) (m : Int) = p2 at *
      generalize hp0_ : (fun j => j == m) = p0 at *
      clear hp0_
      generalize rowB (bt s) s.size (.un nd a) m = p3 at *
      generalize atS (rowsL s a) m = p4 at *
      generalize above (s.size + 1) (rowB (bt s) s.size (.un nd a)) m = L at *
      clear hu hi1 hi2
      go_wp2_with ((go_at_call 68; (with_reducible refine (HWo.out _).mono ?_); rintro e w1 ⟨rfl, h1⟩))
      have HX2 : Hid (Ext wr (w1.alloc (.cells #[Value.int .u64 (wd (p2) 0 : Nat), .int .u64 (wd (p2) 1 : Nat), .int .u64 (wd (p2) 2 : Nat), .int .u64 (wd (p2) 3 : Nat), .int .u64 (wd (p2) 4 : Nat), .int .u64 (wd (p2) 5 : Nat), .int .u64 (wd (p2) 6 : Nat), .int .u64 (wd (p2) 7 : Nat)] 31))) := Lib.hid (h1.alloc _)
      have HL2 : Hid (Arr (w1.alloc (.cells #[Value.int .u64 (wd (p2) 0 : Nat), .int .u64 (wd (p2) 1 : Nat), .int .u64 (wd (p2) 2 : Nat), .int .u64 (wd (p2) 3 : Nat), .int .u64 (wd (p2) 4 : Nat), .int .u64 (wd (p2) 5 : Nat), .int .u64 (wd (p2) 6 : Nat), .int .u64 (wd (p2) 7 : Nat)] 31)) w1.heap.size p2) := Lib.hid (Arr.made p2 rfl)
      have HS2 : Hid (w1.heap.size < (w1.alloc (.cells #[Value.int .u64 (wd (p2) 0 : Nat), .int .u64 (wd (p2) 1 : Nat), .int .u64 (wd (p2) 2 : Nat), .int .u64 (wd (p2) 3 : Nat), .int .u64 (wd (p2) 4 : Nat), .int .u64 (wd (p2) 5 : Nat), .int .u64 (wd (p2) 6 : Nat), .int .u64 (wd (p2) 7 : Nat)] 31)).heap.size) := by show _ < _; simp
      have HN2 : Hid (W.heap.size + 2 < w1.heap.size) := by show _ < _; have := (HO.out.block (W.heap.size + 2) rfl).2; have := h1.le; omega
      clear hv0 hv1 hv2 hv3 hv4 hv5 hv6 hv7 hp1 hw0 h1
      generalize w1.alloc (.cells #[Value.int .u64 (wd (p2) 0 : Nat), .int .u64 (wd (p2) 1 : Nat), .int .u64 (wd (p2) 2 : Nat), .int .u64 (wd (p2) 3 : Nat), .int .u64 (wd (p2) 4 : Nat), .int .u64 (wd (p2) 5 : Nat), .int .u64 (wd (p2) 6 : Nat), .int .u64 (wd (p2) 7 : Nat)] 31) = W2 at *
      generalize w1.heap.size = a7 at *
      have H__ := (HL2).out; obtain ⟨ce0, fe0⟩ := H__ 0 (by omega); obtain ⟨ce1, fe1⟩ := H__ 1 (by omega); obtain ⟨ce2, fe2⟩ := H__ 2 (by omega); obtain ⟨ce3, fe3⟩ := H__ 3 (by omega); obtain ⟨ce4, fe4⟩ := H__ 4 (by omega); obtain ⟨ce5, fe5⟩ := H__ 5 (by omega); obtain ⟨ce6, fe6⟩ := H__ 6 (by omega); obtain ⟨ce7, fe7⟩ := H__ 7 (by omega); clear H__
      have hL2 := HL2.out
      have hE2 := HX2.out
      go_region_with (first
        | ((go_at_call 60; (with_reducible refine (HOn.out _).mono ?_); rintro e w3 ⟨rfl, h3⟩); have hL3 := hL2.ext (show Ext W2 w3 by (repeat (first | assumption | exact Ext.refl _ | apply Ext.alloc | apply Ext.drew | apply Ext.drewN | refine Ext.trans ?_ (by assumption)))) HS2.out; (have H__ := ((Lib.hid hL3)).out; obtain ⟨ke0, le0⟩ := H__ 0 (by omega); obtain ⟨ke1, le1⟩ := H__ 1 (by omega); obtain ⟨ke2, le2⟩ := H__ 2 (by omega); obtain ⟨ke3, le3⟩ := H__ 3 (by omega); obtain ⟨ke4, le4⟩ := H__ 4 (by omega); obtain ⟨ke5, le5⟩ := H__ 5 (by omega); obtain ⟨ke6, le6⟩ := H__ 6 (by omega); obtain ⟨ke7, le7⟩ := H__ 7 (by omega); clear H__); have hE3 := hE2.trans (show Ext W2 w3 by (repeat (first | assumption | exact Ext.refl _ | apply Ext.alloc | apply Ext.drew | apply Ext.drewN | refine Ext.trans ?_ (by assumption)))))
        | ((go_at_call 67; (with_reducible refine (HTh.out _ hE3).mono ?_); rintro e w4 ⟨rfl, h4⟩); have hE4 := hE3.trans h4)
        | ((go_at_call 63; (with_reducible refine (HUn.out _).mono ?_); rintro e w5 ⟨rfl, h5⟩); have hE5 := hE4.trans h5; have HO5 := Lib.hid (HO.out.ext hE5); obtain ⟨hg, hc0, hc1, hc2, hc3, hc4, hc5, hc6, hc7⟩ := own_set HO5.out (List.getElem?_eq_getElem HG.out); have hfr := HO5.out.free))
      all_goals
        go_wp2_with fail
        go_roundw
        case rel =>
          have HS5 := Own.store8 (i := m) HO5.out HG.out p3
          rw [HSET.out] at HS5
          exact ⟨(m : Int) - 1, by go_num, by omega, by omega, Lib.hid HS5, Lib.hid (Ext.put8 (HX.out.trans hE5) (m * 8) p3 (by rw [hz]; exact Nat.le_refl _))⟩
        case measure => simp [intOf]
end Go.Proofs.YtdeppnamhdbbhaaDoor
namespace Go.Eg
open Go.RowKit Go.Maps

/-- How a function without captured values reads. -/
def fnR (v : Value) : Option (DataW Unit × List MemPlace) :=
  match v with
  | .func (.func n) f c => if f.isEmpty && c.isEmpty then some (.lit (.int .i64 (n : Int)), []) else none
  | .nilFunc => some (.nil, [])
  | _ => none
theorem fnR_func (n : Nat) : fnR (.func (.func n) #[] #[]) = some (.lit (.int .i64 (n : Int)), []) := rfl
theorem fnR_inv {v : Value} {n : Nat} {ps : List MemPlace} (h : fnR v = some (.lit (.int .i64 (n : Int)), ps)) : v = .func (.func n) #[] #[] := by
  unfold fnR at h
  split at h
  · rename_i m f c
    split at h
    · rename_i he
      simp only [Bool.and_eq_true, Array.isEmpty_iff] at he
      obtain ⟨rfl, rfl⟩ := he
      have h2 := congrArg (fun o : Option (DataW Unit × List MemPlace) => match o with | some (.lit (.int _ a), _) => a | _ => 0) h
      have h3 : (m : Int) = (n : Int) := by simpa using h2
      have : m = n := Int.ofNat.inj h3
      rw [this]
    · cases h
  · simp at h
  · cases h
/-- A map's entry is laid down. -/
theorem wpList_insert_own {H : Type} {P : Program} (w : World) {ops : Array Oper} {rest : List Oper} {o : Oper} {a : Act} {Q : Exit → Act → World → Prop}
    (hg : o.guard = none) (m x v : Operand) (t : TypeId) (hop : o.op = Op.insert t m x v)
    (k e : TypeId) (K : Keyed P k) (ht : P.underlying t = some (.map k e)) (R : Value → Option (DataW H × List MemPlace)) (b n : Nat) (D : DataW H)
    (hm : a.eval m = .map (some b)) (hown : w.ownsMap P k R b n D) (hn : n < maxLen) (key val : Value) (kl : Lit) (hx : a.eval x = key) (hv : a.eval v = val) (hkey : keyOf P k key = some kl)
    (d : DataW H) (ps : List MemPlace) (hval : R val = some (d, ps))
    (hK : ∀ w', w'.ownsMap P k R b (n + 1) (D.put kl d) → w.grownBy w' (some b) → wpList P ops Q rest (a.put o.dst undef) w') :
    wpList P ops Q (o :: rest) a w := by
  refine wpList_plain hg fun K' hK' => ?_
  obtain ⟨w', hrun, r1, r2⟩ := hown.update K ht hn hkey hval
  unfold Oper.wp
  simp [execOp, hop, hm, hx, hv, hrun, Result.andThen]
  exact hK' _ _ (hK w' r1 r2)
end Go.Eg
namespace Go.Proofs.YtdeppnamhdbbhaaDoor
open Go.RowKit Go.Eg Go.Maps

/-- What is done for a kind. -/
def fnOf (k : Int) : Nat :=
  if k = 1 then 44 else if k = 2 then 45 else if k = 3 then 46 else if k = 4 then 46 else if k = 5 then 47 else
  if k = 6 then 48 else if k = 7 then 49 else if k = 8 then 50 else 51
def kindsD (n : Nat) : DataW Unit := (List.range n).foldl (fun D (i : Nat) => D.put (.int .i64 ((i : Int) + 1)) (.lit (.int .i64 (fnOf ((i : Int) + 1) : Nat)))) (.map [])
def Kinds (w : World) (b : Nat) : Prop := w.ownsMap Tryd.prog 3 fnR b 9 (kindsD 9)
theorem Kinds.ext {w w' : World} {b : Nat} (h : Kinds w b) (he : Ext w w') : Kinds w' b := World.ownsMap.kept h (he.grownBy none) (by simp)
theorem Kinds.at {w : World} {b : Nat} (h : Kinds w b) {k : Int} (h1 : 1 ≤ k) (h9 : k ≤ 9) : (Instr.lookup 69 (.map (some b)) (.int .i64 k) false).run Tryd.prog w = .ok (.func (.func (fnOf k)) #[] #[]) w := by
  obtain ⟨hkey, hd⟩ : keyOf Tryd.prog 3 (.int .i64 k) = some (.int .i64 k) ∧ (kindsD 9).atKey (.int .i64 k) .nil = .lit (.int .i64 (fnOf k : Nat)) := by
    obtain ⟨m, rfl⟩ := Int.eq_ofNat_of_zero_le (show 0 ≤ k by omega)
    have : m < 10 := by omega
    match m, this with
    | 0, _ => omega
    | 1, _ | 2, _ | 3, _ | 4, _ | 5, _ | 6, _ | 7, _ | 8, _ | 9, _ => exact ⟨keyOf_int_mk Tryd.underlying3 (by decide), rfl⟩
  obtain ⟨v, ps, hrun, hv⟩ := World.ownsMap.lookup h (int_keyed Tryd.underlying3) Tryd.underlying69 (z := .nilFunc) (zd := .nil) (zp := []) (by kernel_rfl) rfl hkey
  rw [hrun]
  rw [hd] at hv
  rw [fnR_inv hv]
set_option maxHeartbeats 4000000 in
set_option maxRecDepth 100000 in
theorem kinds_calls (W : World) : Calls Tryd.prog 36 #[] W fun e w' => ∃ b, e = .returned (.map (some b)) ∧ Kinds w' b ∧ Ext W w' := by
  have hmm := fun w => run_makeMap (P := Tryd.prog) 69 w
  have h0 := World.ownsMap_made W Tryd.prog 3 fnR
  have hE : Ext W (W.alloc (.map #[] 0)) := (Ext.refl W).alloc _
  go_enter Tryd.func36, Tryd.ntmps36
  go_wp2_with (first
    | (refine wpList_insert_own _ rfl _ _ _ 69 rfl 3 72 (int_keyed Tryd.underlying3) Tryd.underlying69 fnR _ _ _ rfl (by assumption) (by decide) _ _ _ rfl rfl (keyOf_int_mk Tryd.underlying3 (by decide)) _ [] rfl ?_; intro w1 h1 hg; replace hE := hE.grown hg (fun k hk => by cases hk; exact Nat.le_refl _); clear hg))
  go_ret
  exact ⟨_, rfl, h1, hE⟩
end Go.Proofs.YtdeppnamhdbbhaaDoor
namespace Go.Eg
open Go.RowKit

theorem add_addr (b off j : Nat) : (⟨b, off, none⟩ : Addr).add j = ⟨b, off + j, none⟩ := by
  unfold Addr.add
  split
  · rename_i h; rw [h]; rfl
  · rfl
section
variable {P : Program} {ops : Array Oper} {rest : List Oper} {a : Act} {Q : Exit → Act → World → Prop} {α : Type} {t : Ty α}
/-- What a slice's cells hold, one behind the other. -/
theorem Rd.news {w : World} {ys : List α} {A : Option Addr} {n c : Nat} (h : Rd t w ys (.slice A n c)) : ∃ news : List Value, news.length = ys.length * t.sz ∧ (∀ ad, A = some ad → ∀ j u, news[j]? = some u → w.cell? (ad.add j) = some u) ∧
    ∀ i x, ys[i]? = some x → ∃ cs, t.rel Any w x cs ∧ ∀ j u, cs[j]? = some u → news[i * t.sz + j]? = some u := by
  by_cases hy : ys = []
  · subst hy
    exact ⟨[], by simp, fun _ _ j u h => by simp at h, fun i x h => by simp at h⟩
  · obtain ⟨A', c', e, hl, hm, hr⟩ := h
    cases e
    obtain ⟨b, off, e1, _, hlt, hrow⟩ := hr hy
    obtain ⟨news, h1, h2, h3, h4⟩ := hrow.news
    refine ⟨news, h1, fun ad ha j u hu => ?_, h4⟩
    rw [e1] at ha
    cases ha
    rw [add_addr]
    exact h2 j u hu
theorem clip_row {w w' : World} {e : TypeId} {xs : List α} {y : α} {cells zs : List Value} {news : List Value} (hw : Ext w w') (hb : w'.heap[w.heap.size]? = some (.cells (cells.toArray ++ news.toArray ++ zs.toArray) e (0, 0)))
    (hc : cells.length = xs.length * t.sz) (h1 : ∀ i x, xs[i]? = some x → ∃ cs, t.rel Any w x cs ∧ ∀ j u, cs[j]? = some u → cells[i * t.sz + j]? = some u)
    (h2 : ∀ i x, [y][i]? = some x → ∃ cs, t.rel Any w x cs ∧ ∀ j u, cs[j]? = some u → news[i * t.sz + j]? = some u) (c : Nat) (hcap : xs.length + 1 ≤ c) (hcm : c ≤ maxLen) :
    Rd t w' (xs ++ [y]) (.slice (some ⟨w.heap.size, 0, none⟩) (xs.length + 1) c) := by
  have hlt : w.heap.size < w'.heap.size := (Array.getElem?_eq_some_iff.1 hb).1
  have hcell : ∀ j u, (cells ++ news)[j]? = some u → w'.cell? ⟨w.heap.size, 0 + j, none⟩ = some u := fun j u hu => by
    have : (cells ++ (news ++ zs))[j]? = some u := by
      rw [← List.append_assoc, List.getElem?_append_left (List.getElem?_eq_some_iff.1 hu).1]
      exact hu
    simp [World.cell?, hb, this]
  refine ⟨some ⟨w.heap.size, 0, none⟩, c, by rw [List.length_append]; rfl, by rw [List.length_append]; exact hcap, hcm, fun _ => ⟨w.heap.size, 0, rfl, trivial, hlt, fun i x hx => ?_⟩⟩
  rw [List.getElem?_append] at hx
  split at hx
  · obtain ⟨cs, hr, hcs⟩ := h1 i x hx
    refine ⟨cs, t.ext hw hr, fun j u hu => ?_⟩
    have hj := hcs j u hu
    have := hcell (i * t.sz + j) u (by rw [List.getElem?_append_left (List.getElem?_eq_some_iff.1 hj).1]; exact hj)
    rw [← Nat.add_assoc] at this
    exact this
  · rename_i hi
    obtain ⟨cs, hr, hcs⟩ := h2 _ x hx
    refine ⟨cs, t.ext hw hr, fun j u hu => ?_⟩
    have hj := hcs j u hu
    have hle : xs.length * t.sz ≤ i * t.sz := Nat.mul_le_mul_right _ (by omega)
    have := hcell (i * t.sz + j) u (by rw [List.getElem?_append_right (by omega), hc, show i * t.sz + j - xs.length * t.sz = (i - xs.length) * t.sz + j by rw [Nat.sub_mul]; omega]; exact hj)
    rw [← Nat.add_assoc] at this
    exact this
/-- append(v[:n:n], y). -/
theorem wp_append_clip {w : World} {dst : Option Tmp} {s x : Operand} {T ty : TypeId} {pos : String} {after : Array Edge} (e bytes : Nat) (he : Elem P T e t.sz bytes)
    (A : Option Addr) (n : Nat) (xs : List α) (hs : a.eval s = .slice A n n) (hA : A = none → n = 0) (hrd : Rd t w xs (.slice A n n)) (y : α) (src : Value) (hx : a.eval x = src) (hsrc : Rd t w [y] src)
    (hlen : (xs.length + 1) * bytes ≤ 140737488355328) (h0 : 0 < bytes)
    (h : ∀ v' w', Rd t w' (xs ++ [y]) v' → Ext w w' → wpList P ops Q rest (a.put dst v') w') :
    wpList P ops Q (⟨dst, .call { callee := .builtin .append, args := #[s, x], argTypes := #[T, T] }, ty, pos, after, none⟩ :: rest) a w := by
  refine wpList_plain rfl fun K hK => ?_
  obtain ⟨i, z, hu, hi, hz, hsz, hby, hzs, hsz0⟩ := he
  subst hby
  have hm : xs.length + 1 ≤ maxLen := by
    have := Nat.le_trans (Nat.le_mul_of_pos_right _ h0) hlen
    simp only [maxLen]; omega
  have hn : n = xs.length := by obtain ⟨A', c', e, _⟩ := hrd.shape; cases e; rfl
  subst hn
  obtain ⟨cells, hcl, hcells, hcr⟩ := hrd.news
  obtain ⟨A1, c1, rfl, hl1, _⟩ := hsrc.shape
  obtain ⟨b1, off1, cs1, rfl, _⟩ := hsrc.at (i := 0) rfl
  obtain ⟨news, hnl, hnews, hnr⟩ := hsrc.news
  have hex : ∀ o, Ext w (w.drew.alloc o) := fun o => ((Ext.refl w).drew).alloc o
  have hz63 : xs.length + 1 ≤ 9223372036854775807 := by simp only [maxLen] at hm; omega
  cases A with
  | none =>
    have h00 := hA rfl
    have hxs : xs = [] := List.eq_nil_of_length_eq_zero h00
    subst hxs
    have hr := run_append_nil (P := P) w T ty e i z hu hi hz ⟨b1, off1, none⟩ 1 c1 news (by rw [hsz]; exact hnl) (hnews _ rfl) (by omega) (by omega) (by have h9 := hlen; simp at h9; omega)
    unfold Oper.wp execOp
    simp only [resolve, invoke, builtin, Sem.run_bind, Sem.run_pure, Result.andThen_ok, List.map_toArray, List.map_cons, List.map_nil, hs, hx, List.length_nil, List.length_cons, hr]
    refine hK _ _ (h _ _ ?_ (hex _))
    have := clip_row (t := t) (e := e) (xs := []) (y := y) (cells := []) (zs := (Builtin.zeroCells z.cells (grownCap w 1 0 e - 1)).toList) (news := news) (hex _) (by simpa using heap_alloc_new w.drew _) (by simp) (fun i x hx => by simp at hx) hnr (grownCap w 1 0 e) (grownCap_ge w 1 0 e) (grownCap_le_maxLen w 1 0 e (by decide))
    simpa using this
  | some ad =>
    have hr := run_append_grow (P := P) w T ty e i z hu hi hz ad xs.length xs.length cells (by rw [hsz]; exact hcl) (hcells ad rfl) ⟨b1, off1, none⟩ 1 c1 news (by rw [hsz]; exact hnl) (hnews _ rfl) (by omega) (by omega) (growslice_fits (by omega) hlen)
    unfold Oper.wp execOp
    simp only [resolve, invoke, builtin, Sem.run_bind, Sem.run_pure, Result.andThen_ok, List.map_toArray, List.map_cons, List.map_nil, hs, hx, List.length_nil, List.length_cons, Nat.zero_add, hr]
    refine hK _ _ (h _ _ ?_ (hex _))
    have := clip_row (t := t) (e := e) (xs := xs) (y := y) (cells := cells) (zs := (Builtin.zeroCells z.cells (grownCap w (xs.length + 1) xs.length e - (xs.length + 1))).toList) (news := news) (hex _) (by simpa using heap_alloc_new w.drew _) hcl hcr hnr (grownCap w (xs.length + 1) xs.length e) (grownCap_ge w _ _ e) (grownCap_le_maxLen w _ _ e hm)
    simpa using this
end
end Go.Eg
namespace Go.Proofs.YtdeppnamhdbbhaaDoor
open Go.RowKit Go.Eg

theorem fn_call (k : Int) : ∀ args W, Sem.run Tryd.prog (callFunc (fnOf k) args) W = .ok (.enter (fnOf k) args) W := by
  unfold fnOf
  split
  · exact Tryd.call44
  · split
    · exact Tryd.call45
    · split
      · exact Tryd.call46
      · split
        · exact Tryd.call46
        · split
          · exact Tryd.call47
          · split
            · exact Tryd.call48
            · split
              · exact Tryd.call49
              · split
                · exact Tryd.call50
                · exact Tryd.call51
theorem node_rows (s : ByteArray) (hs : s.size < 512) (nd : Nd) (S : List T) (hg : good nd = true) {X : T} (h : Pushed nd S (X :: S.drop (ar nd.k).toNat)) (pv : Value) (W : World) (hp : Rd (Ty.slice tySet) W ((sv (rowsL s) S).drop (S.length - (ar nd.k).toNat)) pv) (hT : Tab W) :
    Calls Tryd.prog (fnOf nd.k) #[.agg #[.string s, pv], .agg #[.int .i64 nd.k, .int .u8 nd.s]] W (RowsPost s X W) := by
  have hk := good_kind hg
  generalize hP : X :: S.drop (ar nd.k).toNat = P at *
  cases h with
  | leaf _ h0 =>
    obtain ⟨rfl, _⟩ := List.cons.inj hP
    have : nd.k = 1 ∨ nd.k = 2 ∨ nd.k = 3 ∨ nd.k = 4 := by unfold ar at h0; split at h0; omega; split at h0; omega; split at h0 <;> omega
    rcases this with e | e | e | e
    · have := none_rows s hs pv nd e W; rw [e] at this ⊢; exact this
    · have := empty_rows s hs pv nd e W; rw [e] at this ⊢; exact this
    · have := letter_rows s hs pv nd (.inl e) W; rw [e] at this ⊢; exact this
    · have := letter_rows s hs pv nd (.inr e) W; rw [e] at this ⊢; exact this
  | un a S' h1 =>
    obtain ⟨rfl, _⟩ := List.cons.inj hP
    have : nd.k = 8 ∨ nd.k = 9 := by unfold ar at h1; split at h1; omega; split at h1; omega; split at h1 <;> omega
    have hp' : Rd (Ty.slice tySet) W [rowsL s a] pv := by
      have e2 : (sv (rowsL s) (a :: S')).drop ((a :: S').length - (ar nd.k).toNat) = [rowsL s a] := by
        rw [sv_push, h1, List.drop_append, sv_len]; simp [sv_len]
      rw [e2] at hp; exact hp
    rcases this with e | e
    · have := star_rows s hs pv nd a e W hp' hT; rw [e] at this ⊢; exact this
    · have := not_rows s hs pv nd a e W hp'; rw [e] at this ⊢; exact this
  | bin a b S' h2 =>
    obtain ⟨rfl, _⟩ := List.cons.inj hP
    have : nd.k = 5 ∨ nd.k = 6 ∨ nd.k = 7 := by unfold ar at h2; split at h2; omega; split at h2; omega; split at h2 <;> omega
    have hp' : Rd (Ty.slice tySet) W [rowsL s a, rowsL s b] pv := by
      have e2 : (sv (rowsL s) (b :: a :: S')).drop ((b :: a :: S').length - (ar nd.k).toNat) = [rowsL s a, rowsL s b] := by
        rw [sv_push, sv_push, h2, List.append_assoc, List.drop_append, sv_len]; simp [sv_len]
      rw [e2] at hp; exact hp
    rcases this with e | e | e
    · have := union_rows s hs pv nd a b e W hp'; rw [e] at this ⊢; exact this
    · have := inter_rows s hs pv nd a b e W hp'; rw [e] at this ⊢; exact this
    · have := concat_rows s hs pv nd a b e W hp' hT; rw [e] at this ⊢; exact this
theorem elAll : Elem Tryd.prog 71 57 1 24 := Elem.mk (z := .slice none 0 0) Tryd.underlying71 (by kernel_rfl) rfl (by decide)
theorem push_top {nd : Nd} {S P : List T} (h : Pushed nd S P) : ∃ X, P = X :: S.drop (ar nd.k).toNat := by
  cases h with
  | leaf _ h => exact ⟨_, by rw [h]; rfl⟩
  | un a _ h => exact ⟨_, by rw [h]; rfl⟩
  | bin a b _ h => exact ⟨_, by rw [h]; rfl⟩
theorem sv_rest {β : Type} (f : T → β) (S : List T) (a : Nat) (h : a ≤ S.length) : sv f (S.drop a) = (sv f S).take (S.length - a) := by
  unfold sv
  rw [List.take_reverse, List.length_map, show S.length - (S.length - a) = a by omega, List.map_drop]
/-- A slice's head, cut to its length. -/
theorem Rd.clip {α : Type} {t : Ty α} {w : World} {xs : List α} {A : Option Addr} {n c : Nat} (h : Rd t w xs (.slice A n c)) (k : Nat) (hk : k ≤ n) : Rd t w (xs.take k) (.slice A k k) := by
  obtain ⟨A', c', e, hl, hm, hr⟩ := h
  cases e
  have e1 : (xs.take k).length = k := by rw [List.length_take]; omega
  refine ⟨_, _, by rw [e1], by omega, by omega, fun hne => ?_⟩
  obtain ⟨b', off', e, _, hlt, hrow⟩ := hr (by rintro rfl; simp at hne)
  exact ⟨_, _, e, trivial, hlt, hrow.take k⟩
/-- A slice's tail. -/
theorem Rd.tail {α : Type} {t : Ty α} {w : World} {xs : List α} {b off n c : Nat} (h : Rd t w xs (.slice (some ⟨b, off, none⟩) n c)) (k : Nat) (hk : k ≤ n) : Rd t w (xs.drop k) (.slice (some ⟨b, off + k * t.sz, none⟩) (n - k) (c - k)) := by
  obtain ⟨A', c', e, hl, hm, hr⟩ := h
  cases e
  refine ⟨_, _, by rw [List.length_drop], by rw [List.length_drop]; omega, by omega, fun hne => ?_⟩
  obtain ⟨b', off', e, _, hlt, hrow⟩ := hr (by rintro rfl; simp at hne)
  cases e
  exact ⟨_, _, rfl, trivial, hlt, hrow.drop k⟩

set_option maxHeartbeats 4000000 in
set_option maxRecDepth 100000 in
theorem run_calls (x : T) (hx : x.wf) (t : List Nd) (ht : t = x.flat) (hlen : t.length ≤ 4000) (v : Value) (s : ByteArray) (hs : s.size < 512) (w : World) (hr : Rd tyNd w t v) (hT : Tab w) :
    Calls Tryd.prog 25 #[v, .string s] w fun e w' => ∃ v', e = .returned v' ∧ Rd tySet w' (rowsL s x) v' ∧ Ext w w' := by
  obtain ⟨A, c, rfl, hlc, hcm⟩ := hr.shape
  unfold maxLen at hcm
  have hst := St.start (t := t) (by rw [ht]; exact ok_tree hx)
  have HTx := Lib.hid ht
  clear ht
  go_enter Tryd.func25, Tryd.ntmps25
  go_wp2_with ((go_at_call 36; (with_reducible refine (kinds_calls _).mono ?_); rintro e w0 ⟨kb, rfl, hK0, h0⟩))
  go_loopw [6, 8, 9, 10, 14] (fun v6 _ _ _ v14 wr => ∃ (i : Nat) (S : List T), v14 = .int .i64 i ∧ i ≤ t.length ∧ (S = [] → v6 = .slice none 0 0) ∧ Hid (St t i S) ∧ Hid (Rd (Ty.slice tySet) wr (sv (rowsL s) S) v6) ∧ Kinds wr kb ∧ Ext w wr) (fun _ _ _ _ v14 _ => t.length - (intOf v14).toNat)
  case atStart => exact ⟨0, [], rfl, by omega, fun _ => rfl, Lib.hid hst, Lib.hid (Rd.nil _ _), hK0, h0⟩
  case round =>
    clear hK0 h0 hst
    obtain ⟨i, S, rfl, hi, hA6, HST, HR, hK, he⟩ := hrel
    by_cases hlt : i < t.length
    · obtain ⟨b, off, rfl, hb, hc0, hc1⟩ := rd_node (hr.ext he) hlt
      obtain ⟨hg, hle, hpush, hst'⟩ := HST.out.next hlt
      have HST' := Lib.hid hst'
      have hSl := HST.out.len
      have har := ar_le (nth t i).k
      have har0 := good_ar hg
      have hkk := good_kind hg
      generalize nth t i = nd at *
      clear hst' hr
      obtain ⟨k, hk⟩ : ∃ k : Nat, (S.length : Int) - ar nd.k = (k : Int) := ⟨(S.length - ar nd.k).toNat, by omega⟩
      have hkl : S.length - (ar nd.k).toNat = k := by omega
      obtain ⟨X, hX⟩ := push_top hpush
      rw [hX] at HST' hpush
      have HN := Lib.hid (fun pv W' (hE : Ext wr W') (hp : Rd (Ty.slice tySet) W' ((sv (rowsL s) S).drop k) pv) => node_rows s hs nd S hg hpush pv W' (by rw [hkl]; exact hp) (hT.ext (he.trans hE)))
      have HV : Hid (sv (rowsL s) (X :: S.drop (ar nd.k).toNat) = (sv (rowsL s) S).take k ++ [rowsL s X]) := Lib.hid (by rw [sv_push, sv_rest _ _ _ (by omega), hkl])
      clear hX hpush
      have hcf := fn_call nd.k
      have hK1 : Kinds (wr.alloc (.cells #[.int .i64 nd.k, .int .u8 nd.s] 27)) kb := hK.ext ((Ext.refl wr).alloc _)
      have hlook := (hK1.ext (Ext.refl _).drew).at hkk.1 hkk.2
      have hc80 : (wr.alloc (.cells #[.int .i64 nd.k, .int .u8 nd.s] 27)).cell? ⟨wr.heap.size, 0, none⟩ = some (.int .i64 nd.k) := by simp
      have hc81 : (wr.alloc (.cells #[.int .i64 nd.k, .int .u8 nd.s] 27)).cell? ⟨wr.heap.size, 1, none⟩ = some (.int .u8 nd.s) := by simp
      have hE1 : Hid (Ext wr (wr.alloc (.cells #[.int .i64 nd.k, .int .u8 nd.s] 27))) := Lib.hid ((Ext.refl wr).alloc _)
      by_cases hS : S = []
      · obtain rfl := hA6 hS
        subst hS
        have hk0 : k = 0 := by simp at hk; omega
        subst hk0
        have har1 : ar nd.k = 0 := by simp at hk; omega
        go_wp2_with ((go_at_call 37; (with_reducible refine (arity_calls _ har0 _).mono ?_); rintro e w' ⟨rfl, hw⟩; obtain rfl := hw.symm))
        generalize wr.alloc (.cells #[.int .i64 nd.k, .int .u8 nd.s] 27) = W1 at *
        go_still_tail 10, (by kernel_rfl)
        change wpList _ _ _ _ _ W1.drew
        have hEd := hE1.out.drew
        go_wp2_with (first
          | (refine (HN.out _ _ hEd (Rd.nil _ _)).mono ?_; rintro e w2 ⟨v2, rfl, ho2, h2⟩; obtain ⟨A2, c2, rfl, _, _⟩ := ho2.shape; have hE2 := hEd.trans h2)
          | ((with_reducible refine gate_bi .append #[.tmp 38, .tmp 40] ?_); refine wp_append_clip (t := Ty.slice tySet) 57 24 elAll none 0 [] rfl (fun _ => rfl) (Rd.nil _ _) (rowsL s X) (.slice (some ⟨w2.heap.size, 0, none⟩) 1 1) rfl (SlP.lit1 (B := Any) trivial ho2.rd) (by simp) (by decide) ?_; intro v3 w3 hr3 h3))
        have hE3 := (hE2.alloc _).trans h3
        go_roundw
        case rel => exact ⟨i + 1, _, by go_num, by omega, (fun h => by cases h), HST', Lib.hid (by rw [HV.out]; exact hr3), hK.ext hE3, he.trans hE3⟩
        case measure => simp [intOf]; omega
      · obtain ⟨x1, hx1⟩ : ∃ x1, (sv (rowsL s) S)[0]? = some x1 := ⟨_, List.getElem?_eq_getElem (by rw [sv_len]; exact List.length_pos_iff.2 hS)⟩
        obtain ⟨A6, c6, rfl, hl6, hm6⟩ := HR.out.shape
        obtain ⟨b6, o6, cs6, rfl, hb6, _, _⟩ := HR.out.at hx1
        rw [sv_len] at *
        have hkS : k ≤ S.length := by omega
        have hkS1 : ¬ ((S.length : Int) < (k : Int)) := by omega
        have hkS2 : ¬ ((c6 : Int) < (S.length : Int)) := by omega
        have hkS3 : ¬ ((c6 : Int) < (k : Int)) := by omega
        go_wp2_with ((go_at_call 37; (with_reducible refine (arity_calls _ har0 _).mono ?_); rintro e w' ⟨rfl, hw⟩; obtain rfl := hw.symm))
        generalize wr.alloc (.cells #[.int .i64 nd.k, .int .u8 nd.s] 27) = W1 at *
        go_still_tail 10, (by kernel_rfl)
        change wpList _ _ _ _ _ W1.drew
        have hEd := hE1.out.drew
        have HPV : Hid (Rd (Ty.slice tySet) wr ((sv (rowsL s) S).drop k) (.slice (if c6 = k then some ⟨b6, o6, none⟩ else some ⟨b6, o6 + k, none⟩) (S.length - k) (c6 - k))) := Lib.hid (by
          have h := Rd.tail HR.out k hkS
          simp only [Ty.slice, Nat.mul_one] at h
          by_cases e : c6 = k
          · have e3 : S.length - k = 0 := by omega
            have e4 : (sv (rowsL s) S).drop k = [] := List.drop_of_length_le (by rw [sv_len]; omega)
            rw [e4, e3]
            exact ⟨_, _, rfl, Nat.zero_le _, by unfold maxLen; omega, fun h => absurd rfl h⟩
          · rw [if_neg e]; exact h)
        have HCL := Lib.hid (Rd.clip HR.out k hkS)
        have hk4 : (sv (rowsL s) S).length ≤ 4000 := by rw [sv_len]; omega
        have hk5 : ((sv (rowsL s) S).take k).length ≤ 4000 := by rw [List.length_take]; omega
        generalize (if c6 = k then some (⟨b6, o6, none⟩ : Addr) else some ⟨b6, o6 + k, none⟩) = A7 at *
        go_wp2_with (first
          | (refine (HN.out _ _ hEd (HPV.out.ext hEd)).mono ?_; rintro e w2 ⟨v2, rfl, ho2, h2⟩; obtain ⟨A2, c2, rfl, _, _⟩ := ho2.shape; have hE2 := hEd.trans h2)
          | ((with_reducible refine gate_bi .append #[.tmp 38, .tmp 40] ?_); refine wp_append_clip (t := Ty.slice tySet) 57 24 elAll (some ⟨b6, o6, none⟩) k ((sv (rowsL s) S).take k) rfl (fun h => by cases h) (HCL.out.ext (hE2.alloc _)) (rowsL s X) (.slice (some ⟨w2.heap.size, 0, none⟩) 1 1) rfl (SlP.lit1 (B := Any) trivial ho2.rd) (by omega) (by decide) ?_; intro v3 w3 hr3 h3))
        have hE3 := (hE2.alloc _).trans h3
        go_roundw
        case rel => exact ⟨i + 1, _, by go_num, by omega, (fun h => by cases h), HST', Lib.hid (by rw [HV.out]; exact hr3), hK.ext hE3, he.trans hE3⟩
        case measure => simp [intOf]; omega
    · have hi' : i = t.length := by omega
      subst hi'
      obtain ⟨x', rfl, hxw, hxf⟩ := HST.out.done
      obtain rfl : x' = x := flat_inj hxw hx (hxf.trans HTx.out)
      obtain ⟨A6, c6, rfl, hl6, hm6⟩ := HR.out.shape
      obtain ⟨b6, o6, u6, rfl, hb6, hc6, hu6⟩ := HR.out.slices (i := 0) rfl
      have e2 : (sv (rowsL s) [x']).length = 1 := rfl
      rw [e2] at *
      simp only [Nat.add_zero] at hc6
      go_wp2_with fail
      go_ret
      exact ⟨_, rfl, hu6, he⟩
end Go.Proofs.YtdeppnamhdbbhaaDoor
namespace Go.Proofs.YtdeppnamhdbbhaaDoor
open Go.RowKit Go.Eg

/-- What Ends tells: its error, its set. -/
def endsE (t : List Nd) (s : ByteArray) (i : Int) : Int := if errW t ≠ 0 then errW t else if wordE s ≠ 0 then wordE s else if 0 ≤ i ∧ i ≤ s.size then 0 else 11
def endsS (t : List Nd) (s : ByteArray) (i : Int) : Nat → Bool := if endsE t s i = 0 then rowB (bt s) s.size (tr t) i.toNat else fun _ => false
theorem ends_not {t : List Nd} {s : ByteArray} {i : Int} (h : endsE t s i ≠ 0) : endsS t s i = fun _ => false := if_neg h
theorem word_size {s : ByteArray} (h : wordE s = 0) : s.size < 512 := by
  unfold wordE at h
  split at h
  · split at h
    · cases h
    · omega
  · cases h
theorem ends_ok {t : List Nd} {s : ByteArray} {i : Int} (h : endsE t s i = 0) : errW t = 0 ∧ wordE s = 0 ∧ 0 ≤ i ∧ i ≤ s.size := by
  unfold endsE at h
  split at h
  · rename_i h1; exact absurd h h1
  · split at h
    · rename_i _ h2; exact absurd h h2
    · split at h
      · rename_i h1 h2 h3
        exact ⟨Decidable.not_not.1 h1, Decidable.not_not.1 h2, h3⟩
      · cases h
set_option maxHeartbeats 4000000 in
set_option maxRecDepth 100000 in
theorem Ends_calls (t : List Nd) (v : Value) (s : ByteArray) (i : Int) (W : World) (hr : Rd tyNd W t v) (hs : s.size ≤ 140737488351232) (hT : Tab W) :
    Calls Tryd.prog 11 #[v, .string s, .int .i64 i] W fun e w' => e = .returned (.tuple #[Value.agg #[.int .u64 (wd (endsS t s i) 0 : Nat), .int .u64 (wd (endsS t s i) 1 : Nat), .int .u64 (wd (endsS t s i) 2 : Nat), .int .u64 (wd (endsS t s i) 3 : Nat), .int .u64 (wd (endsS t s i) 4 : Nat), .int .u64 (wd (endsS t s i) 5 : Nat), .int .u64 (wd (endsS t s i) 6 : Nat), .int .u64 (wd (endsS t s i) 7 : Nat)], .int .i64 (endsE t s i)]) ∧ Ext W w' := by
  have HZ : Hid (Arr (W.alloc (.cells #[Value.int .u64 0, .int .u64 0, .int .u64 0, .int .u64 0, .int .u64 0, .int .u64 0, .int .u64 0, .int .u64 0] 31)) W.heap.size (fun _ => false)) := Lib.hid (Arr.zero rfl)
  have HS : Hid (W.heap.size < ((W.alloc (.cells #[Value.int .u64 0, .int .u64 0, .int .u64 0, .int .u64 0, .int .u64 0, .int .u64 0, .int .u64 0, .int .u64 0] 31))).heap.size) := by show _ < _; simp
  have HX : Hid (Ext W (W.alloc (.cells #[Value.int .u64 0, .int .u64 0, .int .u64 0, .int .u64 0, .int .u64 0, .int .u64 0, .int .u64 0, .int .u64 0] 31))) := by show Ext _ _; (repeat (first | assumption | exact Ext.refl _ | apply Ext.alloc | apply Ext.drew | apply Ext.drewN | refine Ext.set ?_ (by first | exact Nat.le_refl _ | assumption | exact Nat.le_succ _ | exact Nat.le_add_right _ _ | exact Nat.le_trans (Nat.le_succ _) (Nat.le_succ _) | omega) _ | refine Ext.trans ?_ (by assumption)))
  have HC := Lib.hid (fun W' (hE : Ext W W') => check_calls t v W' (hr.ext hE))
  by_cases h1 : errW t = 0
  · by_cases h2 : wordE s = 0
    · have hs5 := word_size h2
      by_cases h3 : 0 ≤ i ∧ i ≤ s.size
      · have hE : endsE t s i = 0 := by rw [endsE, if_neg (by omega), if_neg (by omega), if_pos h3]
        obtain ⟨hl4, hok⟩ := errW_ok h1
        obtain ⟨hwf, hfl⟩ := tr_of hok
        obtain ⟨m, rfl⟩ := Int.eq_ofNat_of_zero_le h3.1
        have hS : endsS t s (m : Int) = rowB (bt s) s.size (tr t) m := by rw [endsS, if_pos hE]; rfl
        have HR := Lib.hid (fun W' (hE : Ext W W') => run_calls (tr t) hwf t hfl.symm hl4 v s hs5 W' (hr.ext hE) (hT.ext hE))
        have hm : m < (rowsL s (tr t)).length := by rw [rowsL_len]; omega
        have HA := Lib.hid (atS_get hm)
        rw [atS_rows] at HA
        have hm3 : decide (((s.size : Int)) < (m : Int)) = false := decide_eq_false (by omega)
        have hm0 : decide ((m : Int) < 0) = false := decide_eq_false (by omega)
        have hm4 : decide (s.size < m) = false := decide_eq_false (by omega)
        have hm5 : m ≤ s.size := by omega
        rw [hS, hE]
        generalize rowB (bt s) s.size (tr t) m = r at *
        generalize rowsL s (tr t) = L at *
        have HL := Lib.hid (letters_calls s · hs)
        rw [h1] at HC
        rw [h2] at HL
        clear hS hE h1 h2 h3 hok hfl hwf hr hT
        go_enter Tryd.func11, Tryd.ntmps11
        go_wp2_with (first
          | ((go_at_call 23; (with_reducible refine (HC.out _ HX.out).mono ?_); rintro e w1 ⟨rfl, hx1⟩))
          | ((go_at_call 24; (with_reducible refine (HL.out _).mono ?_); rintro e w' ⟨rfl, hw⟩; obtain rfl := hw.symm))
          | ((go_at_call 25; (with_reducible refine (HR.out _ (HX.out.trans hx1)).mono ?_); rintro e w2 ⟨v2, rfl, hr2, hx2⟩); obtain ⟨A2, c2, rfl, hl2, _⟩ := hr2.shape; obtain ⟨b2, o2, rfl, hb2, q0, q1, q2, q3, q4, q5, q6, q7⟩ := rd_set hr2 HA.out; have hx3 := hx1.trans hx2; (have HZ2 := Lib.hid (HZ.out.ext hx3 HS.out)); (have HX2 := Lib.hid (HX.out.trans hx3)); have H__ := (HZ2).out; obtain ⟨ce0, fe0⟩ := H__ 0 (by omega); obtain ⟨ce1, fe1⟩ := H__ 1 (by omega); obtain ⟨ce2, fe2⟩ := H__ 2 (by omega); obtain ⟨ce3, fe3⟩ := H__ 3 (by omega); obtain ⟨ce4, fe4⟩ := H__ 4 (by omega); obtain ⟨ce5, fe5⟩ := H__ 5 (by omega); obtain ⟨ce6, fe6⟩ := H__ 6 (by omega); obtain ⟨ce7, fe7⟩ := H__ 7 (by omega); clear H__))
        have HEX : Hid (Ext W ((((((((w2.setCell ⟨W.heap.size, 0, none⟩ (.int .u64 (wd (r) 0 : Nat))).setCell ⟨W.heap.size, 1, none⟩ (.int .u64 (wd (r) 1 : Nat))).setCell ⟨W.heap.size, 2, none⟩ (.int .u64 (wd (r) 2 : Nat))).setCell ⟨W.heap.size, 3, none⟩ (.int .u64 (wd (r) 3 : Nat))).setCell ⟨W.heap.size, 4, none⟩ (.int .u64 (wd (r) 4 : Nat))).setCell ⟨W.heap.size, 5, none⟩ (.int .u64 (wd (r) 5 : Nat))).setCell ⟨W.heap.size, 6, none⟩ (.int .u64 (wd (r) 6 : Nat))).setCell ⟨W.heap.size, 7, none⟩ (.int .u64 (wd (r) 7 : Nat)))) := ((((((((HX2.out.set (by first | exact Nat.le_refl _ | exact Nat.le_succ _ | exact Nat.le_add_right _ _ | exact Nat.le_trans (Nat.le_succ _) (Nat.le_succ _) | omega) _).set (by first | exact Nat.le_refl _ | exact Nat.le_succ _ | exact Nat.le_add_right _ _ | exact Nat.le_trans (Nat.le_succ _) (Nat.le_succ _) | omega) _).set (by first | exact Nat.le_refl _ | exact Nat.le_succ _ | exact Nat.le_add_right _ _ | exact Nat.le_trans (Nat.le_succ _) (Nat.le_succ _) | omega) _).set (by first | exact Nat.le_refl _ | exact Nat.le_succ _ | exact Nat.le_add_right _ _ | exact Nat.le_trans (Nat.le_succ _) (Nat.le_succ _) | omega) _).set (by first | exact Nat.le_refl _ | exact Nat.le_succ _ | exact Nat.le_add_right _ _ | exact Nat.le_trans (Nat.le_succ _) (Nat.le_succ _) | omega) _).set (by first | exact Nat.le_refl _ | exact Nat.le_succ _ | exact Nat.le_add_right _ _ | exact Nat.le_trans (Nat.le_succ _) (Nat.le_succ _) | omega) _).set (by first | exact Nat.le_refl _ | exact Nat.le_succ _ | exact Nat.le_add_right _ _ | exact Nat.le_trans (Nat.le_succ _) (Nat.le_succ _) | omega) _).set (by first | exact Nat.le_refl _ | exact Nat.le_succ _ | exact Nat.le_add_right _ _ | exact Nat.le_trans (Nat.le_succ _) (Nat.le_succ _) | omega) _)
        exact bodyPost_ret (v := .tuple #[Value.agg #[.int .u64 (wd (r) 0 : Nat), .int .u64 (wd (r) 1 : Nat), .int .u64 (wd (r) 2 : Nat), .int .u64 (wd (r) 3 : Nat), .int .u64 (wd (r) 4 : Nat), .int .u64 (wd (r) 5 : Nat), .int .u64 (wd (r) 6 : Nat), .int .u64 (wd (r) 7 : Nat)], .int .i64 0]) (by simp [results, Tryd.results11, go_sem, *]) rfl ⟨rfl, HEX⟩
      · have hE : endsE t s i = 11 := by rw [endsE, if_neg (by omega), if_neg (by omega), if_neg h3]
        have hS := ends_not (t := t) (s := s) (i := i) (by omega)
        rw [hS, hE]
        simp only [wd_none]
        have HL := Lib.hid (letters_calls s · hs)
        rw [h1] at HC
        rw [h2] at HL
        clear hS hE h1 h2 hr hT
        by_cases h0 : i < 0
        · have hm0 : decide (i < 0) = true := decide_eq_true h0
          go_enter Tryd.func11, Tryd.ntmps11
          go_wp2_with (first
            | ((go_at_call 23; (with_reducible refine (HC.out _ HX.out).mono ?_); rintro e w1 ⟨rfl, hx1⟩); (have HZ2 := Lib.hid (HZ.out.ext hx1 HS.out)); (have HX2 := Lib.hid (HX.out.trans hx1)); have H__ := (HZ2).out; obtain ⟨ce0, fe0⟩ := H__ 0 (by omega); obtain ⟨ce1, fe1⟩ := H__ 1 (by omega); obtain ⟨ce2, fe2⟩ := H__ 2 (by omega); obtain ⟨ce3, fe3⟩ := H__ 3 (by omega); obtain ⟨ce4, fe4⟩ := H__ 4 (by omega); obtain ⟨ce5, fe5⟩ := H__ 5 (by omega); obtain ⟨ce6, fe6⟩ := H__ 6 (by omega); obtain ⟨ce7, fe7⟩ := H__ 7 (by omega); clear H__)
            | ((go_at_call 24; (with_reducible refine (HL.out _).mono ?_); rintro e w' ⟨rfl, hw⟩; obtain rfl := hw.symm)))
          have HEX : Hid (Ext W ((((((((w1.setCell ⟨W.heap.size, 0, none⟩ (.int .u64 0)).setCell ⟨W.heap.size, 1, none⟩ (.int .u64 0)).setCell ⟨W.heap.size, 2, none⟩ (.int .u64 0)).setCell ⟨W.heap.size, 3, none⟩ (.int .u64 0)).setCell ⟨W.heap.size, 4, none⟩ (.int .u64 0)).setCell ⟨W.heap.size, 5, none⟩ (.int .u64 0)).setCell ⟨W.heap.size, 6, none⟩ (.int .u64 0)).setCell ⟨W.heap.size, 7, none⟩ (.int .u64 0))) := ((((((((HX2.out.set (by first | exact Nat.le_refl _ | exact Nat.le_succ _ | exact Nat.le_add_right _ _ | exact Nat.le_trans (Nat.le_succ _) (Nat.le_succ _) | omega) _).set (by first | exact Nat.le_refl _ | exact Nat.le_succ _ | exact Nat.le_add_right _ _ | exact Nat.le_trans (Nat.le_succ _) (Nat.le_succ _) | omega) _).set (by first | exact Nat.le_refl _ | exact Nat.le_succ _ | exact Nat.le_add_right _ _ | exact Nat.le_trans (Nat.le_succ _) (Nat.le_succ _) | omega) _).set (by first | exact Nat.le_refl _ | exact Nat.le_succ _ | exact Nat.le_add_right _ _ | exact Nat.le_trans (Nat.le_succ _) (Nat.le_succ _) | omega) _).set (by first | exact Nat.le_refl _ | exact Nat.le_succ _ | exact Nat.le_add_right _ _ | exact Nat.le_trans (Nat.le_succ _) (Nat.le_succ _) | omega) _).set (by first | exact Nat.le_refl _ | exact Nat.le_succ _ | exact Nat.le_add_right _ _ | exact Nat.le_trans (Nat.le_succ _) (Nat.le_succ _) | omega) _).set (by first | exact Nat.le_refl _ | exact Nat.le_succ _ | exact Nat.le_add_right _ _ | exact Nat.le_trans (Nat.le_succ _) (Nat.le_succ _) | omega) _).set (by first | exact Nat.le_refl _ | exact Nat.le_succ _ | exact Nat.le_add_right _ _ | exact Nat.le_trans (Nat.le_succ _) (Nat.le_succ _) | omega) _)
          exact bodyPost_ret (v := .tuple #[Value.agg #[.int .u64 0, .int .u64 0, .int .u64 0, .int .u64 0, .int .u64 0, .int .u64 0, .int .u64 0, .int .u64 0], .int .i64 11]) (by simp [results, Tryd.results11, go_sem, *]) rfl ⟨rfl, HEX⟩
        · have hm0 : decide (i < 0) = false := decide_eq_false h0
          have hm3 : decide (((s.size : Int)) < i) = true := decide_eq_true (by omega)
          go_enter Tryd.func11, Tryd.ntmps11
          go_wp2_with (first
            | ((go_at_call 23; (with_reducible refine (HC.out _ HX.out).mono ?_); rintro e w1 ⟨rfl, hx1⟩); (have HZ2 := Lib.hid (HZ.out.ext hx1 HS.out)); (have HX2 := Lib.hid (HX.out.trans hx1)); have H__ := (HZ2).out; obtain ⟨ce0, fe0⟩ := H__ 0 (by omega); obtain ⟨ce1, fe1⟩ := H__ 1 (by omega); obtain ⟨ce2, fe2⟩ := H__ 2 (by omega); obtain ⟨ce3, fe3⟩ := H__ 3 (by omega); obtain ⟨ce4, fe4⟩ := H__ 4 (by omega); obtain ⟨ce5, fe5⟩ := H__ 5 (by omega); obtain ⟨ce6, fe6⟩ := H__ 6 (by omega); obtain ⟨ce7, fe7⟩ := H__ 7 (by omega); clear H__)
            | ((go_at_call 24; (with_reducible refine (HL.out _).mono ?_); rintro e w' ⟨rfl, hw⟩; obtain rfl := hw.symm)))
          have HEX : Hid (Ext W ((((((((w1.setCell ⟨W.heap.size, 0, none⟩ (.int .u64 0)).setCell ⟨W.heap.size, 1, none⟩ (.int .u64 0)).setCell ⟨W.heap.size, 2, none⟩ (.int .u64 0)).setCell ⟨W.heap.size, 3, none⟩ (.int .u64 0)).setCell ⟨W.heap.size, 4, none⟩ (.int .u64 0)).setCell ⟨W.heap.size, 5, none⟩ (.int .u64 0)).setCell ⟨W.heap.size, 6, none⟩ (.int .u64 0)).setCell ⟨W.heap.size, 7, none⟩ (.int .u64 0))) := ((((((((HX2.out.set (by first | exact Nat.le_refl _ | exact Nat.le_succ _ | exact Nat.le_add_right _ _ | exact Nat.le_trans (Nat.le_succ _) (Nat.le_succ _) | omega) _).set (by first | exact Nat.le_refl _ | exact Nat.le_succ _ | exact Nat.le_add_right _ _ | exact Nat.le_trans (Nat.le_succ _) (Nat.le_succ _) | omega) _).set (by first | exact Nat.le_refl _ | exact Nat.le_succ _ | exact Nat.le_add_right _ _ | exact Nat.le_trans (Nat.le_succ _) (Nat.le_succ _) | omega) _).set (by first | exact Nat.le_refl _ | exact Nat.le_succ _ | exact Nat.le_add_right _ _ | exact Nat.le_trans (Nat.le_succ _) (Nat.le_succ _) | omega) _).set (by first | exact Nat.le_refl _ | exact Nat.le_succ _ | exact Nat.le_add_right _ _ | exact Nat.le_trans (Nat.le_succ _) (Nat.le_succ _) | omega) _).set (by first | exact Nat.le_refl _ | exact Nat.le_succ _ | exact Nat.le_add_right _ _ | exact Nat.le_trans (Nat.le_succ _) (Nat.le_succ _) | omega) _).set (by first | exact Nat.le_refl _ | exact Nat.le_succ _ | exact Nat.le_add_right _ _ | exact Nat.le_trans (Nat.le_succ _) (Nat.le_succ _) | omega) _).set (by first | exact Nat.le_refl _ | exact Nat.le_succ _ | exact Nat.le_add_right _ _ | exact Nat.le_trans (Nat.le_succ _) (Nat.le_succ _) | omega) _)
          exact bodyPost_ret (v := .tuple #[Value.agg #[.int .u64 0, .int .u64 0, .int .u64 0, .int .u64 0, .int .u64 0, .int .u64 0, .int .u64 0, .int .u64 0], .int .i64 11]) (by simp [results, Tryd.results11, go_sem, *]) rfl ⟨rfl, HEX⟩
    · have hE : endsE t s i = wordE s := by rw [endsE, if_neg (by omega), if_pos h2]
      have hS := ends_not (t := t) (s := s) (i := i) (by omega)
      rw [hS, hE]
      simp only [wd_none]
      have HL := Lib.hid (letters_calls s · hs)
      rw [h1] at HC
      have hne : (wordE s != 0) = true := bne_iff_ne.2 h2
      generalize wordE s = ew at *
      clear hS hE h1 h2 hr hT
      go_enter Tryd.func11, Tryd.ntmps11
      go_wp2_with (first
        | ((go_at_call 23; (with_reducible refine (HC.out _ HX.out).mono ?_); rintro e w1 ⟨rfl, hx1⟩); (have HZ2 := Lib.hid (HZ.out.ext hx1 HS.out)); (have HX2 := Lib.hid (HX.out.trans hx1)); have H__ := (HZ2).out; obtain ⟨ce0, fe0⟩ := H__ 0 (by omega); obtain ⟨ce1, fe1⟩ := H__ 1 (by omega); obtain ⟨ce2, fe2⟩ := H__ 2 (by omega); obtain ⟨ce3, fe3⟩ := H__ 3 (by omega); obtain ⟨ce4, fe4⟩ := H__ 4 (by omega); obtain ⟨ce5, fe5⟩ := H__ 5 (by omega); obtain ⟨ce6, fe6⟩ := H__ 6 (by omega); obtain ⟨ce7, fe7⟩ := H__ 7 (by omega); clear H__)
        | ((go_at_call 24; (with_reducible refine (HL.out _).mono ?_); rintro e w' ⟨rfl, hw⟩; obtain rfl := hw.symm)))
      have HEX : Hid (Ext W ((((((((w1.setCell ⟨W.heap.size, 0, none⟩ (.int .u64 0)).setCell ⟨W.heap.size, 1, none⟩ (.int .u64 0)).setCell ⟨W.heap.size, 2, none⟩ (.int .u64 0)).setCell ⟨W.heap.size, 3, none⟩ (.int .u64 0)).setCell ⟨W.heap.size, 4, none⟩ (.int .u64 0)).setCell ⟨W.heap.size, 5, none⟩ (.int .u64 0)).setCell ⟨W.heap.size, 6, none⟩ (.int .u64 0)).setCell ⟨W.heap.size, 7, none⟩ (.int .u64 0))) := ((((((((HX2.out.set (by first | exact Nat.le_refl _ | exact Nat.le_succ _ | exact Nat.le_add_right _ _ | exact Nat.le_trans (Nat.le_succ _) (Nat.le_succ _) | omega) _).set (by first | exact Nat.le_refl _ | exact Nat.le_succ _ | exact Nat.le_add_right _ _ | exact Nat.le_trans (Nat.le_succ _) (Nat.le_succ _) | omega) _).set (by first | exact Nat.le_refl _ | exact Nat.le_succ _ | exact Nat.le_add_right _ _ | exact Nat.le_trans (Nat.le_succ _) (Nat.le_succ _) | omega) _).set (by first | exact Nat.le_refl _ | exact Nat.le_succ _ | exact Nat.le_add_right _ _ | exact Nat.le_trans (Nat.le_succ _) (Nat.le_succ _) | omega) _).set (by first | exact Nat.le_refl _ | exact Nat.le_succ _ | exact Nat.le_add_right _ _ | exact Nat.le_trans (Nat.le_succ _) (Nat.le_succ _) | omega) _).set (by first | exact Nat.le_refl _ | exact Nat.le_succ _ | exact Nat.le_add_right _ _ | exact Nat.le_trans (Nat.le_succ _) (Nat.le_succ _) | omega) _).set (by first | exact Nat.le_refl _ | exact Nat.le_succ _ | exact Nat.le_add_right _ _ | exact Nat.le_trans (Nat.le_succ _) (Nat.le_succ _) | omega) _).set (by first | exact Nat.le_refl _ | exact Nat.le_succ _ | exact Nat.le_add_right _ _ | exact Nat.le_trans (Nat.le_succ _) (Nat.le_succ _) | omega) _)
      exact bodyPost_ret (v := .tuple #[Value.agg #[.int .u64 0, .int .u64 0, .int .u64 0, .int .u64 0, .int .u64 0, .int .u64 0, .int .u64 0, .int .u64 0], .int .i64 ew]) (by simp [results, Tryd.results11, go_sem, *]) rfl ⟨rfl, HEX⟩
  · have hE : endsE t s i = errW t := by rw [endsE, if_pos h1]
    have hS := ends_not (t := t) (s := s) (i := i) (by omega)
    rw [hS, hE]
    simp only [wd_none]
    have hne : (errW t != 0) = true := bne_iff_ne.2 h1
    generalize errW t = ew at *
    clear hS hE h1 hr hT
    go_enter Tryd.func11, Tryd.ntmps11
    go_wp2_with ((go_at_call 23; (with_reducible refine (HC.out _ HX.out).mono ?_); rintro e w1 ⟨rfl, hx1⟩); (have HZ2 := Lib.hid (HZ.out.ext hx1 HS.out)); (have HX2 := Lib.hid (HX.out.trans hx1)); have H__ := (HZ2).out; obtain ⟨ce0, fe0⟩ := H__ 0 (by omega); obtain ⟨ce1, fe1⟩ := H__ 1 (by omega); obtain ⟨ce2, fe2⟩ := H__ 2 (by omega); obtain ⟨ce3, fe3⟩ := H__ 3 (by omega); obtain ⟨ce4, fe4⟩ := H__ 4 (by omega); obtain ⟨ce5, fe5⟩ := H__ 5 (by omega); obtain ⟨ce6, fe6⟩ := H__ 6 (by omega); obtain ⟨ce7, fe7⟩ := H__ 7 (by omega); clear H__)
    have HEX : Hid (Ext W ((((((((w1.setCell ⟨W.heap.size, 0, none⟩ (.int .u64 0)).setCell ⟨W.heap.size, 1, none⟩ (.int .u64 0)).setCell ⟨W.heap.size, 2, none⟩ (.int .u64 0)).setCell ⟨W.heap.size, 3, none⟩ (.int .u64 0)).setCell ⟨W.heap.size, 4, none⟩ (.int .u64 0)).setCell ⟨W.heap.size, 5, none⟩ (.int .u64 0)).setCell ⟨W.heap.size, 6, none⟩ (.int .u64 0)).setCell ⟨W.heap.size, 7, none⟩ (.int .u64 0))) := ((((((((HX2.out.set (by first | exact Nat.le_refl _ | exact Nat.le_succ _ | exact Nat.le_add_right _ _ | exact Nat.le_trans (Nat.le_succ _) (Nat.le_succ _) | omega) _).set (by first | exact Nat.le_refl _ | exact Nat.le_succ _ | exact Nat.le_add_right _ _ | exact Nat.le_trans (Nat.le_succ _) (Nat.le_succ _) | omega) _).set (by first | exact Nat.le_refl _ | exact Nat.le_succ _ | exact Nat.le_add_right _ _ | exact Nat.le_trans (Nat.le_succ _) (Nat.le_succ _) | omega) _).set (by first | exact Nat.le_refl _ | exact Nat.le_succ _ | exact Nat.le_add_right _ _ | exact Nat.le_trans (Nat.le_succ _) (Nat.le_succ _) | omega) _).set (by first | exact Nat.le_refl _ | exact Nat.le_succ _ | exact Nat.le_add_right _ _ | exact Nat.le_trans (Nat.le_succ _) (Nat.le_succ _) | omega) _).set (by first | exact Nat.le_refl _ | exact Nat.le_succ _ | exact Nat.le_add_right _ _ | exact Nat.le_trans (Nat.le_succ _) (Nat.le_succ _) | omega) _).set (by first | exact Nat.le_refl _ | exact Nat.le_succ _ | exact Nat.le_add_right _ _ | exact Nat.le_trans (Nat.le_succ _) (Nat.le_succ _) | omega) _).set (by first | exact Nat.le_refl _ | exact Nat.le_succ _ | exact Nat.le_add_right _ _ | exact Nat.le_trans (Nat.le_succ _) (Nat.le_succ _) | omega) _)
    exact bodyPost_ret (v := .tuple #[Value.agg #[.int .u64 0, .int .u64 0, .int .u64 0, .int .u64 0, .int .u64 0, .int .u64 0, .int .u64 0, .int .u64 0], .int .i64 ew]) (by simp [results, Tryd.results11, go_sem, *]) rfl ⟨rfl, HEX⟩

/-- What Member tells. -/
def memR (t : List Nd) (s : ByteArray) : Bool := decide (endsE t s 0 = 0) && memB (bt s) s.size (tr t)
theorem mem_of (t : List Nd) (s : ByteArray) : inSet (endsS t s 0) (s.size : Int) = memR t s := by
  unfold memR inSet
  by_cases h : endsE t s 0 = 0
  · have := word_size (ends_ok h).2.1
    rw [endsS, if_pos h, decide_eq_true h, Int.toNat_natCast, show (0 : Int).toNat = 0 from rfl, mem_row]
    simp; omega
  · rw [endsS, if_neg h]; simp [h]
set_option maxHeartbeats 2000000 in
set_option maxRecDepth 100000 in
theorem Member_calls (t : List Nd) (v : Value) (s : ByteArray) (W : World) (hr : Rd tyNd W t v) (hs : s.size ≤ 140737488351232) (hT : Tab W) :
    Calls Tryd.prog 22 #[v, .string s] W fun e w' => e = .returned (.tuple #[.bool (memR t s), .int .i64 (endsE t s 0)]) ∧ Ext W w' := by
  have HE := Lib.hid (Ends_calls t v s 0 W hr hs hT)
  have HM := Lib.hid (mem_of t s)
  have HH := Lib.hid (Has_calls (endsS t s 0) (s.size : Int))
  generalize endsS t s 0 = r at *
  generalize endsE t s 0 = ee at *
  rw [HM.out] at HH
  clear hr hT
  go_enter Tryd.func22, Tryd.ntmps22
  go_wp2_with (first
    | ((go_at_call 11; (with_reducible refine (HE.out).mono ?_); rintro e w1 ⟨rfl, hx1⟩))
    | ((go_at_call 14; (with_reducible refine (HH.out _).mono ?_); rintro e w2 ⟨rfl, hx2⟩)))
  go_ret2
  exact ⟨rfl, (hx1.alloc _).trans hx2⟩
end Go.Proofs.YtdeppnamhdbbhaaDoor
namespace Go.Proofs.YtdeppnamhdbbhaaDoor
open Go.RowKit Go.Eg

set_option maxHeartbeats 400000 in
theorem rGood_calls (n : Nd) (w : World) : Calls Tryd.prog 31 #[.agg #[.int .i64 n.k, .int .u8 n.s]] w fun e w' => e = .returned (.bool (good n)) ∧ Ext w w' := by
  obtain ⟨k, s⟩ := n
  by_cases h3 : k = 3
  · subst h3
    have HG : Hid (good ⟨3, s⟩ = (decide (97 ≤ s) && decide (s ≤ 104))) := by show _ = _; simp [good]
    go_enter Tryd.func31, Tryd.ntmps31
    go_wp2_with fail
    all_goals go_ret
    · exact ⟨ret_bool (by rw [HG.out]; simp [*]), (Ext.refl _).alloc _⟩
    · exact ⟨ret_bool (by rw [HG.out]; simp; omega), (Ext.refl _).alloc _⟩
  · have h3' : (k == 3) = false := by simp [h3]
    by_cases hk : 1 ≤ k ∧ k ≤ 9
    · have ha : 0 ≤ ar k := by unfold ar; (repeat' split) <;> omega
      have HG : Hid (good ⟨k, s⟩ = (s == 0)) := by show _ = _; unfold good; rw [if_neg h3, Bool.eq_iff_iff]; simp [ha]
      obtain ⟨hk1, hk2⟩ := hk
      go_enter Tryd.func31, Tryd.ntmps31
      go_wp2_with fail
      all_goals go_ret
      all_goals exact ⟨ret_bool HG.out.symm, (Ext.refl _).alloc _⟩
    · have ha : ¬ 0 ≤ ar k := by unfold ar; (repeat' split) <;> omega
      have HG : Hid (good ⟨k, s⟩ = false) := by show _ = _; unfold good; rw [if_neg h3]; simp [ha]
      by_cases hk1 : 1 ≤ k
      · have hk2 : decide (k ≤ 9) = false := by simp; omega
        go_enter Tryd.func31, Tryd.ntmps31
        go_wp2_with fail
        all_goals go_ret
        all_goals exact ⟨ret_bool HG.out.symm, (Ext.refl _).alloc _⟩
      · have hk2 : decide (1 ≤ k) = false := by simpa using hk1
        go_enter Tryd.func31, Tryd.ntmps31
        go_wp2_with fail
        all_goals go_ret
        all_goals exact ⟨ret_bool HG.out.symm, (Ext.refl _).alloc _⟩

set_option maxHeartbeats 400000 in
theorem rArity_calls (k : Int) (h : 0 ≤ ar k) (w : World) : Calls Tryd.prog 32 #[.int .i64 k] w fun e w' => e = .returned (.int .i64 (ar k)) ∧ w' = w := by
  have hk : 1 ≤ k ∧ k ≤ 9 := by unfold ar at h; (repeat' split at h) <;> omega
  have : k = 1 ∨ k = 2 ∨ k = 3 ∨ k = 4 ∨ k = 5 ∨ k = 6 ∨ k = 7 ∨ k = 8 ∨ k = 9 := by omega
  clear hk h
  rcases this with rfl | rfl | rfl | rfl | rfl | rfl | rfl | rfl | rfl
  all_goals
    go_enter Tryd.func32, Tryd.ntmps32
    go_wp2
    go_ret
    exact ⟨rfl, rfl⟩

set_option maxHeartbeats 400000 in
set_option maxRecDepth 100000 in
theorem rWrong_calls (t : List Nd) (v : Value) (w : World) (hr : Rd tyNd w t v) : Calls Tryd.prog 20 #[v] w fun e w' => e = .returned (.int .i64 (errW t)) ∧ Ext w w' := by
  obtain ⟨A, c, rfl, hlc, hcm⟩ := hr.shape
  unfold maxLen at hcm
  by_cases hbig : 4000 < t.length
  · have hb' : decide (4000 < (t.length : Int)) = true := by simp; omega
    go_enter Tryd.func20, Tryd.ntmps20
    go_wp2_with fail
    go_ret
    exact ⟨ret_int (by rw [errW, if_pos hbig]), Ext.refl _⟩
  · have hb' : decide (4000 < (t.length : Int)) = false := by simp; omega
    have HE : Hid (errW t = if ok 0 t then 0 else 30) := if_neg hbig
    go_enter Tryd.func20, Tryd.ntmps20
    go_wp2_with fail
    go_loopw [3, 4] (fun v3 v4 wr => ∃ (i : Nat) (h : Int), v3 = .int .i64 h ∧ v4 = .int .i64 i ∧ i ≤ t.length ∧ -4001 ≤ h - i ∧ h ≤ 2 * i ∧ Hid (ok h (t.drop i) = ok 0 t) ∧ Ext w wr) (fun _ v4 _ => t.length - (intOf v4).toNat)
    case atStart => exact ⟨0, 0, rfl, rfl, by omega, by omega, by omega, rfl, Ext.refl _⟩
    case round =>
      obtain ⟨i, h, rfl, rfl, hi, hh1, hh2, HO, he⟩ := hrel
      by_cases hlt : i < t.length
      · obtain ⟨b, off, rfl, hb, hc0, hc1⟩ := rd_node (hr.ext he) hlt
        have HT := Lib.hid (ok_take (h := h) hlt)
        have har := ar_le (nth t i).k
        clear hr
        generalize nth t i = n at *
        by_cases hg : good n = true
        · have hga := good_ar hg
          by_cases hle : ar n.k ≤ h
          · have hle' : decide (h < ar n.k) = false := by simp; omega
            go_wp2_with (first | ((go_at_call 31; (with_reducible refine (rGood_calls n _).mono ?_); rintro e w1 ⟨rfl, h1⟩); have := (h1).cells; have := (h1).frozens; have : b < w1.heap.size := Nat.lt_of_lt_of_le (by first | assumption | (simp; done) | (simp; omega)) (h1).le) | (go_at_call 32; (with_reducible refine (rArity_calls _ hga _).mono ?_); rintro e w' ⟨rfl, hw⟩; obtain rfl := hw.symm))
            go_roundw
            case rel => exact ⟨i + 1, h + (1 - ar n.k), val_int (by omega), by go_num, by omega, by omega, by omega, (by have := HT.out; simp only [hg, hle, decide_true, Bool.true_and] at this; exact this.symm.trans HO.out), by (repeat (first | assumption | exact Ext.refl _ | apply Ext.alloc | apply Ext.drew | apply Ext.drewN | refine Ext.trans ?_ (by assumption)))⟩
            case measure => simp [intOf]; omega
          · have hle' : decide (h < ar n.k) = true := by simp; omega
            have hf : ok 0 t = false := by rw [← HO.out, HT.out]; simp [hle]
            have HE' := Lib.hid (HE.out.trans (by rw [hf]; rfl : _ = (30 : Int)))
            clear hf
            go_wp2_with (first | ((go_at_call 31; (with_reducible refine (rGood_calls n _).mono ?_); rintro e w1 ⟨rfl, h1⟩); have := (h1).cells; have := (h1).frozens; have : b < w1.heap.size := Nat.lt_of_lt_of_le (by first | assumption | (simp; done) | (simp; omega)) (h1).le) | (go_at_call 32; (with_reducible refine (rArity_calls _ hga _).mono ?_); rintro e w' ⟨rfl, hw⟩; obtain rfl := hw.symm))
            go_ret
            exact ⟨ret_int HE'.out.symm, by (repeat (first | assumption | exact Ext.refl _ | apply Ext.alloc | apply Ext.drew | apply Ext.drewN | refine Ext.trans ?_ (by assumption)))⟩
        · have hf : ok 0 t = false := by rw [← HO.out, HT.out]; simp [hg]
          have hg' : good n = false := by simpa using hg
          have HE' := Lib.hid (HE.out.trans (by rw [hf]; rfl : _ = (30 : Int)))
          clear hf
          go_wp2_with (first | ((go_at_call 31; (with_reducible refine (rGood_calls n _).mono ?_); rintro e w1 ⟨rfl, h1⟩); have := (h1).cells; have := (h1).frozens; have : b < w1.heap.size := Nat.lt_of_lt_of_le (by first | assumption | (simp; done) | (simp; omega)) (h1).le))
          go_ret
          exact ⟨ret_int HE'.out.symm, by (repeat (first | assumption | exact Ext.refl _ | apply Ext.alloc | apply Ext.drew | apply Ext.drewN | refine Ext.trans ?_ (by assumption)))⟩
      · have hi' : i = t.length := by omega
        subst hi'
        have HF : Hid (ok 0 t = (h == 1)) := by show _ = _; rw [← HO.out, List.drop_length, ok]
        by_cases h1 : h = 1
        · have h1' : (h != 1) = false := by simp [h1]
          go_wp2_with fail
          go_ret
          exact ⟨ret_int (by rw [HE.out, HF.out]; simp [h1]), by (repeat (first | assumption | exact Ext.refl _ | apply Ext.alloc | apply Ext.drew | apply Ext.drewN | refine Ext.trans ?_ (by assumption)))⟩
        · have h1' : (h != 1) = true := by simp [h1]
          go_wp2_with fail
          go_ret
          exact ⟨ret_int (by rw [HE.out, HF.out]; simp [h1]), by (repeat (first | assumption | exact Ext.refl _ | apply Ext.alloc | apply Ext.drew | apply Ext.drewN | refine Ext.trans ?_ (by assumption)))⟩

/-- What Made comes to. -/
def MadePost (r : List Nd) (w : World) (e : Ending) (w' : World) : Prop := ∃ v', e = .returned v' ∧ Own tyNd 27 w.heap.size No w' r v' ∧ Ext w w'

set_option maxHeartbeats 400000 in
set_option maxRecDepth 100000 in
theorem rMade_calls (n : Nd) (hn : 0 ≤ n.s ∧ n.s ≤ 255) (ps : List (List Nd)) (hl : ps.flatten.length ≤ 100000) (v : Value) (w : World) (hr : Rd (Ty.slice tyNd) w ps v) (hpl : ps.length ≤ 100000) :
    Calls Tryd.prog 10 #[.agg #[.int .i64 n.k, .int .u8 n.s], v] w (MadePost (ps.flatten ++ [n]) w) := by
  obtain ⟨A, c, rfl, hlc, hcm⟩ := hr.shape
  unfold maxLen at hcm
  have HN := Lib.hid hn
  clear hn
  go_enter Tryd.func10, Tryd.ntmps10
  go_wp2_with fail
  have hx0 : Ext w (w.alloc (.cells #[.int .i64 n.k, .int .u8 n.s] 27)) := (Ext.refl _).alloc _
  go_loopw [5, 6] (fun v5 v6 wr => ∃ i : Nat, v6 = .int .i64 i ∧ i ≤ ps.length ∧ Own tyNd 27 (w.heap.size + 1) No wr (ps.take i).flatten v5 ∧ Ext (w.alloc (.cells #[.int .i64 n.k, .int .u8 n.s] 27)) wr) (fun _ v6 _ => ps.length - (intOf v6).toNat)
  case atStart => exact ⟨0, rfl, by omega, Own.nil _ _ _ _ _, Ext.refl _⟩
  case round =>
    obtain ⟨i, rfl, hi, ho, he⟩ := hrel
    have := (he).cells; have := (he).frozens; have : w.heap.size < wr.heap.size := Nat.lt_of_lt_of_le (by first | assumption | (simp; done) | (simp; omega)) (he).le
    have hbs : w.heap.size + 1 ≤ wr.heap.size := by have := he.le; simpa using this
    have hle : (ps.take i).flatten.length ≤ 100000 := by
      have h1 : ps.flatten = (ps.take i).flatten ++ (ps.drop i).flatten := by rw [← List.flatten_append, List.take_append_drop]
      have := congrArg List.length h1
      rw [List.length_append] at this
      omega
    generalize hout : (ps.take i).flatten = out at *
    have HOUT := Lib.hid hout
    clear hout
    obtain ⟨A5, c5, rfl, h51, h52⟩ := ho.shape
    by_cases hlt : i < ps.length
    · obtain ⟨x, hx⟩ : ∃ x, ps[i]? = some x := ⟨_, List.getElem?_eq_getElem hlt⟩
      obtain ⟨b, off, u, rfl, hb, hc0, hu⟩ := ((hr.ext hx0).ext he).slices hx
      have HFT : Hid ((ps.take (i + 1)).flatten = out ++ x) := by show _ = _; rw [flatten_take hx, HOUT.out]
      have hxl : x.length ≤ 100000 := by
        have h1 : ps.flatten = (ps.take (i + 1)).flatten ++ (ps.drop (i + 1)).flatten := by rw [← List.flatten_append, List.take_append_drop]
        have := congrArg List.length h1
        rw [HFT.out, List.length_append, List.length_append] at this
        omega
      obtain ⟨Au, cu, rfl, hu1, hu2⟩ := hu.shape
      clear hr hx
      go_wp2_with (first | ((with_reducible refine gate_bi .append #[.tmp 13, .tmp 17] ?_); refine wp_append (t := tyNd) 27 (w.heap.size + 1) 16 elNd No _ out rfl ho _ x rfl Any hu (fun _ _ h => h) (by omega) (by decide) hbs ?_; intro v6 w6 ho6 hg6 _; have hx6 := Ext.grown he hg6 (fun k hk => by have := ho.lo k hk; simpa using this)))
      go_roundw
      case rel => exact ⟨i + 1, by go_num, by omega, by rw [HFT.out]; exact ho6, hx6⟩
      case measure => simp [intOf]; omega
    · have hi' : i = ps.length := by omega
      subst hi'
      have HTK : Hid (out = ps.flatten) := by show _ = _; rw [← HOUT.out, List.take_length]
      clear hl
      go_wp2_with (first | ((with_reducible refine gate_bi .append #[.tmp 19, .tmp 21] ?_); refine wp_append (t := tyNd) 27 (w.heap.size + 1) 16 elNd No _ out rfl (ho.ext ((Ext.refl _).alloc _)) _ [n] rfl Any (SlP.one _ _ (fun _ _ => ⟨rfl, HN.out⟩)) (fun _ _ h => h) (by simp; omega) (by decide) (by simp; omega) ?_; intro v6 w6 ho6 hg6 _; have hx6 := Ext.grown (by (repeat (first | assumption | exact Ext.refl _ | apply Ext.alloc | apply Ext.drew | apply Ext.drewN | refine Ext.trans ?_ (by assumption))) : Ext w _) hg6 (fun k hk => by have := ho.lo k hk; omega)))
      go_ret
      exact ⟨v6, rfl, by rw [← HTK.out]; exact ho6.rebase (fun k hk => by have := ho6.lo k hk; omega), hx6⟩
end Go.Proofs.YtdeppnamhdbbhaaDoor
namespace Go.Proofs.YtdeppnamhdbbhaaDoor
open Go.RowKit Go.Eg

def noS : ByteArray := ⟨#[]⟩
set_option maxHeartbeats 2000000 in
set_option maxRecDepth 100000 in
theorem Nullable_calls (t : List Nd) (v : Value) (W : World) (hr : Rd tyNd W t v) (hT : Tab W) :
    Calls Tryd.prog 12 #[v] W fun e w' => e = .returned (.tuple #[.bool (memR t noS), .int .i64 (errW t)]) ∧ Ext W w' := by
  have HC := Lib.hid (check_calls t v W hr)
  have hw0 : wordE noS = 0 := by decide
  by_cases h1 : errW t = 0
  · obtain ⟨hl4, hok⟩ := errW_ok h1
    obtain ⟨hwf, hfl⟩ := tr_of hok
    have HR := Lib.hid (fun W' (hE : Ext W W') => run_calls (tr t) hwf t hfl.symm hl4 v noS (by decide) W' (hr.ext hE) (hT.ext hE))
    have hm : 0 < (rowsL noS (tr t)).length := by rw [rowsL_len]; omega
    have HA := Lib.hid (atS_get hm)
    rw [atS_rows] at HA
    have HM : Hid (inSet (rowB (bt noS) noS.size (tr t) 0) 0 = memR t noS) := Lib.hid (by
      have he : endsE t noS 0 = 0 := by rw [endsE, if_neg (by omega), if_neg (by omega), if_pos (by decide)]
      have := mem_of t noS
      rw [endsS, if_pos he] at this
      exact this)
    have HH := Lib.hid (Has_calls (rowB (bt noS) noS.size (tr t) 0) 0)
    rw [HM.out] at HH
    generalize rowB (bt noS) noS.size (tr t) 0 = r at *
    generalize rowsL noS (tr t) = L at *
    rw [h1] at HC ⊢
    clear h1 hok hfl hwf hr hT hw0
    unfold noS at HR
    go_enter Tryd.func12, Tryd.ntmps12
    go_wp2_with (first
      | ((go_at_call 23; (with_reducible refine (HC.out).mono ?_); rintro e w1 ⟨rfl, hx1⟩))
      | ((go_at_call 25; (with_reducible refine (HR.out _ hx1).mono ?_); rintro e w2 ⟨v2, rfl, hr2, hx2⟩); obtain ⟨A2, c2, rfl, hl2, _⟩ := hr2.shape; obtain ⟨b2, o2, rfl, hb2, q0, q1, q2, q3, q4, q5, q6, q7⟩ := rd_set hr2 HA.out; simp only [Nat.zero_mul, Nat.add_zero] at q0 q1 q2 q3 q4 q5 q6 q7; have hx3 := hx1.trans hx2)
      | ((go_at_call 14; (with_reducible refine (HH.out _).mono ?_); rintro e w3 ⟨rfl, hx4⟩)))
    go_ret2
    exact ⟨rfl, hx3.trans hx4⟩
  · have hne : (errW t != 0) = true := bne_iff_ne.2 h1
    have HM : Hid (memR t noS = false) := Lib.hid (by rw [memR, decide_eq_false (by rw [endsE, if_pos h1]; exact h1)]; rfl)
    generalize errW t = ew at *
    rw [HM.out]
    clear h1 hr hT hw0
    go_enter Tryd.func12, Tryd.ntmps12
    go_wp2_with ((go_at_call 23; (with_reducible refine (HC.out).mono ?_); rintro e w1 ⟨rfl, hx1⟩))
    go_ret2
    exact ⟨rfl, hx1⟩

set_option maxHeartbeats 2000000 in
set_option maxRecDepth 100000 in
theorem rput_calls (p : Nat → Bool) (x : Int) (h0 : 0 ≤ x) (h1 : x < 512) (w : World) : Calls Tryd.prog 72 #[Value.agg #[.int .u64 (wd (p) 0 : Nat), .int .u64 (wd (p) 1 : Nat), .int .u64 (wd (p) 2 : Nat), .int .u64 (wd (p) 3 : Nat), .int .u64 (wd (p) 4 : Nat), .int .u64 (wd (p) 5 : Nat), .int .u64 (wd (p) 6 : Nat), .int .u64 (wd (p) 7 : Nat)], .int .i64 x] w fun e w' => e = .returned (Value.agg #[.int .u64 (wd (addSet p x) 0 : Nat), .int .u64 (wd (addSet p x) 1 : Nat), .int .u64 (wd (addSet p x) 2 : Nat), .int .u64 (wd (addSet p x) 3 : Nat), .int .u64 (wd (addSet p x) 4 : Nat), .int .u64 (wd (addSet p x) 5 : Nat), .int .u64 (wd (addSet p x) 6 : Nat), .int .u64 (wd (addSet p x) 7 : Nat)]) ∧ Ext w w' := by
  have HB : Hid (Arr ((w.alloc (.cells #[Value.int .u64 (wd (p) 0 : Nat), .int .u64 (wd (p) 1 : Nat), .int .u64 (wd (p) 2 : Nat), .int .u64 (wd (p) 3 : Nat), .int .u64 (wd (p) 4 : Nat), .int .u64 (wd (p) 5 : Nat), .int .u64 (wd (p) 6 : Nat), .int .u64 (wd (p) 7 : Nat)] 31)).alloc (.cells #[Value.int .u64 0, .int .u64 0, .int .u64 0, .int .u64 0, .int .u64 0, .int .u64 0, .int .u64 0, .int .u64 0] 31)) w.heap.size p) := Lib.hid ((Arr.made p rfl).old (by simp))
  have HZ : Hid (Arr ((w.alloc (.cells #[Value.int .u64 (wd (p) 0 : Nat), .int .u64 (wd (p) 1 : Nat), .int .u64 (wd (p) 2 : Nat), .int .u64 (wd (p) 3 : Nat), .int .u64 (wd (p) 4 : Nat), .int .u64 (wd (p) 5 : Nat), .int .u64 (wd (p) 6 : Nat), .int .u64 (wd (p) 7 : Nat)] 31)).alloc (.cells #[Value.int .u64 0, .int .u64 0, .int .u64 0, .int .u64 0, .int .u64 0, .int .u64 0, .int .u64 0, .int .u64 0] 31)) (w.heap.size + 1) (fun _ => false)) := Lib.hid (Arr.zero (by simp))
  have HX : Hid (Ext w ((w.alloc (.cells #[Value.int .u64 (wd (p) 0 : Nat), .int .u64 (wd (p) 1 : Nat), .int .u64 (wd (p) 2 : Nat), .int .u64 (wd (p) 3 : Nat), .int .u64 (wd (p) 4 : Nat), .int .u64 (wd (p) 5 : Nat), .int .u64 (wd (p) 6 : Nat), .int .u64 (wd (p) 7 : Nat)] 31)).alloc (.cells #[Value.int .u64 0, .int .u64 0, .int .u64 0, .int .u64 0, .int .u64 0, .int .u64 0, .int .u64 0, .int .u64 0] 31))) := by show Ext _ _; (repeat (first | assumption | exact Ext.refl _ | apply Ext.alloc | apply Ext.drew | apply Ext.drewN | refine Ext.set ?_ (by first | exact Nat.le_refl _ | assumption | exact Nat.le_succ _ | exact Nat.le_add_right _ _ | exact Nat.le_trans (Nat.le_succ _) (Nat.le_succ _) | omega) _ | refine Ext.trans ?_ (by assumption)))
  have hq0 : 0 ≤ x / 64 := by omega
  have hq1 : x / 64 < 8 := by omega
  have hq2 : 0 ≤ x % 64 := by omega
  have hq3 : x % 64 < 64 := by omega
  have hd1 : x.tdiv 64 = x / 64 := Int.tdiv_eq_ediv_of_nonneg h0
  have hd2 : x.tmod 64 = x % 64 := Int.tmod_eq_emod_of_nonneg h0
  have hd3 : IntKind.i64.wrap (x / 64) = x / 64 := IntWalk.i64_in _ (by omega)
  have hd4 : IntKind.i64.wrap (x % 64) = x % 64 := IntWalk.i64_in _ (by omega)
  have hd5 : IntKind.u64.wrap (x % 64) = x % 64 := by rw [IntKind.wrap_u64]; omega
  have hd6 := shl_one (x % 64) hq2 hq3
  have hd8 : IntKind.u64.wrap (2 ^ (x % 64).toNat) = 2 ^ (x % 64).toNat := by rw [Nat.min_eq_left (by omega)] at hd6; exact hd6
  have hd7 := add_word p x h0
  obtain ⟨r, hrr⟩ : ∃ r, r = addSet p x := ⟨_, rfl⟩
  have HRR := Lib.hid hrr
  rw [← hrr] at hd7 ⊢
  clear hrr
  go_enter Tryd.func72, Tryd.ntmps72
  go_upto_region 1 with fail
  generalize (w.alloc (.cells #[Value.int .u64 (wd (p) 0 : Nat), .int .u64 (wd (p) 1 : Nat), .int .u64 (wd (p) 2 : Nat), .int .u64 (wd (p) 3 : Nat), .int .u64 (wd (p) 4 : Nat), .int .u64 (wd (p) 5 : Nat), .int .u64 (wd (p) 6 : Nat), .int .u64 (wd (p) 7 : Nat)] 31)).alloc (.cells #[Value.int .u64 0, .int .u64 0, .int .u64 0, .int .u64 0, .int .u64 0, .int .u64 0, .int .u64 0, .int .u64 0] 31) = W at *
  obtain ⟨hw, hf⟩ := HB.out (x / 64).toNat (by omega)
  have HA' : Hid (Arr (W.setCell ⟨w.heap.size, (x / 64).toNat, none⟩ (.int .u64 (wd r (x / 64).toNat : Nat))) w.heap.size r) := HB.out.put (by omega) rfl (fun k _ hk => by rw [HRR.out]; exact add_other _ _ h0 k hk)
  have HZ' : Hid (Arr (W.setCell ⟨w.heap.size, (x / 64).toNat, none⟩ (.int .u64 (wd r (x / 64).toNat : Nat))) (w.heap.size + 1) (fun _ => false)) := HZ.out.other (by omega)
  have HE' : Hid (Ext w (W.setCell ⟨w.heap.size, (x / 64).toNat, none⟩ (.int .u64 (wd r (x / 64).toNat : Nat)))) := HX.out.set (Nat.le_refl _) _
  go_upto_region 2 with fail
  generalize W.setCell ⟨w.heap.size, (x / 64).toNat, none⟩ (.int .u64 (wd r (x / 64).toNat : Nat)) = W2 at *
  clear hw hf hd1 hd2 hd3 hd4 hd5 hd6 hd7 hd8 hq0 hq1 hq2 hq3 h0 h1
  have H__ := (HA').out; obtain ⟨ce0, fe0⟩ := H__ 0 (by omega); obtain ⟨ce1, fe1⟩ := H__ 1 (by omega); obtain ⟨ce2, fe2⟩ := H__ 2 (by omega); obtain ⟨ce3, fe3⟩ := H__ 3 (by omega); obtain ⟨ce4, fe4⟩ := H__ 4 (by omega); obtain ⟨ce5, fe5⟩ := H__ 5 (by omega); obtain ⟨ce6, fe6⟩ := H__ 6 (by omega); obtain ⟨ce7, fe7⟩ := H__ 7 (by omega); clear H__
  have H__ := (HZ').out; obtain ⟨de0, ge0⟩ := H__ 0 (by omega); obtain ⟨de1, ge1⟩ := H__ 1 (by omega); obtain ⟨de2, ge2⟩ := H__ 2 (by omega); obtain ⟨de3, ge3⟩ := H__ 3 (by omega); obtain ⟨de4, ge4⟩ := H__ 4 (by omega); obtain ⟨de5, ge5⟩ := H__ 5 (by omega); obtain ⟨de6, ge6⟩ := H__ 6 (by omega); obtain ⟨de7, ge7⟩ := H__ 7 (by omega); clear H__
  have HEX : Hid (Ext w ((((((((W2.setCell ⟨w.heap.size + 1, 0, none⟩ (.int .u64 (wd (r) 0 : Nat))).setCell ⟨w.heap.size + 1, 1, none⟩ (.int .u64 (wd (r) 1 : Nat))).setCell ⟨w.heap.size + 1, 2, none⟩ (.int .u64 (wd (r) 2 : Nat))).setCell ⟨w.heap.size + 1, 3, none⟩ (.int .u64 (wd (r) 3 : Nat))).setCell ⟨w.heap.size + 1, 4, none⟩ (.int .u64 (wd (r) 4 : Nat))).setCell ⟨w.heap.size + 1, 5, none⟩ (.int .u64 (wd (r) 5 : Nat))).setCell ⟨w.heap.size + 1, 6, none⟩ (.int .u64 (wd (r) 6 : Nat))).setCell ⟨w.heap.size + 1, 7, none⟩ (.int .u64 (wd (r) 7 : Nat)))) := ((((((((HE'.out.set (by first | exact Nat.le_refl _ | exact Nat.le_succ _ | exact Nat.le_add_right _ _ | exact Nat.le_trans (Nat.le_succ _) (Nat.le_succ _) | omega) _).set (by first | exact Nat.le_refl _ | exact Nat.le_succ _ | exact Nat.le_add_right _ _ | exact Nat.le_trans (Nat.le_succ _) (Nat.le_succ _) | omega) _).set (by first | exact Nat.le_refl _ | exact Nat.le_succ _ | exact Nat.le_add_right _ _ | exact Nat.le_trans (Nat.le_succ _) (Nat.le_succ _) | omega) _).set (by first | exact Nat.le_refl _ | exact Nat.le_succ _ | exact Nat.le_add_right _ _ | exact Nat.le_trans (Nat.le_succ _) (Nat.le_succ _) | omega) _).set (by first | exact Nat.le_refl _ | exact Nat.le_succ _ | exact Nat.le_add_right _ _ | exact Nat.le_trans (Nat.le_succ _) (Nat.le_succ _) | omega) _).set (by first | exact Nat.le_refl _ | exact Nat.le_succ _ | exact Nat.le_add_right _ _ | exact Nat.le_trans (Nat.le_succ _) (Nat.le_succ _) | omega) _).set (by first | exact Nat.le_refl _ | exact Nat.le_succ _ | exact Nat.le_add_right _ _ | exact Nat.le_trans (Nat.le_succ _) (Nat.le_succ _) | omega) _).set (by first | exact Nat.le_refl _ | exact Nat.le_succ _ | exact Nat.le_add_right _ _ | exact Nat.le_trans (Nat.le_succ _) (Nat.le_succ _) | omega) _)
  go_wp2_with fail
  exact bodyPost_ret (v := Value.agg #[.int .u64 (wd (r) 0 : Nat), .int .u64 (wd (r) 1 : Nat), .int .u64 (wd (r) 2 : Nat), .int .u64 (wd (r) 3 : Nat), .int .u64 (wd (r) 4 : Nat), .int .u64 (wd (r) 5 : Nat), .int .u64 (wd (r) 6 : Nat), .int .u64 (wd (r) 7 : Nat)]) (by simp [results, Tryd.results72, go_sem, *]) rfl ⟨rfl, HEX⟩
end Go.Proofs.YtdeppnamhdbbhaaDoor
namespace Go.Proofs.YtdeppnamhdbbhaaDoor
open Go.RowKit Go.Eg

theorem add_one (i : Nat) : addSet (fun _ => false) (i : Int) = fun j => j == i := by
  funext j
  rw [addSet, Bool.false_or, Bool.eq_iff_iff, beq_iff_eq, beq_iff_eq]
  omega
/-- What the reference puts at a place. -/
theorem leaf_row (s : ByteArray) (nd : Nd) (h1 : 1 ≤ nd.k) (h4 : nd.k ≤ 4) (i : Nat) (hi : i ≤ s.size) : rowB (bt s) s.size (.leaf nd) i =
    if nd.k = 2 then (fun j => j == i) else if i < s.size ∧ (nd.k = 4 ∨ nd.k = 3 ∧ bt s i = nd.s) then (fun j => j == i + 1) else fun _ => false := by
  obtain ⟨k, sg⟩ := nd
  dsimp only at *
  by_cases e2 : k = 2
  · subst e2
    rw [if_pos rfl]
    funext j
    exact row_empty i j hi
  · rw [if_neg e2]
    by_cases e3 : k = 3
    · subst e3
      rw [← letS_row (.inl rfl)]
      unfold letS
      congr 1
      simp
    · by_cases e4 : k = 4
      · subst e4
        rw [← letS_row (.inr rfl)]
        unfold letS
        congr 1
        simp
      · rw [if_neg (by omega)]
        funext j
        exact row_none k e2 e3 e4 i j

set_option maxHeartbeats 8000000 in
set_option maxRecDepth 100000 in
theorem rone_calls (s : ByteArray) (hs : s.size < 512) (nd : Nd) (hk1 : 1 ≤ nd.k) (hk4 : nd.k ≤ 4) (w : World) :
    Calls Tryd.prog 55 #[.agg #[.int .i64 nd.k, .int .u8 nd.s], .string s] w (RowsPost s (.leaf nd) w) := by
  have hmk := fun W => mk_sets (s.size + 1) W (by omega)
  have hcast : ((s.size + 1 : Nat) : Int) = (s.size : Int) + 1 := by omega
  rw [hcast] at hmk
  have HR := Lib.hid (leaf_row s nd hk1 hk4)
  have hk0 : (w.alloc (.cells #[.int .i64 nd.k, .int .u8 nd.s] 27)).cell? ⟨w.heap.size, 0, none⟩ = some (.int .i64 nd.k) := by simp
  have hg0 : (w.alloc (.cells #[.int .i64 nd.k, .int .u8 nd.s] 27)).cell? ⟨w.heap.size, 1, none⟩ = some (.int .u8 nd.s) := by simp
  go_enter Tryd.func55, Tryd.ntmps55
  go_wp2_with (first | simp only [hmk])
  go_loopw [6] (fun v6 wr => ∃ j : Nat, v6 = .int .i64 j ∧ j ≤ s.size + 1 ∧ Hid (Own tySet 31 (w.heap.size + 1) No wr (upTo (s.size + 1) (rowB (bt s) s.size (.leaf nd)) j) (.slice (some ⟨w.heap.size + 1, 0, none⟩) (s.size + 1) (s.size + 1))) ∧ Ext (w.alloc (.cells #[.int .i64 nd.k, .int .u8 nd.s] 27)) wr) (fun v6 _ => s.size + 1 - (intOf v6).toNat)
  case atStart => exact ⟨0, rfl, by omega, Lib.hid (by rw [upTo_zero]; have h9 := own_made (w := w.alloc (.cells #[.int .i64 nd.k, .int .u8 nd.s] 27)) (w.heap.size + 1) (s.size + 1) (by simp) (by omega); simpa using h9), by (repeat (first | assumption | exact Ext.refl _ | apply Ext.alloc | apply Ext.drew | apply Ext.drewN | refine Ext.trans ?_ (by assumption)))⟩
  case round =>
    clear hmk
    obtain ⟨j, rfl, hj, HO, he⟩ := hrel
    by_cases hlt : j < s.size + 1
    · replace hk0 := (he.cell _ _ (by simp)).trans hk0
      replace hg0 := (he.cell _ _ (by simp)).trans hg0
      have hle : j ≤ s.size := by omega
      have HG : Hid ((upTo (s.size + 1) (rowB (bt s) s.size (.leaf nd)) j)[j]? = some (fun _ => false)) := Lib.hid (by simp [upTo, hlt])
      obtain ⟨hg, hc0, hc1, hc2, hc3, hc4, hc5, hc6, hc7⟩ := own_set HO.out HG.out
      have HRj := Lib.hid (HR.out j hle)
      have HS : Hid (∀ W' (q : Nat → Bool), rowB (bt s) s.size (.leaf nd) j = q → Ext wr W' → Own tySet 31 (w.heap.size + 1) No (put8 W' (w.heap.size + 1) (j * 8) q) (upTo (s.size + 1) (rowB (bt s) s.size (.leaf nd)) (j + 1)) (.slice (some ⟨w.heap.size + 1, 0, none⟩) (s.size + 1) (s.size + 1))) := Lib.hid (fun W' q hq hE => by
        have := Own.store8 (i := j) (HO.out.ext hE) (by rw [upTo_len]; exact hlt) q
        rw [← hq, upTo_set] at this
        rw [← hq]; exact this)
      have HZ : Hid (rowB (bt s) s.size (.leaf nd) j = (fun _ => false) → upTo (s.size + 1) (rowB (bt s) s.size (.leaf nd)) (j + 1) = upTo (s.size + 1) (rowB (bt s) s.size (.leaf nd)) j) := Lib.hid (fun h => by
        rw [← upTo_set, h]
        exact List.ext_getElem? fun i => by
          rw [List.getElem?_set]
          split
          · rename_i e; subst e; rw [HG.out]; simp [upTo_len, hlt]
          · rfl)
      clear hk1 hk4 HR
      by_cases e2 : nd.k = 2
      · have b2 : (nd.k == 2) = true := beq_iff_eq.2 e2
        have HQ := Lib.hid (HRj.out.trans (if_pos e2))
        have HP := Lib.hid (fun W' => rput_calls (fun _ => false) (j : Int) (by omega) (by omega) W')
        rw [add_one] at HP
        generalize (fun x => x == j) = q at *
        clear e2 HRj
        go_wp2_with ((go_at_call 72; (with_reducible refine (HP.out _).mono ?_); rintro e w1 ⟨rfl, h1⟩); obtain ⟨hg', hd0, hd1, hd2, hd3, hd4, hd5, hd6, hd7⟩ := own_set (HO.out.ext h1) HG.out; have hfr := (HO.out.ext h1).free)
        go_roundw
        case rel => exact ⟨j + 1, by go_num, by omega, Lib.hid (HS.out w1 q HQ.out h1), Ext.put8 (he.trans h1) (j * 8) q (by simp)⟩
        case measure => simp [intOf]; omega
      · have b2 : (nd.k == 2) = false := beq_eq_false_iff_ne.2 e2
        rw [if_neg e2] at HRj
        by_cases hn : j < s.size
        · have hn1 : decide ((j : Int) < s.size) = true := decide_eq_true (by omega)
          have hbt := bt_at s j hn
          by_cases e4 : nd.k = 4
          · have b4 : (nd.k == 4) = true := beq_iff_eq.2 e4
            have HQ := Lib.hid (HRj.out.trans (if_pos (by exact ⟨hn, .inl e4⟩)))
            have HP := Lib.hid (fun W' => rput_calls (fun _ => false) ((j + 1 : Nat) : Int) (by omega) (by omega) W')
            rw [add_one, show ((j + 1 : Nat) : Int) = (j : Int) + 1 by omega] at HP
            generalize (fun x => x == j + 1) = q at *
            clear HRj e4 e2
            go_wp2_with ((go_at_call 72; (with_reducible refine (HP.out _).mono ?_); rintro e w1 ⟨rfl, h1⟩); obtain ⟨hg', hd0, hd1, hd2, hd3, hd4, hd5, hd6, hd7⟩ := own_set (HO.out.ext h1) HG.out; have hfr := (HO.out.ext h1).free)
            go_roundw
            case rel => exact ⟨j + 1, by go_num, by omega, Lib.hid (HS.out w1 q HQ.out h1), Ext.put8 (he.trans h1) (j * 8) q (by simp)⟩
            case measure => simp [intOf]; omega
          · have b4 : (nd.k == 4) = false := beq_eq_false_iff_ne.2 e4
            by_cases e3 : nd.k = 3
            · have b3 : (nd.k == 3) = true := beq_iff_eq.2 e3
              by_cases e5 : bt s j = nd.s
              · have b5 : (((s[j]'hn).toNat : Int) == nd.s) = true := beq_iff_eq.2 (by rw [hbt]; exact e5)
                have HQ := Lib.hid (HRj.out.trans (if_pos (by exact ⟨hn, .inr ⟨e3, e5⟩⟩)))
                have HP := Lib.hid (fun W' => rput_calls (fun _ => false) ((j + 1 : Nat) : Int) (by omega) (by omega) W')
                rw [add_one, show ((j + 1 : Nat) : Int) = (j : Int) + 1 by omega] at HP
                generalize (fun x => x == j + 1) = q at *
                clear HRj e3 e4 e2 e5 hbt
                go_wp2_with fail
                go_quiet (fail)
                go_wp2_with ((go_at_call 72; (with_reducible refine (HP.out _).mono ?_); rintro e w1 ⟨rfl, h1⟩); replace h1 := ((Ext.refl wr).drewN _).trans h1; obtain ⟨hg', hd0, hd1, hd2, hd3, hd4, hd5, hd6, hd7⟩ := own_set (HO.out.ext h1) HG.out; have hfr := (HO.out.ext h1).free)
                go_roundw
                case rel => exact ⟨j + 1, by go_num, by omega, Lib.hid (HS.out w1 q HQ.out h1), Ext.put8 (he.trans h1) (j * 8) q (by simp)⟩
                case measure => simp [intOf]; omega
              · have b5 : (((s[j]'hn).toNat : Int) == nd.s) = false := beq_eq_false_iff_ne.2 (by rw [hbt]; exact e5)
                have HN : Hid (rowB (bt s) s.size (.leaf nd) j = fun _ => false) := Lib.hid (HRj.out.trans (if_neg (by rintro ⟨_, h | ⟨_, h⟩⟩; exact e4 h; exact e5 h)))
                clear HRj e3 e4 e2 e5 hbt
                go_wp2_with fail
                go_quiet (fail)
                go_wp2_with fail
                go_roundw
                case rel => exact ⟨j + 1, by go_num, by omega, Lib.hid (by rw [HZ.out HN.out]; exact HO.out.ext (by (repeat (first | assumption | exact Ext.refl _ | apply Ext.alloc | apply Ext.drew | apply Ext.drewN | refine Ext.trans ?_ (by assumption))))), by (repeat (first | assumption | exact Ext.refl _ | apply Ext.alloc | apply Ext.drew | apply Ext.drewN | refine Ext.trans ?_ (by assumption)))⟩
                case measure => simp [intOf]; omega
            · have b3 : (nd.k == 3) = false := beq_eq_false_iff_ne.2 e3
              have HN : Hid (rowB (bt s) s.size (.leaf nd) j = fun _ => false) := Lib.hid (HRj.out.trans (if_neg (by rintro ⟨_, h | ⟨h, _⟩⟩; exact e4 h; exact e3 h)))
              clear HRj e3 e4 e2 hbt
              go_wp2_with fail
              go_quiet (fail)
              go_wp2_with fail
              go_roundw
              case rel => exact ⟨j + 1, by go_num, by omega, Lib.hid (by rw [HZ.out HN.out]; exact HO.out.ext (by (repeat (first | assumption | exact Ext.refl _ | apply Ext.alloc | apply Ext.drew | apply Ext.drewN | refine Ext.trans ?_ (by assumption))))), by (repeat (first | assumption | exact Ext.refl _ | apply Ext.alloc | apply Ext.drew | apply Ext.drewN | refine Ext.trans ?_ (by assumption)))⟩
              case measure => simp [intOf]; omega
        · have hn1 : decide ((j : Int) < s.size) = false := decide_eq_false (by omega)
          by_cases e4 : nd.k = 4
          · have b4 : (nd.k == 4) = true := beq_iff_eq.2 e4
            have b3 : (nd.k == 3) = false := beq_eq_false_iff_ne.2 (by omega)
            have HN : Hid (rowB (bt s) s.size (.leaf nd) j = fun _ => false) := Lib.hid (HRj.out.trans (if_neg (by rintro ⟨h, _⟩; exact hn h)))
            clear HRj e4 e2
            go_wp2_with fail
            go_quiet (fail)
            go_wp2_with fail
            go_roundw
            case rel => exact ⟨j + 1, by go_num, by omega, Lib.hid (by rw [HZ.out HN.out]; exact HO.out.ext (by (repeat (first | assumption | exact Ext.refl _ | apply Ext.alloc | apply Ext.drew | apply Ext.drewN | refine Ext.trans ?_ (by assumption))))), by (repeat (first | assumption | exact Ext.refl _ | apply Ext.alloc | apply Ext.drew | apply Ext.drewN | refine Ext.trans ?_ (by assumption)))⟩
            case measure => simp [intOf]; omega
          · have b4 : (nd.k == 4) = false := beq_eq_false_iff_ne.2 e4
            by_cases e3 : nd.k = 3
            · have b3 : (nd.k == 3) = true := beq_iff_eq.2 e3
              have HN : Hid (rowB (bt s) s.size (.leaf nd) j = fun _ => false) := Lib.hid (HRj.out.trans (if_neg (by rintro ⟨h, _⟩; exact hn h)))
              clear HRj e3 e4 e2
              go_wp2_with fail
              go_quiet (fail)
              go_wp2_with fail
              go_roundw
              case rel => exact ⟨j + 1, by go_num, by omega, Lib.hid (by rw [HZ.out HN.out]; exact HO.out.ext (by (repeat (first | assumption | exact Ext.refl _ | apply Ext.alloc | apply Ext.drew | apply Ext.drewN | refine Ext.trans ?_ (by assumption))))), by (repeat (first | assumption | exact Ext.refl _ | apply Ext.alloc | apply Ext.drew | apply Ext.drewN | refine Ext.trans ?_ (by assumption)))⟩
              case measure => simp [intOf]; omega
            · have b3 : (nd.k == 3) = false := beq_eq_false_iff_ne.2 e3
              have HN : Hid (rowB (bt s) s.size (.leaf nd) j = fun _ => false) := Lib.hid (HRj.out.trans (if_neg (by rintro ⟨h, _⟩; exact hn h)))
              clear HRj e3 e4 e2
              go_wp2_with fail
              go_quiet (fail)
              go_wp2_with fail
              go_roundw
              case rel => exact ⟨j + 1, by go_num, by omega, Lib.hid (by rw [HZ.out HN.out]; exact HO.out.ext (by (repeat (first | assumption | exact Ext.refl _ | apply Ext.alloc | apply Ext.drew | apply Ext.drewN | refine Ext.trans ?_ (by assumption))))), by (repeat (first | assumption | exact Ext.refl _ | apply Ext.alloc | apply Ext.drew | apply Ext.drewN | refine Ext.trans ?_ (by assumption)))⟩
              case measure => simp [intOf]; omega
    · have hj' : j = s.size + 1 := by omega
      subst hj'
      go_wp2_with fail
      go_ret
      rw [upTo_all] at HO
      exact ⟨_, rfl, own_low HO.out (by omega), ((Ext.refl w).alloc _).trans he⟩
end Go.Proofs.YtdeppnamhdbbhaaDoor
namespace Go.Proofs.YtdeppnamhdbbhaaDoor
open Go.RowKit Go.Eg

theorem elRefs : Elem Tryd.prog 82 56 1 24 := Elem.mk (z := .slice none 0 0) Tryd.underlying82 (by kernel_rfl) rfl (by decide)
set_option maxHeartbeats 4000000 in
set_option maxRecDepth 100000 in
theorem rall_leaf (s : ByteArray) (hs : s.size < 512) (nd : Nd) (hk1 : 1 ≤ nd.k) (hk4 : nd.k ≤ 4) (v : Value) (w : World) (hr : Rd tyNd w [nd] v) :
    Calls Tryd.prog 40 #[v, .string s] w fun e w' => ∃ v', e = .returned v' ∧ Rd tySet w' (rowsL s (.leaf nd)) v' ∧ Ext w w' := by
  obtain ⟨A, c, rfl, hlc, hcm⟩ := hr.shape
  unfold maxLen at hcm
  have hb5 : (nd.k == 5) = false := beq_eq_false_iff_ne.2 (by omega)
  have hb6 : (nd.k == 6) = false := beq_eq_false_iff_ne.2 (by omega)
  have hb7 : (nd.k == 7) = false := beq_eq_false_iff_ne.2 (by omega)
  have hb8 : (nd.k == 8) = false := beq_eq_false_iff_ne.2 (by omega)
  have hb9 : (nd.k == 9) = false := beq_eq_false_iff_ne.2 (by omega)
  have HO := Lib.hid (rone_calls s hs nd hk1 hk4)
  clear hk1 hk4
  have e1 : [nd].length = 1 := rfl
  rw [e1] at *
  clear e1
  go_enter Tryd.func40, Tryd.ntmps40
  go_wp2_with fail
  go_loopw [5, 6, 7, 8, 9] (fun v5 v6 _ _ _ wr => ((v6 = .int .i64 0 ∧ v5 = .slice none 0 0) ∨ (v6 = .int .i64 1 ∧ Hid (Rd (Ty.slice tySet) wr [rowsL s (.leaf nd)] v5))) ∧ Ext w wr) (fun _ v6 _ _ _ _ => 1 - (intOf v6).toNat)
  case atStart => exact ⟨.inl ⟨rfl, rfl⟩, Ext.refl _⟩
  case round =>
    obtain ⟨⟨rfl, rfl⟩ | ⟨rfl, HR⟩, he⟩ := hrel
    · obtain ⟨b, off, rfl, hb, hc0, hc1⟩ := rd_node (i := 0) (hr.ext he) (by simp)
      simp only [Nat.zero_mul, Nat.add_zero] at hc0 hc1
      have e2 : nth [nd] 0 = nd := rfl
      rw [e2] at hc0 hc1
      go_wp2_with (first
        | ((go_at_call 55; (with_reducible refine (HO.out _).mono ?_); rintro e w1 ⟨v1, rfl, ho1, h1⟩); obtain ⟨A1, c1, rfl, _, _⟩ := ho1.shape)
        | ((with_reducible refine gate_bi .append #[.tmp 29, .tmp 31] ?_); refine wp_append_clip (t := Ty.slice tySet) 56 24 elRefs none 0 [] rfl (fun _ => rfl) (Rd.nil _ _) (rowsL s (.leaf nd)) (.slice (some ⟨w1.heap.size, 0, none⟩) 1 1) rfl (SlP.lit1 (B := Any) trivial ho1.rd) (by simp) (by decide) ?_; intro v3 w3 hr3 h3))
      go_roundw
      case rel => exact ⟨.inr ⟨rfl, Lib.hid hr3⟩, he.trans ((h1.alloc _).trans h3)⟩
      case measure => simp [intOf]
    · obtain ⟨A6, c6, rfl, hl6, hm6⟩ := HR.out.shape
      obtain ⟨b6, o6, u6, rfl, hb6, hc6, hu6⟩ := HR.out.slices (i := 0) rfl
      have e2 : [rowsL s (.leaf nd)].length = 1 := rfl
      rw [e2] at *
      simp only [Nat.add_zero] at hc6
      go_wp2_with fail
      go_ret
      exact ⟨_, rfl, hu6, he⟩
end Go.Proofs.YtdeppnamhdbbhaaDoor
