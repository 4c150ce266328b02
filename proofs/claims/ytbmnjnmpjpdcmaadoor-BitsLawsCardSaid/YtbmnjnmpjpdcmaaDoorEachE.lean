/- Walks: Next of package bits. Conditions: the library's table as its initialiser lays it. -/
import Derived.Test.YtbmnjnmpjpdcmaaDoorEachD
namespace Go.Proofs.YtbmnjnmpjpdcmaaDoor
open Go.RowKit Go.Eg

theorem next_eachB (p q : Nat → Bool) (x : Int) (W Wz : World) (b : Nat) (hb : b = Wz.heap.size) (hT : Tab W) (he : Ext W Wz) (hqf : ∀ m : Nat, q m = false → x ≤ m → p m = false) (hqt : ∀ m : Nat, q m = true → p m = true ∧ x ≤ m) :
    Calls Tryd.prog 38 #[Value.agg #[.int .u64 (wd (q) 0 : Nat), .int .u64 (wd (q) 1 : Nat), .int .u64 (wd (q) 2 : Nat), .int .u64 (wd (q) 3 : Nat), .int .u64 (wd (q) 4 : Nat), .int .u64 (wd (q) 5 : Nat), .int .u64 (wd (q) 6 : Nat), .int .u64 (wd (q) 7 : Nat)], .func (.func 45) #[] #[.pointer (some ⟨b, 0, none⟩), .pointer (some ⟨b + 1, 0, none⟩)]] ((Wz.alloc (.cells #[.int .i64 0] 3)).alloc (.cells #[.bool false] 4)) fun e w' => e = .returned (.tuple #[]) ∧
      w'.cell? ⟨b, 0, none⟩ = some (.int .i64 (nextN p x)) ∧ w'.cell? ⟨b + 1, 0, none⟩ = some (.bool (nextB p x)) ∧ Ext W w' := by
  subst hb
  exact next_each p q x W Wz hT he hqf hqt
set_option maxHeartbeats 4000000 in
set_option maxRecDepth 100000 in
theorem Next_calls (p : Nat → Bool) (x : Int) (w : World) (hT : Tab w) : Calls Tryd.prog 29 #[Value.agg #[.int .u64 (wd (p) 0 : Nat), .int .u64 (wd (p) 1 : Nat), .int .u64 (wd (p) 2 : Nat), .int .u64 (wd (p) 3 : Nat), .int .u64 (wd (p) 4 : Nat), .int .u64 (wd (p) 5 : Nat), .int .u64 (wd (p) 6 : Nat), .int .u64 (wd (p) 7 : Nat)], .int .i64 x] w fun e w' => e = .returned (.tuple #[.int .i64 (nextN p x), .bool (nextB p x)]) ∧ Ext w w' := by
  by_cases hx : 512 ≤ x
  · have HO : Hid (nextO p x = none) := find_nums_none (fun m hm h => by omega)
    clear hT
    go_enter Tryd.func29, Tryd.ntmps29
    go_wp2_with fail
    go_ret2
    exact ⟨by unfold nextN nextB; rw [HO.out]; rfl, by (repeat (first | assumption | exact Ext.refl _ | apply Ext.alloc | apply Ext.drew | apply Ext.drewN | refine Ext.trans ?_ (by assumption)))⟩
  · have hx' : decide (512 ≤ x) = false := by simpa using hx
    obtain ⟨N, hN2, HU, hxN, HNX⟩ : ∃ N : Nat, N ≤ 512 ∧ Hid (∀ W, Calls Tryd.prog 44 #[.int .i64 (if x > 0 then x else 0)] W fun e w' => e = .returned (Value.agg #[.int .u64 (wd (loS N) 0 : Nat), .int .u64 (wd (loS N) 1 : Nat), .int .u64 (wd (loS N) 2 : Nat), .int .u64 (wd (loS N) 3 : Nat), .int .u64 (wd (loS N) 4 : Nat), .int .u64 (wd (loS N) 5 : Nat), .int .u64 (wd (loS N) 6 : Nat), .int .u64 (wd (loS N) 7 : Nat)]) ∧ Ext W w') ∧ (x ≤ N) ∧ (∀ m : Nat, x ≤ m → N ≤ m) := by
      by_cases h0 : x > 0
      · refine ⟨x.toNat, by omega, fun W => ?_, by omega, fun m hm => by omega⟩
        rw [if_pos h0]
        have := under_calls x.toNat (by omega) W
        rwa [Int.toNat_of_nonneg (by omega)] at this
      · refine ⟨0, by omega, fun W => ?_, by omega, fun m hm => by omega⟩
        rw [if_neg h0]
        exact under_calls 0 (by omega) W
    obtain ⟨m0, hif⟩ : ∃ m0, (if 0 < x then x else 0) = m0 := ⟨_, rfl⟩
    replace HU : Hid (∀ W, Calls Tryd.prog 44 #[.int .i64 m0] W fun e w' => e = .returned (Value.agg #[.int .u64 (wd (loS N) 0 : Nat), .int .u64 (wd (loS N) 1 : Nat), .int .u64 (wd (loS N) 2 : Nat), .int .u64 (wd (loS N) 3 : Nat), .int .u64 (wd (loS N) 4 : Nat), .int .u64 (wd (loS N) 5 : Nat), .int .u64 (wd (loS N) 6 : Nat), .int .u64 (wd (loS N) 7 : Nat)]) ∧ Ext W w') := by rw [← hif]; exact HU
    obtain ⟨q, hq⟩ : ∃ q, q = subS p (loS N) := ⟨_, rfl⟩
    have HQ := Lib.hid hq
    have hqf : ∀ m : Nat, q m = false → x ≤ m → p m = false := fun m h1 h2 => by
      rw [hq] at h1; unfold subS loS at h1
      rw [decide_eq_false (by have := HNX m h2; omega)] at h1; simpa using h1
    have hqt : ∀ m : Nat, q m = true → p m = true ∧ x ≤ m := fun m h1 => by
      rw [hq] at h1; unfold subS loS at h1
      simp at h1
      exact ⟨h1.1, by omega⟩
    have HB : Hid (Arr (w.alloc (.cells #[Value.int .u64 (wd (p) 0 : Nat), .int .u64 (wd (p) 1 : Nat), .int .u64 (wd (p) 2 : Nat), .int .u64 (wd (p) 3 : Nat), .int .u64 (wd (p) 4 : Nat), .int .u64 (wd (p) 5 : Nat), .int .u64 (wd (p) 6 : Nat), .int .u64 (wd (p) 7 : Nat)] 24)) w.heap.size p) := Lib.hid (Arr.made p rfl)
    have HX : Hid (Ext w (w.alloc (.cells #[Value.int .u64 (wd (p) 0 : Nat), .int .u64 (wd (p) 1 : Nat), .int .u64 (wd (p) 2 : Nat), .int .u64 (wd (p) 3 : Nat), .int .u64 (wd (p) 4 : Nat), .int .u64 (wd (p) 5 : Nat), .int .u64 (wd (p) 6 : Nat), .int .u64 (wd (p) 7 : Nat)] 24))) := by show Ext _ _; (repeat (first | assumption | exact Ext.refl _ | apply Ext.alloc | apply Ext.drew | apply Ext.drewN | refine Ext.set ?_ (by first | exact Nat.le_refl _ | assumption | exact Nat.le_succ _ | exact Nat.le_add_right _ _ | exact Nat.le_trans (Nat.le_succ _) (Nat.le_succ _) | omega) _ | refine Ext.trans ?_ (by assumption)))
    have HS : Hid (w.heap.size < (w.alloc (.cells #[Value.int .u64 (wd (p) 0 : Nat), .int .u64 (wd (p) 1 : Nat), .int .u64 (wd (p) 2 : Nat), .int .u64 (wd (p) 3 : Nat), .int .u64 (wd (p) 4 : Nat), .int .u64 (wd (p) 5 : Nat), .int .u64 (wd (p) 6 : Nat), .int .u64 (wd (p) 7 : Nat)] 24)).heap.size) := by show _ < _; simp
    have HT := Lib.hid (hT.ext HX.out)
    have HQF := Lib.hid hqf
    have HQT := Lib.hid hqt
    clear hT hx hq HNX hxN hqf hqt
    go_enter Tryd.func29, Tryd.ntmps29
    go_wp2_with fail
    generalize w.alloc (.cells #[Value.int .u64 (wd (p) 0 : Nat), .int .u64 (wd (p) 1 : Nat), .int .u64 (wd (p) 2 : Nat), .int .u64 (wd (p) 3 : Nat), .int .u64 (wd (p) 4 : Nat), .int .u64 (wd (p) 5 : Nat), .int .u64 (wd (p) 6 : Nat), .int .u64 (wd (p) 7 : Nat)] 24) = W at *
    have hbs := HS.out
    have H__ := (HB).out; obtain ⟨ce0, fe0⟩ := H__ 0 (by omega); obtain ⟨ce1, fe1⟩ := H__ 1 (by omega); obtain ⟨ce2, fe2⟩ := H__ 2 (by omega); obtain ⟨ce3, fe3⟩ := H__ 3 (by omega); obtain ⟨ce4, fe4⟩ := H__ 4 (by omega); obtain ⟨ce5, fe5⟩ := H__ 5 (by omega); obtain ⟨ce6, fe6⟩ := H__ 6 (by omega); obtain ⟨ce7, fe7⟩ := H__ 7 (by omega); clear H__
    go_region_with (first
      | ((go_at_call 44; (with_reducible refine (HU.out _).mono ?_); rintro e w1 ⟨rfl, h1⟩); (try replace h1 := Ext.undrew h1); have := (h1).cells; have := (h1).frozens; have : w.heap.size < w1.heap.size := Nat.lt_of_lt_of_le (by first | assumption | (simp; done) | (simp; omega)) (h1).le; (try (have := (h1).cells; have := (h1).frozens; have : W.heap.size < w1.heap.size := Nat.lt_of_lt_of_le (by first | assumption | (simp; done) | (simp; omega)) (h1).le)))
      | ((go_at_call 36; (with_reducible refine (minus_calls p (loS N) _).mono ?_); rintro e w2 ⟨rfl, h2⟩); rw [← HQ.out]; (try (have := (h2).cells; have := (h2).frozens; have : W.heap.size < w2.heap.size := Nat.lt_of_lt_of_le (by first | assumption | (simp; done) | (simp; omega)) (h2).le)); (try (have := (h2).cells; have := (h2).frozens; have : w1.heap.size < w2.heap.size := Nat.lt_of_lt_of_le (by first | assumption | (simp; done) | (simp; omega)) (h2).le))))
    all_goals
      have hx2 : Ext W w2 := by (repeat (first | assumption | exact Ext.refl _ | apply Ext.alloc | apply Ext.drew | apply Ext.drewN | refine Ext.trans ?_ (by assumption)))
      have HNX := Lib.hid (fun Wz b (hb : b = Wz.heap.size) hz => next_eachB p q x W Wz b hb HT.out hz HQF.out HQT.out)
      have hle1 := h1.le
      have hXX := HX.out
      clear HT HQF HQT HB HS HU HQ hbs
      go_wp2_with ((go_at_call 38; (with_reducible refine (HNX.out _ _ (by simp) (by (repeat (first | assumption | exact Ext.refl _ | apply Ext.alloc | apply Ext.drew | apply Ext.drewN | refine Ext.set ?_ (by first | exact Nat.le_refl _ | assumption | exact Nat.le_succ _ | exact Nat.le_add_right _ _ | exact Nat.le_trans (Nat.le_succ _) (Nat.le_succ _) | omega) _ | refine Ext.trans ?_ (by assumption))))).mono ?_); rintro e w3 ⟨rfl, k1, k2, h3⟩))
      go_quiet (fail)
      go_wp2_with fail
      go_ret2
      exact ⟨rfl, by (repeat (first | assumption | exact Ext.refl _ | apply Ext.alloc | apply Ext.drew | apply Ext.drewN | refine Ext.trans ?_ (by assumption)))⟩
end Go.Proofs.YtbmnjnmpjpdcmaaDoor
