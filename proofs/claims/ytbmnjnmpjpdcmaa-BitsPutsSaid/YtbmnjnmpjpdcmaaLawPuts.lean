/- The walk of the law BitsPuts. Conditions: none. -/
import Derived.Test.YtbmnjnmpjpdcmaaBitsG
import Derived.Test.YtbmnjnmpjpdcmaaBitsJ
import Derived.Test.YtbmnjnmpjpdcmaaSetEq
import Derived.Test.YtbmnjnmpjpdcmaaPutLaw
import Derived.Test.YtbmnjnmpjpdcmaaRowLib
namespace Go.Proofs.Ytbmnjnmpjpdcmaa
open Go.RowKit Go.Eg

theorem putE_zero {x y : Int} {v : Nat} (h : putE x y v = 0) : fieldOk x y = true ∧ v < 2 ^ y.toNat := by
  unfold putE at h
  split at h
  · rename_i h1
    split at h
    · rename_i h2; exact ⟨h1, h2⟩
    · cases h
  · cases h
theorem putE_ok {x y : Int} {v : Nat} (h1 : fieldOk x y = true) (h2 : v < 2 ^ y.toNat) : putE x y v = 0 := by unfold putE; rw [if_pos h1, if_pos h2]
theorem fieldOk_bd {x y : Int} (h : fieldOk x y = true) : 1 ≤ y ∧ y ≤ 64 ∧ 0 ≤ x ∧ x ≤ 512 - y := by
  simp only [fieldOk, Bool.and_eq_true, decide_eq_true_eq] at h
  omega
set_option maxHeartbeats 4000000 in
set_option maxRecDepth 100000 in
theorem lawPuts_calls (p : Nat → Bool) (x y x2 y2 : Int) (v u : Nat) (w : World) (_ : IntIn .i64 x) (_ : IntIn .i64 y) (_ : IntIn .i64 x2) (_ : IntIn .i64 y2) (hv : v < 2 ^ 64) (hu : u < 2 ^ 64) :
    Calls Try.prog 4 #[Value.agg #[.int .u64 (wd (p) 0 : Nat), .int .u64 (wd (p) 1 : Nat), .int .u64 (wd (p) 2 : Nat), .int .u64 (wd (p) 3 : Nat), .int .u64 (wd (p) 4 : Nat), .int .u64 (wd (p) 5 : Nat), .int .u64 (wd (p) 6 : Nat), .int .u64 (wd (p) 7 : Nat)], .agg #[.int .i64 x, .int .i64 y], .agg #[.int .i64 x2, .int .i64 y2], .int .u64 v, .int .u64 u] w fun e w' => e = .returned (.bool true) ∧ Ext w w' := by
  have heq := eq_set
  by_cases h : putE x y v = 0
  · obtain ⟨hok, hvl⟩ := putE_zero h
    obtain ⟨b1, b2, b3, b4⟩ := fieldOk_bd hok
    obtain ⟨A, hA⟩ : ∃ A, A = putS p x.toNat y.toNat v := ⟨_, rfl⟩
    have HA : Hid (putF p x y v = A) := by show _ = _; unfold putF; rw [if_pos h, hA]
    have HE := Lib.hid h
    have HF1 : Hid (fieldF A x y = v) := by show _ = _; unfold fieldF; rw [if_pos hok, hA, put_field p _ hvl]
    have HFE : Hid (fieldE x y = 0) := by show _ = _; unfold fieldE; rw [if_pos hok]
    obtain ⟨ws, hws⟩ : ∃ ws, ws = fieldV p x.toNat y.toNat := ⟨_, rfl⟩
    have hwl : ws < 2 ^ y.toNat := by rw [hws]; exact field_lt _ _ _
    have hw64 : ws < 2 ^ 64 := Nat.lt_of_lt_of_le hwl (Nat.pow_le_pow_right (by omega) (by omega))
    have HF2 : Hid (fieldF p x y = ws) := by show _ = _; unfold fieldF; rw [if_pos hok, hws]
    have hB : putE x y ws = 0 := putE_ok hok hwl
    have HBE := Lib.hid hB
    have HB : Hid (putF A x y ws = p) := by show _ = _; unfold putF; rw [if_pos hB, hA, hws, put_back]
    have hok1 : fieldOk x 1 = true := by simp [fieldOk]; omega
    have HGE : Hid (fieldE x 1 = 0) := by show _ = _; unfold fieldE; rw [if_pos hok1]
    obtain ⟨bit, hbit⟩ : ∃ bit, bit = inSet A x := ⟨_, rfl⟩
    obtain ⟨one, hone⟩ : ∃ one, one = fieldF A x 1 := ⟨_, rfl⟩
    have h1 : ((one : Int) == 1) = bit := by
      rw [hone, hbit]; unfold fieldF inSet
      rw [if_pos hok1, show (1 : Int).toNat = 1 from rfl, field_bit, decide_eq_true b3, decide_eq_true (show x < 512 by omega)]
      cases A x.toNat <;> rfl
    have HBIT := Lib.hid hbit
    have HONE := Lib.hid hone
    clear hbit hone hwl hvl
    by_cases h2 : putE x2 y2 u = 0
    · obtain ⟨hok2, hul⟩ := putE_zero h2
      obtain ⟨c1, c2, c3, c4⟩ := fieldOk_bd hok2
      have HE2 := Lib.hid h2
      by_cases hov : x2 < x + y ∧ x < x2 + y2
      · obtain ⟨hov1, hov2⟩ := hov
        obtain ⟨B, hB2⟩ : ∃ B, B = putF A x2 y2 u := ⟨_, rfl⟩
        have HB2 := Lib.hid hB2
        clear h hok hok1 hok2 hul hA hws hB hB2 h2
        cases bit
        all_goals
          go_enter Try.func4, Try.ntmps4
          go_wp2_with (first
            | ((go_at_call 8; (with_reducible refine (Put_calls p x y v hv _).mono ?_); rintro e w1 ⟨rfl, h1⟩); rw [HA.out, HE.out]; have := (h1).cells; have := (h1).frozens; have : w.heap.size < w1.heap.size := Nat.lt_of_lt_of_le (by first | assumption | (simp; done) | (simp; omega)) (h1).le; have : w.heap.size + 1 < w1.heap.size := Nat.lt_of_lt_of_le (by first | assumption | (simp; done) | (simp; omega)) (h1).le; have : w.heap.size + 2 < w1.heap.size := Nat.lt_of_lt_of_le (by first | assumption | (simp; done) | (simp; omega)) (h1).le)
            | ((go_at_call 6; (with_reducible refine (Field_calls A x y _).mono ?_); rintro e w2 ⟨rfl, h2⟩); rw [HF1.out, HFE.out]; have := (h2).cells; have := (h2).frozens; have : w.heap.size < w2.heap.size := Nat.lt_of_lt_of_le (by first | assumption | (simp; done) | (simp; omega)) (h2).le; have : w.heap.size + 1 < w2.heap.size := Nat.lt_of_lt_of_le (by first | assumption | (simp; done) | (simp; omega)) (h2).le; have : w.heap.size + 2 < w2.heap.size := Nat.lt_of_lt_of_le (by first | assumption | (simp; done) | (simp; omega)) (h2).le; have : w1.heap.size < w2.heap.size := Nat.lt_of_lt_of_le (by first | assumption | (simp; done) | (simp; omega)) (h2).le)
            | ((go_at_call 6; (with_reducible refine (Field_calls p x y _).mono ?_); rintro e w3 ⟨rfl, h3⟩); rw [HF2.out, HFE.out]; have := (h3).cells; have := (h3).frozens; have : w.heap.size < w3.heap.size := Nat.lt_of_lt_of_le (by first | assumption | (simp; done) | (simp; omega)) (h3).le; have : w.heap.size + 1 < w3.heap.size := Nat.lt_of_lt_of_le (by first | assumption | (simp; done) | (simp; omega)) (h3).le; have : w.heap.size + 2 < w3.heap.size := Nat.lt_of_lt_of_le (by first | assumption | (simp; done) | (simp; omega)) (h3).le; have : w1.heap.size < w3.heap.size := Nat.lt_of_lt_of_le (by first | assumption | (simp; done) | (simp; omega)) (h3).le)
            | ((go_at_call 8; (with_reducible refine (Put_calls A x y ws hw64 _).mono ?_); rintro e w4 ⟨rfl, h4⟩); rw [HB.out, HBE.out]; have := (h4).cells; have := (h4).frozens; have : w.heap.size < w4.heap.size := Nat.lt_of_lt_of_le (by first | assumption | (simp; done) | (simp; omega)) (h4).le; have : w.heap.size + 1 < w4.heap.size := Nat.lt_of_lt_of_le (by first | assumption | (simp; done) | (simp; omega)) (h4).le; have : w.heap.size + 2 < w4.heap.size := Nat.lt_of_lt_of_le (by first | assumption | (simp; done) | (simp; omega)) (h4).le; have : w1.heap.size < w4.heap.size := Nat.lt_of_lt_of_le (by first | assumption | (simp; done) | (simp; omega)) (h4).le)
            | ((go_at_call 6; (with_reducible refine (Field_calls A x 1 _).mono ?_); rintro e w5 ⟨rfl, h5⟩); rw [← HONE.out, HGE.out]; have := (h5).cells; have := (h5).frozens; have : w.heap.size < w5.heap.size := Nat.lt_of_lt_of_le (by first | assumption | (simp; done) | (simp; omega)) (h5).le; have : w.heap.size + 1 < w5.heap.size := Nat.lt_of_lt_of_le (by first | assumption | (simp; done) | (simp; omega)) (h5).le; have : w.heap.size + 2 < w5.heap.size := Nat.lt_of_lt_of_le (by first | assumption | (simp; done) | (simp; omega)) (h5).le; have : w1.heap.size < w5.heap.size := Nat.lt_of_lt_of_le (by first | assumption | (simp; done) | (simp; omega)) (h5).le; have : w4.heap.size < w5.heap.size := Nat.lt_of_lt_of_le (by first | assumption | (simp; done) | (simp; omega)) (h5).le)
            | ((go_at_call 12; (with_reducible refine (Has_calls A x _).mono ?_); rintro e w6 ⟨rfl, h6⟩); rw [← HBIT.out]; have := (h6).cells; have := (h6).frozens; have : w.heap.size < w6.heap.size := Nat.lt_of_lt_of_le (by first | assumption | (simp; done) | (simp; omega)) (h6).le; have : w.heap.size + 1 < w6.heap.size := Nat.lt_of_lt_of_le (by first | assumption | (simp; done) | (simp; omega)) (h6).le; have : w.heap.size + 2 < w6.heap.size := Nat.lt_of_lt_of_le (by first | assumption | (simp; done) | (simp; omega)) (h6).le; have : w1.heap.size < w6.heap.size := Nat.lt_of_lt_of_le (by first | assumption | (simp; done) | (simp; omega)) (h6).le; have : w4.heap.size < w6.heap.size := Nat.lt_of_lt_of_le (by first | assumption | (simp; done) | (simp; omega)) (h6).le)
            | ((go_at_call 8; (with_reducible refine (Put_calls A x2 y2 u hu _).mono ?_); rintro e w7 ⟨rfl, h7⟩); rw [← HB2.out, HE2.out]; have := (h7).cells; have := (h7).frozens; have : w.heap.size < w7.heap.size := Nat.lt_of_lt_of_le (by first | assumption | (simp; done) | (simp; omega)) (h7).le; have : w.heap.size + 1 < w7.heap.size := Nat.lt_of_lt_of_le (by first | assumption | (simp; done) | (simp; omega)) (h7).le; have : w.heap.size + 2 < w7.heap.size := Nat.lt_of_lt_of_le (by first | assumption | (simp; done) | (simp; omega)) (h7).le; have : w1.heap.size < w7.heap.size := Nat.lt_of_lt_of_le (by first | assumption | (simp; done) | (simp; omega)) (h7).le; have : w4.heap.size < w7.heap.size := Nat.lt_of_lt_of_le (by first | assumption | (simp; done) | (simp; omega)) (h7).le)
            | ((go_at_call 11; (with_reducible refine (live_calls _).mono ?_); rintro e w9 ⟨rfl, h9⟩))
            | (go_at_call 10; (with_reducible refine (num_calls _ _).mono ?_); rintro e w' ⟨rfl, hw⟩; obtain rfl := hw.symm))
          go_ret
          exact ⟨rfl, by (repeat (first | assumption | exact Ext.refl _ | apply Ext.alloc | apply Ext.drew | apply Ext.drewN | refine Ext.trans ?_ (by assumption)))⟩
      · obtain ⟨B, hB2⟩ : ∃ B, B = putS A x2.toNat y2.toNat u := ⟨_, rfl⟩
        have HB2 : Hid (B = putF A x2 y2 u) := by show _ = _; unfold putF; rw [if_pos h2, hB2]
        obtain ⟨C, hC⟩ : ∃ C, C = putS p x2.toNat y2.toNat u := ⟨_, rfl⟩
        have HC : Hid (putF p x2 y2 u = C) := by show _ = _; unfold putF; rw [if_pos h2, hC]
        have HD : Hid (putF C x y v = B) := by
          show _ = _; unfold putF; rw [if_pos h, hB2, hC, hA]; exact (put_comm p v u (by omega)).symm
        have hov' : x + y ≤ x2 ∨ x2 + y2 ≤ x := by omega
        clear h hok hok1 hok2 hul hA hws hB hB2 hC h2 hov
        cases bit
        all_goals
          rcases hov' with hov | hov
          all_goals
            go_enter Try.func4, Try.ntmps4
            go_wp2_with (first
            | ((go_at_call 8; (with_reducible refine (Put_calls p x y v hv _).mono ?_); rintro e w1 ⟨rfl, h1⟩); rw [HA.out, HE.out]; have := (h1).cells; have := (h1).frozens; have : w.heap.size < w1.heap.size := Nat.lt_of_lt_of_le (by first | assumption | (simp; done) | (simp; omega)) (h1).le; have : w.heap.size + 1 < w1.heap.size := Nat.lt_of_lt_of_le (by first | assumption | (simp; done) | (simp; omega)) (h1).le; have : w.heap.size + 2 < w1.heap.size := Nat.lt_of_lt_of_le (by first | assumption | (simp; done) | (simp; omega)) (h1).le)
            | ((go_at_call 6; (with_reducible refine (Field_calls A x y _).mono ?_); rintro e w2 ⟨rfl, h2⟩); rw [HF1.out, HFE.out]; have := (h2).cells; have := (h2).frozens; have : w.heap.size < w2.heap.size := Nat.lt_of_lt_of_le (by first | assumption | (simp; done) | (simp; omega)) (h2).le; have : w.heap.size + 1 < w2.heap.size := Nat.lt_of_lt_of_le (by first | assumption | (simp; done) | (simp; omega)) (h2).le; have : w.heap.size + 2 < w2.heap.size := Nat.lt_of_lt_of_le (by first | assumption | (simp; done) | (simp; omega)) (h2).le; have : w1.heap.size < w2.heap.size := Nat.lt_of_lt_of_le (by first | assumption | (simp; done) | (simp; omega)) (h2).le)
            | ((go_at_call 6; (with_reducible refine (Field_calls p x y _).mono ?_); rintro e w3 ⟨rfl, h3⟩); rw [HF2.out, HFE.out]; have := (h3).cells; have := (h3).frozens; have : w.heap.size < w3.heap.size := Nat.lt_of_lt_of_le (by first | assumption | (simp; done) | (simp; omega)) (h3).le; have : w.heap.size + 1 < w3.heap.size := Nat.lt_of_lt_of_le (by first | assumption | (simp; done) | (simp; omega)) (h3).le; have : w.heap.size + 2 < w3.heap.size := Nat.lt_of_lt_of_le (by first | assumption | (simp; done) | (simp; omega)) (h3).le; have : w1.heap.size < w3.heap.size := Nat.lt_of_lt_of_le (by first | assumption | (simp; done) | (simp; omega)) (h3).le)
            | ((go_at_call 8; (with_reducible refine (Put_calls A x y ws hw64 _).mono ?_); rintro e w4 ⟨rfl, h4⟩); rw [HB.out, HBE.out]; have := (h4).cells; have := (h4).frozens; have : w.heap.size < w4.heap.size := Nat.lt_of_lt_of_le (by first | assumption | (simp; done) | (simp; omega)) (h4).le; have : w.heap.size + 1 < w4.heap.size := Nat.lt_of_lt_of_le (by first | assumption | (simp; done) | (simp; omega)) (h4).le; have : w.heap.size + 2 < w4.heap.size := Nat.lt_of_lt_of_le (by first | assumption | (simp; done) | (simp; omega)) (h4).le; have : w1.heap.size < w4.heap.size := Nat.lt_of_lt_of_le (by first | assumption | (simp; done) | (simp; omega)) (h4).le)
            | ((go_at_call 6; (with_reducible refine (Field_calls A x 1 _).mono ?_); rintro e w5 ⟨rfl, h5⟩); rw [← HONE.out, HGE.out]; have := (h5).cells; have := (h5).frozens; have : w.heap.size < w5.heap.size := Nat.lt_of_lt_of_le (by first | assumption | (simp; done) | (simp; omega)) (h5).le; have : w.heap.size + 1 < w5.heap.size := Nat.lt_of_lt_of_le (by first | assumption | (simp; done) | (simp; omega)) (h5).le; have : w.heap.size + 2 < w5.heap.size := Nat.lt_of_lt_of_le (by first | assumption | (simp; done) | (simp; omega)) (h5).le; have : w1.heap.size < w5.heap.size := Nat.lt_of_lt_of_le (by first | assumption | (simp; done) | (simp; omega)) (h5).le; have : w4.heap.size < w5.heap.size := Nat.lt_of_lt_of_le (by first | assumption | (simp; done) | (simp; omega)) (h5).le)
            | ((go_at_call 12; (with_reducible refine (Has_calls A x _).mono ?_); rintro e w6 ⟨rfl, h6⟩); rw [← HBIT.out]; have := (h6).cells; have := (h6).frozens; have : w.heap.size < w6.heap.size := Nat.lt_of_lt_of_le (by first | assumption | (simp; done) | (simp; omega)) (h6).le; have : w.heap.size + 1 < w6.heap.size := Nat.lt_of_lt_of_le (by first | assumption | (simp; done) | (simp; omega)) (h6).le; have : w.heap.size + 2 < w6.heap.size := Nat.lt_of_lt_of_le (by first | assumption | (simp; done) | (simp; omega)) (h6).le; have : w1.heap.size < w6.heap.size := Nat.lt_of_lt_of_le (by first | assumption | (simp; done) | (simp; omega)) (h6).le; have : w4.heap.size < w6.heap.size := Nat.lt_of_lt_of_le (by first | assumption | (simp; done) | (simp; omega)) (h6).le)
            | ((go_at_call 8; (with_reducible refine (Put_calls A x2 y2 u hu _).mono ?_); rintro e w7 ⟨rfl, h7⟩); rw [← HB2.out, HE2.out]; have := (h7).cells; have := (h7).frozens; have : w.heap.size < w7.heap.size := Nat.lt_of_lt_of_le (by first | assumption | (simp; done) | (simp; omega)) (h7).le; have : w.heap.size + 1 < w7.heap.size := Nat.lt_of_lt_of_le (by first | assumption | (simp; done) | (simp; omega)) (h7).le; have : w.heap.size + 2 < w7.heap.size := Nat.lt_of_lt_of_le (by first | assumption | (simp; done) | (simp; omega)) (h7).le; have : w1.heap.size < w7.heap.size := Nat.lt_of_lt_of_le (by first | assumption | (simp; done) | (simp; omega)) (h7).le; have : w4.heap.size < w7.heap.size := Nat.lt_of_lt_of_le (by first | assumption | (simp; done) | (simp; omega)) (h7).le)
            | ((go_at_call 8; (with_reducible refine (Put_calls p x2 y2 u hu _).mono ?_); rintro e w8 ⟨rfl, h8⟩); rw [HC.out, HE2.out]; have := (h8).cells; have := (h8).frozens; have : w.heap.size < w8.heap.size := Nat.lt_of_lt_of_le (by first | assumption | (simp; done) | (simp; omega)) (h8).le; have : w.heap.size + 1 < w8.heap.size := Nat.lt_of_lt_of_le (by first | assumption | (simp; done) | (simp; omega)) (h8).le; have : w.heap.size + 2 < w8.heap.size := Nat.lt_of_lt_of_le (by first | assumption | (simp; done) | (simp; omega)) (h8).le; have : w1.heap.size < w8.heap.size := Nat.lt_of_lt_of_le (by first | assumption | (simp; done) | (simp; omega)) (h8).le; have : w7.heap.size < w8.heap.size := Nat.lt_of_lt_of_le (by first | assumption | (simp; done) | (simp; omega)) (h8).le)
            | ((go_at_call 8; (with_reducible refine (Put_calls C x y v hv _).mono ?_); rintro e w10 ⟨rfl, h10⟩); rw [HD.out, HE.out]; have := (h10).cells; have := (h10).frozens; have : w.heap.size < w10.heap.size := Nat.lt_of_lt_of_le (by first | assumption | (simp; done) | (simp; omega)) (h10).le; have : w.heap.size + 1 < w10.heap.size := Nat.lt_of_lt_of_le (by first | assumption | (simp; done) | (simp; omega)) (h10).le; have : w.heap.size + 2 < w10.heap.size := Nat.lt_of_lt_of_le (by first | assumption | (simp; done) | (simp; omega)) (h10).le; have : w1.heap.size < w10.heap.size := Nat.lt_of_lt_of_le (by first | assumption | (simp; done) | (simp; omega)) (h10).le; have : w7.heap.size < w10.heap.size := Nat.lt_of_lt_of_le (by first | assumption | (simp; done) | (simp; omega)) (h10).le; have : w8.heap.size < w10.heap.size := Nat.lt_of_lt_of_le (by first | assumption | (simp; done) | (simp; omega)) (h10).le)
            | ((go_at_call 11; (with_reducible refine (live_calls _).mono ?_); rintro e w9 ⟨rfl, h9⟩))
            | (go_at_call 10; (with_reducible refine (num_calls _ _).mono ?_); rintro e w' ⟨rfl, hw⟩; obtain rfl := hw.symm))
            go_ret
            exact ⟨rfl, by (repeat (first | assumption | exact Ext.refl _ | apply Ext.alloc | apply Ext.drew | apply Ext.drewN | refine Ext.trans ?_ (by assumption)))⟩
    · obtain ⟨B, hB2⟩ : ∃ B, B = putF A x2 y2 u := ⟨_, rfl⟩
      have HB2 := Lib.hid hB2
      have hne : (putE x2 y2 u != 0) = true := bne_iff_ne.2 h2
      obtain ⟨e2, he2⟩ : ∃ e2, e2 = putE x2 y2 u := ⟨_, rfl⟩
      rw [← he2] at hne
      have HE2 := Lib.hid he2
      clear h hok hok1 hA hws hB hB2 h2 he2
      cases bit
      all_goals
        go_enter Try.func4, Try.ntmps4
        go_wp2_with (first
            | ((go_at_call 8; (with_reducible refine (Put_calls p x y v hv _).mono ?_); rintro e w1 ⟨rfl, h1⟩); rw [HA.out, HE.out]; have := (h1).cells; have := (h1).frozens; have : w.heap.size < w1.heap.size := Nat.lt_of_lt_of_le (by first | assumption | (simp; done) | (simp; omega)) (h1).le; have : w.heap.size + 1 < w1.heap.size := Nat.lt_of_lt_of_le (by first | assumption | (simp; done) | (simp; omega)) (h1).le; have : w.heap.size + 2 < w1.heap.size := Nat.lt_of_lt_of_le (by first | assumption | (simp; done) | (simp; omega)) (h1).le)
            | ((go_at_call 6; (with_reducible refine (Field_calls A x y _).mono ?_); rintro e w2 ⟨rfl, h2⟩); rw [HF1.out, HFE.out]; have := (h2).cells; have := (h2).frozens; have : w.heap.size < w2.heap.size := Nat.lt_of_lt_of_le (by first | assumption | (simp; done) | (simp; omega)) (h2).le; have : w.heap.size + 1 < w2.heap.size := Nat.lt_of_lt_of_le (by first | assumption | (simp; done) | (simp; omega)) (h2).le; have : w.heap.size + 2 < w2.heap.size := Nat.lt_of_lt_of_le (by first | assumption | (simp; done) | (simp; omega)) (h2).le; have : w1.heap.size < w2.heap.size := Nat.lt_of_lt_of_le (by first | assumption | (simp; done) | (simp; omega)) (h2).le)
            | ((go_at_call 6; (with_reducible refine (Field_calls p x y _).mono ?_); rintro e w3 ⟨rfl, h3⟩); rw [HF2.out, HFE.out]; have := (h3).cells; have := (h3).frozens; have : w.heap.size < w3.heap.size := Nat.lt_of_lt_of_le (by first | assumption | (simp; done) | (simp; omega)) (h3).le; have : w.heap.size + 1 < w3.heap.size := Nat.lt_of_lt_of_le (by first | assumption | (simp; done) | (simp; omega)) (h3).le; have : w.heap.size + 2 < w3.heap.size := Nat.lt_of_lt_of_le (by first | assumption | (simp; done) | (simp; omega)) (h3).le; have : w1.heap.size < w3.heap.size := Nat.lt_of_lt_of_le (by first | assumption | (simp; done) | (simp; omega)) (h3).le)
            | ((go_at_call 8; (with_reducible refine (Put_calls A x y ws hw64 _).mono ?_); rintro e w4 ⟨rfl, h4⟩); rw [HB.out, HBE.out]; have := (h4).cells; have := (h4).frozens; have : w.heap.size < w4.heap.size := Nat.lt_of_lt_of_le (by first | assumption | (simp; done) | (simp; omega)) (h4).le; have : w.heap.size + 1 < w4.heap.size := Nat.lt_of_lt_of_le (by first | assumption | (simp; done) | (simp; omega)) (h4).le; have : w.heap.size + 2 < w4.heap.size := Nat.lt_of_lt_of_le (by first | assumption | (simp; done) | (simp; omega)) (h4).le; have : w1.heap.size < w4.heap.size := Nat.lt_of_lt_of_le (by first | assumption | (simp; done) | (simp; omega)) (h4).le)
            | ((go_at_call 6; (with_reducible refine (Field_calls A x 1 _).mono ?_); rintro e w5 ⟨rfl, h5⟩); rw [← HONE.out, HGE.out]; have := (h5).cells; have := (h5).frozens; have : w.heap.size < w5.heap.size := Nat.lt_of_lt_of_le (by first | assumption | (simp; done) | (simp; omega)) (h5).le; have : w.heap.size + 1 < w5.heap.size := Nat.lt_of_lt_of_le (by first | assumption | (simp; done) | (simp; omega)) (h5).le; have : w.heap.size + 2 < w5.heap.size := Nat.lt_of_lt_of_le (by first | assumption | (simp; done) | (simp; omega)) (h5).le; have : w1.heap.size < w5.heap.size := Nat.lt_of_lt_of_le (by first | assumption | (simp; done) | (simp; omega)) (h5).le; have : w4.heap.size < w5.heap.size := Nat.lt_of_lt_of_le (by first | assumption | (simp; done) | (simp; omega)) (h5).le)
            | ((go_at_call 12; (with_reducible refine (Has_calls A x _).mono ?_); rintro e w6 ⟨rfl, h6⟩); rw [← HBIT.out]; have := (h6).cells; have := (h6).frozens; have : w.heap.size < w6.heap.size := Nat.lt_of_lt_of_le (by first | assumption | (simp; done) | (simp; omega)) (h6).le; have : w.heap.size + 1 < w6.heap.size := Nat.lt_of_lt_of_le (by first | assumption | (simp; done) | (simp; omega)) (h6).le; have : w.heap.size + 2 < w6.heap.size := Nat.lt_of_lt_of_le (by first | assumption | (simp; done) | (simp; omega)) (h6).le; have : w1.heap.size < w6.heap.size := Nat.lt_of_lt_of_le (by first | assumption | (simp; done) | (simp; omega)) (h6).le; have : w4.heap.size < w6.heap.size := Nat.lt_of_lt_of_le (by first | assumption | (simp; done) | (simp; omega)) (h6).le)
            | ((go_at_call 8; (with_reducible refine (Put_calls A x2 y2 u hu _).mono ?_); rintro e w7 ⟨rfl, h7⟩); rw [← HB2.out, ← HE2.out]; have := (h7).cells; have := (h7).frozens; have : w.heap.size < w7.heap.size := Nat.lt_of_lt_of_le (by first | assumption | (simp; done) | (simp; omega)) (h7).le; have : w.heap.size + 1 < w7.heap.size := Nat.lt_of_lt_of_le (by first | assumption | (simp; done) | (simp; omega)) (h7).le; have : w.heap.size + 2 < w7.heap.size := Nat.lt_of_lt_of_le (by first | assumption | (simp; done) | (simp; omega)) (h7).le; have : w1.heap.size < w7.heap.size := Nat.lt_of_lt_of_le (by first | assumption | (simp; done) | (simp; omega)) (h7).le; have : w4.heap.size < w7.heap.size := Nat.lt_of_lt_of_le (by first | assumption | (simp; done) | (simp; omega)) (h7).le)
            | ((go_at_call 11; (with_reducible refine (live_calls _).mono ?_); rintro e w9 ⟨rfl, h9⟩))
            | (go_at_call 10; (with_reducible refine (num_calls _ _).mono ?_); rintro e w' ⟨rfl, hw⟩; obtain rfl := hw.symm))
        go_ret
        exact ⟨rfl, by (repeat (first | assumption | exact Ext.refl _ | apply Ext.alloc | apply Ext.drew | apply Ext.drewN | refine Ext.trans ?_ (by assumption)))⟩
  · obtain ⟨e1, he1⟩ : ∃ e1, e1 = putE x y v := ⟨_, rfl⟩
    have hne : (e1 != 0) = true := by rw [he1]; exact bne_iff_ne.2 h
    have HA : Hid (putF p x y v = fun _ => false) := by show _ = _; unfold putF; rw [if_neg h]
    have HE := Lib.hid he1
    clear h he1
    go_enter Try.func4, Try.ntmps4
    go_wp2_with (first
      | ((go_at_call 8; (with_reducible refine (Put_calls p x y v hv _).mono ?_); rintro e w1 ⟨rfl, h1⟩); rw [HA.out, ← HE.out]; simp only [wd_none]; have := (h1).cells; have := (h1).frozens; have : w.heap.size < w1.heap.size := Nat.lt_of_lt_of_le (by first | assumption | (simp; done) | (simp; omega)) (h1).le; have : w.heap.size + 1 < w1.heap.size := Nat.lt_of_lt_of_le (by first | assumption | (simp; done) | (simp; omega)) (h1).le; have : w.heap.size + 2 < w1.heap.size := Nat.lt_of_lt_of_le (by first | assumption | (simp; done) | (simp; omega)) (h1).le)
      | ((go_at_call 11; (with_reducible refine (live_calls _).mono ?_); rintro e w9 ⟨rfl, h9⟩))
      | (go_at_call 10; (with_reducible refine (num_calls _ _).mono ?_); rintro e w' ⟨rfl, hw⟩; obtain rfl := hw.symm))
    go_ret
    exact ⟨rfl, by (repeat (first | assumption | exact Ext.refl _ | apply Ext.alloc | apply Ext.drew | apply Ext.drewN | refine Ext.trans ?_ (by assumption)))⟩
end Go.Proofs.Ytbmnjnmpjpdcmaa
