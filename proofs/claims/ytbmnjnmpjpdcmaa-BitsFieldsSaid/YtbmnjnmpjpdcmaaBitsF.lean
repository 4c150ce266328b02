/- Walks of the reference of chapter 2: Field. Conditions: none. -/
import Derived.Test.YtbmnjnmpjpdcmaaBitsE
namespace Go.Proofs.Ytbmnjnmpjpdcmaa
open Go.RowKit Go.Eg

set_option maxHeartbeats 1000000 in
set_option maxRecDepth 100000 in
theorem rField_calls (p : Nat → Bool) (x y : Int) (w : World) : Calls Try.prog 7 #[Value.agg #[.int .u64 (wd (p) 0 : Nat), .int .u64 (wd (p) 1 : Nat), .int .u64 (wd (p) 2 : Nat), .int .u64 (wd (p) 3 : Nat), .int .u64 (wd (p) 4 : Nat), .int .u64 (wd (p) 5 : Nat), .int .u64 (wd (p) 6 : Nat), .int .u64 (wd (p) 7 : Nat)], .int .i64 x, .int .i64 y] w fun e w' => e = .returned (.tuple #[.int .u64 (fieldF p x y : Nat), .int .i64 (fieldE x y)]) ∧ Ext w w' := by
  by_cases h : fieldOk x y = true
  · have HF : Hid (fieldF p x y = fieldV p x.toNat y.toNat) := if_pos h
    have HE : Hid (fieldE x y = 0) := if_pos h
    simp only [fieldOk, Bool.and_eq_true, decide_eq_true_eq] at h
    obtain ⟨⟨⟨h1, h2⟩, h3⟩, h4⟩ := h
    have b1 : decide (y < 1) = false := by simp; omega
    have b2 : decide (64 < y) = false := by simp; omega
    have b3 : decide (x < 0) = false := by simp; omega
    have b4 : decide (512 - y < x) = false := by simp; omega
    go_enter Try.func7, Try.ntmps7
    go_wp2_with fail
    go_loopw [8, 9] (fun v8 v9 wr => ∃ (n v : Nat), n ≤ y.toNat ∧ v9 = .int .i64 (y - 1 - n) ∧ v8 = .int .u64 (v : Nat) ∧ v < 2 ^ 64 ∧ Hid (v = ofB (fun k => p ((x + y).toNat - n + k)) n) ∧ Ext w wr ∧ Hid (∀ o, wr.cell? ⟨w.heap.size, o, none⟩ = (w.alloc (.cells #[Value.int .u64 (wd (p) 0 : Nat), .int .u64 (wd (p) 1 : Nat), .int .u64 (wd (p) 2 : Nat), .int .u64 (wd (p) 3 : Nat), .int .u64 (wd (p) 4 : Nat), .int .u64 (wd (p) 5 : Nat), .int .u64 (wd (p) 6 : Nat), .int .u64 (wd (p) 7 : Nat)] 24)).cell? ⟨w.heap.size, o, none⟩) ∧ w.heap.size < wr.heap.size) (fun _ v9 _ => (intOf v9 + 1).toNat)
    case atStart => exact ⟨0, 0, by omega, val_int (by omega), rfl, by decide, rfl, by (repeat (first | assumption | exact Ext.refl _ | apply Ext.alloc | apply Ext.drew | apply Ext.drewN | refine Ext.trans ?_ (by assumption))), Lib.hid (fun o => rfl), by simp⟩
    case round =>
      obtain ⟨n, v, hn, rfl, rfl, hv, HV, he, HC, hbw⟩ := hrel
      by_cases hlt : n < y.toNat
      · have d0 : wr.cell? ⟨w.heap.size, 0, none⟩ = some (.int .u64 (wd p 0 : Nat)) := (HC.out 0).trans (by simp)
        have d1 : wr.cell? ⟨w.heap.size, 1, none⟩ = some (.int .u64 (wd p 1 : Nat)) := (HC.out 1).trans (by simp)
        have d2 : wr.cell? ⟨w.heap.size, 2, none⟩ = some (.int .u64 (wd p 2 : Nat)) := (HC.out 2).trans (by simp)
        have d3 : wr.cell? ⟨w.heap.size, 3, none⟩ = some (.int .u64 (wd p 3 : Nat)) := (HC.out 3).trans (by simp)
        have d4 : wr.cell? ⟨w.heap.size, 4, none⟩ = some (.int .u64 (wd p 4 : Nat)) := (HC.out 4).trans (by simp)
        have d5 : wr.cell? ⟨w.heap.size, 5, none⟩ = some (.int .u64 (wd p 5 : Nat)) := (HC.out 5).trans (by simp)
        have d6 : wr.cell? ⟨w.heap.size, 6, none⟩ = some (.int .u64 (wd p 6 : Nat)) := (HC.out 6).trans (by simp)
        have d7 : wr.cell? ⟨w.heap.size, 7, none⟩ = some (.int .u64 (wd p 7 : Nat)) := (HC.out 7).trans (by simp)
        have hv2 : v < 2 ^ n := by rw [HV.out]; exact ofB_lt _ _
        have hv3 : v < 9223372036854775808 := Nat.lt_of_lt_of_le hv2 (Nat.pow_le_pow_right (n := 2) (by omega) (show n ≤ 63 by omega))
        have hw1 : IntKind.u64.wrap (2 * (v : Int)) = 2 * v := by rw [IntKind.wrap_u64]; omega
        have hw2 : IntKind.u64.wrap (2 * (v : Int) + 1) = 2 * v + 1 := by rw [IntKind.wrap_u64]; omega
        have HQ : Hid (ofB (fun k => p ((x + y).toNat - (n + 1) + k)) (n + 1) = 2 * v + if inSet p (x + (y - 1 - n)) then 1 else 0) := by
          show _ = _
          have e1 : inSet p (x + (y - 1 - n)) = p ((x + y).toNat - (n + 1) + 0) := by
            unfold inSet
            rw [show (x + (y - 1 - (n : Int))).toNat = (x + y).toNat - (n + 1) + 0 by omega, decide_eq_true (by omega), decide_eq_true (by omega)]
            rfl
          have e2 : (fun k => p ((x + y).toNat - (n + 1) + (k + 1))) = fun k => p ((x + y).toNat - n + k) := by
            funext k
            rw [show (x + y).toNat - (n + 1) + (k + 1) = (x + y).toNat - n + k by omega]
          rw [ofB_cons, e1, e2, ← HV.out]
        have hj : (0 : Int) ≤ y - 1 - n := by omega
        clear hv2
        cases hbit : inSet p (x + (y - 1 - n)) with
        | true =>
          have HB := Lib.hid hbit
          clear hbit
          go_wp2_with ((go_at_call 26; (with_reducible refine (rHas_calls p _ _).mono ?_); rintro e w1 ⟨rfl, h1⟩); rw [HB.out]; have h1c := h1.cells)
          go_roundw
          case rel => exact ⟨n + 1, 2 * v + 1, by omega, val_int (by omega), val_int (by omega), by omega, by show _ = _; rw [HQ.out, HB.out]; rfl, by (repeat (first | assumption | exact Ext.refl _ | apply Ext.alloc | apply Ext.drew | apply Ext.drewN | refine Ext.trans ?_ (by assumption))), Lib.hid (fun o => (h1.cells _ o hbw).trans (HC.out o)), Nat.lt_of_lt_of_le hbw h1.le⟩
          case measure => simp [intOf]; omega
        | false =>
          have HB := Lib.hid hbit
          clear hbit
          go_wp2_with ((go_at_call 26; (with_reducible refine (rHas_calls p _ _).mono ?_); rintro e w1 ⟨rfl, h1⟩); rw [HB.out]; have h1c := h1.cells)
          go_roundw
          case rel => exact ⟨n + 1, 2 * v, by omega, val_int (by omega), val_int (by omega), by omega, by show _ = _; rw [HQ.out, HB.out]; rfl, by (repeat (first | assumption | exact Ext.refl _ | apply Ext.alloc | apply Ext.drew | apply Ext.drewN | refine Ext.trans ?_ (by assumption))), Lib.hid (fun o => (h1.cells _ o hbw).trans (HC.out o)), Nat.lt_of_lt_of_le hbw h1.le⟩
          case measure => simp [intOf]; omega
      · have hn' : n = y.toNat := by omega
        subst hn'
        have HV' : Hid (v = fieldV p x.toNat y.toNat) := by
          show _ = _
          rw [HV.out, show (x + y).toNat - y.toNat = x.toNat by omega]; rfl
        go_wp2_with fail
        go_ret2
        exact ⟨by rw [HF.out, HE.out, ← HV'.out]; rfl, by (repeat (first | assumption | exact Ext.refl _ | apply Ext.alloc | apply Ext.drew | apply Ext.drewN | refine Ext.trans ?_ (by assumption)))⟩
  · have HF : Hid (fieldF p x y = 0) := if_neg h
    have HE : Hid (fieldE x y = 1) := if_neg h
    by_cases h1 : y < 1
    · clear h
      go_enter Try.func7, Try.ntmps7
      go_wp2_with fail
      go_ret2
      exact ⟨by rw [HF.out, HE.out]; rfl, by (repeat (first | assumption | exact Ext.refl _ | apply Ext.alloc | apply Ext.drew | apply Ext.drewN | refine Ext.trans ?_ (by assumption)))⟩
    have b1 : decide (y < 1) = false := by simpa using h1
    by_cases h2 : 64 < y
    · clear h h1
      go_enter Try.func7, Try.ntmps7
      go_wp2_with fail
      go_ret2
      exact ⟨by rw [HF.out, HE.out]; rfl, by (repeat (first | assumption | exact Ext.refl _ | apply Ext.alloc | apply Ext.drew | apply Ext.drewN | refine Ext.trans ?_ (by assumption)))⟩
    have b2 : decide (64 < y) = false := by simpa using h2
    by_cases h3 : x < 0
    · clear h
      go_enter Try.func7, Try.ntmps7
      go_wp2_with fail
      go_ret2
      exact ⟨by rw [HF.out, HE.out]; rfl, by (repeat (first | assumption | exact Ext.refl _ | apply Ext.alloc | apply Ext.drew | apply Ext.drewN | refine Ext.trans ?_ (by assumption)))⟩
    have b3 : decide (x < 0) = false := by simpa using h3
    by_cases h4 : 512 - y < x
    · clear h
      go_enter Try.func7, Try.ntmps7
      go_wp2_with fail
      go_ret2
      exact ⟨by rw [HF.out, HE.out]; rfl, by (repeat (first | assumption | exact Ext.refl _ | apply Ext.alloc | apply Ext.drew | apply Ext.drewN | refine Ext.trans ?_ (by assumption)))⟩
    exact absurd (by simp [fieldOk]; omega) h
end Go.Proofs.Ytbmnjnmpjpdcmaa
