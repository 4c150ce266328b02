/- Walks of package bits: Field. Conditions: none. -/
import Derived.Test.YtbmnjnmpjpdcmaaDoorBitsC
import Derived.Test.YtbmnjnmpjpdcmaaDoorFieldM
namespace Go.Proofs.YtbmnjnmpjpdcmaaDoor
open Go.RowKit Go.Eg

def fieldF (p : Nat → Bool) (x y : Int) : Nat := if fieldOk x y then fieldV p x.toNat y.toNat else 0
def fieldE (x y : Int) : Int := if fieldOk x y then 0 else 1
theorem cast_shr (n k : Nat) : ((n : Nat) : Int) / 2 ^ k = ((n / 2 ^ k : Nat) : Int) := by simp
theorem cast_mask {y : Int} (h1 : 1 ≤ y) (h2 : y ≤ 64) : (18446744073709551615 : Int) / 2 ^ (64 - y).toNat = ((2 ^ y.toNat - 1 : Nat) : Int) := by
  have e := cast_shr 18446744073709551615 (64 - y).toNat
  rw [show (64 - y).toNat = 64 - y.toNat by omega, mask_eq (by omega) (by omega)] at e
  rw [show (64 - y).toNat = 64 - y.toNat by omega]
  exact e
theorem mask_lt {n : Nat} (h : n ≤ 64) : 2 ^ n - 1 < 18446744073709551616 := by
  have := Nat.pow_le_pow_right (n := 2) (by omega) h
  omega
theorem fld1 (p : Nat → Bool) {x y : Int} (h0 : 0 ≤ x) (h1 : 1 ≤ y) (h2 : y ≤ 64) (hc : x % 64 + y ≤ 64) : bits .and .u64 (((wd p (x / 64).toNat : Nat) : Int) / 2 ^ (x % 64).toNat) (18446744073709551615 / 2 ^ (64 - y).toNat) = ((fieldV p x.toNat y.toNat : Nat) : Int) := by
  rw [cast_shr, cast_mask h1 h2, u64_and_nat _ _ (Nat.lt_of_le_of_lt (Nat.div_le_self _ _) (wd_lt' _ _)) (mask_lt (by omega)), field_one p _ _ _ (by omega), show 64 * (x / 64).toNat + (x % 64).toNat = x.toNat by omega]
theorem cast_shl (m k : Nat) : IntKind.u64.wrap ((m : Int) * 2 ^ k) = ((m * 2 ^ k % 2 ^ 64 : Nat) : Int) := by
  rw [IntKind.wrap_u64]
  simp
theorem fld2 (p : Nat → Bool) {x y : Int} (h0 : 0 ≤ x) (h1 : 1 ≤ y) (h2 : y ≤ 64) (hc : 64 < x % 64 + y) : bits .and .u64 (bits .or .u64 (((wd p (x / 64).toNat : Nat) : Int) / 2 ^ (x % 64).toNat) (IntKind.u64.wrap (((wd p (x / 64 + 1).toNat : Nat) : Int) * 2 ^ (64 - x % 64).toNat))) (18446744073709551615 / 2 ^ (64 - y).toNat) = ((fieldV p x.toNat y.toNat : Nat) : Int) := by
  have l1 := Nat.lt_of_le_of_lt (Nat.div_le_self (wd p (x / 64).toNat) (2 ^ (x % 64).toNat)) (wd_lt' _ _)
  have l2 : wd p (x / 64 + 1).toNat * 2 ^ (64 - x % 64).toNat % 2 ^ 64 < 18446744073709551616 := Nat.mod_lt _ (by decide)
  rw [cast_shr, cast_shl, u64_or_nat _ _ l1 l2, cast_mask h1 h2, u64_and_nat _ _ (Nat.or_lt_two_pow (n := 64) l1 l2) (mask_lt (by omega)), show (x / 64 + 1).toNat = (x / 64).toNat + 1 by omega, show (64 - x % 64).toNat = 64 - (x % 64).toNat by omega,
    field_two p _ _ _ (by omega) (by omega) (by omega), show 64 * (x / 64).toNat + (x % 64).toNat = x.toNat by omega]
set_option maxHeartbeats 1000000 in
theorem Field_calls (p : Nat → Bool) (x y : Int) (w : World) : Calls Tryd.prog 41 #[Value.agg #[.int .u64 (wd (p) 0 : Nat), .int .u64 (wd (p) 1 : Nat), .int .u64 (wd (p) 2 : Nat), .int .u64 (wd (p) 3 : Nat), .int .u64 (wd (p) 4 : Nat), .int .u64 (wd (p) 5 : Nat), .int .u64 (wd (p) 6 : Nat), .int .u64 (wd (p) 7 : Nat)], .int .i64 x, .int .i64 y] w fun e w' => e = .returned (.tuple #[.int .u64 (fieldF p x y : Nat), .int .i64 (fieldE x y)]) ∧ Ext w w' := by
  by_cases h : fieldOk x y = true
  · have HK := Lib.hid h
    have HF : Hid (fieldF p x y = fieldV p x.toNat y.toNat) := if_pos h
    have HE : Hid (fieldE x y = 0) := if_pos h
    simp only [fieldOk, Bool.and_eq_true, decide_eq_true_eq] at h
    obtain ⟨⟨⟨h1, h2⟩, h3⟩, h4⟩ := h
    have harr := set_at p (x / 64).toNat (by omega)
    by_cases hc : 64 < x % 64 + y
    · have HV := Lib.hid (fld2 p h3 h1 h2 hc)
      have harr2 := set_at p (x / 64 + 1).toNat (by omega)
      go_enter Tryd.func41, Tryd.ntmps41
      go_wp2_with ((go_at_call 51; (with_reducible refine (field_calls _ _ _).mono ?_); rintro e w' ⟨rfl, hw⟩; obtain rfl := hw.symm); rw [HK.out])
      go_ret2
      refine ⟨?_, by (repeat (first | assumption | exact Ext.refl _ | apply Ext.alloc | apply Ext.drew | apply Ext.drewN | refine Ext.trans ?_ (by assumption)))⟩
      rw [HF.out, HE.out, ← HV.out]
      rfl
    · have HV := Lib.hid (fld1 p h3 h1 h2 (by omega))
      go_enter Tryd.func41, Tryd.ntmps41
      go_wp2_with ((go_at_call 51; (with_reducible refine (field_calls _ _ _).mono ?_); rintro e w' ⟨rfl, hw⟩; obtain rfl := hw.symm); rw [HK.out])
      go_ret2
      refine ⟨?_, by (repeat (first | assumption | exact Ext.refl _ | apply Ext.alloc | apply Ext.drew | apply Ext.drewN | refine Ext.trans ?_ (by assumption)))⟩
      rw [HF.out, HE.out, ← HV.out]
      rfl
  · have HK : Hid (fieldOk x y = false) := by show _ = _; simpa using h
    have HF : Hid (fieldF p x y = 0) := if_neg h
    have HE : Hid (fieldE x y = 1) := if_neg h
    clear h
    go_enter Tryd.func41, Tryd.ntmps41
    go_wp2_with ((go_at_call 51; (with_reducible refine (field_calls _ _ _).mono ?_); rintro e w' ⟨rfl, hw⟩; obtain rfl := hw.symm); rw [HK.out])
    go_ret2
    exact ⟨by rw [HF.out, HE.out]; rfl, by (repeat (first | assumption | exact Ext.refl _ | apply Ext.alloc | apply Ext.drew | apply Ext.drewN | refine Ext.trans ?_ (by assumption)))⟩
end Go.Proofs.YtbmnjnmpjpdcmaaDoor
