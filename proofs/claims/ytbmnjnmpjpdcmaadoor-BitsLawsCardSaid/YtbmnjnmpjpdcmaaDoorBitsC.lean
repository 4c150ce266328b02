/- Walks of package bits: fits, Has, field. Conditions: none. -/
import Derived.Test.YtbmnjnmpjpdcmaaDoorBitsB
namespace Go.Proofs.YtbmnjnmpjpdcmaaDoor
open Go.RowKit Go.Eg

set_option maxHeartbeats 1000000 in
theorem fits_calls (x : Int) (w : World) : Calls Tryd.prog 40 #[.int .i64 x] w fun e w' => e = .returned (.bool (inR x)) ∧ w' = w := by
  by_cases h0 : 0 ≤ x
  · have HI : Hid (decide (x < 512) = inR x) := by show _ = _; simp [inR, h0]
    go_enter Tryd.func40, Tryd.ntmps40
    go_wp2_with fail
    go_ret
    exact ⟨ret_bool HI.out, rfl⟩
  · have HI : Hid (false = inR x) := by show _ = _; simp [inR, h0]
    have h0' : decide (0 ≤ x) = false := by simpa using h0
    go_enter Tryd.func40, Tryd.ntmps40
    go_wp2_with fail
    go_ret
    exact ⟨ret_bool HI.out, rfl⟩

def fieldOk (at_ width : Int) : Bool := decide (1 ≤ width) && decide (width ≤ 64) && decide (0 ≤ at_) && decide (at_ ≤ 512 - width)
set_option maxHeartbeats 1000000 in
theorem field_calls (x y : Int) (w : World) : Calls Tryd.prog 51 #[.int .i64 x, .int .i64 y] w fun e w' => e = .returned (.bool (fieldOk x y)) ∧ w' = w := by
  have HF : Hid (fieldOk x y = (decide (1 ≤ y) && decide (y ≤ 64) && decide (0 ≤ x) && decide (x ≤ 512 - y))) := rfl
  go_enter Tryd.func51, Tryd.ntmps51
  go_wp2_with fail
  all_goals
    go_ret
    refine ⟨ret_bool ?_, rfl⟩
    rw [HF.out]
    clear HF
    first
      | (simp_all; done)
      | (simp_all; omega)
      | (symm; simp; omega)
theorem test_ne (p : Nat → Bool) (x : Int) (h0 : 0 ≤ x) : (bits .and .u64 (((wd p (x / 64).toNat : Nat) : Int) / 2 ^ (x % 64).toNat) 1 != 0) = p x.toNat := by
  have hb : (x % 64).toNat < 64 := by omega
  have h := wd_test p (x / 64).toNat (x % 64).toNat hb
  rw [show 64 * (x / 64).toNat + (x % 64).toNat = x.toNat by omega] at h
  have hlt : wd p (x / 64).toNat / 2 ^ (x % 64).toNat < 18446744073709551616 := Nat.lt_of_le_of_lt (Nat.div_le_self _ _) (wd_lt' _ _)
  have e : ((wd p (x / 64).toNat : Nat) : Int) / 2 ^ (x % 64).toNat = ((wd p (x / 64).toNat / 2 ^ (x % 64).toNat : Nat) : Int) := by simp
  rw [e, show (1 : Int) = ((1 : Nat) : Int) from rfl, u64_and_nat _ _ hlt (by decide), Nat.and_one_is_mod, h]
  cases p x.toNat <;> rfl
set_option maxHeartbeats 1000000 in
theorem Has_calls (p : Nat → Bool) (x : Int) (w : World) : Calls Tryd.prog 22 #[Value.agg #[.int .u64 (wd (p) 0 : Nat), .int .u64 (wd (p) 1 : Nat), .int .u64 (wd (p) 2 : Nat), .int .u64 (wd (p) 3 : Nat), .int .u64 (wd (p) 4 : Nat), .int .u64 (wd (p) 5 : Nat), .int .u64 (wd (p) 6 : Nat), .int .u64 (wd (p) 7 : Nat)], .int .i64 x] w fun e w' => e = .returned (.bool (inSet p x)) ∧ Ext w w' := by
  by_cases h : inR x = true
  · have HR := Lib.hid h
    simp only [inR, Bool.and_eq_true, decide_eq_true_eq] at h
    obtain ⟨h0, h1⟩ := h
    have harr := set_at p (x / 64).toNat (by omega)
    have HT := Lib.hid (test_ne p x h0)
    have HI : Hid (inSet p x = p x.toNat) := by show _ = _; simp [inSet, h0, h1]
    go_enter Tryd.func22, Tryd.ntmps22
    go_wp2_with ((go_at_call 40; (with_reducible refine (fits_calls _ _).mono ?_); rintro e w' ⟨rfl, hw⟩; obtain rfl := hw.symm); rw [HR.out])
    go_ret
    exact ⟨ret_bool (by rw [HI.out]; exact HT.out), by (repeat (first | assumption | exact Ext.refl _ | apply Ext.alloc | apply Ext.drew | apply Ext.drewN | refine Ext.trans ?_ (by assumption)))⟩
  · have HR : Hid (inR x = false) := by show _ = _; simpa using h
    have HI : Hid (inSet p x = false) := by show _ = _; unfold inSet; have := HR.out; unfold inR at this; rw [this]; rfl
    clear h
    go_enter Tryd.func22, Tryd.ntmps22
    go_wp2_with ((go_at_call 40; (with_reducible refine (fits_calls _ _).mono ?_); rintro e w' ⟨rfl, hw⟩; obtain rfl := hw.symm); rw [HR.out])
    go_ret
    exact ⟨ret_bool HI.out.symm, by (repeat (first | assumption | exact Ext.refl _ | apply Ext.alloc | apply Ext.drew | apply Ext.drewN | refine Ext.trans ?_ (by assumption)))⟩
end Go.Proofs.YtbmnjnmpjpdcmaaDoor
