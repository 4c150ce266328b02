/- Walks of sets: Has, field, Field. Conditions: none. -/
import Derived.Test.YtbmnjnmpjpdcmaaDoorEgMore
import Derived.Test.YtbmnjnmpjpdcmaaDoorSetM
import Derived.Test.YtbmnjnmpjpdcmaaDoorProg
import Derived.Lib.Hide
import Derived.Deep.QuietTactic
import Derived.BigQuiet
import Derived.Laws.BitsAllLaws
namespace Go.Proofs.YtbmnjnmpjpdcmaaDoor
open Go.RowKit Go.Eg

theorem set_at (p : Nat → Bool) (k : Nat) (hk : k < 8) : #[Value.int .u64 (wd (p) 0 : Nat), .int .u64 (wd (p) 1 : Nat), .int .u64 (wd (p) 2 : Nat), .int .u64 (wd (p) 3 : Nat), .int .u64 (wd (p) 4 : Nat), .int .u64 (wd (p) 5 : Nat), .int .u64 (wd (p) 6 : Nat), .int .u64 (wd (p) 7 : Nat)][k]? = some (.int .u64 (wd p k : Nat)) := by
  match k, hk with
  | 0, _ => rfl
  | 1, _ => rfl
  | 2, _ => rfl
  | 3, _ => rfl
  | 4, _ => rfl
  | 5, _ => rfl
  | 6, _ => rfl
  | 7, _ => rfl
theorem test_one (p : Nat → Bool) (x : Int) (h0 : 0 ≤ x) : (bits .and .u64 (((wd p (x / 64).toNat : Nat) : Int) / 2 ^ (x % 64).toNat) 1 == 1) = p x.toNat := by
  have hb : (x % 64).toNat < 64 := by omega
  have h := wd_test p (x / 64).toNat (x % 64).toNat hb
  rw [show 64 * (x / 64).toNat + (x % 64).toNat = x.toNat by omega] at h
  have hlt : wd p (x / 64).toNat / 2 ^ (x % 64).toNat < 18446744073709551616 := Nat.lt_of_le_of_lt (Nat.div_le_self _ _) (wd_lt' _ _)
  have e : ((wd p (x / 64).toNat : Nat) : Int) / 2 ^ (x % 64).toNat = ((wd p (x / 64).toNat / 2 ^ (x % 64).toNat : Nat) : Int) := by simp
  rw [e, show (1 : Int) = ((1 : Nat) : Int) from rfl, Go.u64_and_nat _ _ hlt (by decide), Nat.and_one_is_mod, h]
  cases p x.toNat <;> rfl
def inSet (p : Nat → Bool) (x : Int) : Bool := decide (0 ≤ x) && decide (x < 512) && p x.toNat

set_option maxHeartbeats 1000000 in
theorem rHas_calls (p : Nat → Bool) (x : Int) (w : World) : Calls Tryd.prog 23 #[Value.agg #[.int .u64 (wd (p) 0 : Nat), .int .u64 (wd (p) 1 : Nat), .int .u64 (wd (p) 2 : Nat), .int .u64 (wd (p) 3 : Nat), .int .u64 (wd (p) 4 : Nat), .int .u64 (wd (p) 5 : Nat), .int .u64 (wd (p) 6 : Nat), .int .u64 (wd (p) 7 : Nat)], .int .i64 x] w fun e w' => e = .returned (.bool (inSet p x)) ∧ Ext w w' := by
  by_cases h : 0 ≤ x ∧ x < 512
  · obtain ⟨h0, h1⟩ := h
    have harr := set_at p (x / 64).toNat (by omega)
    have HT := Lib.hid (test_one p x h0)
    have HI : Hid (inSet p x = p x.toNat) := by show _ = _; simp [inSet, h0, h1]
    go_enter Tryd.func23, Tryd.ntmps23
    go_wp2_with fail
    go_ret
    exact ⟨ret_bool (by rw [HI.out]; exact HT.out), by (repeat (first | assumption | exact Ext.refl _ | apply Ext.alloc | apply Ext.drew | apply Ext.drewN | refine Ext.trans ?_ (by assumption)))⟩
  · have HI : Hid (inSet p x = false) := by show _ = _; simp [inSet]; omega
    by_cases h0 : 0 ≤ x
    · have h1 : 512 ≤ x := by omega
      have h1' : decide (x < 512) = false := by simp; omega
      clear h
      go_enter Tryd.func23, Tryd.ntmps23
      go_wp2_with fail
      go_ret
      exact ⟨ret_bool HI.out.symm, by (repeat (first | assumption | exact Ext.refl _ | apply Ext.alloc | apply Ext.drew | apply Ext.drewN | refine Ext.trans ?_ (by assumption)))⟩
    · have h0' : decide (0 ≤ x) = false := by simpa using h0
      clear h
      go_enter Tryd.func23, Tryd.ntmps23
      go_wp2_with fail
      go_ret
      exact ⟨ret_bool HI.out.symm, by (repeat (first | assumption | exact Ext.refl _ | apply Ext.alloc | apply Ext.drew | apply Ext.drewN | refine Ext.trans ?_ (by assumption)))⟩
end Go.Proofs.YtbmnjnmpjpdcmaaDoor
