/- Walks: TrailingZeros64, each. Conditions: the library's table as its initialiser lays it. -/
import Derived.Test.YtbmnjnmpjpdcmaaDoorBitsI
import Derived.Test.YtbmnjnmpjpdcmaaDoorLowM
import Derived.Shelf.Spec.TrailingZeros
namespace Go.Proofs.YtbmnjnmpjpdcmaaDoor
open Go.RowKit Go.Eg

/-- The library's table in its variable. -/
def Tab (w : World) : Prop := TabAt 0 Lib.deBruijn64tab w
theorem tab_len : Lib.deBruijn64tab.length = 64 := by decide
theorem Tab.lt {w : World} (h : Tab w) : 0 < w.heap.size := World.block_lt_of_cell? w _ (h 0 (by rw [tab_len]; decide))
theorem Tab.ext {w w' : World} (h : Tab w) (he : Ext w w') : Tab w' := fun j hj => (he.cell _ _ h.lt).trans (h j hj)
theorem tz_facts (x : Nat) (h0 : x ≠ 0) (hx : x < 2 ^ 64) (w : World) (hT : Tab w) : ∃ idx : Nat, idx < 64 ∧ IntKind.u64.wrap (bits BinOp.and IntKind.u64 (x : Int) (IntKind.u64.wrap (-(x : Int))) * 285870213051353865) / 288230376151711744 = (idx : Int) ∧ w.cell? ⟨0, idx, none⟩ = some (.int .u8 (Lib.ctz 64 x)) := by
  obtain ⟨hlow, hk⟩ := Lib.lowest_bit 64 x h0 hx
  obtain ⟨hi, htab⟩ := Lib.deBruijn64_at _ hk
  have key := tz64_key x _ hx h0 hlow
  refine ⟨_, hi, key, ?_⟩
  have hcell := hT _ (by rw [tab_len]; exact hi)
  rw [htab] at hcell
  exact hcell
set_option maxHeartbeats 1000000 in
theorem tz_calls (x : Nat) (h0 : x ≠ 0) (hx : x < 2 ^ 64) (w : World) (hT : Tab w) : Calls Tryd.prog 50 #[.int .u64 x] w fun e w' => e = .returned (.int .i64 (Lib.ctz 64 x)) ∧ w' = w := by
  obtain ⟨idx, hi, key, hcell⟩ := tz_facts x h0 hx w hT
  have hx0 : ((x : Int) == 0) = false := by simp; omega
  have hk : Lib.ctz 64 x < 64 := (Lib.lowest_bit 64 x h0 hx).2
  generalize Lib.ctz 64 x = k at *
  clear hT hx h0
  go_enter Tryd.func50, Tryd.ntmps50
  go_wp2_with (simp only [key])
  go_ret
  exact ⟨rfl, rfl⟩
theorem skips {p : Nat → Bool} {I : Nat → World → Prop} (hs : ∀ i w, p i = false → I i w → I (i + 1) w) {i : Nat} {w : World} (h : I i w) : ∀ d, (∀ m, i ≤ m → m < i + d → p m = false) → I (i + d) w
  | 0, _ => h
  | d + 1, hm => hs (i + d) _ (hm (i + d) (Nat.le_add_right _ _) (by omega)) (skips hs h d (fun m h1 h2 => hm m h1 (by omega)))
set_option maxHeartbeats 2000000 in
set_option maxRecDepth 100000 in
theorem each_list (p : Nat → Bool) (a : Addr) (I : Nat → World → Prop) (hT : ∀ i w, I i w → Tab w) (hs : ∀ i w, p i = false → I i w → I (i + 1) w)
    (hc : ∀ i w, i < 512 → p i = true → I i w → Calls Tryd.prog 43 #[.int .i64 (i : Int), .pointer (some a)] w fun e w' => e = .returned (.bool true) ∧ I (i + 1) w')
    (w : World) (h0 : I 0 (w.alloc (.cells #[Value.int .u64 (wd (p) 0 : Nat), .int .u64 (wd (p) 1 : Nat), .int .u64 (wd (p) 2 : Nat), .int .u64 (wd (p) 3 : Nat), .int .u64 (wd (p) 4 : Nat), .int .u64 (wd (p) 5 : Nat), .int .u64 (wd (p) 6 : Nat), .int .u64 (wd (p) 7 : Nat)] 24))) :
    Calls Tryd.prog 38 #[Value.agg #[.int .u64 (wd (p) 0 : Nat), .int .u64 (wd (p) 1 : Nat), .int .u64 (wd (p) 2 : Nat), .int .u64 (wd (p) 3 : Nat), .int .u64 (wd (p) 4 : Nat), .int .u64 (wd (p) 5 : Nat), .int .u64 (wd (p) 6 : Nat), .int .u64 (wd (p) 7 : Nat)], .func (.func 43) #[] #[.pointer (some a)]] w fun e w' => e = .returned (.tuple #[]) ∧ I 512 w' := by
  go_enter Tryd.func38, Tryd.ntmps38
  go_wp2_with fail
  go_loopw [7] (fun v7 wr => ∃ j : Nat, v7 = .int .i64 j ∧ j ≤ 8 ∧ Hid (I (64 * j) wr)) (fun v7 _ => 8 - (intOf v7).toNat)
  case atStart => exact ⟨0, rfl, by omega, Lib.hid h0⟩
  case round =>
    obtain ⟨j, rfl, hj, HI⟩ := hrel
    by_cases hlt : j < 8
    · have harr := index_set p hlt
      go_wp2_with fail
      rw [show decide ((j : Int) < 8) = true by simp; omega]
      go_loopw [5] (fun v5 wq => ∃ i : Nat, v5 = .int .u64 (wd (fromS p i) j : Nat) ∧ 64 * j ≤ i ∧ i ≤ 64 * (j + 1) ∧ Hid (I i wq)) (fun v5 _ => (intOf v5).toNat)
      case atStart => exact ⟨64 * j, val_int (by rw [← rest_start]), by omega, by omega, HI⟩
      case round =>
        obtain ⟨i, rfl, hi1, hi2, HJ⟩ := hrel
        by_cases hz : wd (fromS p i) j = 0
        · have HN := Lib.hid (skips hs HJ.out (64 * (j + 1) - i) (fun m m1 m2 => rest_zero hz m1 (by omega) (by omega)))
          rw [show i + (64 * (j + 1) - i) = 64 * (j + 1) by omega] at HN
          go_wp2_with fail
          go_roundw
          case rel => exact ⟨j + 1, by go_num, by omega, HN⟩
          case measure => simp [intOf]; omega
        · obtain ⟨n, hn, n1, n2, n3, n4, n5, n6⟩ := rest_low hz
          have HN := Lib.hid (skips hs HJ.out (n - i) (fun m m1 m2 => n4 m m1 (by omega) (by omega)))
          rw [show i + (n - i) = n by omega] at HN
          have hz1 := tz_calls _ hz (wd_lt (fromS p i) j) _ (hT _ _ HN.out)
          have hcl := hc n _ (by omega) n3 HN.out
          have hXl := wd_lt' (fromS p i) j
          generalize wd (fromS p i) j = X at *
          have hn' : (64 * (j : Int) + (Lib.ctz 64 X : Nat)) = (n : Int) := by omega
          have hx1 : IntKind.u64.wrap ((X : Int) - 1) = ((X - 1 : Nat) : Int) := by rw [IntKind.wrap_u64]; omega
          have hx2 : bits .and .u64 (X : Int) ((X - 1 : Nat) : Int) = ((wd (fromS p (n + 1)) j : Nat) : Int) := by
            rw [← n6]; exact u64_and_nat _ _ hXl (by omega)
          have hX0 : ((X : Int) != 0) = true := bne_iff_ne.2 (by omega)
          have HY := Lib.hid (show wd (fromS p (n + 1)) j < X by rw [← n6]; exact n5)
          have hck : Lib.ctz 64 X < 64 := by omega
          have HZ1 := Lib.hid hz1
          have HCL := Lib.hid hcl
          generalize X - 1 = X1 at *
          clear n4 n5 n6 hn n3 hz hz1 hcl
          go_wp2_with (first | (go_at_call 50; (with_reducible refine (HZ1.out).mono ?_); rintro e w' ⟨rfl, hw⟩; obtain rfl := hw.symm) | ((try rw [hn']); (go_at_call 43; (with_reducible refine (HCL.out).mono ?_); rintro e w1 ⟨rfl, HK⟩); replace HK := Lib.hid HK))
          go_roundw
          case rel => exact ⟨n + 1, rfl, by omega, by omega, HK⟩
          case measure => simp [intOf]; exact HY.out
    · have hj' : j = 8 := by omega
      subst hj'
      go_wp2_with fail
      exact ⟨rfl, .tuple #[], by simp [results, Tryd.results38, go_sem], rfl, HI.out⟩

set_option maxHeartbeats 2000000 in
set_option maxRecDepth 100000 in
theorem each_shift (p : Nat → Bool) (a b : Addr) (I : Nat → World → Prop) (hT : ∀ i w, I i w → Tab w) (hs : ∀ i w, p i = false → I i w → I (i + 1) w)
    (hc : ∀ i w, i < 512 → p i = true → I i w → Calls Tryd.prog 39 #[.int .i64 (i : Int), .pointer (some a), .pointer (some b)] w fun e w' => e = .returned (.bool true) ∧ I (i + 1) w')
    (w : World) (h0 : I 0 (w.alloc (.cells #[Value.int .u64 (wd (p) 0 : Nat), .int .u64 (wd (p) 1 : Nat), .int .u64 (wd (p) 2 : Nat), .int .u64 (wd (p) 3 : Nat), .int .u64 (wd (p) 4 : Nat), .int .u64 (wd (p) 5 : Nat), .int .u64 (wd (p) 6 : Nat), .int .u64 (wd (p) 7 : Nat)] 24))) :
    Calls Tryd.prog 38 #[Value.agg #[.int .u64 (wd (p) 0 : Nat), .int .u64 (wd (p) 1 : Nat), .int .u64 (wd (p) 2 : Nat), .int .u64 (wd (p) 3 : Nat), .int .u64 (wd (p) 4 : Nat), .int .u64 (wd (p) 5 : Nat), .int .u64 (wd (p) 6 : Nat), .int .u64 (wd (p) 7 : Nat)], .func (.func 39) #[] #[.pointer (some a), .pointer (some b)]] w fun e w' => e = .returned (.tuple #[]) ∧ I 512 w' := by
  go_enter Tryd.func38, Tryd.ntmps38
  go_wp2_with fail
  go_loopw [7] (fun v7 wr => ∃ j : Nat, v7 = .int .i64 j ∧ j ≤ 8 ∧ Hid (I (64 * j) wr)) (fun v7 _ => 8 - (intOf v7).toNat)
  case atStart => exact ⟨0, rfl, by omega, Lib.hid h0⟩
  case round =>
    obtain ⟨j, rfl, hj, HI⟩ := hrel
    by_cases hlt : j < 8
    · have harr := index_set p hlt
      go_wp2_with fail
      rw [show decide ((j : Int) < 8) = true by simp; omega]
      go_loopw [5] (fun v5 wq => ∃ i : Nat, v5 = .int .u64 (wd (fromS p i) j : Nat) ∧ 64 * j ≤ i ∧ i ≤ 64 * (j + 1) ∧ Hid (I i wq)) (fun v5 _ => (intOf v5).toNat)
      case atStart => exact ⟨64 * j, val_int (by rw [← rest_start]), by omega, by omega, HI⟩
      case round =>
        obtain ⟨i, rfl, hi1, hi2, HJ⟩ := hrel
        by_cases hz : wd (fromS p i) j = 0
        · have HN := Lib.hid (skips hs HJ.out (64 * (j + 1) - i) (fun m m1 m2 => rest_zero hz m1 (by omega) (by omega)))
          rw [show i + (64 * (j + 1) - i) = 64 * (j + 1) by omega] at HN
          go_wp2_with fail
          go_roundw
          case rel => exact ⟨j + 1, by go_num, by omega, HN⟩
          case measure => simp [intOf]; omega
        · obtain ⟨n, hn, n1, n2, n3, n4, n5, n6⟩ := rest_low hz
          have HN := Lib.hid (skips hs HJ.out (n - i) (fun m m1 m2 => n4 m m1 (by omega) (by omega)))
          rw [show i + (n - i) = n by omega] at HN
          have hz1 := tz_calls _ hz (wd_lt (fromS p i) j) _ (hT _ _ HN.out)
          have hcl := hc n _ (by omega) n3 HN.out
          have hXl := wd_lt' (fromS p i) j
          generalize wd (fromS p i) j = X at *
          have hn' : (64 * (j : Int) + (Lib.ctz 64 X : Nat)) = (n : Int) := by omega
          have hx1 : IntKind.u64.wrap ((X : Int) - 1) = ((X - 1 : Nat) : Int) := by rw [IntKind.wrap_u64]; omega
          have hx2 : bits .and .u64 (X : Int) ((X - 1 : Nat) : Int) = ((wd (fromS p (n + 1)) j : Nat) : Int) := by
            rw [← n6]; exact u64_and_nat _ _ hXl (by omega)
          have hX0 : ((X : Int) != 0) = true := bne_iff_ne.2 (by omega)
          have HY := Lib.hid (show wd (fromS p (n + 1)) j < X by rw [← n6]; exact n5)
          have hck : Lib.ctz 64 X < 64 := by omega
          have HZ1 := Lib.hid hz1
          have HCL := Lib.hid hcl
          generalize X - 1 = X1 at *
          clear n4 n5 n6 hn n3 hz hz1 hcl
          go_wp2_with (first | (go_at_call 50; (with_reducible refine (HZ1.out).mono ?_); rintro e w' ⟨rfl, hw⟩; obtain rfl := hw.symm) | ((try rw [hn']); (go_at_call 39; (with_reducible refine (HCL.out).mono ?_); rintro e w1 ⟨rfl, HK⟩); replace HK := Lib.hid HK))
          go_roundw
          case rel => exact ⟨n + 1, rfl, by omega, by omega, HK⟩
          case measure => simp [intOf]; exact HY.out
    · have hj' : j = 8 := by omega
      subst hj'
      go_wp2_with fail
      exact ⟨rfl, .tuple #[], by simp [results, Tryd.results38, go_sem], rfl, HI.out⟩
end Go.Proofs.YtbmnjnmpjpdcmaaDoor
