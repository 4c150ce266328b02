/- Walks of the reference of chapter 2: Next, Rank. Conditions: none. -/
import Derived.Test.YtbmnjnmpjpdcmaaDoorLookM
namespace Go.Proofs.YtbmnjnmpjpdcmaaDoor
open Go.RowKit Go.Eg

set_option maxHeartbeats 2000000 in
set_option maxRecDepth 100000 in
theorem rNext_calls (p : Nat → Bool) (x : Int) (w : World) : Calls Tryd.prog 30 #[Value.agg #[.int .u64 (wd (p) 0 : Nat), .int .u64 (wd (p) 1 : Nat), .int .u64 (wd (p) 2 : Nat), .int .u64 (wd (p) 3 : Nat), .int .u64 (wd (p) 4 : Nat), .int .u64 (wd (p) 5 : Nat), .int .u64 (wd (p) 6 : Nat), .int .u64 (wd (p) 7 : Nat)], .int .i64 x] w fun e w' => e = .returned (.tuple #[.int .i64 (nextN p x), .bool (nextB p x)]) ∧ Ext w w' := by
  obtain ⟨L, hL⟩ : ∃ L, L = numsB p 512 := ⟨_, rfl⟩
  have HF : Hid (nextO p x = L.find? fun y => decide (x ≤ y)) := by show _ = _; rw [hL]; rfl
  have HLC := Lib.hid (rList_calls p)
  rw [← hL] at HLC
  have hll : L.length ≤ 512 := by rw [hL]; exact numsB_len p 512
  clear hL
  go_enter Tryd.func30, Tryd.ntmps30
  go_wp2_with (first | ((go_at_call 25; (with_reducible refine (HLC.out _).mono ?_); rintro e w1 ⟨v1, rfl, ho1, h1⟩); (obtain ⟨A1, c1, rfl, h11, h12⟩ := ho1.shape)))
  have hr := Lib.hid ho1.rd
  clear ho1
  go_loopw [7] (fun v7 wr => ∃ i : Nat, v7 = .int .i64 i ∧ i ≤ L.length ∧ Hid ((L.take i).find? (fun y => decide (x ≤ y)) = none) ∧ Ext w1 wr) (fun v7 _ => L.length - (intOf v7).toNat)
  case atStart => exact ⟨0, rfl, by omega, rfl, Ext.refl _⟩
  case round =>
    obtain ⟨i, rfl, hi, HN, he⟩ := hrel
    by_cases hlt : i < L.length
    · obtain ⟨y, hy⟩ : ∃ y, L[i]? = some y := ⟨_, List.getElem?_eq_getElem hlt⟩
      obtain ⟨b, off, rfl, hb, hc⟩ := (hr.out.ext he).int hy
      have hi0 : (0 : Int) ≤ (i : Int) := by omega
      have hi1 : (i : Int) < L.length := by omega
      by_cases hxy : x ≤ y
      · have HO := Lib.hid (find_at HN.out hy (decide_eq_true hxy))
        clear hy
        go_wp2_with fail
        go_ret2
        exact ⟨by unfold nextN nextB; rw [HF.out, HO.out]; rfl, by (repeat (first | assumption | exact Ext.refl _ | apply Ext.alloc | apply Ext.drew | apply Ext.drewN | refine Ext.trans ?_ (by assumption)))⟩
      · have hxy' : decide (x ≤ y) = false := decide_eq_false hxy
        have HO := Lib.hid (find_step HN.out hy hxy')
        clear hy hxy
        go_wp2_with fail
        go_roundw
        case rel => exact ⟨i + 1, by go_num, by omega, HO, he⟩
        case measure => simp [intOf]; omega
    · have hi' : i = L.length := by omega
      subst hi'
      rw [List.take_length] at HN
      go_wp2_with fail
      go_ret2
      exact ⟨by unfold nextN nextB; rw [HF.out, HN.out]; rfl, by (repeat (first | assumption | exact Ext.refl _ | apply Ext.alloc | apply Ext.drew | apply Ext.drewN | refine Ext.trans ?_ (by assumption)))⟩
theorem count_step {f : Int → Bool} {L : List Int} {i : Nat} {y : Int} (hy : L[i]? = some y) : (L.take (i + 1)).countP f = (L.take i).countP f + if f y then 1 else 0 := by
  rw [List.take_add_one, hy, List.countP_append]
  cases h : f y <;> simp [h]
set_option maxHeartbeats 2000000 in
set_option maxRecDepth 100000 in
theorem rRank_calls (p : Nat → Bool) (x : Int) (w : World) : Calls Tryd.prog 32 #[Value.agg #[.int .u64 (wd (p) 0 : Nat), .int .u64 (wd (p) 1 : Nat), .int .u64 (wd (p) 2 : Nat), .int .u64 (wd (p) 3 : Nat), .int .u64 (wd (p) 4 : Nat), .int .u64 (wd (p) 5 : Nat), .int .u64 (wd (p) 6 : Nat), .int .u64 (wd (p) 7 : Nat)], .int .i64 x] w fun e w' => e = .returned (.int .i64 (cnt p (clampN x) : Nat)) ∧ Ext w w' := by
  obtain ⟨L, hL⟩ : ∃ L, L = numsB p 512 := ⟨_, rfl⟩
  have HF : Hid (L.countP (fun y => decide (y < x)) = cnt p (clampN x)) := by
    show _ = _
    rw [hL, count_nums p x 512 (Nat.le_refl _), Nat.min_eq_right (clamp_le x)]
  have HLC := Lib.hid (rList_calls p)
  rw [← hL] at HLC
  have hll : L.length ≤ 512 := by rw [hL]; exact numsB_len p 512
  clear hL
  go_enter Tryd.func32, Tryd.ntmps32
  go_wp2_with (first | ((go_at_call 25; (with_reducible refine (HLC.out _).mono ?_); rintro e w1 ⟨v1, rfl, ho1, h1⟩); (obtain ⟨A1, c1, rfl, h11, h12⟩ := ho1.shape)))
  have hr := Lib.hid ho1.rd
  clear ho1
  go_loopw [5, 7] (fun v5 v7 wr => ∃ (i c : Nat), v7 = .int .i64 i ∧ i ≤ L.length ∧ v5 = .int .i64 c ∧ c ≤ i ∧ Hid (c = (L.take i).countP (fun y => decide (y < x))) ∧ Ext w1 wr) (fun _ v7 _ => L.length - (intOf v7).toNat)
  case atStart => exact ⟨0, 0, rfl, by omega, rfl, by omega, rfl, Ext.refl _⟩
  case round =>
    obtain ⟨i, c, rfl, hi, rfl, hci, HN, he⟩ := hrel
    by_cases hlt : i < L.length
    · obtain ⟨y, hy⟩ : ∃ y, L[i]? = some y := ⟨_, List.getElem?_eq_getElem hlt⟩
      obtain ⟨b, off, rfl, hb, hc⟩ := (hr.out.ext he).int hy
      have hi0 : (0 : Int) ≤ (i : Int) := by omega
      have hi1 : (i : Int) < L.length := by omega
      have HS := Lib.hid (count_step (f := fun y => decide (y < x)) hy)
      rw [← HN.out] at HS
      clear hy
      by_cases hxy : y < x
      · replace HS : Hid (c + 1 = _) := Lib.hid (HS.out.trans (by simp [hxy])).symm
        go_wp2_with fail
        go_roundw
        case rel => exact ⟨i + 1, c + 1, by go_num, by omega, by go_num, by omega, HS, he⟩
        case measure => simp [intOf]; omega
      · have hxy' : decide (y < x) = false := decide_eq_false hxy
        replace HS : Hid (c = _) := Lib.hid (HS.out.trans (by simp [hxy])).symm
        clear hxy
        go_wp2_with fail
        go_roundw
        case rel => exact ⟨i + 1, c, by go_num, by omega, rfl, by omega, HS, he⟩
        case measure => simp [intOf]; omega
    · have hi' : i = L.length := by omega
      subst hi'
      rw [List.take_length, HF.out] at HN
      go_wp2_with fail
      go_ret
      exact ⟨ret_int (by rw [HN.out]), by (repeat (first | assumption | exact Ext.refl _ | apply Ext.alloc | apply Ext.drew | apply Ext.drewN | refine Ext.trans ?_ (by assumption)))⟩
end Go.Proofs.YtbmnjnmpjpdcmaaDoor
