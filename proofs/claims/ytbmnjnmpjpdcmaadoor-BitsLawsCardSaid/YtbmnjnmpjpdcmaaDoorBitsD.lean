/- Walks of package bits: Of. Conditions: what a slice reads as. -/
import Derived.Test.YtbmnjnmpjpdcmaaDoorBitsC
namespace Go.Proofs.YtbmnjnmpjpdcmaaDoor
open Go.RowKit Go.Eg

set_option maxHeartbeats 1000000 in
set_option maxRecDepth 100000 in
theorem Of_calls (xs : List Int) (v : Value) (w : World) (hr : Rd (Ty.int .i64) w xs v) :
    Calls Tryd.prog 15 #[v] w fun e w' => e = .returned (.tuple #[Value.agg #[.int .u64 (wd (ofS xs) 0 : Nat), .int .u64 (wd (ofS xs) 1 : Nat), .int .u64 (wd (ofS xs) 2 : Nat), .int .u64 (wd (ofS xs) 3 : Nat), .int .u64 (wd (ofS xs) 4 : Nat), .int .u64 (wd (ofS xs) 5 : Nat), .int .u64 (wd (ofS xs) 6 : Nat), .int .u64 (wd (ofS xs) 7 : Nat)], .int .i64 (ofE xs)]) ∧ Ext w w' := by
  obtain ⟨A, c, rfl, hlc, hcm⟩ := hr.shape
  unfold maxLen at hcm
  go_enter Tryd.func15, Tryd.ntmps15
  go_wp2_with fail
  go_loopw [9] (fun v9 wr => ∃ i : Nat, v9 = .int .i64 i ∧ i ≤ xs.length ∧ Hid ((xs.take i).all inR = true) ∧ Hid (Arr wr (w.heap.size + 1) (listSet (xs.take i))) ∧ Hid (Arr wr w.heap.size (fun _ => false)) ∧ Ext w wr ∧ w.heap.size + 1 < wr.heap.size) (fun v9 _ => xs.length - (intOf v9).toNat)
  case atStart =>
    refine ⟨0, rfl, by omega, rfl, ?_, ?_, by (repeat (first | assumption | exact Ext.refl _ | apply Ext.alloc | apply Ext.drew | apply Ext.drewN | refine Ext.trans ?_ (by assumption))), by simp⟩
    rotate_left
    · refine Lib.hid (fun j hj => ?_)
      rw [wd_none]
      match j, hj with
      | 0, _ => simp
      | 1, _ => simp
      | 2, _ => simp
      | 3, _ => simp
      | 4, _ => simp
      | 5, _ => simp
      | 6, _ => simp
      | 7, _ => simp
    refine Lib.hid (fun j hj => ?_)
    rw [show listSet (xs.take 0) = fun _ => false by funext i; simp [listSet], wd_none]
    match j, hj with
    | 0, _ => simp
    | 1, _ => simp
    | 2, _ => simp
    | 3, _ => simp
    | 4, _ => simp
    | 5, _ => simp
    | 6, _ => simp
    | 7, _ => simp
  case round =>
    obtain ⟨i, rfl, hi, HOK, HA, HZ, he, hbw⟩ := hrel
    by_cases hlt : i < xs.length
    · obtain ⟨x, hx⟩ : ∃ x, xs[i]? = some x := ⟨_, List.getElem?_eq_getElem hlt⟩
      obtain ⟨b, off, rfl, hb, hc⟩ := (hr.ext he).int hx
      have hi0 : (0 : Int) ≤ (i : Int) := by omega
      have hi1 : (i : Int) < xs.length := by omega
      by_cases hin : inR x = false
      · have HB : Hid (okL xs = false) := by
          show _ = _
          cases hh : okL xs with
          | false => rfl
          | true => exact absurd (List.all_eq_true.1 hh x (List.mem_of_getElem? hx)) (by rw [hin]; decide)
        have HS : Hid (ofS xs = fun _ => false) := by show _ = _; unfold ofS; rw [HB.out]; rfl
        have HE : Hid (ofE xs = 11) := by show _ = _; unfold ofE; rw [HB.out]; rfl
        have HZZ := HZ.out
        obtain ⟨d0, f0⟩ := HZZ 0 (by omega)
        obtain ⟨d1, f1⟩ := HZZ 1 (by omega)
        obtain ⟨d2, f2⟩ := HZZ 2 (by omega)
        obtain ⟨d3, f3⟩ := HZZ 3 (by omega)
        obtain ⟨d4, f4⟩ := HZZ 4 (by omega)
        obtain ⟨d5, f5⟩ := HZZ 5 (by omega)
        obtain ⟨d6, f6⟩ := HZZ 6 (by omega)
        obtain ⟨d7, f7⟩ := HZZ 7 (by omega)
        clear HZZ hx hr
        have hE : Ext w ((((((((wr.setCell ⟨w.heap.size, 0, none⟩ (.int .u64 0)).setCell ⟨w.heap.size, 1, none⟩ (.int .u64 0)).setCell ⟨w.heap.size, 2, none⟩ (.int .u64 0)).setCell ⟨w.heap.size, 3, none⟩ (.int .u64 0)).setCell ⟨w.heap.size, 4, none⟩ (.int .u64 0)).setCell ⟨w.heap.size, 5, none⟩ (.int .u64 0)).setCell ⟨w.heap.size, 6, none⟩ (.int .u64 0)).setCell ⟨w.heap.size, 7, none⟩ (.int .u64 0)) := (((((((he.set (Nat.le_refl _) _).set (Nat.le_refl _) _).set (Nat.le_refl _) _).set (Nat.le_refl _) _).set (Nat.le_refl _) _).set (Nat.le_refl _) _).set (Nat.le_refl _) _).set (Nat.le_refl _) _
        have HEX := Lib.hid hE
        clear hE
        have HIN := Lib.hid hin
        clear hin
        go_wp2_with ((go_at_call 40; (with_reducible refine (fits_calls _ _).mono ?_); rintro e w' ⟨rfl, hw⟩; obtain rfl := hw.symm); rw [HIN.out])
        exact bodyPost_ret (v := .tuple #[.agg #[.int .u64 0, .int .u64 0, .int .u64 0, .int .u64 0, .int .u64 0, .int .u64 0, .int .u64 0, .int .u64 0], .int .i64 11]) (by simp [results, Tryd.results15, go_sem, *]) rfl ⟨by rw [HS.out, HE.out]; simp [wd_none], HEX.out⟩
      replace hin : inR x = true := by simpa using hin
      have HOK' : Hid ((xs.take (i + 1)).all inR = true) := by show _ = _; rw [List.take_add_one, hx]; simp [HOK.out, hin]
      have HIN := Lib.hid hin
      simp only [inR, Bool.and_eq_true, decide_eq_true_eq] at hin
      obtain ⟨h0, h1⟩ := hin
      obtain ⟨hw, hf⟩ := HA.out (x / 64).toNat (by omega)
      have hq0 : 0 ≤ x / 64 := by omega
      have hq1 : x / 64 < 8 := by omega
      have hq2 : 0 ≤ x % 64 := by omega
      have hq3 : x % 64 < 64 := by omega
      have hd1 : x.tdiv 64 = x / 64 := Int.tdiv_eq_ediv_of_nonneg h0
      have hd2 : x.tmod 64 = x % 64 := Int.tmod_eq_emod_of_nonneg h0
      have hd3 : IntKind.i64.wrap (x / 64) = x / 64 := IntWalk.i64_in _ (by omega)
      have hd4 : IntKind.i64.wrap (x % 64) = x % 64 := IntWalk.i64_in _ (by omega)
      have hd5 : IntKind.u64.wrap (x % 64) = x % 64 := by rw [IntKind.wrap_u64]; omega
      have hd6 := shl_one (x % 64) hq2 hq3
      have hd8 : IntKind.u64.wrap (2 ^ (x % 64).toNat) = 2 ^ (x % 64).toNat := by rw [Nat.min_eq_left (by omega)] at hd6; exact hd6
      have h0' : decide (x < 0) = false := by simpa using h0
      have h1' : decide (512 ≤ x) = false := by simpa using h1
      have HX := Lib.hid hx
      clear hx hr
      go_wp2_with ((go_at_call 40; (with_reducible refine (fits_calls _ _).mono ?_); rintro e w' ⟨rfl, hw⟩; obtain rfl := hw.symm); rw [HIN.out])
      have hd7 := add_word (listSet (xs.take i)) x h0
      rw [← listSet_take HX.out] at hd7
      have HA' : Hid (Arr (wr.setCell ⟨w.heap.size + 1, (x / 64).toNat, none⟩ (.int .u64 (wd (listSet (xs.take (i + 1))) (x / 64).toNat : Nat))) (w.heap.size + 1) (listSet (xs.take (i + 1)))) := by
        show Arr _ _ _
        rw [listSet_take HX.out]
        exact HA.out.put (by omega) rfl (fun k _ hk => add_other _ _ h0 k hk)
      have HE' : Hid (Ext w (wr.setCell ⟨w.heap.size + 1, (x / 64).toNat, none⟩ (.int .u64 (wd (listSet (xs.take (i + 1))) (x / 64).toNat : Nat)))) := he.set (Nat.le_succ _) _
      go_region_with (fail)
      all_goals
        go_wp2_with fail
        go_roundw
        case rel => exact ⟨i + 1, by go_num, by omega, HOK', Lib.hid HA'.out.drew, Lib.hid (HZ.out.other (by omega)).drew, HE'.out.drew, by simpa using hbw⟩
        case measure => simp [intOf]; omega
    · have hi' : i = xs.length := by omega
      subst hi'
      rw [List.take_length] at HA HOK
      have HS : Hid (ofS xs = listSet xs) := by show _ = _; unfold ofS okL; rw [HOK.out]; rfl
      have HE : Hid (ofE xs = 0) := by show _ = _; unfold ofE okL; rw [HOK.out]; rfl
      have HAA := HA.out
      obtain ⟨c0, -⟩ := HAA 0 (by omega)
      obtain ⟨c1, -⟩ := HAA 1 (by omega)
      obtain ⟨c2, -⟩ := HAA 2 (by omega)
      obtain ⟨c3, -⟩ := HAA 3 (by omega)
      obtain ⟨c4, -⟩ := HAA 4 (by omega)
      obtain ⟨c5, -⟩ := HAA 5 (by omega)
      obtain ⟨c6, -⟩ := HAA 6 (by omega)
      obtain ⟨c7, -⟩ := HAA 7 (by omega)
      have HZZ := HZ.out
      obtain ⟨d0, f0⟩ := HZZ 0 (by omega)
      obtain ⟨d1, f1⟩ := HZZ 1 (by omega)
      obtain ⟨d2, f2⟩ := HZZ 2 (by omega)
      obtain ⟨d3, f3⟩ := HZZ 3 (by omega)
      obtain ⟨d4, f4⟩ := HZZ 4 (by omega)
      obtain ⟨d5, f5⟩ := HZZ 5 (by omega)
      obtain ⟨d6, f6⟩ := HZZ 6 (by omega)
      obtain ⟨d7, f7⟩ := HZZ 7 (by omega)
      clear HAA HZZ
      go_wp2_with fail
      exact bodyPost_ret (v := .tuple #[Value.agg #[.int .u64 (wd (listSet xs) 0 : Nat), .int .u64 (wd (listSet xs) 1 : Nat), .int .u64 (wd (listSet xs) 2 : Nat), .int .u64 (wd (listSet xs) 3 : Nat), .int .u64 (wd (listSet xs) 4 : Nat), .int .u64 (wd (listSet xs) 5 : Nat), .int .u64 (wd (listSet xs) 6 : Nat), .int .u64 (wd (listSet xs) 7 : Nat)], .int .i64 0]) (by simp [results, Tryd.results15, go_sem, *]) rfl ⟨by rw [HS.out, HE.out], (((((((he.set (Nat.le_refl _) _).set (Nat.le_refl _) _).set (Nat.le_refl _) _).set (Nat.le_refl _) _).set (Nat.le_refl _) _).set (Nat.le_refl _) _).set (Nat.le_refl _) _).set (Nat.le_refl _) _⟩
end Go.Proofs.YtbmnjnmpjpdcmaaDoor
