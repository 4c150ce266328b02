/- Walks of the reference of chapter 2: Shift. Conditions: none. -/
import Derived.Test.YtbmnjnmpjpdcmaaDoorBitsLa
import Derived.Test.YtbmnjnmpjpdcmaaDoorShiftM
namespace Go.Proofs.YtbmnjnmpjpdcmaaDoor
open Go.RowKit Go.Eg

set_option maxHeartbeats 4000000 in
set_option maxRecDepth 100000 in
theorem rShift_calls (p : Nat → Bool) (x : Int) (w : World) : Calls Tryd.prog 10 #[Value.agg #[.int .u64 (wd (p) 0 : Nat), .int .u64 (wd (p) 1 : Nat), .int .u64 (wd (p) 2 : Nat), .int .u64 (wd (p) 3 : Nat), .int .u64 (wd (p) 4 : Nat), .int .u64 (wd (p) 5 : Nat), .int .u64 (wd (p) 6 : Nat), .int .u64 (wd (p) 7 : Nat)], .int .i64 x] w fun e w' => e = .returned (Value.agg #[.int .u64 (wd (shiftS p x) 0 : Nat), .int .u64 (wd (shiftS p x) 1 : Nat), .int .u64 (wd (shiftS p x) 2 : Nat), .int .u64 (wd (shiftS p x) 3 : Nat), .int .u64 (wd (shiftS p x) 4 : Nat), .int .u64 (wd (shiftS p x) 5 : Nat), .int .u64 (wd (shiftS p x) 6 : Nat), .int .u64 (wd (shiftS p x) 7 : Nat)]) ∧ Ext w w' := by
  have HZ : Hid (Arr ((w.alloc (.cells #[Value.int .u64 (wd (p) 0 : Nat), .int .u64 (wd (p) 1 : Nat), .int .u64 (wd (p) 2 : Nat), .int .u64 (wd (p) 3 : Nat), .int .u64 (wd (p) 4 : Nat), .int .u64 (wd (p) 5 : Nat), .int .u64 (wd (p) 6 : Nat), .int .u64 (wd (p) 7 : Nat)] 24)).alloc (.cells #[Value.int .u64 0, .int .u64 0, .int .u64 0, .int .u64 0, .int .u64 0, .int .u64 0, .int .u64 0, .int .u64 0] 24)) (w.heap.size + 1) (fun _ => false)) := Lib.hid (Arr.zero (by simp))
  have HX : Hid (Ext w ((w.alloc (.cells #[Value.int .u64 (wd (p) 0 : Nat), .int .u64 (wd (p) 1 : Nat), .int .u64 (wd (p) 2 : Nat), .int .u64 (wd (p) 3 : Nat), .int .u64 (wd (p) 4 : Nat), .int .u64 (wd (p) 5 : Nat), .int .u64 (wd (p) 6 : Nat), .int .u64 (wd (p) 7 : Nat)] 24)).alloc (.cells #[Value.int .u64 0, .int .u64 0, .int .u64 0, .int .u64 0, .int .u64 0, .int .u64 0, .int .u64 0, .int .u64 0] 24))) := by show Ext _ _; (repeat (first | assumption | exact Ext.refl _ | apply Ext.alloc | apply Ext.drew | apply Ext.drewN | refine Ext.set ?_ (by first | exact Nat.le_refl _ | exact Nat.le_succ _ | exact Nat.le_add_right _ _ | exact Nat.le_trans (Nat.le_succ _) (Nat.le_succ _) | omega) _ | refine Ext.trans ?_ (by assumption)))
  have HS : Hid (w.heap.size + 1 < ((w.alloc (.cells #[Value.int .u64 (wd (p) 0 : Nat), .int .u64 (wd (p) 1 : Nat), .int .u64 (wd (p) 2 : Nat), .int .u64 (wd (p) 3 : Nat), .int .u64 (wd (p) 4 : Nat), .int .u64 (wd (p) 5 : Nat), .int .u64 (wd (p) 6 : Nat), .int .u64 (wd (p) 7 : Nat)] 24)).alloc (.cells #[Value.int .u64 0, .int .u64 0, .int .u64 0, .int .u64 0, .int .u64 0, .int .u64 0, .int .u64 0, .int .u64 0] 24)).heap.size) := by show _ < _; simp
  by_cases hx : shOk x = true
  · have HR : Hid (shiftS p x = shS p x 512) := if_pos hx
    have HW := Lib.hid (fun j hj => wd_shL p x j hj)
    simp only [shOk, Bool.and_eq_true, decide_eq_true_eq] at hx
    obtain ⟨hx1, hx2⟩ := hx
    have hll := numsB_len p 512
    have HM : Hid (∀ y ∈ numsB p 512, 0 ≤ y ∧ y < 512) := fun y hy => by
      obtain ⟨i, h1, -, rfl⟩ := numsB_mem.1 hy; omega
    have HLC := Lib.hid (rList_calls p)
    generalize numsB p 512 = L at *
    go_enter Tryd.func10, Tryd.ntmps10
    go_wp2_with (first | ((go_at_call 25; (with_reducible refine (HLC.out _).mono ?_); rintro e w1 ⟨v1, rfl, ho1, h1⟩); (obtain ⟨A1, c1, rfl, h11, h12⟩ := ho1.shape); (replace HZ := Lib.hid (HZ.out.ext h1 HS.out)); (replace HX := Lib.hid (HX.out.trans h1)); (replace HS := Lib.hid (Nat.lt_of_lt_of_le HS.out h1.le))))
    have hr := Lib.hid ho1.rd
    have hlL : L.length ≤ 512 := hll
    clear ho1 hll
    go_loopw [5, 7] (fun v5 v7 wr => ∃ i : Nat, v7 = .int .i64 i ∧ i ≤ L.length ∧ Own (Ty.int .i64) 3 w1.heap.size No wr (shL x (L.take i)) v5 ∧ Ext w1 wr) (fun _ v7 _ => L.length - (intOf v7).toNat)
    case atStart => exact ⟨0, rfl, by omega, Own.nil _ _ _ _ _, Ext.refl _⟩
    case round =>
      obtain ⟨i, rfl, hi, ho, he⟩ := hrel
      obtain ⟨A5, c5, rfl, h51, h52⟩ := ho.shape
      by_cases hlt : i < L.length
      · obtain ⟨y, hy⟩ : ∃ y, L[i]? = some y := ⟨_, List.getElem?_eq_getElem hlt⟩
        obtain ⟨b, off, rfl, hb, hc⟩ := (hr.out.ext he).int hy
        obtain ⟨y0, y1⟩ := HM.out y (List.mem_of_getElem? hy)
        have hwr : IntKind.i64.wrap (y + x) = y + x := IntWalk.i64_in _ (by omega)
        have hln := shL_len x (L.take i)
        rw [List.length_take] at hln
        have hi0 : (0 : Int) ≤ (i : Int) := by omega
        have hi1 : (i : Int) < L.length := by omega
        by_cases hin : inR (y + x) = true
        · have HL := Lib.hid (shL_in hy hin)
          simp only [inR, Bool.and_eq_true, decide_eq_true_eq] at hin
          obtain ⟨g0, g1⟩ := hin
          clear hy
          generalize shL x (L.take i) = M at *
          go_wp2_with (first | ((with_reducible refine gate_bi .append #[.tmp 40, .tmp 47] ?_); refine wp_append (t := Ty.int .i64) 3 w1.heap.size 8 elInt No _ M rfl (ho.ext (by (repeat (first | assumption | exact Ext.refl _ | apply Ext.alloc | apply Ext.drew | apply Ext.drewN | refine Ext.trans ?_ (by assumption))))) _ [y + x] rfl Any (SlP.one _ _ (fun _ _ => rfl)) (fun _ _ h => h) (by simp; omega) (by decide) (by have hle__ := he.le; simp; omega) ?_; intro v6 w6 ho6 hg6 _; have hx6 := Ext.grown (by (repeat (first | assumption | exact Ext.refl _ | apply Ext.alloc | apply Ext.drew | apply Ext.drewN | refine Ext.trans ?_ (by assumption))) : Ext w1 _) hg6 ho.lo))
          go_roundw
          case rel => exact ⟨i + 1, by go_num, by omega, by rw [HL.out]; exact ho6, hx6⟩
          case measure => simp [intOf]; omega
        · have hin' : inR (y + x) = false := by simpa using hin
          have HL := Lib.hid (shL_out hy hin')
          clear hy hin
          generalize shL x (L.take i) = M at *
          by_cases g0 : 0 ≤ y + x
          · have g1 : decide (y + x < 512) = false := by simp [inR] at hin'; simp; omega
            clear hin'
            go_wp2_with fail
            go_roundw
            case rel => exact ⟨i + 1, by go_num, by omega, by rw [HL.out]; exact ho, he⟩
            case measure => simp [intOf]; omega
          · have g1 : decide (0 ≤ y + x) = false := by simpa using g0
            clear hin' g0
            go_wp2_with fail
            go_roundw
            case rel => exact ⟨i + 1, by go_num, by omega, by rw [HL.out]; exact ho, he⟩
            case measure => simp [intOf]; omega
      · have hi' : i = L.length := by omega
        subst hi'
        rw [List.take_length] at ho
        go_wp2_with ((go_at_call 16; (with_reducible refine (rOf_calls _ _ _ ho.rd).mono ?_); rintro e w2 ⟨rfl, h2⟩); rw [HW.out 0 (by omega), HW.out 1 (by omega), HW.out 2 (by omega), HW.out 3 (by omega), HW.out 4 (by omega), HW.out 5 (by omega), HW.out 6 (by omega), HW.out 7 (by omega)]; (replace HZ : Hid (Arr w2 (w.heap.size + 1) (fun _ => false)) := Lib.hid (HZ.out.ext (he.trans h2) HS.out)); (replace HX := Lib.hid (HX.out.trans (he.trans h2))); (have hls : w.heap.size + 1 < w2.heap.size := Nat.lt_of_lt_of_le HS.out (he.trans h2).le); clear h2; have H__ := (HZ).out; obtain ⟨ce0, fe0⟩ := H__ 0 (by omega); obtain ⟨ce1, fe1⟩ := H__ 1 (by omega); obtain ⟨ce2, fe2⟩ := H__ 2 (by omega); obtain ⟨ce3, fe3⟩ := H__ 3 (by omega); obtain ⟨ce4, fe4⟩ := H__ 4 (by omega); obtain ⟨ce5, fe5⟩ := H__ 5 (by omega); obtain ⟨ce6, fe6⟩ := H__ 6 (by omega); obtain ⟨ce7, fe7⟩ := H__ 7 (by omega); clear H__)
        have HEX : Hid (Ext w ((((((((w2.setCell ⟨w.heap.size + 1, 0, none⟩ (.int .u64 (wd (shS p x 512) 0 : Nat))).setCell ⟨w.heap.size + 1, 1, none⟩ (.int .u64 (wd (shS p x 512) 1 : Nat))).setCell ⟨w.heap.size + 1, 2, none⟩ (.int .u64 (wd (shS p x 512) 2 : Nat))).setCell ⟨w.heap.size + 1, 3, none⟩ (.int .u64 (wd (shS p x 512) 3 : Nat))).setCell ⟨w.heap.size + 1, 4, none⟩ (.int .u64 (wd (shS p x 512) 4 : Nat))).setCell ⟨w.heap.size + 1, 5, none⟩ (.int .u64 (wd (shS p x 512) 5 : Nat))).setCell ⟨w.heap.size + 1, 6, none⟩ (.int .u64 (wd (shS p x 512) 6 : Nat))).setCell ⟨w.heap.size + 1, 7, none⟩ (.int .u64 (wd (shS p x 512) 7 : Nat)))) := ((((((((HX.out.set (by first | exact Nat.le_refl _ | exact Nat.le_succ _ | exact Nat.le_add_right _ _ | exact Nat.le_trans (Nat.le_succ _) (Nat.le_succ _) | omega) _).set (by first | exact Nat.le_refl _ | exact Nat.le_succ _ | exact Nat.le_add_right _ _ | exact Nat.le_trans (Nat.le_succ _) (Nat.le_succ _) | omega) _).set (by first | exact Nat.le_refl _ | exact Nat.le_succ _ | exact Nat.le_add_right _ _ | exact Nat.le_trans (Nat.le_succ _) (Nat.le_succ _) | omega) _).set (by first | exact Nat.le_refl _ | exact Nat.le_succ _ | exact Nat.le_add_right _ _ | exact Nat.le_trans (Nat.le_succ _) (Nat.le_succ _) | omega) _).set (by first | exact Nat.le_refl _ | exact Nat.le_succ _ | exact Nat.le_add_right _ _ | exact Nat.le_trans (Nat.le_succ _) (Nat.le_succ _) | omega) _).set (by first | exact Nat.le_refl _ | exact Nat.le_succ _ | exact Nat.le_add_right _ _ | exact Nat.le_trans (Nat.le_succ _) (Nat.le_succ _) | omega) _).set (by first | exact Nat.le_refl _ | exact Nat.le_succ _ | exact Nat.le_add_right _ _ | exact Nat.le_trans (Nat.le_succ _) (Nat.le_succ _) | omega) _).set (by first | exact Nat.le_refl _ | exact Nat.le_succ _ | exact Nat.le_add_right _ _ | exact Nat.le_trans (Nat.le_succ _) (Nat.le_succ _) | omega) _)
        exact bodyPost_ret (v := Value.agg #[.int .u64 (wd (shS p x 512) 0 : Nat), .int .u64 (wd (shS p x 512) 1 : Nat), .int .u64 (wd (shS p x 512) 2 : Nat), .int .u64 (wd (shS p x 512) 3 : Nat), .int .u64 (wd (shS p x 512) 4 : Nat), .int .u64 (wd (shS p x 512) 5 : Nat), .int .u64 (wd (shS p x 512) 6 : Nat), .int .u64 (wd (shS p x 512) 7 : Nat)]) (by simp [results, Tryd.results10, go_sem, *]) rfl ⟨by rw [HR.out], HEX.alloc _⟩
  · have HR : Hid (shiftS p x = fun _ => false) := if_neg hx
    have hx3 : x ≤ -512 ∨ (decide (x ≤ -512) = false ∧ 512 ≤ x) := by simp [shOk] at hx ⊢; omega
    clear hx
    rcases hx3 with h | ⟨h0, h⟩
    · have h' : decide (-512 < x) = false := by simp; omega
      go_enter Tryd.func10, Tryd.ntmps10
      go_wp2_with ((go_at_call 16; (with_reducible refine (rOf_calls _ _ _ (Rd.nil _ _)).mono ?_); rintro e w2 ⟨rfl, h2⟩); simp only [wd_of_nil]; (replace HZ : Hid (Arr w2 (w.heap.size + 1) (fun _ => false)) := Lib.hid (HZ.out.ext h2 HS.out)); (replace HX := Lib.hid (HX.out.trans h2)); (have hls : w.heap.size + 1 < w2.heap.size := Nat.lt_of_lt_of_le HS.out h2.le); clear h2; have H__ := (HZ).out; obtain ⟨ce0, fe0⟩ := H__ 0 (by omega); obtain ⟨ce1, fe1⟩ := H__ 1 (by omega); obtain ⟨ce2, fe2⟩ := H__ 2 (by omega); obtain ⟨ce3, fe3⟩ := H__ 3 (by omega); obtain ⟨ce4, fe4⟩ := H__ 4 (by omega); obtain ⟨ce5, fe5⟩ := H__ 5 (by omega); obtain ⟨ce6, fe6⟩ := H__ 6 (by omega); obtain ⟨ce7, fe7⟩ := H__ 7 (by omega); clear H__)
      have HEX : Hid (Ext w ((((((((w2.setCell ⟨w.heap.size + 1, 0, none⟩ (.int .u64 0)).setCell ⟨w.heap.size + 1, 1, none⟩ (.int .u64 0)).setCell ⟨w.heap.size + 1, 2, none⟩ (.int .u64 0)).setCell ⟨w.heap.size + 1, 3, none⟩ (.int .u64 0)).setCell ⟨w.heap.size + 1, 4, none⟩ (.int .u64 0)).setCell ⟨w.heap.size + 1, 5, none⟩ (.int .u64 0)).setCell ⟨w.heap.size + 1, 6, none⟩ (.int .u64 0)).setCell ⟨w.heap.size + 1, 7, none⟩ (.int .u64 0))) := ((((((((HX.out.set (by first | exact Nat.le_refl _ | exact Nat.le_succ _ | exact Nat.le_add_right _ _ | exact Nat.le_trans (Nat.le_succ _) (Nat.le_succ _) | omega) _).set (by first | exact Nat.le_refl _ | exact Nat.le_succ _ | exact Nat.le_add_right _ _ | exact Nat.le_trans (Nat.le_succ _) (Nat.le_succ _) | omega) _).set (by first | exact Nat.le_refl _ | exact Nat.le_succ _ | exact Nat.le_add_right _ _ | exact Nat.le_trans (Nat.le_succ _) (Nat.le_succ _) | omega) _).set (by first | exact Nat.le_refl _ | exact Nat.le_succ _ | exact Nat.le_add_right _ _ | exact Nat.le_trans (Nat.le_succ _) (Nat.le_succ _) | omega) _).set (by first | exact Nat.le_refl _ | exact Nat.le_succ _ | exact Nat.le_add_right _ _ | exact Nat.le_trans (Nat.le_succ _) (Nat.le_succ _) | omega) _).set (by first | exact Nat.le_refl _ | exact Nat.le_succ _ | exact Nat.le_add_right _ _ | exact Nat.le_trans (Nat.le_succ _) (Nat.le_succ _) | omega) _).set (by first | exact Nat.le_refl _ | exact Nat.le_succ _ | exact Nat.le_add_right _ _ | exact Nat.le_trans (Nat.le_succ _) (Nat.le_succ _) | omega) _).set (by first | exact Nat.le_refl _ | exact Nat.le_succ _ | exact Nat.le_add_right _ _ | exact Nat.le_trans (Nat.le_succ _) (Nat.le_succ _) | omega) _)
      exact bodyPost_ret (v := Value.agg #[.int .u64 0, .int .u64 0, .int .u64 0, .int .u64 0, .int .u64 0, .int .u64 0, .int .u64 0, .int .u64 0]) (by simp [results, Tryd.results10, go_sem, *]) rfl ⟨by rw [HR.out]; simp [wd_none], HEX.alloc _⟩
    · have h1 : -512 < x := by omega
      have h' : decide (x < 512) = false := by simp; omega
      clear h h0
      go_enter Tryd.func10, Tryd.ntmps10
      go_wp2_with ((go_at_call 16; (with_reducible refine (rOf_calls _ _ _ (Rd.nil _ _)).mono ?_); rintro e w2 ⟨rfl, h2⟩); simp only [wd_of_nil]; (replace HZ : Hid (Arr w2 (w.heap.size + 1) (fun _ => false)) := Lib.hid (HZ.out.ext h2 HS.out)); (replace HX := Lib.hid (HX.out.trans h2)); (have hls : w.heap.size + 1 < w2.heap.size := Nat.lt_of_lt_of_le HS.out h2.le); clear h2; have H__ := (HZ).out; obtain ⟨ce0, fe0⟩ := H__ 0 (by omega); obtain ⟨ce1, fe1⟩ := H__ 1 (by omega); obtain ⟨ce2, fe2⟩ := H__ 2 (by omega); obtain ⟨ce3, fe3⟩ := H__ 3 (by omega); obtain ⟨ce4, fe4⟩ := H__ 4 (by omega); obtain ⟨ce5, fe5⟩ := H__ 5 (by omega); obtain ⟨ce6, fe6⟩ := H__ 6 (by omega); obtain ⟨ce7, fe7⟩ := H__ 7 (by omega); clear H__)
      have HEX : Hid (Ext w ((((((((w2.setCell ⟨w.heap.size + 1, 0, none⟩ (.int .u64 0)).setCell ⟨w.heap.size + 1, 1, none⟩ (.int .u64 0)).setCell ⟨w.heap.size + 1, 2, none⟩ (.int .u64 0)).setCell ⟨w.heap.size + 1, 3, none⟩ (.int .u64 0)).setCell ⟨w.heap.size + 1, 4, none⟩ (.int .u64 0)).setCell ⟨w.heap.size + 1, 5, none⟩ (.int .u64 0)).setCell ⟨w.heap.size + 1, 6, none⟩ (.int .u64 0)).setCell ⟨w.heap.size + 1, 7, none⟩ (.int .u64 0))) := ((((((((HX.out.set (by first | exact Nat.le_refl _ | exact Nat.le_succ _ | exact Nat.le_add_right _ _ | exact Nat.le_trans (Nat.le_succ _) (Nat.le_succ _) | omega) _).set (by first | exact Nat.le_refl _ | exact Nat.le_succ _ | exact Nat.le_add_right _ _ | exact Nat.le_trans (Nat.le_succ _) (Nat.le_succ _) | omega) _).set (by first | exact Nat.le_refl _ | exact Nat.le_succ _ | exact Nat.le_add_right _ _ | exact Nat.le_trans (Nat.le_succ _) (Nat.le_succ _) | omega) _).set (by first | exact Nat.le_refl _ | exact Nat.le_succ _ | exact Nat.le_add_right _ _ | exact Nat.le_trans (Nat.le_succ _) (Nat.le_succ _) | omega) _).set (by first | exact Nat.le_refl _ | exact Nat.le_succ _ | exact Nat.le_add_right _ _ | exact Nat.le_trans (Nat.le_succ _) (Nat.le_succ _) | omega) _).set (by first | exact Nat.le_refl _ | exact Nat.le_succ _ | exact Nat.le_add_right _ _ | exact Nat.le_trans (Nat.le_succ _) (Nat.le_succ _) | omega) _).set (by first | exact Nat.le_refl _ | exact Nat.le_succ _ | exact Nat.le_add_right _ _ | exact Nat.le_trans (Nat.le_succ _) (Nat.le_succ _) | omega) _).set (by first | exact Nat.le_refl _ | exact Nat.le_succ _ | exact Nat.le_add_right _ _ | exact Nat.le_trans (Nat.le_succ _) (Nat.le_succ _) | omega) _)
      exact bodyPost_ret (v := Value.agg #[.int .u64 0, .int .u64 0, .int .u64 0, .int .u64 0, .int .u64 0, .int .u64 0, .int .u64 0, .int .u64 0]) (by simp [results, Tryd.results10, go_sem, *]) rfl ⟨by rw [HR.out]; simp [wd_none], HEX.alloc _⟩
end Go.Proofs.YtbmnjnmpjpdcmaaDoor
