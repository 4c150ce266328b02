/- Walks of the reference of chapter 2: With, Without. Conditions: none. -/
import Derived.Test.YtbmnjnmpjpdcmaaDoorBitsLa
import Derived.Test.YtbmnjnmpjpdcmaaDoorWithM
namespace Go.Proofs.YtbmnjnmpjpdcmaaDoor
open Go.RowKit Go.Eg

set_option maxHeartbeats 2000000 in
set_option maxRecDepth 100000 in
theorem rWith_calls (p : Nat → Bool) (x : Int) (w : World) : Calls Tryd.prog 18 #[Value.agg #[.int .u64 (wd (p) 0 : Nat), .int .u64 (wd (p) 1 : Nat), .int .u64 (wd (p) 2 : Nat), .int .u64 (wd (p) 3 : Nat), .int .u64 (wd (p) 4 : Nat), .int .u64 (wd (p) 5 : Nat), .int .u64 (wd (p) 6 : Nat), .int .u64 (wd (p) 7 : Nat)], .int .i64 x] w fun e w' => e = .returned (.tuple #[Value.agg #[.int .u64 (wd (withS p x) 0 : Nat), .int .u64 (wd (withS p x) 1 : Nat), .int .u64 (wd (withS p x) 2 : Nat), .int .u64 (wd (withS p x) 3 : Nat), .int .u64 (wd (withS p x) 4 : Nat), .int .u64 (wd (withS p x) 5 : Nat), .int .u64 (wd (withS p x) 6 : Nat), .int .u64 (wd (withS p x) 7 : Nat)], .int .i64 (errI x)]) ∧ Ext w w' := by
  have HZ : Hid (Arr ((w.alloc (.cells #[Value.int .u64 (wd (p) 0 : Nat), .int .u64 (wd (p) 1 : Nat), .int .u64 (wd (p) 2 : Nat), .int .u64 (wd (p) 3 : Nat), .int .u64 (wd (p) 4 : Nat), .int .u64 (wd (p) 5 : Nat), .int .u64 (wd (p) 6 : Nat), .int .u64 (wd (p) 7 : Nat)] 24)).alloc (.cells #[Value.int .u64 0, .int .u64 0, .int .u64 0, .int .u64 0, .int .u64 0, .int .u64 0, .int .u64 0, .int .u64 0] 24)) (w.heap.size + 1) (fun _ => false)) := Lib.hid (Arr.zero (by simp))
  have HX : Hid (Ext w ((w.alloc (.cells #[Value.int .u64 (wd (p) 0 : Nat), .int .u64 (wd (p) 1 : Nat), .int .u64 (wd (p) 2 : Nat), .int .u64 (wd (p) 3 : Nat), .int .u64 (wd (p) 4 : Nat), .int .u64 (wd (p) 5 : Nat), .int .u64 (wd (p) 6 : Nat), .int .u64 (wd (p) 7 : Nat)] 24)).alloc (.cells #[Value.int .u64 0, .int .u64 0, .int .u64 0, .int .u64 0, .int .u64 0, .int .u64 0, .int .u64 0, .int .u64 0] 24))) := by show Ext _ _; (repeat (first | assumption | exact Ext.refl _ | apply Ext.alloc | apply Ext.drew | apply Ext.drewN | refine Ext.set ?_ (by first | exact Nat.le_refl _ | assumption | exact Nat.le_succ _ | exact Nat.le_add_right _ _ | exact Nat.le_trans (Nat.le_succ _) (Nat.le_succ _) | omega) _ | refine Ext.trans ?_ (by assumption)))
  have HS : Hid (w.heap.size + 1 < (((w.alloc (.cells #[Value.int .u64 (wd (p) 0 : Nat), .int .u64 (wd (p) 1 : Nat), .int .u64 (wd (p) 2 : Nat), .int .u64 (wd (p) 3 : Nat), .int .u64 (wd (p) 4 : Nat), .int .u64 (wd (p) 5 : Nat), .int .u64 (wd (p) 6 : Nat), .int .u64 (wd (p) 7 : Nat)] 24)).alloc (.cells #[Value.int .u64 0, .int .u64 0, .int .u64 0, .int .u64 0, .int .u64 0, .int .u64 0, .int .u64 0, .int .u64 0] 24))).heap.size) := by show _ < _; simp
  have HO := Lib.hid (err_with p x)
  have HW := Lib.hid (fun j hj => wd_with p x j hj)
  have HLC := Lib.hid (rList_calls p)
  have hll := numsB_len p 512
  generalize numsB p 512 = L at *
  go_enter Tryd.func18, Tryd.ntmps18
  go_wp2_with (first
    | ((go_at_call 25; (with_reducible refine (HLC.out _).mono ?_); rintro e w1 ⟨v1, rfl, ho1, h1⟩); (obtain ⟨A1, c1, rfl, h11, h12⟩ := ho1.shape); (replace HZ := Lib.hid (HZ.out.ext h1 HS.out)); (replace HX := Lib.hid (HX.out.trans h1)); (replace HS := Lib.hid (Nat.lt_of_lt_of_le HS.out h1.le)); have g1 := h1.le)
    | ((with_reducible refine gate_bi .append #[.tmp 7, .tmp 9] ?_); refine wp_append (t := Ty.int .i64) 3 (w.heap.size + 1 + 1) 8 elInt No _ L rfl ((ho1.rebase (fun k hk => by have := ho1.lo k hk; simpa using this)).ext (by (repeat (first | assumption | exact Ext.refl _ | apply Ext.alloc | apply Ext.drew | apply Ext.drewN | refine Ext.trans ?_ (by assumption))))) _ [x] rfl Any (SlP.one _ _ (fun _ _ => rfl)) (fun _ _ h => h) (by simp; omega) (by decide) (by simp at g1 ⊢; omega) ?_; intro v6 w6 ho6 hg6 _; (have hx6 : ∀ w0, Ext w0 w1 → w0.heap.size ≤ w.heap.size + 1 + 1 → Ext w0 w6 := fun w0 h h2 => Ext.grown (h.alloc _) hg6 (fun k hk => by have := ho1.lo k hk; simp at this; omega)); (have hk6 := hg6.block (w.heap.size + 1) (by have := HS.out; simp; omega) (fun e => by have := ho1.lo _ e.symm; simp at this; omega)); (replace HZ : Hid (Arr w6 (w.heap.size + 1) (fun _ => false)) := Lib.hid (fun j hj => ⟨(World.cell?_of_block (a := ⟨w.heap.size + 1, j, none⟩) hk6).trans ((((Ext.refl w1).alloc _).cell _ _ HS.out).trans (HZ.out j hj).1), (World.frozen?_of_block (a := ⟨w.heap.size + 1, j, none⟩) hk6).trans ((((Ext.refl w1).alloc _).frozens _ _ HS.out).trans (HZ.out j hj).2)⟩)); (replace HX := Lib.hid (hx6 _ HX.out (Nat.le_trans (Nat.le_succ _) (Nat.le_succ _)))); (replace HS : Hid (w.heap.size + 1 < w6.heap.size) := Lib.hid (by have a := HS.out; have b := hg6.size; simp at b; show _ < _; omega)))
    | ((go_at_call 16; (with_reducible refine (rOf_calls _ _ _ ho6.rd).mono ?_); rintro e w2 ⟨rfl, h2⟩); rw [HO.out, HW.out 0 (by omega), HW.out 1 (by omega), HW.out 2 (by omega), HW.out 3 (by omega), HW.out 4 (by omega), HW.out 5 (by omega), HW.out 6 (by omega), HW.out 7 (by omega)]; (replace HZ : Hid (Arr w2 (w.heap.size + 1) (fun _ => false)) := Lib.hid (HZ.out.ext (h2) HS.out)); (replace HX := Lib.hid (HX.out.trans (h2))); clear h2; have H__ := (HZ).out; obtain ⟨ce0, fe0⟩ := H__ 0 (by omega); obtain ⟨ce1, fe1⟩ := H__ 1 (by omega); obtain ⟨ce2, fe2⟩ := H__ 2 (by omega); obtain ⟨ce3, fe3⟩ := H__ 3 (by omega); obtain ⟨ce4, fe4⟩ := H__ 4 (by omega); obtain ⟨ce5, fe5⟩ := H__ 5 (by omega); obtain ⟨ce6, fe6⟩ := H__ 6 (by omega); obtain ⟨ce7, fe7⟩ := H__ 7 (by omega); clear H__))
  have HEX : Hid (Ext w ((((((((w2.setCell ⟨w.heap.size + 1, 0, none⟩ (.int .u64 (wd (withS p x) 0 : Nat))).setCell ⟨w.heap.size + 1, 1, none⟩ (.int .u64 (wd (withS p x) 1 : Nat))).setCell ⟨w.heap.size + 1, 2, none⟩ (.int .u64 (wd (withS p x) 2 : Nat))).setCell ⟨w.heap.size + 1, 3, none⟩ (.int .u64 (wd (withS p x) 3 : Nat))).setCell ⟨w.heap.size + 1, 4, none⟩ (.int .u64 (wd (withS p x) 4 : Nat))).setCell ⟨w.heap.size + 1, 5, none⟩ (.int .u64 (wd (withS p x) 5 : Nat))).setCell ⟨w.heap.size + 1, 6, none⟩ (.int .u64 (wd (withS p x) 6 : Nat))).setCell ⟨w.heap.size + 1, 7, none⟩ (.int .u64 (wd (withS p x) 7 : Nat)))) := ((((((((HX.out.set (by first | exact Nat.le_refl _ | exact Nat.le_succ _ | exact Nat.le_add_right _ _ | exact Nat.le_trans (Nat.le_succ _) (Nat.le_succ _) | omega) _).set (by first | exact Nat.le_refl _ | exact Nat.le_succ _ | exact Nat.le_add_right _ _ | exact Nat.le_trans (Nat.le_succ _) (Nat.le_succ _) | omega) _).set (by first | exact Nat.le_refl _ | exact Nat.le_succ _ | exact Nat.le_add_right _ _ | exact Nat.le_trans (Nat.le_succ _) (Nat.le_succ _) | omega) _).set (by first | exact Nat.le_refl _ | exact Nat.le_succ _ | exact Nat.le_add_right _ _ | exact Nat.le_trans (Nat.le_succ _) (Nat.le_succ _) | omega) _).set (by first | exact Nat.le_refl _ | exact Nat.le_succ _ | exact Nat.le_add_right _ _ | exact Nat.le_trans (Nat.le_succ _) (Nat.le_succ _) | omega) _).set (by first | exact Nat.le_refl _ | exact Nat.le_succ _ | exact Nat.le_add_right _ _ | exact Nat.le_trans (Nat.le_succ _) (Nat.le_succ _) | omega) _).set (by first | exact Nat.le_refl _ | exact Nat.le_succ _ | exact Nat.le_add_right _ _ | exact Nat.le_trans (Nat.le_succ _) (Nat.le_succ _) | omega) _).set (by first | exact Nat.le_refl _ | exact Nat.le_succ _ | exact Nat.le_add_right _ _ | exact Nat.le_trans (Nat.le_succ _) (Nat.le_succ _) | omega) _)
  exact bodyPost_ret (v := .tuple #[Value.agg #[.int .u64 (wd (withS p x) 0 : Nat), .int .u64 (wd (withS p x) 1 : Nat), .int .u64 (wd (withS p x) 2 : Nat), .int .u64 (wd (withS p x) 3 : Nat), .int .u64 (wd (withS p x) 4 : Nat), .int .u64 (wd (withS p x) 5 : Nat), .int .u64 (wd (withS p x) 6 : Nat), .int .u64 (wd (withS p x) 7 : Nat)], .int .i64 (errI x)]) (by simp [results, Tryd.results18, go_sem, *]) rfl ⟨rfl, HEX⟩
set_option maxHeartbeats 2000000 in
set_option maxRecDepth 100000 in
theorem rWithout_calls (p : Nat → Bool) (x : Int) (w : World) : Calls Tryd.prog 20 #[Value.agg #[.int .u64 (wd (p) 0 : Nat), .int .u64 (wd (p) 1 : Nat), .int .u64 (wd (p) 2 : Nat), .int .u64 (wd (p) 3 : Nat), .int .u64 (wd (p) 4 : Nat), .int .u64 (wd (p) 5 : Nat), .int .u64 (wd (p) 6 : Nat), .int .u64 (wd (p) 7 : Nat)], .int .i64 x] w fun e w' => e = .returned (.tuple #[Value.agg #[.int .u64 (wd (dropS p x) 0 : Nat), .int .u64 (wd (dropS p x) 1 : Nat), .int .u64 (wd (dropS p x) 2 : Nat), .int .u64 (wd (dropS p x) 3 : Nat), .int .u64 (wd (dropS p x) 4 : Nat), .int .u64 (wd (dropS p x) 5 : Nat), .int .u64 (wd (dropS p x) 6 : Nat), .int .u64 (wd (dropS p x) 7 : Nat)], .int .i64 (errI x)]) ∧ Ext w w' := by
  have HZ : Hid (Arr ((w.alloc (.cells #[Value.int .u64 (wd (p) 0 : Nat), .int .u64 (wd (p) 1 : Nat), .int .u64 (wd (p) 2 : Nat), .int .u64 (wd (p) 3 : Nat), .int .u64 (wd (p) 4 : Nat), .int .u64 (wd (p) 5 : Nat), .int .u64 (wd (p) 6 : Nat), .int .u64 (wd (p) 7 : Nat)] 24)).alloc (.cells #[Value.int .u64 0, .int .u64 0, .int .u64 0, .int .u64 0, .int .u64 0, .int .u64 0, .int .u64 0, .int .u64 0] 24)) (w.heap.size + 1) (fun _ => false)) := Lib.hid (Arr.zero (by simp))
  have HX : Hid (Ext w ((w.alloc (.cells #[Value.int .u64 (wd (p) 0 : Nat), .int .u64 (wd (p) 1 : Nat), .int .u64 (wd (p) 2 : Nat), .int .u64 (wd (p) 3 : Nat), .int .u64 (wd (p) 4 : Nat), .int .u64 (wd (p) 5 : Nat), .int .u64 (wd (p) 6 : Nat), .int .u64 (wd (p) 7 : Nat)] 24)).alloc (.cells #[Value.int .u64 0, .int .u64 0, .int .u64 0, .int .u64 0, .int .u64 0, .int .u64 0, .int .u64 0, .int .u64 0] 24))) := by show Ext _ _; (repeat (first | assumption | exact Ext.refl _ | apply Ext.alloc | apply Ext.drew | apply Ext.drewN | refine Ext.set ?_ (by first | exact Nat.le_refl _ | assumption | exact Nat.le_succ _ | exact Nat.le_add_right _ _ | exact Nat.le_trans (Nat.le_succ _) (Nat.le_succ _) | omega) _ | refine Ext.trans ?_ (by assumption)))
  have HS : Hid (w.heap.size + 1 < (((w.alloc (.cells #[Value.int .u64 (wd (p) 0 : Nat), .int .u64 (wd (p) 1 : Nat), .int .u64 (wd (p) 2 : Nat), .int .u64 (wd (p) 3 : Nat), .int .u64 (wd (p) 4 : Nat), .int .u64 (wd (p) 5 : Nat), .int .u64 (wd (p) 6 : Nat), .int .u64 (wd (p) 7 : Nat)] 24)).alloc (.cells #[Value.int .u64 0, .int .u64 0, .int .u64 0, .int .u64 0, .int .u64 0, .int .u64 0, .int .u64 0, .int .u64 0] 24))).heap.size) := by show _ < _; simp
  by_cases hin : inR x = true
  · have HE : Hid (errI x = 0) := if_pos hin
    have HF : Hid (dropS p x = delSet p x) := if_pos hin
    have HO := Lib.hid (err_del p x)
    have HW := Lib.hid (fun j hj => wd_del p x j hj)
    have HLC := Lib.hid (rList_calls p)
    have hll := numsB_len p 512
    generalize numsB p 512 = L at *
    simp only [inR, Bool.and_eq_true, decide_eq_true_eq] at hin
    obtain ⟨h0, h1⟩ := hin
    have n0 : decide (x < 0) = false := by simpa using h0
    have n1 : decide (512 ≤ x) = false := by simpa using h1
    clear h0 h1
    go_enter Tryd.func20, Tryd.ntmps20
    go_wp2_with (first
      | ((go_at_call 25; (with_reducible refine (HLC.out _).mono ?_); rintro e w1 ⟨v1, rfl, ho1, h1⟩); (obtain ⟨A1, c1, rfl, h11, h12⟩ := ho1.shape); (replace HZ := Lib.hid (HZ.out.ext h1 HS.out)); (replace HX := Lib.hid (HX.out.trans h1)); (replace HS := Lib.hid (Nat.lt_of_lt_of_le HS.out h1.le))))
    have hr := Lib.hid ho1.rd
    clear ho1 h1
    go_loopw [6, 8] (fun v6 v8 wr => ∃ i : Nat, v8 = .int .i64 i ∧ i ≤ L.length ∧ Own (Ty.int .i64) 3 w1.heap.size No wr (delL x (L.take i)) v6 ∧ Ext w1 wr) (fun _ v8 _ => L.length - (intOf v8).toNat)
    case atStart => exact ⟨0, rfl, by omega, Own.nil _ _ _ _ _, Ext.refl _⟩
    case round =>
      obtain ⟨i, rfl, hi, ho, he⟩ := hrel
      obtain ⟨A5, c5, rfl, h51, h52⟩ := ho.shape
      by_cases hlt : i < L.length
      · obtain ⟨y, hy⟩ : ∃ y, L[i]? = some y := ⟨_, List.getElem?_eq_getElem hlt⟩
        obtain ⟨b, off, rfl, hb, hc⟩ := (hr.out.ext he).int hy
        have hln := delL_len x (L.take i)
        rw [List.length_take] at hln
        have hi0 : (0 : Int) ≤ (i : Int) := by omega
        have hi1 : (i : Int) < L.length := by omega
        cases hne : (y != x)
        · have HL := Lib.hid (delL_out hy hne)
          clear hy
          generalize delL x (L.take i) = M at *
          go_wp2_with fail
          go_roundw
          case rel => exact ⟨i + 1, by go_num, by omega, by rw [HL.out]; exact ho, he⟩
          case measure => simp [intOf]; omega
        · have HL := Lib.hid (delL_in hy hne)
          clear hy
          generalize delL x (L.take i) = M at *
          go_wp2_with (first | ((with_reducible refine gate_bi .append #[.tmp 30, .tmp 35] ?_); refine wp_append (t := Ty.int .i64) 3 w1.heap.size 8 elInt No _ M rfl (ho.ext (by (repeat (first | assumption | exact Ext.refl _ | apply Ext.alloc | apply Ext.drew | apply Ext.drewN | refine Ext.trans ?_ (by assumption))))) _ [y] rfl Any (SlP.one _ _ (fun _ _ => rfl)) (fun _ _ h => h) (by simp; omega) (by decide) (by have hle__ := he.le; simp; omega) ?_; intro v7 w7 ho7 hg7 _; have hx7 := Ext.grown (by (repeat (first | assumption | exact Ext.refl _ | apply Ext.alloc | apply Ext.drew | apply Ext.drewN | refine Ext.trans ?_ (by assumption))) : Ext w1 _) hg7 ho.lo))
          go_roundw
          case rel => exact ⟨i + 1, by go_num, by omega, by rw [HL.out]; exact ho7, hx7⟩
          case measure => simp [intOf]; omega
      · have hi' : i = L.length := by omega
        subst hi'
        rw [List.take_length] at ho
        go_wp2_with ((go_at_call 16; (with_reducible refine (rOf_calls _ _ _ ho.rd).mono ?_); rintro e w2 ⟨rfl, h2⟩); rw [HO.out, HW.out 0 (by omega), HW.out 1 (by omega), HW.out 2 (by omega), HW.out 3 (by omega), HW.out 4 (by omega), HW.out 5 (by omega), HW.out 6 (by omega), HW.out 7 (by omega)]; (replace HZ : Hid (Arr w2 (w.heap.size + 1) (fun _ => false)) := Lib.hid (HZ.out.ext (he.trans h2) HS.out)); (replace HX := Lib.hid (HX.out.trans (he.trans h2))); clear h2; have H__ := (HZ).out; obtain ⟨ce0, fe0⟩ := H__ 0 (by omega); obtain ⟨ce1, fe1⟩ := H__ 1 (by omega); obtain ⟨ce2, fe2⟩ := H__ 2 (by omega); obtain ⟨ce3, fe3⟩ := H__ 3 (by omega); obtain ⟨ce4, fe4⟩ := H__ 4 (by omega); obtain ⟨ce5, fe5⟩ := H__ 5 (by omega); obtain ⟨ce6, fe6⟩ := H__ 6 (by omega); obtain ⟨ce7, fe7⟩ := H__ 7 (by omega); clear H__)
        have HEX : Hid (Ext w ((((((((w2.setCell ⟨w.heap.size + 1, 0, none⟩ (.int .u64 (wd (delSet p x) 0 : Nat))).setCell ⟨w.heap.size + 1, 1, none⟩ (.int .u64 (wd (delSet p x) 1 : Nat))).setCell ⟨w.heap.size + 1, 2, none⟩ (.int .u64 (wd (delSet p x) 2 : Nat))).setCell ⟨w.heap.size + 1, 3, none⟩ (.int .u64 (wd (delSet p x) 3 : Nat))).setCell ⟨w.heap.size + 1, 4, none⟩ (.int .u64 (wd (delSet p x) 4 : Nat))).setCell ⟨w.heap.size + 1, 5, none⟩ (.int .u64 (wd (delSet p x) 5 : Nat))).setCell ⟨w.heap.size + 1, 6, none⟩ (.int .u64 (wd (delSet p x) 6 : Nat))).setCell ⟨w.heap.size + 1, 7, none⟩ (.int .u64 (wd (delSet p x) 7 : Nat)))) := ((((((((HX.out.set (by first | exact Nat.le_refl _ | exact Nat.le_succ _ | exact Nat.le_add_right _ _ | exact Nat.le_trans (Nat.le_succ _) (Nat.le_succ _) | omega) _).set (by first | exact Nat.le_refl _ | exact Nat.le_succ _ | exact Nat.le_add_right _ _ | exact Nat.le_trans (Nat.le_succ _) (Nat.le_succ _) | omega) _).set (by first | exact Nat.le_refl _ | exact Nat.le_succ _ | exact Nat.le_add_right _ _ | exact Nat.le_trans (Nat.le_succ _) (Nat.le_succ _) | omega) _).set (by first | exact Nat.le_refl _ | exact Nat.le_succ _ | exact Nat.le_add_right _ _ | exact Nat.le_trans (Nat.le_succ _) (Nat.le_succ _) | omega) _).set (by first | exact Nat.le_refl _ | exact Nat.le_succ _ | exact Nat.le_add_right _ _ | exact Nat.le_trans (Nat.le_succ _) (Nat.le_succ _) | omega) _).set (by first | exact Nat.le_refl _ | exact Nat.le_succ _ | exact Nat.le_add_right _ _ | exact Nat.le_trans (Nat.le_succ _) (Nat.le_succ _) | omega) _).set (by first | exact Nat.le_refl _ | exact Nat.le_succ _ | exact Nat.le_add_right _ _ | exact Nat.le_trans (Nat.le_succ _) (Nat.le_succ _) | omega) _).set (by first | exact Nat.le_refl _ | exact Nat.le_succ _ | exact Nat.le_add_right _ _ | exact Nat.le_trans (Nat.le_succ _) (Nat.le_succ _) | omega) _)
        exact bodyPost_ret (v := .tuple #[Value.agg #[.int .u64 (wd (delSet p x) 0 : Nat), .int .u64 (wd (delSet p x) 1 : Nat), .int .u64 (wd (delSet p x) 2 : Nat), .int .u64 (wd (delSet p x) 3 : Nat), .int .u64 (wd (delSet p x) 4 : Nat), .int .u64 (wd (delSet p x) 5 : Nat), .int .u64 (wd (delSet p x) 6 : Nat), .int .u64 (wd (delSet p x) 7 : Nat)], .int .i64 0]) (by simp [results, Tryd.results20, go_sem, *]) rfl ⟨by rw [HF.out, HE.out], HEX⟩
  · have HE : Hid (errI x = 11) := if_neg hin
    have HF : Hid (dropS p x = fun _ => false) := if_neg hin
    have hx : x < 0 ∨ (decide (x < 0) = false ∧ 512 ≤ x) := by simp [inR] at hin ⊢; omega
    clear hin
    rcases hx with hx | ⟨hx0, hx⟩
    all_goals
      go_enter Tryd.func20, Tryd.ntmps20
      go_wp2_with fail
      exact bodyPost_ret (v := .tuple #[Value.agg #[.int .u64 0, .int .u64 0, .int .u64 0, .int .u64 0, .int .u64 0, .int .u64 0, .int .u64 0, .int .u64 0], .int .i64 11]) (by simp [results, Tryd.results20, go_sem, *]) rfl ⟨by rw [HF.out, HE.out]; simp [wd_none], by (repeat (first | assumption | exact Ext.refl _ | apply Ext.alloc | apply Ext.drew | apply Ext.drewN | refine Ext.set ?_ (by first | exact Nat.le_refl _ | assumption | exact Nat.le_succ _ | exact Nat.le_add_right _ _ | exact Nat.le_trans (Nat.le_succ _) (Nat.le_succ _) | omega) _ | refine Ext.trans ?_ (by assumption)))⟩
end Go.Proofs.YtbmnjnmpjpdcmaaDoor
