/- The statement TreeReversed: its walk. Conditions: what slices read as. -/
import Derived.Test.YtkjedeofjkdlaaaKnowsC
import Derived.Test.YtkjedeofjkdlaaaTreeG
import Derived.Test.YtkjedeofjkdlaaaTreeH
import Derived.Test.YtkjedeofjkdlaaaRevM
namespace Go.Proofs.Ytkjedeofjkdlaaa
open Go.RowKit Go.Eg

theorem bt_append (s u : ByteArray) (j : Nat) : bt (s ++ u) j = if j < s.size then bt s j else bt u (j - s.size) := by
  unfold bt
  rw [ByteArray.data_append, Array.toList_append, List.getD_eq_getElem?_getD, List.getD_eq_getElem?_getD, List.getD_eq_getElem?_getD, List.getElem?_append]
  have : s.data.toList.length = s.size := by rw [Array.length_toList]; rfl
  rw [this]
  split <;> rfl
theorem bt_extract1 (m : ByteArray) (k : Nat) (h : k < m.size) : (m.extract k (k + 1)).size = 1 ∧ bt (m.extract k (k + 1)) 0 = bt m k := by
  refine ⟨by rw [ByteArray.size_extract]; omega, ?_⟩
  unfold bt
  rw [ByteArray.data_extract, Array.toList_extract, List.getD_eq_getElem?_getD, List.getD_eq_getElem?_getD]
  simp [List.extract_eq_take_drop]

set_option maxHeartbeats 1000000 in
set_option maxRecDepth 100000 in
theorem TreeReversed_err (t : List Nd) (h : errW t ≠ 0) (w : World) (va : Value) (ha : Rd tyNd w t va) (to more : ByteArray) :
    Calls Try.prog 10 #[va, .string to, .string more] w fun r w' => r = .returned (.bool true) ∧ Ext w w' := by
  have h' : (errW t != 0) = true := by simp [h]
  have HR : Hid (revF t = []) := if_neg h
  go_enter Try.func10, Try.ntmps10
  go_wp2_with (first | ((go_at_call 31; (with_reducible refine (Reverse_calls t _ _ ha).mono ?_); rintro e w1 ⟨v1, rfl, ho1, h1⟩); rw [HR.out] at ho1; obtain ⟨A1, c1, rfl, hl1, hm1⟩ := ho1.shape) | ((go_at_call 14; (with_reducible refine (num_calls _ _).mono ?_); rintro e w' ⟨rfl, hw⟩; obtain rfl := hw.symm)) | ((go_at_call 17; (with_reducible refine (knows_calls _).mono ?_); rintro e w3 ⟨rfl, h3⟩)))
  go_ret
  exact ⟨rfl, by (repeat (first | assumption | exact Ext.refl _ | apply Ext.alloc | apply Ext.drew | apply Ext.drewN | refine Ext.trans ?_ (by assumption)))⟩

set_option maxHeartbeats 2000000 in
set_option maxRecDepth 100000 in
theorem TreeReversed_ok (x : T) (hx : x.wf) (t : List Nd) (ht : t = x.flat) (hlen : t.length ≤ 4000) (w : World) (va : Value) (ha : Rd tyNd w t va) (to more : ByteArray) (hto : to.size ≤ 140737488351232) (hmo : more.size ≤ 140737488351232) :
    Calls Try.prog 10 #[va, .string to, .string more] w fun r w' => r = .returned (.bool true) ∧ Ext w w' := by
  have hxl : x.flat.length ≤ 4000 := by rw [← ht]; exact hlen
  obtain ⟨f1, f2, f3, f4, f5⟩ := rev_facts hx hxl
  have HE : Hid (errW t = 0) := by show _ = _; rw [ht]; exact errW_flat hx hxl
  have HR : Hid (revF t = x.rev.flat) := by show _ = _; rw [ht]; exact f2
  have HER : Hid (errW x.rev.flat = 0) := f1
  have HRR : Hid (revF x.rev.flat = t) := by show _ = _; rw [ht]; exact f3
  have HD : Hid (depF everyK t = x.dep everyK) := by show _ = _; rw [ht]; exact f5 _
  have HS : Hid (depF starK t = x.dep starK) := by show _ = _; rw [ht]; exact f5 _
  have HDR : Hid (depF everyK x.rev.flat = x.dep everyK) := f4 _
  have HSR : Hid (depF starK x.rev.flat = x.dep starK) := f4 _
  have hsd := stars_lt hx
  have HL : Hid (x.rev.flat.length = t.length) := by show _ = _; rw [ht]; exact T.rev_len x
  obtain ⟨A, c, rfl, hlc, hcm⟩ := ha.shape
  clear f1 f2 f3 f4 f5 ht hxl hx
  generalize x.rev.flat = r at *
  generalize x.dep everyK = d at *
  generalize x.dep starK = s at *
  have hrl : ((r.length : Int) != (t.length : Int)) = false := by rw [HL.out]; simp
  have hds : decide (d ≤ s) = false := by simp; omega
  go_enter Try.func10, Try.ntmps10
  go_wp2_with (first | ((go_at_call 31; (with_reducible refine (Reverse_calls t _ _ ha).mono ?_); rintro e w1 ⟨v1, rfl, ho1, h1⟩); rw [HR.out] at ho1; rw [HE.out]; obtain ⟨A1, c1, rfl, hl1, hm1⟩ := ho1.shape; have hr1 := ho1.rd) | ((go_at_call 31; (with_reducible refine (Reverse_calls r _ _ (hr1.ext (by (repeat (first | assumption | exact Ext.refl _ | apply Ext.alloc | apply Ext.drew | apply Ext.drewN | refine Ext.trans ?_ (by assumption)))))).mono ?_); rintro e w2 ⟨v2, rfl, ho2, h2⟩); rw [HRR.out] at ho2; rw [HER.out]) | ((go_at_call 23; (with_reducible refine (Depth_calls t _ _ (ha.ext (by (repeat (first | assumption | exact Ext.refl _ | apply Ext.alloc | apply Ext.drew | apply Ext.drewN | refine Ext.trans ?_ (by assumption)))))).mono ?_); rintro e w3 ⟨rfl, h3⟩); rw [HD.out, HE.out]) | ((go_at_call 23; (with_reducible refine (Depth_calls r _ _ (hr1.ext (by (repeat (first | assumption | exact Ext.refl _ | apply Ext.alloc | apply Ext.drew | apply Ext.drewN | refine Ext.trans ?_ (by assumption)))))).mono ?_); rintro e w3 ⟨rfl, h3⟩); rw [HDR.out, HER.out]) | ((go_at_call 27; (with_reducible refine (Stars_calls t _ _ (ha.ext (by (repeat (first | assumption | exact Ext.refl _ | apply Ext.alloc | apply Ext.drew | apply Ext.drewN | refine Ext.trans ?_ (by assumption)))))).mono ?_); rintro e w3 ⟨rfl, h3⟩); rw [HS.out, HE.out]) | ((go_at_call 27; (with_reducible refine (Stars_calls r _ _ (hr1.ext (by (repeat (first | assumption | exact Ext.refl _ | apply Ext.alloc | apply Ext.drew | apply Ext.drewN | refine Ext.trans ?_ (by assumption)))))).mono ?_); rintro e w3 ⟨rfl, h3⟩); rw [HSR.out, HER.out]) | ((go_at_call 22; (with_reducible refine (sameNodes_calls t t _ _ _ (ho2.rd.ext (by (repeat (first | assumption | exact Ext.refl _ | apply Ext.alloc | apply Ext.drew | apply Ext.drewN | refine Ext.trans ?_ (by assumption))))) (ha.ext (by (repeat (first | assumption | exact Ext.refl _ | apply Ext.alloc | apply Ext.drew | apply Ext.drewN | refine Ext.trans ?_ (by assumption)))))).mono ?_); rintro e w4 ⟨rfl, h4⟩); rw [decide_eq_true (rfl : t = t)]) | ((go_at_call 14; (with_reducible refine (num_calls _ _).mono ?_); rintro e w' ⟨rfl, hw⟩; obtain rfl := hw.symm)) | ((go_at_call 17; (with_reducible refine (knows_calls _).mono ?_); rintro e w3 ⟨rfl, h3⟩)))
  have hx4 : Ext w w4 := by (repeat (first | assumption | exact Ext.refl _ | apply Ext.alloc | apply Ext.drew | apply Ext.drewN | refine Ext.trans ?_ (by assumption)))
  replace ha := ha.ext hx4
  by_cases hk : renE t (bt to) to.size = 0
  · have HK := Lib.hid hk
    have HKL := Lib.hid (renL_map hk)
    obtain ⟨k1, k2, k3⟩ := renE_zero hk
    clear hk
    by_cases hm : renE (t.map (renN (bt to))) (bt more) more.size = 0
    · have HM := Lib.hid hm
      have HML := Lib.hid (renL_map hm)
      obtain ⟨m1, m2, m3⟩ := renE_zero hm
      have HA := Lib.hid k3
      have HAM := Lib.hid m3
      clear hm k1 k3 m1 m3
      have HTO := Lib.hid k2
      have hto8 : to.size = 8 := k2
      have hmo8 : more.size = 8 := m2
      clear k2 m2
      go_wp2_with (first | ((go_at_call 32; (with_reducible refine (Rename_calls t to _ _ ha hto).mono ?_); rintro e w5 ⟨v5, rfl, ho5, h5⟩); rw [HKL.out] at ho5; rw [HK.out]) | ((go_at_call 32; (with_reducible refine (Rename_calls (t.map (renN (bt to))) more _ _ ho5.rd hmo).mono ?_); rintro e w6 ⟨v6, rfl, ho6, h6⟩); rw [HML.out] at ho6; rw [HM.out]) | ((go_at_call 14; (with_reducible refine (num_calls _ _).mono ?_); rintro e w' ⟨rfl, hw⟩; obtain rfl := hw.symm)))
      have hx6 : Ext w4 w6 := by (repeat (first | assumption | exact Ext.refl _ | apply Ext.alloc | apply Ext.drew | apply Ext.drewN | refine Ext.trans ?_ (by assumption)))
      go_loopw [23, 24] (fun v23 v24 wr => ∃ (i : Nat) (s : ByteArray), v24 = .int .i64 i ∧ i ≤ 8 ∧ v23 = .string s ∧ s.size = i ∧ Hid (∀ j, j < i → bt s j = bt more (bt to j - 97).toNat) ∧ Ext w6 wr) (fun _ v24 _ => 8 - (intOf v24).toNat)
      case atStart => exact ⟨0, .empty, rfl, by omega, rfl, rfl, Lib.hid (fun j hj => absurd hj (by omega)), by (repeat (first | assumption | exact Ext.refl _ | apply Ext.alloc | apply Ext.drew | apply Ext.drewN | refine Ext.trans ?_ (by assumption)))⟩
      case round =>
        obtain ⟨i, s, rfl, hi, rfl, hss, HI, he⟩ := hrel
        by_cases hlt : i < 8
        · have hlt' : i < to.size := by omega
          have hbt := bt_at to i hlt'
          have hA := allAH_of HA.out hlt'
          simp only [isAH, Bool.and_eq_true, decide_eq_true_eq] at hA
          obtain ⟨hA1, hA2⟩ := hA
          have HX := Lib.hid (rfl : bt to i = bt to i)
          generalize hb : bt to i = b at *
          have HB := Lib.hid hb
          clear hb HX
          have hw1 : IntKind.u8.wrap (b - 97) = b - 97 := IntWalk.u8_in _ (by omega)
          have hw2 : IntKind.u8.wrap (b - 97 + 1) = b - 97 + 1 := IntWalk.u8_in _ (by omega)
          have hc1 : (0 : Int) ≤ b - 97 := by omega
          have hc2 : b - 97 ≤ b - 97 + 1 := by omega
          have hc3 : b - 97 + 1 ≤ (more.size : Int) := by omega
          go_wp2_with fail
          go_quiet (fail)
          go_wp2_with fail
          go_roundw
          case rel =>
            have hk : (b - 97 + 1).toNat = (b - 97).toNat + 1 := by omega
            have hk2 : (b - 97).toNat < more.size := by omega
            obtain ⟨x1, x2⟩ := bt_extract1 more (b - 97).toNat hk2
            refine ⟨i + 1, _, by go_num, by omega, rfl, ?_, Lib.hid (fun j hj => ?_), by (repeat (first | assumption | exact Ext.refl _ | apply Ext.alloc | apply Ext.drew | apply Ext.drewN | refine Ext.trans ?_ (by assumption)))⟩
            · rw [ByteArray.size_append, hk, x1, hss]
            · rw [bt_append]
              split
              · rename_i h; exact HI.out j (by omega)
              · rename_i h
                have : j = i := by omega
                subst this
                rw [hss, Nat.sub_self, hk, x2, HB.out]
          case measure => simp [intOf]; omega
        · have hi8 : i = 8 := by omega
          subst hi8
          have HMP : Hid ((t.map (renN (bt to))).map (renN (bt more)) = t.map (renN (bt s))) := ren_ren (renE_zero (by rw [HTO.out] at *; exact HK.out)).1 (fun j hj => HI.out j hj)
          have HEB : Hid (renE t (bt s) s.size = 0) := renE_both HK.out (by have := HAM.out; rwa [hmo8] at this) hss (fun j hj => HI.out j hj)
          have HLB := Lib.hid (renL_map HEB.out)
          have hsz : s.size ≤ 140737488351232 := by omega
          have HLL : Hid ((t.map (renN (bt s))).length = t.length) := List.length_map _
          clear HI HK HKL HM HML HA HAM
          go_wp2_with (first | ((go_at_call 32; (with_reducible refine (Rename_calls t s _ _ (ha.ext (hx6.trans he)) hsz).mono ?_); rintro e w7 ⟨v7, rfl, ho7, h7⟩); rw [HLB.out] at ho7; rw [HEB.out]; obtain ⟨A7, c7, e7, hl7, hm7⟩ := ho7.shape; rw [HLL.out] at e7; subst e7) | ((go_at_call 22; (with_reducible refine (sameNodes_calls ((t.map (renN (bt to))).map (renN (bt more))) (t.map (renN (bt s))) _ _ _ (ho6.rd.ext (by (repeat (first | assumption | exact Ext.refl _ | apply Ext.alloc | apply Ext.drew | apply Ext.drewN | refine Ext.trans ?_ (by assumption))))) ho7.rd).mono ?_); rintro e w8 ⟨rfl, h8⟩); rw [decide_eq_true HMP.out]) | ((go_at_call 14; (with_reducible refine (num_calls _ _).mono ?_); rintro e w' ⟨rfl, hw⟩; obtain rfl := hw.symm)))
          go_ret
          exact ⟨rfl, by (repeat (first | assumption | exact Ext.refl _ | apply Ext.alloc | apply Ext.drew | apply Ext.drewN | refine Ext.trans ?_ (by assumption)))⟩
    · have hm' : (renE (t.map (renN (bt to))) (bt more) more.size != 0) = true := by simp [hm]
      have HML := Lib.hid (renL_nil hm)
      generalize hee : renE (t.map (renN (bt to))) (bt more) more.size = e at *
      have HEE := Lib.hid hee
      clear hm hee
      go_wp2_with (first | ((go_at_call 32; (with_reducible refine (Rename_calls t to _ _ ha hto).mono ?_); rintro e w5 ⟨v5, rfl, ho5, h5⟩); rw [HKL.out] at ho5; rw [HK.out]) | ((go_at_call 32; (with_reducible refine (Rename_calls (t.map (renN (bt to))) more _ _ ho5.rd hmo).mono ?_); rintro e w6 ⟨v6, rfl, ho6, h6⟩); rw [HML.out] at ho6; rw [HEE.out]; obtain ⟨A6, c6, rfl, hl6, hm6⟩ := ho6.shape) | ((go_at_call 14; (with_reducible refine (num_calls _ _).mono ?_); rintro e w' ⟨rfl, hw⟩; obtain rfl := hw.symm)))
      go_ret
      exact ⟨rfl, by (repeat (first | assumption | exact Ext.refl _ | apply Ext.alloc | apply Ext.drew | apply Ext.drewN | refine Ext.trans ?_ (by assumption)))⟩
  · have hk' : (renE t (bt to) to.size != 0) = true := by simp [hk]
    have HKL := Lib.hid (renL_nil hk)
    generalize hee : renE t (bt to) to.size = e at *
    have HEE := Lib.hid hee
    clear hk hee
    go_wp2_with (first | ((go_at_call 32; (with_reducible refine (Rename_calls t to _ _ ha hto).mono ?_); rintro e w5 ⟨v5, rfl, ho5, h5⟩); rw [HKL.out] at ho5; rw [HEE.out]; obtain ⟨A5, c5, rfl, hl5, hm5⟩ := ho5.shape) | ((go_at_call 14; (with_reducible refine (num_calls _ _).mono ?_); rintro e w' ⟨rfl, hw⟩; obtain rfl := hw.symm)))
    go_ret
    exact ⟨rfl, by (repeat (first | assumption | exact Ext.refl _ | apply Ext.alloc | apply Ext.drew | apply Ext.drewN | refine Ext.trans ?_ (by assumption)))⟩

theorem TreeReversed_calls (t : List Nd) (to more : ByteArray) (w : World) (va : Value) (ha : Rd tyNd w t va) (_ : t.length * 16 ≤ 140737488351232) (hto : to.size ≤ 140737488351232) (hmo : more.size ≤ 140737488351232) :
    Calls Try.prog 10 #[va, .string to, .string more] w fun r w' => r = .returned (.bool true) ∧ Ext w w' := by
  by_cases h : errW t = 0
  · obtain ⟨hl, hk⟩ := errW_ok h
    obtain ⟨hw, hf⟩ := tr_of hk
    exact TreeReversed_ok (tr t) hw t hf.symm hl w va ha to more hto hmo
  · exact TreeReversed_err t h w va ha to more
end Go.Proofs.Ytkjedeofjkdlaaa
