/- Walks of package tree: Depth, Stars, Check, order, Compare. Conditions: what a slice reads as. -/
import Derived.Test.YtaijjnndnoicpaaTreeD
namespace Go.Proofs.Ytaijjnndnoicpaa
open Go.RowKit Go.Eg

set_option maxHeartbeats 400000 in
theorem Depth_calls (t : List Nd) (v : Value) (w : World) (hr : Rd tyNd w t v) :
    Calls Try.prog 21 #[v] w fun e w' => e = .returned (.tuple #[.int .i64 (depF everyK t), .int .i64 (errW t)]) ∧ Ext w w' := by
  by_cases h : errW t = 0
  · obtain ⟨hl, hk⟩ := errW_ok h
    obtain ⟨hw, hf⟩ := tr_of hk
    have HD : Hid (depF everyK t = (tr t).dep everyK) := if_pos h
    have HF := Lib.hid hf.symm
    clear hf hk
    go_enter Try.func21, Try.ntmps21
    go_wp2_with (first | ((go_at_call 37; (with_reducible refine (wrong_calls t _ _ hr).mono ?_); rintro e w1 ⟨rfl, h1⟩); rw [h]) | ((go_at_call 38; (with_reducible refine (deep_every (tr t) hw t HF.out hl _ _ (hr.ext (by (repeat (first | assumption | exact Ext.refl _ | apply Ext.alloc | apply Ext.drew | apply Ext.drewN | refine Ext.trans ?_ (by assumption)))))).mono ?_); rintro e w2 ⟨rfl, h2⟩)))
    go_ret2
    exact ⟨ret_ii HD.out.symm h.symm, by (repeat (first | assumption | exact Ext.refl _ | apply Ext.alloc | apply Ext.drew | apply Ext.drewN | refine Ext.trans ?_ (by assumption)))⟩
  · have h' : (errW t != 0) = true := by simp [h]
    have HD : Hid (depF everyK t = 0) := if_neg h
    go_enter Try.func21, Try.ntmps21
    go_wp2_with ((go_at_call 37; (with_reducible refine (wrong_calls t _ _ hr).mono ?_); rintro e w1 ⟨rfl, h1⟩))
    go_ret2
    exact ⟨ret_ii HD.out.symm rfl, by (repeat (first | assumption | exact Ext.refl _ | apply Ext.alloc | apply Ext.drew | apply Ext.drewN | refine Ext.trans ?_ (by assumption)))⟩

set_option maxHeartbeats 1000000 in
theorem Check_calls (k : Int) (t : List Nd) (v : Value) (w : World) (hr : Rd tyNd w t v) :
    Calls Try.prog 27 #[.int .i64 k, v] w fun e w' => e = .returned (.int .i64 (chkF k t)) ∧ Ext w w' := by
  obtain ⟨A, c, rfl, hlc, hcm⟩ := hr.shape
  unfold maxLen at hcm
  by_cases hk : k < 1 ∨ 8 < k
  · have HE : Hid (chkF k t = 20) := if_pos hk
    by_cases hk1 : k < 1
    · clear hk
      go_enter Try.func27, Try.ntmps27
      go_wp2_with fail
      go_ret
      exact ⟨ret_int HE.out.symm, Ext.refl _⟩
    · have hk2 : 8 < k := by omega
      clear hk
      have hk1' : decide (k < 1) = false := by simpa using hk1
      go_enter Try.func27, Try.ntmps27
      go_wp2_with fail
      go_ret
      exact ⟨ret_int HE.out.symm, Ext.refl _⟩
  · have hk1 : decide (k < 1) = false := by simp; omega
    have hk2 : decide (8 < k) = false := by simp; omega
    have hka : 1 ≤ k := by omega
    have hkb : k ≤ 8 := by omega
    have HE : Hid (chkF k t = if errW t ≠ 0 then errW t else if 128 < (tr t).dep everyK then 31 else if t.any (far k) then 21 else 0) := if_neg hk
    clear hk
    by_cases h : errW t = 0
    · obtain ⟨hl, hok⟩ := errW_ok h
      obtain ⟨hw, hf⟩ := tr_of hok
      have HF := Lib.hid hf.symm
      have HG := Lib.hid (ok_good hok)
      clear hf hok
      by_cases hd : 128 < (tr t).dep everyK
      · have HE' : Hid (chkF k t = 31) := by show _ = _; rw [HE.out, if_neg (by simp [h]), if_pos hd]
        have hd' : decide (128 < (tr t).dep everyK) = true := by simpa using hd
        clear HE
        go_enter Try.func27, Try.ntmps27
        go_wp2_with (first | ((go_at_call 37; (with_reducible refine (wrong_calls t _ _ hr).mono ?_); rintro e w1 ⟨rfl, h1⟩); rw [h]) | ((go_at_call 38; (with_reducible refine (deep_every (tr t) hw t HF.out hl _ _ (hr.ext (by (repeat (first | assumption | exact Ext.refl _ | apply Ext.alloc | apply Ext.drew | apply Ext.drewN | refine Ext.trans ?_ (by assumption)))))).mono ?_); rintro e w2 ⟨rfl, h2⟩)))
        go_ret
        exact ⟨ret_int HE'.out.symm, by (repeat (first | assumption | exact Ext.refl _ | apply Ext.alloc | apply Ext.drew | apply Ext.drewN | refine Ext.trans ?_ (by assumption)))⟩
      · have HE' : Hid (chkF k t = if t.any (far k) then 21 else 0) := by show _ = _; rw [HE.out, if_neg (by simp [h]), if_neg hd]
        have hd' : decide (128 < (tr t).dep everyK) = false := by simpa using hd
        clear HE hd
        go_enter Try.func27, Try.ntmps27
        go_wp2_with (first | ((go_at_call 37; (with_reducible refine (wrong_calls t _ _ hr).mono ?_); rintro e w1 ⟨rfl, h1⟩); rw [h]) | ((go_at_call 38; (with_reducible refine (deep_every (tr t) hw t HF.out hl _ _ (hr.ext (by (repeat (first | assumption | exact Ext.refl _ | apply Ext.alloc | apply Ext.drew | apply Ext.drewN | refine Ext.trans ?_ (by assumption)))))).mono ?_); rintro e w2 ⟨rfl, h2⟩)))
        have hx2 : Ext w w2 := by (repeat (first | assumption | exact Ext.refl _ | apply Ext.alloc | apply Ext.drew | apply Ext.drewN | refine Ext.trans ?_ (by assumption)))
        go_loopw [24] (fun v24 wr => ∃ i : Nat, v24 = .int .i64 i ∧ i ≤ t.length ∧ Hid ((t.take i).any (far k) = false) ∧ Ext w wr) (fun v24 _ => t.length - (intOf v24).toNat)
        case atStart => exact ⟨0, rfl, by omega, rfl, hx2⟩
        case round =>
          obtain ⟨i, rfl, hi, HA, he⟩ := hrel
          by_cases hlt : i < t.length
          · obtain ⟨b, off, rfl, hb, hc0, hc1⟩ := rd_node (hr.ext he) hlt
            have hg := HG.out _ (nth_mem hlt)
            have HT := Lib.hid (any_take (p := far k) hlt)
            have HM := Lib.hid (nth_mem hlt)
            clear hr
            generalize nth t i = n at *
            by_cases h3 : n.k = 3
            · obtain ⟨hs1, hs2⟩ := good_letter hg h3
              have h3' : (n.k == 3) = true := by simp [h3]
              clear hg
              by_cases hf : k ≤ n.s - 97
              · have HX : Hid (chkF k t = 21) := by
                  show _ = _
                  rw [HE'.out, if_pos]
                  rw [List.any_eq_true]
                  exact ⟨n, HM.out, by simp [far, h3, hf]⟩
                clear h3
                go_wp2_with fail
                go_ret
                exact ⟨ret_int HX.out.symm, by (repeat (first | assumption | exact Ext.refl _ | apply Ext.alloc | apply Ext.drew | apply Ext.drewN | refine Ext.trans ?_ (by assumption)))⟩
              · have HT' : Hid ((t.take (i + 1)).any (far k) = false) := by show _ = _; rw [HT.out, HA.out]; simp [far, hf]
                clear h3
                go_wp2_with fail
                go_roundw
                case rel => exact ⟨i + 1, by go_num, by omega, HT', by (repeat (first | assumption | exact Ext.refl _ | apply Ext.alloc | apply Ext.drew | apply Ext.drewN | refine Ext.trans ?_ (by assumption)))⟩
                case measure => simp [intOf]; omega
            · have h3' : (n.k == 3) = false := by simp [h3]
              have HT' : Hid ((t.take (i + 1)).any (far k) = false) := by show _ = _; rw [HT.out, HA.out]; simp [far, h3]
              clear h3 hg
              go_wp2_with fail
              go_roundw
              case rel => exact ⟨i + 1, by go_num, by omega, HT', by (repeat (first | assumption | exact Ext.refl _ | apply Ext.alloc | apply Ext.drew | apply Ext.drewN | refine Ext.trans ?_ (by assumption)))⟩
              case measure => simp [intOf]; omega
          · have hi' : i = t.length := by omega
            subst hi'
            have HX : Hid (chkF k t = 0) := by show _ = _; rw [HE'.out, if_neg]; have := HA.out; rw [List.take_length] at this; simp [this]
            go_wp2_with fail
            go_ret
            exact ⟨ret_int HX.out.symm, by (repeat (first | assumption | exact Ext.refl _ | apply Ext.alloc | apply Ext.drew | apply Ext.drewN | refine Ext.trans ?_ (by assumption)))⟩
    · have h' : (errW t != 0) = true := by simp [h]
      have HE' : Hid (chkF k t = errW t) := by show _ = _; rw [HE.out, if_pos h]
      clear HE
      go_enter Try.func27, Try.ntmps27
      go_wp2_with ((go_at_call 37; (with_reducible refine (wrong_calls t _ _ hr).mono ?_); rintro e w1 ⟨rfl, h1⟩))
      go_ret
      exact ⟨ret_int HE'.out.symm, by (repeat (first | assumption | exact Ext.refl _ | apply Ext.alloc | apply Ext.drew | apply Ext.drewN | refine Ext.trans ?_ (by assumption)))⟩

end Go.Proofs.Ytaijjnndnoicpaa
