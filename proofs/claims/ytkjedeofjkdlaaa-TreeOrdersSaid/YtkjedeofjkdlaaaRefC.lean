/- Walks of the reference of chapter 3: Depth, Stars, Check, Compare, Parts. Conditions: what slices read as. -/
import Derived.Test.YtkjedeofjkdlaaaRefB
import Derived.Deep.RegionHeld3
namespace Go.Proofs.Ytkjedeofjkdlaaa
open Go.RowKit Go.Eg

set_option maxHeartbeats 400000 in
theorem rDepth_calls (t : List Nd) (v : Value) (w : World) (hr : Rd tyNd w t v) :
    Calls Try.prog 28 #[v] w fun e w' => e = .returned (.tuple #[.int .i64 (depF everyK t), .int .i64 (errW t)]) ∧ Ext w w' := by
  by_cases h : errW t = 0
  · obtain ⟨hl, hk⟩ := errW_ok h
    obtain ⟨hw, hf⟩ := tr_of hk
    have HD : Hid (depF everyK t = (tr t).dep everyK) := if_pos h
    have HF := Lib.hid hf.symm
    clear hf hk
    go_enter Try.func28, Try.ntmps28
    go_wp2_with (first | ((go_at_call 39; (with_reducible refine (rWrong_calls t _ _ hr).mono ?_); rintro e w1 ⟨rfl, h1⟩); rw [h]) | ((go_at_call 50; (with_reducible refine (rdepth_all (tr t) hw t HF.out hl _ _ (hr.ext (by (repeat (first | assumption | exact Ext.refl _ | apply Ext.alloc | apply Ext.drew | apply Ext.drewN | refine Ext.trans ?_ (by assumption)))))).mono ?_); rintro e w2 ⟨rfl, h2⟩)))
    go_ret2
    exact ⟨ret_ii HD.out.symm h.symm, by (repeat (first | assumption | exact Ext.refl _ | apply Ext.alloc | apply Ext.drew | apply Ext.drewN | refine Ext.trans ?_ (by assumption)))⟩
  · have h' : (errW t != 0) = true := by simp [h]
    have HD : Hid (depF everyK t = 0) := if_neg h
    go_enter Try.func28, Try.ntmps28
    go_wp2_with ((go_at_call 39; (with_reducible refine (rWrong_calls t _ _ hr).mono ?_); rintro e w1 ⟨rfl, h1⟩))
    go_ret2
    exact ⟨ret_ii HD.out.symm rfl, by (repeat (first | assumption | exact Ext.refl _ | apply Ext.alloc | apply Ext.drew | apply Ext.drewN | refine Ext.trans ?_ (by assumption)))⟩

set_option maxHeartbeats 400000 in
theorem rStars_calls (t : List Nd) (v : Value) (w : World) (hr : Rd tyNd w t v) :
    Calls Try.prog 29 #[v] w fun e w' => e = .returned (.tuple #[.int .i64 (depF starK t), .int .i64 (errW t)]) ∧ Ext w w' := by
  by_cases h : errW t = 0
  · obtain ⟨hl, hk⟩ := errW_ok h
    obtain ⟨hw, hf⟩ := tr_of hk
    have HD : Hid (depF starK t = (tr t).dep starK) := if_pos h
    have HF := Lib.hid hf.symm
    clear hf hk
    go_enter Try.func29, Try.ntmps29
    go_wp2_with (first | ((go_at_call 39; (with_reducible refine (rWrong_calls t _ _ hr).mono ?_); rintro e w1 ⟨rfl, h1⟩); rw [h]) | ((go_at_call 50; (with_reducible refine (rdepth_stars (tr t) hw t HF.out hl _ _ (hr.ext (by (repeat (first | assumption | exact Ext.refl _ | apply Ext.alloc | apply Ext.drew | apply Ext.drewN | refine Ext.trans ?_ (by assumption)))))).mono ?_); rintro e w2 ⟨rfl, h2⟩)))
    go_ret2
    exact ⟨ret_ii HD.out.symm h.symm, by (repeat (first | assumption | exact Ext.refl _ | apply Ext.alloc | apply Ext.drew | apply Ext.drewN | refine Ext.trans ?_ (by assumption)))⟩
  · have h' : (errW t != 0) = true := by simp [h]
    have HD : Hid (depF starK t = 0) := if_neg h
    go_enter Try.func29, Try.ntmps29
    go_wp2_with ((go_at_call 39; (with_reducible refine (rWrong_calls t _ _ hr).mono ?_); rintro e w1 ⟨rfl, h1⟩))
    go_ret2
    exact ⟨ret_ii HD.out.symm rfl, by (repeat (first | assumption | exact Ext.refl _ | apply Ext.alloc | apply Ext.drew | apply Ext.drewN | refine Ext.trans ?_ (by assumption)))⟩

set_option maxHeartbeats 1000000 in
set_option maxRecDepth 100000 in
theorem rCheck_calls (k : Int) (t : List Nd) (v : Value) (w : World) (hr : Rd tyNd w t v) :
    Calls Try.prog 30 #[.int .i64 k, v] w fun e w' => e = .returned (.int .i64 (chkF k t)) ∧ Ext w w' := by
  obtain ⟨A, c, rfl, hlc, hcm⟩ := hr.shape
  unfold maxLen at hcm
  by_cases hk : k < 1 ∨ 8 < k
  · have HE : Hid (chkF k t = 20) := if_pos hk
    by_cases hk1 : k < 1
    · clear hk
      go_enter Try.func30, Try.ntmps30
      go_wp2_with fail
      go_ret
      exact ⟨ret_int HE.out.symm, Ext.refl _⟩
    · have hk2 : 8 < k := by omega
      clear hk
      have hk1' : decide (k < 1) = false := by simpa using hk1
      go_enter Try.func30, Try.ntmps30
      go_wp2_with fail
      go_ret
      exact ⟨ret_int HE.out.symm, Ext.refl _⟩
  · have hk1 : decide (k < 1) = false := by simp; omega
    have hk2 : decide (8 < k) = false := by simp; omega
    have hka : 1 ≤ k := by omega
    have hkb : k ≤ 8 := by omega
    have HE : Hid (chkF k t = if errW t ≠ 0 then errW t else if 128 < (tr t).dep everyK then 31 else if t.any (far k) then 21 else 0) := if_neg hk
    clear hk
    by_cases h : errW t = 0
    · obtain ⟨hl, hok⟩ := errW_ok h
      obtain ⟨hw, hf⟩ := tr_of hok
      have HF := Lib.hid hf.symm
      have HG := Lib.hid (ok_good hok)
      clear hf hok
      by_cases hd : 128 < (tr t).dep everyK
      · have HE' : Hid (chkF k t = 31) := by show _ = _; rw [HE.out, if_neg (by simp [h]), if_pos hd]
        have hd' : decide (128 < (tr t).dep everyK) = true := by simpa using hd
        clear HE
        go_enter Try.func30, Try.ntmps30
        go_wp2_with (first | ((go_at_call 39; (with_reducible refine (rWrong_calls t _ _ hr).mono ?_); rintro e w1 ⟨rfl, h1⟩); rw [h]) | ((go_at_call 50; (with_reducible refine (rdepth_all (tr t) hw t HF.out hl _ _ (hr.ext (by (repeat (first | assumption | exact Ext.refl _ | apply Ext.alloc | apply Ext.drew | apply Ext.drewN | refine Ext.trans ?_ (by assumption)))))).mono ?_); rintro e w2 ⟨rfl, h2⟩)))
        go_ret
        exact ⟨ret_int HE'.out.symm, by (repeat (first | assumption | exact Ext.refl _ | apply Ext.alloc | apply Ext.drew | apply Ext.drewN | refine Ext.trans ?_ (by assumption)))⟩
      · have HE' : Hid (chkF k t = if t.any (far k) then 21 else 0) := by show _ = _; rw [HE.out, if_neg (by simp [h]), if_neg hd]
        have hd' : decide (128 < (tr t).dep everyK) = false := by simpa using hd
        clear HE hd
        go_enter Try.func30, Try.ntmps30
        go_wp2_with (first | ((go_at_call 39; (with_reducible refine (rWrong_calls t _ _ hr).mono ?_); rintro e w1 ⟨rfl, h1⟩); rw [h]) | ((go_at_call 50; (with_reducible refine (rdepth_all (tr t) hw t HF.out hl _ _ (hr.ext (by (repeat (first | assumption | exact Ext.refl _ | apply Ext.alloc | apply Ext.drew | apply Ext.drewN | refine Ext.trans ?_ (by assumption)))))).mono ?_); rintro e w2 ⟨rfl, h2⟩)))
        have hx2 : Ext w w2 := by (repeat (first | assumption | exact Ext.refl _ | apply Ext.alloc | apply Ext.drew | apply Ext.drewN | refine Ext.trans ?_ (by assumption)))
        go_loopw [6] (fun v6 wr => ∃ i : Nat, v6 = .int .i64 i ∧ i ≤ t.length ∧ Hid ((t.take i).any (far k) = false) ∧ Ext w wr) (fun v6 _ => t.length - (intOf v6).toNat)
        case atStart => exact ⟨0, rfl, by omega, rfl, hx2⟩
        case round =>
          obtain ⟨i, rfl, hi, HA, he⟩ := hrel
          by_cases hlt : i < t.length
          · obtain ⟨b, off, rfl, hb, hc0, hc1⟩ := rd_node (hr.ext he) hlt
            have hg := HG.out _ (nth_mem hlt)
            have HT := Lib.hid (any_take (p := far k) hlt)
            have HM := Lib.hid (nth_mem hlt)
            clear hr
            generalize nth t i = n at *
            by_cases h3 : n.k = 3
            · obtain ⟨hs1, hs2⟩ := good_letter hg h3
              have h3' : (n.k == 3) = true := by simp [h3]
              clear hg
              by_cases hf : k ≤ n.s - 97
              · have HX : Hid (chkF k t = 21) := by
                  show _ = _
                  rw [HE'.out, if_pos]
                  rw [List.any_eq_true]
                  exact ⟨n, HM.out, by simp [far, h3, hf]⟩
                clear h3
                go_wp2_with fail
                go_ret
                exact ⟨ret_int HX.out.symm, by (repeat (first | assumption | exact Ext.refl _ | apply Ext.alloc | apply Ext.drew | apply Ext.drewN | refine Ext.trans ?_ (by assumption)))⟩
              · have HT' : Hid ((t.take (i + 1)).any (far k) = false) := by show _ = _; rw [HT.out, HA.out]; simp [far, hf]
                clear h3
                go_wp2_with fail
                go_roundw
                case rel => exact ⟨i + 1, by go_num, by omega, HT', by (repeat (first | assumption | exact Ext.refl _ | apply Ext.alloc | apply Ext.drew | apply Ext.drewN | refine Ext.trans ?_ (by assumption)))⟩
                case measure => simp [intOf]; omega
            · have h3' : (n.k == 3) = false := by simp [h3]
              have HT' : Hid ((t.take (i + 1)).any (far k) = false) := by show _ = _; rw [HT.out, HA.out]; simp [far, h3]
              clear h3 hg
              go_wp2_with fail
              go_roundw
              case rel => exact ⟨i + 1, by go_num, by omega, HT', by (repeat (first | assumption | exact Ext.refl _ | apply Ext.alloc | apply Ext.drew | apply Ext.drewN | refine Ext.trans ?_ (by assumption)))⟩
              case measure => simp [intOf]; omega
          · have hi' : i = t.length := by omega
            subst hi'
            have HX : Hid (chkF k t = 0) := by show _ = _; rw [HE'.out, if_neg]; have := HA.out; rw [List.take_length] at this; simp [this]
            go_wp2_with fail
            go_ret
            exact ⟨ret_int HX.out.symm, by (repeat (first | assumption | exact Ext.refl _ | apply Ext.alloc | apply Ext.drew | apply Ext.drewN | refine Ext.trans ?_ (by assumption)))⟩
    · have h' : (errW t != 0) = true := by simp [h]
      have HE' : Hid (chkF k t = errW t) := by show _ = _; rw [HE.out, if_pos h]
      clear HE
      go_enter Try.func30, Try.ntmps30
      go_wp2_with ((go_at_call 39; (with_reducible refine (rWrong_calls t _ _ hr).mono ?_); rintro e w1 ⟨rfl, h1⟩))
      go_ret
      exact ⟨ret_int HE'.out.symm, by (repeat (first | assumption | exact Ext.refl _ | apply Ext.alloc | apply Ext.drew | apply Ext.drewN | refine Ext.trans ?_ (by assumption)))⟩

set_option maxHeartbeats 1000000 in
set_option maxRecDepth 100000 in
theorem rCompare_calls (a b : List Nd) (va vb : Value) (w : World) (ha : Rd tyNd w a va) (hb : Rd tyNd w b vb) :
    Calls Try.prog 25 #[va, vb] w fun e w' => e = .returned (.int .i64 (cmpF a b)) ∧ Ext w w' := by
  obtain ⟨A, ca, rfl, hla, hma⟩ := ha.shape
  obtain ⟨B, cb, rfl, hlb, hmb⟩ := hb.shape
  unfold maxLen at hma hmb
  by_cases h1 : a.length < b.length
  · have HE : Hid (cmpF a b = -1) := by show _ = _; simp [cmpF, ordF]; omega
    have h1' : decide (a.length < b.length) = true := by simpa using h1
    go_enter Try.func25, Try.ntmps25
    go_wp2_with fail
    go_ret
    exact ⟨ret_int HE.out.symm, Ext.refl _⟩
  · by_cases h2 : b.length < a.length
    · have HE : Hid (cmpF a b = 1) := by show _ = _; simp [cmpF, ordF]; omega
      have h1' : decide (a.length < b.length) = false := by simpa using h1
      have h2' : decide (b.length < a.length) = true := by simpa using h2
      go_enter Try.func25, Try.ntmps25
      go_wp2_with fail
      go_ret
      exact ⟨ret_int HE.out.symm, Ext.refl _⟩
    · have hab : a.length = b.length := by omega
      have HE : Hid (cmpF a b = cmpL a b) := by show _ = _; unfold cmpF; rw [if_neg]; simp [ordF, hab]
      have HAB := Lib.hid hab
      have hab1 : a.length ≤ b.length := by omega
      have h1' : decide (a.length < b.length) = false := by simpa using h1
      have h2' : decide (b.length < a.length) = false := by simpa using h2
      clear hab h1 h2
      go_enter Try.func25, Try.ntmps25
      go_wp2_with fail
      go_loopw [5] (fun v5 wr => ∃ i : Nat, v5 = .int .i64 i ∧ i ≤ a.length ∧ Hid (cmpL (a.drop i) (b.drop i) = cmpL a b) ∧ Ext w wr) (fun v5 _ => a.length - (intOf v5).toNat)
      case atStart => exact ⟨0, rfl, by omega, rfl, Ext.refl _⟩
      case round =>
        obtain ⟨i, rfl, hi, HC, he⟩ := hrel
        by_cases hlt : i < a.length
        · have hlt2 : i < b.length := by omega
          obtain ⟨b1, o1, rfl, hb1, hc0, hc1⟩ := rd_node (ha.ext he) hlt
          obtain ⟨b2, o2, rfl, hb2, hd0, hd1⟩ := rd_node (hb.ext he) hlt2
          have HT := Lib.hid (cmpL_drop hlt hlt2)
          clear ha hb h1' h2'
          have hi0 : (0 : Int) ≤ i := by omega
          have hi1 : (i : Int) < a.length := by omega
          have hi2 : (i : Int) < b.length := by omega
          generalize nth a i = n at *
          generalize nth b i = m at *
          by_cases k1 : n.k < m.k
          · have hz : cmpN n m = -1 := by simp [cmpN, ordF, k1]
            have HX : Hid (cmpF a b = -1) := by show _ = _; rw [HE.out, ← HC.out, HT.out, hz]; rfl
            have k1' : decide (n.k < m.k) = true := by simpa using k1
            clear hz k1
            go_wp2_with fail
            go_quiet (fail)
            go_wp2_with fail
            go_ret
            exact ⟨ret_int HX.out.symm, by (repeat (first | assumption | exact Ext.refl _ | apply Ext.alloc | apply Ext.drew | apply Ext.drewN | refine Ext.trans ?_ (by assumption)))⟩
          · have k1' : decide (n.k < m.k) = false := by simpa using k1
            by_cases k2 : m.k < n.k
            · have hz : cmpN n m = 1 := by simp [cmpN, ordF, k1, k2]
              have HX : Hid (cmpF a b = 1) := by show _ = _; rw [HE.out, ← HC.out, HT.out, hz]; rfl
              have k2' : decide (m.k < n.k) = true := by simpa using k2
              clear hz k1 k2
              go_wp2_with fail
              go_quiet (fail)
              go_wp2_with fail
              go_quiet (fail)
              go_wp2_with fail
              go_ret
              exact ⟨ret_int HX.out.symm, by (repeat (first | assumption | exact Ext.refl _ | apply Ext.alloc | apply Ext.drew | apply Ext.drewN | refine Ext.trans ?_ (by assumption)))⟩
            · have k2' : decide (m.k < n.k) = false := by simpa using k2
              by_cases k3 : n.s < m.s
              · have hz : cmpN n m = -1 := by simp [cmpN, ordF, k1, k2, k3]
                have HX : Hid (cmpF a b = -1) := by show _ = _; rw [HE.out, ← HC.out, HT.out, hz]; rfl
                have k3' : decide (n.s < m.s) = true := by simpa using k3
                clear hz k1 k2 k3
                go_wp2_with fail
                go_quiet (fail)
                go_wp2_with fail
                go_quiet (fail)
                go_wp2_with fail
                go_quiet (fail)
                go_wp2_with fail
                go_ret
                exact ⟨ret_int HX.out.symm, by (repeat (first | assumption | exact Ext.refl _ | apply Ext.alloc | apply Ext.drew | apply Ext.drewN | refine Ext.trans ?_ (by assumption)))⟩
              · have k3' : decide (n.s < m.s) = false := by simpa using k3
                by_cases k4 : m.s < n.s
                · have hz : cmpN n m = 1 := by simp [cmpN, ordF, k1, k2, k3, k4]
                  have HX : Hid (cmpF a b = 1) := by show _ = _; rw [HE.out, ← HC.out, HT.out, hz]; rfl
                  have k4' : decide (m.s < n.s) = true := by simpa using k4
                  clear hz k1 k2 k3 k4
                  go_wp2_with fail
                  go_quiet (fail)
                  go_wp2_with fail
                  go_quiet (fail)
                  go_wp2_with fail
                  go_quiet (fail)
                  go_wp2_with fail
                  go_quiet (fail)
                  go_wp2_with fail
                  go_ret
                  exact ⟨ret_int HX.out.symm, by (repeat (first | assumption | exact Ext.refl _ | apply Ext.alloc | apply Ext.drew | apply Ext.drewN | refine Ext.trans ?_ (by assumption)))⟩
                · have hz : cmpN n m = 0 := by simp [cmpN, ordF, k1, k2, k3, k4]
                  have k4' : decide (m.s < n.s) = false := by simpa using k4
                  have HT' : Hid (cmpL (a.drop (i + 1)) (b.drop (i + 1)) = cmpL a b) := by
                    have := HT.out
                    rw [if_neg (by simp [hz])] at this
                    exact this.symm.trans HC.out
                  clear hz k1 k2 k3 k4
                  go_wp2_with fail
                  go_quiet (fail)
                  go_wp2_with fail
                  go_quiet (fail)
                  go_wp2_with fail
                  go_quiet (fail)
                  go_wp2_with fail
                  go_quiet (fail)
                  go_wp2_with fail
                  go_roundw
                  case rel => exact ⟨i + 1, by go_num, by omega, HT', by (repeat (first | assumption | exact Ext.refl _ | apply Ext.alloc | apply Ext.drew | apply Ext.drewN | refine Ext.trans ?_ (by assumption)))⟩
                  case measure => simp [intOf]; omega
        · have hi' : i = a.length := by omega
          subst hi'
          have HX : Hid (cmpF a b = 0) := by
            show _ = _
            have h2 := HC.out
            rw [HAB.out, List.drop_length, ← HAB.out, List.drop_length] at h2
            rw [HE.out, ← h2]; rfl
          go_wp2_with fail
          go_ret
          exact ⟨ret_int HX.out.symm, by (repeat (first | assumption | exact Ext.refl _ | apply Ext.alloc | apply Ext.drew | apply Ext.drewN | refine Ext.trans ?_ (by assumption)))⟩
end Go.Proofs.Ytkjedeofjkdlaaa
