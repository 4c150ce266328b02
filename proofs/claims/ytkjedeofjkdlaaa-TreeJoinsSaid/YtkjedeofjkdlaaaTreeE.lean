/- Walks of package tree: Depth, Stars, Check, order, Compare. Conditions: what a slice reads as. -/
import Derived.Test.YtkjedeofjkdlaaaTreeD
namespace Go.Proofs.Ytkjedeofjkdlaaa
open Go.RowKit Go.Eg

set_option maxHeartbeats 400000 in
theorem Depth_calls (t : List Nd) (v : Value) (w : World) (hr : Rd tyNd w t v) :
    Calls Try.prog 23 #[v] w fun e w' => e = .returned (.tuple #[.int .i64 (depF everyK t), .int .i64 (errW t)]) ∧ Ext w w' := by
  by_cases h : errW t = 0
  · obtain ⟨hl, hk⟩ := errW_ok h
    obtain ⟨hw, hf⟩ := tr_of hk
    have HD : Hid (depF everyK t = (tr t).dep everyK) := if_pos h
    have HF := Lib.hid hf.symm
    clear hf hk
    go_enter Try.func23, Try.ntmps23
    go_wp2_with (first | ((go_at_call 35; (with_reducible refine (wrong_calls t _ _ hr).mono ?_); rintro e w1 ⟨rfl, h1⟩); rw [h]) | ((go_at_call 46; (with_reducible refine (deep_every (tr t) hw t HF.out hl _ _ (hr.ext (by (repeat (first | assumption | exact Ext.refl _ | apply Ext.alloc | apply Ext.drew | apply Ext.drewN | refine Ext.trans ?_ (by assumption)))))).mono ?_); rintro e w2 ⟨rfl, h2⟩)))
    go_ret2
    exact ⟨ret_ii HD.out.symm h.symm, by (repeat (first | assumption | exact Ext.refl _ | apply Ext.alloc | apply Ext.drew | apply Ext.drewN | refine Ext.trans ?_ (by assumption)))⟩
  · have h' : (errW t != 0) = true := by simp [h]
    have HD : Hid (depF everyK t = 0) := if_neg h
    go_enter Try.func23, Try.ntmps23
    go_wp2_with ((go_at_call 35; (with_reducible refine (wrong_calls t _ _ hr).mono ?_); rintro e w1 ⟨rfl, h1⟩))
    go_ret2
    exact ⟨ret_ii HD.out.symm rfl, by (repeat (first | assumption | exact Ext.refl _ | apply Ext.alloc | apply Ext.drew | apply Ext.drewN | refine Ext.trans ?_ (by assumption)))⟩

set_option maxHeartbeats 400000 in
theorem Stars_calls (t : List Nd) (v : Value) (w : World) (hr : Rd tyNd w t v) :
    Calls Try.prog 27 #[v] w fun e w' => e = .returned (.tuple #[.int .i64 (depF starK t), .int .i64 (errW t)]) ∧ Ext w w' := by
  by_cases h : errW t = 0
  · obtain ⟨hl, hk⟩ := errW_ok h
    obtain ⟨hw, hf⟩ := tr_of hk
    have HD : Hid (depF starK t = (tr t).dep starK) := if_pos h
    have HF := Lib.hid hf.symm
    clear hf hk
    go_enter Try.func27, Try.ntmps27
    go_wp2_with (first | ((go_at_call 35; (with_reducible refine (wrong_calls t _ _ hr).mono ?_); rintro e w1 ⟨rfl, h1⟩); rw [h]) | ((go_at_call 46; (with_reducible refine (deep_stars (tr t) hw t HF.out hl _ _ (hr.ext (by (repeat (first | assumption | exact Ext.refl _ | apply Ext.alloc | apply Ext.drew | apply Ext.drewN | refine Ext.trans ?_ (by assumption)))))).mono ?_); rintro e w2 ⟨rfl, h2⟩)))
    go_ret2
    exact ⟨ret_ii HD.out.symm h.symm, by (repeat (first | assumption | exact Ext.refl _ | apply Ext.alloc | apply Ext.drew | apply Ext.drewN | refine Ext.trans ?_ (by assumption)))⟩
  · have h' : (errW t != 0) = true := by simp [h]
    have HD : Hid (depF starK t = 0) := if_neg h
    go_enter Try.func27, Try.ntmps27
    go_wp2_with ((go_at_call 35; (with_reducible refine (wrong_calls t _ _ hr).mono ?_); rintro e w1 ⟨rfl, h1⟩))
    go_ret2
    exact ⟨ret_ii HD.out.symm rfl, by (repeat (first | assumption | exact Ext.refl _ | apply Ext.alloc | apply Ext.drew | apply Ext.drewN | refine Ext.trans ?_ (by assumption)))⟩

set_option maxHeartbeats 400000 in
theorem order_calls (x y : Int) (w : World) : Calls Try.prog 48 #[.int .i64 x, .int .i64 y] w fun e w' => e = .returned (.int .i64 (ordF x y)) ∧ w' = w := by
  by_cases h1 : x < y
  · go_enter Try.func48, Try.ntmps48
    go_wp2
    go_ret
    exact ⟨ret_int (by unfold ordF; (repeat' split) <;> omega), rfl⟩
  · by_cases h2 : y < x
    · go_enter Try.func48, Try.ntmps48
      go_wp2
      go_ret
      exact ⟨ret_int (by unfold ordF; (repeat' split) <;> omega), rfl⟩
    · go_enter Try.func48, Try.ntmps48
      go_wp2
      go_ret
      exact ⟨ret_int (by unfold ordF; (repeat' split) <;> omega), rfl⟩

set_option maxHeartbeats 1000000 in
theorem Check_calls (k : Int) (t : List Nd) (v : Value) (w : World) (hr : Rd tyNd w t v) :
    Calls Try.prog 26 #[.int .i64 k, v] w fun e w' => e = .returned (.int .i64 (chkF k t)) ∧ Ext w w' := by
  obtain ⟨A, c, rfl, hlc, hcm⟩ := hr.shape
  unfold maxLen at hcm
  by_cases hk : k < 1 ∨ 8 < k
  · have HE : Hid (chkF k t = 20) := if_pos hk
    by_cases hk1 : k < 1
    · clear hk
      go_enter Try.func26, Try.ntmps26
      go_wp2_with fail
      go_ret
      exact ⟨ret_int HE.out.symm, Ext.refl _⟩
    · have hk2 : 8 < k := by omega
      clear hk
      have hk1' : decide (k < 1) = false := by simpa using hk1
      go_enter Try.func26, Try.ntmps26
      go_wp2_with fail
      go_ret
      exact ⟨ret_int HE.out.symm, Ext.refl _⟩
  · have hk1 : decide (k < 1) = false := by simp; omega
    have hk2 : decide (8 < k) = false := by simp; omega
    have hka : 1 ≤ k := by omega
    have hkb : k ≤ 8 := by omega
    have HE : Hid (chkF k t = if errW t ≠ 0 then errW t else if 128 < (tr t).dep everyK then 31 else if t.any (far k) then 21 else 0) := if_neg hk
    clear hk
    by_cases h : errW t = 0
    · obtain ⟨hl, hok⟩ := errW_ok h
      obtain ⟨hw, hf⟩ := tr_of hok
      have HF := Lib.hid hf.symm
      have HG := Lib.hid (ok_good hok)
      clear hf hok
      by_cases hd : 128 < (tr t).dep everyK
      · have HE' : Hid (chkF k t = 31) := by show _ = _; rw [HE.out, if_neg (by simp [h]), if_pos hd]
        have hd' : decide (128 < (tr t).dep everyK) = true := by simpa using hd
        clear HE
        go_enter Try.func26, Try.ntmps26
        go_wp2_with (first | ((go_at_call 35; (with_reducible refine (wrong_calls t _ _ hr).mono ?_); rintro e w1 ⟨rfl, h1⟩); rw [h]) | ((go_at_call 46; (with_reducible refine (deep_every (tr t) hw t HF.out hl _ _ (hr.ext (by (repeat (first | assumption | exact Ext.refl _ | apply Ext.alloc | apply Ext.drew | apply Ext.drewN | refine Ext.trans ?_ (by assumption)))))).mono ?_); rintro e w2 ⟨rfl, h2⟩)))
        go_ret
        exact ⟨ret_int HE'.out.symm, by (repeat (first | assumption | exact Ext.refl _ | apply Ext.alloc | apply Ext.drew | apply Ext.drewN | refine Ext.trans ?_ (by assumption)))⟩
      · have HE' : Hid (chkF k t = if t.any (far k) then 21 else 0) := by show _ = _; rw [HE.out, if_neg (by simp [h]), if_neg hd]
        have hd' : decide (128 < (tr t).dep everyK) = false := by simpa using hd
        clear HE hd
        go_enter Try.func26, Try.ntmps26
        go_wp2_with (first | ((go_at_call 35; (with_reducible refine (wrong_calls t _ _ hr).mono ?_); rintro e w1 ⟨rfl, h1⟩); rw [h]) | ((go_at_call 46; (with_reducible refine (deep_every (tr t) hw t HF.out hl _ _ (hr.ext (by (repeat (first | assumption | exact Ext.refl _ | apply Ext.alloc | apply Ext.drew | apply Ext.drewN | refine Ext.trans ?_ (by assumption)))))).mono ?_); rintro e w2 ⟨rfl, h2⟩)))
        have hx2 : Ext w w2 := by (repeat (first | assumption | exact Ext.refl _ | apply Ext.alloc | apply Ext.drew | apply Ext.drewN | refine Ext.trans ?_ (by assumption)))
        go_loopw [24] (fun v24 wr => ∃ i : Nat, v24 = .int .i64 i ∧ i ≤ t.length ∧ Hid ((t.take i).any (far k) = false) ∧ Ext w wr) (fun v24 _ => t.length - (intOf v24).toNat)
        case atStart => exact ⟨0, rfl, by omega, rfl, hx2⟩
        case round =>
          obtain ⟨i, rfl, hi, HA, he⟩ := hrel
          by_cases hlt : i < t.length
          · obtain ⟨b, off, rfl, hb, hc0, hc1⟩ := rd_node (hr.ext he) hlt
            have hg := HG.out _ (nth_mem hlt)
            have HT := Lib.hid (any_take (p := far k) hlt)
            have HM := Lib.hid (nth_mem hlt)
            clear hr
            generalize nth t i = n at *
            by_cases h3 : n.k = 3
            · obtain ⟨hs1, hs2⟩ := good_letter hg h3
              have h3' : (n.k == 3) = true := by simp [h3]
              clear hg
              by_cases hf : k ≤ n.s - 97
              · have HX : Hid (chkF k t = 21) := by
                  show _ = _
                  rw [HE'.out, if_pos]
                  rw [List.any_eq_true]
                  exact ⟨n, HM.out, by simp [far, h3, hf]⟩
                clear h3
                go_wp2_with fail
                go_ret
                exact ⟨ret_int HX.out.symm, by (repeat (first | assumption | exact Ext.refl _ | apply Ext.alloc | apply Ext.drew | apply Ext.drewN | refine Ext.trans ?_ (by assumption)))⟩
              · have HT' : Hid ((t.take (i + 1)).any (far k) = false) := by show _ = _; rw [HT.out, HA.out]; simp [far, hf]
                clear h3
                go_wp2_with fail
                go_roundw
                case rel => exact ⟨i + 1, by go_num, by omega, HT', by (repeat (first | assumption | exact Ext.refl _ | apply Ext.alloc | apply Ext.drew | apply Ext.drewN | refine Ext.trans ?_ (by assumption)))⟩
                case measure => simp [intOf]; omega
            · have h3' : (n.k == 3) = false := by simp [h3]
              have HT' : Hid ((t.take (i + 1)).any (far k) = false) := by show _ = _; rw [HT.out, HA.out]; simp [far, h3]
              clear h3 hg
              go_wp2_with fail
              go_roundw
              case rel => exact ⟨i + 1, by go_num, by omega, HT', by (repeat (first | assumption | exact Ext.refl _ | apply Ext.alloc | apply Ext.drew | apply Ext.drewN | refine Ext.trans ?_ (by assumption)))⟩
              case measure => simp [intOf]; omega
          · have hi' : i = t.length := by omega
            subst hi'
            have HX : Hid (chkF k t = 0) := by show _ = _; rw [HE'.out, if_neg]; have := HA.out; rw [List.take_length] at this; simp [this]
            go_wp2_with fail
            go_ret
            exact ⟨ret_int HX.out.symm, by (repeat (first | assumption | exact Ext.refl _ | apply Ext.alloc | apply Ext.drew | apply Ext.drewN | refine Ext.trans ?_ (by assumption)))⟩
    · have h' : (errW t != 0) = true := by simp [h]
      have HE' : Hid (chkF k t = errW t) := by show _ = _; rw [HE.out, if_pos h]
      clear HE
      go_enter Try.func26, Try.ntmps26
      go_wp2_with ((go_at_call 35; (with_reducible refine (wrong_calls t _ _ hr).mono ?_); rintro e w1 ⟨rfl, h1⟩))
      go_ret
      exact ⟨ret_int HE'.out.symm, by (repeat (first | assumption | exact Ext.refl _ | apply Ext.alloc | apply Ext.drew | apply Ext.drewN | refine Ext.trans ?_ (by assumption)))⟩

set_option maxHeartbeats 1000000 in
theorem Compare_calls (a b : List Nd) (va vb : Value) (w : World) (ha : Rd tyNd w a va) (hb : Rd tyNd w b vb) :
    Calls Try.prog 24 #[va, vb] w fun e w' => e = .returned (.int .i64 (cmpF a b)) ∧ Ext w w' := by
  obtain ⟨A, ca, rfl, hla, hma⟩ := ha.shape
  obtain ⟨B, cb, rfl, hlb, hmb⟩ := hb.shape
  unfold maxLen at hma hmb
  by_cases h : ordF a.length b.length = 0
  · have HE : Hid (cmpF a b = cmpL a b) := if_neg (by simp [h])
    have hab : a.length = b.length := by
      unfold ordF at h
      split at h
      · omega
      · split at h <;> omega
    have HAB := Lib.hid hab
    have hab1 : a.length ≤ b.length := by omega
    clear hab
    go_enter Try.func24, Try.ntmps24
    go_wp2_with ((go_at_call 48; (with_reducible refine (order_calls _ _ _).mono ?_); rintro e w ⟨rfl, rfl⟩); rw [h])
    clear h
    go_loopw [19] (fun v19 wr => ∃ i : Nat, v19 = .int .i64 i ∧ i ≤ a.length ∧ Hid (cmpL (a.drop i) (b.drop i) = cmpL a b) ∧ Ext w wr) (fun v19 _ => a.length - (intOf v19).toNat)
    case atStart => exact ⟨0, rfl, by omega, rfl, Ext.refl _⟩
    case round =>
      obtain ⟨i, rfl, hi, HC, he⟩ := hrel
      by_cases hlt : i < a.length
      · have hlt2 : i < b.length := by omega
        obtain ⟨b1, o1, rfl, hb1, hc0, hc1⟩ := rd_node (ha.ext he) hlt
        obtain ⟨b2, o2, rfl, hb2, hd0, hd1⟩ := rd_node (hb.ext he) hlt2
        have HT := Lib.hid (cmpL_drop hlt hlt2)
        obtain ⟨hr1, hr2⟩ := rd_byte (ha.ext he) hlt
        obtain ⟨hr3, hr4⟩ := rd_byte (hb.ext he) hlt2
        clear ha hb
        have hi0 : (0 : Int) ≤ i := by omega
        have hi1 : (i : Int) < a.length := by omega
        have hi2 : (i : Int) < b.length := by omega
        generalize nth a i = n at *
        generalize nth b i = m at *
        have e1 : IntKind.i64.wrap n.s = n.s := IntWalk.i64_in _ (by omega)
        have e2 : IntKind.i64.wrap m.s = m.s := IntWalk.i64_in _ (by omega)
        by_cases hk : ordF n.k m.k = 0
        · have hk' : (ordF n.k m.k != 0) = false := by simp [hk]
          by_cases hs : ordF n.s m.s = 0
          · have hz : cmpN n m = 0 := by unfold cmpN; rw [if_neg (by simp [hk])]; exact hs
            have HT' : Hid (cmpL (a.drop (i + 1)) (b.drop (i + 1)) = cmpL a b) := by
              have := HT.out
              rw [if_neg (by simp [hz])] at this
              exact this.symm.trans HC.out
            have hs' : (ordF n.s m.s != 0) = false := by simp [hs]
            clear hs hk hz
            go_wp2_with fail
            go_quiet ((go_at_call 48; first | exact Calls.quiet_of_same (order_calls _ _ _) | exact quiet_more (fun W => order_calls _ _ W)))
            go_wp2_with fail
            go_quiet ((go_at_call 48; first | exact Calls.quiet_of_same (order_calls _ _ _) | exact quiet_more (fun W => order_calls _ _ W)))
            go_wp2_with fail
            go_roundw
            case rel => exact ⟨i + 1, by go_num, by omega, HT', by (repeat (first | assumption | exact Ext.refl _ | apply Ext.alloc | apply Ext.drew | apply Ext.drewN | refine Ext.trans ?_ (by assumption)))⟩
            case measure => simp [intOf]; omega
          · have hz : cmpN n m = ordF n.s m.s := by unfold cmpN; rw [if_neg (by simp [hk])]
            have HX : Hid (cmpF a b = ordF n.s m.s) := by show _ = _; rw [HE.out, ← HC.out, HT.out, if_pos (by rw [hz]; exact hs), hz]
            have hs' : (ordF n.s m.s != 0) = true := by simp [hs]
            clear hs hk hz
            go_wp2_with fail
            go_quiet ((go_at_call 48; first | exact Calls.quiet_of_same (order_calls _ _ _) | exact quiet_more (fun W => order_calls _ _ W)))
            go_wp2_with fail
            go_quiet ((go_at_call 48; first | exact Calls.quiet_of_same (order_calls _ _ _) | exact quiet_more (fun W => order_calls _ _ W)))
            go_wp2_with fail
            go_ret
            exact ⟨ret_int HX.out.symm, by (repeat (first | assumption | exact Ext.refl _ | apply Ext.alloc | apply Ext.drew | apply Ext.drewN | refine Ext.trans ?_ (by assumption)))⟩
        · have hk' : (ordF n.k m.k != 0) = true := by simp [hk]
          have hz : cmpN n m = ordF n.k m.k := by unfold cmpN; rw [if_pos (by simp [hk])]
          have HX : Hid (cmpF a b = ordF n.k m.k) := by show _ = _; rw [HE.out, ← HC.out, HT.out, if_pos (by rw [hz]; exact hk), hz]
          clear hk hz
          go_wp2_with fail
          go_quiet ((go_at_call 48; first | exact Calls.quiet_of_same (order_calls _ _ _) | exact quiet_more (fun W => order_calls _ _ W)))
          go_wp2_with fail
          go_ret
          exact ⟨ret_int HX.out.symm, by (repeat (first | assumption | exact Ext.refl _ | apply Ext.alloc | apply Ext.drew | apply Ext.drewN | refine Ext.trans ?_ (by assumption)))⟩
      · have hi' : i = a.length := by omega
        subst hi'
        have HX : Hid (cmpF a b = 0) := by
          show _ = _
          have h2 := HC.out
          rw [HAB.out, List.drop_length, ← HAB.out, List.drop_length] at h2
          rw [HE.out, ← h2]; rfl
        go_wp2_with fail
        go_ret
        exact ⟨ret_int HX.out.symm, by (repeat (first | assumption | exact Ext.refl _ | apply Ext.alloc | apply Ext.drew | apply Ext.drewN | refine Ext.trans ?_ (by assumption)))⟩
  · have HE : Hid (cmpF a b = ordF a.length b.length) := if_pos h
    have h' : (ordF a.length b.length != 0) = true := by simp [h]
    go_enter Try.func24, Try.ntmps24
    go_wp2_with ((go_at_call 48; (with_reducible refine (order_calls _ _ _).mono ?_); rintro e w ⟨rfl, rfl⟩))
    go_ret
    exact ⟨ret_int HE.out.symm, Ext.refl _⟩
end Go.Proofs.Ytkjedeofjkdlaaa
