/- The statement TreeBack: its walk. Conditions: what slices read as. -/
import Derived.Test.YtkjedeofjkdlaaaKnowsC
import Derived.Test.YtkjedeofjkdlaaaTreeF
import Derived.Test.YtkjedeofjkdlaaaBackM
namespace Go.Proofs.Ytkjedeofjkdlaaa
open Go.RowKit Go.Eg

set_option maxHeartbeats 1000000 in
set_option maxRecDepth 100000 in
theorem TreeBack_err (t : List Nd) (h : errW t ≠ 0) (w : World) (va : Value) (ha : Rd tyNd w t va) :
    Calls Try.prog 5 #[va] w fun r w' => r = .returned (.bool true) ∧ Ext w w' := by
  have h' : (errW t != 0) = true := by simp [h]
  go_enter Try.func5, Try.ntmps5
  go_wp2_with (first | ((go_at_call 12; (with_reducible refine (Parts_err t _ _ ha h).mono ?_); rintro e w1 ⟨rfl, h1⟩)) | ((go_at_call 23; (with_reducible refine (Depth_calls t _ _ (ha.ext (by (repeat (first | assumption | exact Ext.refl _ | apply Ext.alloc | apply Ext.drew | apply Ext.drewN | refine Ext.trans ?_ (by assumption)))))).mono ?_); rintro e w2 ⟨rfl, h2⟩)) | ((go_at_call 14; (with_reducible refine (num_calls _ _).mono ?_); rintro e w' ⟨rfl, hw⟩; obtain rfl := hw.symm)) | ((go_at_call 17; (with_reducible refine (knows_calls _).mono ?_); rintro e w3 ⟨rfl, h3⟩)))
  go_ret
  exact ⟨rfl, by (repeat (first | assumption | exact Ext.refl _ | apply Ext.alloc | apply Ext.drew | apply Ext.drewN | refine Ext.trans ?_ (by assumption)))⟩

set_option maxHeartbeats 1000000 in
set_option maxRecDepth 100000 in
theorem TreeBack_ok (x : T) (hx : x.wf) (t : List Nd) (ht : t = x.flat) (hlen : t.length ≤ 4000) (w : World) (va : Value) (ha : Rd tyNd w t va) :
    Calls Try.prog 5 #[va] w fun r w' => r = .returned (.bool true) ∧ Ext w w' := by
  have HT := Lib.hid ht
  have HX := Lib.hid hx
  have hxl : x.flat.length ≤ 4000 := by rw [← ht]; exact hlen
  have HD : Hid (depF everyK t = x.dep everyK) := by show _ = _; rw [ht]; exact depF_flat hx hxl _
  have HE : Hid (errW t = 0) := by show _ = _; rw [ht]; exact errW_flat hx hxl
  have HJ := Lib.hid (join_kids hx hxl)
  have HK : Hid (∀ y ∈ x.kids, errW y.flat = 0 ∧ depF everyK y.flat = y.dep everyK ∧ 1 ≤ y.dep everyK ∧ y.dep everyK ≤ 4000 ∧ y.flat.length ≤ 4000) := fun y hy => by
    have h1 := kid_len hy
    have h2 := T.wf_kids hx y hy
    have h3 := (T.dep_bd everyK y).2
    exact ⟨errW_flat h2 (by omega), depF_flat h2 (by omega) _, dep_pos y, by omega, by omega⟩
  have HN : Hid ((x.kids.map T.flat).flatten.length + 1 = t.length) := by show _ = _; rw [ht, T.flat_root x, List.flatMap_def, List.length_append]; rfl
  have HM := Lib.hid (dep_kids x)
  have HKK : Hid (kidDeps x = x.kids.map (T.dep everyK)) := rfl
  have HKI : Hid (∀ i p, (x.kids.map T.flat)[i]? = some p → ∃ y, x.kids[i]? = some y ∧ y ∈ x.kids ∧ p = y.flat ∧ (kidDeps x)[i]? = some (y.dep everyK)) := fun i p hp => by
    rw [List.getElem?_map] at hp
    obtain ⟨y, hy, rfl⟩ := Option.map_eq_some_iff.1 hp
    exact ⟨y, hy, List.mem_of_getElem? hy, rfl, by rw [kidDeps, List.getElem?_map, hy]; rfl⟩
  obtain ⟨A, c, rfl, hlc, hcm⟩ := ha.shape
  clear ht hxl
  generalize hps : x.kids.map T.flat = ps at *
  have HPS := Lib.hid hps
  have HKL : Hid ((kidDeps x).length = ps.length) := by show _ = _; rw [← hps]; simp [kidDeps]
  clear hps
  generalize hks : kidDeps x = ks at *
  clear hks
  go_enter Try.func5, Try.ntmps5
  go_wp2_with (first | ((go_at_call 12; (with_reducible refine (Parts_ok x hx t HT.out hlen _ _ ha).mono ?_); rintro e w1 ⟨v1, rfl, ho1, h1⟩); rw [HPS.out] at ho1; obtain ⟨A1, c1, rfl, hl1, hm1⟩ := ho1.shape) | ((go_at_call 23; (with_reducible refine (Depth_calls t _ _ (ha.ext (by (repeat (first | assumption | exact Ext.refl _ | apply Ext.alloc | apply Ext.drew | apply Ext.drewN | refine Ext.trans ?_ (by assumption)))))).mono ?_); rintro e w2 ⟨rfl, h2⟩); rw [HD.out, HE.out]; have := (h2).cells; have := (h2).frozens; have : w1.heap.size < w2.heap.size := Nat.lt_of_lt_of_le (by first | assumption | (simp; done) | (simp; omega)) (h2).le) | ((go_at_call 14; (with_reducible refine (num_calls _ _).mono ?_); rintro e w' ⟨rfl, hw⟩; obtain rfl := hw.symm)) | ((go_at_call 17; (with_reducible refine (knows_calls _).mono ?_); rintro e w3 ⟨rfl, h3⟩); have := (h3).cells; have := (h3).frozens; have : w1.heap.size < w3.heap.size := Nat.lt_of_lt_of_le (by first | assumption | (simp; done) | (simp; omega)) (h3).le) | ((go_at_call 20; (with_reducible refine (Join_calls x.root ps _ _ (ho1.ext (by (repeat (first | assumption | exact Ext.refl _ | apply Ext.alloc | apply Ext.drew | apply Ext.drewN | refine Ext.trans ?_ (by assumption))))).rd).mono ?_); rintro e w4 ⟨v4, rfl, ho4, h4⟩); rw [HJ.out.1]; rw [HJ.out.2] at ho4))
  unfold maxLen at hm1
  have hx14 : Ext w1 w4 := by (repeat (first | assumption | exact Ext.refl _ | apply Ext.alloc | apply Ext.drew | apply Ext.drewN | refine Ext.trans ?_ (by assumption)))
  have hx4 : Ext w w4 := h1.trans hx14
  have ho1' := ho1.ext hx14
  have HB : Hid (∀ i, (ps.take i).flatten.length + 1 ≤ t.length) := fun i => by
    have := HN.out
    have e : ps.flatten.length = (ps.take i).flatten.length + (ps.drop i).flatten.length := by rw [← List.length_append, ← List.flatten_append, List.take_append_drop]
    omega
  go_loopw [10, 11, 12] (fun v10 v11 v12 wr => ∃ (i a : Nat) (m : Int), v12 = .int .i64 i ∧ i ≤ ps.length ∧ v10 = .int .i64 (a + 1) ∧ Hid (a = (ps.take i).flatten.length) ∧ v11 = .int .i64 m ∧ Hid (m = mx (ks.take i)) ∧ 0 ≤ m ∧ m ≤ 4000 ∧ Ext w4 wr) (fun _ _ v12 _ => ps.length - (intOf v12).toNat)
  case atStart => exact ⟨0, 0, 0, rfl, by omega, rfl, rfl, rfl, rfl, by omega, by omega, by (repeat (first | assumption | exact Ext.refl _ | apply Ext.alloc | apply Ext.drew | apply Ext.drewN | refine Ext.trans ?_ (by assumption)))⟩
  case round =>
    obtain ⟨i, a, m, rfl, hi, rfl, HA, rfl, HMM, hm0, hm4, he⟩ := hrel
    have ha4 : a + 1 ≤ 4000 := by have := HB.out i; have := HA.out; omega
    by_cases hlt : i < ps.length
    · obtain ⟨p, hp⟩ : ∃ p, ps[i]? = some p := ⟨_, List.getElem?_eq_getElem hlt⟩
      obtain ⟨g, u, rfl, hgb, hgl, hcell, hfz, hou, hne⟩ := (ho1'.ext he).get hp
      obtain ⟨y, hy1, hy2, rfl, hy4⟩ := HKI.out i p hp
      obtain ⟨k1, k2, k3, k4, k5⟩ := HK.out y hy2
      have HF : Hid (a + y.flat.length = (ps.take (i + 1)).flatten.length) := by show _ = _; rw [flatten_take hp, HA.out, List.length_append]
      have HM' : Hid (max m (y.dep everyK) = mx (ks.take (i + 1))) := by show _ = _; rw [mx_take hy4, HMM.out]
      have hfl : a + y.flat.length + 1 ≤ 4000 := by have := HB.out (i + 1); have := HF.out; omega
      have HKA := Lib.hid k1
      have HKB := Lib.hid k2
      obtain ⟨Au, cu, rfl, hu1, hu2⟩ := hou.rd.shape
      have hru := hou.rd
      clear hp hy1 hy2 hy4 k1 k2 hou hne
      generalize y.flat = yf at *
      generalize y.dep everyK = d at *
      go_wp2_with (first | ((go_at_call 23; (with_reducible refine (Depth_calls yf _ _ hru).mono ?_); rintro e w5 ⟨rfl, h5⟩); rw [HKA.out, HKB.out]; have := (h5).cells; have := (h5).frozens; have : g < w5.heap.size := Nat.lt_of_lt_of_le (by first | assumption | (simp; done) | (simp; omega)) (h5).le) | ((go_at_call 14; (with_reducible refine (num_calls _ _).mono ?_); rintro e w' ⟨rfl, hw⟩; obtain rfl := hw.symm)))
      go_roundw
      case rel => exact ⟨i + 1, a + yf.length, max m d, by go_num, by omega, val_int (by omega), HF, by first | rfl | exact val_int (by omega), HM', by omega, by omega, by (repeat (first | assumption | exact Ext.refl _ | apply Ext.alloc | apply Ext.drew | apply Ext.drewN | refine Ext.trans ?_ (by assumption)))⟩
      case measure => simp [intOf]; omega
    · have hi' : i = ps.length := by omega
      have hat : a + 1 = t.length := by have := HA.out; rw [hi', List.take_length] at this; have := HN.out; omega
      have HMX : Hid (T.dep everyK x = m + 1) := by show _ = _; rw [HM.out, HMM.out, hi', ← HKL.out, List.take_length]
      have HTX : Hid (decide (x.flat = t) = true) := decide_eq_true HT.out.symm
      subst hi'
      have hat' : ((a : Int) + 1 == (t.length : Int)) = true := by simp; omega
      clear HA HMM hat
      go_wp2_with (first | ((go_at_call 14; (with_reducible refine (num_calls _ _).mono ?_); rintro e w' ⟨rfl, hw⟩; obtain rfl := hw.symm)) | ((go_at_call 22; (with_reducible refine (sameNodes_calls x.flat t _ _ _ (ho4.ext he).rd (ha.ext (hx4.trans he))).mono ?_); rintro e w5 ⟨rfl, h5⟩); rw [HTX.out]))
      go_ret
      exact ⟨ret_bool (by rw [HMX.out]; simp), by (repeat (first | assumption | exact Ext.refl _ | apply Ext.alloc | apply Ext.drew | apply Ext.drewN | refine Ext.trans ?_ (by assumption)))⟩
theorem TreeBack_calls (t : List Nd) (w : World) (va : Value) (ha : Rd tyNd w t va) (_ : t.length * 16 ≤ 140737488351232) :
    Calls Try.prog 5 #[va] w fun r w' => r = .returned (.bool true) ∧ Ext w w' := by
  by_cases h : errW t = 0
  · obtain ⟨hl, hk⟩ := errW_ok h
    obtain ⟨hw, hf⟩ := tr_of hk
    exact TreeBack_ok (tr t) hw t hf.symm hl w va ha
  · exact TreeBack_err t h w va ha
end Go.Proofs.Ytkjedeofjkdlaaa
