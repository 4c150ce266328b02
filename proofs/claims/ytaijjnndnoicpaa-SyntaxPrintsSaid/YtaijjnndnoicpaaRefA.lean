/- Walks of the reference of chapter 3: Good, Arity, Wrong, begin, Cut, Made. Conditions: what slices read as. -/
import Derived.Test.YtaijjnndnoicpaaTreeB
namespace Go.Proofs.Ytaijjnndnoicpaa
open Go.RowKit Go.Eg

set_option maxHeartbeats 400000 in
theorem rGood_calls (n : Nd) (w : World) : Calls Try.prog 51 #[.agg #[.int .i64 n.k, .int .u8 n.s]] w fun e w' => e = .returned (.bool (good n)) ∧ Ext w w' := by
  obtain ⟨k, s⟩ := n
  by_cases h3 : k = 3
  · subst h3
    have HG : Hid (good ⟨3, s⟩ = (decide (97 ≤ s) && decide (s ≤ 104))) := by show _ = _; simp [good]
    go_enter Try.func51, Try.ntmps51
    go_wp2_with fail
    all_goals go_ret
    · exact ⟨ret_bool (by rw [HG.out]; simp [*]), (Ext.refl _).alloc _⟩
    · exact ⟨ret_bool (by rw [HG.out]; simp; omega), (Ext.refl _).alloc _⟩
  · have h3' : (k == 3) = false := by simp [h3]
    by_cases hk : 1 ≤ k ∧ k ≤ 9
    · have ha : 0 ≤ ar k := by unfold ar; (repeat' split) <;> omega
      have HG : Hid (good ⟨k, s⟩ = (s == 0)) := by show _ = _; unfold good; rw [if_neg h3, Bool.eq_iff_iff]; simp [ha]
      obtain ⟨hk1, hk2⟩ := hk
      go_enter Try.func51, Try.ntmps51
      go_wp2_with fail
      all_goals go_ret
      all_goals exact ⟨ret_bool HG.out.symm, (Ext.refl _).alloc _⟩
    · have ha : ¬ 0 ≤ ar k := by unfold ar; (repeat' split) <;> omega
      have HG : Hid (good ⟨k, s⟩ = false) := by show _ = _; unfold good; rw [if_neg h3]; simp [ha]
      by_cases hk1 : 1 ≤ k
      · have hk2 : decide (k ≤ 9) = false := by simp; omega
        go_enter Try.func51, Try.ntmps51
        go_wp2_with fail
        all_goals go_ret
        all_goals exact ⟨ret_bool HG.out.symm, (Ext.refl _).alloc _⟩
      · have hk2 : decide (1 ≤ k) = false := by simpa using hk1
        go_enter Try.func51, Try.ntmps51
        go_wp2_with fail
        all_goals go_ret
        all_goals exact ⟨ret_bool HG.out.symm, (Ext.refl _).alloc _⟩

set_option maxHeartbeats 400000 in
theorem rArity_calls (k : Int) (h : 0 ≤ ar k) (w : World) : Calls Try.prog 52 #[.int .i64 k] w fun e w' => e = .returned (.int .i64 (ar k)) ∧ w' = w := by
  have hk : 1 ≤ k ∧ k ≤ 9 := by unfold ar at h; (repeat' split at h) <;> omega
  have : k = 1 ∨ k = 2 ∨ k = 3 ∨ k = 4 ∨ k = 5 ∨ k = 6 ∨ k = 7 ∨ k = 8 ∨ k = 9 := by omega
  clear hk h
  rcases this with rfl | rfl | rfl | rfl | rfl | rfl | rfl | rfl | rfl
  all_goals
    go_enter Try.func52, Try.ntmps52
    go_wp2
    go_ret
    exact ⟨rfl, rfl⟩

set_option maxHeartbeats 400000 in
set_option maxRecDepth 100000 in
theorem rWrong_calls (t : List Nd) (v : Value) (w : World) (hr : Rd tyNd w t v) : Calls Try.prog 42 #[v] w fun e w' => e = .returned (.int .i64 (errW t)) ∧ Ext w w' := by
  obtain ⟨A, c, rfl, hlc, hcm⟩ := hr.shape
  unfold maxLen at hcm
  by_cases hbig : 4000 < t.length
  · have hb' : decide (4000 < (t.length : Int)) = true := by simp; omega
    go_enter Try.func42, Try.ntmps42
    go_wp2_with fail
    go_ret
    exact ⟨ret_int (by rw [errW, if_pos hbig]), Ext.refl _⟩
  · have hb' : decide (4000 < (t.length : Int)) = false := by simp; omega
    have HE : Hid (errW t = if ok 0 t then 0 else 30) := if_neg hbig
    go_enter Try.func42, Try.ntmps42
    go_wp2_with fail
    go_loopw [3, 4] (fun v3 v4 wr => ∃ (i : Nat) (h : Int), v3 = .int .i64 h ∧ v4 = .int .i64 i ∧ i ≤ t.length ∧ -4001 ≤ h - i ∧ h ≤ 2 * i ∧ Hid (ok h (t.drop i) = ok 0 t) ∧ Ext w wr) (fun _ v4 _ => t.length - (intOf v4).toNat)
    case atStart => exact ⟨0, 0, rfl, rfl, by omega, by omega, by omega, rfl, Ext.refl _⟩
    case round =>
      obtain ⟨i, h, rfl, rfl, hi, hh1, hh2, HO, he⟩ := hrel
      by_cases hlt : i < t.length
      · obtain ⟨b, off, rfl, hb, hc0, hc1⟩ := rd_node (hr.ext he) hlt
        have HT := Lib.hid (ok_take (h := h) hlt)
        have har := ar_le (nth t i).k
        clear hr
        generalize nth t i = n at *
        by_cases hg : good n = true
        · have hga := good_ar hg
          by_cases hle : ar n.k ≤ h
          · have hle' : decide (h < ar n.k) = false := by simp; omega
            go_wp2_with (first | ((go_at_call 51; (with_reducible refine (rGood_calls n _).mono ?_); rintro e w1 ⟨rfl, h1⟩); have := (h1).cells; have := (h1).frozens; have : b < w1.heap.size := Nat.lt_of_lt_of_le (by first | assumption | (simp; done) | (simp; omega)) (h1).le) | (go_at_call 52; (with_reducible refine (rArity_calls _ hga _).mono ?_); rintro e w' ⟨rfl, hw⟩; obtain rfl := hw.symm))
            go_roundw
            case rel => exact ⟨i + 1, h + (1 - ar n.k), val_int (by omega), by go_num, by omega, by omega, by omega, (by have := HT.out; simp only [hg, hle, decide_true, Bool.true_and] at this; exact this.symm.trans HO.out), by (repeat (first | assumption | exact Ext.refl _ | apply Ext.alloc | apply Ext.drew | apply Ext.drewN | refine Ext.trans ?_ (by assumption)))⟩
            case measure => simp [intOf]; omega
          · have hle' : decide (h < ar n.k) = true := by simp; omega
            have hf : ok 0 t = false := by rw [← HO.out, HT.out]; simp [hle]
            have HE' := Lib.hid (HE.out.trans (by rw [hf]; rfl : _ = (30 : Int)))
            clear hf
            go_wp2_with (first | ((go_at_call 51; (with_reducible refine (rGood_calls n _).mono ?_); rintro e w1 ⟨rfl, h1⟩); have := (h1).cells; have := (h1).frozens; have : b < w1.heap.size := Nat.lt_of_lt_of_le (by first | assumption | (simp; done) | (simp; omega)) (h1).le) | (go_at_call 52; (with_reducible refine (rArity_calls _ hga _).mono ?_); rintro e w' ⟨rfl, hw⟩; obtain rfl := hw.symm))
            go_ret
            exact ⟨ret_int HE'.out.symm, by (repeat (first | assumption | exact Ext.refl _ | apply Ext.alloc | apply Ext.drew | apply Ext.drewN | refine Ext.trans ?_ (by assumption)))⟩
        · have hf : ok 0 t = false := by rw [← HO.out, HT.out]; simp [hg]
          have hg' : good n = false := by simpa using hg
          have HE' := Lib.hid (HE.out.trans (by rw [hf]; rfl : _ = (30 : Int)))
          clear hf
          go_wp2_with (first | ((go_at_call 51; (with_reducible refine (rGood_calls n _).mono ?_); rintro e w1 ⟨rfl, h1⟩); have := (h1).cells; have := (h1).frozens; have : b < w1.heap.size := Nat.lt_of_lt_of_le (by first | assumption | (simp; done) | (simp; omega)) (h1).le))
          go_ret
          exact ⟨ret_int HE'.out.symm, by (repeat (first | assumption | exact Ext.refl _ | apply Ext.alloc | apply Ext.drew | apply Ext.drewN | refine Ext.trans ?_ (by assumption)))⟩
      · have hi' : i = t.length := by omega
        subst hi'
        have HF : Hid (ok 0 t = (h == 1)) := by show _ = _; rw [← HO.out, List.drop_length, ok]
        by_cases h1 : h = 1
        · have h1' : (h != 1) = false := by simp [h1]
          go_wp2_with fail
          go_ret
          exact ⟨ret_int (by rw [HE.out, HF.out]; simp [h1]), by (repeat (first | assumption | exact Ext.refl _ | apply Ext.alloc | apply Ext.drew | apply Ext.drewN | refine Ext.trans ?_ (by assumption)))⟩
        · have h1' : (h != 1) = true := by simp [h1]
          go_wp2_with fail
          go_ret
          exact ⟨ret_int (by rw [HE.out, HF.out]; simp [h1]), by (repeat (first | assumption | exact Ext.refl _ | apply Ext.alloc | apply Ext.drew | apply Ext.drewN | refine Ext.trans ?_ (by assumption)))⟩

/-- What Made comes to. -/
def MadePost (r : List Nd) (w : World) (e : Ending) (w' : World) : Prop := ∃ v', e = .returned v' ∧ Own tyNd 54 w.heap.size No w' r v' ∧ Ext w w'

end Go.Proofs.Ytaijjnndnoicpaa
