/- Walks of the reference of chapter 3: Good, Arity, Wrong, begin, Cut, Made. Conditions: what slices read as. -/
import Derived.Test.YtkjedeofjkdlaaaTreeB
namespace Go.Proofs.Ytkjedeofjkdlaaa
open Go.RowKit Go.Eg

set_option maxHeartbeats 400000 in
theorem rGood_calls (n : Nd) (w : World) : Calls Try.prog 43 #[.agg #[.int .i64 n.k, .int .u8 n.s]] w fun e w' => e = .returned (.bool (good n)) ∧ Ext w w' := by
  obtain ⟨k, s⟩ := n
  by_cases h3 : k = 3
  · subst h3
    have HG : Hid (good ⟨3, s⟩ = (decide (97 ≤ s) && decide (s ≤ 104))) := by show _ = _; simp [good]
    go_enter Try.func43, Try.ntmps43
    go_wp2_with fail
    all_goals go_ret
    · exact ⟨ret_bool (by rw [HG.out]; simp [*]), (Ext.refl _).alloc _⟩
    · exact ⟨ret_bool (by rw [HG.out]; simp; omega), (Ext.refl _).alloc _⟩
  · have h3' : (k == 3) = false := by simp [h3]
    by_cases hk : 1 ≤ k ∧ k ≤ 9
    · have ha : 0 ≤ ar k := by unfold ar; (repeat' split) <;> omega
      have HG : Hid (good ⟨k, s⟩ = (s == 0)) := by show _ = _; unfold good; rw [if_neg h3, Bool.eq_iff_iff]; simp [ha]
      obtain ⟨hk1, hk2⟩ := hk
      go_enter Try.func43, Try.ntmps43
      go_wp2_with fail
      all_goals go_ret
      all_goals exact ⟨ret_bool HG.out.symm, (Ext.refl _).alloc _⟩
    · have ha : ¬ 0 ≤ ar k := by unfold ar; (repeat' split) <;> omega
      have HG : Hid (good ⟨k, s⟩ = false) := by show _ = _; unfold good; rw [if_neg h3]; simp [ha]
      by_cases hk1 : 1 ≤ k
      · have hk2 : decide (k ≤ 9) = false := by simp; omega
        go_enter Try.func43, Try.ntmps43
        go_wp2_with fail
        all_goals go_ret
        all_goals exact ⟨ret_bool HG.out.symm, (Ext.refl _).alloc _⟩
      · have hk2 : decide (1 ≤ k) = false := by simpa using hk1
        go_enter Try.func43, Try.ntmps43
        go_wp2_with fail
        all_goals go_ret
        all_goals exact ⟨ret_bool HG.out.symm, (Ext.refl _).alloc _⟩

set_option maxHeartbeats 400000 in
theorem rArity_calls (k : Int) (h : 0 ≤ ar k) (w : World) : Calls Try.prog 44 #[.int .i64 k] w fun e w' => e = .returned (.int .i64 (ar k)) ∧ w' = w := by
  have hk : 1 ≤ k ∧ k ≤ 9 := by unfold ar at h; (repeat' split at h) <;> omega
  have : k = 1 ∨ k = 2 ∨ k = 3 ∨ k = 4 ∨ k = 5 ∨ k = 6 ∨ k = 7 ∨ k = 8 ∨ k = 9 := by omega
  clear hk h
  rcases this with rfl | rfl | rfl | rfl | rfl | rfl | rfl | rfl | rfl
  all_goals
    go_enter Try.func44, Try.ntmps44
    go_wp2
    go_ret
    exact ⟨rfl, rfl⟩

set_option maxHeartbeats 400000 in
set_option maxRecDepth 100000 in
theorem rWrong_calls (t : List Nd) (v : Value) (w : World) (hr : Rd tyNd w t v) : Calls Try.prog 39 #[v] w fun e w' => e = .returned (.int .i64 (errW t)) ∧ Ext w w' := by
  obtain ⟨A, c, rfl, hlc, hcm⟩ := hr.shape
  unfold maxLen at hcm
  by_cases hbig : 4000 < t.length
  · have hb' : decide (4000 < (t.length : Int)) = true := by simp; omega
    go_enter Try.func39, Try.ntmps39
    go_wp2_with fail
    go_ret
    exact ⟨ret_int (by rw [errW, if_pos hbig]), Ext.refl _⟩
  · have hb' : decide (4000 < (t.length : Int)) = false := by simp; omega
    have HE : Hid (errW t = if ok 0 t then 0 else 30) := if_neg hbig
    go_enter Try.func39, Try.ntmps39
    go_wp2_with fail
    go_loopw [3, 4] (fun v3 v4 wr => ∃ (i : Nat) (h : Int), v3 = .int .i64 h ∧ v4 = .int .i64 i ∧ i ≤ t.length ∧ -4001 ≤ h - i ∧ h ≤ 2 * i ∧ Hid (ok h (t.drop i) = ok 0 t) ∧ Ext w wr) (fun _ v4 _ => t.length - (intOf v4).toNat)
    case atStart => exact ⟨0, 0, rfl, rfl, by omega, by omega, by omega, rfl, Ext.refl _⟩
    case round =>
      obtain ⟨i, h, rfl, rfl, hi, hh1, hh2, HO, he⟩ := hrel
      by_cases hlt : i < t.length
      · obtain ⟨b, off, rfl, hb, hc0, hc1⟩ := rd_node (hr.ext he) hlt
        have HT := Lib.hid (ok_take (h := h) hlt)
        have har := ar_le (nth t i).k
        clear hr
        generalize nth t i = n at *
        by_cases hg : good n = true
        · have hga := good_ar hg
          by_cases hle : ar n.k ≤ h
          · have hle' : decide (h < ar n.k) = false := by simp; omega
            go_wp2_with (first | ((go_at_call 43; (with_reducible refine (rGood_calls n _).mono ?_); rintro e w1 ⟨rfl, h1⟩); have := (h1).cells; have := (h1).frozens; have : b < w1.heap.size := Nat.lt_of_lt_of_le (by first | assumption | (simp; done) | (simp; omega)) (h1).le) | (go_at_call 44; (with_reducible refine (rArity_calls _ hga _).mono ?_); rintro e w' ⟨rfl, hw⟩; obtain rfl := hw.symm))
            go_roundw
            case rel => exact ⟨i + 1, h + (1 - ar n.k), val_int (by omega), by go_num, by omega, by omega, by omega, (by have := HT.out; simp only [hg, hle, decide_true, Bool.true_and] at this; exact this.symm.trans HO.out), by (repeat (first | assumption | exact Ext.refl _ | apply Ext.alloc | apply Ext.drew | apply Ext.drewN | refine Ext.trans ?_ (by assumption)))⟩
            case measure => simp [intOf]; omega
          · have hle' : decide (h < ar n.k) = true := by simp; omega
            have hf : ok 0 t = false := by rw [← HO.out, HT.out]; simp [hle]
            have HE' := Lib.hid (HE.out.trans (by rw [hf]; rfl : _ = (30 : Int)))
            clear hf
            go_wp2_with (first | ((go_at_call 43; (with_reducible refine (rGood_calls n _).mono ?_); rintro e w1 ⟨rfl, h1⟩); have := (h1).cells; have := (h1).frozens; have : b < w1.heap.size := Nat.lt_of_lt_of_le (by first | assumption | (simp; done) | (simp; omega)) (h1).le) | (go_at_call 44; (with_reducible refine (rArity_calls _ hga _).mono ?_); rintro e w' ⟨rfl, hw⟩; obtain rfl := hw.symm))
            go_ret
            exact ⟨ret_int HE'.out.symm, by (repeat (first | assumption | exact Ext.refl _ | apply Ext.alloc | apply Ext.drew | apply Ext.drewN | refine Ext.trans ?_ (by assumption)))⟩
        · have hf : ok 0 t = false := by rw [← HO.out, HT.out]; simp [hg]
          have hg' : good n = false := by simpa using hg
          have HE' := Lib.hid (HE.out.trans (by rw [hf]; rfl : _ = (30 : Int)))
          clear hf
          go_wp2_with (first | ((go_at_call 43; (with_reducible refine (rGood_calls n _).mono ?_); rintro e w1 ⟨rfl, h1⟩); have := (h1).cells; have := (h1).frozens; have : b < w1.heap.size := Nat.lt_of_lt_of_le (by first | assumption | (simp; done) | (simp; omega)) (h1).le))
          go_ret
          exact ⟨ret_int HE'.out.symm, by (repeat (first | assumption | exact Ext.refl _ | apply Ext.alloc | apply Ext.drew | apply Ext.drewN | refine Ext.trans ?_ (by assumption)))⟩
      · have hi' : i = t.length := by omega
        subst hi'
        have HF : Hid (ok 0 t = (h == 1)) := by show _ = _; rw [← HO.out, List.drop_length, ok]
        by_cases h1 : h = 1
        · have h1' : (h != 1) = false := by simp [h1]
          go_wp2_with fail
          go_ret
          exact ⟨ret_int (by rw [HE.out, HF.out]; simp [h1]), by (repeat (first | assumption | exact Ext.refl _ | apply Ext.alloc | apply Ext.drew | apply Ext.drewN | refine Ext.trans ?_ (by assumption)))⟩
        · have h1' : (h != 1) = true := by simp [h1]
          go_wp2_with fail
          go_ret
          exact ⟨ret_int (by rw [HE.out, HF.out]; simp [h1]), by (repeat (first | assumption | exact Ext.refl _ | apply Ext.alloc | apply Ext.drew | apply Ext.drewN | refine Ext.trans ?_ (by assumption)))⟩

set_option maxHeartbeats 400000 in
theorem rbegin_calls (t pre : List Nd) (x : T) (post : List Nd) (hx : x.wf) (ht : t = pre ++ x.flat ++ post) (n : Int) (hn : n = ((pre.length + x.flat.length - 1 : Nat) : Int)) (v : Value) (w : World) (hr : Rd tyNd w t v) (hl : t.length ≤ 8796093022208) :
    Calls Try.prog 52 #[v, .int .i64 n] w fun e w' => e = .returned (.int .i64 (pre.length : Int)) ∧ w' = w := by
  obtain ⟨A, c, rfl, hlc, hcm⟩ := hr.shape
  unfold maxLen at hcm
  have hb0 := Bk.start (pre := pre) (post := post) hx
  rw [← ht] at hb0
  subst hn
  generalize pre.length + x.flat.length - 1 = k at *
  clear ht hx
  have hk := hb0.lt
  go_enter Try.func52, Try.ntmps52
  go_wp2_with fail
  go_loop [1, 5] (fun v1 v5 => ∃ (k : Nat) (Ys : List T), v1 = .int .i64 k ∧ v5 = .int .i64 (Ys.length : Int) ∧ Bk t pre k Ys) (fun v1 _ => (intOf v1).toNat)
  case atStart => exact ⟨k, [x], rfl, rfl, hb0⟩
  case round =>
    clear hb0 hk
    obtain ⟨k, Ys, rfl, rfl, hb⟩ := hrel
    have hlt := hb.lt
    have hyl := hb.len
    have hy0 : 1 ≤ Ys.length := List.length_pos_iff.2 hb.ne
    obtain ⟨b, off, rfl, hbl, hc0, hc1⟩ := rd_node hr hlt
    obtain ⟨ha0, hn⟩ := hb.next
    have har := ar_le (nth t k).k
    clear hr hb
    generalize nth t k = n at *
    rcases hn with ⟨hz, hkp⟩ | ⟨hz, hk0, Zs, hb', hzl⟩
    · have hz' : ((Ys.length : Int) - 1 + ar n.k == 0) = true := by rw [beq_iff_eq]; omega
      subst hkp
      clear hz
      go_wp2_with (first | (go_at_call 44; (with_reducible refine (rArity_calls _ ha0 _).mono ?_); rintro e w' ⟨rfl, hw⟩; obtain rfl := hw.symm))
      go_ret
      exact ⟨rfl, rfl⟩
    · have hz' : ((Ys.length : Int) - 1 + ar n.k == 0) = false := by rw [beq_eq_false_iff_ne]; omega
      clear hz
      go_wp2_with (first | (go_at_call 44; (with_reducible refine (rArity_calls _ ha0 _).mono ?_); rintro e w' ⟨rfl, hw⟩; obtain rfl := hw.symm))
      go_round
      case rel => exact ⟨k - 1, Zs, val_int (by omega), val_int (by omega), hb'⟩
      case measure => simp [intOf]; omega

/-- What Made comes to. -/
def MadePost (r : List Nd) (w : World) (e : Ending) (w' : World) : Prop := ∃ v', e = .returned v' ∧ Own tyNd 25 w.heap.size No w' r v' ∧ Ext w w'

set_option maxHeartbeats 400000 in
set_option maxRecDepth 100000 in
theorem rMade_calls (n : Nd) (hn : 0 ≤ n.s ∧ n.s ≤ 255) (ps : List (List Nd)) (hl : ps.flatten.length ≤ 100000) (v : Value) (w : World) (hr : Rd (Ty.slice tyNd) w ps v) (hpl : ps.length ≤ 100000) :
    Calls Try.prog 45 #[.agg #[.int .i64 n.k, .int .u8 n.s], v] w (MadePost (ps.flatten ++ [n]) w) := by
  obtain ⟨A, c, rfl, hlc, hcm⟩ := hr.shape
  unfold maxLen at hcm
  have HN := Lib.hid hn
  clear hn
  go_enter Try.func45, Try.ntmps45
  go_wp2_with fail
  have hx0 : Ext w (w.alloc (.cells #[.int .i64 n.k, .int .u8 n.s] 25)) := (Ext.refl _).alloc _
  go_loopw [5, 6] (fun v5 v6 wr => ∃ i : Nat, v6 = .int .i64 i ∧ i ≤ ps.length ∧ Own tyNd 25 (w.heap.size + 1) No wr (ps.take i).flatten v5 ∧ Ext (w.alloc (.cells #[.int .i64 n.k, .int .u8 n.s] 25)) wr) (fun _ v6 _ => ps.length - (intOf v6).toNat)
  case atStart => exact ⟨0, rfl, by omega, Own.nil _ _ _ _ _, Ext.refl _⟩
  case round =>
    obtain ⟨i, rfl, hi, ho, he⟩ := hrel
    have := (he).cells; have := (he).frozens; have : w.heap.size < wr.heap.size := Nat.lt_of_lt_of_le (by first | assumption | (simp; done) | (simp; omega)) (he).le
    have hbs : w.heap.size + 1 ≤ wr.heap.size := by have := he.le; simpa using this
    have hle : (ps.take i).flatten.length ≤ 100000 := by
      have h1 : ps.flatten = (ps.take i).flatten ++ (ps.drop i).flatten := by rw [← List.flatten_append, List.take_append_drop]
      have := congrArg List.length h1
      rw [List.length_append] at this
      omega
    generalize hout : (ps.take i).flatten = out at *
    have HOUT := Lib.hid hout
    clear hout
    obtain ⟨A5, c5, rfl, h51, h52⟩ := ho.shape
    by_cases hlt : i < ps.length
    · obtain ⟨x, hx⟩ : ∃ x, ps[i]? = some x := ⟨_, List.getElem?_eq_getElem hlt⟩
      obtain ⟨b, off, u, rfl, hb, hc0, hu⟩ := ((hr.ext hx0).ext he).slices hx
      have HFT : Hid ((ps.take (i + 1)).flatten = out ++ x) := by show _ = _; rw [flatten_take hx, HOUT.out]
      have hxl : x.length ≤ 100000 := by
        have h1 : ps.flatten = (ps.take (i + 1)).flatten ++ (ps.drop (i + 1)).flatten := by rw [← List.flatten_append, List.take_append_drop]
        have := congrArg List.length h1
        rw [HFT.out, List.length_append, List.length_append] at this
        omega
      obtain ⟨Au, cu, rfl, hu1, hu2⟩ := hu.shape
      clear hr hx
      go_wp2_with (first | ((with_reducible refine gate_bi .append #[.tmp 13, .tmp 17] ?_); refine wp_append (t := tyNd) 25 (w.heap.size + 1) 16 elNd No _ out rfl ho _ x rfl Any hu (fun _ _ h => h) (by omega) (by decide) hbs ?_; intro v6 w6 ho6 hg6 _; have hx6 := Ext.grown he hg6 (fun k hk => by have := ho.lo k hk; simpa using this)))
      go_roundw
      case rel => exact ⟨i + 1, by go_num, by omega, by rw [HFT.out]; exact ho6, hx6⟩
      case measure => simp [intOf]; omega
    · have hi' : i = ps.length := by omega
      subst hi'
      have HTK : Hid (out = ps.flatten) := by show _ = _; rw [← HOUT.out, List.take_length]
      clear hl
      go_wp2_with (first | ((with_reducible refine gate_bi .append #[.tmp 19, .tmp 21] ?_); refine wp_append (t := tyNd) 25 (w.heap.size + 1) 16 elNd No _ out rfl (ho.ext ((Ext.refl _).alloc _)) _ [n] rfl Any (SlP.one _ _ (fun _ _ => ⟨rfl, HN.out⟩)) (fun _ _ h => h) (by simp; omega) (by decide) (by simp; omega) ?_; intro v6 w6 ho6 hg6 _; have hx6 := Ext.grown (by (repeat (first | assumption | exact Ext.refl _ | apply Ext.alloc | apply Ext.drew | apply Ext.drewN | refine Ext.trans ?_ (by assumption))) : Ext w _) hg6 (fun k hk => by have := ho.lo k hk; omega)))
      go_ret
      exact ⟨v6, rfl, by rw [← HTK.out]; exact ho6.rebase (fun k hk => by have := ho6.lo k hk; omega), hx6⟩
end Go.Proofs.Ytkjedeofjkdlaaa
