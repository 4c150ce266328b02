/- Walks of package bits: Put. Conditions: none. -/
import Derived.Test.YtbmnjnmpjpdcmaaBitsE
import Derived.Test.YtbmnjnmpjpdcmaaPutM
import Derived.Deep.RegionWith
namespace Go.Proofs.Ytbmnjnmpjpdcmaa
open Go.RowKit Go.Eg

def putE (x y : Int) (v : Nat) : Int := if fieldOk x y then (if v < 2 ^ y.toNat then 0 else 11) else 1
def putF (p : Nat → Bool) (x y : Int) (v : Nat) : Nat → Bool := if putE x y v = 0 then putS p x.toNat y.toNat v else fun _ => false
theorem over_mask (v n : Nat) (hv : v < 2 ^ 64) (hn : n ≤ 64) : (v &&& (18446744073709551615 - (2 ^ n - 1)) = 0) ↔ v < 2 ^ n := by
  have hp : 2 ^ n ≤ 2 ^ 64 := Nat.pow_le_pow_right (by omega) hn
  have hq : 0 < 2 ^ n := Nat.two_pow_pos _
  constructor
  · intro h
    apply Nat.lt_pow_two_of_testBit
    intro k hk
    by_cases hk64 : k < 64
    · have := congrArg (fun t => t.testBit k) h
      simp only [andNot_bit v (2 ^ n - 1) k (by omega) hk64, Nat.testBit_two_pow_sub_one, Nat.zero_testBit] at this
      simpa [show ¬ k < n by omega] using this
    · exact Nat.testBit_lt_two_pow (Nat.lt_of_lt_of_le hv (Nat.pow_le_pow_right (by omega) (by omega)))
  · intro h
    apply Nat.eq_of_testBit_eq
    intro k
    rw [Nat.zero_testBit]
    by_cases hk64 : k < 64
    · rw [andNot_bit v (2 ^ n - 1) k (by omega) hk64, Nat.testBit_two_pow_sub_one]
      by_cases hk : k < n
      · simp [hk]
      · have : v.testBit k = false := Nat.testBit_lt_two_pow (Nat.lt_of_lt_of_le h (Nat.pow_le_pow_right (by omega) (by omega)))
        simp [this]
    · rw [Nat.testBit_and, Nat.testBit_lt_two_pow (x := v) (Nat.lt_of_lt_of_le hv (Nat.pow_le_pow_right (by omega) (by omega))), Bool.false_and]
theorem put_word1 (p : Nat → Bool) {x y : Int} {v M : Nat} (h0 : 0 ≤ x) (h1 : 1 ≤ y) (h2 : y ≤ 64) (hv : v < 2 ^ y.toNat) (hM : M = 2 ^ y.toNat - 1) :
    bits .or .u64 (bits .andNot .u64 ((wd p (x / 64).toNat : Nat) : Int) (IntKind.u64.wrap ((M : Int) * 2 ^ (x % 64).toNat))) (IntKind.u64.wrap ((v : Int) * 2 ^ (x % 64).toNat)) = ((wd (putS p x.toNat y.toNat v) (x / 64).toNat : Nat) : Int) := by
  have m1 : M * 2 ^ (x % 64).toNat % 2 ^ 64 < 18446744073709551616 := Nat.mod_lt _ (by decide)
  have m2 : v * 2 ^ (x % 64).toNat % 2 ^ 64 < 18446744073709551616 := Nat.mod_lt _ (by decide)
  rw [cast_shl, cast_shl, u64_andNot_nat _ _ (wd_lt' _ _) m1, u64_or_nat _ _ (Nat.and_lt_two_pow (n := 64) _ (by omega)) m2]
  subst hM
  rw [put_first p _ _ _ _ (by omega) (by omega) hv, show 64 * (x / 64).toNat + (x % 64).toNat = x.toNat by omega]
theorem put_word2 (p : Nat → Bool) {x y : Int} {v M : Nat} (h0 : 0 ≤ x) (h1 : 1 ≤ y) (h2 : y ≤ 64) (hc : 64 < x % 64 + y) (hv : v < 2 ^ y.toNat) (hM : M = 2 ^ y.toNat - 1) :
    bits .or .u64 (bits .andNot .u64 ((wd p (x / 64 + 1).toNat : Nat) : Int) ((M : Int) / 2 ^ (64 - x % 64).toNat)) ((v : Int) / 2 ^ (64 - x % 64).toNat) = ((wd (putS p x.toNat y.toNat v) (x / 64 + 1).toNat : Nat) : Int) := by
  have hp : 2 ^ y.toNat ≤ 2 ^ 64 := Nat.pow_le_pow_right (by omega) (by omega)
  have m1 : M / 2 ^ (64 - x % 64).toNat < 18446744073709551616 := Nat.lt_of_le_of_lt (Nat.div_le_self _ _) (by omega)
  have m2 : v / 2 ^ (64 - x % 64).toNat < 18446744073709551616 := Nat.lt_of_le_of_lt (Nat.div_le_self _ _) (by omega)
  rw [cast_shr, cast_shr, u64_andNot_nat _ _ (wd_lt' _ _) m1, u64_or_nat _ _ (Nat.lt_of_le_of_lt Nat.and_le_left (wd_lt' _ _)) m2]
  subst hM
  rw [show (x / 64 + 1).toNat = (x / 64).toNat + 1 by omega, show (64 - x % 64).toNat = 64 - (x % 64).toNat by omega, put_second p _ _ _ _ (by omega) (by omega) (by omega) hv, show 64 * (x / 64).toNat + (x % 64).toNat = x.toNat by omega]
/-- The set of which one word is already another's. -/
def mixS (p q : Nat → Bool) (j i : Nat) : Bool := if i / 64 = j then q i else p i
theorem mix_same (p q : Nat → Bool) (j : Nat) : wd (mixS p q j) j = wd q j := wd_congr fun b hb => by unfold mixS; rw [if_pos (by omega)]
theorem mix_other (p q : Nat → Bool) (j k : Nat) (h : k ≠ j) : wd (mixS p q j) k = wd p k := wd_congr fun b hb => by unfold mixS; rw [if_neg (by omega)]

set_option maxHeartbeats 2000000 in
set_option maxRecDepth 100000 in
theorem Put_calls (p : Nat → Bool) (x y : Int) (v : Nat) (hv : v < 2 ^ 64) (w : World) : Calls Try.prog 8 #[Value.agg #[.int .u64 (wd (p) 0 : Nat), .int .u64 (wd (p) 1 : Nat), .int .u64 (wd (p) 2 : Nat), .int .u64 (wd (p) 3 : Nat), .int .u64 (wd (p) 4 : Nat), .int .u64 (wd (p) 5 : Nat), .int .u64 (wd (p) 6 : Nat), .int .u64 (wd (p) 7 : Nat)], .int .i64 x, .int .i64 y, .int .u64 v] w fun e w' => e = .returned (.tuple #[Value.agg #[.int .u64 (wd (putF p x y v) 0 : Nat), .int .u64 (wd (putF p x y v) 1 : Nat), .int .u64 (wd (putF p x y v) 2 : Nat), .int .u64 (wd (putF p x y v) 3 : Nat), .int .u64 (wd (putF p x y v) 4 : Nat), .int .u64 (wd (putF p x y v) 5 : Nat), .int .u64 (wd (putF p x y v) 6 : Nat), .int .u64 (wd (putF p x y v) 7 : Nat)], .int .i64 (putE x y v)]) ∧ Ext w w' := by
  have HZ : Hid (Arr ((w.alloc (.cells #[Value.int .u64 (wd (p) 0 : Nat), .int .u64 (wd (p) 1 : Nat), .int .u64 (wd (p) 2 : Nat), .int .u64 (wd (p) 3 : Nat), .int .u64 (wd (p) 4 : Nat), .int .u64 (wd (p) 5 : Nat), .int .u64 (wd (p) 6 : Nat), .int .u64 (wd (p) 7 : Nat)] 24)).alloc (.cells #[Value.int .u64 0, .int .u64 0, .int .u64 0, .int .u64 0, .int .u64 0, .int .u64 0, .int .u64 0, .int .u64 0] 24)) (w.heap.size + 1) (fun _ => false)) := by
    show Arr _ _ _
    (intro j hj; (try rw [wd_none]); match j, hj with | 0, _ => simp | 1, _ => simp | 2, _ => simp | 3, _ => simp | 4, _ => simp | 5, _ => simp | 6, _ => simp | 7, _ => simp)
  by_cases h : fieldOk x y = true
  · have HK := Lib.hid h
    have hh := h
    simp only [fieldOk, Bool.and_eq_true, decide_eq_true_eq] at h
    obtain ⟨⟨⟨h1, h2⟩, h3⟩, h4⟩ := h
    obtain ⟨M, hM⟩ : ∃ M, M = 2 ^ y.toNat - 1 := ⟨_, rfl⟩
    have hmask : (18446744073709551615 : Int) / 2 ^ (64 - y).toNat = (M : Int) := by rw [hM]; exact cast_mask h1 h2
    have hMlt : M < 18446744073709551616 := by rw [hM]; exact mask_lt (by omega)
    by_cases hv2 : v < 2 ^ y.toNat
    · have HE : Hid (putE x y v = 0) := by show _ = _; unfold putE; rw [if_pos hh, if_pos hv2]
      have HF : Hid (putF p x y v = putS p x.toNat y.toNat v) := by show _ = _; unfold putF; rw [HE.out]; rfl
      have hn : bits .andNot .u64 (v : Int) (M : Int) = 0 := by
        rw [u64_andNot_nat _ _ hv hMlt, hM, (over_mask v y.toNat hv (by omega)).2 hv2]; rfl
      have HB : Hid (Arr ((w.alloc (.cells #[Value.int .u64 (wd (p) 0 : Nat), .int .u64 (wd (p) 1 : Nat), .int .u64 (wd (p) 2 : Nat), .int .u64 (wd (p) 3 : Nat), .int .u64 (wd (p) 4 : Nat), .int .u64 (wd (p) 5 : Nat), .int .u64 (wd (p) 6 : Nat), .int .u64 (wd (p) 7 : Nat)] 24)).alloc (.cells #[Value.int .u64 0, .int .u64 0, .int .u64 0, .int .u64 0, .int .u64 0, .int .u64 0, .int .u64 0, .int .u64 0] 24)) w.heap.size p) := by
        show Arr _ _ _
        (intro j hj; (try rw [wd_none]); match j, hj with | 0, _ => simp | 1, _ => simp | 2, _ => simp | 3, _ => simp | 4, _ => simp | 5, _ => simp | 6, _ => simp | 7, _ => simp)
      have HX : Hid (Ext w ((w.alloc (.cells #[Value.int .u64 (wd (p) 0 : Nat), .int .u64 (wd (p) 1 : Nat), .int .u64 (wd (p) 2 : Nat), .int .u64 (wd (p) 3 : Nat), .int .u64 (wd (p) 4 : Nat), .int .u64 (wd (p) 5 : Nat), .int .u64 (wd (p) 6 : Nat), .int .u64 (wd (p) 7 : Nat)] 24)).alloc (.cells #[Value.int .u64 0, .int .u64 0, .int .u64 0, .int .u64 0, .int .u64 0, .int .u64 0, .int .u64 0, .int .u64 0] 24))) := by show Ext _ _; (repeat (first | assumption | exact Ext.refl _ | apply Ext.alloc | apply Ext.drew | apply Ext.drewN | refine Ext.set ?_ (by first | exact Nat.le_refl _ | exact Nat.le_succ _ | omega) _ | refine Ext.trans ?_ (by assumption)))
      have HS : Hid (w.heap.size + 1 < (((w.alloc (.cells #[Value.int .u64 (wd (p) 0 : Nat), .int .u64 (wd (p) 1 : Nat), .int .u64 (wd (p) 2 : Nat), .int .u64 (wd (p) 3 : Nat), .int .u64 (wd (p) 4 : Nat), .int .u64 (wd (p) 5 : Nat), .int .u64 (wd (p) 6 : Nat), .int .u64 (wd (p) 7 : Nat)] 24)).alloc (.cells #[Value.int .u64 0, .int .u64 0, .int .u64 0, .int .u64 0, .int .u64 0, .int .u64 0, .int .u64 0, .int .u64 0] 24))).heap.size) := by show _ < _; simp
      have hq0 : 0 ≤ x / 64 := by omega
      have hq1 : x / 64 < 8 := by omega
      have hq2 : 0 ≤ x % 64 := by omega
      have hq3 : x % 64 < 64 := by omega
      have hd1 : x.tdiv 64 = x / 64 := Int.tdiv_eq_ediv_of_nonneg h3
      have hd2 : x.tmod 64 = x % 64 := Int.tmod_eq_emod_of_nonneg h3
      have hd3 : IntKind.i64.wrap (x / 64) = x / 64 := IntWalk.i64_in _ (by omega)
      have hd4 : IntKind.i64.wrap (x % 64) = x % 64 := IntWalk.i64_in _ (by omega)
      have hd5 := put_word1 p h3 h1 h2 hv2 hM
      have hd6 : min (x % 64).toNat 64 = (x % 64).toNat := by omega
      obtain ⟨p', hp'⟩ : ∃ p', p' = putS p x.toNat y.toNat v := ⟨_, rfl⟩
      rw [← hp'] at hd5
      have HP := Lib.hid hp'
      have HM := Lib.hid hM
      clear hh hM hp'
      go_enter Try.func8, Try.ntmps8
      go_wp2_with ((go_at_call 25; (with_reducible refine (field_calls _ _ _).mono ?_); rintro e w' ⟨rfl, hw⟩; obtain rfl := hw.symm); rw [HK.out])
      generalize ((w.alloc (.cells #[Value.int .u64 (wd (p) 0 : Nat), .int .u64 (wd (p) 1 : Nat), .int .u64 (wd (p) 2 : Nat), .int .u64 (wd (p) 3 : Nat), .int .u64 (wd (p) 4 : Nat), .int .u64 (wd (p) 5 : Nat), .int .u64 (wd (p) 6 : Nat), .int .u64 (wd (p) 7 : Nat)] 24)).alloc (.cells #[Value.int .u64 0, .int .u64 0, .int .u64 0, .int .u64 0, .int .u64 0, .int .u64 0, .int .u64 0, .int .u64 0] 24)) = W at HB HZ HX HS ⊢
      obtain ⟨hw, hf⟩ := HB.out (x / 64).toNat (by omega)
      have hbs := HS.out
      have HS' : Hid (w.heap.size + 1 < (W.setCell ⟨w.heap.size, (x / 64).toNat, none⟩ (.int .u64 (wd p' (x / 64).toNat : Nat))).heap.size) := by show _ < _; simpa using hbs
      have HA' : Hid (Arr (W.setCell ⟨w.heap.size, (x / 64).toNat, none⟩ (.int .u64 (wd p' (x / 64).toNat : Nat))) w.heap.size (mixS p p' (x / 64).toNat)) := by
        show Arr _ _ _
        exact HB.out.put (by omega) (mix_same _ _ _).symm (fun k _ hk => mix_other _ _ _ _ hk)
      have HE' : Hid (Ext w (W.setCell ⟨w.heap.size, (x / 64).toNat, none⟩ (.int .u64 (wd p' (x / 64).toNat : Nat)))) := HX.out.set (Nat.le_refl _) _
      have HZ' : Hid (Arr (W.setCell ⟨w.heap.size, (x / 64).toNat, none⟩ (.int .u64 (wd p' (x / 64).toNat : Nat))) (w.heap.size + 1) (fun _ => false)) := HZ.out.other (by omega)
      by_cases hc : 64 < x % 64 + y
      · have hr0 : 0 ≤ x / 64 + 1 := by omega
        have hr1 : x / 64 + 1 < 8 := by omega
        have hr2 : IntKind.i64.wrap (x / 64 + 1) = x / 64 + 1 := IntWalk.i64_in _ (by omega)
        have hr3 : IntKind.i64.wrap (64 - x % 64) = 64 - x % 64 := IntWalk.i64_in _ (by omega)
        have hr4 := put_word2 p h3 h1 h2 hc hv2 HM.out
        rw [← HP.out] at hr4
        have hr5 : min (64 - x % 64).toNat 64 = (64 - x % 64).toNat := by omega
        have hr6 : 0 ≤ 64 - x % 64 := by omega
        go_region_with (fail)
        all_goals
          replace HA' := Lib.hid HA'.out.drew
          replace HZ' := Lib.hid HZ'.out.drew
          replace HE' := Lib.hid HE'.out.drew
          replace HS' : Hid (w.heap.size + 1 < ((W.setCell ⟨w.heap.size, (x / 64).toNat, none⟩ (.int .u64 (wd p' (x / 64).toNat : Nat))).drew).heap.size) := HS'
          go_wp2_with fail
          generalize (W.setCell ⟨w.heap.size, (x / 64).toNat, none⟩ (.int .u64 (wd p' (x / 64).toNat : Nat))).drew = W1 at HA' HZ' HE' HS' ⊢
          obtain ⟨hw1, hf1⟩ := HA'.out (x / 64 + 1).toNat (by omega)
          rw [mix_other _ _ _ _ (by omega)] at hw1
          have hbs1 := HS'.out
          have HA3 : Hid (Arr (W1.setCell ⟨w.heap.size, (x / 64 + 1).toNat, none⟩ (.int .u64 (wd p' (x / 64 + 1).toNat : Nat))) w.heap.size p') := by
            show Arr _ _ _
            refine HA'.out.put (by omega) rfl (fun k _ hk => ?_)
            by_cases hk2 : k = (x / 64).toNat
            · rw [hk2, mix_same]
            · rw [mix_other _ _ _ _ hk2, HP.out]
              exact put_other _ _ _ _ _ (by omega)
          have HE3 : Hid (Ext w (W1.setCell ⟨w.heap.size, (x / 64 + 1).toNat, none⟩ (.int .u64 (wd p' (x / 64 + 1).toNat : Nat)))) := HE'.out.set (Nat.le_refl _) _
          have HZ3 : Hid (Arr (W1.setCell ⟨w.heap.size, (x / 64 + 1).toNat, none⟩ (.int .u64 (wd p' (x / 64 + 1).toNat : Nat))) (w.heap.size + 1) (fun _ => false)) := HZ'.out.other (by omega)
          clear HA'
          go_region_with (fail)
          all_goals
            replace HE3 := Lib.hid HE3.out.drew
            replace HA3 := Lib.hid HA3.out.drew
            replace HZ3 := Lib.hid HZ3.out.drew
            generalize (W1.setCell ⟨w.heap.size, (x / 64 + 1).toNat, none⟩ (.int .u64 (wd p' (x / 64 + 1).toNat : Nat))).drew = W2 at HA3 HZ3 HE3 ⊢
            have H__ := (HA3).out; obtain ⟨ce0, fe0⟩ := H__ 0 (by omega); obtain ⟨ce1, fe1⟩ := H__ 1 (by omega); obtain ⟨ce2, fe2⟩ := H__ 2 (by omega); obtain ⟨ce3, fe3⟩ := H__ 3 (by omega); obtain ⟨ce4, fe4⟩ := H__ 4 (by omega); obtain ⟨ce5, fe5⟩ := H__ 5 (by omega); obtain ⟨ce6, fe6⟩ := H__ 6 (by omega); obtain ⟨ce7, fe7⟩ := H__ 7 (by omega); clear H__
            have H__ := (HZ3).out; obtain ⟨de0, ge0⟩ := H__ 0 (by omega); obtain ⟨de1, ge1⟩ := H__ 1 (by omega); obtain ⟨de2, ge2⟩ := H__ 2 (by omega); obtain ⟨de3, ge3⟩ := H__ 3 (by omega); obtain ⟨de4, ge4⟩ := H__ 4 (by omega); obtain ⟨de5, ge5⟩ := H__ 5 (by omega); obtain ⟨de6, ge6⟩ := H__ 6 (by omega); obtain ⟨de7, ge7⟩ := H__ 7 (by omega); clear H__
            have HEX : Hid (Ext w ((((((((W2.setCell ⟨w.heap.size + 1, 0, none⟩ (.int .u64 (wd p' 0 : Nat))).setCell ⟨w.heap.size + 1, 1, none⟩ (.int .u64 (wd p' 1 : Nat))).setCell ⟨w.heap.size + 1, 2, none⟩ (.int .u64 (wd p' 2 : Nat))).setCell ⟨w.heap.size + 1, 3, none⟩ (.int .u64 (wd p' 3 : Nat))).setCell ⟨w.heap.size + 1, 4, none⟩ (.int .u64 (wd p' 4 : Nat))).setCell ⟨w.heap.size + 1, 5, none⟩ (.int .u64 (wd p' 5 : Nat))).setCell ⟨w.heap.size + 1, 6, none⟩ (.int .u64 (wd p' 6 : Nat))).setCell ⟨w.heap.size + 1, 7, none⟩ (.int .u64 (wd p' 7 : Nat)))) := (((((((HE3.out.set (Nat.le_succ _) _).set (Nat.le_succ _) _).set (Nat.le_succ _) _).set (Nat.le_succ _) _).set (Nat.le_succ _) _).set (Nat.le_succ _) _).set (Nat.le_succ _) _).set (Nat.le_succ _) _
            clear hw hf hbs hd1 hd2 hd3 hd4 hd5 hd6 hn hmask hMlt hv hv2 h1 h2 h3 h4 hq0 hq1 hq2 hq3 hr0 hr1 hr2 hr3 hr4 hr5 hr6 hw1 hf1 hbs1 hc
            go_wp2_with fail
            exact bodyPost_ret (v := .tuple #[Value.agg #[.int .u64 (wd (p') 0 : Nat), .int .u64 (wd (p') 1 : Nat), .int .u64 (wd (p') 2 : Nat), .int .u64 (wd (p') 3 : Nat), .int .u64 (wd (p') 4 : Nat), .int .u64 (wd (p') 5 : Nat), .int .u64 (wd (p') 6 : Nat), .int .u64 (wd (p') 7 : Nat)], .int .i64 0]) (by simp [results, Try.results8, go_sem, *]) rfl ⟨by rw [HF.out, HE.out, ← HP.out], HEX.out⟩
      · have HA3 : Hid (Arr (W.setCell ⟨w.heap.size, (x / 64).toNat, none⟩ (.int .u64 (wd p' (x / 64).toNat : Nat))) w.heap.size p') := by
          show Arr _ _ _
          refine HB.out.put (by omega) rfl (fun k _ hk => ?_)
          rw [HP.out]
          exact put_other _ _ _ _ _ (by omega)
        go_region_with (fail)
        all_goals
          replace HE' := Lib.hid HE'.out.drew
          replace HA3 := Lib.hid HA3.out.drew
          replace HZ' := Lib.hid HZ'.out.drew
          generalize (W.setCell ⟨w.heap.size, (x / 64).toNat, none⟩ (.int .u64 (wd p' (x / 64).toNat : Nat))).drew = W2 at HA3 HZ' HE' ⊢
          have H__ := (HA3).out; obtain ⟨ce0, fe0⟩ := H__ 0 (by omega); obtain ⟨ce1, fe1⟩ := H__ 1 (by omega); obtain ⟨ce2, fe2⟩ := H__ 2 (by omega); obtain ⟨ce3, fe3⟩ := H__ 3 (by omega); obtain ⟨ce4, fe4⟩ := H__ 4 (by omega); obtain ⟨ce5, fe5⟩ := H__ 5 (by omega); obtain ⟨ce6, fe6⟩ := H__ 6 (by omega); obtain ⟨ce7, fe7⟩ := H__ 7 (by omega); clear H__
          have H__ := (HZ').out; obtain ⟨de0, ge0⟩ := H__ 0 (by omega); obtain ⟨de1, ge1⟩ := H__ 1 (by omega); obtain ⟨de2, ge2⟩ := H__ 2 (by omega); obtain ⟨de3, ge3⟩ := H__ 3 (by omega); obtain ⟨de4, ge4⟩ := H__ 4 (by omega); obtain ⟨de5, ge5⟩ := H__ 5 (by omega); obtain ⟨de6, ge6⟩ := H__ 6 (by omega); obtain ⟨de7, ge7⟩ := H__ 7 (by omega); clear H__
          have HEX : Hid (Ext w ((((((((W2.setCell ⟨w.heap.size + 1, 0, none⟩ (.int .u64 (wd p' 0 : Nat))).setCell ⟨w.heap.size + 1, 1, none⟩ (.int .u64 (wd p' 1 : Nat))).setCell ⟨w.heap.size + 1, 2, none⟩ (.int .u64 (wd p' 2 : Nat))).setCell ⟨w.heap.size + 1, 3, none⟩ (.int .u64 (wd p' 3 : Nat))).setCell ⟨w.heap.size + 1, 4, none⟩ (.int .u64 (wd p' 4 : Nat))).setCell ⟨w.heap.size + 1, 5, none⟩ (.int .u64 (wd p' 5 : Nat))).setCell ⟨w.heap.size + 1, 6, none⟩ (.int .u64 (wd p' 6 : Nat))).setCell ⟨w.heap.size + 1, 7, none⟩ (.int .u64 (wd p' 7 : Nat)))) := (((((((HE'.out.set (Nat.le_succ _) _).set (Nat.le_succ _) _).set (Nat.le_succ _) _).set (Nat.le_succ _) _).set (Nat.le_succ _) _).set (Nat.le_succ _) _).set (Nat.le_succ _) _).set (Nat.le_succ _) _
          go_wp2_with fail
          clear hw hf hbs hd1 hd2 hd3 hd4 hd5 hd6 hn hmask hMlt hv hv2 h1 h2 h3 h4 hq0 hq1
          exact bodyPost_ret (v := .tuple #[Value.agg #[.int .u64 (wd (p') 0 : Nat), .int .u64 (wd (p') 1 : Nat), .int .u64 (wd (p') 2 : Nat), .int .u64 (wd (p') 3 : Nat), .int .u64 (wd (p') 4 : Nat), .int .u64 (wd (p') 5 : Nat), .int .u64 (wd (p') 6 : Nat), .int .u64 (wd (p') 7 : Nat)], .int .i64 0]) (by simp [results, Try.results8, go_sem, *]) rfl ⟨by rw [HF.out, HE.out, ← HP.out], HEX.out⟩
    · have HE : Hid (putE x y v = 11) := by show _ = _; unfold putE; rw [if_pos hh, if_neg hv2]
      have HF : Hid (putF p x y v = fun _ => false) := by show _ = _; unfold putF; rw [HE.out]; rfl
      have hn : (bits .andNot .u64 (v : Int) (M : Int) != 0) = true := by
        rw [u64_andNot_nat _ _ hv hMlt, hM]
        have := fun e => hv2 ((over_mask v y.toNat hv (by omega)).1 e)
        refine bne_iff_ne.2 fun e => this ?_
        exact Int.ofNat.inj e
      clear hh hM
      go_enter Try.func8, Try.ntmps8
      go_wp2_with ((go_at_call 25; (with_reducible refine (field_calls _ _ _).mono ?_); rintro e w' ⟨rfl, hw⟩; obtain rfl := hw.symm); rw [HK.out])
      exact bodyPost_ret (v := .tuple #[Value.agg #[.int .u64 0, .int .u64 0, .int .u64 0, .int .u64 0, .int .u64 0, .int .u64 0, .int .u64 0, .int .u64 0], .int .i64 11]) (by simp [results, Try.results8, go_sem, *]) rfl ⟨by rw [HF.out, HE.out]; simp [wd_none], by (repeat (first | assumption | exact Ext.refl _ | apply Ext.alloc | apply Ext.drew | apply Ext.drewN | refine Ext.set ?_ (by first | exact Nat.le_refl _ | exact Nat.le_succ _ | omega) _ | refine Ext.trans ?_ (by assumption)))⟩
  · have HK : Hid (fieldOk x y = false) := by show _ = _; simpa using h
    have HE : Hid (putE x y v = 1) := by show _ = _; unfold putE; rw [if_neg h]
    have HF : Hid (putF p x y v = fun _ => false) := by show _ = _; unfold putF; rw [HE.out]; rfl
    clear h
    go_enter Try.func8, Try.ntmps8
    go_wp2_with ((go_at_call 25; (with_reducible refine (field_calls _ _ _).mono ?_); rintro e w' ⟨rfl, hw⟩; obtain rfl := hw.symm); rw [HK.out])
    exact bodyPost_ret (v := .tuple #[Value.agg #[.int .u64 0, .int .u64 0, .int .u64 0, .int .u64 0, .int .u64 0, .int .u64 0, .int .u64 0, .int .u64 0], .int .i64 1]) (by simp [results, Try.results8, go_sem, *]) rfl ⟨by rw [HF.out, HE.out]; simp [wd_none], by (repeat (first | assumption | exact Ext.refl _ | apply Ext.alloc | apply Ext.drew | apply Ext.drewN | refine Ext.set ?_ (by first | exact Nat.le_refl _ | exact Nat.le_succ _ | omega) _ | refine Ext.trans ?_ (by assumption)))⟩
end Go.Proofs.Ytbmnjnmpjpdcmaa
