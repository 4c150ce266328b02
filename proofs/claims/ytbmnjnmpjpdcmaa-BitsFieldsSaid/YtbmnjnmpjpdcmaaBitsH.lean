/- Walks of the reference of chapter 2: Put. Conditions: none. -/
import Derived.Test.YtbmnjnmpjpdcmaaBitsG
import Derived.Test.YtbmnjnmpjpdcmaaBitsF
import Derived.Test.YtbmnjnmpjpdcmaaListB
namespace Go.Proofs.Ytbmnjnmpjpdcmaa
open Go.RowKit Go.Eg

theorem Arr.ext {w w' : World} {b : Nat} {p : Nat → Bool} (h : Arr w b p) (he : Ext w w') (hb : b < w.heap.size) : Arr w' b p :=
  fun j hj => ⟨(he.cell _ _ hb).trans (h j hj).1, (he.frozens _ _ hb).trans (h j hj).2⟩
theorem nat_test {v k : Nat} (hv : v < 2 ^ 64) : (bits .and .u64 (((v : Nat) : Int) / 2 ^ k) 1 == 1) = v.testBit k := by
  have hlt : v / 2 ^ k < 18446744073709551616 := Nat.lt_of_le_of_lt (Nat.div_le_self _ _) hv
  rw [cast_shr, show (1 : Int) = ((1 : Nat) : Int) from rfl, u64_and_nat _ _ hlt (by decide), Nat.and_one_is_mod, Nat.testBit_eq_decide_div_mod_eq]
  have : v / 2 ^ k % 2 < 2 := Nat.mod_lt _ (by omega)
  by_cases h : v / 2 ^ k % 2 = 1
  · rw [h]; rfl
  · rw [show v / 2 ^ k % 2 = 0 by omega]; rfl
set_option maxHeartbeats 2000000 in
set_option maxRecDepth 100000 in
theorem rPut_calls (p : Nat → Bool) (x y : Int) (v : Nat) (hv : v < 2 ^ 64) (w : World) : Calls Try.prog 9 #[Value.agg #[.int .u64 (wd (p) 0 : Nat), .int .u64 (wd (p) 1 : Nat), .int .u64 (wd (p) 2 : Nat), .int .u64 (wd (p) 3 : Nat), .int .u64 (wd (p) 4 : Nat), .int .u64 (wd (p) 5 : Nat), .int .u64 (wd (p) 6 : Nat), .int .u64 (wd (p) 7 : Nat)], .int .i64 x, .int .i64 y, .int .u64 v] w fun e w' => e = .returned (.tuple #[Value.agg #[.int .u64 (wd (putF p x y v) 0 : Nat), .int .u64 (wd (putF p x y v) 1 : Nat), .int .u64 (wd (putF p x y v) 2 : Nat), .int .u64 (wd (putF p x y v) 3 : Nat), .int .u64 (wd (putF p x y v) 4 : Nat), .int .u64 (wd (putF p x y v) 5 : Nat), .int .u64 (wd (putF p x y v) 6 : Nat), .int .u64 (wd (putF p x y v) 7 : Nat)], .int .i64 (putE x y v)]) ∧ Ext w w' := by
  have HZ : Hid (Arr ((w.alloc (.cells #[Value.int .u64 (wd (p) 0 : Nat), .int .u64 (wd (p) 1 : Nat), .int .u64 (wd (p) 2 : Nat), .int .u64 (wd (p) 3 : Nat), .int .u64 (wd (p) 4 : Nat), .int .u64 (wd (p) 5 : Nat), .int .u64 (wd (p) 6 : Nat), .int .u64 (wd (p) 7 : Nat)] 24)).alloc (.cells #[Value.int .u64 0, .int .u64 0, .int .u64 0, .int .u64 0, .int .u64 0, .int .u64 0, .int .u64 0, .int .u64 0] 24)) (w.heap.size + 1) (fun _ => false)) := by
    show Arr _ _ _
    (intro j hj; (try rw [wd_none]); match j, hj with | 0, _ => simp | 1, _ => simp | 2, _ => simp | 3, _ => simp | 4, _ => simp | 5, _ => simp | 6, _ => simp | 7, _ => simp)
  have HX : Hid (Ext w ((w.alloc (.cells #[Value.int .u64 (wd (p) 0 : Nat), .int .u64 (wd (p) 1 : Nat), .int .u64 (wd (p) 2 : Nat), .int .u64 (wd (p) 3 : Nat), .int .u64 (wd (p) 4 : Nat), .int .u64 (wd (p) 5 : Nat), .int .u64 (wd (p) 6 : Nat), .int .u64 (wd (p) 7 : Nat)] 24)).alloc (.cells #[Value.int .u64 0, .int .u64 0, .int .u64 0, .int .u64 0, .int .u64 0, .int .u64 0, .int .u64 0, .int .u64 0] 24))) := by show Ext _ _; (repeat (first | assumption | exact Ext.refl _ | apply Ext.alloc | apply Ext.drew | apply Ext.drewN | refine Ext.set ?_ (by first | exact Nat.le_refl _ | exact Nat.le_succ _ | omega) _ | refine Ext.trans ?_ (by assumption)))
  have HS : Hid (w.heap.size + 1 < ((w.alloc (.cells #[Value.int .u64 (wd (p) 0 : Nat), .int .u64 (wd (p) 1 : Nat), .int .u64 (wd (p) 2 : Nat), .int .u64 (wd (p) 3 : Nat), .int .u64 (wd (p) 4 : Nat), .int .u64 (wd (p) 5 : Nat), .int .u64 (wd (p) 6 : Nat), .int .u64 (wd (p) 7 : Nat)] 24)).alloc (.cells #[Value.int .u64 0, .int .u64 0, .int .u64 0, .int .u64 0, .int .u64 0, .int .u64 0, .int .u64 0, .int .u64 0] 24)).heap.size) := by show _ < _; simp
  by_cases h : fieldOk x y = true
  · have HK : Hid (fieldE x y = 0) := by show _ = _; unfold fieldE; rw [if_pos h]
    have hh := h
    simp only [fieldOk, Bool.and_eq_true, decide_eq_true_eq] at h
    obtain ⟨⟨⟨h1, h2⟩, h3⟩, h4⟩ := h
    have hy0 : IntKind.u64.wrap y = y := by rw [IntKind.wrap_u64]; omega
    by_cases hv2 : v < 2 ^ y.toNat
    · have HE : Hid (putE x y v = 0) := by show _ = _; unfold putE; rw [if_pos hh, if_pos hv2]
      have HF : Hid (putF p x y v = putS p x.toNat y.toNat v) := by show _ = _; unfold putF; rw [HE.out]; rfl
      have hn : (v : Int) / 2 ^ y.toNat = 0 := by rw [cast_shr, Nat.div_eq_of_lt hv2]; rfl
      have HB : Hid (Arr ((w.alloc (.cells #[Value.int .u64 (wd (p) 0 : Nat), .int .u64 (wd (p) 1 : Nat), .int .u64 (wd (p) 2 : Nat), .int .u64 (wd (p) 3 : Nat), .int .u64 (wd (p) 4 : Nat), .int .u64 (wd (p) 5 : Nat), .int .u64 (wd (p) 6 : Nat), .int .u64 (wd (p) 7 : Nat)] 24)).alloc (.cells #[Value.int .u64 0, .int .u64 0, .int .u64 0, .int .u64 0, .int .u64 0, .int .u64 0, .int .u64 0, .int .u64 0] 24)) w.heap.size p) := by
        show Arr _ _ _
        (intro j hj; (try rw [wd_none]); match j, hj with | 0, _ => simp | 1, _ => simp | 2, _ => simp | 3, _ => simp | 4, _ => simp | 5, _ => simp | 6, _ => simp | 7, _ => simp)
      clear hh hv2
      go_enter Try.func9, Try.ntmps9
      go_wp2_with ((go_at_call 7; (with_reducible refine (rField_calls _ _ _ _).mono ?_); rintro e w1 ⟨rfl, h1⟩); rw [HK.out]; (replace HB := Lib.hid (HB.out.ext h1 (by have := HS.out; omega))); (replace HZ := Lib.hid (HZ.out.ext h1 HS.out)); (replace HX := Lib.hid (HX.out.trans h1)); (replace HS := Lib.hid (Nat.lt_of_lt_of_le HS.out h1.le)); clear h1)
      all_goals
        have hbs := HS.out
        go_loopw [12, 13] (fun v12 v13 wr => ∃ i : Nat, v13 = .int .i64 i ∧ i ≤ 512 ∧ Own (Ty.int .i64) 3 w1.heap.size No wr (numsB (putS p x.toNat y.toNat v) i) v12 ∧ Ext w1 wr) (fun _ v13 _ => 512 - (intOf v13).toNat)
        case atStart => exact ⟨0, rfl, by omega, Own.nil _ _ _ _ _, Ext.refl _⟩
        case round =>
          obtain ⟨i, rfl, hi, ho, he⟩ := hrel
          by_cases hlt : i < 512
          · have HB1 := Lib.hid (HB.out.ext he (by omega))
            have hsh := ho.shape
            have hln := numsB_len (putS p x.toNat y.toNat v) i
            obtain ⟨A5, c5, rfl, h51, h52⟩ := hsh
            have H__ := (HB1).out; obtain ⟨ce0, fe0⟩ := H__ 0 (by omega); obtain ⟨ce1, fe1⟩ := H__ 1 (by omega); obtain ⟨ce2, fe2⟩ := H__ 2 (by omega); obtain ⟨ce3, fe3⟩ := H__ 3 (by omega); obtain ⟨ce4, fe4⟩ := H__ 4 (by omega); obtain ⟨ce5, fe5⟩ := H__ 5 (by omega); obtain ⟨ce6, fe6⟩ := H__ 6 (by omega); obtain ⟨ce7, fe7⟩ := H__ 7 (by omega); clear H__
            have HP : Hid (∀ b, putS p x.toNat y.toNat v i = b → numsB (putS p x.toNat y.toNat v) (i + 1) = numsB (putS p x.toNat y.toNat v) i ++ if b then [(i : Int)] else []) := by
              intro b hb
              cases b
              · rw [numsB_neg hb]; simp
              · rw [numsB_pos hb]; simp
            have HQ : Hid (putS p x.toNat y.toNat v i = if x ≤ i ∧ (i : Int) < x + y then v.testBit (i - x.toNat) else p i) := by
              show _ = _
              unfold putS
              by_cases hc : x ≤ i ∧ (i : Int) < x + y
              · rw [if_pos hc, if_pos (by omega)]
              · rw [if_neg hc, if_neg (by omega)]
            generalize numsB (putS p x.toNat y.toNat v) i = L at *
            have hI : Hid (inSet p i = p i) := by show _ = _; simp [inSet]; omega
            by_cases hc1 : x ≤ i
            · by_cases hc2 : (i : Int) < x + y
              · have hwr : IntKind.u64.wrap ((i : Int) - x) = i - x := by rw [IntKind.wrap_u64]; omega
                have hT := nat_test (k := ((i : Int) - x).toNat) hv
                rw [show ((i : Int) - x).toNat = i - x.toNat by omega] at hT
                have hwt : ((i : Int) - x).toNat = i - x.toNat := by omega
                replace HQ := HP.out _ (HQ.out.trans (if_pos ⟨hc1, hc2⟩))
                cases hb : v.testBit (i - x.toNat)
                · rw [hb] at hT HQ
                  have HL := Lib.hid HQ
                  clear HQ
                  go_wp2_with (first | ((go_at_call 26; (with_reducible refine (rHas_calls p _ _).mono ?_); rintro e w2 ⟨rfl, h2⟩)))
                  go_roundw
                  case rel => exact ⟨i + 1, by go_num, by omega, by rw [HL.out]; simpa using ho.ext (by (repeat (first | assumption | exact Ext.refl _ | apply Ext.alloc | apply Ext.drew | apply Ext.drewN | refine Ext.trans ?_ (by assumption)))), by (repeat (first | assumption | exact Ext.refl _ | apply Ext.alloc | apply Ext.drew | apply Ext.drewN | refine Ext.trans ?_ (by assumption)))⟩
                  case measure => simp [intOf]; omega
                · rw [hb] at hT HQ
                  have HL := Lib.hid HQ
                  clear HQ
                  go_wp2_with (first | ((go_at_call 26; (with_reducible refine (rHas_calls p _ _).mono ?_); rintro e w2 ⟨rfl, h2⟩)) | ((with_reducible refine gate_bi .append #[.tmp 65, .tmp 67] ?_); refine wp_append (t := Ty.int .i64) 3 w1.heap.size 8 elInt No _ L rfl (ho.ext (by (repeat (first | assumption | exact Ext.refl _ | apply Ext.alloc | apply Ext.drew | apply Ext.drewN | refine Ext.trans ?_ (by assumption))))) _ [(i : Int)] rfl Any (SlP.one _ _ (fun _ _ => rfl)) (fun _ _ h => h) (by simp; omega) (by decide) (by have := he.le; have := h2.le; simp; omega) ?_; intro v6 w6 ho6 hg6 _; have hx6 := Ext.grown (by (repeat (first | assumption | exact Ext.refl _ | apply Ext.alloc | apply Ext.drew | apply Ext.drewN | refine Ext.trans ?_ (by assumption))) : Ext w1 _) hg6 ho.lo))
                  go_roundw
                  case rel => exact ⟨i + 1, by go_num, by omega, by rw [HL.out]; exact ho6, hx6⟩
                  case measure => simp [intOf]; omega
              · replace HQ := HP.out _ (HQ.out.trans (if_neg (fun h => hc2 h.2)))
                cases hb : p i
                · rw [hb] at HQ hI
                  have HL := Lib.hid HQ
                  clear HQ
                  go_wp2_with (first | ((go_at_call 26; (with_reducible refine (rHas_calls p _ _).mono ?_); rintro e w2 ⟨rfl, h2⟩); rw [hI.out]))
                  go_roundw
                  case rel => exact ⟨i + 1, by go_num, by omega, by rw [HL.out]; simpa using ho.ext (by (repeat (first | assumption | exact Ext.refl _ | apply Ext.alloc | apply Ext.drew | apply Ext.drewN | refine Ext.trans ?_ (by assumption)))), by (repeat (first | assumption | exact Ext.refl _ | apply Ext.alloc | apply Ext.drew | apply Ext.drewN | refine Ext.trans ?_ (by assumption)))⟩
                  case measure => simp [intOf]; omega
                · rw [hb] at HQ hI
                  have HL := Lib.hid HQ
                  clear HQ
                  go_wp2_with (first | ((go_at_call 26; (with_reducible refine (rHas_calls p _ _).mono ?_); rintro e w2 ⟨rfl, h2⟩); rw [hI.out]) | ((with_reducible refine gate_bi .append #[.tmp 65, .tmp 67] ?_); refine wp_append (t := Ty.int .i64) 3 w1.heap.size 8 elInt No _ L rfl (ho.ext (by (repeat (first | assumption | exact Ext.refl _ | apply Ext.alloc | apply Ext.drew | apply Ext.drewN | refine Ext.trans ?_ (by assumption))))) _ [(i : Int)] rfl Any (SlP.one _ _ (fun _ _ => rfl)) (fun _ _ h => h) (by simp; omega) (by decide) (by have := he.le; have := h2.le; simp; omega) ?_; intro v6 w6 ho6 hg6 _; have hx6 := Ext.grown (by (repeat (first | assumption | exact Ext.refl _ | apply Ext.alloc | apply Ext.drew | apply Ext.drewN | refine Ext.trans ?_ (by assumption))) : Ext w1 _) hg6 ho.lo))
                  go_roundw
                  case rel => exact ⟨i + 1, by go_num, by omega, by rw [HL.out]; exact ho6, hx6⟩
                  case measure => simp [intOf]; omega
            · replace HQ := HP.out _ (HQ.out.trans (if_neg (fun h => hc1 h.1)))
              cases hb : p i
              · rw [hb] at HQ hI
                have HL := Lib.hid HQ
                clear HQ
                go_wp2_with (first | ((go_at_call 26; (with_reducible refine (rHas_calls p _ _).mono ?_); rintro e w2 ⟨rfl, h2⟩); rw [hI.out]))
                go_roundw
                case rel => exact ⟨i + 1, by go_num, by omega, by rw [HL.out]; simpa using ho.ext (by (repeat (first | assumption | exact Ext.refl _ | apply Ext.alloc | apply Ext.drew | apply Ext.drewN | refine Ext.trans ?_ (by assumption)))), by (repeat (first | assumption | exact Ext.refl _ | apply Ext.alloc | apply Ext.drew | apply Ext.drewN | refine Ext.trans ?_ (by assumption)))⟩
                case measure => simp [intOf]; omega
              · rw [hb] at HQ hI
                have HL := Lib.hid HQ
                clear HQ
                go_wp2_with (first | ((go_at_call 26; (with_reducible refine (rHas_calls p _ _).mono ?_); rintro e w2 ⟨rfl, h2⟩); rw [hI.out]) | ((with_reducible refine gate_bi .append #[.tmp 65, .tmp 67] ?_); refine wp_append (t := Ty.int .i64) 3 w1.heap.size 8 elInt No _ L rfl (ho.ext (by (repeat (first | assumption | exact Ext.refl _ | apply Ext.alloc | apply Ext.drew | apply Ext.drewN | refine Ext.trans ?_ (by assumption))))) _ [(i : Int)] rfl Any (SlP.one _ _ (fun _ _ => rfl)) (fun _ _ h => h) (by simp; omega) (by decide) (by have := he.le; have := h2.le; simp; omega) ?_; intro v6 w6 ho6 hg6 _; have hx6 := Ext.grown (by (repeat (first | assumption | exact Ext.refl _ | apply Ext.alloc | apply Ext.drew | apply Ext.drewN | refine Ext.trans ?_ (by assumption))) : Ext w1 _) hg6 ho.lo))
                go_roundw
                case rel => exact ⟨i + 1, by go_num, by omega, by rw [HL.out]; exact ho6, hx6⟩
                case measure => simp [intOf]; omega
          · have hi' : i = 512 := by omega
            subst hi'
            have HO := Lib.hid (ofE_nums (p := putS p x.toNat y.toNat v) (Nat.le_refl 512))
            have HW := Lib.hid (fun j hj => wd_nums (p := putS p x.toNat y.toNat v) j hj)
            have hsh := ho.shape
            obtain ⟨A5, c5, rfl, h51, h52⟩ := hsh
            go_wp2_with ((go_at_call 27; (with_reducible refine (rOf_calls _ _ _ ho.rd).mono ?_); rintro e w2 ⟨rfl, h2⟩); rw [HO.out, HW.out 0 (by omega), HW.out 1 (by omega), HW.out 2 (by omega), HW.out 3 (by omega), HW.out 4 (by omega), HW.out 5 (by omega), HW.out 6 (by omega), HW.out 7 (by omega)]; (replace HZ := Lib.hid (HZ.out.ext (he.trans h2) HS.out)); (replace HX := Lib.hid (HX.out.trans (he.trans h2))); clear h2; have H__ := (HZ).out; obtain ⟨ce0, fe0⟩ := H__ 0 (by omega); obtain ⟨ce1, fe1⟩ := H__ 1 (by omega); obtain ⟨ce2, fe2⟩ := H__ 2 (by omega); obtain ⟨ce3, fe3⟩ := H__ 3 (by omega); obtain ⟨ce4, fe4⟩ := H__ 4 (by omega); obtain ⟨ce5, fe5⟩ := H__ 5 (by omega); obtain ⟨ce6, fe6⟩ := H__ 6 (by omega); obtain ⟨ce7, fe7⟩ := H__ 7 (by omega); clear H__)
            have HEX : Hid (Ext w ((((((((w2.setCell ⟨w.heap.size + 1, 0, none⟩ (.int .u64 (wd (putS p x.toNat y.toNat v) 0 : Nat))).setCell ⟨w.heap.size + 1, 1, none⟩ (.int .u64 (wd (putS p x.toNat y.toNat v) 1 : Nat))).setCell ⟨w.heap.size + 1, 2, none⟩ (.int .u64 (wd (putS p x.toNat y.toNat v) 2 : Nat))).setCell ⟨w.heap.size + 1, 3, none⟩ (.int .u64 (wd (putS p x.toNat y.toNat v) 3 : Nat))).setCell ⟨w.heap.size + 1, 4, none⟩ (.int .u64 (wd (putS p x.toNat y.toNat v) 4 : Nat))).setCell ⟨w.heap.size + 1, 5, none⟩ (.int .u64 (wd (putS p x.toNat y.toNat v) 5 : Nat))).setCell ⟨w.heap.size + 1, 6, none⟩ (.int .u64 (wd (putS p x.toNat y.toNat v) 6 : Nat))).setCell ⟨w.heap.size + 1, 7, none⟩ (.int .u64 (wd (putS p x.toNat y.toNat v) 7 : Nat)))) := ((((((((HX.out.set (by first | exact Nat.le_refl _ | exact Nat.le_succ _ | omega) _).set (by first | exact Nat.le_refl _ | exact Nat.le_succ _ | omega) _).set (by first | exact Nat.le_refl _ | exact Nat.le_succ _ | omega) _).set (by first | exact Nat.le_refl _ | exact Nat.le_succ _ | omega) _).set (by first | exact Nat.le_refl _ | exact Nat.le_succ _ | omega) _).set (by first | exact Nat.le_refl _ | exact Nat.le_succ _ | omega) _).set (by first | exact Nat.le_refl _ | exact Nat.le_succ _ | omega) _).set (by first | exact Nat.le_refl _ | exact Nat.le_succ _ | omega) _)
            exact bodyPost_ret (v := .tuple #[Value.agg #[.int .u64 (wd (putS p x.toNat y.toNat v) 0 : Nat), .int .u64 (wd (putS p x.toNat y.toNat v) 1 : Nat), .int .u64 (wd (putS p x.toNat y.toNat v) 2 : Nat), .int .u64 (wd (putS p x.toNat y.toNat v) 3 : Nat), .int .u64 (wd (putS p x.toNat y.toNat v) 4 : Nat), .int .u64 (wd (putS p x.toNat y.toNat v) 5 : Nat), .int .u64 (wd (putS p x.toNat y.toNat v) 6 : Nat), .int .u64 (wd (putS p x.toNat y.toNat v) 7 : Nat)], .int .i64 0]) (by simp [results, Try.results9, go_sem, *]) rfl ⟨by rw [HF.out, HE.out], HEX⟩
    · have HE : Hid (putE x y v = 11) := by show _ = _; unfold putE; rw [if_pos hh, if_neg hv2]
      have HF : Hid (putF p x y v = fun _ => false) := by show _ = _; unfold putF; rw [HE.out]; rfl
      have hn : (v : Int) / 2 ^ y.toNat = ((v / 2 ^ y.toNat : Nat) : Int) := cast_shr _ _
      have hnz : v / 2 ^ y.toNat ≠ 0 := fun e => hv2 (by
        have := Nat.div_add_mod v (2 ^ y.toNat)
        have h' := Nat.mod_lt v (Nat.two_pow_pos y.toNat)
        rw [e, Nat.mul_zero, Nat.zero_add] at this
        omega)
      have hy64 : y < 64 := by
        rcases Int.lt_or_le y 64 with h | h
        · exact h
        · have : y.toNat = 64 := by omega
          rw [this] at hv2
          exact absurd hv hv2
      generalize v / 2 ^ y.toNat = q at hn hnz
      have hnz' : ((q : Int) != 0) = true := bne_iff_ne.2 (by omega)
      clear hv2 hh
      go_enter Try.func9, Try.ntmps9
      go_wp2_with ((go_at_call 7; (with_reducible refine (rField_calls _ _ _ _).mono ?_); rintro e w1 ⟨rfl, h1⟩); rw [HK.out]; (replace HZ := Lib.hid (HZ.out.ext h1 HS.out)); (replace HX := Lib.hid (HX.out.trans h1)); (replace HS := Lib.hid (Nat.lt_of_lt_of_le HS.out h1.le)); clear h1; have H__ := (HZ).out; obtain ⟨ce0, fe0⟩ := H__ 0 (by omega); obtain ⟨ce1, fe1⟩ := H__ 1 (by omega); obtain ⟨ce2, fe2⟩ := H__ 2 (by omega); obtain ⟨ce3, fe3⟩ := H__ 3 (by omega); obtain ⟨ce4, fe4⟩ := H__ 4 (by omega); obtain ⟨ce5, fe5⟩ := H__ 5 (by omega); obtain ⟨ce6, fe6⟩ := H__ 6 (by omega); obtain ⟨ce7, fe7⟩ := H__ 7 (by omega); clear H__)
      have HEX : Hid (Ext w ((((((((w1.setCell ⟨w.heap.size + 1, 0, none⟩ (.int .u64 0)).setCell ⟨w.heap.size + 1, 1, none⟩ (.int .u64 0)).setCell ⟨w.heap.size + 1, 2, none⟩ (.int .u64 0)).setCell ⟨w.heap.size + 1, 3, none⟩ (.int .u64 0)).setCell ⟨w.heap.size + 1, 4, none⟩ (.int .u64 0)).setCell ⟨w.heap.size + 1, 5, none⟩ (.int .u64 0)).setCell ⟨w.heap.size + 1, 6, none⟩ (.int .u64 0)).setCell ⟨w.heap.size + 1, 7, none⟩ (.int .u64 0))) := ((((((((HX.out.set (by first | exact Nat.le_refl _ | exact Nat.le_succ _ | omega) _).set (by first | exact Nat.le_refl _ | exact Nat.le_succ _ | omega) _).set (by first | exact Nat.le_refl _ | exact Nat.le_succ _ | omega) _).set (by first | exact Nat.le_refl _ | exact Nat.le_succ _ | omega) _).set (by first | exact Nat.le_refl _ | exact Nat.le_succ _ | omega) _).set (by first | exact Nat.le_refl _ | exact Nat.le_succ _ | omega) _).set (by first | exact Nat.le_refl _ | exact Nat.le_succ _ | omega) _).set (by first | exact Nat.le_refl _ | exact Nat.le_succ _ | omega) _)
      exact bodyPost_ret (v := .tuple #[Value.agg #[.int .u64 0, .int .u64 0, .int .u64 0, .int .u64 0, .int .u64 0, .int .u64 0, .int .u64 0, .int .u64 0], .int .i64 11]) (by simp [results, Try.results9, go_sem, *]) rfl ⟨by rw [HF.out, HE.out]; simp [wd_none], HEX⟩
  · have HK : Hid (fieldE x y = 1) := by show _ = _; unfold fieldE; rw [if_neg h]
    have HE : Hid (putE x y v = 1) := by show _ = _; unfold putE; rw [if_neg h]
    have HF : Hid (putF p x y v = fun _ => false) := by show _ = _; unfold putF; rw [HE.out]; rfl
    clear h
    go_enter Try.func9, Try.ntmps9
    go_wp2_with ((go_at_call 7; (with_reducible refine (rField_calls _ _ _ _).mono ?_); rintro e w1 ⟨rfl, h1⟩); rw [HK.out]; (replace HZ := Lib.hid (HZ.out.ext h1 HS.out)); (replace HX := Lib.hid (HX.out.trans h1)); (replace HS := Lib.hid (Nat.lt_of_lt_of_le HS.out h1.le)); clear h1; have H__ := (HZ).out; obtain ⟨ce0, fe0⟩ := H__ 0 (by omega); obtain ⟨ce1, fe1⟩ := H__ 1 (by omega); obtain ⟨ce2, fe2⟩ := H__ 2 (by omega); obtain ⟨ce3, fe3⟩ := H__ 3 (by omega); obtain ⟨ce4, fe4⟩ := H__ 4 (by omega); obtain ⟨ce5, fe5⟩ := H__ 5 (by omega); obtain ⟨ce6, fe6⟩ := H__ 6 (by omega); obtain ⟨ce7, fe7⟩ := H__ 7 (by omega); clear H__)
    have HEX : Hid (Ext w ((((((((w1.setCell ⟨w.heap.size + 1, 0, none⟩ (.int .u64 0)).setCell ⟨w.heap.size + 1, 1, none⟩ (.int .u64 0)).setCell ⟨w.heap.size + 1, 2, none⟩ (.int .u64 0)).setCell ⟨w.heap.size + 1, 3, none⟩ (.int .u64 0)).setCell ⟨w.heap.size + 1, 4, none⟩ (.int .u64 0)).setCell ⟨w.heap.size + 1, 5, none⟩ (.int .u64 0)).setCell ⟨w.heap.size + 1, 6, none⟩ (.int .u64 0)).setCell ⟨w.heap.size + 1, 7, none⟩ (.int .u64 0))) := ((((((((HX.out.set (by first | exact Nat.le_refl _ | exact Nat.le_succ _ | omega) _).set (by first | exact Nat.le_refl _ | exact Nat.le_succ _ | omega) _).set (by first | exact Nat.le_refl _ | exact Nat.le_succ _ | omega) _).set (by first | exact Nat.le_refl _ | exact Nat.le_succ _ | omega) _).set (by first | exact Nat.le_refl _ | exact Nat.le_succ _ | omega) _).set (by first | exact Nat.le_refl _ | exact Nat.le_succ _ | omega) _).set (by first | exact Nat.le_refl _ | exact Nat.le_succ _ | omega) _).set (by first | exact Nat.le_refl _ | exact Nat.le_succ _ | omega) _)
    exact bodyPost_ret (v := .tuple #[Value.agg #[.int .u64 0, .int .u64 0, .int .u64 0, .int .u64 0, .int .u64 0, .int .u64 0, .int .u64 0, .int .u64 0], .int .i64 1]) (by simp [results, Try.results9, go_sem, *]) rfl ⟨by rw [HF.out, HE.out]; simp [wd_none], HEX⟩
end Go.Proofs.Ytbmnjnmpjpdcmaa
