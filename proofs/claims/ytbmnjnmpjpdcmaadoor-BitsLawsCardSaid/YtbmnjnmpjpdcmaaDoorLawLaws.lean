/- The walk of the law BitsLaws. Conditions: the library's table as its initialiser lays it. -/
import Derived.Test.YtbmnjnmpjpdcmaaDoorEachB
import Derived.Test.YtbmnjnmpjpdcmaaDoorEachE
import Derived.Test.YtbmnjnmpjpdcmaaDoorLawsM
import Derived.Test.YtbmnjnmpjpdcmaaDoorBitsJ
import Derived.Test.YtbmnjnmpjpdcmaaDoorRowSet
namespace Go.Proofs.YtbmnjnmpjpdcmaaDoor
open Go.RowKit Go.Eg

set_option maxHeartbeats 8000000 in
set_option maxRecDepth 100000 in
theorem lawLaws_calls (p q : Nat → Bool) (w : World) (hT : Tab w) :
    Calls Tryd.prog 8 #[Value.agg #[.int .u64 (wd (p) 0 : Nat), .int .u64 (wd (p) 1 : Nat), .int .u64 (wd (p) 2 : Nat), .int .u64 (wd (p) 3 : Nat), .int .u64 (wd (p) 4 : Nat), .int .u64 (wd (p) 5 : Nat), .int .u64 (wd (p) 6 : Nat), .int .u64 (wd (p) 7 : Nat)], Value.agg #[.int .u64 (wd (q) 0 : Nat), .int .u64 (wd (q) 1 : Nat), .int .u64 (wd (q) 2 : Nat), .int .u64 (wd (q) 3 : Nat), .int .u64 (wd (q) 4 : Nat), .int .u64 (wd (q) 5 : Nat), .int .u64 (wd (q) 6 : Nat), .int .u64 (wd (q) 7 : Nat)]] w fun e w' => e = .returned (.bool true) ∧ Ext w w' := by
  have HX0 : Hid (Ext w ((w.alloc (.cells #[Value.int .u64 (wd (p) 0 : Nat), .int .u64 (wd (p) 1 : Nat), .int .u64 (wd (p) 2 : Nat), .int .u64 (wd (p) 3 : Nat), .int .u64 (wd (p) 4 : Nat), .int .u64 (wd (p) 5 : Nat), .int .u64 (wd (p) 6 : Nat), .int .u64 (wd (p) 7 : Nat)] 24)).alloc (.cells #[Value.int .u64 (wd (q) 0 : Nat), .int .u64 (wd (q) 1 : Nat), .int .u64 (wd (q) 2 : Nat), .int .u64 (wd (q) 3 : Nat), .int .u64 (wd (q) 4 : Nat), .int .u64 (wd (q) 5 : Nat), .int .u64 (wd (q) 6 : Nat), .int .u64 (wd (q) 7 : Nat)] 24))) := by show Ext _ _; (repeat (first | assumption | exact Ext.refl _ | apply Ext.alloc | apply Ext.drew | apply Ext.drewN | refine Ext.set ?_ (by first | exact Nat.le_refl _ | assumption | exact Nat.le_succ _ | exact Nat.le_add_right _ _ | exact Nat.le_trans (Nat.le_succ _) (Nat.le_succ _) | omega) _ | refine Ext.trans ?_ (by assumption)))
  have HB0 : Hid (Arr ((w.alloc (.cells #[Value.int .u64 (wd (p) 0 : Nat), .int .u64 (wd (p) 1 : Nat), .int .u64 (wd (p) 2 : Nat), .int .u64 (wd (p) 3 : Nat), .int .u64 (wd (p) 4 : Nat), .int .u64 (wd (p) 5 : Nat), .int .u64 (wd (p) 6 : Nat), .int .u64 (wd (p) 7 : Nat)] 24)).alloc (.cells #[Value.int .u64 (wd (q) 0 : Nat), .int .u64 (wd (q) 1 : Nat), .int .u64 (wd (q) 2 : Nat), .int .u64 (wd (q) 3 : Nat), .int .u64 (wd (q) 4 : Nat), .int .u64 (wd (q) 5 : Nat), .int .u64 (wd (q) 6 : Nat), .int .u64 (wd (q) 7 : Nat)] 24)) w.heap.size p) := Lib.hid ((Arr.made p rfl).old (by simp))
  have HC0 : Hid (Arr ((w.alloc (.cells #[Value.int .u64 (wd (p) 0 : Nat), .int .u64 (wd (p) 1 : Nat), .int .u64 (wd (p) 2 : Nat), .int .u64 (wd (p) 3 : Nat), .int .u64 (wd (p) 4 : Nat), .int .u64 (wd (p) 5 : Nat), .int .u64 (wd (p) 6 : Nat), .int .u64 (wd (p) 7 : Nat)] 24)).alloc (.cells #[Value.int .u64 (wd (q) 0 : Nat), .int .u64 (wd (q) 1 : Nat), .int .u64 (wd (q) 2 : Nat), .int .u64 (wd (q) 3 : Nat), .int .u64 (wd (q) 4 : Nat), .int .u64 (wd (q) 5 : Nat), .int .u64 (wd (q) 6 : Nat), .int .u64 (wd (q) 7 : Nat)] 24)) (w.heap.size + 1) q) := Lib.hid (Arr.made q (by simp))
  have HS0 : Hid (w.heap.size + 1 < ((w.alloc (.cells #[Value.int .u64 (wd (p) 0 : Nat), .int .u64 (wd (p) 1 : Nat), .int .u64 (wd (p) 2 : Nat), .int .u64 (wd (p) 3 : Nat), .int .u64 (wd (p) 4 : Nat), .int .u64 (wd (p) 5 : Nat), .int .u64 (wd (p) 6 : Nat), .int .u64 (wd (p) 7 : Nat)] 24)).alloc (.cells #[Value.int .u64 (wd (q) 0 : Nat), .int .u64 (wd (q) 1 : Nat), .int .u64 (wd (q) 2 : Nat), .int .u64 (wd (q) 3 : Nat), .int .u64 (wd (q) 4 : Nat), .int .u64 (wd (q) 5 : Nat), .int .u64 (wd (q) 6 : Nat), .int .u64 (wd (q) 7 : Nat)] 24)).heap.size) := by show _ < _; simp
  have HT0 := Lib.hid (hT.ext HX0.out)
  clear hT
  have HOF := Lib.hid (ofE_nums (p := p) (Nat.le_refl 512))
  have HWD := Lib.hid (fun j hj => wd_nums (p := p) j hj)
  have HLN := Lib.hid (nums_len p 512)
  have HNX := Lib.hid (fun N => next_list p N)
  have HRK := Lib.hid (fun r y h => rank_at p 512 r y h)
  have HLC := Lib.hid (List_calls p)
  have hll := numsB_len p 512
  have heq0 := equal_sv p p true (by simp)
  obtain ⟨L, hL⟩ : ∃ L, L = numsB p 512 := ⟨_, rfl⟩
  rw [← hL] at HOF HWD HLN HNX HRK HLC hll
  clear hL
  go_enter Tryd.func8, Tryd.ntmps8
  go_wp2_with (first
    | ((go_at_call 24; (with_reducible refine (HLC.out _ HT0.out).mono ?_); rintro e w1 ⟨v1, rfl, ho1, h1⟩); (obtain ⟨A1, c1, rfl, h11, h12⟩ := ho1.shape); (replace HB0 := Lib.hid (HB0.out.ext h1 (by have := HS0.out; omega))); (replace HC0 := Lib.hid (HC0.out.ext h1 HS0.out)); (replace HX0 := Lib.hid (HX0.out.trans h1)); (replace HT0 := Lib.hid (HT0.out.ext h1)); (replace HS0 := Lib.hid (Nat.lt_of_lt_of_le HS0.out h1.le)); clear h1)
    | ((go_at_call 15; (with_reducible refine (Of_calls L _ _ ho1.rd).mono ?_); rintro e w2 ⟨rfl, h2⟩); rw [HOF.out, HWD.out 0 (by omega), HWD.out 1 (by omega), HWD.out 2 (by omega), HWD.out 3 (by omega), HWD.out 4 (by omega), HWD.out 5 (by omega), HWD.out 6 (by omega), HWD.out 7 (by omega)]; (replace HB0 := Lib.hid (HB0.out.ext h2 (by have := HS0.out; omega))); (replace HC0 := Lib.hid (HC0.out.ext h2 HS0.out)); (replace HX0 := Lib.hid (HX0.out.trans h2)); (replace HT0 := Lib.hid (HT0.out.ext h2)); (replace HS0 := Lib.hid (Nat.lt_of_lt_of_le HS0.out h2.le)); have hq2 := ho1.ext h2; clear h2; have H__ := (HB0).out; obtain ⟨ce0, fe0⟩ := H__ 0 (by omega); obtain ⟨ce1, fe1⟩ := H__ 1 (by omega); obtain ⟨ce2, fe2⟩ := H__ 2 (by omega); obtain ⟨ce3, fe3⟩ := H__ 3 (by omega); obtain ⟨ce4, fe4⟩ := H__ 4 (by omega); obtain ⟨ce5, fe5⟩ := H__ 5 (by omega); obtain ⟨ce6, fe6⟩ := H__ 6 (by omega); obtain ⟨ce7, fe7⟩ := H__ 7 (by omega); clear H__; have hbs0 := HS0.out; have hbs1 : w.heap.size < w2.heap.size := (by omega))
    | (go_at_call 21; (with_reducible refine (num_calls _ _).mono ?_); rintro e w' ⟨rfl, hw⟩; obtain rfl := hw.symm)
    | ((go_at_call 12; (with_reducible refine (Size_calls p _).mono ?_); rintro e w3 ⟨rfl, h3⟩); rw [← HLN.out]))
  have hx3 : Ext w2 w3 := by (repeat (first | assumption | exact Ext.refl _ | apply Ext.alloc | apply Ext.drew | apply Ext.drewN | refine Ext.trans ?_ (by assumption)))
  have HB3 := Lib.hid (HB0.out.ext hx3 (by omega))
  have HC3 := Lib.hid (HC0.out.ext hx3 hbs0)
  have HX3 := Lib.hid (HX0.out.trans hx3)
  have HT3 := Lib.hid (HT0.out.ext hx3)
  have hbs3 : w.heap.size + 1 < w3.heap.size := Nat.lt_of_lt_of_le hbs0 hx3.le
  have hr3 := Lib.hid (hq2.ext hx3).rd
  clear hq2 ho1 hx3 h3 HX0 HT0 HB0 HC0 HS0 hbs0 ce0 ce1 ce2 ce3 ce4 ce5 ce6 ce7 fe0 fe1 fe2 fe3 fe4 fe5 fe6 fe7
  go_loopw [8, 9] (fun v8 v9 wr => ∃ (k M : Nat), v9 = .int .i64 k ∧ v8 = .int .i64 ((M : Int) - 1) ∧ M ≤ 512 ∧ k ≤ L.length ∧ Hid (cnt p M = k) ∧ Ext w3 wr) (fun _ v9 _ => L.length - (intOf v9).toNat)
  case atStart => exact ⟨0, 0, rfl, rfl, by omega, by omega, rfl, Ext.refl _⟩
  case round =>
    obtain ⟨k, M, rfl, rfl, hM, hk, HCM, he⟩ := hrel
    have HB4 := Lib.hid (HB3.out.ext he (by omega))
    have HNM := Lib.hid (HNX.out M)
    rw [HCM.out] at HNM
    have HTr := Lib.hid (HT3.out.ext he)
    have hle := he.le
    have hbr0 : w.heap.size < wr.heap.size := by omega
    have H__ := (HB4).out; obtain ⟨ce0, fe0⟩ := H__ 0 (by omega); obtain ⟨ce1, fe1⟩ := H__ 1 (by omega); obtain ⟨ce2, fe2⟩ := H__ 2 (by omega); obtain ⟨ce3, fe3⟩ := H__ 3 (by omega); obtain ⟨ce4, fe4⟩ := H__ 4 (by omega); obtain ⟨ce5, fe5⟩ := H__ 5 (by omega); obtain ⟨ce6, fe6⟩ := H__ 6 (by omega); obtain ⟨ce7, fe7⟩ := H__ 7 (by omega); clear H__
    by_cases hlt : k < L.length
    · obtain ⟨y, hy⟩ : ∃ y, L[k]? = some y := ⟨_, List.getElem?_eq_getElem hlt⟩
      obtain ⟨m, rfl, hm1, hm2, hm3⟩ := HRK.out k y hy
      obtain ⟨b, off, rfl, hb, hc⟩ := (hr3.out.ext he).int hy
      rw [hy] at HNM
      have HN1 : Hid (nextN p M = m) := by show _ = _; unfold nextN; rw [HNM.out]; rfl
      have HN2 : Hid (nextB p M = true) := by show _ = _; unfold nextB; rw [HNM.out]; rfl
      have HIN : Hid (inSet p m = true) := by show _ = _; simp [inSet, hm2]; omega
      have HCM' : Hid (cnt p (m + 1) = k + 1) := by show _ = _; rw [cnt_succ hm2, hm3]
      have hMm : M ≤ m := by
        rcases Nat.lt_or_ge m M with hl | hl
        · have h1 := cnt_mono p (show m + 1 ≤ M by omega)
          rw [cnt_succ hm2, hm3, HCM.out] at h1; omega
        · exact hl
      have hle2 : decide ((m : Int) ≤ (M : Int) - 1) = false := by simp; omega
      have hk0 : (0 : Int) ≤ (k : Int) := by omega
      have hk1 : (k : Int) < L.length := by omega
      clear hy hm2 hm3
      go_wp2_with (first
        | ((go_at_call 29; (with_reducible refine (Next_calls p (M : Int) _ HTr.out).mono ?_); rintro e w4 ⟨rfl, h4⟩); rw [HN1.out, HN2.out]; have := (h4).cells; have := (h4).frozens; have : w.heap.size < w4.heap.size := Nat.lt_of_lt_of_le (by first | assumption | (simp; done) | (simp; omega)) (h4).le; have : b < w4.heap.size := Nat.lt_of_lt_of_le (by first | assumption | (simp; done) | (simp; omega)) (h4).le)
        | ((go_at_call 22; (with_reducible refine (Has_calls p (m : Int) _).mono ?_); rintro e w5 ⟨rfl, h5⟩); rw [HIN.out]))
      go_roundw
      case rel => exact ⟨k + 1, m + 1, by go_num, val_int (by omega), by omega, by omega, HCM', by (repeat (first | assumption | exact Ext.refl _ | apply Ext.alloc | apply Ext.drew | apply Ext.drewN | refine Ext.trans ?_ (by assumption)))⟩
      case measure => simp [intOf]; omega
    · have hk' : k = L.length := by omega
      subst hk'
      have HN0 : Hid (nextO p M = none) := by show _ = _; rw [HNM.out]; exact List.getElem?_eq_none (Nat.le_refl _)
      have HN1 : Hid (nextN p M = 0) := by show _ = _; unfold nextN; rw [HN0.out]; rfl
      have HN2 : Hid (nextB p M = false) := by show _ = _; unfold nextB; rw [HN0.out]; rfl
      have HC4 := Lib.hid (HC3.out.ext he hbs3)
      have hbr : w.heap.size + 1 < wr.heap.size := Nat.lt_of_lt_of_le hbs3 hle
      have H__ := (HC4).out; obtain ⟨de0, ge0⟩ := H__ 0 (by omega); obtain ⟨de1, ge1⟩ := H__ 1 (by omega); obtain ⟨de2, ge2⟩ := H__ 2 (by omega); obtain ⟨de3, ge3⟩ := H__ 3 (by omega); obtain ⟨de4, ge4⟩ := H__ 4 (by omega); obtain ⟨de5, ge5⟩ := H__ 5 (by omega); obtain ⟨de6, ge6⟩ := H__ 6 (by omega); obtain ⟨de7, ge7⟩ := H__ 7 (by omega); clear H__
      obtain ⟨u, hu⟩ : ∃ u, u = orS p q := ⟨_, rfl⟩
      obtain ⟨ii, hii⟩ : ∃ ii, ii = andS p q := ⟨_, rfl⟩
      obtain ⟨mm, hmm⟩ : ∃ mm, mm = subS p q := ⟨_, rfl⟩
      have HU := Lib.hid hu
      have HI := Lib.hid hii
      have HM := Lib.hid hmm
      have HUM : Hid (orS mm ii = p) := by show _ = _; rw [hmm, hii]; exact or_sub_and p q
      have hs1 : cnt u 512 + cnt ii 512 = L.length + cnt q 512 := by rw [hu, hii, HLN.out]; exact cnt_or_and p q 512
      have hs2 : cnt mm 512 + cnt ii 512 = L.length := by rw [hmm, hii, HLN.out]; exact cnt_sub_and p q 512
      have hsu := cnt_le u 512
      have hsi := cnt_le ii 512
      have hsm := cnt_le mm 512
      have hsq := cnt_le q 512
      have HSI := Lib.hid (sub_or p q)
      rw [← hu] at HSI
      clear hu hii hmm HNM HCM HLN HNX HRK HOF HWD HLC hr3 hlt
      go_wp2_with (first
        | ((go_at_call 29; (with_reducible refine (Next_calls p (M : Int) _ HTr.out).mono ?_); rintro e w4 ⟨rfl, h4⟩); rw [HN1.out, HN2.out]; have := (h4).cells; have := (h4).frozens; have : w.heap.size < w4.heap.size := Nat.lt_of_lt_of_le (by first | assumption | (simp; done) | (simp; omega)) (h4).le; have : w.heap.size + 1 < w4.heap.size := Nat.lt_of_lt_of_le (by first | assumption | (simp; done) | (simp; omega)) (h4).le)
        | ((go_at_call 35; (with_reducible refine (union_calls p q _).mono ?_); rintro e w5 ⟨rfl, h5⟩); rw [← HU.out]; have := (h5).cells; have := (h5).frozens; have : w.heap.size < w5.heap.size := Nat.lt_of_lt_of_le (by first | assumption | (simp; done) | (simp; omega)) (h5).le; have : w.heap.size + 1 < w5.heap.size := Nat.lt_of_lt_of_le (by first | assumption | (simp; done) | (simp; omega)) (h5).le)
        | ((go_at_call 34; (with_reducible refine (inter_calls p q _).mono ?_); rintro e w6 ⟨rfl, h6⟩); rw [← HI.out]; have := (h6).cells; have := (h6).frozens; have : w.heap.size < w6.heap.size := Nat.lt_of_lt_of_le (by first | assumption | (simp; done) | (simp; omega)) (h6).le; have : w.heap.size + 1 < w6.heap.size := Nat.lt_of_lt_of_le (by first | assumption | (simp; done) | (simp; omega)) (h6).le)
        | ((go_at_call 36; (with_reducible refine (minus_calls p q _).mono ?_); rintro e w7 ⟨rfl, h7⟩); rw [← HM.out]; have := (h7).cells; have := (h7).frozens; have : w.heap.size < w7.heap.size := Nat.lt_of_lt_of_le (by first | assumption | (simp; done) | (simp; omega)) (h7).le; have : w.heap.size + 1 < w7.heap.size := Nat.lt_of_lt_of_le (by first | assumption | (simp; done) | (simp; omega)) (h7).le))
      have x5 : Ext wr w5 := by (repeat (first | assumption | exact Ext.refl _ | apply Ext.alloc | apply Ext.drew | apply Ext.drewN | refine Ext.trans ?_ (by assumption)))
      have x6 : Ext wr w6 := by (repeat (first | assumption | exact Ext.refl _ | apply Ext.alloc | apply Ext.drew | apply Ext.drewN | refine Ext.trans ?_ (by assumption)))
      have x7 : Ext wr w7 := by (repeat (first | assumption | exact Ext.refl _ | apply Ext.alloc | apply Ext.drew | apply Ext.drewN | refine Ext.trans ?_ (by assumption)))
      have g5 := x5.le
      have g6 := h6.le
      have g7 := h7.le
      simp only [World.size_alloc] at g6 g7
      have HB5 : Hid (Arr (w7.alloc (.cells #[Value.int .u64 (wd (mm) 0 : Nat), .int .u64 (wd (mm) 1 : Nat), .int .u64 (wd (mm) 2 : Nat), .int .u64 (wd (mm) 3 : Nat), .int .u64 (wd (mm) 4 : Nat), .int .u64 (wd (mm) 5 : Nat), .int .u64 (wd (mm) 6 : Nat), .int .u64 (wd (mm) 7 : Nat)] 24)) w.heap.size p) := Lib.hid ((HB4.out.ext x7 (by omega)).old (by omega))
      have HC5 : Hid (Arr (w7.alloc (.cells #[Value.int .u64 (wd (mm) 0 : Nat), .int .u64 (wd (mm) 1 : Nat), .int .u64 (wd (mm) 2 : Nat), .int .u64 (wd (mm) 3 : Nat), .int .u64 (wd (mm) 4 : Nat), .int .u64 (wd (mm) 5 : Nat), .int .u64 (wd (mm) 6 : Nat), .int .u64 (wd (mm) 7 : Nat)] 24)) (w.heap.size + 1) q) := Lib.hid ((HC4.out.ext x7 (by omega)).old (by omega))
      have HU5 : Hid (Arr (w7.alloc (.cells #[Value.int .u64 (wd (mm) 0 : Nat), .int .u64 (wd (mm) 1 : Nat), .int .u64 (wd (mm) 2 : Nat), .int .u64 (wd (mm) 3 : Nat), .int .u64 (wd (mm) 4 : Nat), .int .u64 (wd (mm) 5 : Nat), .int .u64 (wd (mm) 6 : Nat), .int .u64 (wd (mm) 7 : Nat)] 24)) w5.heap.size u) := Lib.hid (((((Arr.made u rfl).ext h6 (by simp)).old (by omega)).ext h7 (by simp; omega)).old (by omega))
      have HI5 : Hid (Arr (w7.alloc (.cells #[Value.int .u64 (wd (mm) 0 : Nat), .int .u64 (wd (mm) 1 : Nat), .int .u64 (wd (mm) 2 : Nat), .int .u64 (wd (mm) 3 : Nat), .int .u64 (wd (mm) 4 : Nat), .int .u64 (wd (mm) 5 : Nat), .int .u64 (wd (mm) 6 : Nat), .int .u64 (wd (mm) 7 : Nat)] 24)) w6.heap.size ii) := Lib.hid (((Arr.made ii rfl).ext h7 (by simp)).old (by omega))
      have HM5 : Hid (Arr (w7.alloc (.cells #[Value.int .u64 (wd (mm) 0 : Nat), .int .u64 (wd (mm) 1 : Nat), .int .u64 (wd (mm) 2 : Nat), .int .u64 (wd (mm) 3 : Nat), .int .u64 (wd (mm) 4 : Nat), .int .u64 (wd (mm) 5 : Nat), .int .u64 (wd (mm) 6 : Nat), .int .u64 (wd (mm) 7 : Nat)] 24)) w7.heap.size mm) := Lib.hid (Arr.made mm rfl)
      have HX5 : Hid (Ext w (w7.alloc (.cells #[Value.int .u64 (wd (mm) 0 : Nat), .int .u64 (wd (mm) 1 : Nat), .int .u64 (wd (mm) 2 : Nat), .int .u64 (wd (mm) 3 : Nat), .int .u64 (wd (mm) 4 : Nat), .int .u64 (wd (mm) 5 : Nat), .int .u64 (wd (mm) 6 : Nat), .int .u64 (wd (mm) 7 : Nat)] 24))) := Lib.hid ((HX3.out.trans (he.trans x7)).alloc _)
      have HS5 : Hid (w7.heap.size < (w7.alloc (.cells #[Value.int .u64 (wd (mm) 0 : Nat), .int .u64 (wd (mm) 1 : Nat), .int .u64 (wd (mm) 2 : Nat), .int .u64 (wd (mm) 3 : Nat), .int .u64 (wd (mm) 4 : Nat), .int .u64 (wd (mm) 5 : Nat), .int .u64 (wd (mm) 6 : Nat), .int .u64 (wd (mm) 7 : Nat)] 24)).heap.size) := by show _ < _; simp
      generalize w7.alloc (.cells #[Value.int .u64 (wd (mm) 0 : Nat), .int .u64 (wd (mm) 1 : Nat), .int .u64 (wd (mm) 2 : Nat), .int .u64 (wd (mm) 3 : Nat), .int .u64 (wd (mm) 4 : Nat), .int .u64 (wd (mm) 5 : Nat), .int .u64 (wd (mm) 6 : Nat), .int .u64 (wd (mm) 7 : Nat)] 24) = W at *
      have hb7 := HS5.out
      have hb1 : w.heap.size < W.heap.size := by omega
      have hb2 : w.heap.size + 1 < W.heap.size := by omega
      have hb5 : w5.heap.size < W.heap.size := by omega
      have hb6 : w6.heap.size < W.heap.size := by omega
      have hX5 := HX5.out
      clear ce0 ce1 ce2 ce3 ce4 ce5 ce6 ce7 fe0 fe1 fe2 fe3 fe4 fe5 fe6 fe7 de0 de1 de2 de3 de4 de5 de6 de7 ge0 ge1 ge2 ge3 ge4 ge5 ge6 ge7 h4 h5 h6 h7 x5 x6 x7 g5 g6 g7
      have H__ := HB5.out
      have ya0 := (H__ 0 (by omega)).1
      have ya1 := (H__ 1 (by omega)).1
      have ya2 := (H__ 2 (by omega)).1
      have ya3 := (H__ 3 (by omega)).1
      have ya4 := (H__ 4 (by omega)).1
      have ya5 := (H__ 5 (by omega)).1
      have ya6 := (H__ 6 (by omega)).1
      have ya7 := (H__ 7 (by omega)).1
      clear H__
      have H__ := HC5.out
      have yb0 := (H__ 0 (by omega)).1
      have yb1 := (H__ 1 (by omega)).1
      have yb2 := (H__ 2 (by omega)).1
      have yb3 := (H__ 3 (by omega)).1
      have yb4 := (H__ 4 (by omega)).1
      have yb5 := (H__ 5 (by omega)).1
      have yb6 := (H__ 6 (by omega)).1
      have yb7 := (H__ 7 (by omega)).1
      clear H__
      have H__ := HU5.out
      have yc0 := (H__ 0 (by omega)).1
      have yc1 := (H__ 1 (by omega)).1
      have yc2 := (H__ 2 (by omega)).1
      have yc3 := (H__ 3 (by omega)).1
      have yc4 := (H__ 4 (by omega)).1
      have yc5 := (H__ 5 (by omega)).1
      have yc6 := (H__ 6 (by omega)).1
      have yc7 := (H__ 7 (by omega)).1
      clear H__
      have H__ := HI5.out
      have yd0 := (H__ 0 (by omega)).1
      have yd1 := (H__ 1 (by omega)).1
      have yd2 := (H__ 2 (by omega)).1
      have yd3 := (H__ 3 (by omega)).1
      have yd4 := (H__ 4 (by omega)).1
      have yd5 := (H__ 5 (by omega)).1
      have yd6 := (H__ 6 (by omega)).1
      have yd7 := (H__ 7 (by omega)).1
      clear H__
      have H__ := HM5.out
      have yf0 := (H__ 0 (by omega)).1
      have yf1 := (H__ 1 (by omega)).1
      have yf2 := (H__ 2 (by omega)).1
      have yf3 := (H__ 3 (by omega)).1
      have yf4 := (H__ 4 (by omega)).1
      have yf5 := (H__ 5 (by omega)).1
      have yf6 := (H__ 6 (by omega)).1
      have yf7 := (H__ 7 (by omega)).1
      clear H__
      have t1 : ((((cnt u 512 : Nat) : Int) + ((cnt ii 512 : Nat) : Int)) != ((L.length : Int) + ((cnt q 512 : Nat) : Int))) = false := by rw [bne_eq_false_iff_eq]; omega
      have hw1 : IntKind.i64.wrap (((cnt u 512 : Nat) : Int) + ((cnt ii 512 : Nat) : Int)) = ((cnt u 512 : Nat) : Int) + ((cnt ii 512 : Nat) : Int) := IntWalk.i64_in _ (by omega)
      have hw2 : IntKind.i64.wrap ((L.length : Int) + ((cnt q 512 : Nat) : Int)) = (L.length : Int) + ((cnt q 512 : Nat) : Int) := IntWalk.i64_in _ (by omega)
      have hw3 : IntKind.i64.wrap (((cnt mm 512 : Nat) : Int) + ((cnt ii 512 : Nat) : Int)) = ((cnt mm 512 : Nat) : Int) + ((cnt ii 512 : Nat) : Int) := IntWalk.i64_in _ (by omega)
      have t2 : ((((cnt mm 512 : Nat) : Int) + ((cnt ii 512 : Nat) : Int)) != (L.length : Int)) = false := by rw [bne_eq_false_iff_eq]; omega
      go_region_held3 (fun w' => (∀ b o, b < W.heap.size → w'.cell? ⟨b, o, none⟩ = W.cell? ⟨b, o, none⟩) ∧ Ext W w') (refine ⟨Ext.cells ?_, ?_⟩ <;> ((repeat (first | assumption | exact Ext.refl _ | apply Ext.alloc | apply Ext.drew | apply Ext.drewN | refine Ext.trans ?_ (by assumption))))) (first
        | ((go_at_call 12; (with_reducible refine (Size_calls u _).mono ?_); rintro e w8 ⟨rfl, h8⟩); (try replace h8 := Ext.undrew h8))
        | ((go_at_call 12; (with_reducible refine (Size_calls ii _).mono ?_); rintro e w8 ⟨rfl, h8⟩); (try replace h8 := Ext.undrew h8))
        | ((go_at_call 12; (with_reducible refine (Size_calls q _).mono ?_); rintro e w8 ⟨rfl, h8⟩); (try replace h8 := Ext.undrew h8))
        | ((go_at_call 12; (with_reducible refine (Size_calls mm _).mono ?_); rintro e w8 ⟨rfl, h8⟩); (try replace h8 := Ext.undrew h8))
        | ((go_at_call 35; (with_reducible refine (union_calls mm ii _).mono ?_); rintro e w8 ⟨rfl, h8⟩); rw [HUM.out]; (try replace h8 := Ext.undrew h8)))
      obtain ⟨C, hC⟩ : ∃ C, C = cmpN p q 512 := ⟨_, rfl⟩
      have HC1 := Lib.hid hC
      obtain ⟨hc1, hc2⟩ := cmp_bd p q 512
      rw [← hC] at hc1 hc2
      obtain ⟨C2, hC2⟩ : ∃ C2, C2 = cmpN q p 512 := ⟨_, rfl⟩
      have HC2 : Hid (cmpN q p 512 = C2) := Lib.hid hC2.symm
      have hw4 : IntKind.i64.wrap (-C2) = C := by rw [hC2, cmp_neg p q 512, ← hC, Int.neg_neg]; exact IntWalk.i64_in _ (by omega)
      clear hC2
      obtain ⟨S, hS⟩ : ∃ S, S = subB p q 512 := ⟨_, rfl⟩
      rw [← hS] at HSI
      have heq1 := equal_sv u q S HSI.out
      have hcs : S = true → C ≤ 0 := fun h => by rw [hC]; exact cmp_sub p q 512 (by rw [← hS]; exact h)
      have HSS := Lib.hid hS
      have heq2 := equal_sv p q (C == 0) (by rw [beq_iff_eq, hC]; exact cmp_zero p q 512)
      clear hC hS t1 t2 hw1 hw2 hw3 hs1 hs2 hsu hsi hsm hsq
      go_wp2_with ((go_at_call 37; (with_reducible refine (Compare_calls p q _).mono ?_); rintro e w9 ⟨rfl, h9⟩); rw [← HC1.out])
      cases S
      · clear hcs
        refine wp_region_held_drew (S := (fun w' => (∀ b o, b < W.heap.size → w'.cell? ⟨b, o, none⟩ = W.cell? ⟨b, o, none⟩) ∧ Ext W w')) (by kernel_rfl) ?_ (fun hHeld => ?_)
        · (try dsimp only)
          (refine ⟨Ext.cells ?_, ?_⟩ <;> ((repeat (first | assumption | exact Ext.refl _ | apply Ext.alloc | apply Ext.drew | apply Ext.drewN | refine Ext.trans ?_ (by assumption)))))
        refine wpAnyH_take (i := 0) (oi := ({ dst := some 125, op := Go.Op.load 24 (Go.Operand.tmp 2), type := 24, pos := "law.go:96", after := #[], guard := none } : Go.Oper)) (v := ?_) rfl (by kernel_rfl) (by kernel_rfl) (by kernel_rfl) (fun _ _ _ h => h) (Or.inl ⟨by rfl, ?_⟩) (by assumption) ?_
        rotate_left
        · intro w' hSw
          (try dsimp only at hSw)
          go_simp
          all_goals (with_reducible rfl)
        (try simp only [Act.put, List.setIfInBounds_toArray, List.set_cons_zero, List.set_cons_succ])
        refine wpAnyH_take (i := 1) (oi := ({ dst := some 126, op := Go.Op.load 24 (Go.Operand.tmp 3), type := 24, pos := "law.go:96", after := #[], guard := none } : Go.Oper)) (v := ?_) rfl (by kernel_rfl) (by kernel_rfl) (by kernel_rfl) (fun _ _ _ h => h) (Or.inl ⟨by rfl, ?_⟩) (by assumption) ?_
        rotate_left
        · intro w' hSw
          (try dsimp only at hSw)
          go_simp
          all_goals (with_reducible rfl)
        (try simp only [Act.put, List.setIfInBounds_toArray, List.set_cons_zero, List.set_cons_succ])
        refine wpAnyH_take (i := 3) (oi := ({ dst := some 128, op := Go.Op.load 24 (Go.Operand.tmp 14), type := 24, pos := "law.go:96", after := #[], guard := none } : Go.Oper)) (v := ?_) rfl (by kernel_rfl) (by kernel_rfl) (by kernel_rfl) (fun _ _ _ h => h) (Or.inl ⟨by rfl, ?_⟩) (by assumption) ?_
        rotate_left
        · intro w' hSw
          (try dsimp only at hSw)
          go_simp
          all_goals (with_reducible rfl)
        (try simp only [Act.put, List.setIfInBounds_toArray, List.set_cons_zero, List.set_cons_succ])
        refine wpAnyH_take (i := 4) (oi := ({ dst := some 129, op := Go.Op.load 24 (Go.Operand.tmp 3), type := 24, pos := "law.go:96", after := #[], guard := none } : Go.Oper)) (v := ?_) rfl (by kernel_rfl) (by kernel_rfl) (by kernel_rfl) (fun _ _ _ h => h) (Or.inl ⟨by rfl, ?_⟩) (by assumption) ?_
        rotate_left
        · intro w' hSw
          (try dsimp only at hSw)
          go_simp
          all_goals (with_reducible rfl)
        (try simp only [Act.put, List.setIfInBounds_toArray, List.set_cons_zero, List.set_cons_succ])
        refine wpAnyH_take (i := 5) (oi := ({ dst := some 130, op := Go.Op.binOp Go.BinOp.eql 24 (Go.Operand.tmp 128) (Go.Operand.tmp 129) 24, type := 4, pos := "law.go:96", after := #[{ on := 3, ground := Go.Ground.data }, { on := 4, ground := Go.Ground.data }], guard := none } : Go.Oper)) (v := ?_) rfl (by kernel_rfl) (by kernel_rfl) (by kernel_rfl) (fun _ _ _ h => h) (Or.inl ⟨by rfl, ?_⟩) (by assumption) ?_
        rotate_left
        · intro w' hSw
          (try dsimp only at hSw)
          go_simp
          all_goals (with_reducible rfl)
        (try simp only [Act.put, List.setIfInBounds_toArray, List.set_cons_zero, List.set_cons_succ])
        refine wpAnyH_ready (rs := [2]) (by kernel_rfl) (by simp) ?_
        refine AllReadyH.cons (o := ({ dst := some 127, op := Go.Op.call { callee := Go.Callee.value (Go.Operand.func 13), args := #[Go.Operand.tmp 125, Go.Operand.tmp 126], argTypes := #[24, 24] }, type := 4, pos := "law.go:96", after := #[{ on := 0, ground := Go.Ground.data }, { on := 1, ground := Go.Ground.data }], guard := none } : Go.Oper)) rfl (fun K hK => ?_) AllReadyH.nil
        go_simp
        ((go_at_call 13; (with_reducible refine (Subset_calls p q _).mono ?_); rintro e w8 ⟨rfl, h8⟩); rw [← HSS.out]; (try replace h8 := Ext.undrew h8))
        refine hK.out _ _ ?_ (fun hHeld => ?_)
        · (try dsimp only)
          (refine ⟨Ext.cells ?_, ?_⟩ <;> ((repeat (first | assumption | exact Ext.refl _ | apply Ext.alloc | apply Ext.drew | apply Ext.drewN | refine Ext.trans ?_ (by assumption)))))
        clear hK K
        (try simp only [Act.put, List.setIfInBounds_toArray, List.set_cons_zero, List.set_cons_succ])
        refine wpAnyH_take (i := 6) (oi := ({ dst := some 131, op := Go.Op.binOp Go.BinOp.eql 4 (Go.Operand.tmp 127) (Go.Operand.tmp 130) 4, type := 4, pos := "law.go:96", after := #[{ on := 2, ground := Go.Ground.data }, { on := 5, ground := Go.Ground.data }], guard := none } : Go.Oper)) (v := ?_) rfl (by kernel_rfl) (by kernel_rfl) (by kernel_rfl) (fun _ _ _ h => h) (Or.inl ⟨by rfl, ?_⟩) (by assumption) ?_
        rotate_left
        · intro w' hSw
          (try dsimp only at hSw)
          go_simp
          all_goals (with_reducible rfl)
        (try simp only [Act.put, List.setIfInBounds_toArray, List.set_cons_zero, List.set_cons_succ])
        refine wpAnyH_take (i := 7) (oi := ({ dst := some 132, op := Go.Op.move (Go.Operand.tmp 131), type := 4, pos := "law.go:96", after := #[{ on := 6, ground := Go.Ground.data }, { on := 2, ground := Go.Ground.chain }], guard := none } : Go.Oper)) (v := ?_) rfl (by kernel_rfl) (by kernel_rfl) (by kernel_rfl) (fun _ _ _ h => h) (Or.inl ⟨by rfl, ?_⟩) (by assumption) ?_
        rotate_left
        · intro w' hSw
          (try dsimp only at hSw)
          go_simp
          all_goals (with_reducible rfl)
        (try simp only [Act.put, List.setIfInBounds_toArray, List.set_cons_zero, List.set_cons_succ])
        refine wpAnyH_take (i := 8) (oi := ({ dst := some 133, op := Go.Op.move (Go.Operand.tmp 17), type := 3, pos := "law.go:96", after := #[{ on := 7, ground := Go.Ground.guard }], guard := some (7, true) } : Go.Oper)) (v := ?_) rfl (by kernel_rfl) (by kernel_rfl) (by kernel_rfl) (fun _ _ _ h => h) (Or.inl ⟨by rfl, ?_⟩) (by assumption) ?_
        rotate_left
        · intro w' hSw
          (try dsimp only at hSw)
          go_simp
          all_goals (with_reducible rfl)
        (try simp only [Act.put, List.setIfInBounds_toArray, List.set_cons_zero, List.set_cons_succ])
        refine wpAnyH_take (i := 9) (oi := ({ dst := some 134, op := Go.Op.binOp Go.BinOp.eql 3 (Go.Operand.tmp 133) (Go.Operand.const (Go.Value.int Go.IntKind.i64 0)) 3, type := 4, pos := "law.go:96", after := #[{ on := 8, ground := Go.Ground.data }, { on := 7, ground := Go.Ground.guard }], guard := some (7, true) } : Go.Oper)) (v := ?_) rfl (by kernel_rfl) (by kernel_rfl) (by kernel_rfl) (fun _ _ _ h => h) (Or.inl ⟨by rfl, ?_⟩) (by assumption) ?_
        rotate_left
        · intro w' hSw
          (try dsimp only at hSw)
          go_simp
          all_goals (with_reducible rfl)
        (try simp only [Act.put, List.setIfInBounds_toArray, List.set_cons_zero, List.set_cons_succ])
        refine wpAnyH_take (i := 10) (oi := ({ dst := some 135, op := Go.Op.load 24 (Go.Operand.tmp 2), type := 24, pos := "law.go:96", after := #[{ on := 7, ground := Go.Ground.guard }], guard := some (7, true) } : Go.Oper)) (v := ?_) rfl (by kernel_rfl) (by kernel_rfl) (by kernel_rfl) (fun _ _ _ h => h) (Or.inl ⟨by rfl, ?_⟩) (by assumption) ?_
        rotate_left
        · intro w' hSw
          (try dsimp only at hSw)
          go_simp
          all_goals (with_reducible rfl)
        (try simp only [Act.put, List.setIfInBounds_toArray, List.set_cons_zero, List.set_cons_succ])
        refine wpAnyH_take (i := 11) (oi := ({ dst := some 136, op := Go.Op.load 24 (Go.Operand.tmp 3), type := 24, pos := "law.go:96", after := #[{ on := 7, ground := Go.Ground.guard }], guard := some (7, true) } : Go.Oper)) (v := ?_) rfl (by kernel_rfl) (by kernel_rfl) (by kernel_rfl) (fun _ _ _ h => h) (Or.inl ⟨by rfl, ?_⟩) (by assumption) ?_
        rotate_left
        · intro w' hSw
          (try dsimp only at hSw)
          go_simp
          all_goals (with_reducible rfl)
        (try simp only [Act.put, List.setIfInBounds_toArray, List.set_cons_zero, List.set_cons_succ])
        refine wpAnyH_take (i := 12) (oi := ({ dst := some 137, op := Go.Op.binOp Go.BinOp.eql 24 (Go.Operand.tmp 135) (Go.Operand.tmp 136) 24, type := 4, pos := "law.go:96", after := #[{ on := 10, ground := Go.Ground.data }, { on := 11, ground := Go.Ground.data }, { on := 7, ground := Go.Ground.guard }], guard := some (7, true) } : Go.Oper)) (v := ?_) rfl (by kernel_rfl) (by kernel_rfl) (by kernel_rfl) (fun _ _ _ h => h) (Or.inl ⟨by rfl, ?_⟩) (by assumption) ?_
        rotate_left
        · intro w' hSw
          (try dsimp only at hSw)
          go_simp
          all_goals (with_reducible rfl)
        (try simp only [Act.put, List.setIfInBounds_toArray, List.set_cons_zero, List.set_cons_succ])
        refine wpAnyH_take (i := 13) (oi := ({ dst := some 138, op := Go.Op.binOp Go.BinOp.eql 4 (Go.Operand.tmp 134) (Go.Operand.tmp 137) 4, type := 4, pos := "law.go:96", after := #[{ on := 9, ground := Go.Ground.data }, { on := 12, ground := Go.Ground.data }, { on := 7, ground := Go.Ground.guard }], guard := some (7, true) } : Go.Oper)) (v := ?_) rfl (by kernel_rfl) (by kernel_rfl) (by kernel_rfl) (fun _ _ _ h => h) (Or.inl ⟨by rfl, ?_⟩) (by assumption) ?_
        rotate_left
        · intro w' hSw
          (try dsimp only at hSw)
          go_simp
          all_goals (with_reducible rfl)
        (try simp only [Act.put, List.setIfInBounds_toArray, List.set_cons_zero, List.set_cons_succ])
        refine wpAnyH_take (i := 14) (oi := ({ dst := some 139, op := Go.Op.pick (Go.Operand.tmp 132) (Go.Operand.tmp 138) (Go.Operand.const (Go.Value.bool false)), type := 4, pos := "law.go:96", after := #[{ on := 7, ground := Go.Ground.data }, { on := 13, ground := Go.Ground.data }], guard := none } : Go.Oper)) (v := ?_) rfl (by kernel_rfl) (by kernel_rfl) (by kernel_rfl) (fun _ _ _ h => h) (Or.inl ⟨by rfl, ?_⟩) (by assumption) ?_
        rotate_left
        · intro w' hSw
          (try dsimp only at hSw)
          go_simp
          all_goals (with_reducible rfl)
        (try simp only [Act.put, List.setIfInBounds_toArray, List.set_cons_zero, List.set_cons_succ])
        refine wpAnyH_take (i := 15) (oi := ({ dst := some 140, op := Go.Op.move (Go.Operand.tmp 139), type := 4, pos := "law.go:96", after := #[{ on := 14, ground := Go.Ground.data }, { on := 7, ground := Go.Ground.chain }], guard := none } : Go.Oper)) (v := ?_) rfl (by kernel_rfl) (by kernel_rfl) (by kernel_rfl) (fun _ _ _ h => h) (Or.inl ⟨by rfl, ?_⟩) (by assumption) ?_
        rotate_left
        · intro w' hSw
          (try dsimp only at hSw)
          go_simp
          all_goals (with_reducible rfl)
        (try simp only [Act.put, List.setIfInBounds_toArray, List.set_cons_zero, List.set_cons_succ])
        refine wpAnyH_take (i := 16) (oi := ({ dst := some 141, op := Go.Op.move (Go.Operand.tmp 17), type := 3, pos := "law.go:96", after := #[{ on := 15, ground := Go.Ground.guard }], guard := some (15, true) } : Go.Oper)) (v := ?_) rfl (by kernel_rfl) (by kernel_rfl) (by kernel_rfl) (fun _ _ _ h => h) (Or.inl ⟨by rfl, ?_⟩) (by assumption) ?_
        rotate_left
        · intro w' hSw
          (try dsimp only at hSw)
          go_simp
          all_goals (with_reducible rfl)
        (try simp only [Act.put, List.setIfInBounds_toArray, List.set_cons_zero, List.set_cons_succ])
        refine wpAnyH_take (i := 17) (oi := ({ dst := some 142, op := Go.Op.load 24 (Go.Operand.tmp 3), type := 24, pos := "law.go:96", after := #[{ on := 15, ground := Go.Ground.guard }], guard := some (15, true) } : Go.Oper)) (v := ?_) rfl (by kernel_rfl) (by kernel_rfl) (by kernel_rfl) (fun _ _ _ h => h) (Or.inl ⟨by rfl, ?_⟩) (by assumption) ?_
        rotate_left
        · intro w' hSw
          (try dsimp only at hSw)
          go_simp
          all_goals (with_reducible rfl)
        (try simp only [Act.put, List.setIfInBounds_toArray, List.set_cons_zero, List.set_cons_succ])
        refine wpAnyH_take (i := 18) (oi := ({ dst := some 143, op := Go.Op.load 24 (Go.Operand.tmp 2), type := 24, pos := "law.go:96", after := #[{ on := 15, ground := Go.Ground.guard }], guard := some (15, true) } : Go.Oper)) (v := ?_) rfl (by kernel_rfl) (by kernel_rfl) (by kernel_rfl) (fun _ _ _ h => h) (Or.inl ⟨by rfl, ?_⟩) (by assumption) ?_
        rotate_left
        · intro w' hSw
          (try dsimp only at hSw)
          go_simp
          all_goals (with_reducible rfl)
        (try simp only [Act.put, List.setIfInBounds_toArray, List.set_cons_zero, List.set_cons_succ])
        refine wpAnyH_ready (rs := [19]) (by kernel_rfl) (by simp) ?_
        refine AllReadyH.cons (o := ({ dst := some 144, op := Go.Op.call { callee := Go.Callee.value (Go.Operand.func 37), args := #[Go.Operand.tmp 142, Go.Operand.tmp 143], argTypes := #[24, 24] }, type := 3, pos := "law.go:96", after := #[{ on := 17, ground := Go.Ground.data }, { on := 18, ground := Go.Ground.data }, { on := 15, ground := Go.Ground.chain }, { on := 15, ground := Go.Ground.guard }], guard := some (15, true) } : Go.Oper)) rfl (fun K hK => ?_) AllReadyH.nil
        go_simp
        ((go_at_call 37; (with_reducible refine (Compare_calls q p _).mono ?_); rintro e w8 ⟨rfl, h8⟩); rw [HC2.out]; (try replace h8 := Ext.undrew h8))
        refine hK.out _ _ ?_ (fun hHeld => ?_)
        · (try dsimp only)
          (refine ⟨Ext.cells ?_, ?_⟩ <;> ((repeat (first | assumption | exact Ext.refl _ | apply Ext.alloc | apply Ext.drew | apply Ext.drewN | refine Ext.trans ?_ (by assumption)))))
        clear hK K
        (try simp only [Act.put, List.setIfInBounds_toArray, List.set_cons_zero, List.set_cons_succ])
        refine wpAnyH_take (i := 20) (oi := ({ dst := some 145, op := Go.Op.unOp Go.UnOp.neg 3 (Go.Operand.tmp 144), type := 3, pos := "law.go:96", after := #[{ on := 19, ground := Go.Ground.data }, { on := 15, ground := Go.Ground.guard }], guard := some (15, true) } : Go.Oper)) (v := ?_) rfl (by kernel_rfl) (by kernel_rfl) (by kernel_rfl) (fun _ _ _ h => h) (Or.inl ⟨by rfl, ?_⟩) (by assumption) ?_
        rotate_left
        · intro w' hSw
          (try dsimp only at hSw)
          go_simp
          all_goals (with_reducible rfl)
        (try simp only [Act.put, List.setIfInBounds_toArray, List.set_cons_zero, List.set_cons_succ])
        refine wpAnyH_take (i := 21) (oi := ({ dst := some 146, op := Go.Op.binOp Go.BinOp.eql 3 (Go.Operand.tmp 141) (Go.Operand.tmp 145) 3, type := 4, pos := "law.go:96", after := #[{ on := 16, ground := Go.Ground.data }, { on := 20, ground := Go.Ground.data }, { on := 15, ground := Go.Ground.guard }], guard := some (15, true) } : Go.Oper)) (v := ?_) rfl (by kernel_rfl) (by kernel_rfl) (by kernel_rfl) (fun _ _ _ h => h) (Or.inl ⟨by rfl, ?_⟩) (by assumption) ?_
        rotate_left
        · intro w' hSw
          (try dsimp only at hSw)
          go_simp
          all_goals (with_reducible rfl)
        (try simp only [Act.put, List.setIfInBounds_toArray, List.set_cons_zero, List.set_cons_succ])
        refine wpAnyH_take (i := 22) (oi := ({ dst := some 147, op := Go.Op.pick (Go.Operand.tmp 140) (Go.Operand.tmp 146) (Go.Operand.const (Go.Value.bool false)), type := 4, pos := "law.go:96", after := #[{ on := 15, ground := Go.Ground.data }, { on := 21, ground := Go.Ground.data }], guard := none } : Go.Oper)) (v := ?_) rfl (by kernel_rfl) (by kernel_rfl) (by kernel_rfl) (fun _ _ _ h => h) (Or.inl ⟨by rfl, ?_⟩) (by assumption) ?_
        rotate_left
        · intro w' hSw
          (try dsimp only at hSw)
          go_simp
          all_goals (with_reducible rfl)
        (try simp only [Act.put, List.setIfInBounds_toArray, List.set_cons_zero, List.set_cons_succ])
        refine wpAnyH_take (i := 23) (oi := ({ dst := some 148, op := Go.Op.move (Go.Operand.tmp 147), type := 4, pos := "law.go:96", after := #[{ on := 22, ground := Go.Ground.data }, { on := 19, ground := Go.Ground.chain }], guard := none } : Go.Oper)) (v := ?_) rfl (by kernel_rfl) (by kernel_rfl) (by kernel_rfl) (fun _ _ _ h => h) (Or.inl ⟨by rfl, ?_⟩) (by assumption) ?_
        rotate_left
        · intro w' hSw
          (try dsimp only at hSw)
          go_simp
          all_goals (with_reducible rfl)
        (try simp only [Act.put, List.setIfInBounds_toArray, List.set_cons_zero, List.set_cons_succ])
        refine wpAnyH_take (i := 24) (oi := ({ dst := some 149, op := Go.Op.move (Go.Operand.tmp 17), type := 3, pos := "law.go:96", after := #[{ on := 23, ground := Go.Ground.guard }], guard := some (23, true) } : Go.Oper)) (v := ?_) rfl (by kernel_rfl) (by kernel_rfl) (by kernel_rfl) (fun _ _ _ h => h) (Or.inl ⟨by rfl, ?_⟩) (by assumption) ?_
        rotate_left
        · intro w' hSw
          (try dsimp only at hSw)
          go_simp
          all_goals (with_reducible rfl)
        (try simp only [Act.put, List.setIfInBounds_toArray, List.set_cons_zero, List.set_cons_succ])
        refine wpAnyH_take (i := 25) (oi := ({ dst := some 150, op := Go.Op.binOp Go.BinOp.geq 3 (Go.Operand.tmp 149) (Go.Operand.const (Go.Value.int Go.IntKind.i64 (-1))) 3, type := 4, pos := "law.go:96", after := #[{ on := 24, ground := Go.Ground.data }, { on := 23, ground := Go.Ground.guard }], guard := some (23, true) } : Go.Oper)) (v := ?_) rfl (by kernel_rfl) (by kernel_rfl) (by kernel_rfl) (fun _ _ _ h => h) (Or.inl ⟨by rfl, ?_⟩) (by assumption) ?_
        rotate_left
        · intro w' hSw
          (try dsimp only at hSw)
          go_simp
          all_goals (with_reducible rfl)
        (try simp only [Act.put, List.setIfInBounds_toArray, List.set_cons_zero, List.set_cons_succ])
        refine wpAnyH_take (i := 26) (oi := ({ dst := some 151, op := Go.Op.pick (Go.Operand.tmp 148) (Go.Operand.tmp 150) (Go.Operand.const (Go.Value.bool false)), type := 4, pos := "law.go:96", after := #[{ on := 23, ground := Go.Ground.data }, { on := 25, ground := Go.Ground.data }], guard := none } : Go.Oper)) (v := ?_) rfl (by kernel_rfl) (by kernel_rfl) (by kernel_rfl) (fun _ _ _ h => h) (Or.inl ⟨by rfl, ?_⟩) (by assumption) ?_
        rotate_left
        · intro w' hSw
          (try dsimp only at hSw)
          go_simp
          all_goals (with_reducible rfl)
        (try simp only [Act.put, List.setIfInBounds_toArray, List.set_cons_zero, List.set_cons_succ])
        refine wpAnyH_take (i := 27) (oi := ({ dst := some 152, op := Go.Op.move (Go.Operand.tmp 151), type := 4, pos := "law.go:96", after := #[{ on := 26, ground := Go.Ground.data }, { on := 23, ground := Go.Ground.chain }], guard := none } : Go.Oper)) (v := ?_) rfl (by kernel_rfl) (by kernel_rfl) (by kernel_rfl) (fun _ _ _ h => h) (Or.inl ⟨by rfl, ?_⟩) (by assumption) ?_
        rotate_left
        · intro w' hSw
          (try dsimp only at hSw)
          go_simp
          all_goals (with_reducible rfl)
        (try simp only [Act.put, List.setIfInBounds_toArray, List.set_cons_zero, List.set_cons_succ])
        refine wpAnyH_take (i := 28) (oi := ({ dst := some 153, op := Go.Op.move (Go.Operand.tmp 17), type := 3, pos := "law.go:96", after := #[{ on := 27, ground := Go.Ground.guard }], guard := some (27, true) } : Go.Oper)) (v := ?_) rfl (by kernel_rfl) (by kernel_rfl) (by kernel_rfl) (fun _ _ _ h => h) (Or.inl ⟨by rfl, ?_⟩) (by assumption) ?_
        rotate_left
        · intro w' hSw
          (try dsimp only at hSw)
          go_simp
          all_goals (with_reducible rfl)
        (try simp only [Act.put, List.setIfInBounds_toArray, List.set_cons_zero, List.set_cons_succ])
        refine wpAnyH_take (i := 29) (oi := ({ dst := some 154, op := Go.Op.binOp Go.BinOp.leq 3 (Go.Operand.tmp 153) (Go.Operand.const (Go.Value.int Go.IntKind.i64 1)) 3, type := 4, pos := "law.go:96", after := #[{ on := 28, ground := Go.Ground.data }, { on := 27, ground := Go.Ground.guard }], guard := some (27, true) } : Go.Oper)) (v := ?_) rfl (by kernel_rfl) (by kernel_rfl) (by kernel_rfl) (fun _ _ _ h => h) (Or.inl ⟨by rfl, ?_⟩) (by assumption) ?_
        rotate_left
        · intro w' hSw
          (try dsimp only at hSw)
          go_simp
          all_goals (with_reducible rfl)
        (try simp only [Act.put, List.setIfInBounds_toArray, List.set_cons_zero, List.set_cons_succ])
        refine wpAnyH_take (i := 30) (oi := ({ dst := some 155, op := Go.Op.pick (Go.Operand.tmp 152) (Go.Operand.tmp 154) (Go.Operand.const (Go.Value.bool false)), type := 4, pos := "law.go:96", after := #[{ on := 27, ground := Go.Ground.data }, { on := 29, ground := Go.Ground.data }], guard := none } : Go.Oper)) (v := ?_) rfl (by kernel_rfl) (by kernel_rfl) (by kernel_rfl) (fun _ _ _ h => h) (Or.inl ⟨by rfl, ?_⟩) (by assumption) ?_
        rotate_left
        · intro w' hSw
          (try dsimp only at hSw)
          go_simp
          all_goals (with_reducible rfl)
        (try simp only [Act.put, List.setIfInBounds_toArray, List.set_cons_zero, List.set_cons_succ])
        refine wpAnyH_take (i := 31) (oi := ({ dst := some 156, op := Go.Op.move (Go.Operand.tmp 155), type := 4, pos := "law.go:96", after := #[{ on := 30, ground := Go.Ground.data }, { on := 27, ground := Go.Ground.chain }], guard := none } : Go.Oper)) (v := ?_) rfl (by kernel_rfl) (by kernel_rfl) (by kernel_rfl) (fun _ _ _ h => h) (Or.inl ⟨by rfl, ?_⟩) (by assumption) ?_
        rotate_left
        · intro w' hSw
          (try dsimp only at hSw)
          go_simp
          all_goals (with_reducible rfl)
        (try simp only [Act.put, List.setIfInBounds_toArray, List.set_cons_zero, List.set_cons_succ])
        refine wpAnyH_take (i := 32) (oi := ({ dst := some 157, op := Go.Op.load 24 (Go.Operand.tmp 2), type := 24, pos := "law.go:96", after := #[{ on := 31, ground := Go.Ground.guard }], guard := some (31, true) } : Go.Oper)) (v := ?_) rfl (by kernel_rfl) (by kernel_rfl) (by kernel_rfl) (fun _ _ _ h => h) (Or.inl ⟨by rfl, ?_⟩) (by assumption) ?_
        rotate_left
        · intro w' hSw
          (try dsimp only at hSw)
          go_simp
          all_goals (with_reducible rfl)
        (try simp only [Act.put, List.setIfInBounds_toArray, List.set_cons_zero, List.set_cons_succ])
        refine wpAnyH_take (i := 33) (oi := ({ dst := some 158, op := Go.Op.load 24 (Go.Operand.tmp 3), type := 24, pos := "law.go:96", after := #[{ on := 31, ground := Go.Ground.guard }], guard := some (31, true) } : Go.Oper)) (v := ?_) rfl (by kernel_rfl) (by kernel_rfl) (by kernel_rfl) (fun _ _ _ h => h) (Or.inl ⟨by rfl, ?_⟩) (by assumption) ?_
        rotate_left
        · intro w' hSw
          (try dsimp only at hSw)
          go_simp
          all_goals (with_reducible rfl)
        (try simp only [Act.put, List.setIfInBounds_toArray, List.set_cons_zero, List.set_cons_succ])
        refine wpAnyH_ready (rs := [34]) (by kernel_rfl) (by simp) ?_
        refine AllReadyH.cons (o := ({ dst := some 159, op := Go.Op.call { callee := Go.Callee.value (Go.Operand.func 13), args := #[Go.Operand.tmp 157, Go.Operand.tmp 158], argTypes := #[24, 24] }, type := 4, pos := "law.go:96", after := #[{ on := 32, ground := Go.Ground.data }, { on := 33, ground := Go.Ground.data }, { on := 31, ground := Go.Ground.chain }, { on := 31, ground := Go.Ground.guard }], guard := some (31, true) } : Go.Oper)) rfl (fun K hK => ?_) AllReadyH.nil
        go_simp
        ((go_at_call 13; (with_reducible refine (Subset_calls p q _).mono ?_); rintro e w8 ⟨rfl, h8⟩); rw [← HSS.out]; (try replace h8 := Ext.undrew h8))
        refine hK.out _ _ ?_ (fun hHeld => ?_)
        · (try dsimp only)
          (refine ⟨Ext.cells ?_, ?_⟩ <;> ((repeat (first | assumption | exact Ext.refl _ | apply Ext.alloc | apply Ext.drew | apply Ext.drewN | refine Ext.trans ?_ (by assumption)))))
        clear hK K
        (try simp only [Act.put, List.setIfInBounds_toArray, List.set_cons_zero, List.set_cons_succ])
        refine wpAnyH_take (i := 35) (oi := ({ dst := some 160, op := Go.Op.unOp Go.UnOp.not 4 (Go.Operand.tmp 159), type := 4, pos := "law.go:96", after := #[{ on := 34, ground := Go.Ground.data }, { on := 31, ground := Go.Ground.guard }], guard := some (31, true) } : Go.Oper)) (v := ?_) rfl (by kernel_rfl) (by kernel_rfl) (by kernel_rfl) (fun _ _ _ h => h) (Or.inl ⟨by rfl, ?_⟩) (by assumption) ?_
        rotate_left
        · intro w' hSw
          (try dsimp only at hSw)
          go_simp
          all_goals (with_reducible rfl)
        (try simp only [Act.put, List.setIfInBounds_toArray, List.set_cons_zero, List.set_cons_succ])
        refine wpAnyH_take (i := 36) (oi := ({ dst := some 161, op := Go.Op.move (Go.Operand.tmp 160), type := 4, pos := "law.go:96", after := #[{ on := 35, ground := Go.Ground.data }, { on := 34, ground := Go.Ground.chain }, { on := 31, ground := Go.Ground.guard }], guard := some (31, true) } : Go.Oper)) (v := ?_) rfl (by kernel_rfl) (by kernel_rfl) (by kernel_rfl) (fun _ _ _ h => h) (Or.inl ⟨by rfl, ?_⟩) (by assumption) ?_
        rotate_left
        · intro w' hSw
          (try dsimp only at hSw)
          go_simp
          all_goals (with_reducible rfl)
        (try simp only [Act.put, List.setIfInBounds_toArray, List.set_cons_zero, List.set_cons_succ])
        refine wpAnyH_take (i := 37) (oi := ({ dst := some 162, op := Go.Op.move (Go.Operand.tmp 17), type := 3, pos := "law.go:96", after := #[{ on := 36, ground := Go.Ground.guard }], guard := some (36, false) } : Go.Oper)) (v := undef) rfl (by kernel_rfl) (by kernel_rfl) (by kernel_rfl) (fun _ _ _ h => h) (Or.inr ⟨by rfl, rfl⟩) (by assumption) ?_
        (try simp only [Act.put, List.setIfInBounds_toArray, List.set_cons_zero, List.set_cons_succ])
        refine wpAnyH_take (i := 38) (oi := ({ dst := some 163, op := Go.Op.binOp Go.BinOp.leq 3 (Go.Operand.tmp 162) (Go.Operand.const (Go.Value.int Go.IntKind.i64 0)) 3, type := 4, pos := "law.go:96", after := #[{ on := 37, ground := Go.Ground.data }, { on := 36, ground := Go.Ground.guard }], guard := some (36, false) } : Go.Oper)) (v := undef) rfl (by kernel_rfl) (by kernel_rfl) (by kernel_rfl) (fun _ _ _ h => h) (Or.inr ⟨by rfl, rfl⟩) (by assumption) ?_
        (try simp only [Act.put, List.setIfInBounds_toArray, List.set_cons_zero, List.set_cons_succ])
        refine wpAnyH_take (i := 39) (oi := ({ dst := some 164, op := Go.Op.pick (Go.Operand.tmp 161) (Go.Operand.const (Go.Value.bool true)) (Go.Operand.tmp 163), type := 4, pos := "law.go:96", after := #[{ on := 36, ground := Go.Ground.data }, { on := 38, ground := Go.Ground.data }, { on := 31, ground := Go.Ground.guard }], guard := some (31, true) } : Go.Oper)) (v := ?_) rfl (by kernel_rfl) (by kernel_rfl) (by kernel_rfl) (fun _ _ _ h => h) (Or.inl ⟨by rfl, ?_⟩) (by assumption) ?_
        rotate_left
        · intro w' hSw
          (try dsimp only at hSw)
          go_simp
          all_goals (with_reducible rfl)
        (try simp only [Act.put, List.setIfInBounds_toArray, List.set_cons_zero, List.set_cons_succ])
        refine wpAnyH_take (i := 40) (oi := ({ dst := some 165, op := Go.Op.pick (Go.Operand.tmp 156) (Go.Operand.tmp 164) (Go.Operand.const (Go.Value.bool false)), type := 4, pos := "law.go:96", after := #[{ on := 31, ground := Go.Ground.data }, { on := 39, ground := Go.Ground.data }], guard := none } : Go.Oper)) (v := ?_) rfl (by kernel_rfl) (by kernel_rfl) (by kernel_rfl) (fun _ _ _ h => h) (Or.inl ⟨by rfl, ?_⟩) (by assumption) ?_
        rotate_left
        · intro w' hSw
          (try dsimp only at hSw)
          go_simp
          all_goals (with_reducible rfl)
        (try simp only [Act.put, List.setIfInBounds_toArray, List.set_cons_zero, List.set_cons_succ])
        refine wpAnyH_take (i := 41) (oi := ({ dst := some 166, op := Go.Op.move (Go.Operand.tmp 165), type := 4, pos := "law.go:96", after := #[{ on := 40, ground := Go.Ground.data }, { on := 36, ground := Go.Ground.chain }], guard := none } : Go.Oper)) (v := ?_) rfl (by kernel_rfl) (by kernel_rfl) (by kernel_rfl) (fun _ _ _ h => h) (Or.inl ⟨by rfl, ?_⟩) (by assumption) ?_
        rotate_left
        · intro w' hSw
          (try dsimp only at hSw)
          go_simp
          all_goals (with_reducible rfl)
        (try simp only [Act.put, List.setIfInBounds_toArray, List.set_cons_zero, List.set_cons_succ])
        refine wpAnyH_ready (rs := [42]) (by kernel_rfl) (by simp) ?_
        refine AllReadyH.cons (o := ({ dst := some 167, op := Go.Op.call { callee := Go.Callee.value (Go.Operand.func 11), args := #[], argTypes := #[] }, type := 4, pos := "law.go:96", after := #[{ on := 41, ground := Go.Ground.chain }, { on := 41, ground := Go.Ground.guard }], guard := some (41, true) } : Go.Oper)) rfl (fun K hK => ?_) AllReadyH.nil
        go_simp
        ((go_at_call 11; (with_reducible refine (live_calls _).mono ?_); rintro e w8 ⟨rfl, h8⟩); (try replace h8 := Ext.undrew h8))
        refine hK.out _ _ ?_ (fun hHeld => ?_)
        · (try dsimp only)
          (refine ⟨Ext.cells ?_, ?_⟩ <;> ((repeat (first | assumption | exact Ext.refl _ | apply Ext.alloc | apply Ext.drew | apply Ext.drewN | refine Ext.trans ?_ (by assumption)))))
        clear hK K
        (try simp only [Act.put, List.setIfInBounds_toArray, List.set_cons_zero, List.set_cons_succ])
        refine wpAnyH_take (i := 43) (oi := ({ dst := some 168, op := Go.Op.pick (Go.Operand.tmp 166) (Go.Operand.tmp 167) (Go.Operand.const (Go.Value.bool false)), type := 4, pos := "law.go:96", after := #[{ on := 41, ground := Go.Ground.data }, { on := 42, ground := Go.Ground.data }], guard := none } : Go.Oper)) (v := ?_) rfl (by kernel_rfl) (by kernel_rfl) (by kernel_rfl) (fun _ _ _ h => h) (Or.inl ⟨by rfl, ?_⟩) (by assumption) ?_
        rotate_left
        · intro w' hSw
          (try dsimp only at hSw)
          go_simp
          all_goals (with_reducible rfl)
        (try simp only [Act.put, List.setIfInBounds_toArray, List.set_cons_zero, List.set_cons_succ])
        refine wpAnyH_take (i := 44) (oi := ({ dst := some 4, op := Go.Op.assign (Go.Operand.tmp 168), type := 4, pos := "law.go:96", after := #[{ on := 43, ground := Go.Ground.data }, { on := 42, ground := Go.Ground.chain }, { on := 0, ground := Go.Ground.phase }, { on := 1, ground := Go.Ground.phase }, { on := 2, ground := Go.Ground.phase }, { on := 3, ground := Go.Ground.phase }, { on := 4, ground := Go.Ground.phase }, { on := 5, ground := Go.Ground.phase }, { on := 6, ground := Go.Ground.phase }, { on := 7, ground := Go.Ground.phase }, { on := 8, ground := Go.Ground.phase }, { on := 9, ground := Go.Ground.phase }, { on := 10, ground := Go.Ground.phase }, { on := 11, ground := Go.Ground.phase }, { on := 12, ground := Go.Ground.phase }, { on := 13, ground := Go.Ground.phase }, { on := 14, ground := Go.Ground.phase }, { on := 15, ground := Go.Ground.phase }, { on := 16, ground := Go.Ground.phase }, { on := 17, ground := Go.Ground.phase }, { on := 18, ground := Go.Ground.phase }, { on := 19, ground := Go.Ground.phase }, { on := 20, ground := Go.Ground.phase }, { on := 21, ground := Go.Ground.phase }, { on := 22, ground := Go.Ground.phase }, { on := 23, ground := Go.Ground.phase }, { on := 24, ground := Go.Ground.phase }, { on := 25, ground := Go.Ground.phase }, { on := 26, ground := Go.Ground.phase }, { on := 27, ground := Go.Ground.phase }, { on := 28, ground := Go.Ground.phase }, { on := 29, ground := Go.Ground.phase }, { on := 30, ground := Go.Ground.phase }, { on := 31, ground := Go.Ground.phase }, { on := 32, ground := Go.Ground.phase }, { on := 33, ground := Go.Ground.phase }, { on := 34, ground := Go.Ground.phase }, { on := 35, ground := Go.Ground.phase }, { on := 36, ground := Go.Ground.phase }, { on := 37, ground := Go.Ground.phase }, { on := 38, ground := Go.Ground.phase }, { on := 39, ground := Go.Ground.phase }, { on := 40, ground := Go.Ground.phase }, { on := 41, ground := Go.Ground.phase }, { on := 42, ground := Go.Ground.phase }, { on := 43, ground := Go.Ground.phase }], guard := none } : Go.Oper)) (v := ?_) rfl (by kernel_rfl) (by kernel_rfl) (by kernel_rfl) (fun _ _ _ h => h) (Or.inl ⟨by rfl, ?_⟩) (by assumption) ?_
        rotate_left
        · intro w' hSw
          (try dsimp only at hSw)
          go_simp
          all_goals (with_reducible rfl)
        (try simp only [Act.put, List.setIfInBounds_toArray, List.set_cons_zero, List.set_cons_succ])
        refine wpAnyH_done (by kernel_rfl) ?_ _
        go_wp2_with fail
        go_ret
        exact ⟨rfl, by (repeat (first | assumption | exact Ext.refl _ | apply Ext.alloc | apply Ext.drew | apply Ext.drewN | refine Ext.trans ?_ (by assumption)))⟩
      · have hc0 := hcs rfl
        clear hcs
        go_region_held3 (fun w' => (∀ b o, b < W.heap.size → w'.cell? ⟨b, o, none⟩ = W.cell? ⟨b, o, none⟩) ∧ Ext W w') (refine ⟨Ext.cells ?_, ?_⟩ <;> ((repeat (first | assumption | exact Ext.refl _ | apply Ext.alloc | apply Ext.drew | apply Ext.drewN | refine Ext.trans ?_ (by assumption))))) (first
          | ((go_at_call 13; (with_reducible refine (Subset_calls p q _).mono ?_); rintro e w8 ⟨rfl, h8⟩); rw [← HSS.out]; (try replace h8 := Ext.undrew h8))
          | ((go_at_call 37; (with_reducible refine (Compare_calls q p _).mono ?_); rintro e w8 ⟨rfl, h8⟩); rw [HC2.out]; (try replace h8 := Ext.undrew h8))
          | ((go_at_call 11; (with_reducible refine (live_calls _).mono ?_); rintro e w8 ⟨rfl, h8⟩); (try replace h8 := Ext.undrew h8)))
        go_wp2_with fail
        go_ret
        exact ⟨rfl, by (repeat (first | assumption | exact Ext.refl _ | apply Ext.alloc | apply Ext.drew | apply Ext.drewN | refine Ext.trans ?_ (by assumption)))⟩
end Go.Proofs.YtbmnjnmpjpdcmaaDoor
