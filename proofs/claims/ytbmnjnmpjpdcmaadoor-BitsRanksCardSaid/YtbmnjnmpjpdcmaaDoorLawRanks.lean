/- The walk of the law BitsRanks. Conditions: the library's table as its initialiser lays it. -/
import Derived.Test.YtbmnjnmpjpdcmaaDoorEachB
import Derived.Test.YtbmnjnmpjpdcmaaDoorEachF
import Derived.Test.YtbmnjnmpjpdcmaaDoorBitsJ
import Derived.Test.YtbmnjnmpjpdcmaaDoorRowSet
namespace Go.Proofs.YtbmnjnmpjpdcmaaDoor
open Go.RowKit Go.Eg

theorem clamp_in {x : Int} (h0 : 0 ≤ x) (h1 : x ≤ 512) : clampN x = x.toNat := by
  unfold clampN
  by_cases a : x ≤ 0
  · rw [if_pos a]; omega
  · rw [if_neg a]
    by_cases b : 512 ≤ x
    · rw [if_pos b]; omega
    · rw [if_neg b]
theorem cnt_lo {n : Nat} (h : n ≤ 512) : cnt (loS n) 512 = n := by
  have e : 512 = n + (512 - n) := by omega
  rw [e, cnt_add]
  have h1 : ∀ m, cnt (fun _ => true) m = m := fun m => by
    induction m with
    | zero => rfl
    | succ m ih => unfold cnt; rw [ih]; rfl
  have h2 : ∀ m, cnt (fun _ => false) m = 0 := fun m => by
    induction m with
    | zero => rfl
    | succ m ih => unfold cnt; rw [ih]; rfl
  have h3 : cnt (loS n) n = cnt (fun _ => true) n := cnt_congr fun k hk => by unfold loS; exact decide_eq_true hk
  have h4 : cnt (fun k => loS n (n + k)) (512 - n) = cnt (fun _ => false) (512 - n) := cnt_congr fun k hk => by unfold loS; exact decide_eq_false (by omega)
  rw [h3, h4, h1, h2, Nat.add_zero]
set_option maxHeartbeats 4000000 in
set_option maxRecDepth 100000 in
theorem lawRanks_calls (p : Nat → Bool) (x : Int) (w : World) (hT : Tab w) (_ : IntIn .i64 x) :
    Calls Tryd.prog 7 #[Value.agg #[.int .u64 (wd (p) 0 : Nat), .int .u64 (wd (p) 1 : Nat), .int .u64 (wd (p) 2 : Nat), .int .u64 (wd (p) 3 : Nat), .int .u64 (wd (p) 4 : Nat), .int .u64 (wd (p) 5 : Nat), .int .u64 (wd (p) 6 : Nat), .int .u64 (wd (p) 7 : Nat)], .int .i64 x] w fun e w' => e = .returned (.bool true) ∧ Ext w w' := by
  have HX0 : Hid (Ext w (w.alloc (.cells #[Value.int .u64 (wd (p) 0 : Nat), .int .u64 (wd (p) 1 : Nat), .int .u64 (wd (p) 2 : Nat), .int .u64 (wd (p) 3 : Nat), .int .u64 (wd (p) 4 : Nat), .int .u64 (wd (p) 5 : Nat), .int .u64 (wd (p) 6 : Nat), .int .u64 (wd (p) 7 : Nat)] 24))) := by show Ext _ _; (repeat (first | assumption | exact Ext.refl _ | apply Ext.alloc | apply Ext.drew | apply Ext.drewN | refine Ext.set ?_ (by first | exact Nat.le_refl _ | assumption | exact Nat.le_succ _ | exact Nat.le_add_right _ _ | exact Nat.le_trans (Nat.le_succ _) (Nat.le_succ _) | omega) _ | refine Ext.trans ?_ (by assumption)))
  have HB0 : Hid (Arr (w.alloc (.cells #[Value.int .u64 (wd (p) 0 : Nat), .int .u64 (wd (p) 1 : Nat), .int .u64 (wd (p) 2 : Nat), .int .u64 (wd (p) 3 : Nat), .int .u64 (wd (p) 4 : Nat), .int .u64 (wd (p) 5 : Nat), .int .u64 (wd (p) 6 : Nat), .int .u64 (wd (p) 7 : Nat)] 24)) w.heap.size p) := Lib.hid (Arr.made p rfl)
  have HS0 : Hid (w.heap.size < (w.alloc (.cells #[Value.int .u64 (wd (p) 0 : Nat), .int .u64 (wd (p) 1 : Nat), .int .u64 (wd (p) 2 : Nat), .int .u64 (wd (p) 3 : Nat), .int .u64 (wd (p) 4 : Nat), .int .u64 (wd (p) 5 : Nat), .int .u64 (wd (p) 6 : Nat), .int .u64 (wd (p) 7 : Nat)] 24)).heap.size) := by show _ < _; simp
  have HT := Lib.hid hT
  clear hT
  by_cases hin : 0 ≤ x ∧ x ≤ 512
  · obtain ⟨h0, h1⟩ := hin
    have hBE : Hid (belowE x = 0) := by show _ = _; unfold belowE belowOk; rw [decide_eq_true h0, decide_eq_true h1]; rfl
    have hBS : Hid (belowS x = loS x.toNat) := by show _ = _; unfold belowS belowOk; rw [decide_eq_true h0, decide_eq_true h1]; rfl
    have HR : Hid (cnt p (clampN x) = cnt (andS p (loS x.toNat)) 512) := by show _ = _; rw [clamp_in h0 h1, cnt_below p (by omega)]
    have HL : Hid (((cnt (loS x.toNat) 512 : Nat) : Int) = x) := by show _ = _; rw [cnt_lo (by omega)]; omega
    have n0 : decide (x < 0) = false := by simpa using h0
    have n1 : decide (512 < x) = false := by simpa using h1
    obtain ⟨b, hb⟩ : ∃ b, b = loS x.toNat := ⟨_, rfl⟩
    rw [← hb] at hBS HR HL
    clear h0 h1 hb
    go_enter Tryd.func7, Tryd.ntmps7
    go_wp2_with ((go_at_call 33; (with_reducible refine (Below_calls x _).mono ?_); rintro e w1 ⟨rfl, h1⟩); rw [hBS.out, hBE.out])
    have g1 := h1.le
    have HB1 : Hid (Arr (w1.alloc (.cells #[Value.int .u64 (wd (b) 0 : Nat), .int .u64 (wd (b) 1 : Nat), .int .u64 (wd (b) 2 : Nat), .int .u64 (wd (b) 3 : Nat), .int .u64 (wd (b) 4 : Nat), .int .u64 (wd (b) 5 : Nat), .int .u64 (wd (b) 6 : Nat), .int .u64 (wd (b) 7 : Nat)] 24)) w.heap.size p) := Lib.hid ((HB0.out.ext h1 HS0.out).old (Nat.lt_of_lt_of_le HS0.out g1))
    have HB2 : Hid (Arr (w1.alloc (.cells #[Value.int .u64 (wd (b) 0 : Nat), .int .u64 (wd (b) 1 : Nat), .int .u64 (wd (b) 2 : Nat), .int .u64 (wd (b) 3 : Nat), .int .u64 (wd (b) 4 : Nat), .int .u64 (wd (b) 5 : Nat), .int .u64 (wd (b) 6 : Nat), .int .u64 (wd (b) 7 : Nat)] 24)) w1.heap.size b) := Lib.hid (Arr.made b rfl)
    have HX : Hid (Ext w (w1.alloc (.cells #[Value.int .u64 (wd (b) 0 : Nat), .int .u64 (wd (b) 1 : Nat), .int .u64 (wd (b) 2 : Nat), .int .u64 (wd (b) 3 : Nat), .int .u64 (wd (b) 4 : Nat), .int .u64 (wd (b) 5 : Nat), .int .u64 (wd (b) 6 : Nat), .int .u64 (wd (b) 7 : Nat)] 24))) := by show Ext _ _; have := HX0.out; (repeat (first | assumption | exact Ext.refl _ | apply Ext.alloc | apply Ext.drew | apply Ext.drewN | refine Ext.trans ?_ (by assumption)))
    have HS1 : Hid (w.heap.size < (w1.alloc (.cells #[Value.int .u64 (wd (b) 0 : Nat), .int .u64 (wd (b) 1 : Nat), .int .u64 (wd (b) 2 : Nat), .int .u64 (wd (b) 3 : Nat), .int .u64 (wd (b) 4 : Nat), .int .u64 (wd (b) 5 : Nat), .int .u64 (wd (b) 6 : Nat), .int .u64 (wd (b) 7 : Nat)] 24)).heap.size) := by show _ < _; exact Nat.lt_of_lt_of_le HS0.out (Nat.le_trans g1 (by simp))
    have HS2 : Hid (w1.heap.size < (w1.alloc (.cells #[Value.int .u64 (wd (b) 0 : Nat), .int .u64 (wd (b) 1 : Nat), .int .u64 (wd (b) 2 : Nat), .int .u64 (wd (b) 3 : Nat), .int .u64 (wd (b) 4 : Nat), .int .u64 (wd (b) 5 : Nat), .int .u64 (wd (b) 6 : Nat), .int .u64 (wd (b) 7 : Nat)] 24)).heap.size) := by show _ < _; simp
    clear h1 g1 HB0 HX0 HS0
    generalize w1.alloc (.cells #[Value.int .u64 (wd (b) 0 : Nat), .int .u64 (wd (b) 1 : Nat), .int .u64 (wd (b) 2 : Nat), .int .u64 (wd (b) 3 : Nat), .int .u64 (wd (b) 4 : Nat), .int .u64 (wd (b) 5 : Nat), .int .u64 (wd (b) 6 : Nat), .int .u64 (wd (b) 7 : Nat)] 24) = W at *
    have hbs1 := HS1.out
    have hbs2 := HS2.out
    have H__ := (HB1).out; obtain ⟨ce0, fe0⟩ := H__ 0 (by omega); obtain ⟨ce1, fe1⟩ := H__ 1 (by omega); obtain ⟨ce2, fe2⟩ := H__ 2 (by omega); obtain ⟨ce3, fe3⟩ := H__ 3 (by omega); obtain ⟨ce4, fe4⟩ := H__ 4 (by omega); obtain ⟨ce5, fe5⟩ := H__ 5 (by omega); obtain ⟨ce6, fe6⟩ := H__ 6 (by omega); obtain ⟨ce7, fe7⟩ := H__ 7 (by omega); clear H__
    have H__ := (HB2).out; obtain ⟨de0, ge0⟩ := H__ 0 (by omega); obtain ⟨de1, ge1⟩ := H__ 1 (by omega); obtain ⟨de2, ge2⟩ := H__ 2 (by omega); obtain ⟨de3, ge3⟩ := H__ 3 (by omega); obtain ⟨de4, ge4⟩ := H__ 4 (by omega); obtain ⟨de5, ge5⟩ := H__ 5 (by omega); obtain ⟨de6, ge6⟩ := H__ 6 (by omega); obtain ⟨de7, ge7⟩ := H__ 7 (by omega); clear H__
    go_region_held3 (fun w' => (∀ b o, b < W.heap.size → w'.cell? ⟨b, o, none⟩ = W.cell? ⟨b, o, none⟩) ∧ Ext W w') (refine ⟨Ext.cells ?_, ?_⟩ <;> ((repeat (first | assumption | exact Ext.refl _ | apply Ext.alloc | apply Ext.drew | apply Ext.drewN | refine Ext.trans ?_ (by assumption))))) (first
      | (go_at_call 21; (with_reducible refine (num_calls _ _).mono ?_); rintro e w' ⟨rfl, hw⟩; obtain rfl := hw.symm)
      | ((go_at_call 31; (with_reducible refine (Rank_calls p x _).mono ?_); rintro e w3 ⟨rfl, h3⟩); rw [HR.out]; (try replace h3 := Ext.undrew h3))
      | ((go_at_call 34; (with_reducible refine (inter_calls p b _).mono ?_); rintro e w3 ⟨rfl, h3⟩); (try replace h3 := Ext.undrew h3))
      | ((go_at_call 12; (with_reducible refine (Size_calls (andS p b) _).mono ?_); rintro e w3 ⟨rfl, h3⟩); (try replace h3 := Ext.undrew h3))
      | ((go_at_call 12; (with_reducible refine (Size_calls b _).mono ?_); rintro e w3 ⟨rfl, h3⟩); rw [HL.out]; (try replace h3 := Ext.undrew h3)))
    have hX := HX.out
    go_wp2_with ((go_at_call 24; (with_reducible refine (List_calls p _ (HT.out.ext (by (repeat (first | assumption | exact Ext.refl _ | apply Ext.alloc | apply Ext.drew | apply Ext.drewN | refine Ext.trans ?_ (by assumption)))))).mono ?_); rintro e w4 ⟨v4, rfl, ho4, h4⟩); (obtain ⟨A4, c4, rfl, h41, h42⟩ := ho4.shape))
    have hX4 : Ext W w4 := by (repeat (first | assumption | exact Ext.refl _ | apply Ext.alloc | apply Ext.drew | apply Ext.drewN | refine Ext.trans ?_ (by assumption)))
    have HB4 := Lib.hid (HB1.out.ext hX4 hbs1)
    have hbs4 := Nat.lt_of_lt_of_le hbs1 hX4.le
    have hr := Lib.hid ho4.rd
    have hll := numsB_len p 512
    have HAT := Lib.hid (fun r y h => rank_at p 512 r y h)
    obtain ⟨L, hL⟩ : ∃ L, L = numsB p 512 := ⟨_, rfl⟩
    rw [← hL] at hr hll HAT ⊢
    rw [← hL] at h41
    clear ho4 h4 hL HB1 HB2
    have H__ := (HB4).out; obtain ⟨ke0, le0⟩ := H__ 0 (by omega); obtain ⟨ke1, le1⟩ := H__ 1 (by omega); obtain ⟨ke2, le2⟩ := H__ 2 (by omega); obtain ⟨ke3, le3⟩ := H__ 3 (by omega); obtain ⟨ke4, le4⟩ := H__ 4 (by omega); obtain ⟨ke5, le5⟩ := H__ 5 (by omega); obtain ⟨ke6, le6⟩ := H__ 6 (by omega); obtain ⟨ke7, le7⟩ := H__ 7 (by omega); clear H__
    clear ce0 ce1 ce2 ce3 ce4 ce5 ce6 ce7 de0 de1 de2 de3 de4 de5 de6 de7
    go_loopw [8] (fun v8 wr => ∃ i : Nat, v8 = .int .i64 i ∧ i ≤ L.length ∧ Ext w4 wr) (fun v8 _ => L.length - (intOf v8).toNat)
    case atStart => exact ⟨0, rfl, by omega, Ext.refl _⟩
    case round =>
      obtain ⟨i, rfl, hi, he⟩ := hrel
      by_cases hlt : i < L.length
      · obtain ⟨y, hy⟩ : ∃ y, L[i]? = some y := ⟨_, List.getElem?_eq_getElem hlt⟩
        obtain ⟨b', off, rfl, hb', hc⟩ := hr.out.int hy
        obtain ⟨k, k1, k2, k3, k4⟩ := HAT.out i y hy
        have HRK : Hid (cnt p (clampN y) = i) := by show _ = _; rw [clamp_in (by omega) (by omega), k1, Int.toNat_natCast, k4]
        have hi0 : (0 : Int) ≤ (i : Int) := by omega
        have hi1 : (i : Int) < L.length := by omega
        have hcs := he.cells
        clear hy k1 k2 k3 k4
        go_wp2_with fail
        go_region_held3 (fun w' => (∀ b o, b < w4.heap.size → w'.cell? ⟨b, o, none⟩ = w4.cell? ⟨b, o, none⟩) ∧ Ext w4 w') (refine ⟨Ext.cells ?_, ?_⟩ <;> ((repeat (first | assumption | exact Ext.refl _ | apply Ext.alloc | apply Ext.drew | apply Ext.drewN | refine Ext.trans ?_ (by assumption))))) (first
          | ((go_at_call 31; (with_reducible refine (Rank_calls p y _).mono ?_); rintro e w5 ⟨rfl, h5⟩); rw [HRK.out]; (try replace h5 := Ext.undrew h5)))
        go_wp2_with fail
        go_roundw
        case rel => exact ⟨i + 1, by go_num, by omega, by (repeat (first | assumption | exact Ext.refl _ | apply Ext.alloc | apply Ext.drew | apply Ext.drewN | refine Ext.trans ?_ (by assumption)))⟩
        case measure => simp [intOf]; omega
      · have hi' : i = L.length := by omega
        subst hi'
        go_wp2_with ((go_at_call 11; (with_reducible refine (live_calls _).mono ?_); rintro e w5 ⟨rfl, h5⟩))
        go_ret
        exact ⟨rfl, by (repeat (first | assumption | exact Ext.refl _ | apply Ext.alloc | apply Ext.drew | apply Ext.drewN | refine Ext.trans ?_ (by assumption)))⟩
  · have hx : x < 0 ∨ (decide (x < 0) = false ∧ 512 < x) := by simp; omega
    clear hin
    have hX := HX0.out
    rcases hx with h | ⟨h0, h⟩
    all_goals
      go_enter Tryd.func7, Tryd.ntmps7
      go_wp2_with ((go_at_call 11; (with_reducible refine (live_calls _).mono ?_); rintro e w3 ⟨rfl, h3⟩))
      go_ret
      exact ⟨rfl, by (repeat (first | assumption | exact Ext.refl _ | apply Ext.alloc | apply Ext.drew | apply Ext.drewN | refine Ext.trans ?_ (by assumption)))⟩
end Go.Proofs.YtbmnjnmpjpdcmaaDoor
