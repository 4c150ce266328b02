/- Walks of the reference of chapter 2: List, Below, Both, Subset, Compare. Conditions: none. -/
import Derived.Test.YtbmnjnmpjpdcmaaListB
import Derived.Test.YtbmnjnmpjpdcmaaCmpM
namespace Go.Proofs.Ytbmnjnmpjpdcmaa
open Go.RowKit Go.Eg

set_option maxHeartbeats 2000000 in
set_option maxRecDepth 100000 in
theorem rList_calls (p : Nat → Bool) (w : World) : Calls Try.prog 20 #[Value.agg #[.int .u64 (wd (p) 0 : Nat), .int .u64 (wd (p) 1 : Nat), .int .u64 (wd (p) 2 : Nat), .int .u64 (wd (p) 3 : Nat), .int .u64 (wd (p) 4 : Nat), .int .u64 (wd (p) 5 : Nat), .int .u64 (wd (p) 6 : Nat), .int .u64 (wd (p) 7 : Nat)]] w fun e w' => ∃ v, e = .returned v ∧ Own (Ty.int .i64) 3 w.heap.size No w' (numsB p 512) v ∧ Ext w w' := by
  have HB : Hid (Arr (w.alloc (.cells #[Value.int .u64 (wd (p) 0 : Nat), .int .u64 (wd (p) 1 : Nat), .int .u64 (wd (p) 2 : Nat), .int .u64 (wd (p) 3 : Nat), .int .u64 (wd (p) 4 : Nat), .int .u64 (wd (p) 5 : Nat), .int .u64 (wd (p) 6 : Nat), .int .u64 (wd (p) 7 : Nat)] 24)) w.heap.size p) := Lib.hid (Arr.made p rfl)
  have HX : Hid (Ext w (w.alloc (.cells #[Value.int .u64 (wd (p) 0 : Nat), .int .u64 (wd (p) 1 : Nat), .int .u64 (wd (p) 2 : Nat), .int .u64 (wd (p) 3 : Nat), .int .u64 (wd (p) 4 : Nat), .int .u64 (wd (p) 5 : Nat), .int .u64 (wd (p) 6 : Nat), .int .u64 (wd (p) 7 : Nat)] 24))) := by show Ext _ _; (repeat (first | assumption | exact Ext.refl _ | apply Ext.alloc | apply Ext.drew | apply Ext.drewN | refine Ext.set ?_ (by first | exact Nat.le_refl _ | exact Nat.le_succ _ | exact Nat.le_add_right _ _ | omega) _ | refine Ext.trans ?_ (by assumption)))
  have HS : Hid (w.heap.size < ((w.alloc (.cells #[Value.int .u64 (wd (p) 0 : Nat), .int .u64 (wd (p) 1 : Nat), .int .u64 (wd (p) 2 : Nat), .int .u64 (wd (p) 3 : Nat), .int .u64 (wd (p) 4 : Nat), .int .u64 (wd (p) 5 : Nat), .int .u64 (wd (p) 6 : Nat), .int .u64 (wd (p) 7 : Nat)] 24))).heap.size) := by show _ < _; simp
  go_enter Try.func20, Try.ntmps20
  go_wp2_with fail
  generalize (w.alloc (.cells #[Value.int .u64 (wd (p) 0 : Nat), .int .u64 (wd (p) 1 : Nat), .int .u64 (wd (p) 2 : Nat), .int .u64 (wd (p) 3 : Nat), .int .u64 (wd (p) 4 : Nat), .int .u64 (wd (p) 5 : Nat), .int .u64 (wd (p) 6 : Nat), .int .u64 (wd (p) 7 : Nat)] 24)) = W at *
  have hbs := HS.out
  go_loopw [3, 4] (fun v3 v4 wr => ∃ i : Nat, v4 = .int .i64 i ∧ i ≤ 512 ∧ Own (Ty.int .i64) 3 W.heap.size No wr (numsB p i) v3 ∧ Ext W wr) (fun _ v4 _ => 512 - (intOf v4).toNat)
  case atStart => exact ⟨0, rfl, by omega, Own.nil _ _ _ _ _, Ext.refl _⟩
  case round =>
    obtain ⟨i, rfl, hi, ho, he⟩ := hrel
    by_cases hlt : i < 512
    · have HB1 := Lib.hid (HB.out.ext he hbs)
      obtain ⟨A5, c5, rfl, h51, h52⟩ := ho.shape
      have hln := numsB_len p i
      have H__ := (HB1).out; obtain ⟨ce0, fe0⟩ := H__ 0 (by omega); obtain ⟨ce1, fe1⟩ := H__ 1 (by omega); obtain ⟨ce2, fe2⟩ := H__ 2 (by omega); obtain ⟨ce3, fe3⟩ := H__ 3 (by omega); obtain ⟨ce4, fe4⟩ := H__ 4 (by omega); obtain ⟨ce5, fe5⟩ := H__ 5 (by omega); obtain ⟨ce6, fe6⟩ := H__ 6 (by omega); obtain ⟨ce7, fe7⟩ := H__ 7 (by omega); clear H__
      have hI : Hid (inSet p i = p i) := by show _ = _; simp [inSet]; omega
      cases hb : p i
      · have HL := Lib.hid (numsB_neg hb)
        rw [hb] at hI
        clear hb
        generalize numsB p i = L at *
        go_wp2_with (first | ((go_at_call 26; (with_reducible refine (rHas_calls p _ _).mono ?_); rintro e w2 ⟨rfl, h2⟩); rw [hI.out]))
        go_roundw
        case rel => exact ⟨i + 1, by go_num, by omega, by rw [HL.out]; exact ho.ext (by (repeat (first | assumption | exact Ext.refl _ | apply Ext.alloc | apply Ext.drew | apply Ext.drewN | refine Ext.trans ?_ (by assumption)))), by (repeat (first | assumption | exact Ext.refl _ | apply Ext.alloc | apply Ext.drew | apply Ext.drewN | refine Ext.trans ?_ (by assumption)))⟩
        case measure => simp [intOf]; omega
      · have HL := Lib.hid (numsB_pos hb)
        rw [hb] at hI
        clear hb
        generalize numsB p i = L at *
        go_wp2_with (first | ((go_at_call 26; (with_reducible refine (rHas_calls p _ _).mono ?_); rintro e w2 ⟨rfl, h2⟩); rw [hI.out]) | ((with_reducible refine gate_bi .append #[.tmp 12, .tmp 14] ?_); refine wp_append (t := Ty.int .i64) 3 W.heap.size 8 elInt No _ L rfl (ho.ext (by (repeat (first | assumption | exact Ext.refl _ | apply Ext.alloc | apply Ext.drew | apply Ext.drewN | refine Ext.trans ?_ (by assumption))))) _ [(i : Int)] rfl Any (SlP.one _ _ (fun _ _ => rfl)) (fun _ _ h => h) (by simp; omega) (by decide) (by have hle__ := he.le; have hle2__ := h2.le; simp; omega) ?_; intro v6 w6 ho6 hg6 _; have hx6 := Ext.grown (by (repeat (first | assumption | exact Ext.refl _ | apply Ext.alloc | apply Ext.drew | apply Ext.drewN | refine Ext.trans ?_ (by assumption))) : Ext W _) hg6 ho.lo))
        go_roundw
        case rel => exact ⟨i + 1, by go_num, by omega, by rw [HL.out]; exact ho6, hx6⟩
        case measure => simp [intOf]; omega
    · have hi' : i = 512 := by omega
      subst hi'
      obtain ⟨A5, c5, rfl, h51, h52⟩ := ho.shape
      go_wp2_with fail
      go_ret
      exact ⟨_, rfl, ho.rebase (fun k hk => Nat.le_trans HX.out.le (ho.lo k hk)), HX.out.trans he⟩

/-- The numbers below n. -/
def loS (n i : Nat) : Bool := decide (i < n)
def belowOk (x : Int) : Bool := decide (0 ≤ x) && decide (x ≤ 512)
def belowS (x : Int) : Nat → Bool := if belowOk x then loS x.toNat else fun _ => false
def belowE (x : Int) : Int := if belowOk x then 0 else 11
theorem lo_nums (n : Nat) : ∀ i, i ≤ n → numsB (loS n) i = numsB (fun _ => true) i
  | 0, _ => rfl
  | i + 1, h => by rw [numsB_pos (p := loS n) (by simp [loS]; omega), numsB_pos (p := fun _ => true) rfl, lo_nums n i (by omega)]
set_option maxHeartbeats 2000000 in
set_option maxRecDepth 100000 in
theorem rBelow_calls (x : Int) (w : World) : Calls Try.prog 14 #[.int .i64 x] w fun e w' => e = .returned (.tuple #[Value.agg #[.int .u64 (wd (belowS x) 0 : Nat), .int .u64 (wd (belowS x) 1 : Nat), .int .u64 (wd (belowS x) 2 : Nat), .int .u64 (wd (belowS x) 3 : Nat), .int .u64 (wd (belowS x) 4 : Nat), .int .u64 (wd (belowS x) 5 : Nat), .int .u64 (wd (belowS x) 6 : Nat), .int .u64 (wd (belowS x) 7 : Nat)], .int .i64 (belowE x)]) ∧ Ext w w' := by
  have HZ : Hid (Arr (w.alloc (.cells #[Value.int .u64 0, .int .u64 0, .int .u64 0, .int .u64 0, .int .u64 0, .int .u64 0, .int .u64 0, .int .u64 0] 24)) w.heap.size (fun _ => false)) := Lib.hid (Arr.zero rfl)
  have HX : Hid (Ext w (w.alloc (.cells #[Value.int .u64 0, .int .u64 0, .int .u64 0, .int .u64 0, .int .u64 0, .int .u64 0, .int .u64 0, .int .u64 0] 24))) := by show Ext _ _; (repeat (first | assumption | exact Ext.refl _ | apply Ext.alloc | apply Ext.drew | apply Ext.drewN | refine Ext.set ?_ (by first | exact Nat.le_refl _ | exact Nat.le_succ _ | exact Nat.le_add_right _ _ | omega) _ | refine Ext.trans ?_ (by assumption)))
  have HS : Hid (w.heap.size < (w.alloc (.cells #[Value.int .u64 0, .int .u64 0, .int .u64 0, .int .u64 0, .int .u64 0, .int .u64 0, .int .u64 0, .int .u64 0] 24)).heap.size) := by show _ < _; simp
  by_cases h : belowOk x = true
  · have HE : Hid (belowE x = 0) := by show _ = _; unfold belowE; rw [if_pos h]
    have HF : Hid (belowS x = loS x.toNat) := by show _ = _; unfold belowS; rw [if_pos h]
    simp only [belowOk, Bool.and_eq_true, decide_eq_true_eq] at h
    obtain ⟨h0, h1⟩ := h
    obtain ⟨n, hn⟩ : ∃ n : Nat, x = n := ⟨x.toNat, by omega⟩
    subst hn
    rw [Int.toNat_natCast] at HF
    have hn2 : n ≤ 512 := by omega
    clear h0 h1
    go_enter Try.func14, Try.ntmps14
    go_wp2_with fail
    generalize w.alloc (.cells #[Value.int .u64 0, .int .u64 0, .int .u64 0, .int .u64 0, .int .u64 0, .int .u64 0, .int .u64 0, .int .u64 0] 24) = W at *
    have hbs := HS.out
    go_loopw [4, 5] (fun v4 v5 wr => ∃ i : Nat, v5 = .int .i64 i ∧ i ≤ n ∧ Own (Ty.int .i64) 3 W.heap.size No wr (numsB (loS n) i) v4 ∧ Ext W wr) (fun _ v5 _ => n - (intOf v5).toNat)
    case atStart => exact ⟨0, rfl, by omega, Own.nil _ _ _ _ _, Ext.refl _⟩
    case round =>
      obtain ⟨i, rfl, hi, ho, he⟩ := hrel
      obtain ⟨A5, c5, rfl, h51, h52⟩ := ho.shape
      by_cases hlt : i < n
      · have hln := numsB_len (loS n) i
        have HL := Lib.hid (numsB_pos (p := loS n) (n := i) (by simp [loS]; omega))
        generalize numsB (loS n) i = L at *
        go_wp2_with (first | ((with_reducible refine gate_bi .append #[.tmp 18, .tmp 20] ?_); refine wp_append (t := Ty.int .i64) 3 W.heap.size 8 elInt No _ L rfl (ho.ext (by (repeat (first | assumption | exact Ext.refl _ | apply Ext.alloc | apply Ext.drew | apply Ext.drewN | refine Ext.trans ?_ (by assumption))))) _ [(i : Int)] rfl Any (SlP.one _ _ (fun _ _ => rfl)) (fun _ _ h => h) (by simp; omega) (by decide) (by have hle__ := he.le; simp; omega) ?_; intro v6 w6 ho6 hg6 _; have hx6 := Ext.grown (by (repeat (first | assumption | exact Ext.refl _ | apply Ext.alloc | apply Ext.drew | apply Ext.drewN | refine Ext.trans ?_ (by assumption))) : Ext W _) hg6 ho.lo))
        go_roundw
        case rel => exact ⟨i + 1, by go_num, by omega, by rw [HL.out]; exact ho6, hx6⟩
        case measure => simp [intOf]; omega
      · have hi' : i = n := by omega
        subst hi'
        have HO := Lib.hid (ofE_nums (p := loS i) hn2)
        have HW : Hid (ofS (numsB (loS i) i) = loS i) := by
          show _ = _
          rw [ofS_nums hn2]
          funext k
          simp [loS]
        go_wp2_with ((go_at_call 27; (with_reducible refine (rOf_calls _ _ _ ho.rd).mono ?_); rintro e w2 ⟨rfl, h2⟩); rw [HO.out, HW.out]; (replace HZ := Lib.hid (HZ.out.ext (he.trans h2) HS.out)); (replace HX := Lib.hid (HX.out.trans (he.trans h2))); clear h2; have H__ := (HZ).out; obtain ⟨ce0, fe0⟩ := H__ 0 (by omega); obtain ⟨ce1, fe1⟩ := H__ 1 (by omega); obtain ⟨ce2, fe2⟩ := H__ 2 (by omega); obtain ⟨ce3, fe3⟩ := H__ 3 (by omega); obtain ⟨ce4, fe4⟩ := H__ 4 (by omega); obtain ⟨ce5, fe5⟩ := H__ 5 (by omega); obtain ⟨ce6, fe6⟩ := H__ 6 (by omega); obtain ⟨ce7, fe7⟩ := H__ 7 (by omega); clear H__)
        have HEX : Hid (Ext w ((((((((w2.setCell ⟨w.heap.size, 0, none⟩ (.int .u64 (wd (loS i) 0 : Nat))).setCell ⟨w.heap.size, 1, none⟩ (.int .u64 (wd (loS i) 1 : Nat))).setCell ⟨w.heap.size, 2, none⟩ (.int .u64 (wd (loS i) 2 : Nat))).setCell ⟨w.heap.size, 3, none⟩ (.int .u64 (wd (loS i) 3 : Nat))).setCell ⟨w.heap.size, 4, none⟩ (.int .u64 (wd (loS i) 4 : Nat))).setCell ⟨w.heap.size, 5, none⟩ (.int .u64 (wd (loS i) 5 : Nat))).setCell ⟨w.heap.size, 6, none⟩ (.int .u64 (wd (loS i) 6 : Nat))).setCell ⟨w.heap.size, 7, none⟩ (.int .u64 (wd (loS i) 7 : Nat)))) := ((((((((HX.out.set (by first | exact Nat.le_refl _ | exact Nat.le_succ _ | exact Nat.le_add_right _ _ | omega) _).set (by first | exact Nat.le_refl _ | exact Nat.le_succ _ | exact Nat.le_add_right _ _ | omega) _).set (by first | exact Nat.le_refl _ | exact Nat.le_succ _ | exact Nat.le_add_right _ _ | omega) _).set (by first | exact Nat.le_refl _ | exact Nat.le_succ _ | exact Nat.le_add_right _ _ | omega) _).set (by first | exact Nat.le_refl _ | exact Nat.le_succ _ | exact Nat.le_add_right _ _ | omega) _).set (by first | exact Nat.le_refl _ | exact Nat.le_succ _ | exact Nat.le_add_right _ _ | omega) _).set (by first | exact Nat.le_refl _ | exact Nat.le_succ _ | exact Nat.le_add_right _ _ | omega) _).set (by first | exact Nat.le_refl _ | exact Nat.le_succ _ | exact Nat.le_add_right _ _ | omega) _)
        exact bodyPost_ret (v := .tuple #[Value.agg #[.int .u64 (wd (loS i) 0 : Nat), .int .u64 (wd (loS i) 1 : Nat), .int .u64 (wd (loS i) 2 : Nat), .int .u64 (wd (loS i) 3 : Nat), .int .u64 (wd (loS i) 4 : Nat), .int .u64 (wd (loS i) 5 : Nat), .int .u64 (wd (loS i) 6 : Nat), .int .u64 (wd (loS i) 7 : Nat)], .int .i64 0]) (by simp [results, Try.results14, go_sem, *]) rfl ⟨by rw [HF.out, HE.out], HEX⟩
  · have HE : Hid (belowE x = 11) := by show _ = _; unfold belowE; rw [if_neg h]
    have HF : Hid (belowS x = fun _ => false) := by show _ = _; unfold belowS; rw [if_neg h]
    have hx : x < 0 ∨ (decide (x < 0) = false ∧ 512 < x) := by simp [belowOk] at h ⊢; omega
    clear h
    rcases hx with hx | ⟨hx0, hx⟩
    all_goals
      go_enter Try.func14, Try.ntmps14
      go_wp2_with fail
      exact bodyPost_ret (v := .tuple #[Value.agg #[.int .u64 0, .int .u64 0, .int .u64 0, .int .u64 0, .int .u64 0, .int .u64 0, .int .u64 0, .int .u64 0], .int .i64 11]) (by simp [results, Try.results14, go_sem, *]) rfl ⟨by rw [HF.out, HE.out]; simp [wd_none], by (repeat (first | assumption | exact Ext.refl _ | apply Ext.alloc | apply Ext.drew | apply Ext.drewN | refine Ext.set ?_ (by first | exact Nat.le_refl _ | exact Nat.le_succ _ | exact Nat.le_add_right _ _ | omega) _ | refine Ext.trans ?_ (by assumption)))⟩

/-- All of a stand in b. -/
def subB (p q : Nat → Bool) : Nat → Bool
  | 0 => true
  | n + 1 => subB p q n && (!p n || q n)
theorem subB_no {p q : Nat → Bool} : ∀ {n i : Nat}, i < n → p i = true → q i = false → subB p q n = false
  | n + 1, i, h, hp, hq => by
    unfold subB
    by_cases e : i = n
    · subst e; rw [hp, hq]; simp
    · rw [subB_no (by omega : i < n) hp hq]; rfl
set_option maxHeartbeats 2000000 in
set_option maxRecDepth 100000 in
theorem rSubset_calls (p q : Nat → Bool) (w : World) : Calls Try.prog 22 #[Value.agg #[.int .u64 (wd (p) 0 : Nat), .int .u64 (wd (p) 1 : Nat), .int .u64 (wd (p) 2 : Nat), .int .u64 (wd (p) 3 : Nat), .int .u64 (wd (p) 4 : Nat), .int .u64 (wd (p) 5 : Nat), .int .u64 (wd (p) 6 : Nat), .int .u64 (wd (p) 7 : Nat)], Value.agg #[.int .u64 (wd (q) 0 : Nat), .int .u64 (wd (q) 1 : Nat), .int .u64 (wd (q) 2 : Nat), .int .u64 (wd (q) 3 : Nat), .int .u64 (wd (q) 4 : Nat), .int .u64 (wd (q) 5 : Nat), .int .u64 (wd (q) 6 : Nat), .int .u64 (wd (q) 7 : Nat)]] w fun e w' => e = .returned (.bool (subB p q 512)) ∧ Ext w w' := by
  have HB : Hid (Arr ((w.alloc (.cells #[Value.int .u64 (wd (p) 0 : Nat), .int .u64 (wd (p) 1 : Nat), .int .u64 (wd (p) 2 : Nat), .int .u64 (wd (p) 3 : Nat), .int .u64 (wd (p) 4 : Nat), .int .u64 (wd (p) 5 : Nat), .int .u64 (wd (p) 6 : Nat), .int .u64 (wd (p) 7 : Nat)] 24)).alloc (.cells #[Value.int .u64 (wd (q) 0 : Nat), .int .u64 (wd (q) 1 : Nat), .int .u64 (wd (q) 2 : Nat), .int .u64 (wd (q) 3 : Nat), .int .u64 (wd (q) 4 : Nat), .int .u64 (wd (q) 5 : Nat), .int .u64 (wd (q) 6 : Nat), .int .u64 (wd (q) 7 : Nat)] 24)) w.heap.size p) := Lib.hid ((Arr.made p rfl).old (by simp))
  have HC : Hid (Arr ((w.alloc (.cells #[Value.int .u64 (wd (p) 0 : Nat), .int .u64 (wd (p) 1 : Nat), .int .u64 (wd (p) 2 : Nat), .int .u64 (wd (p) 3 : Nat), .int .u64 (wd (p) 4 : Nat), .int .u64 (wd (p) 5 : Nat), .int .u64 (wd (p) 6 : Nat), .int .u64 (wd (p) 7 : Nat)] 24)).alloc (.cells #[Value.int .u64 (wd (q) 0 : Nat), .int .u64 (wd (q) 1 : Nat), .int .u64 (wd (q) 2 : Nat), .int .u64 (wd (q) 3 : Nat), .int .u64 (wd (q) 4 : Nat), .int .u64 (wd (q) 5 : Nat), .int .u64 (wd (q) 6 : Nat), .int .u64 (wd (q) 7 : Nat)] 24)) (w.heap.size + 1) q) := Lib.hid (Arr.made q (by simp))
  have HX : Hid (Ext w ((w.alloc (.cells #[Value.int .u64 (wd (p) 0 : Nat), .int .u64 (wd (p) 1 : Nat), .int .u64 (wd (p) 2 : Nat), .int .u64 (wd (p) 3 : Nat), .int .u64 (wd (p) 4 : Nat), .int .u64 (wd (p) 5 : Nat), .int .u64 (wd (p) 6 : Nat), .int .u64 (wd (p) 7 : Nat)] 24)).alloc (.cells #[Value.int .u64 (wd (q) 0 : Nat), .int .u64 (wd (q) 1 : Nat), .int .u64 (wd (q) 2 : Nat), .int .u64 (wd (q) 3 : Nat), .int .u64 (wd (q) 4 : Nat), .int .u64 (wd (q) 5 : Nat), .int .u64 (wd (q) 6 : Nat), .int .u64 (wd (q) 7 : Nat)] 24))) := by show Ext _ _; (repeat (first | assumption | exact Ext.refl _ | apply Ext.alloc | apply Ext.drew | apply Ext.drewN | refine Ext.set ?_ (by first | exact Nat.le_refl _ | exact Nat.le_succ _ | exact Nat.le_add_right _ _ | omega) _ | refine Ext.trans ?_ (by assumption)))
  have HS : Hid (w.heap.size + 1 < (((w.alloc (.cells #[Value.int .u64 (wd (p) 0 : Nat), .int .u64 (wd (p) 1 : Nat), .int .u64 (wd (p) 2 : Nat), .int .u64 (wd (p) 3 : Nat), .int .u64 (wd (p) 4 : Nat), .int .u64 (wd (p) 5 : Nat), .int .u64 (wd (p) 6 : Nat), .int .u64 (wd (p) 7 : Nat)] 24)).alloc (.cells #[Value.int .u64 (wd (q) 0 : Nat), .int .u64 (wd (q) 1 : Nat), .int .u64 (wd (q) 2 : Nat), .int .u64 (wd (q) 3 : Nat), .int .u64 (wd (q) 4 : Nat), .int .u64 (wd (q) 5 : Nat), .int .u64 (wd (q) 6 : Nat), .int .u64 (wd (q) 7 : Nat)] 24))).heap.size) := by show _ < _; simp
  go_enter Try.func22, Try.ntmps22
  go_wp2_with fail
  generalize ((w.alloc (.cells #[Value.int .u64 (wd (p) 0 : Nat), .int .u64 (wd (p) 1 : Nat), .int .u64 (wd (p) 2 : Nat), .int .u64 (wd (p) 3 : Nat), .int .u64 (wd (p) 4 : Nat), .int .u64 (wd (p) 5 : Nat), .int .u64 (wd (p) 6 : Nat), .int .u64 (wd (p) 7 : Nat)] 24)).alloc (.cells #[Value.int .u64 (wd (q) 0 : Nat), .int .u64 (wd (q) 1 : Nat), .int .u64 (wd (q) 2 : Nat), .int .u64 (wd (q) 3 : Nat), .int .u64 (wd (q) 4 : Nat), .int .u64 (wd (q) 5 : Nat), .int .u64 (wd (q) 6 : Nat), .int .u64 (wd (q) 7 : Nat)] 24)) = W at *
  have hbs := HS.out
  go_loopw [5] (fun v5 wr => ∃ i : Nat, v5 = .int .i64 i ∧ i ≤ 512 ∧ Hid (subB p q i = true) ∧ Ext W wr) (fun v5 _ => 512 - (intOf v5).toNat)
  case atStart => exact ⟨0, rfl, by omega, rfl, Ext.refl _⟩
  case round =>
    obtain ⟨i, rfl, hi, HT, he⟩ := hrel
    by_cases hlt : i < 512
    · have HB1 := Lib.hid (HB.out.ext he (by omega))
      have HC1 := Lib.hid (HC.out.ext he (by omega))
      have H__ := (HB1).out; obtain ⟨ce0, fe0⟩ := H__ 0 (by omega); obtain ⟨ce1, fe1⟩ := H__ 1 (by omega); obtain ⟨ce2, fe2⟩ := H__ 2 (by omega); obtain ⟨ce3, fe3⟩ := H__ 3 (by omega); obtain ⟨ce4, fe4⟩ := H__ 4 (by omega); obtain ⟨ce5, fe5⟩ := H__ 5 (by omega); obtain ⟨ce6, fe6⟩ := H__ 6 (by omega); obtain ⟨ce7, fe7⟩ := H__ 7 (by omega); clear H__
      have H__ := (HC1).out; obtain ⟨de0, ge0⟩ := H__ 0 (by omega); obtain ⟨de1, ge1⟩ := H__ 1 (by omega); obtain ⟨de2, ge2⟩ := H__ 2 (by omega); obtain ⟨de3, ge3⟩ := H__ 3 (by omega); obtain ⟨de4, ge4⟩ := H__ 4 (by omega); obtain ⟨de5, ge5⟩ := H__ 5 (by omega); obtain ⟨de6, ge6⟩ := H__ 6 (by omega); obtain ⟨de7, ge7⟩ := H__ 7 (by omega); clear H__
      have hwr1 : w.heap.size + 1 < wr.heap.size := Nat.lt_of_lt_of_le (by omega) he.le
      have hI : Hid (inSet p i = p i) := by show _ = _; simp [inSet]; omega
      have hJ : Hid (inSet q i = q i) := by show _ = _; simp [inSet]; omega
      have HQ : Hid (∀ b, (!p i || q i) = b → subB p q (i + 1) = b) := by
        intro b hb
        unfold subB
        rw [HT.out, hb]; rfl
      have HN : Hid (p i = true → q i = false → subB p q 512 = false) := fun h1 h2 => subB_no hlt h1 h2
      generalize p i = a at *
      generalize q i = b at *
      replace HQ := Lib.hid (HQ.out _ rfl)
      clear HT
      cases a
      · go_wp2_with (first | ((go_at_call 26; (with_reducible refine (rHas_calls p _ _).mono ?_); rintro e w2 ⟨rfl, h2⟩); rw [hI.out]))
        go_roundw
        case rel => exact ⟨i + 1, by go_num, by omega, HQ, by (repeat (first | assumption | exact Ext.refl _ | apply Ext.alloc | apply Ext.drew | apply Ext.drewN | refine Ext.trans ?_ (by assumption)))⟩
        case measure => simp [intOf]; omega
      · cases b
        · have HN' := Lib.hid (HN.out rfl rfl)
          go_wp2_with (first | ((go_at_call 26; (with_reducible refine (rHas_calls p _ _).mono ?_); rintro e w2 ⟨rfl, h2⟩); rw [hI.out]; have : w.heap.size + 1 < w2.heap.size := Nat.lt_of_lt_of_le (by first | assumption | (simp; done) | (simp; omega)) (h2).le; have := h2.cells) | ((go_at_call 26; (with_reducible refine (rHas_calls q _ _).mono ?_); rintro e w3 ⟨rfl, h3⟩); rw [hJ.out]))
          go_ret
          exact ⟨ret_bool HN'.out.symm, HX.out.trans (by (repeat (first | assumption | exact Ext.refl _ | apply Ext.alloc | apply Ext.drew | apply Ext.drewN | refine Ext.trans ?_ (by assumption))))⟩
        · go_wp2_with (first | ((go_at_call 26; (with_reducible refine (rHas_calls p _ _).mono ?_); rintro e w2 ⟨rfl, h2⟩); rw [hI.out]; have : w.heap.size + 1 < w2.heap.size := Nat.lt_of_lt_of_le (by first | assumption | (simp; done) | (simp; omega)) (h2).le; have := h2.cells) | ((go_at_call 26; (with_reducible refine (rHas_calls q _ _).mono ?_); rintro e w3 ⟨rfl, h3⟩); rw [hJ.out]))
          go_roundw
          case rel => exact ⟨i + 1, by go_num, by omega, HQ, by (repeat (first | assumption | exact Ext.refl _ | apply Ext.alloc | apply Ext.drew | apply Ext.drewN | refine Ext.trans ?_ (by assumption)))⟩
          case measure => simp [intOf]; omega
    · have hi' : i = 512 := by omega
      subst hi'
      go_wp2_with fail
      go_ret
      exact ⟨ret_bool HT.out.symm, HX.out.trans he⟩
set_option maxHeartbeats 2000000 in
set_option maxRecDepth 100000 in
theorem rCompare_calls (p q : Nat → Bool) (w : World) : Calls Try.prog 24 #[Value.agg #[.int .u64 (wd (p) 0 : Nat), .int .u64 (wd (p) 1 : Nat), .int .u64 (wd (p) 2 : Nat), .int .u64 (wd (p) 3 : Nat), .int .u64 (wd (p) 4 : Nat), .int .u64 (wd (p) 5 : Nat), .int .u64 (wd (p) 6 : Nat), .int .u64 (wd (p) 7 : Nat)], Value.agg #[.int .u64 (wd (q) 0 : Nat), .int .u64 (wd (q) 1 : Nat), .int .u64 (wd (q) 2 : Nat), .int .u64 (wd (q) 3 : Nat), .int .u64 (wd (q) 4 : Nat), .int .u64 (wd (q) 5 : Nat), .int .u64 (wd (q) 6 : Nat), .int .u64 (wd (q) 7 : Nat)]] w fun e w' => e = .returned (.int .i64 (cmpN p q 512)) ∧ Ext w w' := by
  have HB : Hid (Arr ((w.alloc (.cells #[Value.int .u64 (wd (p) 0 : Nat), .int .u64 (wd (p) 1 : Nat), .int .u64 (wd (p) 2 : Nat), .int .u64 (wd (p) 3 : Nat), .int .u64 (wd (p) 4 : Nat), .int .u64 (wd (p) 5 : Nat), .int .u64 (wd (p) 6 : Nat), .int .u64 (wd (p) 7 : Nat)] 24)).alloc (.cells #[Value.int .u64 (wd (q) 0 : Nat), .int .u64 (wd (q) 1 : Nat), .int .u64 (wd (q) 2 : Nat), .int .u64 (wd (q) 3 : Nat), .int .u64 (wd (q) 4 : Nat), .int .u64 (wd (q) 5 : Nat), .int .u64 (wd (q) 6 : Nat), .int .u64 (wd (q) 7 : Nat)] 24)) w.heap.size p) := Lib.hid ((Arr.made p rfl).old (by simp))
  have HC : Hid (Arr ((w.alloc (.cells #[Value.int .u64 (wd (p) 0 : Nat), .int .u64 (wd (p) 1 : Nat), .int .u64 (wd (p) 2 : Nat), .int .u64 (wd (p) 3 : Nat), .int .u64 (wd (p) 4 : Nat), .int .u64 (wd (p) 5 : Nat), .int .u64 (wd (p) 6 : Nat), .int .u64 (wd (p) 7 : Nat)] 24)).alloc (.cells #[Value.int .u64 (wd (q) 0 : Nat), .int .u64 (wd (q) 1 : Nat), .int .u64 (wd (q) 2 : Nat), .int .u64 (wd (q) 3 : Nat), .int .u64 (wd (q) 4 : Nat), .int .u64 (wd (q) 5 : Nat), .int .u64 (wd (q) 6 : Nat), .int .u64 (wd (q) 7 : Nat)] 24)) (w.heap.size + 1) q) := Lib.hid (Arr.made q (by simp))
  have HX : Hid (Ext w ((w.alloc (.cells #[Value.int .u64 (wd (p) 0 : Nat), .int .u64 (wd (p) 1 : Nat), .int .u64 (wd (p) 2 : Nat), .int .u64 (wd (p) 3 : Nat), .int .u64 (wd (p) 4 : Nat), .int .u64 (wd (p) 5 : Nat), .int .u64 (wd (p) 6 : Nat), .int .u64 (wd (p) 7 : Nat)] 24)).alloc (.cells #[Value.int .u64 (wd (q) 0 : Nat), .int .u64 (wd (q) 1 : Nat), .int .u64 (wd (q) 2 : Nat), .int .u64 (wd (q) 3 : Nat), .int .u64 (wd (q) 4 : Nat), .int .u64 (wd (q) 5 : Nat), .int .u64 (wd (q) 6 : Nat), .int .u64 (wd (q) 7 : Nat)] 24))) := by show Ext _ _; (repeat (first | assumption | exact Ext.refl _ | apply Ext.alloc | apply Ext.drew | apply Ext.drewN | refine Ext.set ?_ (by first | exact Nat.le_refl _ | exact Nat.le_succ _ | exact Nat.le_add_right _ _ | omega) _ | refine Ext.trans ?_ (by assumption)))
  have HS : Hid (w.heap.size + 1 < (((w.alloc (.cells #[Value.int .u64 (wd (p) 0 : Nat), .int .u64 (wd (p) 1 : Nat), .int .u64 (wd (p) 2 : Nat), .int .u64 (wd (p) 3 : Nat), .int .u64 (wd (p) 4 : Nat), .int .u64 (wd (p) 5 : Nat), .int .u64 (wd (p) 6 : Nat), .int .u64 (wd (p) 7 : Nat)] 24)).alloc (.cells #[Value.int .u64 (wd (q) 0 : Nat), .int .u64 (wd (q) 1 : Nat), .int .u64 (wd (q) 2 : Nat), .int .u64 (wd (q) 3 : Nat), .int .u64 (wd (q) 4 : Nat), .int .u64 (wd (q) 5 : Nat), .int .u64 (wd (q) 6 : Nat), .int .u64 (wd (q) 7 : Nat)] 24))).heap.size) := by show _ < _; simp
  obtain ⟨C, hC⟩ : ∃ C, C = cmpN p q 512 := ⟨_, rfl⟩
  have HCC := Lib.hid hC
  rw [← hC]
  clear hC
  go_enter Try.func24, Try.ntmps24
  go_wp2_with fail
  generalize ((w.alloc (.cells #[Value.int .u64 (wd (p) 0 : Nat), .int .u64 (wd (p) 1 : Nat), .int .u64 (wd (p) 2 : Nat), .int .u64 (wd (p) 3 : Nat), .int .u64 (wd (p) 4 : Nat), .int .u64 (wd (p) 5 : Nat), .int .u64 (wd (p) 6 : Nat), .int .u64 (wd (p) 7 : Nat)] 24)).alloc (.cells #[Value.int .u64 (wd (q) 0 : Nat), .int .u64 (wd (q) 1 : Nat), .int .u64 (wd (q) 2 : Nat), .int .u64 (wd (q) 3 : Nat), .int .u64 (wd (q) 4 : Nat), .int .u64 (wd (q) 5 : Nat), .int .u64 (wd (q) 6 : Nat), .int .u64 (wd (q) 7 : Nat)] 24)) = W at *
  have hbs := HS.out
  go_loopw [5] (fun v5 wr => ∃ i : Nat, v5 = .int .i64 ((i : Int) - 1) ∧ i ≤ 512 ∧ Hid (C = cmpN p q i) ∧ Ext W wr) (fun v5 _ => (intOf v5 + 1).toNat)
  case atStart => exact ⟨512, rfl, by omega, HCC, Ext.refl _⟩
  case round =>
    obtain ⟨k, rfl, hi, HT, he⟩ := hrel
    by_cases hlt : 0 < k
    · obtain ⟨i, rfl⟩ : ∃ i, k = i + 1 := ⟨k - 1, by omega⟩
      rw [show (((i + 1 : Nat) : Int) - 1) = (i : Int) by omega]
      have HB1 := Lib.hid (HB.out.ext he (by omega))
      have HC1 := Lib.hid (HC.out.ext he (by omega))
      have H__ := (HB1).out; obtain ⟨ce0, fe0⟩ := H__ 0 (by omega); obtain ⟨ce1, fe1⟩ := H__ 1 (by omega); obtain ⟨ce2, fe2⟩ := H__ 2 (by omega); obtain ⟨ce3, fe3⟩ := H__ 3 (by omega); obtain ⟨ce4, fe4⟩ := H__ 4 (by omega); obtain ⟨ce5, fe5⟩ := H__ 5 (by omega); obtain ⟨ce6, fe6⟩ := H__ 6 (by omega); obtain ⟨ce7, fe7⟩ := H__ 7 (by omega); clear H__
      have H__ := (HC1).out; obtain ⟨de0, ge0⟩ := H__ 0 (by omega); obtain ⟨de1, ge1⟩ := H__ 1 (by omega); obtain ⟨de2, ge2⟩ := H__ 2 (by omega); obtain ⟨de3, ge3⟩ := H__ 3 (by omega); obtain ⟨de4, ge4⟩ := H__ 4 (by omega); obtain ⟨de5, ge5⟩ := H__ 5 (by omega); obtain ⟨de6, ge6⟩ := H__ 6 (by omega); obtain ⟨de7, ge7⟩ := H__ 7 (by omega); clear H__
      have hwr1 : w.heap.size + 1 < wr.heap.size := Nat.lt_of_lt_of_le (by omega) he.le
      have hI : Hid (inSet p i = p i) := by show _ = _; simp [inSet]; omega
      have hJ : Hid (inSet q i = q i) := by show _ = _; simp [inSet]; omega
      replace HT : Hid (C = if p i = q i then cmpN p q i else if p i = true then 1 else -1) := HT
      clear HCC
      have h1 : wr.heap.size ≤ wr.heap.size := Nat.le_refl _
      have hle := he.le
      generalize p i = a at *
      generalize q i = b at *
      cases a <;> cases b
      all_goals
        have HT2 := Lib.hid HT.out
        simp at HT2
        clear HT
        go_wp2_with (first | ((go_at_call 26; (with_reducible refine (rHas_calls p _ _).mono ?_); rintro e w2 ⟨rfl, h2⟩); rw [hI.out]; have : w.heap.size + 1 < w2.heap.size := Nat.lt_of_lt_of_le (by first | assumption | (simp; done) | (simp; omega)) (h2).le; have := h2.cells) | ((go_at_call 26; (with_reducible refine (rHas_calls q _ _).mono ?_); rintro e w3 ⟨rfl, h3⟩); rw [hJ.out]))
        first
          | (go_ret; exact ⟨ret_int HT2.out.symm, HX.out.trans (by (repeat (first | assumption | exact Ext.refl _ | apply Ext.alloc | apply Ext.drew | apply Ext.drewN | refine Ext.trans ?_ (by assumption))))⟩)
          | (go_roundw
             case rel => exact ⟨i, val_int (by omega), by omega, HT2, by (repeat (first | assumption | exact Ext.refl _ | apply Ext.alloc | apply Ext.drew | apply Ext.drewN | refine Ext.trans ?_ (by assumption)))⟩
             case measure => simp [intOf] <;> omega)
    · have hk : k = 0 := by omega
      subst hk
      go_wp2_with fail
      go_ret
      exact ⟨ret_int HT.out.symm, HX.out.trans he⟩
end Go.Proofs.Ytbmnjnmpjpdcmaa
