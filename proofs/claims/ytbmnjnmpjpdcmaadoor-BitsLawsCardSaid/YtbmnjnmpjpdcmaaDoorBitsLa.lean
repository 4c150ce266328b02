/- Walks of the reference of chapter 2: List; what the others answer. Conditions: none. -/
import Derived.Test.YtbmnjnmpjpdcmaaDoorListB
import Derived.Test.YtbmnjnmpjpdcmaaDoorCmpM
namespace Go.Proofs.YtbmnjnmpjpdcmaaDoor
open Go.RowKit Go.Eg

set_option maxHeartbeats 2000000 in
set_option maxRecDepth 100000 in
theorem rList_calls (p : Nat → Bool) (w : World) : Calls Tryd.prog 25 #[Value.agg #[.int .u64 (wd (p) 0 : Nat), .int .u64 (wd (p) 1 : Nat), .int .u64 (wd (p) 2 : Nat), .int .u64 (wd (p) 3 : Nat), .int .u64 (wd (p) 4 : Nat), .int .u64 (wd (p) 5 : Nat), .int .u64 (wd (p) 6 : Nat), .int .u64 (wd (p) 7 : Nat)]] w fun e w' => ∃ v, e = .returned v ∧ Own (Ty.int .i64) 3 w.heap.size No w' (numsB p 512) v ∧ Ext w w' := by
  have HB : Hid (Arr (w.alloc (.cells #[Value.int .u64 (wd (p) 0 : Nat), .int .u64 (wd (p) 1 : Nat), .int .u64 (wd (p) 2 : Nat), .int .u64 (wd (p) 3 : Nat), .int .u64 (wd (p) 4 : Nat), .int .u64 (wd (p) 5 : Nat), .int .u64 (wd (p) 6 : Nat), .int .u64 (wd (p) 7 : Nat)] 24)) w.heap.size p) := Lib.hid (Arr.made p rfl)
  have HX : Hid (Ext w (w.alloc (.cells #[Value.int .u64 (wd (p) 0 : Nat), .int .u64 (wd (p) 1 : Nat), .int .u64 (wd (p) 2 : Nat), .int .u64 (wd (p) 3 : Nat), .int .u64 (wd (p) 4 : Nat), .int .u64 (wd (p) 5 : Nat), .int .u64 (wd (p) 6 : Nat), .int .u64 (wd (p) 7 : Nat)] 24))) := by show Ext _ _; (repeat (first | assumption | exact Ext.refl _ | apply Ext.alloc | apply Ext.drew | apply Ext.drewN | refine Ext.set ?_ (by first | exact Nat.le_refl _ | assumption | exact Nat.le_succ _ | exact Nat.le_add_right _ _ | exact Nat.le_trans (Nat.le_succ _) (Nat.le_succ _) | omega) _ | refine Ext.trans ?_ (by assumption)))
  have HS : Hid (w.heap.size < ((w.alloc (.cells #[Value.int .u64 (wd (p) 0 : Nat), .int .u64 (wd (p) 1 : Nat), .int .u64 (wd (p) 2 : Nat), .int .u64 (wd (p) 3 : Nat), .int .u64 (wd (p) 4 : Nat), .int .u64 (wd (p) 5 : Nat), .int .u64 (wd (p) 6 : Nat), .int .u64 (wd (p) 7 : Nat)] 24))).heap.size) := by show _ < _; simp
  go_enter Tryd.func25, Tryd.ntmps25
  go_wp2_with fail
  generalize (w.alloc (.cells #[Value.int .u64 (wd (p) 0 : Nat), .int .u64 (wd (p) 1 : Nat), .int .u64 (wd (p) 2 : Nat), .int .u64 (wd (p) 3 : Nat), .int .u64 (wd (p) 4 : Nat), .int .u64 (wd (p) 5 : Nat), .int .u64 (wd (p) 6 : Nat), .int .u64 (wd (p) 7 : Nat)] 24)) = W at *
  have hbs := HS.out
  go_loopw [3, 4] (fun v3 v4 wr => ∃ i : Nat, v4 = .int .i64 i ∧ i ≤ 512 ∧ Own (Ty.int .i64) 3 W.heap.size No wr (numsB p i) v3 ∧ Ext W wr) (fun _ v4 _ => 512 - (intOf v4).toNat)
  case atStart => exact ⟨0, rfl, by omega, Own.nil _ _ _ _ _, Ext.refl _⟩
  case round =>
    obtain ⟨i, rfl, hi, ho, he⟩ := hrel
    by_cases hlt : i < 512
    · have HB1 := Lib.hid (HB.out.ext he hbs)
      obtain ⟨A5, c5, rfl, h51, h52⟩ := ho.shape
      have hln := numsB_len p i
      have H__ := (HB1).out; obtain ⟨ce0, fe0⟩ := H__ 0 (by omega); obtain ⟨ce1, fe1⟩ := H__ 1 (by omega); obtain ⟨ce2, fe2⟩ := H__ 2 (by omega); obtain ⟨ce3, fe3⟩ := H__ 3 (by omega); obtain ⟨ce4, fe4⟩ := H__ 4 (by omega); obtain ⟨ce5, fe5⟩ := H__ 5 (by omega); obtain ⟨ce6, fe6⟩ := H__ 6 (by omega); obtain ⟨ce7, fe7⟩ := H__ 7 (by omega); clear H__
      have hI : Hid (inSet p i = p i) := by show _ = _; simp [inSet]; omega
      cases hb : p i
      · have HL := Lib.hid (numsB_neg hb)
        rw [hb] at hI
        clear hb
        generalize numsB p i = L at *
        go_wp2_with (first | ((go_at_call 23; (with_reducible refine (rHas_calls p _ _).mono ?_); rintro e w2 ⟨rfl, h2⟩); rw [hI.out]))
        go_roundw
        case rel => exact ⟨i + 1, by go_num, by omega, by rw [HL.out]; exact ho.ext (by (repeat (first | assumption | exact Ext.refl _ | apply Ext.alloc | apply Ext.drew | apply Ext.drewN | refine Ext.trans ?_ (by assumption)))), by (repeat (first | assumption | exact Ext.refl _ | apply Ext.alloc | apply Ext.drew | apply Ext.drewN | refine Ext.trans ?_ (by assumption)))⟩
        case measure => simp [intOf]; omega
      · have HL := Lib.hid (numsB_pos hb)
        rw [hb] at hI
        clear hb
        generalize numsB p i = L at *
        go_wp2_with (first | ((go_at_call 23; (with_reducible refine (rHas_calls p _ _).mono ?_); rintro e w2 ⟨rfl, h2⟩); rw [hI.out]) | ((with_reducible refine gate_bi .append #[.tmp 12, .tmp 14] ?_); refine wp_append (t := Ty.int .i64) 3 W.heap.size 8 elInt No _ L rfl (ho.ext (by (repeat (first | assumption | exact Ext.refl _ | apply Ext.alloc | apply Ext.drew | apply Ext.drewN | refine Ext.trans ?_ (by assumption))))) _ [(i : Int)] rfl Any (SlP.one _ _ (fun _ _ => rfl)) (fun _ _ h => h) (by simp; omega) (by decide) (by have hle__ := he.le; have hle2__ := h2.le; simp; omega) ?_; intro v6 w6 ho6 hg6 _; have hx6 := Ext.grown (by (repeat (first | assumption | exact Ext.refl _ | apply Ext.alloc | apply Ext.drew | apply Ext.drewN | refine Ext.trans ?_ (by assumption))) : Ext W _) hg6 ho.lo))
        go_roundw
        case rel => exact ⟨i + 1, by go_num, by omega, by rw [HL.out]; exact ho6, hx6⟩
        case measure => simp [intOf]; omega
    · have hi' : i = 512 := by omega
      subst hi'
      obtain ⟨A5, c5, rfl, h51, h52⟩ := ho.shape
      go_wp2_with fail
      go_ret
      exact ⟨_, rfl, ho.rebase (fun k hk => Nat.le_trans HX.out.le (ho.lo k hk)), HX.out.trans he⟩

/-- The numbers below n. -/
def loS (n i : Nat) : Bool := decide (i < n)
def belowOk (x : Int) : Bool := decide (0 ≤ x) && decide (x ≤ 512)
def belowS (x : Int) : Nat → Bool := if belowOk x then loS x.toNat else fun _ => false
def belowE (x : Int) : Int := if belowOk x then 0 else 11
theorem lo_nums (n : Nat) : ∀ i, i ≤ n → numsB (loS n) i = numsB (fun _ => true) i
  | 0, _ => rfl
  | i + 1, h => by rw [numsB_pos (p := loS n) (by simp [loS]; omega), numsB_pos (p := fun _ => true) rfl, lo_nums n i (by omega)]
/-- All of a stand in b. -/
def subB (p q : Nat → Bool) : Nat → Bool
  | 0 => true
  | n + 1 => subB p q n && (!p n || q n)
theorem subB_no {p q : Nat → Bool} : ∀ {n i : Nat}, i < n → p i = true → q i = false → subB p q n = false
  | n + 1, i, h, hp, hq => by
    unfold subB
    by_cases e : i = n
    · subst e; rw [hp, hq]; simp
    · rw [subB_no (by omega : i < n) hp hq]; rfl
end Go.Proofs.YtbmnjnmpjpdcmaaDoor
