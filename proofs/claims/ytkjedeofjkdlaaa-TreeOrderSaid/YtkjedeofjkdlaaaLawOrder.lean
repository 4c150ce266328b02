/- The statement TreeOrder: its walk. Conditions: what slices read as. -/
import Derived.Test.YtkjedeofjkdlaaaKnowsC
import Derived.Test.YtkjedeofjkdlaaaOrdM
namespace Go.Proofs.Ytkjedeofjkdlaaa
open Go.RowKit Go.Eg

theorem three {x : Int} (h : -1 ≤ x ∧ x ≤ 1) : x = -1 ∨ x = 0 ∨ x = 1 := by omega

set_option maxHeartbeats 1000000 in
set_option maxRecDepth 100000 in
theorem TreeOrder_calls (a b c : List Nd) (w : World) (va : Value) (ha : Rd tyNd w a va) (_ : a.length * 16 ≤ 140737488351232) (vb : Value) (hb : Rd tyNd w b vb) (_ : b.length * 16 ≤ 140737488351232) (vc : Value) (hc : Rd tyNd w c vc) (_ : c.length * 16 ≤ 140737488351232) :
    Calls Try.prog 7 #[va, vb, vc] w fun r w' => r = .returned (.bool true) ∧ Ext w w' := by
  have HA := Lib.hid (cmpF_self a)
  have HN := Lib.hid (cmpF_neg a b)
  have HT : Hid ((cmpF a b ≤ 0 → cmpF b c ≤ 0 → cmpF a c ≤ 0) ∧ (0 ≤ cmpF a b → 0 ≤ cmpF b c → 0 ≤ cmpF a c)) := by
    refine ⟨fun h h' => cmpF_trans h h', fun h h' => ?_⟩
    have := cmpF_trans (a := c) (b := b) (c := a) (by rw [cmpF_neg b c]; omega) (by rw [cmpF_neg a b]; omega)
    rw [cmpF_neg a c] at this
    omega
  have HD : Hid (decide (a = b) = (cmpF a b == 0)) := by
    show _ = _
    by_cases h : a = b
    · simp [h, cmpF_self]
    · rw [decide_eq_false h]; exact (beq_eq_false_iff_ne.2 (fun e => h ((cmpF_zero a b).1 e))).symm
  have hx := three (cmpF_range a b)
  have hy := three (cmpF_range b c)
  have hz := three (cmpF_range a c)
  generalize hxe : cmpF a b = x at *
  generalize hye : cmpF b c = y at *
  generalize hze : cmpF a c = z at *
  have HX := Lib.hid hxe
  have HY := Lib.hid hye
  have HZ := Lib.hid hze
  have hn1 : IntKind.i64.wrap (- -x) = x := by rw [Int.neg_neg]; exact IntWalk.i64_in _ (by omega)
  have hn2 : IntKind.i64.wrap x = x := IntWalk.i64_in _ (by omega)
  have HC := Lib.hid (And.intro hx (And.intro hy hz))
  clear hxe hye hze hx hy hz
  go_enter Try.func7, Try.ntmps7
  go_wp2_with (first | ((go_at_call 24; (with_reducible refine (Compare_calls a a _ _ _ (ha.ext (by (repeat (first | assumption | exact Ext.refl _ | apply Ext.alloc | apply Ext.drew | apply Ext.drewN | refine Ext.trans ?_ (by assumption))))) (ha.ext (by (repeat (first | assumption | exact Ext.refl _ | apply Ext.alloc | apply Ext.drew | apply Ext.drewN | refine Ext.trans ?_ (by assumption)))))).mono ?_); rintro e w1 ⟨rfl, h1⟩); rw [HA.out]) | ((go_at_call 24; (with_reducible refine (Compare_calls b a _ _ _ (hb.ext (by (repeat (first | assumption | exact Ext.refl _ | apply Ext.alloc | apply Ext.drew | apply Ext.drewN | refine Ext.trans ?_ (by assumption))))) (ha.ext (by (repeat (first | assumption | exact Ext.refl _ | apply Ext.alloc | apply Ext.drew | apply Ext.drewN | refine Ext.trans ?_ (by assumption)))))).mono ?_); rintro e w1 ⟨rfl, h1⟩); rw [HN.out]) | ((go_at_call 24; (with_reducible refine (Compare_calls a b _ _ _ (ha.ext (by (repeat (first | assumption | exact Ext.refl _ | apply Ext.alloc | apply Ext.drew | apply Ext.drewN | refine Ext.trans ?_ (by assumption))))) (hb.ext (by (repeat (first | assumption | exact Ext.refl _ | apply Ext.alloc | apply Ext.drew | apply Ext.drewN | refine Ext.trans ?_ (by assumption)))))).mono ?_); rintro e w1 ⟨rfl, h1⟩); rw [HX.out]) | ((go_at_call 24; (with_reducible refine (Compare_calls b c _ _ _ (hb.ext (by (repeat (first | assumption | exact Ext.refl _ | apply Ext.alloc | apply Ext.drew | apply Ext.drewN | refine Ext.trans ?_ (by assumption))))) (hc.ext (by (repeat (first | assumption | exact Ext.refl _ | apply Ext.alloc | apply Ext.drew | apply Ext.drewN | refine Ext.trans ?_ (by assumption)))))).mono ?_); rintro e w1 ⟨rfl, h1⟩); rw [HY.out]) | ((go_at_call 24; (with_reducible refine (Compare_calls a c _ _ _ (ha.ext (by (repeat (first | assumption | exact Ext.refl _ | apply Ext.alloc | apply Ext.drew | apply Ext.drewN | refine Ext.trans ?_ (by assumption))))) (hc.ext (by (repeat (first | assumption | exact Ext.refl _ | apply Ext.alloc | apply Ext.drew | apply Ext.drewN | refine Ext.trans ?_ (by assumption)))))).mono ?_); rintro e w1 ⟨rfl, h1⟩); rw [HZ.out]) | ((go_at_call 22; (with_reducible refine (sameNodes_calls a b _ _ _ (ha.ext (by (repeat (first | assumption | exact Ext.refl _ | apply Ext.alloc | apply Ext.drew | apply Ext.drewN | refine Ext.trans ?_ (by assumption))))) (hb.ext (by (repeat (first | assumption | exact Ext.refl _ | apply Ext.alloc | apply Ext.drew | apply Ext.drewN | refine Ext.trans ?_ (by assumption)))))).mono ?_); rintro e w1 ⟨rfl, h1⟩); rw [HD.out]) | ((go_at_call 17; (with_reducible refine (knows_calls _).mono ?_); rintro e w1 ⟨rfl, h1⟩)))
  all_goals
    go_ret
    obtain ⟨hx, hy, hz⟩ := HC.out
    obtain ⟨ht1, ht2⟩ := HT.out
    refine ⟨?_, by (repeat (first | assumption | exact Ext.refl _ | apply Ext.alloc | apply Ext.drew | apply Ext.drewN | refine Ext.trans ?_ (by assumption)))⟩
    clear HC HT HX HY HZ HN HA HD hn1 hn2
    first
      | rfl
      | (refine congrArg Ending.returned (congrArg Value.bool ?_); rcases hx with rfl | rfl | rfl <;> rcases hy with rfl | rfl | rfl <;> rcases hz with rfl | rfl | rfl <;> simp_all)
end Go.Proofs.Ytkjedeofjkdlaaa
