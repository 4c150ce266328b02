/- The statements TreeOrders and TreeChecks: their walks. Conditions: what slices read as. -/
import Derived.Test.YtkjedeofjkdlaaaKnowsC
import Derived.Test.YtkjedeofjkdlaaaKeepB
import Derived.Test.YtkjedeofjkdlaaaRefC
import Derived.Test.YtkjedeofjkdlaaaRowLib
namespace Go.Proofs.Ytkjedeofjkdlaaa
open Go.RowKit Go.Eg

set_option maxHeartbeats 1000000 in
set_option maxRecDepth 100000 in
theorem TreeOrders_calls (a b : List Nd) (w : World) (va : Value) (ha : Rd tyNd w a va) (la : a.length * 16 ≤ 140737488351232) (vb : Value) (hb : Rd tyNd w b vb) (lb : b.length * 16 ≤ 140737488351232) :
    Calls Try.prog 6 #[va, vb] w fun r w' => r = .returned (.bool true) ∧ Ext w w' := by
  go_enter Try.func6, Try.ntmps6
  go_wp2_with (first | ((go_at_call 11; (with_reducible refine (lentNodes_calls a _ _ (ha.ext (by (repeat (first | assumption | exact Ext.refl _ | apply Ext.alloc | apply Ext.drew | apply Ext.drewN | refine Ext.trans ?_ (by assumption))))) la).mono ?_); rintro e w1 ⟨g1, c1, rfl, hs1, h1⟩)) | ((go_at_call 11; (with_reducible refine (lentNodes_calls b _ _ (hb.ext (by (repeat (first | assumption | exact Ext.refl _ | apply Ext.alloc | apply Ext.drew | apply Ext.drewN | refine Ext.trans ?_ (by assumption))))) lb).mono ?_); rintro e w2 ⟨g2, c2, rfl, hs2, h2⟩)))
  have hx2 : Ext w w2 := by (repeat (first | assumption | exact Ext.refl _ | apply Ext.alloc | apply Ext.drew | apply Ext.drewN | refine Ext.trans ?_ (by assumption)))
  replace hs1 := hs1.ext h2
  have hr1 := hs1.rd
  have hr2 := hs2.rd
  have hra := ha.ext hx2
  have hrb := hb.ext hx2
  clear ha hb
  go_wp2_with (first | ((go_at_call 24; (with_reducible refine (Compare_calls a b _ _ _ hr1 hr2).mono ?_); rintro e w3 ⟨rfl, h3⟩)) | ((go_at_call 25; (with_reducible refine (rCompare_calls a b _ _ _ (hra.ext (by (repeat (first | assumption | exact Ext.refl _ | apply Ext.alloc | apply Ext.drew | apply Ext.drewN | refine Ext.trans ?_ (by assumption))))) (hrb.ext (by (repeat (first | assumption | exact Ext.refl _ | apply Ext.alloc | apply Ext.drew | apply Ext.drewN | refine Ext.trans ?_ (by assumption)))))).mono ?_); rintro e w3 ⟨rfl, h3⟩)) | ((go_at_call 16; (with_reducible refine (stayNodes_calls a _ _ _ _ _ (hs1.ext (by (repeat (first | assumption | exact Ext.refl _ | apply Ext.alloc | apply Ext.drew | apply Ext.drewN | refine Ext.trans ?_ (by assumption))))) (hra.ext (by (repeat (first | assumption | exact Ext.refl _ | apply Ext.alloc | apply Ext.drew | apply Ext.drewN | refine Ext.trans ?_ (by assumption))))) la).mono ?_); rintro e w3 ⟨rfl, h3⟩)) | ((go_at_call 16; (with_reducible refine (stayNodes_calls b _ _ _ _ _ (hs2.ext (by (repeat (first | assumption | exact Ext.refl _ | apply Ext.alloc | apply Ext.drew | apply Ext.drewN | refine Ext.trans ?_ (by assumption))))) (hrb.ext (by (repeat (first | assumption | exact Ext.refl _ | apply Ext.alloc | apply Ext.drew | apply Ext.drewN | refine Ext.trans ?_ (by assumption))))) lb).mono ?_); rintro e w3 ⟨rfl, h3⟩)) | ((go_at_call 17; (with_reducible refine (knows_calls _).mono ?_); rintro e w3 ⟨rfl, h3⟩)))
  go_ret
  exact ⟨rfl, by (repeat (first | assumption | exact Ext.refl _ | apply Ext.alloc | apply Ext.drew | apply Ext.drewN | refine Ext.trans ?_ (by assumption)))⟩

set_option maxHeartbeats 1000000 in
set_option maxRecDepth 100000 in
theorem TreeChecks_calls (k : Int) (t : List Nd) (w : World) (_ : IntIn .i64 k) (vt : Value) (ht : Rd tyNd w t vt) (lt : t.length * 16 ≤ 140737488351232) :
    Calls Try.prog 8 #[.int .i64 k, vt] w fun r w' => r = .returned (.bool true) ∧ Ext w w' := by
  go_enter Try.func8, Try.ntmps8
  go_wp2_with (first | ((go_at_call 11; (with_reducible refine (lentNodes_calls t _ _ (ht.ext (by (repeat (first | assumption | exact Ext.refl _ | apply Ext.alloc | apply Ext.drew | apply Ext.drewN | refine Ext.trans ?_ (by assumption))))) lt).mono ?_); rintro e w1 ⟨g1, c1, rfl, hs1, h1⟩); have hr1 := hs1.rd; have hrt := ht.ext h1) | ((go_at_call 26; (with_reducible refine (Check_calls k t _ _ (hr1.ext (by (repeat (first | assumption | exact Ext.refl _ | apply Ext.alloc | apply Ext.drew | apply Ext.drewN | refine Ext.trans ?_ (by assumption)))))).mono ?_); rintro e w3 ⟨rfl, h3⟩)) | ((go_at_call 23; (with_reducible refine (Depth_calls t _ _ (hr1.ext (by (repeat (first | assumption | exact Ext.refl _ | apply Ext.alloc | apply Ext.drew | apply Ext.drewN | refine Ext.trans ?_ (by assumption)))))).mono ?_); rintro e w3 ⟨rfl, h3⟩)) | ((go_at_call 27; (with_reducible refine (Stars_calls t _ _ (hr1.ext (by (repeat (first | assumption | exact Ext.refl _ | apply Ext.alloc | apply Ext.drew | apply Ext.drewN | refine Ext.trans ?_ (by assumption)))))).mono ?_); rintro e w3 ⟨rfl, h3⟩)) | ((go_at_call 30; (with_reducible refine (rCheck_calls k t _ _ (hrt.ext (by (repeat (first | assumption | exact Ext.refl _ | apply Ext.alloc | apply Ext.drew | apply Ext.drewN | refine Ext.trans ?_ (by assumption)))))).mono ?_); rintro e w3 ⟨rfl, h3⟩)) | ((go_at_call 28; (with_reducible refine (rDepth_calls t _ _ (hrt.ext (by (repeat (first | assumption | exact Ext.refl _ | apply Ext.alloc | apply Ext.drew | apply Ext.drewN | refine Ext.trans ?_ (by assumption)))))).mono ?_); rintro e w3 ⟨rfl, h3⟩)) | ((go_at_call 29; (with_reducible refine (rStars_calls t _ _ (hrt.ext (by (repeat (first | assumption | exact Ext.refl _ | apply Ext.alloc | apply Ext.drew | apply Ext.drewN | refine Ext.trans ?_ (by assumption)))))).mono ?_); rintro e w3 ⟨rfl, h3⟩)) | ((go_at_call 16; (with_reducible refine (stayNodes_calls t _ _ _ _ _ (hs1.ext (by (repeat (first | assumption | exact Ext.refl _ | apply Ext.alloc | apply Ext.drew | apply Ext.drewN | refine Ext.trans ?_ (by assumption))))) (hrt.ext (by (repeat (first | assumption | exact Ext.refl _ | apply Ext.alloc | apply Ext.drew | apply Ext.drewN | refine Ext.trans ?_ (by assumption))))) lt).mono ?_); rintro e w3 ⟨rfl, h3⟩)) | ((go_at_call 14; (with_reducible refine (num_calls _ _).mono ?_); rintro e w' ⟨rfl, hw⟩; obtain rfl := hw.symm)) | ((go_at_call 17; (with_reducible refine (knows_calls _).mono ?_); rintro e w3 ⟨rfl, h3⟩)))
  go_ret
  exact ⟨rfl, by (repeat (first | assumption | exact Ext.refl _ | apply Ext.alloc | apply Ext.drew | apply Ext.drewN | refine Ext.trans ?_ (by assumption)))⟩
end Go.Proofs.Ytkjedeofjkdlaaa
