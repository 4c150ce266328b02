/- Walks of the statements' own helpers: SameTrees. Conditions: what slices read as. -/
import Derived.Test.YtkjedeofjkdlaaaKeepA
namespace Go.Proofs.Ytkjedeofjkdlaaa
open Go.RowKit Go.Eg

set_option maxHeartbeats 1000000 in
set_option maxRecDepth 100000 in
theorem sameTrees_calls (xss : List (List Nd)) (u v : Value) (w : World) (hx : Rd (Ty.slice tyNd) w xss u) (hy : Rd (Ty.slice tyNd) w xss v) :
    Calls Try.prog 15 #[u, v] w fun e w' => e = .returned (.bool true) ∧ Ext w w' := by
  obtain ⟨A, c, rfl, hlc, hcm⟩ := hx.shape
  obtain ⟨B, d, rfl, hld, hdm⟩ := hy.shape
  unfold maxLen at hcm hdm
  go_enter Try.func15, Try.ntmps15
  go_wp2_with fail
  go_loopw [5] (fun v5 wr => ∃ i : Nat, v5 = .int .i64 i ∧ i ≤ xss.length ∧ Ext w wr) (fun v5 _ => xss.length - (intOf v5).toNat)
  case atStart => exact ⟨0, rfl, by omega, by (repeat (first | assumption | exact Ext.refl _ | apply Ext.alloc | apply Ext.drew | apply Ext.drewN | refine Ext.trans ?_ (by assumption)))⟩
  case round =>
    obtain ⟨i, rfl, hi, he⟩ := hrel
    by_cases hlt : i < xss.length
    · obtain ⟨x, hxi⟩ : ∃ x, xss[i]? = some x := ⟨_, List.getElem?_eq_getElem hlt⟩
      obtain ⟨b, off, u1, rfl, hb, hc1, hu1⟩ := (hx.ext he).slices hxi
      obtain ⟨b', off', u2, rfl, hb', hc2, hu2⟩ := (hy.ext he).slices hxi
      clear hx hy hxi
      have hi0 : (0 : Int) ≤ (i : Int) := by omega
      have hi1 : (i : Int) < xss.length := by omega
      go_wp2_with fail
      go_region_held3 (fun w' => w'.cell? ⟨b, off + i, none⟩ = some u1 ∧ w'.cell? ⟨b', off' + i, none⟩ = some u2 ∧ Ext wr w') (exact ⟨by first | assumption | simp [*], by first | assumption | simp [*], by (repeat (first | assumption | exact Ext.refl _ | apply Ext.alloc | apply Ext.drew | apply Ext.drewN | refine Ext.trans ?_ (by assumption)))⟩) (first | ((go_at_call 22; (with_reducible refine (sameNodes_calls x x _ _ _ (hu1.ext (by (repeat (first | assumption | exact Ext.refl _ | apply Ext.alloc | apply Ext.drew | apply Ext.drewN | refine Ext.trans ?_ (by assumption))))) (hu2.ext (by (repeat (first | assumption | exact Ext.refl _ | apply Ext.alloc | apply Ext.drew | apply Ext.drewN | refine Ext.trans ?_ (by assumption)))))).mono ?_); rintro e w1 ⟨rfl, h1⟩); replace h1 := Ext.undrew h1; rw [decide_eq_true (rfl : x = x)]; have := (h1).cells; have := (h1).frozens; have : b < w1.heap.size := Nat.lt_of_lt_of_le (by first | assumption | (simp; done) | (simp; omega)) (h1).le; have : b' < w1.heap.size := Nat.lt_of_lt_of_le (by first | assumption | (simp; done) | (simp; omega)) (h1).le))
      go_wp2_with fail
      go_roundw
      case rel => exact ⟨i + 1, by go_num, by omega, by (repeat (first | assumption | exact Ext.refl _ | apply Ext.alloc | apply Ext.drew | apply Ext.drewN | refine Ext.trans ?_ (by assumption)))⟩
      case measure => simp [intOf]; omega
    · have hi' : i = xss.length := by omega
      subst hi'
      go_wp2_with fail
      go_ret
      exact ⟨rfl, by (repeat (first | assumption | exact Ext.refl _ | apply Ext.alloc | apply Ext.drew | apply Ext.drewN | refine Ext.trans ?_ (by assumption)))⟩
end Go.Proofs.Ytkjedeofjkdlaaa
