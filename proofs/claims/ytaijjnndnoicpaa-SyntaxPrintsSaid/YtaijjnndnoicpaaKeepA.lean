/- Walks of the statements' own helpers: SameNodes. Conditions: what slices read as. -/
import Derived.Test.YtaijjnndnoicpaaTreeB
import Derived.Deep.RegionHeld3
namespace Go.Proofs.Ytaijjnndnoicpaa
open Go.RowKit Go.Eg

theorem nth_ext {xs ys : List Nd} (hl : xs.length = ys.length) (h : ∀ j, j < xs.length → nth xs j = nth ys j) : xs = ys := by
  apply List.ext_getElem? 
  intro i
  by_cases hi : i < xs.length
  · rw [nth_get hi, nth_get (by omega), h i hi]
  · rw [List.getElem?_eq_none (by omega), List.getElem?_eq_none (by omega)]

set_option maxHeartbeats 1000000 in
set_option maxRecDepth 100000 in
theorem sameNodes_calls (xs ys : List Nd) (u v : Value) (w : World) (hx : Rd tyNd w xs u) (hy : Rd tyNd w ys v) :
    Calls Try.prog 11 #[u, v] w fun e w' => e = .returned (.bool (decide (xs = ys))) ∧ Ext w w' := by
  obtain ⟨A, c, rfl, hlc, hcm⟩ := hx.shape
  obtain ⟨B, d, rfl, hld, hdm⟩ := hy.shape
  unfold maxLen at hcm hdm
  by_cases hl : xs.length = ys.length
  · have hl' : ((xs.length : Int) != (ys.length : Int)) = false := by simp [hl]
    have HL := Lib.hid hl
    have hlt' : ∀ i : Nat, i < xs.length → i < ys.length := fun i hi => by omega
    clear hl
    go_enter Try.func11, Try.ntmps11
    go_wp2_with fail
    go_loopw [5] (fun v5 wr => ∃ i : Nat, v5 = .int .i64 i ∧ i ≤ xs.length ∧ Hid (∀ j, j < i → nth xs j = nth ys j) ∧ Ext w wr) (fun v5 _ => xs.length - (intOf v5).toNat)
    case atStart => exact ⟨0, rfl, by omega, Lib.hid (fun j hj => absurd hj (by omega)), by (repeat (first | assumption | exact Ext.refl _ | apply Ext.alloc | apply Ext.drew | apply Ext.drewN | refine Ext.trans ?_ (by assumption)))⟩
    case round =>
      obtain ⟨i, rfl, hi, HE, he⟩ := hrel
      by_cases hlt : i < xs.length
      · obtain ⟨b, off, rfl, hb, hc0, hc1⟩ := rd_node (hx.ext he) hlt
        have hlt2 := hlt' i hlt
        obtain ⟨b', off', rfl, hb', hd0, hd1⟩ := rd_node (hy.ext he) hlt2
        have HS : Hid (nth xs i = nth ys i → ∀ j, j < i + 1 → nth xs j = nth ys j) := fun e j hj => by
          rcases Nat.lt_or_ge j i with h | h
          · exact HE.out j h
          · have : j = i := by omega
            subst this; exact e
        have HN : Hid (nth xs i ≠ nth ys i → decide (xs = ys) = false) := fun e => decide_eq_false fun h => e (by rw [h])
        clear hx hy hlt'
        generalize nth xs i = n at *
        generalize nth ys i = m at *
        by_cases hk : n.k = m.k
        · by_cases hs : n.s = m.s
          · have hnm : n = m := by cases n; cases m; simp_all
            have HS' := Lib.hid (HS.out hnm)
            subst hnm
            clear hk hs
            go_wp2_with fail
            go_quiet (fail)
            go_wp2_with fail
            go_roundw
            case rel => exact ⟨i + 1, by go_num, by omega, HS', by (repeat (first | assumption | exact Ext.refl _ | apply Ext.alloc | apply Ext.drew | apply Ext.drewN | refine Ext.trans ?_ (by assumption)))⟩
            case measure => simp [intOf]; omega
          · have HX := Lib.hid (HN.out (fun e => hs (by rw [e])))
            have hs' : (n.s == m.s) = false := by simpa using hs
            have hk' : (n.k == m.k) = true := by simpa using hk
            clear hk hs
            go_wp2_with fail
            go_quiet (fail)
            go_wp2_with fail
            go_ret
            exact ⟨ret_bool HX.out.symm, by (repeat (first | assumption | exact Ext.refl _ | apply Ext.alloc | apply Ext.drew | apply Ext.drewN | refine Ext.trans ?_ (by assumption)))⟩
        · have HX := Lib.hid (HN.out (fun e => hk (by rw [e])))
          have hk' : (n.k == m.k) = false := by simpa using hk
          clear hk
          go_wp2_with fail
          go_quiet (fail)
          go_wp2_with fail
          go_ret
          exact ⟨ret_bool HX.out.symm, by (repeat (first | assumption | exact Ext.refl _ | apply Ext.alloc | apply Ext.drew | apply Ext.drewN | refine Ext.trans ?_ (by assumption)))⟩
      · have hi' : i = xs.length := by omega
        have HX : Hid (decide (xs = ys) = true) := decide_eq_true (nth_ext HL.out (fun j hj => HE.out j (by omega)))
        subst hi'
        go_wp2_with fail
        go_ret
        exact ⟨ret_bool HX.out.symm, by (repeat (first | assumption | exact Ext.refl _ | apply Ext.alloc | apply Ext.drew | apply Ext.drewN | refine Ext.trans ?_ (by assumption)))⟩
  · have hl' : ((xs.length : Int) != (ys.length : Int)) = true := by simp; omega
    have HX : Hid (decide (xs = ys) = false) := decide_eq_false fun h => hl (by rw [h])
    clear hl
    go_enter Try.func11, Try.ntmps11
    go_wp2_with fail
    go_ret
    exact ⟨ret_bool HX.out.symm, by (repeat (first | assumption | exact Ext.refl _ | apply Ext.alloc | apply Ext.drew | apply Ext.drewN | refine Ext.trans ?_ (by assumption)))⟩
end Go.Proofs.Ytaijjnndnoicpaa
