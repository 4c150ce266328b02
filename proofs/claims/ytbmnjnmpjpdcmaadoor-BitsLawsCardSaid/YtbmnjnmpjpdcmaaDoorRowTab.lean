/- The library's table, out of the condition that the card ties. Conditions: the given one. -/
import Derived.Test.YtbmnjnmpjpdcmaaDoorRows
import Derived.Test.YtbmnjnmpjpdcmaaDoorEachA
import Derived.ProofKit
import Derived.LaidMore
import Derived.OpenShut
import Derived.Stop.Joined
namespace Go.Proofs.YtbmnjnmpjpdcmaaDoor
open Go.ChangeShapes Go.WideShapes Go.ChangeAt Go.RowKit Go.Eg

def tabLaid : List (String × DataW Unit) := [("math/bits.deBruijn64tab", Rows.laid_math_bits_deBruijn64tab)]
theorem gTab : Tryd.prog.globalNamed "math/bits.deBruijn64tab" = some 0 := by kernel_rfl
theorem tTab : (Tryd.prog.globals[0]?).map (·.type) = some 62 := by kernel_rfl
/-- The door's own heap meets the condition. -/
theorem door_met (os : Os) (args : Array Value) : laidMetH Tryd.prog tabLaid ((World.doorLaid Tryd.prog 400 os).forCall (fun _ _ => 0) ⟨#[], args, []⟩).memory :=
  laidMetH_of_parts3 (fuel := 8) (laidMet_of_run' 8 (by kernel_rfl) (by kernel_rfl)) (by kernel_rfl) (by kernel_rfl)
theorem tab_datum : (Rows.laid_math_bits_deBruijn64tab : DataW Unit) = .agg (Lib.deBruijn64tab.map fun n => .lit (.int .u8 (n : Nat))) := rfl
theorem tab_of_laid {W : World} (h : laidMetH Tryd.prog tabLaid W) : Tab W := by
  rw [MakeChecks.laidMetH_plain _ _ _ (by kernel_rfl)] at h
  obtain ⟨ps, ⟨g0, t0, cs0, f0, p0, q0, hg0, ht0, hv0, hd0, _, _⟩, _, _⟩ := h
  obtain rfl := Option.some.inj (gTab.symm.trans hg0)
  obtain rfl := Option.some.inj (tTab.symm.trans ht0)
  obtain ⟨xs, m1, rfl, hx1, hlen, hn3, hel⟩ := DataW.trod_array Tryd.underlying62 hd0
  have c1 : Tryd.prog.cellsOf 5 = 1 := by kernel_rfl
  rw [tab_datum] at hx1
  simp only [Prod.mk.injEq, DataW.agg.injEq] at hx1
  intro j hj
  rw [tab_len] at hj
  have h0 := hel j hj
  have h1 := congrArg (fun l => l[j]?) hx1.1
  simp only [List.getElem?_map] at h1
  rw [List.getElem?_eq_getElem (by rw [tab_len]; exact hj), ← h0, c1] at h1
  cases hy : DataW.trod (fun _ => ()) Tryd.prog W 0 _ false m1 5 (List.take 1 (List.drop (j * 1) cs0.toList)) with
  | none => rw [hy] at h1; cases h1
  | some y =>
    rw [hy] at h1
    obtain ⟨k, e1, e2, _⟩ := DataW.trod_int Tryd.underlying5 hy
    subst e2
    simp only [Option.map_some, Option.some.injEq, DataW.lit.injEq, Lit.int.injEq, true_and] at h1
    have hc := World.var?_cell hg0 hv0 j
    have e3 := congrArg (fun l => l[0]?) e1
    rw [Nat.mul_one] at e3
    simp only [List.getElem?_take, List.getElem?_drop, Nat.add_zero] at e3
    have hj2 : j < Lib.deBruijn64tab.length := by rw [tab_len]; exact hj
    rw [List.getD_eq_getElem?_getD, List.getElem?_eq_getElem hj2, Option.getD_some, h1]
    have hc' : W.cell? ⟨0, j, none⟩ = cs0[j]? := by simpa using hc
    rw [hc']
    simpa using e3
end Go.Proofs.YtbmnjnmpjpdcmaaDoor
