/- Fields' places as a row's arguments. Conditions: none. -/
import Derived.Test.YtbmnjnmpjpdcmaaRowSet
namespace Go.Proofs.Ytbmnjnmpjpdcmaa
open Go.RowKit Go.Eg Go.ChangeShapes Go.WideShapes
theorem arg_place {H : Type} {enc : TypeId × Value → H} {w : World} {r : Reach} {base b0 : Nat} {spare : Nat → Bool} {held : Bool} {v : Value} {d : DataW H} {ps : List MemPlace}
    (hv : Value.okWide Try.prog w r b0 26 v) (hd : DataW.Trod enc Try.prog w base spare held 26 v d ps) (_ : Fits Try.prog 26 d) :
    ∃ q : Int × Int, v = .agg #[.int .i64 q.1, .int .i64 q.2] ∧ IntIn .i64 q.1 ∧ IntIn .i64 q.2 := by
  obtain ⟨cs, rfl, -⟩ := okWide_struct Try.underlying26 hv
  obtain ⟨fuel, hx⟩ := hd
  obtain ⟨xs, n, hn, hxy, hl, hxl, hf⟩ := DataW.trod_struct Try.underlying26 hx
  have hc : Try.prog.cellsOf 26 = 2 := by kernel_rfl
  rw [hc] at hl
  obtain ⟨cl⟩ := cs
  change cl.length = 2 at hl
  match xs, hxl, cl, hl with
  | [y0, y1], _, [v0, v1], _ =>
    have g0 := hf 0 _ rfl
    have g1 := hf 1 _ rfl
    have c0 : Try.prog.cellsOf 3 = 1 := by kernel_rfl
    simp [c0] at g0 g1
    obtain ⟨a, e0, _, ha⟩ := DataW.trod_int Try.underlying3 g0
    obtain ⟨b, e1, _, hb⟩ := DataW.trod_int Try.underlying3 g1
    cases e0
    cases e1
    exact ⟨⟨a, b⟩, rfl, ha, hb⟩
end Go.Proofs.Ytbmnjnmpjpdcmaa
