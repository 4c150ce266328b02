/- Nodes as a row's arguments. Conditions: none. -/
import Derived.Test.YtkjedeofjkdlaaaRowLib
import Derived.Test.YtkjedeofjkdlaaaTreeB
namespace Go.Proofs.Ytkjedeofjkdlaaa
open Go.RowKit Go.Eg Go.ChangeShapes Go.WideShapes

theorem opens_nd : Opens Try.prog 25 tyNd (fun _ => True) := by
  intro H enc w base spare held fuel cs x hx _
  obtain ⟨xs, n, hn, hxy, hl, hxl, hf⟩ := DataW.trod_struct Try.underlying25 hx
  have hc : Try.prog.cellsOf 25 = 2 := by kernel_rfl
  rw [hc] at hl
  match xs, hxl, cs, hl with
  | [y0, y1], _, [v0, v1], _ =>
    have g0 := hf 0 _ rfl
    have g1 := hf 1 _ rfl
    have c0 : Try.prog.cellsOf 3 = 1 := by kernel_rfl
    have c1 : Try.prog.cellsOf 5 = 1 := by kernel_rfl
    simp [c0, c1] at g0 g1
    obtain ⟨a, e0, _, _⟩ := DataW.trod_int Try.underlying3 g0
    obtain ⟨b, e1, _, hb⟩ := DataW.trod_int Try.underlying5 g1
    cases e0
    cases e1
    refine ⟨⟨a, b⟩, ⟨rfl, ?_⟩, trivial⟩
    simp [Lit.wf, IntKind.min, IntKind.max] at hb
    simp [IntKind.signed, IntKind.bits] at hb
    exact hb
theorem arg_nodes {H : Type} {enc : TypeId × Value → H} {w : World} {r : Reach} {base b0 : Nat} {spare : Nat → Bool} {held : Bool} {v : Value} {d : DataW H} {ps : List MemPlace}
    (hv : Value.okWide Try.prog w r b0 22 v) (hd : DataW.Trod enc Try.prog w base spare held 22 v d ps) (hf : Fits Try.prog 22 d) :
    ∃ xs, Rd tyNd w xs v ∧ xs.length * 16 ≤ 140737488351232 := by
  obtain ⟨xs, hr, hl, _⟩ := arg_slice (t := tyNd) Try.underlying22 (by kernel_rfl) (by decide) opens_nd hv hd hf
  have hb : Try.prog.bytesOf 25 = 16 := by kernel_rfl
  rw [hb] at hl
  exact ⟨xs, hr, hl⟩
end Go.Proofs.Ytkjedeofjkdlaaa
