/- Nodes as a row's arguments. Conditions: none. -/
import Derived.Test.YtaijjnndnoicpaaRowLib
import Derived.Test.YtaijjnndnoicpaaTreeB
namespace Go.Proofs.Ytaijjnndnoicpaa
open Go.RowKit Go.Eg Go.ChangeShapes Go.WideShapes

theorem opens_nd : Opens Try.prog 54 tyNd (fun _ => True) := by
  intro H enc w base spare held fuel cs x hx _
  obtain ⟨xs, n, hn, hxy, hl, hxl, hf⟩ := DataW.trod_struct Try.underlying54 hx
  have hc : Try.prog.cellsOf 54 = 2 := by kernel_rfl
  rw [hc] at hl
  match xs, hxl, cs, hl with
  | [y0, y1], _, [v0, v1], _ =>
    have g0 := hf 0 _ rfl
    have g1 := hf 1 _ rfl
    have c0 : Try.prog.cellsOf 3 = 1 := by kernel_rfl
    have c1 : Try.prog.cellsOf 5 = 1 := by kernel_rfl
    simp [c0, c1] at g0 g1
    obtain ⟨a, e0, _, _⟩ := DataW.trod_int Try.underlying3 g0
    obtain ⟨b, e1, _, hb⟩ := DataW.trod_int Try.underlying5 g1
    cases e0
    cases e1
    refine ⟨⟨a, b⟩, ⟨rfl, ?_⟩, trivial⟩
    simp [Lit.wf, IntKind.min, IntKind.max] at hb
    simp [IntKind.signed, IntKind.bits] at hb
    exact hb
theorem arg_nodes {H : Type} {enc : TypeId × Value → H} {w : World} {r : Reach} {base b0 : Nat} {spare : Nat → Bool} {held : Bool} {v : Value} {d : DataW H} {ps : List MemPlace}
    (hv : Value.okWide Try.prog w r b0 22 v) (hd : DataW.Trod enc Try.prog w base spare held 22 v d ps) (hf : Fits Try.prog 22 d) :
    ∃ xs, Rd tyNd w xs v ∧ xs.length * 16 ≤ 140737488351232 := by
  obtain ⟨xs, hr, hl, _⟩ := arg_slice (t := tyNd) Try.underlying22 (by kernel_rfl) (by decide) opens_nd hv hd hf
  have hb : Try.prog.bytesOf 54 = 16 := by kernel_rfl
  rw [hb] at hl
  exact ⟨xs, hr, hl⟩
theorem arg_trees {H : Type} {enc : TypeId × Value → H} {w : World} {r : Reach} {base b0 : Nat} {spare : Nat → Bool} {held : Bool} {v : Value} {d : DataW H} {ps : List MemPlace}
    (hv : Value.okWide Try.prog w r b0 55 v) (hd : DataW.Trod enc Try.prog w base spare held 55 v d ps) (hf : Fits Try.prog 55 d) :
    ∃ xs, Rd (Ty.slice tyNd) w xs v ∧ xs.length * 24 ≤ 140737488351232 ∧ ∀ x ∈ xs, x.length * 16 ≤ 140737488351232 := by
  obtain ⟨xs, hr, hl, hx⟩ := arg_slice (t := Ty.slice tyNd) Try.underlying55 (by kernel_rfl) (by decide) (Opens.slice Try.underlying22 (by kernel_rfl) (by decide) opens_nd) hv hd hf
  have hb : Try.prog.bytesOf 54 = 16 := by kernel_rfl
  have hb' : Try.prog.bytesOf 22 = 24 := by kernel_rfl
  rw [hb'] at hl
  refine ⟨xs, hr, hl, fun x hm => ?_⟩
  have := (hx x hm).1
  rw [hb] at this
  exact this
theorem arg_node {H : Type} {enc : TypeId × Value → H} {w : World} {r : Reach} {base b0 : Nat} {spare : Nat → Bool} {held : Bool} {v : Value} {d : DataW H} {ps : List MemPlace}
    (hv : Value.okWide Try.prog w r b0 54 v) (hd : DataW.Trod enc Try.prog w base spare held 54 v d ps) (hf : Fits Try.prog 54 d) :
    ∃ n : Nd, v = .agg #[.int .i64 n.k, .int .u8 n.s] ∧ 0 ≤ n.s ∧ n.s ≤ 255 := by
  obtain ⟨cs, rfl, -⟩ := okWide_struct Try.underlying54 hv
  obtain ⟨fuel, hx⟩ := hd
  obtain ⟨n, ⟨e, hs⟩, -⟩ := opens_nd enc w base spare held fuel _ _ hx hf
  refine ⟨n, ?_, hs⟩
  have e' : cs.toList = [.int .i64 n.k, .int .u8 n.s] := e
  obtain ⟨l⟩ := cs
  cases e'
  rfl
theorem arg_int {H : Type} {enc : TypeId × Value → H} {w : World} {r : Reach} {base b0 : Nat} {spare : Nat → Bool} {held : Bool} {v : Value} {d : DataW H} {ps : List MemPlace}
    (hv : Value.okWide Try.prog w r b0 3 v) (hd : DataW.Trod enc Try.prog w base spare held 3 v d ps) (_ : Fits Try.prog 3 d) : ∃ x, v = .int .i64 x ∧ IntIn .i64 x := by
  obtain ⟨a, rfl, rfl, rfl, hw⟩ := open_int Try.underlying3 hv hd
  exact ⟨a, rfl, hw⟩
theorem arg_str {H : Type} {enc : TypeId × Value → H} {w : World} {r : Reach} {base b0 : Nat} {spare : Nat → Bool} {held : Bool} {v : Value} {d : DataW H} {ps : List MemPlace}
    (hv : Value.okWide Try.prog w r b0 9 v) (hd : DataW.Trod enc Try.prog w base spare held 9 v d ps) (hf : Fits Try.prog 9 d) : ∃ x : ByteArray, v = .string x ∧ x.size ≤ 140737488351232 := by
  obtain ⟨s, rfl⟩ := okWide_string Try.underlying9 hv
  obtain ⟨fuel, hx⟩ := hd
  obtain ⟨x, e, hs⟩ := Opens.str Try.underlying9 enc w base spare held fuel _ _ hx hf
  cases e
  exact ⟨s, rfl, hs⟩
end Go.Proofs.Ytaijjnndnoicpaa
