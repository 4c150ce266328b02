/- Walk of package tree: Reverse. Conditions: what a slice reads as. -/
import Derived.Test.YtaijjnndnoicpaaTreeB
import Derived.Deep.RegionLaw
namespace Go.Proofs.Ytaijjnndnoicpaa
open Go.RowKit Go.Eg

theorem elNds : Elem Try.prog 55 22 1 24 := Elem.mk (z := .slice none 0 0) Try.underlying55 (by kernel_rfl) rfl (by decide)
/-- What Reverse comes to. -/
def ReversePost (t : List Nd) (w : World) (e : Ending) (w' : World) : Prop :=
  ∃ v', e = .returned (.tuple #[v', .int .i64 (errW t)]) ∧ Own tyNd 54 w.heap.size No w' (revF t) v' ∧ Ext w w'

end Go.Proofs.Ytaijjnndnoicpaa
