/- Walks of package tree: copied, begin, Parts. Conditions: what a slice reads as; a length that memory bears. -/
import Derived.Test.YtaijjnndnoicpaaTreeA
namespace Go.Proofs.Ytaijjnndnoicpaa
open Go.RowKit Go.Eg

theorem elNd : Elem Try.prog 22 54 2 16 := Elem.mk (z := .agg #[.int .i64 0, .int .u8 0]) Try.underlying22 (by kernel_rfl) rfl (by decide)

end Go.Proofs.Ytaijjnndnoicpaa
